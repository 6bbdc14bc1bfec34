/-
  The program's detector: New within the limits.
-/
import Derived.Test.YtfjpmoigpnmeoaaDNew
namespace Go.Proofs.Ytfjpmoigpnmeoaa
open Go.RowKit
variable {w : World} {c : Cfg} {D O : Nat}
def lstK (c : Cfg) (Q : Nat → Nat) (k q : Nat) : Value := if q < k then lstV c Q q else .pointer none
/-- The detector as New makes it, k nodes made. -/
structure NewAt (w : World) (B : Nat) (c : Cfg) (D O k : Nat) (Q C : Nat → Nat) : Prop where
  blk : Blk w D 97 (detC c 0 false O)
  list : Blk w O 86 (rg c.n (lstK c Q k))
  oth : ∀ q, q < k → q ≠ c.self → Blk w (Q q) 94 (othC (Pr.new c) (C q))
  cap : ∀ q, q < k → q ≠ c.self → Blk w (C q) 111 (capC c (Pr.new c))
  qj : ∀ q r, q < k → r < k → q ≠ c.self → r ≠ c.self → Q q = Q r → q = r
  cj : ∀ q r, q < k → r < k → q ≠ c.self → r ≠ c.self → C q = C r → q = r
  bd : B ≤ D
  bo : B ≤ O
  bq : ∀ q, q < k → q ≠ c.self → B ≤ Q q ∧ B ≤ C q
theorem NewAt.done {B : Nat} {Q C : Nat → Nat} (h : NewAt w B c D O c.n Q C) : PDx w (fun k => B ≤ k ∧ k < w.heap.size) c D (DSt.new c) := by
  refine ⟨fun k hk => hk.2, O, Q, C, h.blk, ?_, fun q hq hs => h.oth q hq hs, fun q hq hs => h.cap q hq hs, h.qj, h.cj, ⟨h.bd, h.blk.lt⟩, ⟨h.bo, h.list.lt⟩, fun q hq hs => ⟨⟨(h.bq q hq hs).1, (h.oth q hq hs).lt⟩, ⟨(h.bq q hq hs).2, (h.cap q hq hs).lt⟩⟩⟩
  have : rg c.n (lstV c Q) = rg c.n (lstK c Q c.n) := rg_congr fun k hk => by simp [lstK, hk]
  rw [this]; exact h.list
theorem NewAt.skip {B k : Nat} {Q C : Nat → Nat} (h : NewAt w B c D O k Q C) (hs : k = c.self) : NewAt w B c D O (k + 1) Q C := by
  have hk : ∀ q, q < k + 1 → q ≠ c.self → q < k := fun q hq hn => by omega
  refine ⟨h.blk, ?_, fun q hq hn => h.oth q (hk q hq hn) hn, fun q hq hn => h.cap q (hk q hq hn) hn, fun q r hq hr h1 h2 => h.qj q r (hk q hq h1) (hk r hr h2) h1 h2, fun q r hq hr h1 h2 => h.cj q r (hk q hq h1) (hk r hr h2) h1 h2, h.bd, h.bo, fun q hq hn => h.bq q (hk q hq hn) hn⟩
  have : rg c.n (lstK c Q (k + 1)) = rg c.n (lstK c Q k) := rg_congr fun q _ => by
    by_cases e : q = k
    · have h1 : q < k + 1 := by omega
      have h2 : ¬ q < k := by omega
      have h3 : q = c.self := by omega
      simp only [lstK, lstV, if_pos h1, if_neg h2, if_pos h3]
    · by_cases hq : q < k
      · have h1 : q < k + 1 := by omega
        simp only [lstK, if_pos h1, if_pos hq]
      · have h1 : ¬ q < k + 1 := by omega
        simp only [lstK, if_neg h1, if_neg hq]
  rw [this]; exact h.list
theorem NewAt.over {B k : Nat} {Q C : Nat → Nat} {w' : World} (h : NewAt w B c D O k Q C) (hb : Below w.heap.size w w') : NewAt w' B c D O k Q C :=
  ⟨h.blk.over hb, h.list.over hb, fun q hq hn => (h.oth q hq hn).over hb, fun q hq hn => (h.cap q hq hn).over hb, h.qj, h.cj, h.bd, h.bo, h.bq⟩
theorem NewAt.one {B k q0 c0 : Nat} {Q C : Nat → Nat} {w0 : World} (h : NewAt w B c D O k Q C) (hs : k ≠ c.self) (hk : k < c.n) (hq : Blk w q0 94 (othC (Pr.new c) c0)) (hc : Blk w c0 111 (capC c (Pr.new c)))
    (h0 : NewAt w0 B c D O k Q C) (hq0 : w0.heap.size ≤ q0) (hc0 : w0.heap.size ≤ c0) (hB : B ≤ w0.heap.size) :
    NewAt (w.setCell ⟨O, k, none⟩ (.pointer (some ⟨q0, 0, none⟩))) B c D O (k + 1) (fun j => if j = k then q0 else Q j) (fun j => if j = k then c0 else C j) := by
  have hlt : ∀ q, q < k + 1 → q ≠ k → q < k := fun q hq hn => by omega
  have hQ : ∀ q, q < k → q ≠ c.self → Q q ≠ q0 := fun q hq hn e => by have := (h0.oth q hq hn).lt; omega
  have hC : ∀ q, q < k → q ≠ c.self → C q ≠ c0 := fun q hq hn e => by have := (h0.cap q hq hn).lt; omega
  refine ⟨h.blk.far (h.blk.ne_ h.list (by decide)) _, ?_, fun q hq' hn => ?_, fun q hq' hn => ?_, fun q r h1 h2 h3 h4 => ?_, fun q r h1 h2 h3 h4 => ?_, h.bd, h.bo, fun q hq' hn => ?_⟩
  · have := h.list.set_ k (.pointer (some ⟨q0, 0, none⟩))
    rw [rg_set] at this
    have e : (rg c.n fun j => if j = k then Value.pointer (some ⟨q0, 0, none⟩) else lstK c Q k j) = rg c.n (lstK c (fun j => if j = k then q0 else Q j) (k + 1)) := rg_congr fun q _ => by
      by_cases e : q = k
      · have h1 : q < k + 1 := by omega
        have h3 : ¬ q = c.self := by omega
        simp only [lstK, lstV, if_pos h1, if_neg h3, if_pos e]
      · by_cases hq : q < k
        · have h1 : q < k + 1 := by omega
          simp only [lstK, lstV, if_pos h1, if_pos hq, if_neg e]
        · have h1 : ¬ q < k + 1 := by omega
          simp only [lstK, if_neg h1, if_neg hq, if_neg e]
    rw [← e]; exact this
  · by_cases e : q = k
    · subst e
      rw [if_pos rfl, if_pos rfl]
      exact hq.far (hq.ne_ h.list (by decide)) _
    · rw [if_neg e, if_neg e]
      exact (h.oth q (hlt q hq' e) hn).far ((h.oth q (hlt q hq' e) hn).ne_ h.list (by decide)) _
  · by_cases e : q = k
    · subst e
      rw [if_pos rfl]
      exact hc.far (hc.ne_ h.list (by decide)) _
    · rw [if_neg e]
      exact (h.cap q (hlt q hq' e) hn).far ((h.cap q (hlt q hq' e) hn).ne_ h.list (by decide)) _
  · intro e
    by_cases e1 : q = k
    · by_cases e2 : r = k
      · omega
      · rw [if_pos e1, if_neg e2] at e
        exact absurd e.symm (hQ r (hlt r h2 e2) h4)
    · by_cases e2 : r = k
      · rw [if_neg e1, if_pos e2] at e
        exact absurd e (hQ q (hlt q h1 e1) h3)
      · rw [if_neg e1, if_neg e2] at e
        exact h.qj q r (hlt q h1 e1) (hlt r h2 e2) h3 h4 e
  · intro e
    by_cases e1 : q = k
    · by_cases e2 : r = k
      · omega
      · rw [if_pos e1, if_neg e2] at e
        exact absurd e.symm (hC r (hlt r h2 e2) h4)
    · by_cases e2 : r = k
      · rw [if_neg e1, if_pos e2] at e
        exact absurd e (hC q (hlt q h1 e1) h3)
      · rw [if_neg e1, if_neg e2] at e
        exact h.cj q r (hlt q h1 e1) (hlt r h2 e2) h3 h4 e
  · by_cases e : q = k
    · rw [if_pos e, if_pos e]; omega
    · rw [if_neg e, if_neg e]; exact h.bq q (hlt q hq' e) hn
def NewsP (w : World) (c : Cfg) (e : Ending) (w' : World) : Prop := ∃ D, e = .returned (.tuple #[.pointer (some ⟨D, 0, none⟩), .int .i64 0]) ∧ PDx w' (fun k => w.heap.size ≤ k ∧ k < w'.heap.size) c D (DSt.new c) ∧ Below w.heap.size w w'
theorem info_ptr : (Try.prog.info? 86).map (fun i => (i.zero, i.size, i.bytes)) = some (some (.pointer none), 1, 8) := by kernel_rfl
theorem make_ptrs (n : Nat) (hn : n ≤ 16) (W : World) : Sem.run Try.prog (Instr.makeSlice 95 (.int .i64 (n : Int)) (.int .i64 (n : Int))) W = .ok (.slice (some ⟨W.heap.size, 0, none⟩) n n) (W.alloc (.cells (rg n fun _ => .pointer none) 86)) := by
  obtain ⟨i0, hi0, hz0, hz1, hz2⟩ := info_parts info_ptr
  have hmk := run_make_rowN (P := Try.prog) 95 86 i0 (.pointer none) Try.underlying95 hi0 hz0 .i64 .i64 n n (by omega) (by rw [hz2]; omega) (by omega) W
  rw [hz1] at hmk
  simp only [Nat.mul_one] at hmk
  rw [← made_eq]
  exact hmk
set_option maxRecDepth 100000 in
set_option maxHeartbeats 3200000 in
theorem PNew_yes (c : Cfg) (hc : c.Ok) (w : World) :
    Calls Try.prog 42 #[.int .i64 (c.n : Int), .int .i64 (c.self : Int), .int .i64 c.inc, .int .i64 c.base, .int .i64 c.step, .int .i64 c.lim] w (NewsP w c) := by
  obtain ⟨h1, h2, h3, h4, h5, h6, h7, h8, h9, h10, h11⟩ := hc
  have a1 : (1 : Int) ≤ (c.n : Int) := by omega
  have a2 : (c.n : Int) ≤ 16 := by omega
  have a3 : (0 : Int) ≤ (c.self : Int) := by omega
  have a4 : (c.self : Int) ≤ (c.n : Int) - 1 := by omega
  have hmk := make_ptrs c.n h2
  go_enter Try.func42, Try.ntmps42
  go_wp2_with (go_at_call 61; refine (within_yes _ _ _ _ (by omega) (by omega)).mono ?_; rintro _ _ ⟨rfl, rfl⟩)
  have hb1 := one_box' w (.cells (rg c.n fun _ => .pointer none) 86)
  have hB1 := Blk.new w 86 (rg c.n fun _ => .pointer none)
  have hz1 : (w.alloc (.cells (rg c.n fun _ => .pointer none) 86)).heap.size = w.heap.size + 1 := by simp
  obtain ⟨w1, hw1⟩ : ∃ w1, w1 = w.alloc (.cells (rg c.n fun _ => .pointer none) 86) := ⟨_, rfl⟩
  rw [← hw1] at hb1 hB1 hz1 ⊢
  have hb2 := one_box' w1 (.cells (detC c 0 false w.heap.size) 97)
  have hB2 := Blk.new w1 97 (detC c 0 false w.heap.size)
  have hB1' := hB1.over hb2
  rw [hz1] at hB2
  obtain ⟨w2, hw2⟩ : ∃ w2, w2 = w1.alloc (.cells (detC c 0 false w.heap.size) 97) := ⟨_, rfl⟩
  have hw2' : w2 = w1.alloc (.cells #[.int .i64 (c.self : Int), .int .i64 c.inc, .int .i64 0, .bool false, .slice (some ⟨w.heap.size, 0, none⟩) c.n c.n] 97) := hw2
  rw [← hw2] at hb2 hB2 hB1'
  rw [← hw2']
  have HN : Hid (NewAt w2 w.heap.size c (w.heap.size + 1) w.heap.size 0 (fun _ => 0) (fun _ => 0)) := Lib.hid ⟨hB2, by
    have : rg c.n (lstK c (fun _ => 0) 0) = rg c.n fun _ => .pointer none := rg_congr fun q _ => by simp [lstK]
    rw [this]; exact hB1', fun q h => by omega, fun q h => by omega, fun q r h => by omega, fun q r h => by omega, by omega, by omega, fun q h => by omega⟩
  have hbw : Below w.heap.size w w2 := hb1.trans (hb2.mono (by omega))
  clear hw1 hw2 hw2' hb1 hB1 hz1 hb2 hB2 hB1' hmk
  rw [show w.heap.size + 1 = w.heap.size + 1 from rfl]
  obtain ⟨D, hD⟩ : ∃ D, D = w.heap.size + 1 := ⟨_, rfl⟩
  rw [← hD] at HN ⊢
  clear hD
  go_loopw [16, 63] (fun _ i wr => ∃ (k : Nat) (Q C : Nat → Nat), k ≤ c.n ∧ i = .int .i64 (k : Int) ∧ Hid (NewAt wr w.heap.size c D w.heap.size k Q C) ∧ Below w.heap.size w wr) (fun _ i _ => c.n - (intOf i).toNat)
  case atStart => exact ⟨0, _, _, by omega, rfl, HN, hbw⟩
  case round =>
    clear HN hbw
    obtain ⟨k, Q, C, hk, rfl, HN, hb⟩ := hrel
    have hsz := hb.size
    by_cases hlt : k < c.n
    · have hI : (k : Int) < (c.n : Int) := by omega
      by_cases hs : k = c.self
      · have HX := Lib.hid (HN.out.skip hs)
        have e1 : ((k : Int) != (c.self : Int)) = false := by simp; omega
        clear hs
        go_wp2
        go_roundw
        case rel => exact ⟨k + 1, _, _, by omega, by go_num, HX, hb⟩
        case measure => simp [intOf] <;> omega
      · have e1 : ((k : Int) != (c.self : Int)) = true := by simp; omega
        have c4 : wr.cell? ⟨D, 4, none⟩ = some (.slice (some ⟨w.heap.size, 0, none⟩) c.n c.n) := HN.out.blk.cell 4
        have hA := Blk.new wr 111 (capC c (Pr.new c))
        have hb1 := one_box' wr (.cells (capC c (Pr.new c)) 111)
        have hz1 : (wr.alloc (.cells (capC c (Pr.new c)) 111)).heap.size = wr.heap.size + 1 := by simp
        have hB := Blk.new (wr.alloc (.cells (capC c (Pr.new c)) 111)) 94 (othC (Pr.new c) wr.heap.size)
        have hb2 := one_box' (wr.alloc (.cells (capC c (Pr.new c)) 111)) (.cells (othC (Pr.new c) wr.heap.size) 94)
        have hA2 := hA.over hb2
        rw [hz1] at hB
        have hb12 := hb1.trans (hb2.mono (by omega))
        have hN2 := HN.out.over hb12
        have l0 : ((wr.alloc (.cells #[.int .i64 c.base, .int .i64 c.step, .int .i64 c.lim] 111)).alloc (.cells #[.int .i64 0, .bool false, .bool false, .int .i64 0, .int .i64 0, .iface 109 (.pointer (some ⟨wr.heap.size, 0, none⟩)), .int .i64 0] 94)).cell? ⟨w.heap.size, k, none⟩ = some (lstK c Q k k) := by
          have := hN2.list.cell k
          rw [rg_at _ hlt] at this
          exact this
        have lf : ((wr.alloc (.cells #[.int .i64 c.base, .int .i64 c.step, .int .i64 c.lim] 111)).alloc (.cells #[.int .i64 0, .bool false, .bool false, .int .i64 0, .int .i64 0, .iface 109 (.pointer (some ⟨wr.heap.size, 0, none⟩)), .int .i64 0] 94)).frozen? ⟨w.heap.size, k, none⟩ = false := hN2.list.frozen k
        have HX : Hid (NewAt (((wr.alloc (.cells #[.int .i64 c.base, .int .i64 c.step, .int .i64 c.lim] 111)).alloc (.cells #[.int .i64 0, .bool false, .bool false, .int .i64 0, .int .i64 0, .iface 109 (.pointer (some ⟨wr.heap.size, 0, none⟩)), .int .i64 0] 94)).setCell ⟨w.heap.size, k, none⟩ (.pointer (some ⟨wr.heap.size + 1, 0, none⟩))) w.heap.size c D w.heap.size (k + 1) (fun j => if j = k then wr.heap.size + 1 else Q j) (fun j => if j = k then wr.heap.size else C j)) :=
          hN2.one hs hlt hB hA2 HN.out (by omega) (Nat.le_refl _) hsz
        have HB : Hid (Below w.heap.size w (((wr.alloc (.cells #[.int .i64 c.base, .int .i64 c.step, .int .i64 c.lim] 111)).alloc (.cells #[.int .i64 0, .bool false, .bool false, .int .i64 0, .int .i64 0, .iface 109 (.pointer (some ⟨wr.heap.size, 0, none⟩)), .int .i64 0] 94)).setCell ⟨w.heap.size, k, none⟩ (.pointer (some ⟨wr.heap.size + 1, 0, none⟩)))) := (hb.trans (hb12.mono hsz)).setCell (by simp) _
        clear hA hb1 hz1 hB hb2 hA2 hb12 hN2
        go_wp2
        go_roundw
        case rel => exact ⟨k + 1, _, _, by omega, by go_num, HX, HB.out⟩
        case measure => simp [intOf] <;> omega
    · obtain rfl : k = c.n := by omega
      have HX := Lib.hid HN.out.done
      go_wp2
      go_ret2
      exact ⟨D, rfl, HX.out, hb⟩
end Go.Proofs.Ytfjpmoigpnmeoaa
