/-
  The program's detector: the lists that it makes.
-/
import Derived.Test.YtfjpmoigpnmeoaaDProg
namespace Go.Proofs.Ytfjpmoigpnmeoaa
open Go.RowKit
variable {w : World} {F : Nat → Prop} {c : Cfg} {D O : Nat} {d : DSt} {Q C : Nat → Nat}

/-- The list as it stands when k nodes have been looked at. -/
def lstAt (c : Cfg) (d : DSt) (own : Int) (tl : Pr → Bool) (k j : Nat) : Int := if j = c.self then own else if j < k ∧ (d.pr j).heard = true ∧ tl (d.pr j) = true then (d.pr j).known else 0
def lstB (c : Cfg) (d : DSt) (own : Int) (tl : Pr → Bool) (k : Nat) : Array Value := rg c.n fun j => .int .i64 (lstAt c d own tl k j)
theorem lstB_zero (own : Int) (tl : Pr → Bool) : (Array.replicate c.n (Value.int .i64 0)).setIfInBounds c.self (.int .i64 own) = lstB c d own tl 0 := by
  rw [rg_replicate, rg_set]
  refine rg_congr fun j _ => ?_
  unfold lstAt
  by_cases h : j = c.self <;> simp [h]
theorem lstB_yes {own : Int} {tl : Pr → Bool} {k : Nat} (hs : k ≠ c.self) (h1 : (d.pr k).heard = true) (h2 : tl (d.pr k) = true) : (lstB c d own tl k).setIfInBounds k (.int .i64 (d.pr k).known) = lstB c d own tl (k + 1) := by
  unfold lstB
  rw [rg_set]
  refine rg_congr fun j _ => ?_
  unfold lstAt
  by_cases e : j = k
  · subst e
    rw [if_pos rfl, if_neg hs, if_pos ⟨by omega, h1, h2⟩]
  · rw [if_neg e]
    by_cases h : j = c.self
    · rw [if_pos h, if_pos h]
    · rw [if_neg h, if_neg h]
      by_cases hj : j < k
      · have : j < k + 1 := by omega
        simp [hj, this]
      · have : ¬ j < k + 1 := by omega
        simp [hj, this]
theorem lstB_no {own : Int} {tl : Pr → Bool} {k : Nat} (hn : k = c.self ∨ (d.pr k).heard = false ∨ tl (d.pr k) = false) : lstB c d own tl k = lstB c d own tl (k + 1) := by
  unfold lstB
  refine rg_congr fun j _ => ?_
  unfold lstAt
  by_cases h : j = c.self
  · rw [if_pos h, if_pos h]
  · rw [if_neg h, if_neg h]
    by_cases e : j = k
    · subst e
      rw [if_neg (by omega), if_neg]
      rintro ⟨_, h1, h2⟩
      rcases hn with h3 | h3 | h3
      · exact h h3
      · rw [h3] at h1; cases h1
      · rw [h3] at h2; cases h2
    · by_cases hj : j < k
      · have : j < k + 1 := by omega
        simp [hj, this]
      · have : ¬ j < k + 1 := by omega
        simp [hj, this]
/-- A block of ints of the call's own is an owned row. -/
theorem own_rg {w : World} {B L n : Nat} {l : List Int} (hB : Blk w L 3 (rg n fun j => .int .i64 (l.getD j 0))) (hl : l.length = n) (hb : B ≤ L) (hm : n ≤ maxLen) : w.ownsRow B 3 1 (.slice (some ⟨L, 0, none⟩) n n) n (ivs l) := by
  refine ⟨by rw [ivs_length, hl]; omega, .inr ⟨L, n, _, rfl, hb, hB, by omega, hm, by rw [rg_size]; omega, ?_⟩⟩
  rw [Nat.mul_one]
  apply List.ext_getElem?
  intro i
  by_cases hi : i < n
  · rw [List.getElem?_take, if_pos hi, Array.getElem?_toList, rg_at _ hi, ivs_at (List.getElem?_eq_getElem (by omega))]
    simp [List.getD, List.getElem?_eq_getElem (show i < l.length by omega)]
  · rw [List.getElem?_take, if_neg hi, List.getElem?_eq_none (by rw [ivs_length]; omega)]
theorem lst_own {w : World} {B L : Nat} {own : Int} {tl : Pr → Bool} (hB : Blk w L 3 (lstB c d own tl c.n)) (hb : B ≤ L) (hm : c.n ≤ 16) : w.ownsRow B 3 1 (.slice (some ⟨L, 0, none⟩) c.n c.n) c.n (ivs ((List.range c.n).map fun j => lstAt c d own tl c.n j)) := by
  refine own_rg ?_ (by simp) hb (by simp only [maxLen]; omega)
  have : lstB c d own tl c.n = rg c.n fun j => .int .i64 (((List.range c.n).map fun j => lstAt c d own tl c.n j).getD j 0) := by
    refine rg_congr fun j hj => ?_
    simp [List.getD, hj]
  rw [← this]; exact hB
theorem lst_hears (own : Int) (ho : own = if d.left = true then 0 else c.inc) : ((List.range c.n).map fun j => lstAt c d own (fun _ => true) c.n j) = hearsL c d := by
  unfold hearsL
  refine List.map_congr_left fun j hj => ?_
  have hj := List.mem_range.1 hj
  unfold lstAt hearsAt
  subst ho
  by_cases h : j = c.self
  · rw [if_pos h, if_pos h]
  · rw [if_neg h, if_neg h]
    simp [hj]
theorem lst_est : ((List.range c.n).map fun j => lstAt c d c.inc (fun p => p.mutl) c.n j) = estL c d := by
  unfold estL
  refine List.map_congr_left fun j hj => ?_
  have hj := List.mem_range.1 hj
  unfold lstAt estAt
  by_cases h : j = c.self
  · rw [if_pos h, if_pos h]
  · rw [if_neg h, if_neg h]
    simp [hj]

theorem made_eq (n : Nat) (z : Value) : madeCells #[z] n = rg n fun _ => z := by
  rw [← rg_replicate]
  apply Array.toList_inj.1
  rw [toList_madeCells_one, Array.toList_replicate]
theorem make_ints (n : Nat) (hn : n ≤ 17592186044416) (W : World) : Sem.run Try.prog (Instr.makeSlice 22 (.int .i64 (n : Int)) (.int .i64 (n : Int))) W = .ok (.slice (some ⟨W.heap.size, 0, none⟩) n n) (W.alloc (.cells (rg n fun _ => .int .i64 0) 3)) := by
  obtain ⟨i0, hi0, hz0, hz1, hz2⟩ := info_parts info_int
  have hmk := run_make_rowN (P := Try.prog) 22 3 i0 (.int .i64 0) u_ints hi0 hz0 .i64 .i64 n n (by omega) (by rw [hz2]; omega) (by omega) W
  rw [hz1] at hmk
  simp only [Nat.mul_one] at hmk
  rw [← made_eq]
  exact hmk
/-- What a call that makes a list answers. -/
def GivesL (w : World) (l : List Int) (e : Ending) (w' : World) : Prop := ∃ A cap, e = .returned (.slice A l.length cap) ∧ w'.ownsRow w.heap.size 3 1 (.slice A l.length cap) l.length (ivs l) ∧ Below w.heap.size w w'
set_option maxRecDepth 100000 in
set_option maxHeartbeats 1600000 in
theorem list_any (h : PD w F c D d O Q C) (hF : ∀ k, F k → k < w.heap.size) (hn : c.n ≤ 16) (hsf : c.self < c.n) (own : Int) (tl : Pr → Bool) (K : Nat) (hcf : ∀ args W, Sem.run Try.prog (callFunc K args) W = .ok (.enter K args) W)
    (ht : Hid (∀ (W : World) (q : Nat), PD W F c D d O Q C → q < c.n → q ≠ c.self → Calls Try.prog K #[.pointer (some ⟨Q q, 0, none⟩)] W fun e w' => e = .returned (.bool (tl (d.pr q))) ∧ W = w')) :
    Calls Try.prog 45 #[.pointer (some ⟨D, 0, none⟩), .int .i64 own, .func (.func K) #[] #[]] w (GivesL w ((List.range c.n).map fun j => lstAt c d own tl c.n j)) := by
  obtain ⟨c0, c1, c2, c3, c4⟩ := h.cell
  have hsI : (c.self : Int) < (c.n : Int) := by omega
  have hmk := make_ints c.n (by omega) w
  have hH := Lib.hid h
  have HF := Lib.hid hF
  clear hF h
  go_enter Try.func45, Try.ntmps45
  go_upto_region 2 with fail
  have hal := one_box' w (.cells (rg c.n fun _ => .int .i64 0) 3)
  have hB0 := Blk.new w 3 (rg c.n fun _ => .int .i64 0)
  have hP0 := hH.out.below HF.out hal
  obtain ⟨w1, hw1⟩ : ∃ w1, w1 = w.alloc (.cells (rg c.n fun _ => .int .i64 0) 3) := ⟨_, rfl⟩
  rw [← hw1] at hal hB0 hP0 ⊢
  have hFL : Hid (∀ k, F k → k ≠ w.heap.size) := Lib.hid fun k hk e => by have := HF.out k hk; omega
  clear hw1 c0 c1 c2 c3 c4 hmk
  obtain ⟨c0, c1, c2, c3, c4⟩ := hP0.cell
  have l0 : w1.cell? ⟨w.heap.size, c.self, none⟩ = some (.int .i64 0) := by rw [hB0.cell, rg_at _ hsf]
  have lf : w1.frozen? ⟨w.heap.size, c.self, none⟩ = false := hB0.frozen _
  have hB1 := hB0.set_ c.self (.int .i64 own)
  rw [show (rg c.n fun _ => Value.int .i64 0).setIfInBounds c.self (.int .i64 own) = lstB c d own tl 0 by rw [← rg_replicate]; exact lstB_zero own tl] at hB1
  have hb1 : Below w.heap.size w (w1.setCell ⟨w.heap.size, c.self, none⟩ (.int .i64 own)) := hal.setCell (by simp) _
  have HB1 := Lib.hid hB1
  have HP1 : Hid (PD (w1.setCell ⟨w.heap.size, c.self, none⟩ (.int .i64 own)) F c D d O Q C) := hH.out.below HF.out hb1
  clear hB0 hP0 hB1 hal
  go_upto_region 3 with fail
  obtain ⟨w2, hw2⟩ : ∃ w2, w2 = w1.setCell ⟨w.heap.size, c.self, none⟩ (.int .i64 own) := ⟨_, rfl⟩
  rw [← hw2] at HB1 HP1 hb1 ⊢
  clear hw2 l0 lf c0 c1 c2 c3 c4
  obtain ⟨c0, c1, c2, c3, c4⟩ := HP1.out.cell
  go_wp2_with fail
  go_loopw [8, 9, 28] (fun _ _ i wr => ∃ k : Nat, k ≤ c.n ∧ i = .int .i64 (k : Int) ∧ Hid (Blk wr w.heap.size 3 (lstB c d own tl k)) ∧ Below w.heap.size w wr) (fun _ _ i _ => c.n - (intOf i).toNat)
  case atStart => exact ⟨0, by omega, rfl, HB1, hb1⟩
  case round =>
    clear HB1 HP1 hb1 c0 c1 c2 c3 c4
    obtain ⟨k, hk, rfl, HB, hb⟩ := hrel
    have hP := hH.out.below HF.out hb
    by_cases hlt : k < c.n
    · have hI : (k : Int) < (c.n : Int) := by omega
      by_cases hs : k = c.self
      · subst hs
        have hp := hP.nil_ hlt
        have hN : Hid (Blk wr w.heap.size 3 (lstB c d own tl (c.self + 1))) := by
          rw [← lstB_no (.inl rfl)]; exact HB
        clear hP
        go_wp2
        go_roundw
        case rel => exact ⟨c.self + 1, by omega, by go_num, hN, hb⟩
        case measure => simp [intOf] <;> omega
      · have hp := hP.ptr hlt hs
        obtain ⟨o0, o1, o2, o3, o4, o5, o6⟩ := hP.ocell hlt hs
        have HP := Lib.hid hP
        clear hP
        cases hh : (d.pr k).heard with
        | false =>
          rw [hh] at o1
          have hN : Hid (Blk wr w.heap.size 3 (lstB c d own tl (k + 1))) := by
            rw [← lstB_no (.inr (.inl hh))]; exact HB
          clear hh
          go_wp2
          go_roundw
          case rel => exact ⟨k + 1, by omega, by go_num, hN, hb⟩
          case measure => simp [intOf] <;> omega
        | true =>
          rw [hh] at o1
          cases ht2 : tl (d.pr k) with
          | false =>
            have hc := ht.out wr k HP.out hlt hs
            rw [ht2] at hc
            have HC := Lib.hid hc
            have hN : Hid (Blk wr w.heap.size 3 (lstB c d own tl (k + 1))) := by
              rw [← lstB_no (.inr (.inr ht2))]; exact HB
            clear hh ht2 hc
            go_wp2_with fail
            refine HC.out.mono ?_
            rintro _ _ ⟨rfl, rfl⟩
            go_wp2
            go_roundw
            case rel => exact ⟨k + 1, by omega, by go_num, hN, hb⟩
            case measure => simp [intOf] <;> omega
          | true =>
            have hc := ht.out wr k HP.out hlt hs
            rw [ht2] at hc
            have HC := Lib.hid hc
            have hN : Hid (Blk (wr.setCell ⟨w.heap.size, k, none⟩ (.int .i64 (d.pr k).known)) w.heap.size 3 (lstB c d own tl (k + 1))) := by
              rw [← lstB_yes hs hh ht2]; exact HB.out.set_ k _
            have l0 : wr.cell? ⟨w.heap.size, k, none⟩ = some (.int .i64 (lstAt c d own tl k k)) := by rw [HB.out.cell, lstB, rg_at _ hlt]
            have lf : wr.frozen? ⟨w.heap.size, k, none⟩ = false := HB.out.frozen _
            have hb2 : Below w.heap.size w (wr.setCell ⟨w.heap.size, k, none⟩ (.int .i64 (d.pr k).known)) := hb.setCell (by simp) _
            clear hh ht2 hc
            go_wp2_with fail
            refine HC.out.mono ?_
            rintro _ _ ⟨rfl, rfl⟩
            go_wp2
            go_roundw
            case rel => exact ⟨k + 1, by omega, by go_num, hN, hb2⟩
            case measure => simp [intOf] <;> omega
    · obtain rfl : k = c.n := by omega
      have hl : ((List.range c.n).map fun j => lstAt c d own tl c.n j).length = c.n := by simp
      have HL := Lib.hid hl
      have HO := Lib.hid (lst_own HB.out (Nat.le_refl _) hn)
      clear hl hP
      go_wp2
      go_ret
      refine ⟨some ⟨w.heap.size, 0, none⟩, c.n, ?_, ?_, hb⟩
      · rw [HL.out]; rfl
      · rw [HL.out]; exact HO.out
theorem callH (args : Array Value) (W : World) : Sem.run Try.prog (callFunc 46 args) W = .ok (.enter 46 args) W := by kernel_rfl
theorem callE (args : Array Value) (W : World) : Sem.run Try.prog (callFunc 47 args) W = .ok (.enter 47 args) W := by kernel_rfl
theorem telH (q : Nat) (W : World) : Calls Try.prog 46 #[.pointer (some ⟨q, 0, none⟩)] W fun e w' => e = .returned (.bool true) ∧ W = w' := by
  go_enter Try.func46, Try.ntmps46
  go_wp2
  go_ret
  exact ⟨rfl, rfl⟩
theorem telE (q : Nat) (b : Bool) (W : World) (hc : W.cell? ⟨q, 2, none⟩ = some (.bool b)) : Calls Try.prog 47 #[.pointer (some ⟨q, 0, none⟩)] W fun e w' => e = .returned (.bool b) ∧ W = w' := by
  go_enter Try.func47, Try.ntmps47
  go_wp2
  go_ret
  exact ⟨rfl, rfl⟩
theorem PHears_any (h : PD w F c D d O Q C) (hF : ∀ k, F k → k < w.heap.size) (hn : c.n ≤ 16) (hsf : c.self < c.n) :
    Calls Try.prog 18 #[.pointer (some ⟨D, 0, none⟩)] w (GivesL w (hearsL c d)) := by
  obtain ⟨c0, c1, c2, c3, c4⟩ := h.cell
  have HL := Lib.hid (list_any h hF hn hsf (if d.left = true then 0 else c.inc) (fun _ => true) 46 callH (Lib.hid fun W q _ _ _ => telH _ W))
  rw [lst_hears _ rfl] at HL
  cases hl : d.left with
  | false =>
    rw [hl] at c3 HL
    clear hl h hF
    go_enter Try.func18, Try.ntmps18
    go_wp2_with fail
    refine HL.out.mono ?_
    rintro _ w' ⟨A, cap, rfl, ho, hb⟩
    go_wp2
    go_ret
    exact ⟨A, cap, rfl, ho, hb⟩
  | true =>
    rw [hl] at c3 HL
    clear hl h hF
    go_enter Try.func18, Try.ntmps18
    go_wp2_with fail
    refine HL.out.mono ?_
    rintro _ w' ⟨A, cap, rfl, ho, hb⟩
    go_wp2
    go_ret
    exact ⟨A, cap, rfl, ho, hb⟩
theorem PEst_any (h : PD w F c D d O Q C) (hF : ∀ k, F k → k < w.heap.size) (hn : c.n ≤ 16) (hsf : c.self < c.n) :
    Calls Try.prog 19 #[.pointer (some ⟨D, 0, none⟩)] w (GivesL w (estL c d)) := by
  obtain ⟨c0, c1, c2, c3, c4⟩ := h.cell
  have HL := Lib.hid (list_any h hF hn hsf c.inc (fun p => p.mutl) 47 callE (Lib.hid fun W q hP hq hs => telE _ _ W (hP.ocell hq hs).2.2.1))
  rw [lst_est] at HL
  clear h hF
  go_enter Try.func19, Try.ntmps19
  go_wp2_with fail
  refine HL.out.mono ?_
  rintro _ w' ⟨A, cap, rfl, ho, hb⟩
  go_wp2
  go_ret
  exact ⟨A, cap, rfl, ho, hb⟩
end Go.Proofs.Ytfjpmoigpnmeoaa
