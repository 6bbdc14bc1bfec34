/-
  EtherRefusals' helpers: refused.
-/
import Derived.Test.YtgfhmfhhobhojaaEOnP
namespace Go.Proofs.Ytgfhmfhhobhojaa
open Go.ChangeShapes Go.WideShapes Go.ChangeAt Go.RowKit
/-- What a step leaves, with the blocks that it may have written. -/
def LiveC (w : World) (F : Nat → Prop) (B : Nat) (c : ECfg) (D m : Nat) (p' : PV) (w' : World) : Prop := ∃ G, LiveP w' B c D (m + 1) p' G ∧ (∀ k, G k → F k ∨ w.heap.size ≤ k) ∧ Chg F w w'
section
variable {w w0 w1 : World} {B : Nat} {c : ECfg} {D m : Nat} {p p' : PV} {F : Nat → Prop}
theorem LiveC.behind (hb : Below w.heap.size w w0) (h : LiveC w0 F B c D m p' w1) : LiveC w F B c D m p' w1 := by
  obtain ⟨G, h1, h2, h3⟩ := h
  exact ⟨G, h1, fun k hk => (h2 k hk).imp id (Nat.le_trans hb.size), (Chg.of_below hb F).trans h3⟩
theorem LiveC.over (h : LiveC w F B c D m p' w0) (hb : Below w0.heap.size w0 w1) : LiveC w F B c D m p' w1 := by
  obtain ⟨G, h1, h2, h3⟩ := h
  exact ⟨G, h1.below hb, h2, h3.trans (Chg.of_below hb F)⟩
theorem LiveC.same (h : LiveP w B c D m p F) (hb : Below w.heap.size w w1) : LiveC w F B c D m p w1 := ⟨F, (h.below hb).mono (Nat.le_succ m), fun _ h => .inl h, Chg.of_below hb F⟩
theorem LiveP.of_stepC (h : LiveP w B c D m p F) (hB : B ≤ w.heap.size) {v : Value} {e : Ending} {m' : Nat} (hm : m' ≤ m + 1) (hs : StepP w F c D m' v p' e w1) (hi : PInv c p' (m + 1)) : e = .returned v ∧ LiveC w F B c D m p' w1 := by
  obtain ⟨h1, G, h2, h3, h4⟩ := hs
  exact ⟨h1, G, ⟨h2.mono hm, hi, fun k hk => (h3 k hk).elim (h.ab k) (Nat.le_trans hB)⟩, h3, h4⟩
theorem CTick (h : LiveP w B c D m p F) (hB : B ≤ w.heap.size) (hm : m ≤ 4398046511104) (q : Int) : Calls Try.prog 36 #[.pointer (some ⟨D, 0, none⟩), .int .i64 q] w fun e w' => e = .returned (.tuple #[.int .i64 (Tick_r c p.down p.tk q), .int .i64 (Tick_e c p.down q)]) ∧ LiveC w F B c D m (tickP c p q) w' :=
  (Tick_any h.pn q (fun k _ => by have := h.inv.tks k; omega)).mono fun _ _ hs => h.of_stepC hB (Nat.le_succ m) hs (h.inv.tick q)
theorem CCrash (h : LiveP w B c D m p F) (hB : B ≤ w.heap.size) (q : Int) : Calls Try.prog 37 #[.pointer (some ⟨D, 0, none⟩), .int .i64 q] w fun e w' => e = .returned (.int .i64 (Tick_e c p.down q)) ∧ LiveC w F B c D m (crashP c p q) w' :=
  (Crash_any h.pn q).mono fun _ _ hs => h.of_stepC hB (Nat.le_succ m) hs (h.inv.crash q)
theorem CRest (h : LiveP w B c D m p F) (hB : B ≤ w.heap.size) (hm : m ≤ 4398046511104) (q : Int) : Calls Try.prog 17 #[.pointer (some ⟨D, 0, none⟩), .int .i64 q] w fun e w' => e = .returned (.tuple #[.int .i64 (Rest_r c p.down p.inc q), .int .i64 (Rest_e c p.down q)]) ∧ LiveC w F B c D m (restP c p q) w' :=
  (Restart_any h.pn q (fun k _ => by have := h.inv.incs k; omega)).mono fun _ _ hs => h.of_stepC hB (Nat.le_succ m) hs (h.inv.rest q)
theorem CPost (hc : c.Ok) (h : LiveP w B c D m p F) (hB : B ≤ w.heap.size) (hm : m ≤ 4398046511104) (a b : Int) (bA : Option Addr) (cap : Nat) (bs : List UInt8) (hr : RdB w w.heap.size bA bs.length bs) (hn : bs.length ≤ 140737488351232) (hF : 0 < bs.length → ∀ b o s, bA = some ⟨b, o, s⟩ → ¬ F b) : Calls Try.prog 20 #[.pointer (some ⟨D, 0, none⟩), .int .i64 a, .int .i64 b, .slice bA bs.length cap] w fun e w' => e = .returned (.tuple #[.int .i64 (postR c p a b bs.length true), .int .i64 (postE c p a b bs.length true)]) ∧ LiveC w F B c D m (postP c p a b bs true) w' := by
  have hf := h.inv.fine hc hm
  exact (Post_any hc h.pn a b bA cap bs hr hn (fun hp b o s e e2 => hF hp b o s e (e2 ▸ h.fd)) hf.way hf.last hf.clk hf.slow).mono fun _ _ hs => h.of_stepC hB (Nat.le_succ m) hs (h.inv.post hc a b bs true)
theorem CRound (hc : c.Ok) (h : LiveP w B c D m p F) (hB : B ≤ w.heap.size) (hm : m ≤ 4398046511104) : Calls Try.prog 21 #[.pointer (some ⟨D, 0, none⟩)] w fun e w' => (∃ v, e = .returned v) ∧ LiveC w F B c D m (roundP p) w' := by
  refine (Round_any hc h.pn (h.inv.fine hc hm)).mono ?_
  rintro e w' ⟨v, G, h1, h2, h3, h4, h5⟩
  exact ⟨⟨v, h1⟩, G, ⟨h3.mono (Nat.le_succ m), h.inv.round, fun k hk => (h4 k hk).elim (h.ab k) (Nat.le_trans hB)⟩, h4, h5⟩
theorem CTake (hc : c.Ok) (h : LiveP w B c D m p F) (hB : B ≤ w.heap.size) (hm : m ≤ 4398046511104) (a : Int) : Calls Try.prog 38 #[.pointer (some ⟨D, 0, none⟩), .int .i64 a] w fun e w' => ∃ A cap, e = .returned (.tuple #[.agg #[.int .i64 ((takeD c p a).2.1.id : Int), .int .i64 ((takeD c p a).2.1.src : Int), .int .i64 ((takeD c p a).2.1.dst : Int), .int .i64 ((takeD c p a).2.1.due : Int), .slice A (takeD c p a).2.1.bs.length cap], .int .i64 (takeD c p a).1]) ∧ LiveC w F B c D m (takeD c p a).2.2 w' := by
  refine (Take_any hc h.pn (h.inv.fine hc hm) a).mono ?_
  rintro e w' ⟨A, cap, h1, ⟨G, h2, h3, h4⟩, _, _⟩
  exact ⟨A, cap, h1, G, ⟨h2.mono (Nat.le_succ m), h.inv.take a, fun k hk => (h3 k hk).elim (h.ab k) (Nat.le_trans hB)⟩, h3, h4⟩
theorem CDo (hc : c.Ok) (h : LiveP w B c D m p F) (hB : B ≤ w.heap.size) (hm : m ≤ 4398046511104) {n : Int} (hn : n ≤ 9223372036854775807) {bs : List UInt8} {sides : List Int} (hbn : bs.length ≤ 140737488351232) (hsn : sides.length ≤ 17592186043904) {g cap hh caps : Nat} (h1 : SpareB w1 w.heap.size g cap bs) (h2 : SpareI w1 w.heap.size hh caps sides) (hb : Below w.heap.size w w1) (kd a b : Int) : Calls Try.prog 19 #[.pointer (some ⟨D, 0, none⟩), .agg #[.int .i64 kd, .int .i64 a, .int .i64 b, .int .i64 n, .slice (some ⟨g, 0, none⟩) bs.length cap, .int .i64 0, .int .i64 0, .int .i64 0, .int .i64 0, .string ByteArray.empty, .string ByteArray.empty, .string ByteArray.empty, .slice (some ⟨hh, 0, none⟩) sides.length caps]] w1 fun e w' => e = .returned (.int .i64 (doD c p ⟨kd, a, b, n, bs, sides⟩).1) ∧ LiveC w F B c D m (doD c p ⟨kd, a, b, n, bs, sides⟩).2 w' := by
  have hF := h.pn.1
  have hl := h.below hb
  refine (Do_any hc hl.pn (hl.inv.fine hc hm) kd a b n (some ⟨g, 0, none⟩) (some ⟨hh, 0, none⟩) cap sides.length caps bs sides hn h1.rd hbn (fun _ b o s e e2 => ?_) h2.rd (by omega) (fun _ b o s e hf => ?_)).mono fun e w' hs => ?_
  · injection e with e
    injection e with e
    have := hF D h.fd
    have := h1.new
    omega
  · injection e with e
    injection e with e
    have := hF b hf
    have := h2.new
    omega
  · have h3 := hl.of_stepC (Nat.le_trans hB hb.size) (Nat.le_refl _) hs (hl.inv.do_ hc _)
    exact ⟨h3.1, h3.2.behind hb⟩
end
/-- What a call changes, if it is refused, and else. -/
structure RefS (p p' : PV) (kd : Int) (bad : Bool) : Prop where
  no : bad = true → p' = p
  new : bad = false → (kd = 10 ∨ kd = 37 ∨ kd = 33) → p'.last = p.last + 1 ∧ ∃ f, p'.way = p.way ++ [f] ∧ f.id = p.last + 1
  old : bad = false → ¬ (kd = 10 ∨ kd = 37 ∨ kd = 33) → p'.last = p.last
section
variable {c : ECfg} {p : PV}
theorem tick_last (q : Int) : (tickP c p q).last = p.last := by unfold tickP; split <;> rfl
theorem crash_last (q : Int) : (crashP c p q).last = p.last := by unfold crashP; split <;> rfl
theorem rest_last (q : Int) : (restP c p q).last = p.last := by unfold restP; split <;> rfl
theorem take_last (a : Int) : (takeD c p a).2.2.last = p.last := by
  unfold takeD
  repeat' split
  all_goals rfl
theorem take_err {a : Int} (h : (takeD c p a).1 ≠ 0) : (takeD c p a).2.2 = p ∧ (takeD c p a).2.1 = Flt.zero := by
  unfold takeD at h ⊢
  repeat' split
  all_goals first | exact ⟨rfl, rfl⟩ | skip
  all_goals (rename_i h1 _ _ h2 _; simp_all)
theorem do_err {e : Evt} (h : (doD c p e).1 ≠ 0) : (doD c p e).2 = p := by
  unfold doD at h ⊢
  split
  · rename_i h1
    rw [if_pos h1] at h
    split
    · rename_i h2
      rw [if_pos h2] at h
      unfold turnD at h ⊢
      repeat' split
      all_goals first | rfl | (exfalso; simp_all)
    · rfl
  · rename_i h1
    rw [if_neg h1] at h
    split
    · rename_i h2
      rw [if_pos h2] at h
      split
      · rename_i h3; rw [if_pos h3] at h; exact absurd rfl h
      · rfl
    · rename_i h2
      rw [if_neg h2] at h
      split
      · rename_i h3
        rw [if_pos h3] at h
        split
        · rename_i h4
          rw [if_pos h4] at h
          split
          · rename_i f hf
            rw [hf] at h
            dsimp only at h
            unfold touchD at h ⊢
            repeat' split
            all_goals first | rfl | (exfalso; simp_all)
          · rfl
        · rfl
      · rename_i h3
        rw [if_neg h3] at h
        split
        · rename_i h4
          rw [if_pos h4] at h
          show postP c p e.a e.b e.bs false = p
          unfold postP
          rw [if_neg h]
        · rfl
theorem post_new {a b : Int} {bs : List UInt8} {lives : Bool} (h : postE c p a b bs.length lives = 0) : (postP c p a b bs lives).last = p.last + 1 ∧ ∃ f, (postP c p a b bs lives).way = p.way ++ [f] ∧ f.id = p.last + 1 := by
  unfold postP
  rw [if_pos h]
  exact ⟨rfl, _, rfl, rfl⟩
theorem do_new {e : Evt} (h : (doD c p e).1 = 0) (hk : e.kd = 17 ∨ e.kd = 13) : (doD c p e).2.last = p.last + 1 ∧ ∃ f, (doD c p e).2.way = p.way ++ [f] ∧ f.id = p.last + 1 := by
  unfold doD at h ⊢
  rw [if_neg (by omega), if_neg (by omega)] at h ⊢
  rcases hk with hk | hk
  · rw [if_neg (by omega), if_pos hk] at h ⊢
    exact post_new h
  · rw [if_pos (by omega)] at h ⊢
    split
    · rename_i h4
      rw [if_pos h4] at h
      split
      · rename_i f hf
        rw [hf] at h
        dsimp only at h
        unfold touchD at h ⊢
        rw [if_neg (by omega), if_pos hk] at h ⊢
        split
        · rename_i h5; rw [if_pos h5] at h; cases h
        · exact ⟨rfl, _, rfl, rfl⟩
      · rename_i hf; rw [hf] at h; cases h
    · rename_i h4; rw [if_neg h4] at h; cases h
theorem do_old {e : Evt} (h17 : e.kd ≠ 17) (h13 : e.kd ≠ 13) : (doD c p e).2.last = p.last := by
  unfold doD
  split
  · split
    · unfold turnD
      repeat' split
      all_goals rfl
    · rfl
  · split
    · split <;> rfl
    · split
      · split
        · split
          · unfold touchD
            rw [if_neg h13]
            repeat' split
            all_goals rfl
          · rfl
        · rfl
      · rfl
end
theorem tick_zero {c : ECfg} {p : PV} {q : Int} (h : Tick_e c p.down q ≠ 0) : Tick_r c p.down p.tk q = 0 ∧ tickP c p q = p := by
  unfold Tick_r tickP
  rw [if_neg h, if_neg h]
  exact ⟨rfl, rfl⟩
theorem crash_zero {c : ECfg} {p : PV} {q : Int} (h : Tick_e c p.down q ≠ 0) : crashP c p q = p := by
  unfold crashP
  rw [if_neg h]
theorem rest_zero {c : ECfg} {p : PV} {q : Int} (h : Rest_e c p.down q ≠ 0) : Rest_r c p.down p.inc q = 0 ∧ restP c p q = p := by
  unfold Rest_r restP
  rw [if_neg h, if_neg h]
  exact ⟨rfl, rfl⟩
theorem post_zero {c : ECfg} {p : PV} {a b : Int} {bs : List UInt8} (h : postE c p a b bs.length true ≠ 0) : postR c p a b bs.length true = 0 ∧ postP c p a b bs true = p := by
  unfold postR postP
  rw [if_neg h, if_neg h]
  exact ⟨rfl, rfl⟩
end Go.Proofs.Ytgfhmfhhobhojaa
