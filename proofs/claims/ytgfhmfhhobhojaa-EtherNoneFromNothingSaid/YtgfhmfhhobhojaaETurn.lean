/-
  The program's network: cut, heal, delay.
-/
import Derived.Test.YtgfhmfhhobhojaaEPath
namespace Go.Proofs.Ytgfhmfhhobhojaa
open Go.ChangeShapes Go.WideShapes Go.ChangeAt Go.RowKit
variable {w : World} {F : Nat → Prop} {c : ECfg} {D : Nat} {p : PV} {m : Nat}
def slowV (d : Nat) : Nat := if d = 1 then 0 else d
def updS (f : Nat → Nat → Bool) (i j : Nat) (v : Bool) : Nat → Nat → Bool := fun a b => if a = i ∧ b = j then v else f a b
theorem shut_put {P : Nat → Nat → Bool} {w : World} {b n : Nat} {i j : Nat} {v : Bool} {f : Nat → Nat → Nat} (h : MapZ w b n (upd2 f i j (if v = true then 1 else 0))) (hf : f = fun a b => if P a b = true then 1 else 0) : MapZ w b n (fun a b => if updS P i j v a b = true then 1 else 0) := by
  subst hf
  refine h.congr fun a b _ _ => ?_
  unfold upd2 updS
  split <;> rfl
/-- A call that may have turned the network's map only. -/
theorem StepP.grown {w w1 w2 : World} {S : Nat} {p' : PV} {m' : Nat} {v : Value} (_hF : ∀ k, F k → k < w.heap.size) (hb : Below w.heap.size w w1) (hg : w1.grownBy w2 (some S)) (hS : F S) (h : PNx w2 F c D p' m') : StepP w F c D m' v p' (.returned v) w2 :=
  ⟨rfl, F, h, fun _ h => .inl h, (Chg.of_below hb F).thenS (Chg.of_grown hg) fun k _ e => by injection e with e; rw [e]; exact hS⟩
set_option maxRecDepth 100000 in
set_option maxHeartbeats 1600000 in
theorem turn_8 (hc : c.Ok) (h : PNx w F c D p m) (hm : m < 17592186044416) {i j : Nat} (hi : i < c.n) (hj : j < c.n) (a b n : Int) (BA SA : Option Addr) (bn bc sn sc : Nat) : Calls Try.prog 42 #[.pointer (some ⟨D, 0, none⟩), .agg #[.int .i64 (i : Int), .int .i64 (j : Int)], .agg #[.int .i64 8, .int .i64 a, .int .i64 b, .int .i64 n, .slice BA bn bc, .int .i64 0, .int .i64 0, .int .i64 0, .int .i64 0, .string ByteArray.empty, .string ByteArray.empty, .string ByteArray.empty, .slice SA sn sc]] w (StepP w F c D (m + 1) (.int .i64 0) ({ p with shut := updS p.shut i j true })) := by
  have hn := hc.2.1
  have hb0 := one_box' w (.cells #[.int .i64 (i : Int), .int .i64 (j : Int)] 89)
  have hX := Blk.new w 89 #[.int .i64 (i : Int), .int .i64 (j : Int)]
  obtain ⟨w0, hw0⟩ : ∃ w0, w0 = w.alloc (.cells #[.int .i64 (i : Int), .int .i64 (j : Int)] 89) := ⟨_, rfl⟩
  rw [← hw0] at hb0 hX
  have HW := Lib.hid hw0
  have hs0 := hb0.size
  have hb1 := one_box' w0 (.cells #[.int .i64 8, .int .i64 a, .int .i64 b, .int .i64 n, .slice BA bn bc, .int .i64 0, .int .i64 0, .int .i64 0, .int .i64 0, .string ByteArray.empty, .string ByteArray.empty, .string ByteArray.empty, .slice SA sn sc] 41)
  have hE := Blk.new w0 41 #[.int .i64 8, .int .i64 a, .int .i64 b, .int .i64 n, .slice BA bn bc, .int .i64 0, .int .i64 0, .int .i64 0, .int .i64 0, .string ByteArray.empty, .string ByteArray.empty, .string ByteArray.empty, .slice SA sn sc]
  have hX1 := hX.over hb1
  have hsz : w0.heap.size = w.heap.size + 1 := by rw [hw0]; simp
  rw [hsz] at hE
  obtain ⟨w1, hw1⟩ : ∃ w1, w1 = w0.alloc (.cells #[.int .i64 8, .int .i64 a, .int .i64 b, .int .i64 n, .slice BA bn bc, .int .i64 0, .int .i64 0, .int .i64 0, .int .i64 0, .string ByteArray.empty, .string ByteArray.empty, .string ByteArray.empty, .slice SA sn sc] 41) := ⟨_, rfl⟩
  rw [← hw1] at hb1 hE hX1
  have HW1 := Lib.hid hw1
  have HSZ := Lib.hid hsz
  clear hsz
  have hb01 : Below w.heap.size w w1 := hb0.trans (hb1.mono hs0)
  have hp1 := h.below hb01
  have HF0 := Lib.hid h.1
  have HB01 := Lib.hid hb01
  have k0 : w1.cell? ⟨w.heap.size + 1, 0, none⟩ = some (.int .i64 8) := hE.cell 0
  have k3 : w1.cell? ⟨w.heap.size + 1, 3, none⟩ = some (.int .i64 n) := hE.cell 3
  obtain ⟨w2, hw2⟩ : ∃ w2, w2 = w1.drew := ⟨_, rfl⟩
  have hp2 : PNx w2 F c D p m := by rw [hw2]; exact hp1.below (below_drewN (Below.refl _ _) 1)
  have hb2 : Below w.heap.size w w2 := by rw [hw2]; exact below_drewN hb01 1
  have x0 : w2.cell? ⟨w.heap.size, 0, none⟩ = some (.int .i64 (i : Int)) := by rw [hw2]; exact hX1.cell 0
  have x1 : w2.cell? ⟨w.heap.size, 1, none⟩ = some (.int .i64 (j : Int)) := by rw [hw2]; exact hX1.cell 1
  have e3 : w2.cell? ⟨w.heap.size + 1, 3, none⟩ = some (.int .i64 n) := by rw [hw2]; exact hE.cell 3
  have HW2 := Lib.hid hw2
  have HB2 := Lib.hid hb2
  obtain ⟨hF, P, S, L, v, X, hP⟩ := hp2
  have HP := Lib.hid hP
  have g4 : w2.cell? ⟨D, 4, none⟩ = some (.map (some S)) := hP.blk.cell 4
  have g5 : w2.cell? ⟨D, 5, none⟩ = some (.map (some L)) := hP.blk.cell 5
  clear hw0 hX hb0 hb1 hE hX1 hw1 hb01 hp1 hw2 hb2 hP h
  go_enter Try.func42, Try.ntmps42
  go_upto_region 1 with fail
  rw [← HW.out, ← HW1.out]
  go_upto_region 3 with fail
  refine region_tail 5 (by kernel_rfl) (by kernel_rfl) ?_
  simp only [List.take_succ_cons, List.take_zero, List.drop_succ_cons, List.drop_zero]
  rw [← HW2.out]
  repeat still_step
  refine wpStill_nil ?_
  change wpList _ _ _ _ _ w2
  refine mapPut (by rfl) _ _ _ (by rfl) (by rfl) HP.out.shut (by simp only [maxLen]; omega) (p := i) (q := j) (z := 1) (by omega) (by omega) (by rfl) (by rfl) (by omega) ?_
  intro w3 hz3 hg3
  have HS : Hid (StepP w F c D (m + 1) (.int .i64 0) { p with shut := updS p.shut i j true } (.returned (.int .i64 0)) w3) := Lib.hid (StepP.grown HF0.out HB2.out hg3 HP.out.fs ⟨fun k hk => Nat.lt_of_lt_of_le (hF k hk) hg3.size, P, S, L, v, X, (HP.out.mono (Nat.le_succ m)).setS hg3 ((shut_put (v := true) hz3 rfl).mono (by omega)) rfl rfl rfl rfl⟩)
  clear hz3 hg3
  go_wp2
  go_ret
  exact HS.out
set_option maxRecDepth 100000 in
set_option maxHeartbeats 1600000 in
theorem turn_9 (hc : c.Ok) (h : PNx w F c D p m) (_hm : m < 17592186044416) {i j : Nat} (hi : i < c.n) (hj : j < c.n) (a b n : Int) (BA SA : Option Addr) (bn bc sn sc : Nat) : Calls Try.prog 42 #[.pointer (some ⟨D, 0, none⟩), .agg #[.int .i64 (i : Int), .int .i64 (j : Int)], .agg #[.int .i64 9, .int .i64 a, .int .i64 b, .int .i64 n, .slice BA bn bc, .int .i64 0, .int .i64 0, .int .i64 0, .int .i64 0, .string ByteArray.empty, .string ByteArray.empty, .string ByteArray.empty, .slice SA sn sc]] w (StepP w F c D (m + 1) (.int .i64 0) ({ p with shut := updS p.shut i j false })) := by
  have hn := hc.2.1
  have hb0 := one_box' w (.cells #[.int .i64 (i : Int), .int .i64 (j : Int)] 89)
  have hX := Blk.new w 89 #[.int .i64 (i : Int), .int .i64 (j : Int)]
  obtain ⟨w0, hw0⟩ : ∃ w0, w0 = w.alloc (.cells #[.int .i64 (i : Int), .int .i64 (j : Int)] 89) := ⟨_, rfl⟩
  rw [← hw0] at hb0 hX
  have HW := Lib.hid hw0
  have hs0 := hb0.size
  have hb1 := one_box' w0 (.cells #[.int .i64 9, .int .i64 a, .int .i64 b, .int .i64 n, .slice BA bn bc, .int .i64 0, .int .i64 0, .int .i64 0, .int .i64 0, .string ByteArray.empty, .string ByteArray.empty, .string ByteArray.empty, .slice SA sn sc] 41)
  have hE := Blk.new w0 41 #[.int .i64 9, .int .i64 a, .int .i64 b, .int .i64 n, .slice BA bn bc, .int .i64 0, .int .i64 0, .int .i64 0, .int .i64 0, .string ByteArray.empty, .string ByteArray.empty, .string ByteArray.empty, .slice SA sn sc]
  have hX1 := hX.over hb1
  have hsz : w0.heap.size = w.heap.size + 1 := by rw [hw0]; simp
  rw [hsz] at hE
  obtain ⟨w1, hw1⟩ : ∃ w1, w1 = w0.alloc (.cells #[.int .i64 9, .int .i64 a, .int .i64 b, .int .i64 n, .slice BA bn bc, .int .i64 0, .int .i64 0, .int .i64 0, .int .i64 0, .string ByteArray.empty, .string ByteArray.empty, .string ByteArray.empty, .slice SA sn sc] 41) := ⟨_, rfl⟩
  rw [← hw1] at hb1 hE hX1
  have HW1 := Lib.hid hw1
  have HSZ := Lib.hid hsz
  clear hsz
  have hb01 : Below w.heap.size w w1 := hb0.trans (hb1.mono hs0)
  have hp1 := h.below hb01
  have HF0 := Lib.hid h.1
  have HB01 := Lib.hid hb01
  have k0 : w1.cell? ⟨w.heap.size + 1, 0, none⟩ = some (.int .i64 9) := hE.cell 0
  have k3 : w1.cell? ⟨w.heap.size + 1, 3, none⟩ = some (.int .i64 n) := hE.cell 3
  obtain ⟨w2, hw2⟩ : ∃ w2, w2 = w1.drew := ⟨_, rfl⟩
  have hp2 : PNx w2 F c D p m := by rw [hw2]; exact hp1.below (below_drewN (Below.refl _ _) 1)
  have hb2 : Below w.heap.size w w2 := by rw [hw2]; exact below_drewN hb01 1
  have x0 : w2.cell? ⟨w.heap.size, 0, none⟩ = some (.int .i64 (i : Int)) := by rw [hw2]; exact hX1.cell 0
  have x1 : w2.cell? ⟨w.heap.size, 1, none⟩ = some (.int .i64 (j : Int)) := by rw [hw2]; exact hX1.cell 1
  have e3 : w2.cell? ⟨w.heap.size + 1, 3, none⟩ = some (.int .i64 n) := by rw [hw2]; exact hE.cell 3
  have HW2 := Lib.hid hw2
  have HB2 := Lib.hid hb2
  obtain ⟨hF, P, S, L, v, X, hP⟩ := hp2
  have HP := Lib.hid hP
  have g4 : w2.cell? ⟨D, 4, none⟩ = some (.map (some S)) := hP.blk.cell 4
  have g5 : w2.cell? ⟨D, 5, none⟩ = some (.map (some L)) := hP.blk.cell 5
  clear hw0 hX hb0 hb1 hE hX1 hw1 hb01 hp1 hw2 hb2 hP h
  go_enter Try.func42, Try.ntmps42
  go_upto_region 1 with fail
  rw [← HW.out, ← HW1.out]
  go_upto_region 5 with fail
  refine region_tail 5 (by kernel_rfl) (by kernel_rfl) ?_
  simp only [List.take_succ_cons, List.take_zero, List.drop_succ_cons, List.drop_zero]
  rw [← HW2.out]
  repeat still_step
  refine wpStill_nil ?_
  change wpList _ _ _ _ _ w2
  refine mapDel (by rfl) _ _ (by rfl) (by rfl) HP.out.shut (p := i) (q := j) (by omega) (by omega) (by rfl) ?_
  intro w3 hz3 hg3
  have HS : Hid (StepP w F c D (m + 1) (.int .i64 0) { p with shut := updS p.shut i j false } (.returned (.int .i64 0)) w3) := Lib.hid (StepP.grown HF0.out HB2.out hg3 HP.out.fs ⟨fun k hk => Nat.lt_of_lt_of_le (hF k hk) hg3.size, P, S, L, v, X, (HP.out.mono (Nat.le_succ m)).setS hg3 ((shut_put (v := false) hz3 rfl).mono (by omega)) rfl rfl rfl rfl⟩)
  clear hz3 hg3
  go_wp2
  go_ret
  exact HS.out
set_option maxRecDepth 100000 in
set_option maxHeartbeats 1600000 in
theorem turn_10no (hc : c.Ok) (h : PNx w F c D p m) (_hm : m < 17592186044416) {i j : Nat} (_hi : i < c.n) (_hj : j < c.n) (a b n : Int) (BA SA : Option Addr) (bn bc sn sc : Nat) (hno : n < 1 ∨ 16 < n) : Calls Try.prog 42 #[.pointer (some ⟨D, 0, none⟩), .agg #[.int .i64 (i : Int), .int .i64 (j : Int)], .agg #[.int .i64 10, .int .i64 a, .int .i64 b, .int .i64 n, .slice BA bn bc, .int .i64 0, .int .i64 0, .int .i64 0, .int .i64 0, .string ByteArray.empty, .string ByteArray.empty, .string ByteArray.empty, .slice SA sn sc]] w (StepP w F c D (m + 1) (.int .i64 1) (p)) := by
  have hn := hc.2.1
  have hb0 := one_box' w (.cells #[.int .i64 (i : Int), .int .i64 (j : Int)] 89)
  have hX := Blk.new w 89 #[.int .i64 (i : Int), .int .i64 (j : Int)]
  obtain ⟨w0, hw0⟩ : ∃ w0, w0 = w.alloc (.cells #[.int .i64 (i : Int), .int .i64 (j : Int)] 89) := ⟨_, rfl⟩
  rw [← hw0] at hb0 hX
  have HW := Lib.hid hw0
  have hs0 := hb0.size
  have hb1 := one_box' w0 (.cells #[.int .i64 10, .int .i64 a, .int .i64 b, .int .i64 n, .slice BA bn bc, .int .i64 0, .int .i64 0, .int .i64 0, .int .i64 0, .string ByteArray.empty, .string ByteArray.empty, .string ByteArray.empty, .slice SA sn sc] 41)
  have hE := Blk.new w0 41 #[.int .i64 10, .int .i64 a, .int .i64 b, .int .i64 n, .slice BA bn bc, .int .i64 0, .int .i64 0, .int .i64 0, .int .i64 0, .string ByteArray.empty, .string ByteArray.empty, .string ByteArray.empty, .slice SA sn sc]
  have hX1 := hX.over hb1
  have hsz : w0.heap.size = w.heap.size + 1 := by rw [hw0]; simp
  rw [hsz] at hE
  obtain ⟨w1, hw1⟩ : ∃ w1, w1 = w0.alloc (.cells #[.int .i64 10, .int .i64 a, .int .i64 b, .int .i64 n, .slice BA bn bc, .int .i64 0, .int .i64 0, .int .i64 0, .int .i64 0, .string ByteArray.empty, .string ByteArray.empty, .string ByteArray.empty, .slice SA sn sc] 41) := ⟨_, rfl⟩
  rw [← hw1] at hb1 hE hX1
  have HW1 := Lib.hid hw1
  have HSZ := Lib.hid hsz
  clear hsz
  have hb01 : Below w.heap.size w w1 := hb0.trans (hb1.mono hs0)
  have hp1 := h.below hb01
  have HF0 := Lib.hid h.1
  have HB01 := Lib.hid hb01
  have k0 : w1.cell? ⟨w.heap.size + 1, 0, none⟩ = some (.int .i64 10) := hE.cell 0
  have k3 : w1.cell? ⟨w.heap.size + 1, 3, none⟩ = some (.int .i64 n) := hE.cell 3
  have HE : Hid (StepP w F c D (m + 1) (.int .i64 1) p (.returned (.int .i64 1)) w1) := Lib.hid (StepP.same (h.mono (Nat.le_succ m)) hb01)
  clear hw0 hX hb0 hb1 hE hX1 hw1 hb01 hp1 h
  by_cases h1 : n < 1
  · go_enter Try.func42, Try.ntmps42
    go_upto_region 1 with fail
    rw [← HW.out, ← HW1.out]
    go_wp2
    go_ret
    exact HE.out
  · have h2 : n > 16 := by omega
    go_enter Try.func42, Try.ntmps42
    go_upto_region 1 with fail
    rw [← HW.out, ← HW1.out]
    go_wp2
    go_ret
    exact HE.out
set_option maxRecDepth 100000 in
set_option maxHeartbeats 1600000 in
theorem turn_10yes (hc : c.Ok) (h : PNx w F c D p m) (hm : m < 17592186044416) {i j : Nat} (hi : i < c.n) (hj : j < c.n) (a b n : Int) (BA SA : Option Addr) (bn bc sn sc : Nat) (d : Nat) (hd : n = (d : Int)) (hd1 : 1 ≤ d) (hd2 : d ≤ 16) : Calls Try.prog 42 #[.pointer (some ⟨D, 0, none⟩), .agg #[.int .i64 (i : Int), .int .i64 (j : Int)], .agg #[.int .i64 10, .int .i64 a, .int .i64 b, .int .i64 n, .slice BA bn bc, .int .i64 0, .int .i64 0, .int .i64 0, .int .i64 0, .string ByteArray.empty, .string ByteArray.empty, .string ByteArray.empty, .slice SA sn sc]] w (StepP w F c D (m + 1) (.int .i64 0) ({ p with slow := upd2 p.slow i j (slowV d) })) := by
  have hn := hc.2.1
  have hb0 := one_box' w (.cells #[.int .i64 (i : Int), .int .i64 (j : Int)] 89)
  have hX := Blk.new w 89 #[.int .i64 (i : Int), .int .i64 (j : Int)]
  obtain ⟨w0, hw0⟩ : ∃ w0, w0 = w.alloc (.cells #[.int .i64 (i : Int), .int .i64 (j : Int)] 89) := ⟨_, rfl⟩
  rw [← hw0] at hb0 hX
  have HW := Lib.hid hw0
  have hs0 := hb0.size
  have hb1 := one_box' w0 (.cells #[.int .i64 10, .int .i64 a, .int .i64 b, .int .i64 n, .slice BA bn bc, .int .i64 0, .int .i64 0, .int .i64 0, .int .i64 0, .string ByteArray.empty, .string ByteArray.empty, .string ByteArray.empty, .slice SA sn sc] 41)
  have hE := Blk.new w0 41 #[.int .i64 10, .int .i64 a, .int .i64 b, .int .i64 n, .slice BA bn bc, .int .i64 0, .int .i64 0, .int .i64 0, .int .i64 0, .string ByteArray.empty, .string ByteArray.empty, .string ByteArray.empty, .slice SA sn sc]
  have hX1 := hX.over hb1
  have hsz : w0.heap.size = w.heap.size + 1 := by rw [hw0]; simp
  rw [hsz] at hE
  obtain ⟨w1, hw1⟩ : ∃ w1, w1 = w0.alloc (.cells #[.int .i64 10, .int .i64 a, .int .i64 b, .int .i64 n, .slice BA bn bc, .int .i64 0, .int .i64 0, .int .i64 0, .int .i64 0, .string ByteArray.empty, .string ByteArray.empty, .string ByteArray.empty, .slice SA sn sc] 41) := ⟨_, rfl⟩
  rw [← hw1] at hb1 hE hX1
  have HW1 := Lib.hid hw1
  have HSZ := Lib.hid hsz
  clear hsz
  have hb01 : Below w.heap.size w w1 := hb0.trans (hb1.mono hs0)
  have hp1 := h.below hb01
  have HF0 := Lib.hid h.1
  have HB01 := Lib.hid hb01
  have k0 : w1.cell? ⟨w.heap.size + 1, 0, none⟩ = some (.int .i64 10) := hE.cell 0
  have k3 : w1.cell? ⟨w.heap.size + 1, 3, none⟩ = some (.int .i64 n) := hE.cell 3
  obtain ⟨w2, hw2⟩ : ∃ w2, w2 = w1.drew := ⟨_, rfl⟩
  have hp2 : PNx w2 F c D p m := by rw [hw2]; exact hp1.below (below_drewN (Below.refl _ _) 1)
  have hb2 : Below w.heap.size w w2 := by rw [hw2]; exact below_drewN hb01 1
  have x0 : w2.cell? ⟨w.heap.size, 0, none⟩ = some (.int .i64 (i : Int)) := by rw [hw2]; exact hX1.cell 0
  have x1 : w2.cell? ⟨w.heap.size, 1, none⟩ = some (.int .i64 (j : Int)) := by rw [hw2]; exact hX1.cell 1
  have e3 : w2.cell? ⟨w.heap.size + 1, 3, none⟩ = some (.int .i64 n) := by rw [hw2]; exact hE.cell 3
  have HW2 := Lib.hid hw2
  have HB2 := Lib.hid hb2
  obtain ⟨hF, P, S, L, v, X, hP⟩ := hp2
  have HP := Lib.hid hP
  have g4 : w2.cell? ⟨D, 4, none⟩ = some (.map (some S)) := hP.blk.cell 4
  have g5 : w2.cell? ⟨D, 5, none⟩ = some (.map (some L)) := hP.blk.cell 5
  clear hw0 hX hb0 hb1 hE hX1 hw1 hb01 hp1 hw2 hb2 hP h
  have h1 : ¬ n < 1 := by omega
  have h2 : ¬ n > 16 := by omega
  have HD := Lib.hid hd
  clear hd
  go_enter Try.func42, Try.ntmps42
  go_upto_region 1 with fail
  rw [← HW.out, ← HW1.out]
  go_upto_region 9 with fail
  refine region_tail 7 (by kernel_rfl) (by kernel_rfl) ?_
  simp only [List.take_succ_cons, List.take_zero, List.drop_succ_cons, List.drop_zero]
  rw [← HW2.out]
  repeat still_step
  refine wpStill_nil ?_
  change wpList _ _ _ _ _ w2
  refine mapPut (by rfl) _ _ _ (by rfl) (by rfl) HP.out.slow (by simp only [maxLen]; omega) (p := i) (q := j) (z := d) (by omega) (by omega) (by rfl) (by rw [← HD.out]; rfl) (by omega) ?_
  intro w3 hz3 hg3
  have hch : Chg (fun k => some k = some L) w2 w3 := Chg.of_grown hg3
  have hEB : Blk w2 (w.heap.size + 1) 41 #[.int .i64 10, .int .i64 a, .int .i64 b, .int .i64 n, .slice BA bn bc, .int .i64 0, .int .i64 0, .int .i64 0, .int .i64 0, .string ByteArray.empty, .string ByteArray.empty, .string ByteArray.empty, .slice SA sn sc] := by rw [HW2.out, HW1.out, ← HSZ.out]; exact (Blk.new w0 41 #[.int .i64 10, .int .i64 a, .int .i64 b, .int .i64 n, .slice BA bn bc, .int .i64 0, .int .i64 0, .int .i64 0, .int .i64 0, .string ByteArray.empty, .string ByteArray.empty, .string ByteArray.empty, .slice SA sn sc])
  have hneE : ¬ some (w.heap.size + 1) = some L := fun e => HP.out.slow.ne_blk hEB (by injection e with e; exact e.symm)
  have q3 : w3.cell? ⟨w.heap.size + 1, 3, none⟩ = some (.int .i64 n) := (hEB.chg hch hneE).cell 3
  have HXB : Blk w2 w.heap.size 89 #[.int .i64 (i : Int), .int .i64 (j : Int)] := by rw [HW2.out, HW1.out]; exact ((HW.out ▸ Blk.new w 89 #[.int .i64 (i : Int), .int .i64 (j : Int)]).alloc _)
  have hneX : ¬ some w.heap.size = some L := fun e => HP.out.slow.ne_blk HXB (by injection e with e; exact e.symm)
  have HP3 : Hid (PN w3 F c D { p with slow := upd2 p.slow i j d } (m + 1) P S L v X) := Lib.hid ((HP.out.mono (Nat.le_succ m)).setL hg3 (hz3.mono (by omega)) rfl rfl rfl rfl)
  have hF3 : ∀ k, F k → k < w3.heap.size := fun k hk => Nat.lt_of_lt_of_le (hF k hk) hg3.size
  have HG3 := Lib.hid hg3
  have HZ3 := Lib.hid hz3
  by_cases h4 : n = 1
  · have e4 : (n == 1) = true := by simpa using h4
    have HD1 : Hid (d = 1) := Lib.hid (by have := HD.out; omega)
    obtain ⟨w4, hw4⟩ : ∃ w4, w4 = w3.drew := ⟨_, rfl⟩
    have hP4 : PN w4 F c D { p with slow := upd2 p.slow i j d } (m + 1) P S L v X := by rw [hw4]; exact HP3.out.below hF3 (below_drewN (Below.refl _ _) 1)
    have u5 : w4.cell? ⟨D, 5, none⟩ = some (.map (some L)) := hP4.blk.cell 5
    have u0 : w4.cell? ⟨w.heap.size, 0, none⟩ = some (.int .i64 (i : Int)) := by rw [hw4]; exact (HXB.chg hch hneX).cell 0
    have u1 : w4.cell? ⟨w.heap.size, 1, none⟩ = some (.int .i64 (j : Int)) := by rw [hw4]; exact (HXB.chg hch hneX).cell 1
    have HZ4 : Hid (MapZ w4 L (256 + m + 1) (upd2 p.slow i j d)) := Lib.hid (by rw [hw4]; exact HZ3.out.chg ((Chg.refl (fun _ => False) w3).drewN 1) fun h => h)
    have HC4 : Hid (Chg F w w4) := Lib.hid (by rw [hw4]; exact ((Chg.of_below HB2.out F).thenS hch fun k _ e => by injection e with e; rw [e]; exact HP.out.fl).drewN 1)
    have hF4 : ∀ k, F k → k < w4.heap.size := by rw [hw4]; exact hF3
    have HP4 := Lib.hid hP4
    have HW4 := Lib.hid hw4
    clear h4 hz3 hg3 hch hneX hneE hEB HXB hw4 hP4
    go_upto_region 11 with fail
    refine region_tail 5 (by kernel_rfl) (by kernel_rfl) ?_
    simp only [List.take_succ_cons, List.take_zero, List.drop_succ_cons, List.drop_zero]
    rw [← HW4.out]
    repeat still_step
    refine wpStill_nil ?_
    change wpList _ _ _ _ _ w4
    refine mapDel (by rfl) _ _ (by rfl) (by rfl) HZ4.out (p := i) (q := j) (by omega) (by omega) (by rfl) ?_
    intro w5 hz5 hg5
    have HS : Hid (StepP w F c D (m + 1) (.int .i64 0) { p with slow := upd2 p.slow i j (slowV d) } (.returned (.int .i64 0)) w5) := Lib.hid ⟨rfl, F, ⟨fun k hk => Nat.lt_of_lt_of_le (hF4 k hk) hg5.size, P, S, L, v, X, HP4.out.setL (p' := { p with slow := upd2 p.slow i j (slowV d) }) hg5 ((hz5.mono (by omega)).congr fun a b _ _ => by simp only [upd2, slowV, if_pos HD1.out]; by_cases e : a = i ∧ b = j <;> simp [e]) rfl rfl rfl rfl⟩, fun _ h => .inl h, HC4.out.thenS (Chg.of_grown hg5) fun k _ e => by injection e with e; rw [e]; exact HP4.out.fl⟩
    clear hz5 hg5
    go_wp2
    go_ret
    exact HS.out
  · have e4 : (n == 1) = false := by simpa using h4
    have HD1 : Hid (¬ d = 1) := Lib.hid (by have := HD.out; omega)
    have HS : Hid (StepP w F c D (m + 1) (.int .i64 0) { p with slow := upd2 p.slow i j (slowV d) } (.returned (.int .i64 0)) w3) := Lib.hid (by rw [slowV, if_neg HD1.out]; exact StepP.grown HF0.out HB2.out HG3.out HP.out.fl ⟨hF3, P, S, L, v, X, HP3.out⟩)
    clear h4 hz3 hg3 hch hneX hneE hEB HXB
    go_wp2
    go_ret
    exact HS.out
end Go.Proofs.Ytgfhmfhhobhojaa
