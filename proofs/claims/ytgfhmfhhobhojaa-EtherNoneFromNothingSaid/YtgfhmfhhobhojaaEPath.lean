/-
  The program's network: Open, delay, Delay.
-/
import Derived.Test.YtgfhmfhhobhojaaEProgN
namespace Go.Proofs.Ytgfhmfhhobhojaa
open Go.ChangeShapes Go.WideShapes Go.ChangeAt Go.RowKit
variable {w : World} {F : Nat → Prop} {c : ECfg} {D : Nat} {p : PV} {m : Nat}
def openB (c : ECfg) (shut : Nat → Nat → Bool) (a b : Int) : Bool := joinB c a b && !shut a.toNat b.toNat
def delayA (c : ECfg) (slow : Nat → Nat → Nat) (a b : Int) : Int := if joinB c a b = true then (max 1 (slow a.toNat b.toNat) : Nat) else 0
/-- What a walk reads of a world in which the network stands. -/
theorem PN.lookS {P S L : Nat} {v : Value} {X : List (Flt × Nat)} (h : PN w F c D p m P S L v X) {i j : Nat} (hi : i < 16) (hj : j < 16) {x : Int} (hx : (if p.shut i j = true then 1 else 0) = x) (W : World) (hb : Below w.heap.size w W) (hF : ∀ k, F k → k < w.heap.size) :
    (Instr.lookup 79 (.map (some S)) (.agg #[.int .i64 (i : Int), .int .i64 (j : Int)]) false).run Try.prog W = .ok (.int .i64 x) W := by
  have h1 := ((h.below hF hb).shut.look hi hj)
  unfold pathV at h1
  rw [h1, ← hx]
  split <;> rfl
theorem joins_is (h : PNx w F c D p m) {a b : Int} {x : Bool} (hx : joinB c a b = x) : Calls Try.prog 41 #[.pointer (some ⟨D, 0, none⟩), .agg #[.int .i64 a, .int .i64 b]] w fun e w' => e = .returned (.bool x) ∧ Below w.heap.size w w' := by
  rw [← hx]; exact joins_any h a b
theorem PN.lookL {P S L : Nat} {v : Value} {X : List (Flt × Nat)} (h : PN w F c D p m P S L v X) {i j : Nat} (hi : i < 16) (hj : j < 16) (W : World) (hb : Below w.heap.size w W) (hF : ∀ k, F k → k < w.heap.size) :
    (Instr.lookup 79 (.map (some L)) (.agg #[.int .i64 (i : Int), .int .i64 (j : Int)]) false).run Try.prog W = .ok (.int .i64 (p.slow i j : Int)) W := (h.below hF hb).slow.look hi hj
set_option maxRecDepth 100000 in
set_option maxHeartbeats 1600000 in
theorem Open_any (hc : c.Ok) (h : PNx w F c D p m) (a b : Int) : Calls Try.prog 47 #[.pointer (some ⟨D, 0, none⟩), .int .i64 a, .int .i64 b] w fun e w' => e = .returned (.bool (openB c p.shut a b)) ∧ Below w.heap.size w w' := by
  have hn := hc.2.1
  have hb0 := one_box' w (.cells #[.int .i64 a, .int .i64 b] 89)
  have hX := Blk.new w 89 #[.int .i64 a, .int .i64 b]
  have hp := h.below hb0
  obtain ⟨w0, hw0⟩ : ∃ w0, w0 = w.alloc (.cells #[.int .i64 a, .int .i64 b] 89) := ⟨_, rfl⟩
  rw [← hw0] at hb0 hX hp
  have HW := Lib.hid hw0
  have HB := Lib.hid hb0
  have hs0 := hb0.size
  have HX := Lib.hid hX
  have hxd : w0.drew.cell? ⟨w.heap.size, 0, none⟩ = some (.int .i64 a) ∧ w0.drew.cell? ⟨w.heap.size, 1, none⟩ = some (.int .i64 b) := ⟨hX.cell 0, hX.cell 1⟩
  rcases joinB_cases c a b with ⟨i, j, rfl, rfl, hi, hj, hij, hJ⟩ | hJ
  · have HE : Hid (joinB c (i : Int) (j : Int) = true) := Lib.hid hJ
    obtain ⟨hF, P, S, L, v, X, hP⟩ := hp
    cases hs : p.shut i j with
    | true =>
      have HLK := Lib.hid fun (W : World) (hW : Below w0.heap.size w0 W) => hP.lookS (by omega : i < 16) (by omega : j < 16) (x := 1) (by rw [hs]; rfl) W hW hF
      have HC : Hid (∀ W, Below w0.heap.size w0 W → W.cell? ⟨D, 4, none⟩ = some (.map (some S)) ∧ W.cell? ⟨w.heap.size, 0, none⟩ = some (.int .i64 (i : Int)) ∧ W.cell? ⟨w.heap.size, 1, none⟩ = some (.int .i64 (j : Int))) := Lib.hid fun W hW => ⟨(hP.below hF hW).blk.cell 4, (HX.out.over hW).cell 0, (HX.out.over hW).cell 1⟩
      have HJ := Lib.hid fun (W : World) (hW : Below w0.heap.size w0 W) => joins_is (h.below (hb0.trans (hW.mono hs0))) hJ
      have HS := Lib.hid hs
      clear hw0 hX hb0 hP h hxd hJ hs
      go_enter Try.func47, Try.ntmps47
      go_upto_region 2 with fail
      rw [← HW.out]
      have hx0 := HC.out w0.drew (below_drewN (Below.refl _ _) 1)
      go_region_held3 (fun w' => w'.cell? ⟨D, 4, none⟩ = some (.map (some S)) ∧ w'.cell? ⟨w.heap.size, 0, none⟩ = some (.int .i64 (i : Int)) ∧ w'.cell? ⟨w.heap.size, 1, none⟩ = some (.int .i64 (j : Int))) ((first | exact hx1 | exact hx0)) ((go_at_call 41; refine (HJ.out w0.drew (below_drewN (Below.refl _ _) 1)).mono ?_; rintro _ w1 ⟨rfl, hb1⟩; have hbw1 : Below w0.heap.size w0 w1 := (below_drewN (Below.refl _ _) 1).trans hb1; have hx1 := HC.out w1 hbw1; have hlk := HLK.out w1 hbw1))
      all_goals
        have HE2 := Lib.hid hbw1
        clear hlk hx0 hx1 hb1 hbw1
        go_wp2
        go_ret
        exact ⟨ret_bool (by unfold openB; rw [HE.out]; simp only [Int.toNat_natCast]; rw [HS.out]; rfl), HB.out.trans (HE2.out.mono hs0)⟩
    | false =>
      have HLK := Lib.hid fun (W : World) (hW : Below w0.heap.size w0 W) => hP.lookS (by omega : i < 16) (by omega : j < 16) (x := 0) (by rw [hs]; rfl) W hW hF
      have HC : Hid (∀ W, Below w0.heap.size w0 W → W.cell? ⟨D, 4, none⟩ = some (.map (some S)) ∧ W.cell? ⟨w.heap.size, 0, none⟩ = some (.int .i64 (i : Int)) ∧ W.cell? ⟨w.heap.size, 1, none⟩ = some (.int .i64 (j : Int))) := Lib.hid fun W hW => ⟨(hP.below hF hW).blk.cell 4, (HX.out.over hW).cell 0, (HX.out.over hW).cell 1⟩
      have HJ := Lib.hid fun (W : World) (hW : Below w0.heap.size w0 W) => joins_is (h.below (hb0.trans (hW.mono hs0))) hJ
      have HS := Lib.hid hs
      clear hw0 hX hb0 hP h hxd hJ hs
      go_enter Try.func47, Try.ntmps47
      go_upto_region 2 with fail
      rw [← HW.out]
      have hx0 := HC.out w0.drew (below_drewN (Below.refl _ _) 1)
      go_region_held3 (fun w' => w'.cell? ⟨D, 4, none⟩ = some (.map (some S)) ∧ w'.cell? ⟨w.heap.size, 0, none⟩ = some (.int .i64 (i : Int)) ∧ w'.cell? ⟨w.heap.size, 1, none⟩ = some (.int .i64 (j : Int))) ((first | exact hx1 | exact hx0)) ((go_at_call 41; refine (HJ.out w0.drew (below_drewN (Below.refl _ _) 1)).mono ?_; rintro _ w1 ⟨rfl, hb1⟩; have hbw1 : Below w0.heap.size w0 w1 := (below_drewN (Below.refl _ _) 1).trans hb1; have hx1 := HC.out w1 hbw1; have hlk := HLK.out w1 hbw1))
      all_goals
        have HE2 := Lib.hid hbw1
        clear hlk hx0 hx1 hb1 hbw1
        go_wp2
        go_ret
        exact ⟨ret_bool (by unfold openB; rw [HE.out]; simp only [Int.toNat_natCast]; rw [HS.out]; rfl), HB.out.trans (HE2.out.mono hs0)⟩
  · have HE : Hid (joinB c a b = false) := Lib.hid hJ
    have HJ := Lib.hid fun (W : World) (hW : Below w0.heap.size w0 W) => joins_is (h.below (hb0.trans (hW.mono hs0))) hJ
    clear hw0 hX hb0 hp h hJ
    go_enter Try.func47, Try.ntmps47
    go_upto_region 2 with fail
    rw [← HW.out]
    refine wp_region_held_drew (S := (fun w' => w'.cell? ⟨w.heap.size, 0, none⟩ = some (.int .i64 a) ∧ w'.cell? ⟨w.heap.size, 1, none⟩ = some (.int .i64 b))) (by kernel_rfl) hxd (fun hHeld => ?_)
    refine wpAnyH_take (i := 0) (oi := ?oi0a) (v := ?v0a) ?hi0a (by kernel_rfl) (by kernel_rfl) (by kernel_rfl) ?hq0a ?hy0a (by assumption) ?rest0a
    case hi0a => (simp only [List.getElem?_toArray, List.getElem?_cons_zero]; rfl)
    case hy0a => (refine Or.inl ⟨by rfl, ?_⟩; intro w hSw; (try dsimp only at hSw); go_simp; try with_reducible rfl)
    case hq0a => exact fun _ _ _ h => h
    try simp only [Act.put, List.setIfInBounds_toArray, List.set_cons_zero, List.set_cons_succ]
    refine wpAnyH_take (i := 1) (oi := ?oi1a) (v := ?v1a) ?hi1a (by kernel_rfl) (by kernel_rfl) (by kernel_rfl) ?hq1a ?hy1a (by assumption) ?rest1a
    case hi1a => (simp only [List.getElem?_toArray, List.getElem?_cons_zero, List.getElem?_cons_succ]; rfl)
    case hy1a => (refine Or.inl ⟨by rfl, ?_⟩; intro w hSw; (try dsimp only at hSw); go_simp; try with_reducible rfl)
    case hq1a => exact fun _ _ _ h => h
    try simp only [Act.put, List.setIfInBounds_toArray, List.set_cons_zero, List.set_cons_succ]
    refine wpAnyH_ready (rs := [2]) (by kernel_rfl) (by simp) ?_
    refine AllReadyH.cons (o := ?o2p0) ?ho2p0 (fun K hK => ?st2p0) ?mo2p0
    case ho2p0 => (simp only [List.getElem?_toArray, List.getElem?_cons_zero, List.getElem?_cons_succ]; rfl)
    · skip
      go_simp
      go_wp2_with ((go_at_call 41; refine (HJ.out w0.drew (below_drewN (Below.refl _ _) 1)).mono ?_; rintro _ w1 ⟨rfl, hb1⟩; have hbw1 : Below w0.heap.size w0 w1 := (below_drewN (Below.refl _ _) 1).trans hb1))
      refine hK.out _ _ ⟨(HX.out.over hbw1).cell 0, (HX.out.over hbw1).cell 1⟩ (fun hHeld1 => ?_)
      clear hK K
      try simp only [Act.put, List.setIfInBounds_toArray, List.set_cons_zero, List.set_cons_succ]
      refine wpAnyH_take (i := 3) (oi := ?oi3b) (v := ?v3b) ?hi3b (by kernel_rfl) (by kernel_rfl) (by kernel_rfl) ?hq3b ?hy3b (by assumption) ?rest3b
      case hi3b => (simp only [List.getElem?_toArray, List.getElem?_cons_zero, List.getElem?_cons_succ]; rfl)
      case hy3b => (refine Or.inl ⟨by rfl, ?_⟩; intro w hSw; (try dsimp only at hSw); go_simp; try with_reducible rfl)
      case hq3b => exact fun _ _ _ h => h
      try simp only [Act.put, List.setIfInBounds_toArray, List.set_cons_zero, List.set_cons_succ]
      refine wpAnyH_take (i := 4) (oi := ?oi4c) (v := undef) ?hi4c (by kernel_rfl) (by kernel_rfl) (by kernel_rfl) ?hq4c ?hy4c (by assumption) ?rest4c
      case hi4c => (simp only [List.getElem?_toArray, List.getElem?_cons_zero, List.getElem?_cons_succ]; rfl)
      case hy4c => exact Or.inr ⟨by rfl, rfl⟩
      case hq4c => exact fun _ _ _ h => h
      try simp only [Act.put, List.setIfInBounds_toArray, List.set_cons_zero, List.set_cons_succ]
      refine wpAnyH_take (i := 5) (oi := ?oi5c) (v := undef) ?hi5c (by kernel_rfl) (by kernel_rfl) (by kernel_rfl) ?hq5c ?hy5c (by assumption) ?rest5c
      case hi5c => (simp only [List.getElem?_toArray, List.getElem?_cons_zero, List.getElem?_cons_succ]; rfl)
      case hy5c => exact Or.inr ⟨by rfl, rfl⟩
      case hq5c => exact fun _ _ _ h => h
      try simp only [Act.put, List.setIfInBounds_toArray, List.set_cons_zero, List.set_cons_succ]
      refine wpAnyH_take (i := 6) (oi := ?oi6c) (v := undef) ?hi6c (by kernel_rfl) (by kernel_rfl) (by kernel_rfl) ?hq6c ?hy6c (by assumption) ?rest6c
      case hi6c => (simp only [List.getElem?_toArray, List.getElem?_cons_zero, List.getElem?_cons_succ]; rfl)
      case hy6c => exact Or.inr ⟨by rfl, rfl⟩
      case hq6c => exact fun _ _ _ h => h
      try simp only [Act.put, List.setIfInBounds_toArray, List.set_cons_zero, List.set_cons_succ]
      refine wpAnyH_take (i := 7) (oi := ?oi7c) (v := undef) ?hi7c (by kernel_rfl) (by kernel_rfl) (by kernel_rfl) ?hq7c ?hy7c (by assumption) ?rest7c
      case hi7c => (simp only [List.getElem?_toArray, List.getElem?_cons_zero, List.getElem?_cons_succ]; rfl)
      case hy7c => exact Or.inr ⟨by rfl, rfl⟩
      case hq7c => exact fun _ _ _ h => h
      try simp only [Act.put, List.setIfInBounds_toArray, List.set_cons_zero, List.set_cons_succ]
      refine wpAnyH_take (i := 8) (oi := ?oi8c) (v := undef) ?hi8c (by kernel_rfl) (by kernel_rfl) (by kernel_rfl) ?hq8c ?hy8c (by assumption) ?rest8c
      case hi8c => (simp only [List.getElem?_toArray, List.getElem?_cons_zero, List.getElem?_cons_succ]; rfl)
      case hy8c => exact Or.inr ⟨by rfl, rfl⟩
      case hq8c => exact fun _ _ _ h => h
      try simp only [Act.put, List.setIfInBounds_toArray, List.set_cons_zero, List.set_cons_succ]
      refine wpAnyH_take (i := 9) (oi := ?oi9c) (v := undef) ?hi9c (by kernel_rfl) (by kernel_rfl) (by kernel_rfl) ?hq9c ?hy9c (by assumption) ?rest9c
      case hi9c => (simp only [List.getElem?_toArray, List.getElem?_cons_zero, List.getElem?_cons_succ]; rfl)
      case hy9c => exact Or.inr ⟨by rfl, rfl⟩
      case hq9c => exact fun _ _ _ h => h
      try simp only [Act.put, List.setIfInBounds_toArray, List.set_cons_zero, List.set_cons_succ]
      refine wpAnyH_take (i := 10) (oi := ?oi10c) (v := undef) ?hi10c (by kernel_rfl) (by kernel_rfl) (by kernel_rfl) ?hq10c ?hy10c (by assumption) ?rest10c
      case hi10c => (simp only [List.getElem?_toArray, List.getElem?_cons_zero, List.getElem?_cons_succ]; rfl)
      case hy10c => exact Or.inr ⟨by rfl, rfl⟩
      case hq10c => exact fun _ _ _ h => h
      try simp only [Act.put, List.setIfInBounds_toArray, List.set_cons_zero, List.set_cons_succ]
      refine wpAnyH_take (i := 11) (oi := ?oi11d) (v := ?v11d) ?hi11d (by kernel_rfl) (by kernel_rfl) (by kernel_rfl) ?hq11d ?hy11d (by assumption) ?rest11d
      case hi11d => (simp only [List.getElem?_toArray, List.getElem?_cons_zero, List.getElem?_cons_succ]; rfl)
      case hy11d => (refine Or.inl ⟨by rfl, ?_⟩; intro w hSw; (try dsimp only at hSw); go_simp; try with_reducible rfl)
      case hq11d => exact fun _ _ _ h => h
      try simp only [Act.put, List.setIfInBounds_toArray, List.set_cons_zero, List.set_cons_succ]
      refine wpAnyH_take (i := 12) (oi := ?oi12d) (v := ?v12d) ?hi12d (by kernel_rfl) (by kernel_rfl) (by kernel_rfl) ?hq12d ?hy12d (by assumption) ?rest12d
      case hi12d => (simp only [List.getElem?_toArray, List.getElem?_cons_zero, List.getElem?_cons_succ]; rfl)
      case hy12d => (refine Or.inl ⟨by rfl, ?_⟩; intro w hSw; (try dsimp only at hSw); go_simp; try with_reducible rfl)
      case hq12d => exact fun _ _ _ h => h
      try simp only [Act.put, List.setIfInBounds_toArray, List.set_cons_zero, List.set_cons_succ]
      refine wpAnyH_done (by kernel_rfl) ?_ _
      have HE2 := Lib.hid hbw1
      clear hxd hb1 hbw1
      go_wp2
      go_ret
      exact ⟨ret_bool (by unfold openB; rw [HE.out]; simp), HB.out.trans (HE2.out.mono hs0)⟩
    · exact AllReadyH.nil
set_option maxRecDepth 100000 in
theorem delay_any (hc : c.Ok) (h : PNx w F c D p m) {i j : Nat} (hi : i < c.n) (hj : j < c.n) : Calls Try.prog 46 #[.pointer (some ⟨D, 0, none⟩), .agg #[.int .i64 (i : Int), .int .i64 (j : Int)]] w fun e w' => e = .returned (.int .i64 ((max 1 (p.slow i j) : Nat) : Int)) ∧ Below w.heap.size w w' := by
  have hn := hc.2.1
  have hb0 := one_box' w (.cells #[.int .i64 (i : Int), .int .i64 (j : Int)] 89)
  have hX := Blk.new w 89 #[.int .i64 (i : Int), .int .i64 (j : Int)]
  have hp := h.below hb0
  obtain ⟨w0, hw0⟩ : ∃ w0, w0 = w.alloc (.cells #[.int .i64 (i : Int), .int .i64 (j : Int)] 89) := ⟨_, rfl⟩
  rw [← hw0] at hb0 hX hp
  have HW := Lib.hid hw0
  have HB := Lib.hid hb0
  obtain ⟨hF, P, S, L, v, X, hP⟩ := hp
  have hlk := hP.lookL (by omega : i < 16) (by omega : j < 16) w0.drew (below_drewN (Below.refl _ _) 1) hF
  have hx0 : w0.drew.cell? ⟨D, 5, none⟩ = some (.map (some L)) ∧ w0.drew.cell? ⟨w.heap.size, 0, none⟩ = some (.int .i64 (i : Int)) ∧ w0.drew.cell? ⟨w.heap.size, 1, none⟩ = some (.int .i64 (j : Int)) := ⟨hP.blk.cell 5, hX.cell 0, hX.cell 1⟩
  clear hw0 hX hb0 hP h
  go_enter Try.func46, Try.ntmps46
  go_upto_region 1 with fail
  rw [← HW.out]
  go_region_held3 (fun w' => w'.cell? ⟨D, 5, none⟩ = some (.map (some L)) ∧ w'.cell? ⟨w.heap.size, 0, none⟩ = some (.int .i64 (i : Int)) ∧ w'.cell? ⟨w.heap.size, 1, none⟩ = some (.int .i64 (j : Int))) ((exact hx0)) (fail)
  all_goals
    go_wp2
    all_goals
      go_ret
      exact ⟨ret_int (by omega), below_drewN HB.out 1⟩
set_option maxRecDepth 100000 in
theorem Delay_any (hc : c.Ok) (h : PNx w F c D p m) (a b : Int) : Calls Try.prog 57 #[.pointer (some ⟨D, 0, none⟩), .int .i64 a, .int .i64 b] w fun e w' => e = .returned (.int .i64 (delayA c p.slow a b)) ∧ Below w.heap.size w w' := by
  have hb0 := one_box' w (.cells #[.int .i64 a, .int .i64 b] 89)
  have hX := Blk.new w 89 #[.int .i64 a, .int .i64 b]
  have hp := h.below hb0
  obtain ⟨w0, hw0⟩ : ∃ w0, w0 = w.alloc (.cells #[.int .i64 a, .int .i64 b] 89) := ⟨_, rfl⟩
  rw [← hw0] at hb0 hX hp
  have HW := Lib.hid hw0
  have HB := Lib.hid hb0
  have hs0 := hb0.size
  have HX := Lib.hid hX
  have x0 : w0.cell? ⟨w.heap.size, 0, none⟩ = some (.int .i64 a) := hX.cell 0
  have x1 : w0.cell? ⟨w.heap.size, 1, none⟩ = some (.int .i64 b) := hX.cell 1
  rcases joinB_cases c a b with ⟨i, j, rfl, rfl, hi, hj, hij, hJ⟩ | hJ
  · have HE : Hid (joinB c (i : Int) (j : Int) = true) := Lib.hid hJ
    have HJ := Lib.hid (joins_is hp hJ)
    have HD := Lib.hid fun (W : World) (hW : Below w0.heap.size w0 W) => delay_any hc (hp.below hW) hi hj
    clear hw0 hX hb0 hp h hJ
    go_enter Try.func57, Try.ntmps57
    go_upto_region 2 with fail
    rw [← HW.out]
    go_wp2_with fail
    refine HJ.out.mono ?_
    rintro _ w1 ⟨rfl, hb1⟩
    have y0 : w1.cell? ⟨w.heap.size, 0, none⟩ = some (.int .i64 (i : Int)) := (HX.out.over hb1).cell 0
    have y1 : w1.cell? ⟨w.heap.size, 1, none⟩ = some (.int .i64 (j : Int)) := (HX.out.over hb1).cell 1
    have HB1 := Lib.hid hb1
    clear x0 x1 hb1
    go_wp2_with fail
    refine (HD.out w1 HB1.out).mono ?_
    rintro _ w2 ⟨rfl, hb2⟩
    have HB2 : Hid (Below w.heap.size w w2) := Lib.hid (HB.out.trans ((HB1.out.trans (hb2.mono HB1.out.size)).mono hs0))
    clear hb2
    go_wp2
    go_ret
    exact ⟨ret_int (by rw [delayA, if_pos HE.out]; rfl), HB2.out⟩
  · have HE : Hid (joinB c a b = false) := Lib.hid hJ
    have HJ := Lib.hid (joins_is hp hJ)
    clear hw0 hX hb0 hp h hJ
    go_enter Try.func57, Try.ntmps57
    go_upto_region 2 with fail
    rw [← HW.out]
    go_wp2_with fail
    refine HJ.out.mono ?_
    rintro _ w1 ⟨rfl, hb1⟩
    have HB1 : Hid (Below w.heap.size w w1) := Lib.hid (HB.out.trans (hb1.mono hs0))
    clear hb1 x0 x1
    go_wp2
    go_ret
    exact ⟨ret_int (by rw [delayA, if_neg (by rw [HE.out]; simp)]), HB1.out⟩
end Go.Proofs.Ytgfhmfhhobhojaa
