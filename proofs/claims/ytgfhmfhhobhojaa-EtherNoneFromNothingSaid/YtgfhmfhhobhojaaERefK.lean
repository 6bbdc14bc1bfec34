/-
  The document's network: Post, Take.
-/
import Derived.Test.YtgfhmfhhobhojaaERefO
namespace Go.Proofs.Ytgfhmfhhobhojaa
open Go.ChangeShapes Go.WideShapes Go.ChangeAt Go.RowKit
variable {w : World} {F : Nat → Prop} {c : ECfg} {D : Nat} {r : RV}
structure RFine (r : RV) : Prop where
  all : r.all.length ≤ 1099511627776
  now : r.now ≤ 4611686018427387904
  slow : ∀ i j, i < 16 → j < 16 → r.slow i j ≤ 16
  fl : ∀ x ∈ r.all, x.1.src < 16 ∧ x.1.dst < 16 ∧ x.1.due ≤ 4611686018427387904 ∧ x.1.bs.length ≤ 40000
set_option maxRecDepth 100000 in
theorem RPost_any (hc : c.Ok) (h : RNx w F c D r) (hf : RFine r) (a b : Int) (bA : Option Addr) (cap : Nat) (bs : List UInt8) (hr : RdB w w.heap.size bA bs.length bs) (hn : bs.length ≤ 140737488351232) : Calls Try.prog 71 #[.pointer (some ⟨D, 0, none⟩), .int .i64 a, .int .i64 b, .slice bA bs.length cap] w (StepR w F c D (.tuple #[.int .i64 (postRR c r a b bs.length true), .int .i64 (postRE c r a b bs.length true)]) (postRP c r a b bs true)) := by
  have HP := Lib.hid (rpost_any hc h a b bA cap bs hr hn true hf.all hf.now hf.slow)
  clear h hr hf
  go_enter Try.func71, Try.ntmps71
  go_wp2_with (go_at_call 79; refine HP.out.mono ?_; rintro _ w1 hst; have hv := hst.1; subst hv; have HST := Lib.hid hst; clear hst)
  go_ret2
  exact HST.out
def goneRE (r : RV) (f : Flt) : Int := if r.shut f.src f.dst = true then 30 else if r.up f.dst = true then 0 else 32
def RTakeNo (w : World) (F : Nat → Prop) (c : ECfg) (D : Nat) (r : RV) (err : Int) (e : Ending) (w' : World) : Prop :=
  e = .returned (.tuple #[.agg #[.int .i64 0, .int .i64 0, .int .i64 0, .int .i64 0, .slice none 0 0], .int .i64 err]) ∧ RNx w' F c D r ∧ Below w.heap.size w w'
def RTakeYes (w : World) (F : Nat → Prop) (c : ECfg) (D : Nat) (r : RV) (i : Nat) (f : Flt) (e : Ending) (w' : World) : Prop :=
  ∃ uA uc, e = .returned (.tuple #[.agg #[.int .i64 (f.id : Int), .int .i64 (f.src : Int), .int .i64 (f.dst : Int), .int .i64 (f.due : Int), .slice uA f.bs.length uc], .int .i64 0]) ∧ RNx w' F c D { r with all := r.all.set i (f, true) } ∧ w'.ownsRow w.heap.size 5 1 (.slice uA f.bs.length uc) f.bs.length (bvs f.bs) ∧ Chg F w w'
set_option maxRecDepth 100000 in
set_option maxHeartbeats 3200000 in
theorem RTake_none (_hc : c.Ok) (h : RNx w F c D r) (hf : RFine r) (a : Int) (hno : a < 0 ∨ ((wayOf r.all).length : Int) ≤ a) : Calls Try.prog 74 #[.pointer (some ⟨D, 0, none⟩), .int .i64 a] w (RTakeNo w F c D r 34) := by
  have hb0 := one_box' w (.cells #[.int .i64 0, .int .i64 0, .int .i64 0, .int .i64 0, .slice none 0 0] 48)
  have hZ := Blk.new w 48 #[.int .i64 0, .int .i64 0, .int .i64 0, .int .i64 0, .slice none 0 0]
  obtain ⟨w0, hw0⟩ : ∃ w0, w0 = w.alloc (.cells #[.int .i64 0, .int .i64 0, .int .i64 0, .int .i64 0, .slice none 0 0] 48) := ⟨_, rfl⟩
  rw [← hw0] at hb0 hZ
  have HW0 := Lib.hid hw0
  have hs0 := hb0.size
  have hp0 := h.below hb0
  have HB0 := Lib.hid hb0
  have HP := Lib.hid h
  have HAT := Lib.hid (at_no hp0 hf.all a hno)
  clear hw0 h hp0 _hc hf hno
  go_enter Try.func74, Try.ntmps74
  go_upto_region 1 with fail
  rw [← HW0.out]
  go_upto_region 2 with (go_at_call 81; refine HAT.out.mono ?_; rintro _ w1 ⟨rfl, hb1⟩)
  have HB1 : Hid (Below w.heap.size w w1) := Lib.hid (HB0.out.trans (hb1.mono hs0))
  have hz1 := hZ.over hb1
  clear hb1 hb0 hZ
  have q0 : w1.cell? ⟨w.heap.size, 0, none⟩ = some (.int .i64 0) := (hz1).cell 0
  have qf0 : w1.frozen? ⟨w.heap.size, 0, none⟩ = false := (hz1).frozen 0
  have q1 : w1.cell? ⟨w.heap.size, 1, none⟩ = some (.int .i64 0) := (hz1).cell 1
  have qf1 : w1.frozen? ⟨w.heap.size, 1, none⟩ = false := (hz1).frozen 1
  have q2 : w1.cell? ⟨w.heap.size, 2, none⟩ = some (.int .i64 0) := (hz1).cell 2
  have qf2 : w1.frozen? ⟨w.heap.size, 2, none⟩ = false := (hz1).frozen 2
  have q3 : w1.cell? ⟨w.heap.size, 3, none⟩ = some (.int .i64 0) := (hz1).cell 3
  have qf3 : w1.frozen? ⟨w.heap.size, 3, none⟩ = false := (hz1).frozen 3
  have q4 : w1.cell? ⟨w.heap.size, 4, none⟩ = some (.slice none 0 0) := (hz1).cell 4
  have qf4 : w1.frozen? ⟨w.heap.size, 4, none⟩ = false := (hz1).frozen 4
  obtain ⟨w9, hw9⟩ : ∃ w9, w9 = (((((w1).setCell ⟨w.heap.size, 0, none⟩ (.int .i64 0)).setCell ⟨w.heap.size, 1, none⟩ (.int .i64 0)).setCell ⟨w.heap.size, 2, none⟩ (.int .i64 0)).setCell ⟨w.heap.size, 3, none⟩ (.int .i64 0)).setCell ⟨w.heap.size, 4, none⟩ (.slice none 0 0) := ⟨_, rfl⟩
  have hz9 : Blk w9 w.heap.size 48 #[.int .i64 0, .int .i64 0, .int .i64 0, .int .i64 0, .slice none 0 0] := by rw [hw9]; exact ((((Blk.set_ hz1 0 _).set_ 1 _).set_ 2 _).set_ 3 _).set_ 4 _
  have hb9 : Below w.heap.size w w9 := by
    rw [hw9]
    exact (((((HB1.out).setCell (p := ⟨w.heap.size, 0, none⟩) (Nat.le_refl _) _).setCell (p := ⟨w.heap.size, 1, none⟩) (Nat.le_refl _) _).setCell (p := ⟨w.heap.size, 2, none⟩) (Nat.le_refl _) _).setCell (p := ⟨w.heap.size, 3, none⟩) (Nat.le_refl _) _).setCell (p := ⟨w.heap.size, 4, none⟩) (Nat.le_refl _) _
  have y0 : w9.cell? ⟨w.heap.size, 0, none⟩ = some (.int .i64 0) := hz9.cell 0
  have y1 : w9.cell? ⟨w.heap.size, 1, none⟩ = some (.int .i64 0) := hz9.cell 1
  have y2 : w9.cell? ⟨w.heap.size, 2, none⟩ = some (.int .i64 0) := hz9.cell 2
  have y3 : w9.cell? ⟨w.heap.size, 3, none⟩ = some (.int .i64 0) := hz9.cell 3
  have y4 : w9.cell? ⟨w.heap.size, 4, none⟩ = some (.slice none 0 0) := hz9.cell 4
  have HE : Hid (RTakeNo w F c D r 34 (.returned (.tuple #[.agg #[.int .i64 0, .int .i64 0, .int .i64 0, .int .i64 0, .slice none 0 0], .int .i64 34])) w9) := Lib.hid ⟨rfl, HP.out.below hb9, hb9⟩
  have HW9 := Lib.hid hw9
  clear hw9 hz9 hb9
  clear hz1
  go_wp2_with fail
  rw [← HW9.out]
  go_wp2
  exact bodyPost_ret (v := .tuple #[.agg #[.int .i64 0, .int .i64 0, .int .i64 0, .int .i64 0, .slice none 0 0], .int .i64 34]) (by simp [results, Try.results74, y0, y1, y2, y3, y4, go_sem]) rfl HE.out
set_option maxRecDepth 100000 in
set_option maxHeartbeats 3200000 in
theorem RTake_shut (_hc : c.Ok) (h : RNx w F c D r) (hf : RFine r) (a : Int) {k i : Nat} {f : Flt} (hki : (idxOf r.all)[k]? = some i) (hfi : r.all[i]? = some (f, false)) (ha : a = (k : Int)) (hE : r.shut f.src f.dst = true) : Calls Try.prog 74 #[.pointer (some ⟨D, 0, none⟩), .int .i64 a] w (RTakeNo w F c D r 30) := by
  have hb0 := one_box' w (.cells #[.int .i64 0, .int .i64 0, .int .i64 0, .int .i64 0, .slice none 0 0] 48)
  have hZ := Blk.new w 48 #[.int .i64 0, .int .i64 0, .int .i64 0, .int .i64 0, .slice none 0 0]
  obtain ⟨w0, hw0⟩ : ∃ w0, w0 = w.alloc (.cells #[.int .i64 0, .int .i64 0, .int .i64 0, .int .i64 0, .slice none 0 0] 48) := ⟨_, rfl⟩
  rw [← hw0] at hb0 hZ
  have HW0 := Lib.hid hw0
  have hs0 := hb0.size
  have hp0 := h.below hb0
  have HB0 := Lib.hid hb0
  have HP := Lib.hid h
  obtain rfl := ha
  have HAT := Lib.hid (at_yes hp0 hf.all k i hki)
  obtain ⟨hs16, hd16, _, hbl⟩ := hf.fl _ (List.mem_of_getElem? hfi)
  dsimp only at hs16 hd16 hbl
  have hsI : (f.src : Int) < 16 := by omega
  have hdI : (f.dst : Int) < 16 := by omega
  obtain ⟨hF0, v, X, hX⟩ := h.below hb0
  obtain ⟨A6, cap6, rfl, hcp6, hcm6⟩ := own_shape hX.row
  have hiX : i < X.length := by rw [← hX.len]; exact (List.getElem?_eq_some_iff.1 hfi).1
  have hiI : (i : Int) < (X.length : Int) := by omega
  have HX := Lib.hid hX
  have HF0 := Lib.hid hF0
  have HFI := Lib.hid hfi
  have HBL := Lib.hid hbl
  have HZ := Lib.hid hZ
  clear hw0 h hp0 _hc hf hX hF0 hki hfi hb0 hZ hbl
  go_enter Try.func74, Try.ntmps74
  go_upto_region 1 with fail
  rw [← HW0.out]
  go_upto_region 2 with (go_at_call 81; refine HAT.out.mono ?_; rintro _ w1 ⟨rfl, hb1⟩)
  have HX1 := Lib.hid (HX.out.below HF0.out hb1)
  obtain ⟨g, cap, f', q', u, hv, hx, hai, m0, m1, m2, m3, m4, m5⟩ := HX1.out.pkt hiX
  have hff := hai.symm.trans HFI.out
  simp only [Option.some.injEq, Prod.mk.injEq] at hff
  obtain ⟨rfl, rfl⟩ := hff
  injection hv with hv1 _ hv2
  subst hv1
  have hby := HX1.out.bytes _ (List.mem_of_getElem? hx)
  dsimp only at hby
  obtain ⟨uA, uc, rfl, _, _⟩ := own_shape hby
  have c6 : w1.cell? ⟨D, 563, none⟩ = some (.slice (some ⟨g, 0, none⟩) X.length cap6) := HX1.out.cell.2.2.2
  have HXI := Lib.hid hx
  have HB1 : Hid (Below w.heap.size w w1) := Lib.hid (HB0.out.trans (hb1.mono hs0))
  have HZ1 := Lib.hid (HZ.out.over hb1)
  have hs1 := hb1.size
  obtain ⟨w2, hw2⟩ : ∃ w2, w2 = w1.alloc (.cells #[.int .i64 (f'.id : Int), .int .i64 (f'.src : Int), .int .i64 (f'.dst : Int), .int .i64 (f'.due : Int), .slice uA f'.bs.length uc] 48) := ⟨_, rfl⟩
  have hb2 := one_box' w1 (.cells #[.int .i64 (f'.id : Int), .int .i64 (f'.src : Int), .int .i64 (f'.dst : Int), .int .i64 (f'.due : Int), .slice uA f'.bs.length uc] 48)
  have hY2 := Blk.new w1 48 #[.int .i64 (f'.id : Int), .int .i64 (f'.src : Int), .int .i64 (f'.dst : Int), .int .i64 (f'.due : Int), .slice uA f'.bs.length uc]
  rw [← hw2] at hb2 hY2
  have HF1 : Hid (∀ k, F k → k < w1.heap.size) := Lib.hid fun k hk => by have := HF0.out k hk; omega
  have HX2 := Lib.hid (HX1.out.below HF1.out hb2)
  have hby2 := own_over hby hb2
  have HBY2 := Lib.hid hby2
  have HB2 : Hid (Below w.heap.size w w2) := Lib.hid (HB1.out.trans (hb2.mono (by omega)))
  have HZ2 := Lib.hid (HZ1.out.over hb2)
  have HY2 := Lib.hid hY2
  have HW2 := Lib.hid hw2
  have hs2 := hb2.size
  have HF2 : Hid (∀ k, F k → k < w2.heap.size) := Lib.hid fun k hk => by have := HF1.out k hk; omega
  obtain ⟨p0, _⟩ := HX2.out.path hs16 hd16
  obtain ⟨n0, _, _⟩ := HX2.out.node hd16
  have x1 : w2.cell? ⟨w1.heap.size, 1, none⟩ = some (.int .i64 (f'.src : Int)) := hY2.cell 1
  have x2 : w2.cell? ⟨w1.heap.size, 2, none⟩ = some (.int .i64 (f'.dst : Int)) := hY2.cell 2
  clear hb1 hx hai hby hv2 hw2 hb2 hY2 hby2
  go_upto_region 5 with fail
  rw [← HW2.out]
  clear m0 m1 m2 m3 m4 m5 c6
  rw [hE] at p0
  clear hE
  go_quiet (fail)
  obtain ⟨w3, hd⟩ : ∃ wd, wd = w2.drewN nq := ⟨_, rfl⟩
  rw [← hd]
  have HZ3 : Hid (Blk w3 w.heap.size 48 #[.int .i64 0, .int .i64 0, .int .i64 0, .int .i64 0, .slice none 0 0]) := Lib.hid (by rw [hd]; exact HZ2.out)
  have HY3 : Hid (Blk w3 w1.heap.size 48 #[.int .i64 (f'.id : Int), .int .i64 (f'.src : Int), .int .i64 (f'.dst : Int), .int .i64 (f'.due : Int), .slice uA f'.bs.length uc]) := Lib.hid (by rw [hd]; exact HY2.out)
  have HBD3 : Hid (Below w.heap.size w w3) := Lib.hid (by rw [hd]; exact below_drewN HB2.out _)
  have HX3 : Hid (RN w3 F c D r (.slice (some ⟨g, 0, none⟩) X.length cap6) X) := Lib.hid (by rw [hd]; exact HX2.out.chg ((Chg.refl (fun _ => False) w2).drewN nq) fun _ _ h => h)
  have HBY3 : Hid (w3.ownsRow 0 5 1 (.slice uA f'.bs.length uc) f'.bs.length (bvs f'.bs)) := Lib.hid (by rw [hd]; exact HBY2.out)
  have hsz3 : w3.heap.size = w2.heap.size := by rw [hd]; simp
  clear hd nq
  have hz3 := HZ3.out
  have q0 : w3.cell? ⟨w.heap.size, 0, none⟩ = some (.int .i64 0) := (hz3).cell 0
  have qf0 : w3.frozen? ⟨w.heap.size, 0, none⟩ = false := (hz3).frozen 0
  have q1 : w3.cell? ⟨w.heap.size, 1, none⟩ = some (.int .i64 0) := (hz3).cell 1
  have qf1 : w3.frozen? ⟨w.heap.size, 1, none⟩ = false := (hz3).frozen 1
  have q2 : w3.cell? ⟨w.heap.size, 2, none⟩ = some (.int .i64 0) := (hz3).cell 2
  have qf2 : w3.frozen? ⟨w.heap.size, 2, none⟩ = false := (hz3).frozen 2
  have q3 : w3.cell? ⟨w.heap.size, 3, none⟩ = some (.int .i64 0) := (hz3).cell 3
  have qf3 : w3.frozen? ⟨w.heap.size, 3, none⟩ = false := (hz3).frozen 3
  have q4 : w3.cell? ⟨w.heap.size, 4, none⟩ = some (.slice none 0 0) := (hz3).cell 4
  have qf4 : w3.frozen? ⟨w.heap.size, 4, none⟩ = false := (hz3).frozen 4
  obtain ⟨w9, hw9⟩ : ∃ w9, w9 = (((((w3).setCell ⟨w.heap.size, 0, none⟩ (.int .i64 0)).setCell ⟨w.heap.size, 1, none⟩ (.int .i64 0)).setCell ⟨w.heap.size, 2, none⟩ (.int .i64 0)).setCell ⟨w.heap.size, 3, none⟩ (.int .i64 0)).setCell ⟨w.heap.size, 4, none⟩ (.slice none 0 0) := ⟨_, rfl⟩
  have hz9 : Blk w9 w.heap.size 48 #[.int .i64 0, .int .i64 0, .int .i64 0, .int .i64 0, .slice none 0 0] := by rw [hw9]; exact ((((Blk.set_ hz3 0 _).set_ 1 _).set_ 2 _).set_ 3 _).set_ 4 _
  have hb9 : Below w.heap.size w w9 := by
    rw [hw9]
    exact (((((HBD3.out).setCell (p := ⟨w.heap.size, 0, none⟩) (Nat.le_refl _) _).setCell (p := ⟨w.heap.size, 1, none⟩) (Nat.le_refl _) _).setCell (p := ⟨w.heap.size, 2, none⟩) (Nat.le_refl _) _).setCell (p := ⟨w.heap.size, 3, none⟩) (Nat.le_refl _) _).setCell (p := ⟨w.heap.size, 4, none⟩) (Nat.le_refl _) _
  have y0 : w9.cell? ⟨w.heap.size, 0, none⟩ = some (.int .i64 0) := hz9.cell 0
  have y1 : w9.cell? ⟨w.heap.size, 1, none⟩ = some (.int .i64 0) := hz9.cell 1
  have y2 : w9.cell? ⟨w.heap.size, 2, none⟩ = some (.int .i64 0) := hz9.cell 2
  have y3 : w9.cell? ⟨w.heap.size, 3, none⟩ = some (.int .i64 0) := hz9.cell 3
  have y4 : w9.cell? ⟨w.heap.size, 4, none⟩ = some (.slice none 0 0) := hz9.cell 4
  have HE : Hid (RTakeNo w F c D r 30 (.returned (.tuple #[.agg #[.int .i64 0, .int .i64 0, .int .i64 0, .int .i64 0, .slice none 0 0], .int .i64 30])) w9) := Lib.hid ⟨rfl, HP.out.below hb9, hb9⟩
  have HW9 := Lib.hid hw9
  clear hw9 hz9 hb9
  clear hz3 p0 n0 x1 x2
  go_wp2_with fail
  rw [← HW9.out]
  go_wp2
  exact bodyPost_ret (v := .tuple #[.agg #[.int .i64 0, .int .i64 0, .int .i64 0, .int .i64 0, .slice none 0 0], .int .i64 30]) (by simp [results, Try.results74, y0, y1, y2, y3, y4, go_sem]) rfl HE.out
set_option maxRecDepth 100000 in
set_option maxHeartbeats 3200000 in
theorem RTake_down (_hc : c.Ok) (h : RNx w F c D r) (hf : RFine r) (a : Int) {k i : Nat} {f : Flt} (hki : (idxOf r.all)[k]? = some i) (hfi : r.all[i]? = some (f, false)) (ha : a = (k : Int)) (hE : r.shut f.src f.dst = false) (hU : r.up f.dst = false) : Calls Try.prog 74 #[.pointer (some ⟨D, 0, none⟩), .int .i64 a] w (RTakeNo w F c D r 32) := by
  have hb0 := one_box' w (.cells #[.int .i64 0, .int .i64 0, .int .i64 0, .int .i64 0, .slice none 0 0] 48)
  have hZ := Blk.new w 48 #[.int .i64 0, .int .i64 0, .int .i64 0, .int .i64 0, .slice none 0 0]
  obtain ⟨w0, hw0⟩ : ∃ w0, w0 = w.alloc (.cells #[.int .i64 0, .int .i64 0, .int .i64 0, .int .i64 0, .slice none 0 0] 48) := ⟨_, rfl⟩
  rw [← hw0] at hb0 hZ
  have HW0 := Lib.hid hw0
  have hs0 := hb0.size
  have hp0 := h.below hb0
  have HB0 := Lib.hid hb0
  have HP := Lib.hid h
  obtain rfl := ha
  have HAT := Lib.hid (at_yes hp0 hf.all k i hki)
  obtain ⟨hs16, hd16, _, hbl⟩ := hf.fl _ (List.mem_of_getElem? hfi)
  dsimp only at hs16 hd16 hbl
  have hsI : (f.src : Int) < 16 := by omega
  have hdI : (f.dst : Int) < 16 := by omega
  obtain ⟨hF0, v, X, hX⟩ := h.below hb0
  obtain ⟨A6, cap6, rfl, hcp6, hcm6⟩ := own_shape hX.row
  have hiX : i < X.length := by rw [← hX.len]; exact (List.getElem?_eq_some_iff.1 hfi).1
  have hiI : (i : Int) < (X.length : Int) := by omega
  have HX := Lib.hid hX
  have HF0 := Lib.hid hF0
  have HFI := Lib.hid hfi
  have HBL := Lib.hid hbl
  have HZ := Lib.hid hZ
  clear hw0 h hp0 _hc hf hX hF0 hki hfi hb0 hZ hbl
  go_enter Try.func74, Try.ntmps74
  go_upto_region 1 with fail
  rw [← HW0.out]
  go_upto_region 2 with (go_at_call 81; refine HAT.out.mono ?_; rintro _ w1 ⟨rfl, hb1⟩)
  have HX1 := Lib.hid (HX.out.below HF0.out hb1)
  obtain ⟨g, cap, f', q', u, hv, hx, hai, m0, m1, m2, m3, m4, m5⟩ := HX1.out.pkt hiX
  have hff := hai.symm.trans HFI.out
  simp only [Option.some.injEq, Prod.mk.injEq] at hff
  obtain ⟨rfl, rfl⟩ := hff
  injection hv with hv1 _ hv2
  subst hv1
  have hby := HX1.out.bytes _ (List.mem_of_getElem? hx)
  dsimp only at hby
  obtain ⟨uA, uc, rfl, _, _⟩ := own_shape hby
  have c6 : w1.cell? ⟨D, 563, none⟩ = some (.slice (some ⟨g, 0, none⟩) X.length cap6) := HX1.out.cell.2.2.2
  have HXI := Lib.hid hx
  have HB1 : Hid (Below w.heap.size w w1) := Lib.hid (HB0.out.trans (hb1.mono hs0))
  have HZ1 := Lib.hid (HZ.out.over hb1)
  have hs1 := hb1.size
  obtain ⟨w2, hw2⟩ : ∃ w2, w2 = w1.alloc (.cells #[.int .i64 (f'.id : Int), .int .i64 (f'.src : Int), .int .i64 (f'.dst : Int), .int .i64 (f'.due : Int), .slice uA f'.bs.length uc] 48) := ⟨_, rfl⟩
  have hb2 := one_box' w1 (.cells #[.int .i64 (f'.id : Int), .int .i64 (f'.src : Int), .int .i64 (f'.dst : Int), .int .i64 (f'.due : Int), .slice uA f'.bs.length uc] 48)
  have hY2 := Blk.new w1 48 #[.int .i64 (f'.id : Int), .int .i64 (f'.src : Int), .int .i64 (f'.dst : Int), .int .i64 (f'.due : Int), .slice uA f'.bs.length uc]
  rw [← hw2] at hb2 hY2
  have HF1 : Hid (∀ k, F k → k < w1.heap.size) := Lib.hid fun k hk => by have := HF0.out k hk; omega
  have HX2 := Lib.hid (HX1.out.below HF1.out hb2)
  have hby2 := own_over hby hb2
  have HBY2 := Lib.hid hby2
  have HB2 : Hid (Below w.heap.size w w2) := Lib.hid (HB1.out.trans (hb2.mono (by omega)))
  have HZ2 := Lib.hid (HZ1.out.over hb2)
  have HY2 := Lib.hid hY2
  have HW2 := Lib.hid hw2
  have hs2 := hb2.size
  have HF2 : Hid (∀ k, F k → k < w2.heap.size) := Lib.hid fun k hk => by have := HF1.out k hk; omega
  obtain ⟨p0, _⟩ := HX2.out.path hs16 hd16
  obtain ⟨n0, _, _⟩ := HX2.out.node hd16
  have x1 : w2.cell? ⟨w1.heap.size, 1, none⟩ = some (.int .i64 (f'.src : Int)) := hY2.cell 1
  have x2 : w2.cell? ⟨w1.heap.size, 2, none⟩ = some (.int .i64 (f'.dst : Int)) := hY2.cell 2
  clear hb1 hx hai hby hv2 hw2 hb2 hY2 hby2
  go_upto_region 5 with fail
  rw [← HW2.out]
  clear m0 m1 m2 m3 m4 m5 c6
  rw [hE] at p0
  rw [hU] at n0
  have HU := Lib.hid hU
  clear hE hU
  go_quiet (fail)
  obtain ⟨w3, hd⟩ : ∃ wd, wd = w2.drewN nq := ⟨_, rfl⟩
  rw [← hd]
  have HZ3 : Hid (Blk w3 w.heap.size 48 #[.int .i64 0, .int .i64 0, .int .i64 0, .int .i64 0, .slice none 0 0]) := Lib.hid (by rw [hd]; exact HZ2.out)
  have HY3 : Hid (Blk w3 w1.heap.size 48 #[.int .i64 (f'.id : Int), .int .i64 (f'.src : Int), .int .i64 (f'.dst : Int), .int .i64 (f'.due : Int), .slice uA f'.bs.length uc]) := Lib.hid (by rw [hd]; exact HY2.out)
  have HBD3 : Hid (Below w.heap.size w w3) := Lib.hid (by rw [hd]; exact below_drewN HB2.out _)
  have HX3 : Hid (RN w3 F c D r (.slice (some ⟨g, 0, none⟩) X.length cap6) X) := Lib.hid (by rw [hd]; exact HX2.out.chg ((Chg.refl (fun _ => False) w2).drewN nq) fun _ _ h => h)
  have HBY3 : Hid (w3.ownsRow 0 5 1 (.slice uA f'.bs.length uc) f'.bs.length (bvs f'.bs)) := Lib.hid (by rw [hd]; exact HBY2.out)
  have hsz3 : w3.heap.size = w2.heap.size := by rw [hd]; simp
  clear hd nq
  clear p0 n0 x1 x2
  obtain ⟨n0, _, _⟩ := HX3.out.node hd16
  have x2 : w3.cell? ⟨w1.heap.size, 2, none⟩ = some (.int .i64 (f'.dst : Int)) := HY3.out.cell 2
  rw [HU.out] at n0
  go_upto_region 7 with fail
  go_quiet (fail)
  obtain ⟨w4, hd⟩ : ∃ wd, wd = w3.drewN nq := ⟨_, rfl⟩
  rw [← hd]
  have HZ4 : Hid (Blk w4 w.heap.size 48 #[.int .i64 0, .int .i64 0, .int .i64 0, .int .i64 0, .slice none 0 0]) := Lib.hid (by rw [hd]; exact HZ3.out)
  have HY4 : Hid (Blk w4 w1.heap.size 48 #[.int .i64 (f'.id : Int), .int .i64 (f'.src : Int), .int .i64 (f'.dst : Int), .int .i64 (f'.due : Int), .slice uA f'.bs.length uc]) := Lib.hid (by rw [hd]; exact HY3.out)
  have HBD4 : Hid (Below w.heap.size w w4) := Lib.hid (by rw [hd]; exact below_drewN HBD3.out _)
  have HX4 : Hid (RN w4 F c D r (.slice (some ⟨g, 0, none⟩) X.length cap6) X) := Lib.hid (by rw [hd]; exact HX3.out.chg ((Chg.refl (fun _ => False) w3).drewN nq) fun _ _ h => h)
  have HBY4 : Hid (w4.ownsRow 0 5 1 (.slice uA f'.bs.length uc) f'.bs.length (bvs f'.bs)) := Lib.hid (by rw [hd]; exact HBY3.out)
  have hsz4 : w4.heap.size = w2.heap.size := by rw [hd]; simpa using hsz3
  clear hd nq
  have hz4 := HZ4.out
  have q0 : w4.cell? ⟨w.heap.size, 0, none⟩ = some (.int .i64 0) := (hz4).cell 0
  have qf0 : w4.frozen? ⟨w.heap.size, 0, none⟩ = false := (hz4).frozen 0
  have q1 : w4.cell? ⟨w.heap.size, 1, none⟩ = some (.int .i64 0) := (hz4).cell 1
  have qf1 : w4.frozen? ⟨w.heap.size, 1, none⟩ = false := (hz4).frozen 1
  have q2 : w4.cell? ⟨w.heap.size, 2, none⟩ = some (.int .i64 0) := (hz4).cell 2
  have qf2 : w4.frozen? ⟨w.heap.size, 2, none⟩ = false := (hz4).frozen 2
  have q3 : w4.cell? ⟨w.heap.size, 3, none⟩ = some (.int .i64 0) := (hz4).cell 3
  have qf3 : w4.frozen? ⟨w.heap.size, 3, none⟩ = false := (hz4).frozen 3
  have q4 : w4.cell? ⟨w.heap.size, 4, none⟩ = some (.slice none 0 0) := (hz4).cell 4
  have qf4 : w4.frozen? ⟨w.heap.size, 4, none⟩ = false := (hz4).frozen 4
  obtain ⟨w9, hw9⟩ : ∃ w9, w9 = (((((w4).setCell ⟨w.heap.size, 0, none⟩ (.int .i64 0)).setCell ⟨w.heap.size, 1, none⟩ (.int .i64 0)).setCell ⟨w.heap.size, 2, none⟩ (.int .i64 0)).setCell ⟨w.heap.size, 3, none⟩ (.int .i64 0)).setCell ⟨w.heap.size, 4, none⟩ (.slice none 0 0) := ⟨_, rfl⟩
  have hz9 : Blk w9 w.heap.size 48 #[.int .i64 0, .int .i64 0, .int .i64 0, .int .i64 0, .slice none 0 0] := by rw [hw9]; exact ((((Blk.set_ hz4 0 _).set_ 1 _).set_ 2 _).set_ 3 _).set_ 4 _
  have hb9 : Below w.heap.size w w9 := by
    rw [hw9]
    exact (((((HBD4.out).setCell (p := ⟨w.heap.size, 0, none⟩) (Nat.le_refl _) _).setCell (p := ⟨w.heap.size, 1, none⟩) (Nat.le_refl _) _).setCell (p := ⟨w.heap.size, 2, none⟩) (Nat.le_refl _) _).setCell (p := ⟨w.heap.size, 3, none⟩) (Nat.le_refl _) _).setCell (p := ⟨w.heap.size, 4, none⟩) (Nat.le_refl _) _
  have y0 : w9.cell? ⟨w.heap.size, 0, none⟩ = some (.int .i64 0) := hz9.cell 0
  have y1 : w9.cell? ⟨w.heap.size, 1, none⟩ = some (.int .i64 0) := hz9.cell 1
  have y2 : w9.cell? ⟨w.heap.size, 2, none⟩ = some (.int .i64 0) := hz9.cell 2
  have y3 : w9.cell? ⟨w.heap.size, 3, none⟩ = some (.int .i64 0) := hz9.cell 3
  have y4 : w9.cell? ⟨w.heap.size, 4, none⟩ = some (.slice none 0 0) := hz9.cell 4
  have HE : Hid (RTakeNo w F c D r 32 (.returned (.tuple #[.agg #[.int .i64 0, .int .i64 0, .int .i64 0, .int .i64 0, .slice none 0 0], .int .i64 32])) w9) := Lib.hid ⟨rfl, HP.out.below hb9, hb9⟩
  have HW9 := Lib.hid hw9
  clear hw9 hz9 hb9
  clear hz4 n0 x2
  go_wp2_with fail
  rw [← HW9.out]
  go_wp2
  exact bodyPost_ret (v := .tuple #[.agg #[.int .i64 0, .int .i64 0, .int .i64 0, .int .i64 0, .slice none 0 0], .int .i64 32]) (by simp [results, Try.results74, y0, y1, y2, y3, y4, go_sem]) rfl HE.out
set_option maxRecDepth 100000 in
set_option maxHeartbeats 3200000 in
theorem RTake_yes (_hc : c.Ok) (h : RNx w F c D r) (hf : RFine r) (a : Int) {k i : Nat} {f : Flt} (hki : (idxOf r.all)[k]? = some i) (hfi : r.all[i]? = some (f, false)) (ha : a = (k : Int)) (hE : r.shut f.src f.dst = false) (hU : r.up f.dst = true) : Calls Try.prog 74 #[.pointer (some ⟨D, 0, none⟩), .int .i64 a] w (RTakeYes w F c D r i f) := by
  have hb0 := one_box' w (.cells #[.int .i64 0, .int .i64 0, .int .i64 0, .int .i64 0, .slice none 0 0] 48)
  have hZ := Blk.new w 48 #[.int .i64 0, .int .i64 0, .int .i64 0, .int .i64 0, .slice none 0 0]
  obtain ⟨w0, hw0⟩ : ∃ w0, w0 = w.alloc (.cells #[.int .i64 0, .int .i64 0, .int .i64 0, .int .i64 0, .slice none 0 0] 48) := ⟨_, rfl⟩
  rw [← hw0] at hb0 hZ
  have HW0 := Lib.hid hw0
  have hs0 := hb0.size
  have hp0 := h.below hb0
  have HB0 := Lib.hid hb0
  have HP := Lib.hid h
  obtain rfl := ha
  have HAT := Lib.hid (at_yes hp0 hf.all k i hki)
  obtain ⟨hs16, hd16, _, hbl⟩ := hf.fl _ (List.mem_of_getElem? hfi)
  dsimp only at hs16 hd16 hbl
  have hsI : (f.src : Int) < 16 := by omega
  have hdI : (f.dst : Int) < 16 := by omega
  obtain ⟨hF0, v, X, hX⟩ := h.below hb0
  obtain ⟨A6, cap6, rfl, hcp6, hcm6⟩ := own_shape hX.row
  have hiX : i < X.length := by rw [← hX.len]; exact (List.getElem?_eq_some_iff.1 hfi).1
  have hiI : (i : Int) < (X.length : Int) := by omega
  have HX := Lib.hid hX
  have HF0 := Lib.hid hF0
  have HFI := Lib.hid hfi
  have HBL := Lib.hid hbl
  have HZ := Lib.hid hZ
  clear hw0 h hp0 _hc hf hX hF0 hki hfi hb0 hZ hbl
  go_enter Try.func74, Try.ntmps74
  go_upto_region 1 with fail
  rw [← HW0.out]
  go_upto_region 2 with (go_at_call 81; refine HAT.out.mono ?_; rintro _ w1 ⟨rfl, hb1⟩)
  have HX1 := Lib.hid (HX.out.below HF0.out hb1)
  obtain ⟨g, cap, f', q', u, hv, hx, hai, m0, m1, m2, m3, m4, m5⟩ := HX1.out.pkt hiX
  have hff := hai.symm.trans HFI.out
  simp only [Option.some.injEq, Prod.mk.injEq] at hff
  obtain ⟨rfl, rfl⟩ := hff
  injection hv with hv1 _ hv2
  subst hv1
  have hby := HX1.out.bytes _ (List.mem_of_getElem? hx)
  dsimp only at hby
  obtain ⟨uA, uc, rfl, _, _⟩ := own_shape hby
  have c6 : w1.cell? ⟨D, 563, none⟩ = some (.slice (some ⟨g, 0, none⟩) X.length cap6) := HX1.out.cell.2.2.2
  have HXI := Lib.hid hx
  have HB1 : Hid (Below w.heap.size w w1) := Lib.hid (HB0.out.trans (hb1.mono hs0))
  have HZ1 := Lib.hid (HZ.out.over hb1)
  have hs1 := hb1.size
  obtain ⟨w2, hw2⟩ : ∃ w2, w2 = w1.alloc (.cells #[.int .i64 (f'.id : Int), .int .i64 (f'.src : Int), .int .i64 (f'.dst : Int), .int .i64 (f'.due : Int), .slice uA f'.bs.length uc] 48) := ⟨_, rfl⟩
  have hb2 := one_box' w1 (.cells #[.int .i64 (f'.id : Int), .int .i64 (f'.src : Int), .int .i64 (f'.dst : Int), .int .i64 (f'.due : Int), .slice uA f'.bs.length uc] 48)
  have hY2 := Blk.new w1 48 #[.int .i64 (f'.id : Int), .int .i64 (f'.src : Int), .int .i64 (f'.dst : Int), .int .i64 (f'.due : Int), .slice uA f'.bs.length uc]
  rw [← hw2] at hb2 hY2
  have HF1 : Hid (∀ k, F k → k < w1.heap.size) := Lib.hid fun k hk => by have := HF0.out k hk; omega
  have HX2 := Lib.hid (HX1.out.below HF1.out hb2)
  have hby2 := own_over hby hb2
  have HBY2 := Lib.hid hby2
  have HB2 : Hid (Below w.heap.size w w2) := Lib.hid (HB1.out.trans (hb2.mono (by omega)))
  have HZ2 := Lib.hid (HZ1.out.over hb2)
  have HY2 := Lib.hid hY2
  have HW2 := Lib.hid hw2
  have hs2 := hb2.size
  have HF2 : Hid (∀ k, F k → k < w2.heap.size) := Lib.hid fun k hk => by have := HF1.out k hk; omega
  obtain ⟨p0, _⟩ := HX2.out.path hs16 hd16
  obtain ⟨n0, _, _⟩ := HX2.out.node hd16
  have x1 : w2.cell? ⟨w1.heap.size, 1, none⟩ = some (.int .i64 (f'.src : Int)) := hY2.cell 1
  have x2 : w2.cell? ⟨w1.heap.size, 2, none⟩ = some (.int .i64 (f'.dst : Int)) := hY2.cell 2
  clear hb1 hx hai hby hv2 hw2 hb2 hY2 hby2
  go_upto_region 5 with fail
  rw [← HW2.out]
  clear m0 m1 m2 m3 m4 m5 c6
  rw [hE] at p0
  rw [hU] at n0
  have HU := Lib.hid hU
  clear hE hU
  go_quiet (fail)
  obtain ⟨w3, hd⟩ : ∃ wd, wd = w2.drewN nq := ⟨_, rfl⟩
  rw [← hd]
  have HZ3 : Hid (Blk w3 w.heap.size 48 #[.int .i64 0, .int .i64 0, .int .i64 0, .int .i64 0, .slice none 0 0]) := Lib.hid (by rw [hd]; exact HZ2.out)
  have HY3 : Hid (Blk w3 w1.heap.size 48 #[.int .i64 (f'.id : Int), .int .i64 (f'.src : Int), .int .i64 (f'.dst : Int), .int .i64 (f'.due : Int), .slice uA f'.bs.length uc]) := Lib.hid (by rw [hd]; exact HY2.out)
  have HBD3 : Hid (Below w.heap.size w w3) := Lib.hid (by rw [hd]; exact below_drewN HB2.out _)
  have HX3 : Hid (RN w3 F c D r (.slice (some ⟨g, 0, none⟩) X.length cap6) X) := Lib.hid (by rw [hd]; exact HX2.out.chg ((Chg.refl (fun _ => False) w2).drewN nq) fun _ _ h => h)
  have HBY3 : Hid (w3.ownsRow 0 5 1 (.slice uA f'.bs.length uc) f'.bs.length (bvs f'.bs)) := Lib.hid (by rw [hd]; exact HBY2.out)
  have hsz3 : w3.heap.size = w2.heap.size := by rw [hd]; simp
  clear hd nq
  clear p0 n0 x1 x2
  obtain ⟨n0, _, _⟩ := HX3.out.node hd16
  have x2 : w3.cell? ⟨w1.heap.size, 2, none⟩ = some (.int .i64 (f'.dst : Int)) := HY3.out.cell 2
  rw [HU.out] at n0
  go_upto_region 7 with fail
  go_quiet (fail)
  obtain ⟨w4, hd⟩ : ∃ wd, wd = w3.drewN nq := ⟨_, rfl⟩
  rw [← hd]
  have HZ4 : Hid (Blk w4 w.heap.size 48 #[.int .i64 0, .int .i64 0, .int .i64 0, .int .i64 0, .slice none 0 0]) := Lib.hid (by rw [hd]; exact HZ3.out)
  have HY4 : Hid (Blk w4 w1.heap.size 48 #[.int .i64 (f'.id : Int), .int .i64 (f'.src : Int), .int .i64 (f'.dst : Int), .int .i64 (f'.due : Int), .slice uA f'.bs.length uc]) := Lib.hid (by rw [hd]; exact HY3.out)
  have HBD4 : Hid (Below w.heap.size w w4) := Lib.hid (by rw [hd]; exact below_drewN HBD3.out _)
  have HX4 : Hid (RN w4 F c D r (.slice (some ⟨g, 0, none⟩) X.length cap6) X) := Lib.hid (by rw [hd]; exact HX3.out.chg ((Chg.refl (fun _ => False) w3).drewN nq) fun _ _ h => h)
  have HBY4 : Hid (w4.ownsRow 0 5 1 (.slice uA f'.bs.length uc) f'.bs.length (bvs f'.bs)) := Lib.hid (by rw [hd]; exact HBY3.out)
  have hsz4 : w4.heap.size = w2.heap.size := by rw [hd]; simpa using hsz3
  clear hd nq
  clear n0 x2
  have c6 : w4.cell? ⟨D, 563, none⟩ = some (.slice (some ⟨g, 0, none⟩) X.length cap6) := HX4.out.cell.2.2.2
  obtain ⟨_, _, cur4, hB4⟩ := own_block_lt HX4.out.row (g := g) rfl
  have m5 : w4.cell? ⟨g, i * 6 + 5, none⟩ = some (.bool false) := by
    obtain ⟨g', cap', f'', q', u', hv, hx, hai, _, _, _, _, _, m5⟩ := HX4.out.pkt hiX
    have hff := hai.symm.trans HFI.out
    simp only [Option.some.injEq, Prod.mk.injEq] at hff
    injection hv with hv1
    injection hv1 with hv1
    injection hv1 with hv1
    rw [hv1, m5, hff.2]
  have mf : w4.frozen? ⟨g, i * 6 + 5, none⟩ = false := hB4.frozen _
  have HNG : Hid (g ≠ D ∧ F g ∧ w.heap.size ≠ g ∧ w1.heap.size ≠ g) := by
    have hFg := HX4.out.fv g rfl
    have h1 := HF0.out g hFg
    refine Lib.hid ⟨(HX4.out.vne (g := g) rfl).1, hFg, HZ4.out.ne_ hB4 (by decide), by omega⟩
  obtain ⟨w5, hw5⟩ : ∃ w5, w5 = w4.setCell ⟨g, i * 6 + 5, none⟩ (.bool true) := ⟨_, rfl⟩
  have hX5 : RN w5 F c D { r with all := r.all.set i (f', true) } (.slice (some ⟨g, 0, none⟩) X.length cap6) (X.set i ((f', true), .slice uA f'.bs.length uc)) := by
    rw [hw5]
    exact HX4.out.setR (f' := f') (q' := true) (u' := .bool true) HXI.out (by omega) rfl rfl
  have hby5 : w5.ownsRow 0 5 1 (.slice uA f'.bs.length uc) f'.bs.length (bvs f'.bs) := hX5.bytes ((f', true), .slice uA f'.bs.length uc) (List.mem_of_getElem? (List.getElem?_set_self hiX))
  have hz5 : Blk w5 w.heap.size 48 #[.int .i64 0, .int .i64 0, .int .i64 0, .int .i64 0, .slice none 0 0] := by rw [hw5]; exact HZ4.out.far HNG.out.2.2.1 _
  have hy5 : Blk w5 w1.heap.size 48 #[.int .i64 (f'.id : Int), .int .i64 (f'.src : Int), .int .i64 (f'.dst : Int), .int .i64 (f'.due : Int), .slice uA f'.bs.length uc] := by rw [hw5]; exact HY4.out.far HNG.out.2.2.2 _
  have y0 : w5.cell? ⟨w1.heap.size, 0, none⟩ = some (.int .i64 (f'.id : Int)) := hy5.cell 0
  have y1 : w5.cell? ⟨w1.heap.size, 1, none⟩ = some (.int .i64 (f'.src : Int)) := hy5.cell 1
  have y2 : w5.cell? ⟨w1.heap.size, 2, none⟩ = some (.int .i64 (f'.dst : Int)) := hy5.cell 2
  have y3 : w5.cell? ⟨w1.heap.size, 3, none⟩ = some (.int .i64 (f'.due : Int)) := hy5.cell 3
  have y4 : w5.cell? ⟨w1.heap.size, 4, none⟩ = some (.slice uA f'.bs.length uc) := hy5.cell 4
  have hc5 : Chg F w w5 := by rw [hw5]; exact (Chg.of_below HBD4.out F).setCell (.inl HNG.out.2.1) _
  have HGI := Lib.hid (given_any (w := w5) f' uA uc (Rd.of_own hby5) (by have := HBL.out; omega))
  have HX5 := Lib.hid hX5
  have HZ5 := Lib.hid hz5
  have HC5 := Lib.hid hc5
  have HW5 := Lib.hid hw5
  have hs5 : w5.heap.size = w2.heap.size := by rw [hw5]; simp [World.setCell, hsz4]
  clear hw5 hX5 hby5 hz5 hy5 hc5 hB4
  go_upto_region 9 with fail
  go_upto_region 10 with fail
  rw [← HW5.out]
  clear c6 m5 mf
  go_wp2_with (go_at_call 80; refine HGI.out.mono ?_; rintro _ w6 ⟨A9, cap9, rfl, ho6, hb6⟩; have hz6 := HZ5.out.over hb6; have q0 : w6.cell? ⟨w.heap.size, 0, none⟩ = some (.int .i64 0) := hz6.cell 0; have q1 : w6.cell? ⟨w.heap.size, 1, none⟩ = some (.int .i64 0) := hz6.cell 1; have q2 : w6.cell? ⟨w.heap.size, 2, none⟩ = some (.int .i64 0) := hz6.cell 2; have q3 : w6.cell? ⟨w.heap.size, 3, none⟩ = some (.int .i64 0) := hz6.cell 3; have q4 : w6.cell? ⟨w.heap.size, 4, none⟩ = some (.slice none 0 0) := hz6.cell 4; have f0 : w6.frozen? ⟨w.heap.size, 0, none⟩ = false := hz6.frozen 0; have f1 : w6.frozen? ⟨w.heap.size, 1, none⟩ = false := hz6.frozen 1; have f2 : w6.frozen? ⟨w.heap.size, 2, none⟩ = false := hz6.frozen 2; have f3 : w6.frozen? ⟨w.heap.size, 3, none⟩ = false := hz6.frozen 3; have f4 : w6.frozen? ⟨w.heap.size, 4, none⟩ = false := hz6.frozen 4; have HZ6 := Lib.hid hz6; have HG6 := Lib.hid (And.intro ho6 hb6); clear hz6 ho6 hb6)
  obtain ⟨w9, hw9⟩ : ∃ w9, w9 = (((((w6).setCell ⟨w.heap.size, 0, none⟩ (.int .i64 (f'.id : Int))).setCell ⟨w.heap.size, 1, none⟩ (.int .i64 (f'.src : Int))).setCell ⟨w.heap.size, 2, none⟩ (.int .i64 (f'.dst : Int))).setCell ⟨w.heap.size, 3, none⟩ (.int .i64 (f'.due : Int))).setCell ⟨w.heap.size, 4, none⟩ (.slice A9 f'.bs.length cap9) := ⟨_, rfl⟩
  rw [← hw9]
  have hz9 : Blk w9 w.heap.size 48 #[.int .i64 (f'.id : Int), .int .i64 (f'.src : Int), .int .i64 (f'.dst : Int), .int .i64 (f'.due : Int), .slice A9 f'.bs.length cap9] := by rw [hw9]; exact ((((HZ6.out.set_ 0 _).set_ 1 _).set_ 2 _).set_ 3 _).set_ 4 _
  have hch9 : Chg (fun j => j = w.heap.size) w6 w9 := by
    rw [hw9]
    exact ((((((Chg.refl (fun j => j = w.heap.size) w6)).setCell (p := ⟨w.heap.size, 0, none⟩) (.inl rfl) _).setCell (p := ⟨w.heap.size, 1, none⟩) (.inl rfl) _).setCell (p := ⟨w.heap.size, 2, none⟩) (.inl rfl) _).setCell (p := ⟨w.heap.size, 3, none⟩) (.inl rfl) _).setCell (p := ⟨w.heap.size, 4, none⟩) (.inl rfl) _
  have k0 : w9.cell? ⟨w.heap.size, 0, none⟩ = some (.int .i64 (f'.id : Int)) := hz9.cell 0
  have k1 : w9.cell? ⟨w.heap.size, 1, none⟩ = some (.int .i64 (f'.src : Int)) := hz9.cell 1
  have k2 : w9.cell? ⟨w.heap.size, 2, none⟩ = some (.int .i64 (f'.dst : Int)) := hz9.cell 2
  have k3 : w9.cell? ⟨w.heap.size, 3, none⟩ = some (.int .i64 (f'.due : Int)) := hz9.cell 3
  have k4 : w9.cell? ⟨w.heap.size, 4, none⟩ = some (.slice A9 f'.bs.length cap9) := hz9.cell 4
  have HE : Hid (RTakeYes w F c D r i f' (.returned (.tuple #[.agg #[.int .i64 (f'.id : Int), .int .i64 (f'.src : Int), .int .i64 (f'.dst : Int), .int .i64 (f'.due : Int), .slice A9 f'.bs.length cap9], .int .i64 0])) w9) := by
    have hFs : ∀ j, F j → j < w.heap.size := HP.out.1
    have hF5 : ∀ j, F j → j < w5.heap.size := fun j hj => by have := hFs j hj; omega
    obtain ⟨ho6, hb6⟩ := HG6.out
    refine Lib.hid ⟨A9, cap9, rfl, RNx.of ((HX5.out.below hF5 hb6).chg hch9 fun j hj e => by have := hFs j hj; omega) (fun j hj => ?_), own_base (own_chg ho6 hch9 fun g' hg' e => ?_) (by omega), (HC5.out.trans (Chg.of_below hb6 F)).thenS hch9 fun j hj e => by omega⟩
    · have := hFs j hj; have := hb6.size; have := hch9.size; omega
    · obtain ⟨_, _, cu, hB⟩ := own_block_lt ho6 hg'
      exact hB.ne_ HZ6.out (by decide) e
  clear hw9 hz9 hch9
  exact bodyPost_ret (v := .tuple #[.agg #[.int .i64 (f'.id : Int), .int .i64 (f'.src : Int), .int .i64 (f'.dst : Int), .int .i64 (f'.due : Int), .slice A9 f'.bs.length cap9], .int .i64 0]) (by simp [results, Try.results74, k0, k1, k2, k3, k4, go_sem]) rfl HE.out
end Go.Proofs.Ytgfhmfhhobhojaa
