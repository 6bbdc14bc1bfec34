/-
  The document's network: doPath.
-/
import Derived.Test.YtgfhmfhhobhojaaERefT
namespace Go.Proofs.Ytgfhmfhhobhojaa
open Go.ChangeShapes Go.WideShapes Go.ChangeAt Go.RowKit
variable {w : World} {F : Nat → Prop} {c : ECfg} {D : Nat} {r : RV}
theorem StepR.behind {w0 w1 w2 : World} {v v' : Value} {r' : RV} {e : Ending} (hb : Below w0.heap.size w0 w1) (h : StepR w1 F c D v r' e w2) : StepR w0 F c D v' r' (.returned v') w2 := by
  obtain ⟨_, F', h2, h3, h4⟩ := h
  exact ⟨rfl, F', h2, fun k hk => (h3 k hk).imp id fun h => Nat.le_trans hb.size h, (Chg.of_below hb F).trans h4⟩
set_option maxRecDepth 100000 in
set_option maxHeartbeats 3200000 in
theorem doPath_none (_hc : c.Ok) (h : RNx w F c D r) (a b n : Int) (BA SA : Option Addr) (bn bc sn sc : Nat) (kd : Int) (hJ : joinB c a b = false) : Calls Try.prog 83 #[.pointer (some ⟨D, 0, none⟩), .agg #[.int .i64 kd, .int .i64 a, .int .i64 b, .int .i64 n, .slice BA bn bc, .int .i64 0, .int .i64 0, .int .i64 0, .int .i64 0, .string ByteArray.empty, .string ByteArray.empty, .string ByteArray.empty, .slice SA sn sc]] w (StepR w F c D (.int .i64 1) (r)) := by
  have hb0 := one_box' w (.cells #[.int .i64 kd, .int .i64 a, .int .i64 b, .int .i64 n, .slice BA bn bc, .int .i64 0, .int .i64 0, .int .i64 0, .int .i64 0, .string ByteArray.empty, .string ByteArray.empty, .string ByteArray.empty, .slice SA sn sc] 41)
  have hE := Blk.new w 41 #[.int .i64 kd, .int .i64 a, .int .i64 b, .int .i64 n, .slice BA bn bc, .int .i64 0, .int .i64 0, .int .i64 0, .int .i64 0, .string ByteArray.empty, .string ByteArray.empty, .string ByteArray.empty, .slice SA sn sc]
  obtain ⟨w0, hw0⟩ : ∃ w0, w0 = w.alloc (.cells #[.int .i64 kd, .int .i64 a, .int .i64 b, .int .i64 n, .slice BA bn bc, .int .i64 0, .int .i64 0, .int .i64 0, .int .i64 0, .string ByteArray.empty, .string ByteArray.empty, .string ByteArray.empty, .slice SA sn sc] 41) := ⟨_, rfl⟩
  rw [← hw0] at hb0 hE
  have hp0 := h.below hb0
  have HP := Lib.hid (path_any hp0 a b)
  have x0 : w0.cell? ⟨w.heap.size, 0, none⟩ = some (.int .i64 kd) := hE.cell 0
  have x1 : w0.cell? ⟨w.heap.size, 1, none⟩ = some (.int .i64 a) := hE.cell 1
  have x2 : w0.cell? ⟨w.heap.size, 2, none⟩ = some (.int .i64 b) := hE.cell 2
  have x3 : w0.cell? ⟨w.heap.size, 3, none⟩ = some (.int .i64 n) := hE.cell 3
  have HW0 := Lib.hid hw0
  have HB0 := Lib.hid hb0
  have HH := Lib.hid h
  have HJ := Lib.hid hJ
  clear hw0 hb0 hE hp0 h hJ _hc
  go_enter Try.func83, Try.ntmps83
  go_upto_region 1 with fail
  rw [← HW0.out]
  go_wp2_with (go_at_call 78; refine HP.out.mono ?_; rintro _ _ ⟨rfl, rfl⟩; simp only [HJ.out])
  go_ret
  exact StepR.same HH.out HB0.out
set_option maxRecDepth 100000 in
set_option maxHeartbeats 3200000 in
theorem doPath_8 (hc : c.Ok) (h : RNx w F c D r) (a b n : Int) (BA SA : Option Addr) (bn bc sn sc : Nat) {i j : Nat} (hi : i < c.n) (hj : j < c.n) (hJ : joinB c a b = true) (ha : a = (i : Int)) (hb : b = (j : Int)) : Calls Try.prog 83 #[.pointer (some ⟨D, 0, none⟩), .agg #[.int .i64 8, .int .i64 a, .int .i64 b, .int .i64 n, .slice BA bn bc, .int .i64 0, .int .i64 0, .int .i64 0, .int .i64 0, .string ByteArray.empty, .string ByteArray.empty, .string ByteArray.empty, .slice SA sn sc]] w (StepR w F c D (.int .i64 0) ({ r with shut := updS r.shut i j true })) := by
  have hb0 := one_box' w (.cells #[.int .i64 8, .int .i64 a, .int .i64 b, .int .i64 n, .slice BA bn bc, .int .i64 0, .int .i64 0, .int .i64 0, .int .i64 0, .string ByteArray.empty, .string ByteArray.empty, .string ByteArray.empty, .slice SA sn sc] 41)
  have hE := Blk.new w 41 #[.int .i64 8, .int .i64 a, .int .i64 b, .int .i64 n, .slice BA bn bc, .int .i64 0, .int .i64 0, .int .i64 0, .int .i64 0, .string ByteArray.empty, .string ByteArray.empty, .string ByteArray.empty, .slice SA sn sc]
  obtain ⟨w0, hw0⟩ : ∃ w0, w0 = w.alloc (.cells #[.int .i64 8, .int .i64 a, .int .i64 b, .int .i64 n, .slice BA bn bc, .int .i64 0, .int .i64 0, .int .i64 0, .int .i64 0, .string ByteArray.empty, .string ByteArray.empty, .string ByteArray.empty, .slice SA sn sc] 41) := ⟨_, rfl⟩
  rw [← hw0] at hb0 hE
  have hp0 := h.below hb0
  have HP := Lib.hid (path_any hp0 a b)
  have x0 : w0.cell? ⟨w.heap.size, 0, none⟩ = some (.int .i64 8) := hE.cell 0
  have x1 : w0.cell? ⟨w.heap.size, 1, none⟩ = some (.int .i64 a) := hE.cell 1
  have x2 : w0.cell? ⟨w.heap.size, 2, none⟩ = some (.int .i64 b) := hE.cell 2
  have x3 : w0.cell? ⟨w.heap.size, 3, none⟩ = some (.int .i64 n) := hE.cell 3
  have HW0 := Lib.hid hw0
  have HB0 := Lib.hid hb0
  have HH := Lib.hid h
  obtain rfl := ha
  obtain rfl := hb
  have HJ := Lib.hid hJ
  have hi16 : i < 16 := by have := hc.2.1; omega
  have hj16 : j < 16 := by have := hc.2.1; omega
  have hiI : (i : Int) < 16 := by omega
  have hjI : (j : Int) < 16 := by omega
  obtain ⟨hF0, v, X, hX⟩ := hp0
  obtain ⟨wd, hwd⟩ : ∃ wd, wd = w0.drew := ⟨_, rfl⟩
  have hXd : RN wd F c D r v X := by rw [hwd]; exact hX.chg ((Chg.refl (fun _ => False) w0).drewN 1) fun _ _ h => h
  have hbd : Below w.heap.size w wd := by rw [hwd]; exact below_drewN hb0 1
  have y1 : wd.cell? ⟨w.heap.size, 1, none⟩ = some (.int .i64 (i : Int)) := by rw [hwd]; exact x1
  have y2 : wd.cell? ⟨w.heap.size, 2, none⟩ = some (.int .i64 (j : Int)) := by rw [hwd]; exact x2
  have y3 : wd.cell? ⟨w.heap.size, 3, none⟩ = some (.int .i64 n) := by rw [hwd]; exact x3
  obtain ⟨p0, p1⟩ := hXd.path hi16 hj16
  have pf : wd.frozen? ⟨D, 51 + i * 16 + j, none⟩ = false := hXd.blk.frozen _
  obtain ⟨w2, hw2⟩ : ∃ w2, w2 = wd.setCell ⟨D, 51 + i * 16 + j, none⟩ (.bool true) := ⟨_, rfl⟩
  have hX2 : RN w2 F c D ({ r with shut := updS r.shut i j true }) v X := by rw [hw2]; exact hXd.setD (net_shut c r v hi16 hj16 true) rfl
  have HE : Hid (StepR w F c D (.int .i64 0) ({ r with shut := updS r.shut i j true }) (.returned (.int .i64 0)) w2) := Lib.hid (StepR.of h.1 (by rw [hw2]; exact (Chg.of_below hbd F).setCell (.inl hX.fd) _) hX2)
  have HWD := Lib.hid hwd
  have HW2 := Lib.hid hw2
  clear hw0 hb0 hE hF0 hX hwd hXd hbd hw2 hX2 h hJ hc

  go_enter Try.func83, Try.ntmps83
  go_upto_region 1 with fail
  rw [← HW0.out]
  go_upto_region 8 with (go_at_call 78; refine HP.out.mono ?_; rintro _ _ ⟨rfl, rfl⟩; simp only [HJ.out])
  refine region_tail 9 (by kernel_rfl) (by kernel_rfl) ?_
  simp only [List.take_succ_cons, List.take_zero, List.drop_succ_cons, List.drop_zero]
  rw [← HWD.out]
  clear x0 x1 x2 x3
  repeat still_step
  refine wpStill_nil ?_
  change wpList _ _ _ _ _ wd
  go_upto_region 11 with fail
  rw [← HW2.out]
  clear p0 p1 pf y1 y2 y3
  go_wp2
  go_ret
  exact HE.out
set_option maxRecDepth 100000 in
set_option maxHeartbeats 3200000 in
theorem doPath_9 (hc : c.Ok) (h : RNx w F c D r) (a b n : Int) (BA SA : Option Addr) (bn bc sn sc : Nat) {i j : Nat} (hi : i < c.n) (hj : j < c.n) (hJ : joinB c a b = true) (ha : a = (i : Int)) (hb : b = (j : Int)) : Calls Try.prog 83 #[.pointer (some ⟨D, 0, none⟩), .agg #[.int .i64 9, .int .i64 a, .int .i64 b, .int .i64 n, .slice BA bn bc, .int .i64 0, .int .i64 0, .int .i64 0, .int .i64 0, .string ByteArray.empty, .string ByteArray.empty, .string ByteArray.empty, .slice SA sn sc]] w (StepR w F c D (.int .i64 0) ({ r with shut := updS r.shut i j false })) := by
  have hb0 := one_box' w (.cells #[.int .i64 9, .int .i64 a, .int .i64 b, .int .i64 n, .slice BA bn bc, .int .i64 0, .int .i64 0, .int .i64 0, .int .i64 0, .string ByteArray.empty, .string ByteArray.empty, .string ByteArray.empty, .slice SA sn sc] 41)
  have hE := Blk.new w 41 #[.int .i64 9, .int .i64 a, .int .i64 b, .int .i64 n, .slice BA bn bc, .int .i64 0, .int .i64 0, .int .i64 0, .int .i64 0, .string ByteArray.empty, .string ByteArray.empty, .string ByteArray.empty, .slice SA sn sc]
  obtain ⟨w0, hw0⟩ : ∃ w0, w0 = w.alloc (.cells #[.int .i64 9, .int .i64 a, .int .i64 b, .int .i64 n, .slice BA bn bc, .int .i64 0, .int .i64 0, .int .i64 0, .int .i64 0, .string ByteArray.empty, .string ByteArray.empty, .string ByteArray.empty, .slice SA sn sc] 41) := ⟨_, rfl⟩
  rw [← hw0] at hb0 hE
  have hp0 := h.below hb0
  have HP := Lib.hid (path_any hp0 a b)
  have x0 : w0.cell? ⟨w.heap.size, 0, none⟩ = some (.int .i64 9) := hE.cell 0
  have x1 : w0.cell? ⟨w.heap.size, 1, none⟩ = some (.int .i64 a) := hE.cell 1
  have x2 : w0.cell? ⟨w.heap.size, 2, none⟩ = some (.int .i64 b) := hE.cell 2
  have x3 : w0.cell? ⟨w.heap.size, 3, none⟩ = some (.int .i64 n) := hE.cell 3
  have HW0 := Lib.hid hw0
  have HB0 := Lib.hid hb0
  have HH := Lib.hid h
  obtain rfl := ha
  obtain rfl := hb
  have HJ := Lib.hid hJ
  have hi16 : i < 16 := by have := hc.2.1; omega
  have hj16 : j < 16 := by have := hc.2.1; omega
  have hiI : (i : Int) < 16 := by omega
  have hjI : (j : Int) < 16 := by omega
  obtain ⟨hF0, v, X, hX⟩ := hp0
  obtain ⟨wd, hwd⟩ : ∃ wd, wd = w0.drew := ⟨_, rfl⟩
  have hXd : RN wd F c D r v X := by rw [hwd]; exact hX.chg ((Chg.refl (fun _ => False) w0).drewN 1) fun _ _ h => h
  have hbd : Below w.heap.size w wd := by rw [hwd]; exact below_drewN hb0 1
  have y1 : wd.cell? ⟨w.heap.size, 1, none⟩ = some (.int .i64 (i : Int)) := by rw [hwd]; exact x1
  have y2 : wd.cell? ⟨w.heap.size, 2, none⟩ = some (.int .i64 (j : Int)) := by rw [hwd]; exact x2
  have y3 : wd.cell? ⟨w.heap.size, 3, none⟩ = some (.int .i64 n) := by rw [hwd]; exact x3
  obtain ⟨p0, p1⟩ := hXd.path hi16 hj16
  have pf : wd.frozen? ⟨D, 51 + i * 16 + j, none⟩ = false := hXd.blk.frozen _
  obtain ⟨w2, hw2⟩ : ∃ w2, w2 = wd.setCell ⟨D, 51 + i * 16 + j, none⟩ (.bool false) := ⟨_, rfl⟩
  have hX2 : RN w2 F c D ({ r with shut := updS r.shut i j false }) v X := by rw [hw2]; exact hXd.setD (net_shut c r v hi16 hj16 false) rfl
  have HE : Hid (StepR w F c D (.int .i64 0) ({ r with shut := updS r.shut i j false }) (.returned (.int .i64 0)) w2) := Lib.hid (StepR.of h.1 (by rw [hw2]; exact (Chg.of_below hbd F).setCell (.inl hX.fd) _) hX2)
  have HWD := Lib.hid hwd
  have HW2 := Lib.hid hw2
  clear hw0 hb0 hE hF0 hX hwd hXd hbd hw2 hX2 h hJ hc

  go_enter Try.func83, Try.ntmps83
  go_upto_region 1 with fail
  rw [← HW0.out]
  go_upto_region 10 with (go_at_call 78; refine HP.out.mono ?_; rintro _ _ ⟨rfl, rfl⟩; simp only [HJ.out])
  refine region_tail 9 (by kernel_rfl) (by kernel_rfl) ?_
  simp only [List.take_succ_cons, List.take_zero, List.drop_succ_cons, List.drop_zero]
  rw [← HWD.out]
  clear x0 x1 x2 x3
  repeat still_step
  refine wpStill_nil ?_
  change wpList _ _ _ _ _ wd
  go_upto_region 11 with fail
  rw [← HW2.out]
  clear p0 p1 pf y1 y2 y3
  go_wp2
  go_ret
  exact HE.out
set_option maxRecDepth 100000 in
set_option maxHeartbeats 3200000 in
theorem doPath_10yes (hc : c.Ok) (h : RNx w F c D r) (a b n : Int) (BA SA : Option Addr) (bn bc sn sc : Nat) {i j : Nat} (hi : i < c.n) (hj : j < c.n) (hJ : joinB c a b = true) (ha : a = (i : Int)) (hb : b = (j : Int)) (d : Nat) (hd : n = (d : Int)) (hd1 : 1 ≤ d) (hd2 : d ≤ 16) : Calls Try.prog 83 #[.pointer (some ⟨D, 0, none⟩), .agg #[.int .i64 10, .int .i64 a, .int .i64 b, .int .i64 n, .slice BA bn bc, .int .i64 0, .int .i64 0, .int .i64 0, .int .i64 0, .string ByteArray.empty, .string ByteArray.empty, .string ByteArray.empty, .slice SA sn sc]] w (StepR w F c D (.int .i64 0) ({ r with slow := upd2 r.slow i j d })) := by
  have hb0 := one_box' w (.cells #[.int .i64 10, .int .i64 a, .int .i64 b, .int .i64 n, .slice BA bn bc, .int .i64 0, .int .i64 0, .int .i64 0, .int .i64 0, .string ByteArray.empty, .string ByteArray.empty, .string ByteArray.empty, .slice SA sn sc] 41)
  have hE := Blk.new w 41 #[.int .i64 10, .int .i64 a, .int .i64 b, .int .i64 n, .slice BA bn bc, .int .i64 0, .int .i64 0, .int .i64 0, .int .i64 0, .string ByteArray.empty, .string ByteArray.empty, .string ByteArray.empty, .slice SA sn sc]
  obtain ⟨w0, hw0⟩ : ∃ w0, w0 = w.alloc (.cells #[.int .i64 10, .int .i64 a, .int .i64 b, .int .i64 n, .slice BA bn bc, .int .i64 0, .int .i64 0, .int .i64 0, .int .i64 0, .string ByteArray.empty, .string ByteArray.empty, .string ByteArray.empty, .slice SA sn sc] 41) := ⟨_, rfl⟩
  rw [← hw0] at hb0 hE
  have hp0 := h.below hb0
  have HP := Lib.hid (path_any hp0 a b)
  have x0 : w0.cell? ⟨w.heap.size, 0, none⟩ = some (.int .i64 10) := hE.cell 0
  have x1 : w0.cell? ⟨w.heap.size, 1, none⟩ = some (.int .i64 a) := hE.cell 1
  have x2 : w0.cell? ⟨w.heap.size, 2, none⟩ = some (.int .i64 b) := hE.cell 2
  have x3 : w0.cell? ⟨w.heap.size, 3, none⟩ = some (.int .i64 n) := hE.cell 3
  have HW0 := Lib.hid hw0
  have HB0 := Lib.hid hb0
  have HH := Lib.hid h
  obtain rfl := ha
  obtain rfl := hb
  have HJ := Lib.hid hJ
  have hi16 : i < 16 := by have := hc.2.1; omega
  have hj16 : j < 16 := by have := hc.2.1; omega
  have hiI : (i : Int) < 16 := by omega
  have hjI : (j : Int) < 16 := by omega
  obtain ⟨hF0, v, X, hX⟩ := hp0
  obtain ⟨wd, hwd⟩ : ∃ wd, wd = w0.drew := ⟨_, rfl⟩
  have hXd : RN wd F c D r v X := by rw [hwd]; exact hX.chg ((Chg.refl (fun _ => False) w0).drewN 1) fun _ _ h => h
  have hbd : Below w.heap.size w wd := by rw [hwd]; exact below_drewN hb0 1
  have y1 : wd.cell? ⟨w.heap.size, 1, none⟩ = some (.int .i64 (i : Int)) := by rw [hwd]; exact x1
  have y2 : wd.cell? ⟨w.heap.size, 2, none⟩ = some (.int .i64 (j : Int)) := by rw [hwd]; exact x2
  have y3 : wd.cell? ⟨w.heap.size, 3, none⟩ = some (.int .i64 n) := by rw [hwd]; exact x3
  obtain ⟨p0, p1⟩ := hXd.path hi16 hj16
  have pf : wd.frozen? ⟨D, 307 + i * 16 + j, none⟩ = false := hXd.blk.frozen _
  obtain ⟨w2, hw2⟩ : ∃ w2, w2 = wd.setCell ⟨D, 307 + i * 16 + j, none⟩ (.int .i64 n) := ⟨_, rfl⟩
  have hX2 : RN w2 F c D ({ r with slow := upd2 r.slow i j d }) v X := by rw [hw2]; exact hXd.setD (by rw [hd]; exact net_slow c r v hi16 hj16 d) rfl
  have HE : Hid (StepR w F c D (.int .i64 0) ({ r with slow := upd2 r.slow i j d }) (.returned (.int .i64 0)) w2) := Lib.hid (StepR.of h.1 (by rw [hw2]; exact (Chg.of_below hbd F).setCell (.inl hX.fd) _) hX2)
  have HWD := Lib.hid hwd
  have HW2 := Lib.hid hw2
  clear hw0 hb0 hE hF0 hX hwd hXd hbd hw2 hX2 h hJ hc
  have HD := Lib.hid hd
  have hn1 : ¬ n < 1 := by omega
  have hn2 : ¬ n > 16 := by omega
  clear hd hd1 hd2
  go_enter Try.func83, Try.ntmps83
  go_upto_region 1 with fail
  rw [← HW0.out]
  go_upto_region 6 with (go_at_call 78; refine HP.out.mono ?_; rintro _ _ ⟨rfl, rfl⟩; simp only [HJ.out])
  refine region_tail 11 (by kernel_rfl) (by kernel_rfl) ?_
  simp only [List.take_succ_cons, List.take_zero, List.drop_succ_cons, List.drop_zero]
  rw [← HWD.out]
  clear x0 x1 x2 x3
  repeat still_step
  refine wpStill_nil ?_
  change wpList _ _ _ _ _ wd
  go_upto_region 11 with fail
  rw [← HW2.out]
  clear p0 p1 pf y1 y2 y3
  go_wp2
  go_ret
  exact HE.out
set_option maxRecDepth 100000 in
set_option maxHeartbeats 3200000 in
theorem doPath_10no (_hc : c.Ok) (h : RNx w F c D r) (a b n : Int) (BA SA : Option Addr) (bn bc sn sc : Nat) {i j : Nat} (_hi : i < c.n) (_hj : j < c.n) (hJ : joinB c a b = true) (ha : a = (i : Int)) (hb : b = (j : Int)) (hno : n < 1 ∨ 16 < n) : Calls Try.prog 83 #[.pointer (some ⟨D, 0, none⟩), .agg #[.int .i64 10, .int .i64 a, .int .i64 b, .int .i64 n, .slice BA bn bc, .int .i64 0, .int .i64 0, .int .i64 0, .int .i64 0, .string ByteArray.empty, .string ByteArray.empty, .string ByteArray.empty, .slice SA sn sc]] w (StepR w F c D (.int .i64 1) (r)) := by
  have hb0 := one_box' w (.cells #[.int .i64 10, .int .i64 a, .int .i64 b, .int .i64 n, .slice BA bn bc, .int .i64 0, .int .i64 0, .int .i64 0, .int .i64 0, .string ByteArray.empty, .string ByteArray.empty, .string ByteArray.empty, .slice SA sn sc] 41)
  have hE := Blk.new w 41 #[.int .i64 10, .int .i64 a, .int .i64 b, .int .i64 n, .slice BA bn bc, .int .i64 0, .int .i64 0, .int .i64 0, .int .i64 0, .string ByteArray.empty, .string ByteArray.empty, .string ByteArray.empty, .slice SA sn sc]
  obtain ⟨w0, hw0⟩ : ∃ w0, w0 = w.alloc (.cells #[.int .i64 10, .int .i64 a, .int .i64 b, .int .i64 n, .slice BA bn bc, .int .i64 0, .int .i64 0, .int .i64 0, .int .i64 0, .string ByteArray.empty, .string ByteArray.empty, .string ByteArray.empty, .slice SA sn sc] 41) := ⟨_, rfl⟩
  rw [← hw0] at hb0 hE
  have hp0 := h.below hb0
  have HP := Lib.hid (path_any hp0 a b)
  have x0 : w0.cell? ⟨w.heap.size, 0, none⟩ = some (.int .i64 10) := hE.cell 0
  have x1 : w0.cell? ⟨w.heap.size, 1, none⟩ = some (.int .i64 a) := hE.cell 1
  have x2 : w0.cell? ⟨w.heap.size, 2, none⟩ = some (.int .i64 b) := hE.cell 2
  have x3 : w0.cell? ⟨w.heap.size, 3, none⟩ = some (.int .i64 n) := hE.cell 3
  have HW0 := Lib.hid hw0
  have HB0 := Lib.hid hb0
  have HH := Lib.hid h
  obtain rfl := ha
  obtain rfl := hb
  have HJ := Lib.hid hJ
  clear hw0 hb0 hE hp0 h hJ _hc
  by_cases h1 : n < 1
  · clear hno
    go_enter Try.func83, Try.ntmps83
    go_upto_region 1 with fail
    rw [← HW0.out]
    go_wp2_with (go_at_call 78; refine HP.out.mono ?_; rintro _ _ ⟨rfl, rfl⟩; simp only [HJ.out])
    go_ret
    exact StepR.same HH.out HB0.out
  · have h2 : n > 16 := by omega
    clear hno
    go_enter Try.func83, Try.ntmps83
    go_upto_region 1 with fail
    rw [← HW0.out]
    go_wp2_with (go_at_call 78; refine HP.out.mono ?_; rintro _ _ ⟨rfl, rfl⟩; simp only [HJ.out])
    go_ret
    exact StepR.same HH.out HB0.out
end Go.Proofs.Ytgfhmfhhobhojaa
