/-
  The program's detector: Heard.
-/
import Derived.Test.YtfjpmoigpnmeoaaDProg2
import Derived.StillTailTactics
namespace Go.Proofs.Ytfjpmoigpnmeoaa
open Go.RowKit
variable {w : World} {F : Nat → Prop} {c : Cfg} {D O : Nat} {d : DSt} {Q C : Nat → Nat}
theorem region_tail {P : Program} {id : Nat} {Q : Exit → Act → World → Prop} {a : Act} {w : World} {l : List Oper} (n : Nat) (hm : P.follows .mixedOrders = true) (hB : Region.lexTailB .any l.toArray n = true)
    (h : wpStill P l.toArray w.drew (fun a' => wpList P l.toArray Q (l.drop n) a' w.drew) (l.take n) a) : (Code.region id l.toArray true).wp P Q a w := wp_region_still_tail n hm hB h
theorem fits_eq (c : Cfg) (q inc tick : Int) (hs : List Int) : fits c q inc tick hs = (otherB c q && decide (1 ≤ inc ∧ inc ≤ 4611686018427387904) && validB c tick hs) := by
  have e : (hs.all fun v => decide (0 ≤ v ∧ v ≤ 4611686018427387904)) = hs.all okV := rfl
  unfold fits validB
  rw [e]
  simp only [otherB, Bool.and_assoc]
def HeardsP (w : World) (F : Nat → Prop) (c : Cfg) (D : Nat) (d : DSt) (O : Nat) (Q C : Nat → Nat) (q inc tick : Int) (hs : List Int) (e : Ending) (w' : World) : Prop :=
  e = .returned (.int .i64 (hearE c d q inc tick hs)) ∧ PD w' F c D (hearD c d q inc tick hs) O Q C ∧ Chg F w w'
theorem HeardsP.no {w' : World} {q inc tick : Int} {hs : List Int} {x : Int} (h : PD w F c D d O Q C) (hF : ∀ k, F k → k < w.heap.size) (hE : hearE c d q inc tick hs = x) (hx : x ≠ 0) (hb : Below w.heap.size w w') : HeardsP w F c D d O Q C q inc tick hs (.returned (.int .i64 x)) w' := by
  refine ⟨by rw [hE], ?_, Chg.of_below hb _⟩
  rw [hearD, hE, if_neg hx]
  exact h.below hF hb
/-- The five cells that a beat turns. -/
def sound5 (w : World) (q : Nat) (inc tick : Int) (l m : Bool) : World :=
  ((((w.setCell ⟨q, 0, none⟩ (.int .i64 inc)).setCell ⟨q, 1, none⟩ (.bool (!l))).setCell ⟨q, 2, none⟩ (.bool m)).setCell ⟨q, 3, none⟩ (.int .i64 tick)).setCell ⟨q, 4, none⟩ (.int .i64 0)
theorem sound5_ok {w1 : World} {j : Nat} {p1 : Pr} {inc tick : Int} {m : Bool} (h : PD w1 F c D ⟨d.tick, d.left, updP d.pr j p1⟩ O Q C) (hj : j < c.n) (hs : j ≠ c.self) (hk : (d.pr j).known ≤ inc)
    (ht : p1.tmo = (beatP c d.left (d.pr j) inc tick m).tmo) (hw : p1.wrong = (beatP c d.left (d.pr j) inc tick m).wrong) : PD (sound5 w1 (Q j) inc tick d.left m) F c D (beatD c d (j : Int) inc tick m) O Q C := by
  have h1 := h.setQ (p' := { p1 with known := inc }) (i := 0) (u := .int .i64 inc) hj hs (by simp only [updP_same]; rfl) (by simp only [updP_same]; rfl)
  have h2 := h1.setQ (p' := { p1 with known := inc, heard := !d.left }) (i := 1) (u := .bool (!d.left)) hj hs (by simp only [updP_same]; rfl) (by simp only [updP_same]; rfl)
  have h3 := h2.setQ (p' := { p1 with known := inc, heard := !d.left, mutl := m }) (i := 2) (u := .bool m) hj hs (by simp only [updP_same]; rfl) (by simp only [updP_same]; rfl)
  have h4 := h3.setQ (p' := { p1 with known := inc, heard := !d.left, mutl := m, last := tick }) (i := 3) (u := .int .i64 tick) hj hs (by simp only [updP_same]; rfl) (by simp only [updP_same]; rfl)
  have h5 := h4.setQ (p' := { p1 with known := inc, heard := !d.left, mutl := m, last := tick, age := 0 }) (i := 4) (u := .int .i64 0) hj hs (by simp only [updP_same]; rfl) (by simp only [updP_same]; rfl)
  refine h5.congr rfl rfl fun q _ _ => ?_
  by_cases e : q = j
  · subst e
    simp only [updP_same]
    have hkk : (beatP c d.left (d.pr q) inc tick m).known = inc := by simp only [beatP]; split <;> omega
    simp only [beatD, if_true]
    have hb : ∀ b : Pr, b.known = inc → b.last = tick → b.age = 0 → b.heard = (!d.left) → b.mutl = m → b = ⟨inc, tick, 0, b.tmo, b.wrong, !d.left, m⟩ := by
      rintro ⟨_, _, _, _, _, _, _⟩ rfl rfl rfl rfl rfl; rfl
    rw [ht, hw]
    exact hb _ hkk rfl rfl rfl rfl
  · simp only [updP_other _ e]
    have : ¬ (q : Int) = (j : Int) := by omega
    simp only [beatD, if_neg this]
theorem sound5_chg {a w1 : World} {j : Nat} {inc tick : Int} {l m : Bool} (h : Chg F a w1) (hq : F (Q j)) : Chg F a (sound5 w1 (Q j) inc tick l m) :=
  ((((h.setCell (p := ⟨Q j, 0, none⟩) (.inl hq) _).setCell (p := ⟨Q j, 1, none⟩) (.inl hq) _).setCell (p := ⟨Q j, 2, none⟩) (.inl hq) _).setCell (p := ⟨Q j, 3, none⟩) (.inl hq) _).setCell (p := ⟨Q j, 4, none⟩) (.inl hq) _
theorem PD.drewN {w : World} (h : PD w F c D d O Q C) (n : Nat) : PD (w.drewN n) F c D d O Q C := h.chg ((Chg.refl (fun _ => False) _).drewN n) fun _ _ h => h
section
variable (A : Option Addr) (n cap : Nat) (hs : List Int) (q inc tick : Int)
theorem hearE_arg (h : fits c q inc tick hs = false) : hearE c d q inc tick hs = 1 := by rw [hearE, if_pos h]
set_option maxRecDepth 100000 in
set_option maxHeartbeats 1600000 in
theorem PHeard_none (h : PD w F c D d O Q C) (hF : ∀ k, F k → k < w.heap.size) (hn : c.n ≤ 16) (hsf : c.self < c.n) (ho : otherB c q = false) :
    Calls Try.prog 13 #[.pointer (some ⟨D, 0, none⟩), .int .i64 q, .int .i64 inc, .agg #[.int .i64 tick, .slice A n cap]] w (HeardsP w F c D d O Q C q inc tick hs) := by
  have hb0 := one_box' w (.cells #[.int .i64 tick, .slice A n cap] 37)
  have HP := Lib.hid h
  have HF := Lib.hid hF
  have HO := Lib.hid ho
  have HP0 := Lib.hid (h.below hF hb0)
  clear h hF ho
  go_enter Try.func13, Try.ntmps13
  go_upto_region 1 with fail
  generalize w.alloc (.cells #[.int .i64 tick, .slice A n cap] 37) = w0 at hb0 HP0 ⊢
  go_wp2_with fail
  refine (of_no HP0.out hn hsf q HO.out).mono ?_
  rintro _ _ ⟨rfl, rfl⟩
  go_wp2
  go_ret
  exact HeardsP.no HP.out HF.out (hearE_arg hs q inc tick (by rw [fits_eq, HO.out]; simp)) (by omega) hb0
set_option maxRecDepth 100000 in
set_option maxHeartbeats 3200000 in
theorem PHeard_at (j : Nat) (h : PD w F c D d O Q C) (hF : ∀ k, F k → k < w.heap.size) (hn : c.n ≤ 16) (hsf : c.self < c.n) (hj : j < c.n) (hjs : j ≠ c.self) (hr : RdI w w.heap.size A n hs) (hm : n ≤ 140737488351232) (hA : 0 < n → ∀ b o s, A = some ⟨b, o, s⟩ → ¬ F b) (m : Nat) (hok : d.Ok c m) (hm2 : m < 4611686018427387904) (hc1 : c.step ≤ 64) (hc0 : 1 ≤ c.step) (hl : c.lim ≤ 64) :
    Calls Try.prog 13 #[.pointer (some ⟨D, 0, none⟩), .int .i64 (j : Int), .int .i64 inc, .agg #[.int .i64 tick, .slice A n cap]] w (HeardsP w F c D d O Q C (j : Int) inc tick hs) := by
  have hl' := hr.lenI
  have HL := Lib.hid hl'
  have hO := Blk.new w 37 #[.int .i64 tick, .slice A n cap]
  have hb0 := one_box' w (.cells #[.int .i64 tick, .slice A n cap] 37)
  have ho : otherB c (j : Int) = true := by simp [otherB]; omega
  have hpk := hok.p j
  obtain ⟨p0, p1, p2, p3, p4, p5, p6, p7, p8, p9, pa⟩ := hpk
  have HA := Lib.hid hA
  clear hA
  have HP := Lib.hid h
  have HF := Lib.hid hF
  have hr0 := hr.over hb0
  have HP0 := Lib.hid (h.below hF hb0)
  obtain ⟨w0, hw0⟩ : ∃ w0, w0 = w.alloc (.cells #[.int .i64 tick, .slice A n cap] 37) := ⟨_, rfl⟩
  rw [← hw0] at hO hb0 hr0 HP0
  have HW := Lib.hid hw0
  have HO := Lib.hid hO
  have hs0 := hb0.size
  have HE : Hid (fits c (j : Int) inc tick hs = (decide (1 ≤ inc ∧ inc ≤ 4611686018427387904) && validB c tick hs)) := Lib.hid (by rw [fits_eq, ho]; simp)
  have HLF : Hid (d.left = true → (d.pr j).heard = false) := Lib.hid fun h => hok.left h j
  have HF0 : Hid (∀ k, F k → k < w0.heap.size) := Lib.hid fun k hk => by have := hF k hk; omega
  have b0 : w0.cell? ⟨w.heap.size, 0, none⟩ = some (.int .i64 tick) := hO.cell 0
  have b1 : w0.cell? ⟨w.heap.size, 1, none⟩ = some (.slice A n cap) := hO.cell 1
  have hV := valid_any HP0.out HF0.out hn A n cap hs hr0 hm tick
  have HV := Lib.hid hV
  clear h hF hw0 hr hl' hok ho hO hV p6 p2 p3 p4 p5
  by_cases hi : inc < 1 ∨ 4611686018427387904 < inc
  · have HX : Hid (hearE c d (j : Int) inc tick hs = 1) := Lib.hid (hearE_arg hs _ inc tick (by rw [HE.out, decide_eq_false (by omega)]; simp))
    rcases hi with hi | hi
    · go_enter Try.func13, Try.ntmps13
      go_upto_region 1 with fail
      rw [← HW.out]
      go_wp2_with fail
      refine (of_yes HP0.out hn hj hjs).mono ?_
      rintro _ _ ⟨rfl, rfl⟩
      go_wp2
      go_ret
      exact HeardsP.no HP.out HF.out HX.out (by omega) hb0
    · have hi' : ¬ inc < 1 := by omega
      go_enter Try.func13, Try.ntmps13
      go_upto_region 1 with fail
      rw [← HW.out]
      go_wp2_with fail
      refine (of_yes HP0.out hn hj hjs).mono ?_
      rintro _ _ ⟨rfl, rfl⟩
      go_wp2
      go_ret
      exact HeardsP.no HP.out HF.out HX.out (by omega) hb0
  have hi1 : ¬ inc < 1 := by omega
  have hi2 : ¬ 4611686018427387904 < inc := by omega
  have hi3 : 1 ≤ inc := by omega
  have hi4 : inc ≤ 4611686018427387904 := by omega
  clear hi
  replace HE : Hid (fits c (j : Int) inc tick hs = validB c tick hs) := Lib.hid (by rw [HE.out, decide_eq_true (by omega)]; simp)
  go_enter Try.func13, Try.ntmps13
  go_upto_region 1 with fail
  rw [← HW.out]
  go_wp2_with fail
  refine (of_yes HP0.out hn hj hjs).mono ?_
  rintro _ _ ⟨rfl, rfl⟩
  go_wp2_with fail
  clear b0 b1
  cases hv : validB c tick hs with
  | false =>
    have HX : Hid (hearE c d (j : Int) inc tick hs = 1) := Lib.hid (hearE_arg hs _ inc tick (by rw [HE.out, hv]))
    rw [hv] at HV
    clear hv
    refine HV.out.mono ?_
    rintro _ w1 ⟨rfl, hb1⟩
    go_wp2
    go_ret
    exact HeardsP.no HP.out HF.out HX.out (by omega) (hb0.trans (hb1.mono hs0))
  | true =>
  replace HE : Hid (fits c (j : Int) inc tick hs = true) := Lib.hid (by rw [HE.out, hv])
  have hv2 : 0 ≤ tick ∧ tick ≤ 4611686018427387904 ∧ hs.length = c.n := by
    have := hv
    simp only [validB, Bool.and_eq_true, decide_eq_true_eq] at this
    exact ⟨this.1.1.1, this.1.1.2, this.1.2⟩
  obtain ⟨ht0, ht1, hln⟩ := hv2
  have hnc : n = c.n := by rw [← hln, HL.out]
  rw [hv] at HV
  refine HV.out.mono ?_
  rintro _ w1 ⟨rfl, hb1⟩
  have hb01 := hb0.trans (hb1.mono hs0)
  have HP1 := Lib.hid (HP0.out.below HF0.out hb1)
  have hr1 := hr0.below hb1
  obtain ⟨b, off, hv3, rfl, hbl, hvk, hcell⟩ := hr1.int (k := c.self) (by omega)
  have HM : Hid (hs.getD c.self 0 = hv3) := Lib.hid (by simp [List.getD, hvk])
  have hsI : (c.self : Int) < (n : Int) := by omega
  have hsN : c.self < n := by omega
  have hO1 := HO.out.over hb1
  have b0 : w1.cell? ⟨w.heap.size, 0, none⟩ = some (.int .i64 tick) := hO1.cell 0
  have b1 : w1.cell? ⟨w.heap.size, 1, none⟩ = some (.slice (some ⟨b, off, none⟩) n cap) := hO1.cell 1
  obtain ⟨c0, c1, c2, c3, c4⟩ := HP1.out.cell
  obtain ⟨o0, o1, o2, o3, o4, o5, o6⟩ := HP1.out.ocell hj hjs
  obtain ⟨k0, k1, k2⟩ := HP1.out.ccell hj hjs
  have f0 := (HP1.out.oth j hj hjs).frozen 0
  have f1 := (HP1.out.oth j hj hjs).frozen 1
  have f2 := (HP1.out.oth j hj hjs).frozen 2
  have f3 := (HP1.out.oth j hj hjs).frozen 3
  have f4 := (HP1.out.oth j hj hjs).frozen 4
  have HO1 := Lib.hid hO1
  clear hv hln hnc hvk hO1 hr1
  by_cases hk : inc < (d.pr j).known
  · have HX : Hid (hearE c d (j : Int) inc tick hs = 50) := Lib.hid (by rw [hearE, if_neg (by rw [HE.out]; simp), if_pos (by simpa using hk)])
    go_wp2
    go_ret
    exact HeardsP.no HP.out HF.out HX.out (by omega) hb01
  by_cases he : inc = (d.pr j).known ∧ tick ≤ (d.pr j).last
  · have HX : Hid (hearE c d (j : Int) inc tick hs = 51) := Lib.hid (by rw [hearE, if_neg (by rw [HE.out]; simp), if_neg (by simpa using hk), if_pos (by simpa using he)])
    have e1 : (inc == (d.pr j).known) = true := by simpa using he.1
    have e2 := he.2
    clear he
    go_upto_region 6 with fail
    go_quiet (fail)
    go_wp2
    go_ret
    exact HeardsP.no HP.out HF.out HX.out (by omega) (below_drewN hb01 _)
  have HX : Hid (hearE c d (j : Int) inc tick hs = 0) := Lib.hid (by rw [hearE, if_neg (by rw [HE.out]; simp), if_neg (by simpa using hk), if_neg (by simpa using he)])
  have HD : Hid (hearD c d (j : Int) inc tick hs = beatD c d (j : Int) inc tick (hv3 == c.inc)) := Lib.hid (by rw [hearD, HX.out, if_pos rfl, HM.out])
  by_cases hg : (d.pr j).known < inc
  · have e1 : (inc == (d.pr j).known) = false := by simp; omega
    go_upto_region 6 with fail
    go_quiet (fail)
    obtain ⟨w2, hw2⟩ : ∃ w2, w2 = w1.drewN nq := ⟨_, rfl⟩
    have hb2 : Below w1.heap.size w1 w2 := by rw [hw2]; exact below_drewN (Below.refl _ _) _
    rw [← hw2]
    have HP2 : Hid (PD w2 F c D d O Q C) := by rw [hw2]; exact HP1.out.drewN _
    have HC2 : Hid (Chg F w w2) := Chg.of_below (hb01.trans (hb2.mono (by have := hb01.size; omega))) _
    have hcell2 : w2.cell? ⟨b, off + c.self, none⟩ = some (.int .i64 hv3) := by rw [hw2]; exact hcell
    have hO2 : Blk w2 w.heap.size 37 #[.int .i64 tick, .slice (some ⟨b, off, none⟩) n cap] := by rw [hw2]; exact HO1.out.drewN _
    clear hw2 b0 b1 c0 c1 c2 c3 c4 o0 o1 o2 o3 o4 o5 o6 k0 k1 k2 f0 f1 f2 f3 f4 hcell
    have b0 : w2.cell? ⟨w.heap.size, 0, none⟩ = some (.int .i64 tick) := hO2.cell 0
    have b1 : w2.cell? ⟨w.heap.size, 1, none⟩ = some (.slice (some ⟨b, off, none⟩) n cap) := hO2.cell 1
    obtain ⟨c0, c1, c2, c3, c4⟩ := HP2.out.cell
    obtain ⟨o0, o1, o2, o3, o4, o5, o6⟩ := HP2.out.ocell hj hjs
    obtain ⟨k0, k1, k2⟩ := HP2.out.ccell hj hjs
    have f0 := (HP2.out.oth j hj hjs).frozen 0
    have f1 := (HP2.out.oth j hj hjs).frozen 1
    have f2 := (HP2.out.oth j hj hjs).frozen 2
    have f3 := (HP2.out.oth j hj hjs).frozen 3
    have f4 := (HP2.out.oth j hj hjs).frozen 4
    have HP3 : Hid (PD w2 F c D ⟨d.tick, d.left, updP d.pr j (d.pr j)⟩ O Q C) := Lib.hid (HP2.out.congr rfl rfl fun q _ _ => by by_cases e : q = j <;> simp [updP, e])
    have HC3 := HC2
    have HT : Hid ((d.pr j).tmo = (beatP c d.left (d.pr j) inc tick (hv3 == c.inc)).tmo) := Lib.hid (by simp only [beatP]; rw [if_pos hg])
    have HU : Hid ((d.pr j).wrong = (beatP c d.left (d.pr j) inc tick (hv3 == c.inc)).wrong) := Lib.hid (by simp only [beatP]; rw [if_pos hg])
    have HPE : Hid (PD (sound5 w2 (Q j) inc tick d.left (hv3 == c.inc)).drew F c D (hearD c d (j : Int) inc tick hs) O Q C ∧ Chg F w (sound5 w2 (Q j) inc tick d.left (hv3 == c.inc)).drew) := by
      refine Lib.hid ?_
      rw [HD.out]
      exact ⟨(sound5_ok HP3.out hj hjs (by omega) HT.out HU.out).drewN 1, (sound5_chg HC3.out (HP3.out.fq j hj hjs).1).drewN 1⟩
    go_upto_region 11 with fail
    refine region_tail 25 (by kernel_rfl) (by kernel_rfl) ?_
    simp only [List.take_succ_cons, List.take_zero, List.drop_succ_cons, List.drop_zero]
    repeat still_step
    refine wpStill_nil ?_
    go_wp2
    go_ret
    exact ⟨ret_int HX.out.symm, HPE.out⟩
  have hke : inc = (d.pr j).known := by omega
  have hlt : ¬ tick ≤ (d.pr j).last := by omega
  have e1 : (inc == (d.pr j).known) = true := by simpa using hke
  clear he
  cases hh : (d.pr j).heard with
  | true =>
    have HH := Lib.hid hh
    have HN := HH
    have HT : Hid ((d.pr j).tmo = (beatP c d.left (d.pr j) inc tick (hv3 == c.inc)).tmo) := Lib.hid (by simp only [beatP]; rw [if_neg hg, if_neg (by simp [HN.out])])
    have HU : Hid ((d.pr j).wrong = (beatP c d.left (d.pr j) inc tick (hv3 == c.inc)).wrong) := Lib.hid (by simp only [beatP]; rw [if_neg hg, if_neg (by simp [HN.out])])
    rw [hh] at o1
    clear hke hh
    go_upto_region 6 with fail
    go_quiet (fail)
    obtain ⟨w2, hw2⟩ : ∃ w2, w2 = w1.drewN nq := ⟨_, rfl⟩
    have hb2 : Below w1.heap.size w1 w2 := by rw [hw2]; exact below_drewN (Below.refl _ _) _
    rw [← hw2]
    have HP2 : Hid (PD w2 F c D d O Q C) := by rw [hw2]; exact HP1.out.drewN _
    have HC2 : Hid (Chg F w w2) := Chg.of_below (hb01.trans (hb2.mono (by have := hb01.size; omega))) _
    have hcell2 : w2.cell? ⟨b, off + c.self, none⟩ = some (.int .i64 hv3) := by rw [hw2]; exact hcell
    have hO2 : Blk w2 w.heap.size 37 #[.int .i64 tick, .slice (some ⟨b, off, none⟩) n cap] := by rw [hw2]; exact HO1.out.drewN _
    clear hw2 b0 b1 c0 c1 c2 c3 c4 o0 o1 o2 o3 o4 o5 o6 k0 k1 k2 f0 f1 f2 f3 f4 hcell
    have b0 : w2.cell? ⟨w.heap.size, 0, none⟩ = some (.int .i64 tick) := hO2.cell 0
    have b1 : w2.cell? ⟨w.heap.size, 1, none⟩ = some (.slice (some ⟨b, off, none⟩) n cap) := hO2.cell 1
    obtain ⟨c0, c1, c2, c3, c4⟩ := HP2.out.cell
    obtain ⟨o0, o1, o2, o3, o4, o5, o6⟩ := HP2.out.ocell hj hjs
    obtain ⟨k0, k1, k2⟩ := HP2.out.ccell hj hjs
    have f0 := (HP2.out.oth j hj hjs).frozen 0
    have f1 := (HP2.out.oth j hj hjs).frozen 1
    have f2 := (HP2.out.oth j hj hjs).frozen 2
    have f3 := (HP2.out.oth j hj hjs).frozen 3
    have f4 := (HP2.out.oth j hj hjs).frozen 4
    rw [HH.out] at o1
    have HP3 : Hid (PD w2 F c D ⟨d.tick, d.left, updP d.pr j (d.pr j)⟩ O Q C) := Lib.hid (HP2.out.congr rfl rfl fun q _ _ => by by_cases e : q = j <;> simp [updP, e])
    have HC3 := HC2
    have HPE : Hid (PD (sound5 w2 (Q j) inc tick d.left (hv3 == c.inc)).drew F c D (hearD c d (j : Int) inc tick hs) O Q C ∧ Chg F w (sound5 w2 (Q j) inc tick d.left (hv3 == c.inc)).drew) := by
      refine Lib.hid ?_
      rw [HD.out]
      exact ⟨(sound5_ok HP3.out hj hjs (by omega) HT.out HU.out).drewN 1, (sound5_chg HC3.out (HP3.out.fq j hj hjs).1).drewN 1⟩
    go_upto_region 11 with fail
    refine region_tail 25 (by kernel_rfl) (by kernel_rfl) ?_
    simp only [List.take_succ_cons, List.take_zero, List.drop_succ_cons, List.drop_zero]
    repeat still_step
    refine wpStill_nil ?_
    go_wp2
    go_ret
    exact ⟨ret_int HX.out.symm, HPE.out⟩
  | false =>
    cases hl2 : d.left with
    | true =>
      have HH := Lib.hid hh
      have HN := Lib.hid hl2
      have HT : Hid ((d.pr j).tmo = (beatP c d.left (d.pr j) inc tick (hv3 == c.inc)).tmo) := Lib.hid (by simp only [beatP]; rw [if_neg hg, if_neg (by simp [HN.out])])
      have HU : Hid ((d.pr j).wrong = (beatP c d.left (d.pr j) inc tick (hv3 == c.inc)).wrong) := Lib.hid (by simp only [beatP]; rw [if_neg hg, if_neg (by simp [HN.out])])
      rw [hh] at o1
      rw [hl2] at c3
      clear hke hh hl2
      go_upto_region 6 with fail
      go_quiet (fail)
      obtain ⟨w2, hw2⟩ : ∃ w2, w2 = w1.drewN nq := ⟨_, rfl⟩
      have hb2 : Below w1.heap.size w1 w2 := by rw [hw2]; exact below_drewN (Below.refl _ _) _
      rw [← hw2]
      have HP2 : Hid (PD w2 F c D d O Q C) := by rw [hw2]; exact HP1.out.drewN _
      have HC2 : Hid (Chg F w w2) := Chg.of_below (hb01.trans (hb2.mono (by have := hb01.size; omega))) _
      have hcell2 : w2.cell? ⟨b, off + c.self, none⟩ = some (.int .i64 hv3) := by rw [hw2]; exact hcell
      have hO2 : Blk w2 w.heap.size 37 #[.int .i64 tick, .slice (some ⟨b, off, none⟩) n cap] := by rw [hw2]; exact HO1.out.drewN _
      clear hw2 b0 b1 c0 c1 c2 c3 c4 o0 o1 o2 o3 o4 o5 o6 k0 k1 k2 f0 f1 f2 f3 f4 hcell
      have b0 : w2.cell? ⟨w.heap.size, 0, none⟩ = some (.int .i64 tick) := hO2.cell 0
      have b1 : w2.cell? ⟨w.heap.size, 1, none⟩ = some (.slice (some ⟨b, off, none⟩) n cap) := hO2.cell 1
      obtain ⟨c0, c1, c2, c3, c4⟩ := HP2.out.cell
      obtain ⟨o0, o1, o2, o3, o4, o5, o6⟩ := HP2.out.ocell hj hjs
      obtain ⟨k0, k1, k2⟩ := HP2.out.ccell hj hjs
      have f0 := (HP2.out.oth j hj hjs).frozen 0
      have f1 := (HP2.out.oth j hj hjs).frozen 1
      have f2 := (HP2.out.oth j hj hjs).frozen 2
      have f3 := (HP2.out.oth j hj hjs).frozen 3
      have f4 := (HP2.out.oth j hj hjs).frozen 4
      rw [HH.out] at o1
      rw [HN.out] at c3
      have HP3 : Hid (PD w2 F c D ⟨d.tick, d.left, updP d.pr j (d.pr j)⟩ O Q C) := Lib.hid (HP2.out.congr rfl rfl fun q _ _ => by by_cases e : q = j <;> simp [updP, e])
      have HC3 := HC2
      have HPE : Hid (PD (sound5 w2 (Q j) inc tick d.left (hv3 == c.inc)).drew F c D (hearD c d (j : Int) inc tick hs) O Q C ∧ Chg F w (sound5 w2 (Q j) inc tick d.left (hv3 == c.inc)).drew) := by
        refine Lib.hid ?_
        rw [HD.out]
        exact ⟨(sound5_ok HP3.out hj hjs (by omega) HT.out HU.out).drewN 1, (sound5_chg HC3.out (HP3.out.fq j hj hjs).1).drewN 1⟩
      rw [HN.out] at HPE
      go_upto_region 11 with fail
      refine region_tail 25 (by kernel_rfl) (by kernel_rfl) ?_
      simp only [List.take_succ_cons, List.take_zero, List.drop_succ_cons, List.drop_zero]
      repeat still_step
      refine wpStill_nil ?_
      go_wp2
      go_ret
      exact ⟨ret_int HX.out.symm, HPE.out⟩
    | false =>
      have HH := Lib.hid hh
      have HN := Lib.hid hl2
      have HT : Hid (min c.lim ((d.pr j).tmo + c.step) = (beatP c d.left (d.pr j) inc tick (hv3 == c.inc)).tmo) := Lib.hid (by simp only [beatP]; rw [if_neg hg, if_pos ⟨hh, hl2⟩])
      have HU : Hid ((d.pr j).wrong + 1 = (beatP c d.left (d.pr j) inc tick (hv3 == c.inc)).wrong) := Lib.hid (by simp only [beatP]; rw [if_neg hg, if_pos ⟨hh, hl2⟩])
      rw [hh] at o1
      rw [hl2] at c3
      clear hke hh hl2
      go_upto_region 6 with fail
      go_quiet (fail)
      obtain ⟨w2, hw2⟩ : ∃ w2, w2 = w1.drewN nq := ⟨_, rfl⟩
      have hb2 : Below w1.heap.size w1 w2 := by rw [hw2]; exact below_drewN (Below.refl _ _) _
      rw [← hw2]
      have HP2 : Hid (PD w2 F c D d O Q C) := by rw [hw2]; exact HP1.out.drewN _
      have HC2 : Hid (Chg F w w2) := Chg.of_below (hb01.trans (hb2.mono (by have := hb01.size; omega))) _
      have hcell2 : w2.cell? ⟨b, off + c.self, none⟩ = some (.int .i64 hv3) := by rw [hw2]; exact hcell
      have hO2 : Blk w2 w.heap.size 37 #[.int .i64 tick, .slice (some ⟨b, off, none⟩) n cap] := by rw [hw2]; exact HO1.out.drewN _
      clear hw2 b0 b1 c0 c1 c2 c3 c4 o0 o1 o2 o3 o4 o5 o6 k0 k1 k2 f0 f1 f2 f3 f4 hcell
      have b0 : w2.cell? ⟨w.heap.size, 0, none⟩ = some (.int .i64 tick) := hO2.cell 0
      have b1 : w2.cell? ⟨w.heap.size, 1, none⟩ = some (.slice (some ⟨b, off, none⟩) n cap) := hO2.cell 1
      obtain ⟨c0, c1, c2, c3, c4⟩ := HP2.out.cell
      obtain ⟨o0, o1, o2, o3, o4, o5, o6⟩ := HP2.out.ocell hj hjs
      obtain ⟨k0, k1, k2⟩ := HP2.out.ccell hj hjs
      have f0 := (HP2.out.oth j hj hjs).frozen 0
      have f1 := (HP2.out.oth j hj hjs).frozen 1
      have f2 := (HP2.out.oth j hj hjs).frozen 2
      have f3 := (HP2.out.oth j hj hjs).frozen 3
      have f4 := (HP2.out.oth j hj hjs).frozen 4
      rw [HH.out] at o1
      rw [HN.out] at c3
      have f6 := (HP2.out.oth j hj hjs).frozen 6
      have hx1 := HP2.out.setQ (p' := { d.pr j with wrong := (d.pr j).wrong + 1 }) (i := 6) (u := .int .i64 ((d.pr j).wrong + 1)) hj hjs rfl rfl
      have HX1 := Lib.hid hx1
      have hx2 := hx1.setC (p' := { d.pr j with wrong := (d.pr j).wrong + 1, tmo := min c.lim ((d.pr j).tmo + c.step) }) (i := 0) (u := .int .i64 (min c.lim ((d.pr j).tmo + c.step))) hj hjs (by simp only [updP_same]; rfl) (by simp only [updP_same]; rfl)
      have HFQ := Lib.hid (hx1.fq j hj hjs)
      have hm3 := meth_grow ⟨C j, 0, none⟩
      have hbF : ∀ k, F k → k ≠ w.heap.size := fun k hk e => by have := HF.out _ hk; omega
      have HC3 : Hid (Chg F w (((w2.setCell ⟨Q j, 6, none⟩ (.int .i64 ((d.pr j).wrong + 1))).setCell ⟨C j, 0, none⟩ (.int .i64 (min c.lim ((d.pr j).tmo + c.step)))).drew)) := ((HC2.out.setCell (p := ⟨Q j, 6, none⟩) (.inl HFQ.out.1) _).setCell (p := ⟨C j, 0, none⟩) (.inl HFQ.out.2) _).drew
      have HP3 : Hid (PD (((w2.setCell ⟨Q j, 6, none⟩ (.int .i64 ((d.pr j).wrong + 1))).setCell ⟨C j, 0, none⟩ (.int .i64 (min c.lim ((d.pr j).tmo + c.step)))).drew) F c D ⟨d.tick, d.left, updP d.pr j { d.pr j with wrong := (d.pr j).wrong + 1, tmo := min c.lim ((d.pr j).tmo + c.step) }⟩ O Q C) := Lib.hid ((hx2.drewN 1).congr rfl rfl fun q _ _ => by by_cases e : q = j <;> simp [updP, e])
      have hO3 : Blk (((w2.setCell ⟨Q j, 6, none⟩ (.int .i64 ((d.pr j).wrong + 1))).setCell ⟨C j, 0, none⟩ (.int .i64 (min c.lim ((d.pr j).tmo + c.step)))).drew) w.heap.size 37 #[.int .i64 tick, .slice (some ⟨b, off, none⟩) n cap] := ((hO2.far (p := ⟨Q j, 6, none⟩) (fun e => hbF _ HFQ.out.1 e.symm) _).far (p := ⟨C j, 0, none⟩) (fun e => hbF _ HFQ.out.2 e.symm) _).drew
      have hcell3 : (((w2.setCell ⟨Q j, 6, none⟩ (.int .i64 ((d.pr j).wrong + 1))).setCell ⟨C j, 0, none⟩ (.int .i64 (min c.lim ((d.pr j).tmo + c.step)))).drew).cell? ⟨b, off + c.self, none⟩ = some (.int .i64 hv3) := by
        have h1 : b ≠ Q j := fun e => HA.out (by omega) b off none rfl (e ▸ HFQ.out.1)
        have h2 : b ≠ C j := fun e => HA.out (by omega) b off none rfl (e ▸ HFQ.out.2)
        have q1 : (w2.setCell ⟨Q j, 6, none⟩ (.int .i64 ((d.pr j).wrong + 1))).heap[b]? = w2.heap[b]? := Below.heap_setCell w2 ⟨Q j, 6, none⟩ _ b h1
        have q2 : ((w2.setCell ⟨Q j, 6, none⟩ (.int .i64 ((d.pr j).wrong + 1))).setCell ⟨C j, 0, none⟩ (.int .i64 (min c.lim ((d.pr j).tmo + c.step)))).heap[b]? = (w2.setCell ⟨Q j, 6, none⟩ (.int .i64 ((d.pr j).wrong + 1))).heap[b]? := Below.heap_setCell _ ⟨C j, 0, none⟩ _ b h2
        exact (World.cell?_of_block (q2.trans q1)).trans hcell2
      have HO3 := Lib.hid hO3
      have HC4 := Lib.hid hcell3
      obtain ⟨kk0, kk1, kk2⟩ := HX1.out.ccell hj hjs
      simp only [updP_same] at kk0
      have kf := (HX1.out.cap j hj hjs).frozen 0
      have KK := Lib.hid (And.intro kk0 (And.intro kk1 (And.intro kk2 kf)))
      have HY : Hid ((w2.setCell ⟨Q j, 6, none⟩ (.int .i64 ((d.pr j).wrong + 1))).cell? ⟨Q j, 5, none⟩ = some (.iface 109 (.pointer (some ⟨C j, 0, none⟩)))) := (HX1.out.ocell hj hjs).2.2.2.2.2.1
      clear hx1 hx2 hO2 hO3 hcell3 hcell2 hbF kk0 kk1 kk2 kf
      go_upto_region 10 with fail
      have o5' := HY.out
      go_wp2_with fail
      clear b0 b1 c0 c1 c2 c3 c4 o0 o1 o2 o3 o4 o5 o6 k0 k1 k2 f0 f1 f2 f3 f4 f6 o5'
      refine (grow_any (C j) (d.pr j).tmo c.step c.lim _ KK.out.1 KK.out.2.1 KK.out.2.2.1 KK.out.2.2.2 (by omega) (by omega) (by omega) (by omega) (by omega) (by omega)).mono ?_
      rintro _ w3 ⟨rfl, hw3⟩
      rw [← hw3] at HC3 HP3 HO3 HC4
      clear hw3
      have hO2 := HO3.out
      have hcell3 := HC4.out
      have b0 : w3.cell? ⟨w.heap.size, 0, none⟩ = some (.int .i64 tick) := hO2.cell 0
      have b1 : w3.cell? ⟨w.heap.size, 1, none⟩ = some (.slice (some ⟨b, off, none⟩) n cap) := hO2.cell 1
      obtain ⟨c0, c1, c2, c3, c4⟩ := HP3.out.cell
      obtain ⟨o0, o1, o2, o3, o4, o5, o6⟩ := HP3.out.ocell hj hjs
      obtain ⟨k0, k1, k2⟩ := HP3.out.ccell hj hjs
      have f0 := (HP3.out.oth j hj hjs).frozen 0
      have f1 := (HP3.out.oth j hj hjs).frozen 1
      have f2 := (HP3.out.oth j hj hjs).frozen 2
      have f3 := (HP3.out.oth j hj hjs).frozen 3
      have f4 := (HP3.out.oth j hj hjs).frozen 4
      simp only [updP_same] at o0 o1 o2 o3 o4 o5 o6 k0
      rw [HN.out] at c3
      have HPE : Hid (PD (sound5 w3 (Q j) inc tick d.left (hv3 == c.inc)).drew F c D (hearD c d (j : Int) inc tick hs) O Q C ∧ Chg F w (sound5 w3 (Q j) inc tick d.left (hv3 == c.inc)).drew) := by
        refine Lib.hid ?_
        rw [HD.out]
        exact ⟨(sound5_ok HP3.out hj hjs (by omega) HT.out HU.out).drewN 1, (sound5_chg HC3.out (HP3.out.fq j hj hjs).1).drewN 1⟩
      rw [HN.out] at HPE
      go_upto_region 11 with fail
      refine region_tail 25 (by kernel_rfl) (by kernel_rfl) ?_
      simp only [List.take_succ_cons, List.take_zero, List.drop_succ_cons, List.drop_zero]
      repeat still_step
      refine wpStill_nil ?_
      go_wp2
      go_ret
      exact ⟨ret_int HX.out.symm, HPE.out⟩
end
end Go.Proofs.Ytfjpmoigpnmeoaa
