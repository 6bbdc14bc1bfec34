/-
  EtherOnTime, walked.
-/
import Derived.Test.YtgfhmfhhobhojaaEOnP
namespace Go.Proofs.Ytgfhmfhhobhojaa
open Go.ChangeShapes Go.WideShapes Go.ChangeAt Go.RowKit
set_option maxRecDepth 100000 in
set_option maxHeartbeats 3200000 in
theorem On_bad {w : World} {c : ECfg} (hc : c.Ok) (h2 : 2 ≤ c.n) (hrm : c.room = 20000) (x1 d : Int) (hd : ¬ (1 ≤ d ∧ d ≤ 16)) (hdm : d ≤ 9223372036854775807) (g : Bool) (A : Option Addr) (n cap : Nat) (_hcap : n ≤ cap) (_hcm : cap * 80 ≤ 140737488351232) (HO : Hid (EOps w w.heap.size 140737488351232 17592186043904 A n)) :
    Calls Try.prog 3 #[.agg #[.int .i64 (c.n : Int), .int .i64 x1, .slice A n cap], .int .i64 d, .bool g] w (TrueOk w) := by
  have hb0 := one_box' w (.cells #[.int .i64 (c.n : Int), .int .i64 x1, .slice A n cap] 24)
  have hR := Blk.new w 24 #[.int .i64 (c.n : Int), .int .i64 x1, .slice A n cap]
  obtain ⟨w0, hw0⟩ : ∃ w0, w0 = w.alloc (.cells #[.int .i64 (c.n : Int), .int .i64 x1, .slice A n cap] 24) := ⟨_, rfl⟩
  rw [← hw0] at hb0 hR
  have HW := Lib.hid hw0
  have hs0 := hb0.size
  have HOP : Hid (EOps w0 w.heap.size 140737488351232 17592186043904 A n) := HO.out.below hb0
  have HR := Lib.hid hR
  have HB0 := Lib.hid hb0
  have r0 : w0.cell? ⟨w.heap.size, 0, none⟩ = some (.int .i64 (c.n : Int)) := hR.cell 0
  have HC := Lib.hid hc
  have hnew := New_yes (w := w0) hc
  rw [hrm, show ((20000 : Nat) : Int) = 20000 from rfl] at hnew
  have HNEW := Lib.hid hnew
  have H2 := Lib.hid (And.intro h2 hrm)
  have hn1 : ¬ (c.n : Int) < 2 := by omega
  have hn2 : ¬ (16 : Int) < (c.n : Int) := by have := hc.2.1; omega
  clear hw0 hR hb0 hc hnew hrm
  go_enter Try.func3, Try.ntmps3
  go_upto_region 1 with fail
  rw [← HW.out]
  go_upto_region 2 with (go_at_call 15; refine HNEW.out.mono ?_; rintro _ w1 ⟨D, F1, rfl, hp, hF, hb1⟩; have HP1 := Lib.hid (And.intro hp (And.intro hF hb1)); clear hp hF hb1)
  have hR1 := HR.out.over HP1.out.2.2
  clear r0
  have r0 : w1.cell? ⟨w.heap.size, 0, none⟩ = some (.int .i64 (c.n : Int)) := hR1.cell 0
  have HST : Hid (LiveX w1 w0.heap.size c D 0 PV.new ∧ Below w0.heap.size w0 w1) := Lib.hid ⟨LiveX.new HC.out HP1.out.1 HP1.out.2.1 HP1.out.2.2, HP1.out.2.2⟩
  clear hR1
  go_upto_region 6 with fail
  clear r0 hn1 hn2 h2
  go_wp2_with fail
  go_loopw [9] (fun i wr => ∃ k : Nat, k ≤ n ∧ k ≤ 5000 ∧ i = .int .i64 (k : Int) ∧ Hid (∃ p, LiveX wr w0.heap.size c D k p) ∧ Hid (Below w0.heap.size w0 wr)) (fun i _ => n - (intOf i).toNat)
  case atStart => exact ⟨0, by omega, by omega, rfl, Lib.hid ⟨_, HST.out.1⟩, Lib.hid HST.out.2⟩
  case round =>
    clear HST
    obtain ⟨k, hk, hk5, rfl, HT, HB⟩ := hrel
    have hRr := HR.out.over HB.out
    have r2 : wr.cell? ⟨w.heap.size, 2, none⟩ = some (.slice A n cap) := hRr.cell 2
    have hsr := HB.out.size
    by_cases hlt : k < n ∧ k < 5000
    · have hI : (k : Int) < (n : Int) := by omega
      have hI5 : (k : Int) < 5000 := by omega
      obtain ⟨b, off, rfl, hbl, hops⟩ := (HOP.out.below (HB.out.mono hs0)) (by omega)
      obtain ⟨kd, p, q, nn, BA, bc, bs, SA, sc, sides, hop⟩ := hops k hlt.1
      have o0 := hop.c0
      have o1 := hop.c1
      have o2 := hop.c2
      have o3 := hop.c3
      have o4 := hop.c4
      have o5 := hop.c5
      have HPL : Hid (Calls Try.prog 16 #[.pointer (some ⟨D, 0, none⟩), .agg #[.int .i64 kd, .int .i64 p, .int .i64 q, .int .i64 nn, .slice BA bs.length bc, .slice SA sides.length sc]] wr fun e w' => e = .returned (.tuple #[]) ∧ ∃ p', LiveX w' w0.heap.size c D (k + 1) p' ∧ Below w0.heap.size wr w') := by
        obtain ⟨p0, hx⟩ := HT.out
        exact Lib.hid (XPlay HC.out hx (by omega) (hop.more hs0) (Nat.le_refl _) (Nat.le_refl _))
      clear hop hops hRr
      go_wp2_with (go_at_call 16; refine HPL.out.mono ?_; rintro _ w3 ⟨rfl, p', hd, hb3⟩; have HN := Lib.hid (Exists.intro p' hd); have HNB := Lib.hid (HB.out.trans hb3); clear hd hb3)
      go_roundw
      case rel => exact ⟨k + 1, by omega, by omega, by go_num, HN, HNB⟩
      case measure => simp [intOf] <;> omega
    · obtain ⟨p, hX⟩ := HT.out
      have HX := Lib.hid hX
      clear hX HT
      go_upto_region 7 with fail
      go_cut [50] from 42 to 59 (fun s wx => s = .bool false ∧ wx = wr)
      case first =>
        by_cases h1 : k < n
        · have hI : (k : Int) < (n : Int) := by omega
          have hI5 : ¬ (k : Int) < 5000 := by omega
          go_wp2_with fail
          go_meet
          exact ⟨rfl, rfl⟩
        · have hI : ¬ (k : Int) < (n : Int) := by omega
          go_wp2_with fail
          go_meet
          exact ⟨rfl, rfl⟩
      case rest =>
        obtain ⟨rfl, rfl⟩ := hcut
        clear r2 hRr hlt

        have HR1 := Lib.hid (XRest HX.out (by omega) 0)
        go_upto_region 11 with (go_at_call 17; refine HR1.out.mono ?_; rintro _ w2 ⟨rfl, hn⟩; have HX2 := Lib.hid hn; clear hn)
        have HR2 := Lib.hid (XRest HX2.out.1 (by omega) 1)
        go_upto_region 12 with (go_at_call 17; refine HR2.out.mono ?_; rintro _ w3 ⟨rfl, hn⟩; have HX3 := Lib.hid hn; clear hn)
        have HD : Hid ((restP c (restP c p 0) 1).down 0 = false ∧ (restP c (restP c p 0) 1).down 1 = false) := Lib.hid ⟨rest_down (rest_up (q := 0) (by have := H2.out.1; omega)), rest_up (q := 1) (by have := H2.out.1; omega)⟩
        obtain ⟨p3, hp3⟩ : ∃ p3, p3 = restP c (restP c p 0) 1 := ⟨_, rfl⟩
        rw [← hp3] at HX3 HD
        clear hp3
        have hj := joinB_01 H2.out.1
        have HU := Lib.hid fun q => XUp HX3.out.1 q
        have eu0 : upA c p3.down 0 = true := by
          unfold upA
          rw [show (0 : Int).toNat = 0 from rfl, HD.out.1]
          have := H2.out.1
          simp [hasB]; omega
        have eu1 : upA c p3.down 1 = true := by
          unfold upA
          rw [show (1 : Int).toNat = 1 from rfl, HD.out.2]
          have := H2.out.1
          simp [hasB]; omega
        have hdo := XDo0 HC.out HX3.out.1 (by omega) 9 0 1 0 (by omega)
        rw [show (doD c p3 ⟨9, 0, 1, 0, [], []⟩).1 = 0 by rw [heal_ok hj]] at hdo
        have HDO := Lib.hid hdo
        clear hdo
        go_upto_region 14 with (first
          | (go_at_call 18; refine (HU.out _).mono ?_; rintro _ _ ⟨rfl, rfl⟩)
          | (go_at_call 19; refine HDO.out.mono ?_; rintro _ w4 ⟨rfl, hn⟩; have HX4 := Lib.hid hn; clear hn))
        have hdl := XDo0 HC.out HX4.out.1 (by omega) 10 0 1 d (by omega)
        have hj4 := joinB_01 H2.out.1
        have HB4 := Lib.hid (((HB.out.trans HX2.out.2).trans HX3.out.2).trans HX4.out.2)
        have HRDY := Lib.hid fun hd => Rdy.made (p := p3) H2.out.1 H2.out.2 HD.out.1 HD.out.2 (d := d) hd
        obtain ⟨p4, hp4⟩ : ∃ p4, p4 = (doD c p3 ⟨9, 0, 1, 0, [], []⟩).2 := ⟨_, rfl⟩
        rw [← hp4] at HX4 HRDY hdl
        clear hp4 HU eu0 eu1 HDO hj
        rw [delay_bad hj4 hd] at hdl
        have HDL := Lib.hid hdl
        clear hdl hj4
        by_cases hd1 : d < 1
        · go_wp2_with (go_at_call 19; refine HDL.out.mono ?_; rintro _ w5 ⟨rfl, hn⟩; have HX5 := Lib.hid hn; clear hn)
          go_ret
          exact ⟨rfl, HB0.out.trans ((HB4.out.trans HX5.out.2).mono hs0)⟩
        · have hd2 : 16 < d := by omega
          go_wp2_with (go_at_call 19; refine HDL.out.mono ?_; rintro _ w5 ⟨rfl, hn⟩; have HX5 := Lib.hid hn; clear hn)
          go_ret
          exact ⟨rfl, HB0.out.trans ((HB4.out.trans HX5.out.2).mono hs0)⟩
set_option maxRecDepth 100000 in
set_option maxHeartbeats 3200000 in
theorem On_gap {w : World} {c : ECfg} (hc : c.Ok) (h2 : 2 ≤ c.n) (hrm : c.room = 20000) (x1 d : Int) (hd : 1 ≤ d ∧ d ≤ 16) (A : Option Addr) (n cap : Nat) (_hcap : n ≤ cap) (_hcm : cap * 80 ≤ 140737488351232) (HO : Hid (EOps w w.heap.size 140737488351232 17592186043904 A n)) :
    Calls Try.prog 3 #[.agg #[.int .i64 (c.n : Int), .int .i64 x1, .slice A n cap], .int .i64 d, .bool true] w (TrueOk w) := by
  have hb0 := one_box' w (.cells #[.int .i64 (c.n : Int), .int .i64 x1, .slice A n cap] 24)
  have hR := Blk.new w 24 #[.int .i64 (c.n : Int), .int .i64 x1, .slice A n cap]
  obtain ⟨w0, hw0⟩ : ∃ w0, w0 = w.alloc (.cells #[.int .i64 (c.n : Int), .int .i64 x1, .slice A n cap] 24) := ⟨_, rfl⟩
  rw [← hw0] at hb0 hR
  have HW := Lib.hid hw0
  have hs0 := hb0.size
  have HOP : Hid (EOps w0 w.heap.size 140737488351232 17592186043904 A n) := HO.out.below hb0
  have HR := Lib.hid hR
  have HB0 := Lib.hid hb0
  have r0 : w0.cell? ⟨w.heap.size, 0, none⟩ = some (.int .i64 (c.n : Int)) := hR.cell 0
  have HC := Lib.hid hc
  have hnew := New_yes (w := w0) hc
  rw [hrm, show ((20000 : Nat) : Int) = 20000 from rfl] at hnew
  have HNEW := Lib.hid hnew
  have H2 := Lib.hid (And.intro h2 hrm)
  have hn1 : ¬ (c.n : Int) < 2 := by omega
  have hn2 : ¬ (16 : Int) < (c.n : Int) := by have := hc.2.1; omega
  clear hw0 hR hb0 hc hnew hrm
  go_enter Try.func3, Try.ntmps3
  go_upto_region 1 with fail
  rw [← HW.out]
  go_upto_region 2 with (go_at_call 15; refine HNEW.out.mono ?_; rintro _ w1 ⟨D, F1, rfl, hp, hF, hb1⟩; have HP1 := Lib.hid (And.intro hp (And.intro hF hb1)); clear hp hF hb1)
  have hR1 := HR.out.over HP1.out.2.2
  clear r0
  have r0 : w1.cell? ⟨w.heap.size, 0, none⟩ = some (.int .i64 (c.n : Int)) := hR1.cell 0
  have HST : Hid (LiveX w1 w0.heap.size c D 0 PV.new ∧ Below w0.heap.size w0 w1) := Lib.hid ⟨LiveX.new HC.out HP1.out.1 HP1.out.2.1 HP1.out.2.2, HP1.out.2.2⟩
  clear hR1
  go_upto_region 6 with fail
  clear r0 hn1 hn2 h2
  go_wp2_with fail
  go_loopw [9] (fun i wr => ∃ k : Nat, k ≤ n ∧ k ≤ 5000 ∧ i = .int .i64 (k : Int) ∧ Hid (∃ p, LiveX wr w0.heap.size c D k p) ∧ Hid (Below w0.heap.size w0 wr)) (fun i _ => n - (intOf i).toNat)
  case atStart => exact ⟨0, by omega, by omega, rfl, Lib.hid ⟨_, HST.out.1⟩, Lib.hid HST.out.2⟩
  case round =>
    clear HST
    obtain ⟨k, hk, hk5, rfl, HT, HB⟩ := hrel
    have hRr := HR.out.over HB.out
    have r2 : wr.cell? ⟨w.heap.size, 2, none⟩ = some (.slice A n cap) := hRr.cell 2
    have hsr := HB.out.size
    by_cases hlt : k < n ∧ k < 5000
    · have hI : (k : Int) < (n : Int) := by omega
      have hI5 : (k : Int) < 5000 := by omega
      obtain ⟨b, off, rfl, hbl, hops⟩ := (HOP.out.below (HB.out.mono hs0)) (by omega)
      obtain ⟨kd, p, q, nn, BA, bc, bs, SA, sc, sides, hop⟩ := hops k hlt.1
      have o0 := hop.c0
      have o1 := hop.c1
      have o2 := hop.c2
      have o3 := hop.c3
      have o4 := hop.c4
      have o5 := hop.c5
      have HPL : Hid (Calls Try.prog 16 #[.pointer (some ⟨D, 0, none⟩), .agg #[.int .i64 kd, .int .i64 p, .int .i64 q, .int .i64 nn, .slice BA bs.length bc, .slice SA sides.length sc]] wr fun e w' => e = .returned (.tuple #[]) ∧ ∃ p', LiveX w' w0.heap.size c D (k + 1) p' ∧ Below w0.heap.size wr w') := by
        obtain ⟨p0, hx⟩ := HT.out
        exact Lib.hid (XPlay HC.out hx (by omega) (hop.more hs0) (Nat.le_refl _) (Nat.le_refl _))
      clear hop hops hRr
      go_wp2_with (go_at_call 16; refine HPL.out.mono ?_; rintro _ w3 ⟨rfl, p', hd, hb3⟩; have HN := Lib.hid (Exists.intro p' hd); have HNB := Lib.hid (HB.out.trans hb3); clear hd hb3)
      go_roundw
      case rel => exact ⟨k + 1, by omega, by omega, by go_num, HN, HNB⟩
      case measure => simp [intOf] <;> omega
    · obtain ⟨p, hX⟩ := HT.out
      have HX := Lib.hid hX
      clear hX HT
      go_upto_region 7 with fail
      go_cut [50] from 42 to 59 (fun s wx => s = .bool false ∧ wx = wr)
      case first =>
        by_cases h1 : k < n
        · have hI : (k : Int) < (n : Int) := by omega
          have hI5 : ¬ (k : Int) < 5000 := by omega
          go_wp2_with fail
          go_meet
          exact ⟨rfl, rfl⟩
        · have hI : ¬ (k : Int) < (n : Int) := by omega
          go_wp2_with fail
          go_meet
          exact ⟨rfl, rfl⟩
      case rest =>
        obtain ⟨rfl, rfl⟩ := hcut
        clear r2 hRr hlt

        have HR1 := Lib.hid (XRest HX.out (by omega) 0)
        go_upto_region 11 with (go_at_call 17; refine HR1.out.mono ?_; rintro _ w2 ⟨rfl, hn⟩; have HX2 := Lib.hid hn; clear hn)
        have HR2 := Lib.hid (XRest HX2.out.1 (by omega) 1)
        go_upto_region 12 with (go_at_call 17; refine HR2.out.mono ?_; rintro _ w3 ⟨rfl, hn⟩; have HX3 := Lib.hid hn; clear hn)
        have HD : Hid ((restP c (restP c p 0) 1).down 0 = false ∧ (restP c (restP c p 0) 1).down 1 = false) := Lib.hid ⟨rest_down (rest_up (q := 0) (by have := H2.out.1; omega)), rest_up (q := 1) (by have := H2.out.1; omega)⟩
        obtain ⟨p3, hp3⟩ : ∃ p3, p3 = restP c (restP c p 0) 1 := ⟨_, rfl⟩
        rw [← hp3] at HX3 HD
        clear hp3
        have hj := joinB_01 H2.out.1
        have HU := Lib.hid fun q => XUp HX3.out.1 q
        have eu0 : upA c p3.down 0 = true := by
          unfold upA
          rw [show (0 : Int).toNat = 0 from rfl, HD.out.1]
          have := H2.out.1
          simp [hasB]; omega
        have eu1 : upA c p3.down 1 = true := by
          unfold upA
          rw [show (1 : Int).toNat = 1 from rfl, HD.out.2]
          have := H2.out.1
          simp [hasB]; omega
        have hdo := XDo0 HC.out HX3.out.1 (by omega) 9 0 1 0 (by omega)
        rw [show (doD c p3 ⟨9, 0, 1, 0, [], []⟩).1 = 0 by rw [heal_ok hj]] at hdo
        have HDO := Lib.hid hdo
        clear hdo
        go_upto_region 14 with (first
          | (go_at_call 18; refine (HU.out _).mono ?_; rintro _ _ ⟨rfl, rfl⟩)
          | (go_at_call 19; refine HDO.out.mono ?_; rintro _ w4 ⟨rfl, hn⟩; have HX4 := Lib.hid hn; clear hn))
        have hdl := XDo0 HC.out HX4.out.1 (by omega) 10 0 1 d (by omega)
        have hj4 := joinB_01 H2.out.1
        have HB4 := Lib.hid (((HB.out.trans HX2.out.2).trans HX3.out.2).trans HX4.out.2)
        have HRDY := Lib.hid fun hd => Rdy.made (p := p3) H2.out.1 H2.out.2 HD.out.1 HD.out.2 (d := d) hd
        obtain ⟨p4, hp4⟩ : ∃ p4, p4 = (doD c p3 ⟨9, 0, 1, 0, [], []⟩).2 := ⟨_, rfl⟩
        rw [← hp4] at HX4 HRDY hdl
        clear hp4 HU eu0 eu1 HDO hj
        have e5 : (doD c p4 ⟨10, 0, 1, d, [], []⟩).1 = 0 := by rw [delay_ok hj4 hd]
        rw [e5] at hdl
        have HDL := Lib.hid hdl
        have hd1 : ¬ d < 1 := by omega
        have hd2 : ¬ 16 < d := by omega
        clear hdl hj4 e5
        go_upto_region 18 with (go_at_call 19; refine HDL.out.mono ?_; rintro _ w5 ⟨rfl, hn⟩; have HX5 := Lib.hid hn; clear hn)
        have HR5 := Lib.hid (HRDY.out hd)
        obtain ⟨e, rfl⟩ : ∃ e : Nat, d = (e : Int) := ⟨d.toNat, by omega⟩
        rw [Int.toNat_natCast] at HR5
        obtain ⟨p5, hp5⟩ : ∃ p5, p5 = (doD c p4 ⟨10, 0, 1, (e : Int), [], []⟩).2 := ⟨_, rfl⟩
        rw [← hp5] at HX5 HR5
        clear hp5
        have hw5 := HX5.out.1.inv.ways
        have hpo := HR5.out.post (by omega) [7] (by simp)
        obtain ⟨i, hi⟩ : ∃ i, i = p5.last + 1 := ⟨_, rfl⟩
        obtain ⟨C0, hC0⟩ : ∃ C0, C0 = p5.clock := ⟨_, rfl⟩
        have hpl := XPostL HC.out HX5.out.1 (by omega) 0 1 1 [7] (by simp)
        rw [hpo.1, hpo.2.1, hpo.2.2, show (p5.last : Int) + 1 = (i : Int) by omega] at hpl
        have HPL : Hid (Calls Try.prog 20 #[.pointer (some ⟨D, 0, none⟩), .int .i64 0, .int .i64 1, .slice (some ⟨w5.heap.size, 0, none⟩) 1 1] (w5.alloc (.cells #[.int .u8 7] 5)) fun e2 w' => e2 = .returned (.tuple #[.int .i64 (i : Int), .int .i64 0]) ∧ LiveX w' w0.heap.size c D (k + 1 + 1 + 1 + 1 + 1) (addP p5 0 1 (p5.clock + e) [7]) ∧ Below w0.heap.size w5 w') := Lib.hid hpl
        have HTR : Hid (Tr c (addP p5 0 1 (p5.clock + e) [7]) i (C0 + e) 1) := Lib.hid (by rw [hi, hC0]; exact Tr.new_ HX5.out.1.inv _ _ (HR5.out.ok _ _ _))
        have HRD := Lib.hid (HR5.out.add 0 1 (p5.clock + e) [7])
        have HCL : Hid ((addP p5 0 1 (p5.clock + e) [7]).clock = C0 ∧ (addP p5 0 1 (p5.clock + e) [7]).last = i) := Lib.hid ⟨hC0.symm, hi.symm⟩
        clear hpo hpl hi hC0 hw5
        obtain ⟨p6, hp6⟩ : ∃ p6, p6 = addP p5 0 1 (p5.clock + e) [7] := ⟨_, rfl⟩
        rw [← hp6] at HPL HTR HRD HCL
        clear hp6
        go_upto_region 22 with (go_at_call 20; refine HPL.out.mono ?_; rintro _ w6 ⟨rfl, hn⟩; have HX6 := Lib.hid hn; clear hn)
        have HB6 := Lib.hid ((HB4.out.trans HX5.out.2).trans HX6.out.2)
        have HRND := Lib.hid (XRound HC.out HX6.out.1 (by omega))
        have HTRR := Lib.hid HTR.out.round
        have hcw := HX6.out.1.inv.ways
        go_upto_region 25 with (go_at_call 21; refine HRND.out.mono ?_; rintro _ w7 ⟨A7, cap7, rfl, hfl, hn⟩; have HFL := Lib.hid hfl; have HX7 := Lib.hid hn; clear hfl hn)
        have hlen7 : (roundL c p6).length ≤ 1099511627776 := Nat.le_trans (List.length_filter_le _ _) (by omega)
        have hct := count_any A7 _ cap7 _ HFL.out hlen7 i
        rw [HTRR.out.2, HCL.out.1] at hct
        obtain ⟨v, hv⟩ : ∃ v : Nat, v = if C0 + 1 < C0 + e then 0 else 1 := ⟨_, rfl⟩
        rw [← hv] at hct
        have HCT := Lib.hid hct
        obtain ⟨bb, hbb⟩ : ∃ bb : Bool, bb = decide (e = 1) := ⟨_, rfl⟩
        have e1 : ((v : Int) == 1) = bb := by
          rw [hbb, hv]
          by_cases h1 : e = 1
          · rw [if_neg (by omega), h1]; rfl
          · rw [if_pos (by omega)]; simp [h1]
        have e2 : ((e : Int) == 1) = bb := by
          rw [hbb]
          by_cases h1 : e = 1
          · rw [h1]; rfl
          · simp [h1]; omega
        have e3 : (bb != bb) = false := by simp
        clear hv hbb hct hcw hlen7
        go_upto_region 27 with (go_at_call 22; refine HCT.out.mono ?_; rintro _ _ ⟨rfl, rfl⟩)
        clear e1 e2 e3
        have HB7 := Lib.hid (HB6.out.trans HX7.out.2)
        have HTR7 : Hid (Tr c (roundP p6) i (C0 + e) (if 2 ≤ e then 1 else 0)) := Lib.hid (by
          have h1 := HTRR.out.1
          rw [HCL.out.1] at h1
          have e0 : (if C0 + 1 < C0 + e then 1 else 0) = (if 2 ≤ e then 1 else 0) := by split <;> split <;> omega
          rwa [e0] at h1)
        have HRD7 := Lib.hid HRD.out.round
        have HCL7 : Hid ((roundP p6).clock = C0 + 1 ∧ (roundP p6).last = i) := Lib.hid ⟨by show p6.clock + 1 = _; rw [HCL.out.1], HCL.out.2⟩
        obtain ⟨p7, hp7⟩ : ∃ p7, p7 = roundP p6 := ⟨_, rfl⟩
        rw [← hp7] at HX7 HTR7 HRD7 HCL7
        clear hp7
        have hw7 := HX7.out.1.inv.ways
        have hpo := HRD7.out.post (by omega) [7, 8] (by simp)
        obtain ⟨j, hj⟩ : ∃ j, j = p7.last + 1 := ⟨_, rfl⟩
        have hpl := XPostL HC.out HX7.out.1 (by omega) 0 1 2 [7, 8] (by simp)
        rw [hpo.1, hpo.2.1, hpo.2.2, show (p7.last : Int) + 1 = (j : Int) by omega] at hpl
        have HPL2 : Hid (Calls Try.prog 20 #[.pointer (some ⟨D, 0, none⟩), .int .i64 0, .int .i64 1, .slice (some ⟨w7.heap.size, 0, none⟩) 2 2] (w7.alloc (.cells #[.int .u8 7, .int .u8 8] 5)) fun e2 w' => e2 = .returned (.tuple #[.int .i64 (j : Int), .int .i64 0]) ∧ LiveX w' w0.heap.size c D (k + 1 + 1 + 1 + 1 + 1 + 1 + 1) (addP p7 0 1 (p7.clock + e) [7, 8]) ∧ Below w0.heap.size w7 w') := Lib.hid hpl
        have HTI : Hid (Tr c (addP p7 0 1 (p7.clock + e) [7, 8]) i (C0 + e) (if 1 + 1 ≤ e then 1 else 0)) := Lib.hid (HTR7.out.add (by rw [HCL7.out.2]; omega) _ _ _ _)
        have HTJ : Hid (Tr c (addP p7 0 1 (p7.clock + e) [7, 8]) j (C0 + 1 + e) 1) := Lib.hid (by rw [hj, ← HCL7.out.1]; exact Tr.new_ HX7.out.1.inv _ _ (HRD7.out.ok _ _ _))
        have HRD8 := Lib.hid (HRD7.out.add 0 1 (p7.clock + e) [7, 8])
        have HCL8 : Hid ((addP p7 0 1 (p7.clock + e) [7, 8]).clock = C0 + 1) := Lib.hid HCL7.out.1
        have hji : ¬ (j : Int) ≤ (i : Int) := by
          have := HCL7.out.2
          omega
        have hjd : decide ((j : Int) ≤ (i : Int)) = false := decide_eq_false hji
        have hjn : decide (j ≤ i) = false := decide_eq_false (by omega)
        clear hpo hpl hj hw7
        obtain ⟨p8, hp8⟩ : ∃ p8, p8 = addP p7 0 1 (p7.clock + e) [7, 8] := ⟨_, rfl⟩
        rw [← hp8] at HPL2 HTI HTJ HRD8 HCL8
        clear hp8
        go_upto_region 30 with (go_at_call 20; refine HPL2.out.mono ?_; rintro _ w8 ⟨rfl, hn⟩; have HX8 := Lib.hid hn; clear hn)
        have HST : Hid (∃ p, LiveX w8 w0.heap.size c D (k + 10 + (1 + 1)) p ∧ Rdy c p e ∧ Tr c p i (C0 + e) (if 1 + 1 ≤ e then 1 else 0) ∧ Tr c p j (C0 + 1 + e) (if 1 + 1 ≤ e + 1 then 1 else 0) ∧ p.clock + 1 = C0 + (1 + 1)) := Lib.hid ⟨p8, HX8.out.1.mono (by omega), HRD8.out, HTI.out, by rw [if_pos (by omega)]; exact HTJ.out, by have := HCL8.out; omega⟩
        have HBS := Lib.hid (HB7.out.trans HX8.out.2)
        clear hji hjd hjn
        go_wp2_with fail
        go_loopw [6, 14, 15, 16] (fun _ r _ _ wr => ∃ q : Nat, q ≤ e + 1 + 2 ∧ r = .int .i64 (q : Int) ∧ Hid (∃ p, LiveX wr w0.heap.size c D (k + 10 + q) p ∧ Rdy c p e ∧ Tr c p i (C0 + e) (if q ≤ e then 1 else 0) ∧ Tr c p j (C0 + 1 + e) (if q ≤ e + 1 then 1 else 0) ∧ p.clock + 1 = C0 + q) ∧ Hid (Below w0.heap.size w0 wr)) (fun _ r _ _ _ => e + 1 + 2 - (intOf r).toNat)
        case atStart => exact ⟨1 + 1, by omega, rfl, HST, HBS⟩
        case round =>
          clear HST HBS
          obtain ⟨q, hq, rfl, HT, HBT⟩ := hrel
          by_cases hlt : q ≤ e + 1 + 1
          · have hI : (q : Int) ≤ (e : Int) + 1 + 1 := by omega
            obtain ⟨p9, hX9, hR9, hTi, hTj, hck⟩ := HT.out
            have HRN := Lib.hid (XRound HC.out hX9 (by omega))
            have hwy := hX9.inv.ways
            have hlen : (roundL c p9).length ≤ 1099511627776 := Nat.le_trans (List.length_filter_le _ _) (by omega)
            have HLEN := Lib.hid hlen
            have hTi' := hTi.round
            have hTj' := hTj.round
            rw [hck] at hTi' hTj'
            have HNX : Hid (∀ w', LiveX w' w0.heap.size c D (k + 10 + q + 1) (roundP p9) → ∃ p, LiveX w' w0.heap.size c D (k + 10 + (q + 1)) p ∧ Rdy c p e ∧ Tr c p i (C0 + e) (if q + 1 ≤ e then 1 else 0) ∧ Tr c p j (C0 + 1 + e) (if q + 1 ≤ e + 1 then 1 else 0) ∧ p.clock + 1 = C0 + (q + 1)) := Lib.hid fun w' hw' => by
              refine ⟨roundP p9, hw'.mono (by omega), hR9.round, ?_, ?_, by show p9.clock + 1 + 1 = _; omega⟩
              · have h1 := hTi'.1
                have e0 : (if C0 + q < C0 + e then (if q ≤ e then 1 else 0) else 0) = (if q + 1 ≤ e then 1 else 0) := by (repeat' split) <;> omega
                rwa [e0] at h1
              · have h1 := hTj'.1
                have e0 : (if C0 + q < C0 + 1 + e then (if q ≤ e + 1 then 1 else 0) else 0) = (if q + 1 ≤ e + 1 then 1 else 0) := by (repeat' split) <;> omega
                rwa [e0] at h1
            have hci : cntId (roundL c p9) i = if q = e then 1 else 0 := by
              rw [hTi'.2]
              (repeat' split) <;> omega
            have hcj : cntId (roundL c p9) j = if q = e + 1 then 1 else 0 := by
              rw [hTj'.2]
              (repeat' split) <;> omega
            clear hX9 hR9 hTi hTj hck hwy hlen hTi' hTj'
            rcases (by omega : q = e ∨ q = e + 1 ∨ (q ≠ e ∧ q ≠ e + 1)) with h1 | h1 | h1
            · skip
              have eci : (cntId (roundL c p9) i : Int) = 1 := by rw [hci, if_pos (by omega)]; rfl
              have ecj : (cntId (roundL c p9) j : Int) = 0 := by rw [hcj, if_neg (by omega)]; rfl
              have e1 : ((q : Int) == (e : Int)) = true := by simp; omega
              have e2 : ((q : Int) == (e : Int) + 1) = false := by simp; omega
              clear hci hcj h1
              go_wp2_with (first
                | (go_at_call 21; refine HRN.out.mono ?_; rintro _ w9 ⟨A9, cap9, rfl, hfl, hn⟩; have HFL := Lib.hid hfl; have HX10 := Lib.hid hn; clear hfl hn; have HCT := Lib.hid fun (x : Nat) => count_any A9 _ cap9 _ HFL.out HLEN.out x)
                | (go_at_call 22; refine (HCT.out _).mono ?_; rintro _ _ ⟨rfl, rfl⟩))
              clear eci ecj e1 e2
              have HNR := Lib.hid (HNX.out _ HX10.out.1)
              have HNB := Lib.hid (HBT.out.trans HX10.out.2)
              go_roundw
              case rel => first | exact ⟨q + 1, by omega, by go_num, HNR, HNB⟩ | ((repeat apply Exists.intro); exact ⟨⟨q + 1, by omega, by go_num, HNR, HNB⟩, rfl⟩)
              case measure => simp [intOf] <;> omega
            · skip
              have eci : (cntId (roundL c p9) i : Int) = 0 := by rw [hci, if_neg (by omega)]; rfl
              have ecj : (cntId (roundL c p9) j : Int) = 1 := by rw [hcj, if_pos (by omega)]; rfl
              have e1 : ((q : Int) == (e : Int)) = false := by simp; omega
              have e2 : ((q : Int) == (e : Int) + 1) = true := by simp; omega
              clear hci hcj h1
              go_wp2_with (first
                | (go_at_call 21; refine HRN.out.mono ?_; rintro _ w9 ⟨A9, cap9, rfl, hfl, hn⟩; have HFL := Lib.hid hfl; have HX10 := Lib.hid hn; clear hfl hn; have HCT := Lib.hid fun (x : Nat) => count_any A9 _ cap9 _ HFL.out HLEN.out x)
                | (go_at_call 22; refine (HCT.out _).mono ?_; rintro _ _ ⟨rfl, rfl⟩))
              clear eci ecj e1 e2
              have HNR := Lib.hid (HNX.out _ HX10.out.1)
              have HNB := Lib.hid (HBT.out.trans HX10.out.2)
              go_roundw
              case rel => first | exact ⟨q + 1, by omega, by go_num, HNR, HNB⟩ | ((repeat apply Exists.intro); exact ⟨⟨q + 1, by omega, by go_num, HNR, HNB⟩, rfl⟩)
              case measure => simp [intOf] <;> omega
            · skip
              have eci : (cntId (roundL c p9) i : Int) = 0 := by rw [hci, if_neg (by omega)]; rfl
              have ecj : (cntId (roundL c p9) j : Int) = 0 := by rw [hcj, if_neg (by omega)]; rfl
              have e1 : ((q : Int) == (e : Int)) = false := by simp; omega
              have e2 : ((q : Int) == (e : Int) + 1) = false := by simp; omega
              clear hci hcj h1
              go_wp2_with (first
                | (go_at_call 21; refine HRN.out.mono ?_; rintro _ w9 ⟨A9, cap9, rfl, hfl, hn⟩; have HFL := Lib.hid hfl; have HX10 := Lib.hid hn; clear hfl hn; have HCT := Lib.hid fun (x : Nat) => count_any A9 _ cap9 _ HFL.out HLEN.out x)
                | (go_at_call 22; refine (HCT.out _).mono ?_; rintro _ _ ⟨rfl, rfl⟩))
              clear eci ecj e1 e2
              have HNR := Lib.hid (HNX.out _ HX10.out.1)
              have HNB := Lib.hid (HBT.out.trans HX10.out.2)
              go_roundw
              case rel => first | exact ⟨q + 1, by omega, by go_num, HNR, HNB⟩ | ((repeat apply Exists.intro); exact ⟨⟨q + 1, by omega, by go_num, HNR, HNB⟩, rfl⟩)
              case measure => simp [intOf] <;> omega
          · obtain rfl : q = e + 1 + 2 := by omega
            have hI : ¬ (((e + 1 + 2 : Nat) : Int) ≤ (e : Int) + 1 + 1) := by omega
            obtain ⟨p9, hX9, hR9, hTi, hTj, hck⟩ := HT.out
            have hwy := hX9.inv.ways
            have hlen : p9.way.length ≤ 1099511627776 := by omega
            have HLEN := Lib.hid hlen
            have HF1 := Lib.hid (XFlights HC.out hX9 (by omega))
            have HX9 := Lib.hid hX9
            have HK := Lib.hid (show k + 10 + (e + 1 + 2) ≤ 4398046511104 by omega)
            have eci : (cntId p9.way i : Int) = 0 := by rw [hTi.cnt, if_neg (by omega)]; rfl
            have ecj : (cntId p9.way j : Int) = 0 := by rw [hTj.cnt, if_neg (by omega)]; rfl
            clear hX9 hR9 hTi hTj hck hwy hlen
            go_wp2_with (first
              | (go_at_call 23; refine HF2.out.mono ?_; rintro _ w10 ⟨A10, cap10, rfl, hfl, hb⟩; have HFL2 := Lib.hid hfl; have HB10 := Lib.hid hb; clear hfl hb; have HCT2 := Lib.hid fun (x : Nat) => count_any A10 _ cap10 _ HFL2.out HLEN.out x)
              | (go_at_call 23; refine HF1.out.mono ?_; rintro _ w9 ⟨A9, cap9, rfl, hfl, hb⟩; have HFL := Lib.hid hfl; have HB9 := Lib.hid hb; clear hfl hb; have HF2 := Lib.hid (XFlights HC.out (HX9.out.below HB9.out) HK.out); have HCT := Lib.hid fun (x : Nat) => count_any A9 _ cap9 _ HFL.out HLEN.out x)
              | (go_at_call 22; refine (HCT2.out _).mono ?_; rintro _ _ ⟨rfl, rfl⟩)
              | (go_at_call 22; refine (HCT.out _).mono ?_; rintro _ _ ⟨rfl, rfl⟩))
            go_ret
            exact ⟨rfl, HB0.out.trans ((HBT.out.trans ((HB9.out.trans (HB10.out.mono HB9.out.size)).mono HX9.out.1)).mono hs0)⟩
set_option maxRecDepth 100000 in
set_option maxHeartbeats 3200000 in
theorem On_no {w : World} {c : ECfg} (hc : c.Ok) (h2 : 2 ≤ c.n) (hrm : c.room = 20000) (x1 d : Int) (hd : 1 ≤ d ∧ d ≤ 16) (A : Option Addr) (n cap : Nat) (_hcap : n ≤ cap) (_hcm : cap * 80 ≤ 140737488351232) (HO : Hid (EOps w w.heap.size 140737488351232 17592186043904 A n)) :
    Calls Try.prog 3 #[.agg #[.int .i64 (c.n : Int), .int .i64 x1, .slice A n cap], .int .i64 d, .bool false] w (TrueOk w) := by
  have hb0 := one_box' w (.cells #[.int .i64 (c.n : Int), .int .i64 x1, .slice A n cap] 24)
  have hR := Blk.new w 24 #[.int .i64 (c.n : Int), .int .i64 x1, .slice A n cap]
  obtain ⟨w0, hw0⟩ : ∃ w0, w0 = w.alloc (.cells #[.int .i64 (c.n : Int), .int .i64 x1, .slice A n cap] 24) := ⟨_, rfl⟩
  rw [← hw0] at hb0 hR
  have HW := Lib.hid hw0
  have hs0 := hb0.size
  have HOP : Hid (EOps w0 w.heap.size 140737488351232 17592186043904 A n) := HO.out.below hb0
  have HR := Lib.hid hR
  have HB0 := Lib.hid hb0
  have r0 : w0.cell? ⟨w.heap.size, 0, none⟩ = some (.int .i64 (c.n : Int)) := hR.cell 0
  have HC := Lib.hid hc
  have hnew := New_yes (w := w0) hc
  rw [hrm, show ((20000 : Nat) : Int) = 20000 from rfl] at hnew
  have HNEW := Lib.hid hnew
  have H2 := Lib.hid (And.intro h2 hrm)
  have hn1 : ¬ (c.n : Int) < 2 := by omega
  have hn2 : ¬ (16 : Int) < (c.n : Int) := by have := hc.2.1; omega
  clear hw0 hR hb0 hc hnew hrm
  go_enter Try.func3, Try.ntmps3
  go_upto_region 1 with fail
  rw [← HW.out]
  go_upto_region 2 with (go_at_call 15; refine HNEW.out.mono ?_; rintro _ w1 ⟨D, F1, rfl, hp, hF, hb1⟩; have HP1 := Lib.hid (And.intro hp (And.intro hF hb1)); clear hp hF hb1)
  have hR1 := HR.out.over HP1.out.2.2
  clear r0
  have r0 : w1.cell? ⟨w.heap.size, 0, none⟩ = some (.int .i64 (c.n : Int)) := hR1.cell 0
  have HST : Hid (LiveX w1 w0.heap.size c D 0 PV.new ∧ Below w0.heap.size w0 w1) := Lib.hid ⟨LiveX.new HC.out HP1.out.1 HP1.out.2.1 HP1.out.2.2, HP1.out.2.2⟩
  clear hR1
  go_upto_region 6 with fail
  clear r0 hn1 hn2 h2
  go_wp2_with fail
  go_loopw [9] (fun i wr => ∃ k : Nat, k ≤ n ∧ k ≤ 5000 ∧ i = .int .i64 (k : Int) ∧ Hid (∃ p, LiveX wr w0.heap.size c D k p) ∧ Hid (Below w0.heap.size w0 wr)) (fun i _ => n - (intOf i).toNat)
  case atStart => exact ⟨0, by omega, by omega, rfl, Lib.hid ⟨_, HST.out.1⟩, Lib.hid HST.out.2⟩
  case round =>
    clear HST
    obtain ⟨k, hk, hk5, rfl, HT, HB⟩ := hrel
    have hRr := HR.out.over HB.out
    have r2 : wr.cell? ⟨w.heap.size, 2, none⟩ = some (.slice A n cap) := hRr.cell 2
    have hsr := HB.out.size
    by_cases hlt : k < n ∧ k < 5000
    · have hI : (k : Int) < (n : Int) := by omega
      have hI5 : (k : Int) < 5000 := by omega
      obtain ⟨b, off, rfl, hbl, hops⟩ := (HOP.out.below (HB.out.mono hs0)) (by omega)
      obtain ⟨kd, p, q, nn, BA, bc, bs, SA, sc, sides, hop⟩ := hops k hlt.1
      have o0 := hop.c0
      have o1 := hop.c1
      have o2 := hop.c2
      have o3 := hop.c3
      have o4 := hop.c4
      have o5 := hop.c5
      have HPL : Hid (Calls Try.prog 16 #[.pointer (some ⟨D, 0, none⟩), .agg #[.int .i64 kd, .int .i64 p, .int .i64 q, .int .i64 nn, .slice BA bs.length bc, .slice SA sides.length sc]] wr fun e w' => e = .returned (.tuple #[]) ∧ ∃ p', LiveX w' w0.heap.size c D (k + 1) p' ∧ Below w0.heap.size wr w') := by
        obtain ⟨p0, hx⟩ := HT.out
        exact Lib.hid (XPlay HC.out hx (by omega) (hop.more hs0) (Nat.le_refl _) (Nat.le_refl _))
      clear hop hops hRr
      go_wp2_with (go_at_call 16; refine HPL.out.mono ?_; rintro _ w3 ⟨rfl, p', hd, hb3⟩; have HN := Lib.hid (Exists.intro p' hd); have HNB := Lib.hid (HB.out.trans hb3); clear hd hb3)
      go_roundw
      case rel => exact ⟨k + 1, by omega, by omega, by go_num, HN, HNB⟩
      case measure => simp [intOf] <;> omega
    · obtain ⟨p, hX⟩ := HT.out
      have HX := Lib.hid hX
      clear hX HT
      go_upto_region 7 with fail
      go_cut [50] from 42 to 59 (fun s wx => s = .bool false ∧ wx = wr)
      case first =>
        by_cases h1 : k < n
        · have hI : (k : Int) < (n : Int) := by omega
          have hI5 : ¬ (k : Int) < 5000 := by omega
          go_wp2_with fail
          go_meet
          exact ⟨rfl, rfl⟩
        · have hI : ¬ (k : Int) < (n : Int) := by omega
          go_wp2_with fail
          go_meet
          exact ⟨rfl, rfl⟩
      case rest =>
        obtain ⟨rfl, rfl⟩ := hcut
        clear r2 hRr hlt

        have HR1 := Lib.hid (XRest HX.out (by omega) 0)
        go_upto_region 11 with (go_at_call 17; refine HR1.out.mono ?_; rintro _ w2 ⟨rfl, hn⟩; have HX2 := Lib.hid hn; clear hn)
        have HR2 := Lib.hid (XRest HX2.out.1 (by omega) 1)
        go_upto_region 12 with (go_at_call 17; refine HR2.out.mono ?_; rintro _ w3 ⟨rfl, hn⟩; have HX3 := Lib.hid hn; clear hn)
        have HD : Hid ((restP c (restP c p 0) 1).down 0 = false ∧ (restP c (restP c p 0) 1).down 1 = false) := Lib.hid ⟨rest_down (rest_up (q := 0) (by have := H2.out.1; omega)), rest_up (q := 1) (by have := H2.out.1; omega)⟩
        obtain ⟨p3, hp3⟩ : ∃ p3, p3 = restP c (restP c p 0) 1 := ⟨_, rfl⟩
        rw [← hp3] at HX3 HD
        clear hp3
        have hj := joinB_01 H2.out.1
        have HU := Lib.hid fun q => XUp HX3.out.1 q
        have eu0 : upA c p3.down 0 = true := by
          unfold upA
          rw [show (0 : Int).toNat = 0 from rfl, HD.out.1]
          have := H2.out.1
          simp [hasB]; omega
        have eu1 : upA c p3.down 1 = true := by
          unfold upA
          rw [show (1 : Int).toNat = 1 from rfl, HD.out.2]
          have := H2.out.1
          simp [hasB]; omega
        have hdo := XDo0 HC.out HX3.out.1 (by omega) 9 0 1 0 (by omega)
        rw [show (doD c p3 ⟨9, 0, 1, 0, [], []⟩).1 = 0 by rw [heal_ok hj]] at hdo
        have HDO := Lib.hid hdo
        clear hdo
        go_upto_region 14 with (first
          | (go_at_call 18; refine (HU.out _).mono ?_; rintro _ _ ⟨rfl, rfl⟩)
          | (go_at_call 19; refine HDO.out.mono ?_; rintro _ w4 ⟨rfl, hn⟩; have HX4 := Lib.hid hn; clear hn))
        have hdl := XDo0 HC.out HX4.out.1 (by omega) 10 0 1 d (by omega)
        have hj4 := joinB_01 H2.out.1
        have HB4 := Lib.hid (((HB.out.trans HX2.out.2).trans HX3.out.2).trans HX4.out.2)
        have HRDY := Lib.hid fun hd => Rdy.made (p := p3) H2.out.1 H2.out.2 HD.out.1 HD.out.2 (d := d) hd
        obtain ⟨p4, hp4⟩ : ∃ p4, p4 = (doD c p3 ⟨9, 0, 1, 0, [], []⟩).2 := ⟨_, rfl⟩
        rw [← hp4] at HX4 HRDY hdl
        clear hp4 HU eu0 eu1 HDO hj
        have e5 : (doD c p4 ⟨10, 0, 1, d, [], []⟩).1 = 0 := by rw [delay_ok hj4 hd]
        rw [e5] at hdl
        have HDL := Lib.hid hdl
        have hd1 : ¬ d < 1 := by omega
        have hd2 : ¬ 16 < d := by omega
        clear hdl hj4 e5
        go_upto_region 18 with (go_at_call 19; refine HDL.out.mono ?_; rintro _ w5 ⟨rfl, hn⟩; have HX5 := Lib.hid hn; clear hn)
        have HR5 := Lib.hid (HRDY.out hd)
        obtain ⟨e, rfl⟩ : ∃ e : Nat, d = (e : Int) := ⟨d.toNat, by omega⟩
        rw [Int.toNat_natCast] at HR5
        obtain ⟨p5, hp5⟩ : ∃ p5, p5 = (doD c p4 ⟨10, 0, 1, (e : Int), [], []⟩).2 := ⟨_, rfl⟩
        rw [← hp5] at HX5 HR5
        clear hp5
        have hw5 := HX5.out.1.inv.ways
        have hpo := HR5.out.post (by omega) [7] (by simp)
        obtain ⟨i, hi⟩ : ∃ i, i = p5.last + 1 := ⟨_, rfl⟩
        obtain ⟨C0, hC0⟩ : ∃ C0, C0 = p5.clock := ⟨_, rfl⟩
        have hpl := XPostL HC.out HX5.out.1 (by omega) 0 1 1 [7] (by simp)
        rw [hpo.1, hpo.2.1, hpo.2.2, show (p5.last : Int) + 1 = (i : Int) by omega] at hpl
        have HPL : Hid (Calls Try.prog 20 #[.pointer (some ⟨D, 0, none⟩), .int .i64 0, .int .i64 1, .slice (some ⟨w5.heap.size, 0, none⟩) 1 1] (w5.alloc (.cells #[.int .u8 7] 5)) fun e2 w' => e2 = .returned (.tuple #[.int .i64 (i : Int), .int .i64 0]) ∧ LiveX w' w0.heap.size c D (k + 1 + 1 + 1 + 1 + 1) (addP p5 0 1 (p5.clock + e) [7]) ∧ Below w0.heap.size w5 w') := Lib.hid hpl
        have HTR : Hid (Tr c (addP p5 0 1 (p5.clock + e) [7]) i (C0 + e) 1) := Lib.hid (by rw [hi, hC0]; exact Tr.new_ HX5.out.1.inv _ _ (HR5.out.ok _ _ _))
        have HRD := Lib.hid (HR5.out.add 0 1 (p5.clock + e) [7])
        have HCL : Hid ((addP p5 0 1 (p5.clock + e) [7]).clock = C0 ∧ (addP p5 0 1 (p5.clock + e) [7]).last = i) := Lib.hid ⟨hC0.symm, hi.symm⟩
        clear hpo hpl hi hC0 hw5
        obtain ⟨p6, hp6⟩ : ∃ p6, p6 = addP p5 0 1 (p5.clock + e) [7] := ⟨_, rfl⟩
        rw [← hp6] at HPL HTR HRD HCL
        clear hp6
        go_upto_region 22 with (go_at_call 20; refine HPL.out.mono ?_; rintro _ w6 ⟨rfl, hn⟩; have HX6 := Lib.hid hn; clear hn)
        have HB6 := Lib.hid ((HB4.out.trans HX5.out.2).trans HX6.out.2)
        go_upto_region 27 with fail
        have HX7 := HX6
        have HB7 := HB6
        have HTR7 : Hid (Tr c p6 i (C0 + e) (if 1 ≤ e then 1 else 0)) := Lib.hid (by rw [if_pos (by omega)]; exact HTR.out)
        have HRD7 := HRD
        have HCL7 : Hid (p6.clock = C0 + 0 ∧ p6.last = i) := HCL
        clear HX6 HB6 HTR HRD HCL
        obtain ⟨w7, hw7⟩ : ∃ w7, w7 = w6 := ⟨_, rfl⟩
        obtain ⟨p7, hp7⟩ : ∃ p7, p7 = p6 := ⟨_, rfl⟩
        subst hw7 hp7
        have hw7 := HX7.out.1.inv.ways
        have hpo := HRD7.out.post (by omega) [7, 8] (by simp)
        obtain ⟨j, hj⟩ : ∃ j, j = p7.last + 1 := ⟨_, rfl⟩
        have hpl := XPostL HC.out HX7.out.1 (by omega) 0 1 2 [7, 8] (by simp)
        rw [hpo.1, hpo.2.1, hpo.2.2, show (p7.last : Int) + 1 = (j : Int) by omega] at hpl
        have HPL2 : Hid (Calls Try.prog 20 #[.pointer (some ⟨D, 0, none⟩), .int .i64 0, .int .i64 1, .slice (some ⟨w7.heap.size, 0, none⟩) 2 2] (w7.alloc (.cells #[.int .u8 7, .int .u8 8] 5)) fun e2 w' => e2 = .returned (.tuple #[.int .i64 (j : Int), .int .i64 0]) ∧ LiveX w' w0.heap.size c D (k + 1 + 1 + 1 + 1 + 1 + 1) (addP p7 0 1 (p7.clock + e) [7, 8]) ∧ Below w0.heap.size w7 w') := Lib.hid hpl
        have HTI : Hid (Tr c (addP p7 0 1 (p7.clock + e) [7, 8]) i (C0 + e) (if 1 + 0 ≤ e then 1 else 0)) := Lib.hid (HTR7.out.add (by rw [HCL7.out.2]; omega) _ _ _ _)
        have HTJ : Hid (Tr c (addP p7 0 1 (p7.clock + e) [7, 8]) j (C0 + 0 + e) 1) := Lib.hid (by rw [hj, ← HCL7.out.1]; exact Tr.new_ HX7.out.1.inv _ _ (HRD7.out.ok _ _ _))
        have HRD8 := Lib.hid (HRD7.out.add 0 1 (p7.clock + e) [7, 8])
        have HCL8 : Hid ((addP p7 0 1 (p7.clock + e) [7, 8]).clock = C0 + 0) := Lib.hid HCL7.out.1
        have hji : ¬ (j : Int) ≤ (i : Int) := by
          have := HCL7.out.2
          omega
        have hjd : decide ((j : Int) ≤ (i : Int)) = false := decide_eq_false hji
        have hjn : decide (j ≤ i) = false := decide_eq_false (by omega)
        clear hpo hpl hj hw7
        obtain ⟨p8, hp8⟩ : ∃ p8, p8 = addP p7 0 1 (p7.clock + e) [7, 8] := ⟨_, rfl⟩
        rw [← hp8] at HPL2 HTI HTJ HRD8 HCL8
        clear hp8
        go_upto_region 30 with (go_at_call 20; refine HPL2.out.mono ?_; rintro _ w8 ⟨rfl, hn⟩; have HX8 := Lib.hid hn; clear hn)
        have HST : Hid (∃ p, LiveX w8 w0.heap.size c D (k + 10 + (1 + 0)) p ∧ Rdy c p e ∧ Tr c p i (C0 + e) (if 1 + 0 ≤ e then 1 else 0) ∧ Tr c p j (C0 + 0 + e) (if 1 + 0 ≤ e + 0 then 1 else 0) ∧ p.clock + 1 = C0 + (1 + 0)) := Lib.hid ⟨p8, HX8.out.1.mono (by omega), HRD8.out, HTI.out, by rw [if_pos (by omega)]; exact HTJ.out, by have := HCL8.out; omega⟩
        have HBS := Lib.hid (HB7.out.trans HX8.out.2)
        clear hji hjd hjn
        go_wp2_with fail
        go_loopw [6, 14, 15, 16] (fun _ r _ _ wr => ∃ q : Nat, q ≤ e + 0 + 2 ∧ r = .int .i64 (q : Int) ∧ Hid (∃ p, LiveX wr w0.heap.size c D (k + 10 + q) p ∧ Rdy c p e ∧ Tr c p i (C0 + e) (if q ≤ e then 1 else 0) ∧ Tr c p j (C0 + 0 + e) (if q ≤ e + 0 then 1 else 0) ∧ p.clock + 1 = C0 + q) ∧ Hid (Below w0.heap.size w0 wr)) (fun _ r _ _ _ => e + 0 + 2 - (intOf r).toNat)
        case atStart => exact ⟨1 + 0, by omega, rfl, HST, HBS⟩
        case round =>
          clear HST HBS
          obtain ⟨q, hq, rfl, HT, HBT⟩ := hrel
          by_cases hlt : q ≤ e + 0 + 1
          · have hI : (q : Int) ≤ (e : Int) + 0 + 1 := by omega
            obtain ⟨p9, hX9, hR9, hTi, hTj, hck⟩ := HT.out
            have HRN := Lib.hid (XRound HC.out hX9 (by omega))
            have hwy := hX9.inv.ways
            have hlen : (roundL c p9).length ≤ 1099511627776 := Nat.le_trans (List.length_filter_le _ _) (by omega)
            have HLEN := Lib.hid hlen
            have hTi' := hTi.round
            have hTj' := hTj.round
            rw [hck] at hTi' hTj'
            have HNX : Hid (∀ w', LiveX w' w0.heap.size c D (k + 10 + q + 1) (roundP p9) → ∃ p, LiveX w' w0.heap.size c D (k + 10 + (q + 1)) p ∧ Rdy c p e ∧ Tr c p i (C0 + e) (if q + 1 ≤ e then 1 else 0) ∧ Tr c p j (C0 + 0 + e) (if q + 1 ≤ e + 0 then 1 else 0) ∧ p.clock + 1 = C0 + (q + 1)) := Lib.hid fun w' hw' => by
              refine ⟨roundP p9, hw'.mono (by omega), hR9.round, ?_, ?_, by show p9.clock + 1 + 1 = _; omega⟩
              · have h1 := hTi'.1
                have e0 : (if C0 + q < C0 + e then (if q ≤ e then 1 else 0) else 0) = (if q + 1 ≤ e then 1 else 0) := by (repeat' split) <;> omega
                rwa [e0] at h1
              · have h1 := hTj'.1
                have e0 : (if C0 + q < C0 + 0 + e then (if q ≤ e + 0 then 1 else 0) else 0) = (if q + 1 ≤ e + 0 then 1 else 0) := by (repeat' split) <;> omega
                rwa [e0] at h1
            have hci : cntId (roundL c p9) i = if q = e then 1 else 0 := by
              rw [hTi'.2]
              (repeat' split) <;> omega
            have hcj : cntId (roundL c p9) j = if q = e + 0 then 1 else 0 := by
              rw [hTj'.2]
              (repeat' split) <;> omega
            clear hX9 hR9 hTi hTj hck hwy hlen hTi' hTj'
            rcases (by omega : q = e ∨ q ≠ e) with h1 | h1
            · skip
              have eci : (cntId (roundL c p9) i : Int) = 1 := by rw [hci, if_pos (by omega)]; rfl
              have ecj : (cntId (roundL c p9) j : Int) = 1 := by rw [hcj, if_pos (by omega)]; rfl
              have e1 : ((q : Int) == (e : Int)) = true := by simp; omega
              clear hci hcj h1
              go_wp2_with (first
                | (go_at_call 21; refine HRN.out.mono ?_; rintro _ w9 ⟨A9, cap9, rfl, hfl, hn⟩; have HFL := Lib.hid hfl; have HX10 := Lib.hid hn; clear hfl hn; have HCT := Lib.hid fun (x : Nat) => count_any A9 _ cap9 _ HFL.out HLEN.out x)
                | (go_at_call 22; refine (HCT.out _).mono ?_; rintro _ _ ⟨rfl, rfl⟩))
              clear eci ecj e1
              have HNR := Lib.hid (HNX.out _ HX10.out.1)
              have HNB := Lib.hid (HBT.out.trans HX10.out.2)
              go_roundw
              case rel => first | exact ⟨q + 1, by omega, by go_num, HNR, HNB⟩ | ((repeat apply Exists.intro); exact ⟨⟨q + 1, by omega, by go_num, HNR, HNB⟩, rfl⟩)
              case measure => simp [intOf] <;> omega
            · skip
              have eci : (cntId (roundL c p9) i : Int) = 0 := by rw [hci, if_neg (by omega)]; rfl
              have ecj : (cntId (roundL c p9) j : Int) = 0 := by rw [hcj, if_neg (by omega)]; rfl
              have e1 : ((q : Int) == (e : Int)) = false := by simp; omega
              clear hci hcj h1
              go_wp2_with (first
                | (go_at_call 21; refine HRN.out.mono ?_; rintro _ w9 ⟨A9, cap9, rfl, hfl, hn⟩; have HFL := Lib.hid hfl; have HX10 := Lib.hid hn; clear hfl hn; have HCT := Lib.hid fun (x : Nat) => count_any A9 _ cap9 _ HFL.out HLEN.out x)
                | (go_at_call 22; refine (HCT.out _).mono ?_; rintro _ _ ⟨rfl, rfl⟩))
              clear eci ecj e1
              have HNR := Lib.hid (HNX.out _ HX10.out.1)
              have HNB := Lib.hid (HBT.out.trans HX10.out.2)
              go_roundw
              case rel => first | exact ⟨q + 1, by omega, by go_num, HNR, HNB⟩ | ((repeat apply Exists.intro); exact ⟨⟨q + 1, by omega, by go_num, HNR, HNB⟩, rfl⟩)
              case measure => simp [intOf] <;> omega
          · obtain rfl : q = e + 0 + 2 := by omega
            have hI : ¬ (((e + 0 + 2 : Nat) : Int) ≤ (e : Int) + 0 + 1) := by omega
            obtain ⟨p9, hX9, hR9, hTi, hTj, hck⟩ := HT.out
            have hwy := hX9.inv.ways
            have hlen : p9.way.length ≤ 1099511627776 := by omega
            have HLEN := Lib.hid hlen
            have HF1 := Lib.hid (XFlights HC.out hX9 (by omega))
            have HX9 := Lib.hid hX9
            have HK := Lib.hid (show k + 10 + (e + 0 + 2) ≤ 4398046511104 by omega)
            have eci : (cntId p9.way i : Int) = 0 := by rw [hTi.cnt, if_neg (by omega)]; rfl
            have ecj : (cntId p9.way j : Int) = 0 := by rw [hTj.cnt, if_neg (by omega)]; rfl
            clear hX9 hR9 hTi hTj hck hwy hlen
            go_wp2_with (first
              | (go_at_call 23; refine HF2.out.mono ?_; rintro _ w10 ⟨A10, cap10, rfl, hfl, hb⟩; have HFL2 := Lib.hid hfl; have HB10 := Lib.hid hb; clear hfl hb; have HCT2 := Lib.hid fun (x : Nat) => count_any A10 _ cap10 _ HFL2.out HLEN.out x)
              | (go_at_call 23; refine HF1.out.mono ?_; rintro _ w9 ⟨A9, cap9, rfl, hfl, hb⟩; have HFL := Lib.hid hfl; have HB9 := Lib.hid hb; clear hfl hb; have HF2 := Lib.hid (XFlights HC.out (HX9.out.below HB9.out) HK.out); have HCT := Lib.hid fun (x : Nat) => count_any A9 _ cap9 _ HFL.out HLEN.out x)
              | (go_at_call 22; refine (HCT2.out _).mono ?_; rintro _ _ ⟨rfl, rfl⟩)
              | (go_at_call 22; refine (HCT.out _).mono ?_; rintro _ _ ⟨rfl, rfl⟩))
            go_ret
            exact ⟨rfl, HB0.out.trans ((HBT.out.trans ((HB9.out.trans (HB10.out.mono HB9.out.size)).mono HX9.out.1)).mono hs0)⟩
set_option maxRecDepth 100000 in
set_option maxHeartbeats 1600000 in
theorem On_one {w : World} (x1 d : Int) (g : Bool) (A : Option Addr) (n cap : Nat) : Calls Try.prog 3 #[.agg #[.int .i64 1, .int .i64 x1, .slice A n cap], .int .i64 d, .bool g] w (TrueOk w) := by
  have hb0 := one_box' w (.cells #[.int .i64 1, .int .i64 x1, .slice A n cap] 24)
  have hR := Blk.new w 24 #[.int .i64 1, .int .i64 x1, .slice A n cap]
  obtain ⟨w0, hw0⟩ : ∃ w0, w0 = w.alloc (.cells #[.int .i64 1, .int .i64 x1, .slice A n cap] 24) := ⟨_, rfl⟩
  rw [← hw0] at hb0 hR
  have HW := Lib.hid hw0
  have hs0 := hb0.size
  have HR := Lib.hid hR
  have HB0 := Lib.hid hb0
  have r0 : w0.cell? ⟨w.heap.size, 0, none⟩ = some (.int .i64 1) := hR.cell 0
  have hnew := New_yes (w := w0) (c := ⟨1, 20000⟩) (by unfold ECfg.Ok; decide)
  have HNEW : Hid (Calls Try.prog 15 #[.int .i64 1, .int .i64 20000] w0 (NewP w0 ⟨1, 20000⟩)) := Lib.hid hnew
  clear hw0 hR hb0 hnew
  go_enter Try.func3, Try.ntmps3
  go_upto_region 1 with fail
  rw [← HW.out]
  go_upto_region 2 with (go_at_call 15; refine HNEW.out.mono ?_; rintro _ w1 ⟨D, F1, rfl, hp, hF, hb1⟩; have HB1 := Lib.hid hb1; clear hp hF hb1)
  have hR1 := HR.out.over HB1.out
  clear r0
  have r0 : w1.cell? ⟨w.heap.size, 0, none⟩ = some (.int .i64 1) := hR1.cell 0
  go_wp2
  go_ret
  exact ⟨rfl, HB0.out.trans (HB1.out.mono hs0)⟩
set_option maxRecDepth 100000 in
set_option maxHeartbeats 1600000 in
theorem On_none {w : World} (x0 x1 d : Int) (g : Bool) (h0 : x0 < 1 ∨ 16 < x0) (A : Option Addr) (n cap : Nat) : Calls Try.prog 3 #[.agg #[.int .i64 x0, .int .i64 x1, .slice A n cap], .int .i64 d, .bool g] w (TrueOk w) := by
  have hb0 := one_box' w (.cells #[.int .i64 x0, .int .i64 x1, .slice A n cap] 24)
  have hR := Blk.new w 24 #[.int .i64 x0, .int .i64 x1, .slice A n cap]
  obtain ⟨w0, hw0⟩ : ∃ w0, w0 = w.alloc (.cells #[.int .i64 x0, .int .i64 x1, .slice A n cap] 24) := ⟨_, rfl⟩
  rw [← hw0] at hb0 hR
  have HW := Lib.hid hw0
  have hs0 := hb0.size
  have HB0 := Lib.hid hb0
  have r0 : w0.cell? ⟨w.heap.size, 0, none⟩ = some (.int .i64 x0) := hR.cell 0
  have HNEW := Lib.hid (New_no (w := w0) x0 20000 (fun h => by have h1 := h.1; have h2 := h.2.1; omega))
  clear hw0 hR hb0
  go_enter Try.func3, Try.ntmps3
  go_upto_region 1 with fail
  rw [← HW.out]
  rcases h0 with h1 | h1
  · have h2 : x0 < 2 := by omega
    go_wp2_with (go_at_call 15; refine HNEW.out.mono ?_; rintro _ _ ⟨rfl, rfl⟩)
    go_ret
    exact ⟨rfl, HB0.out⟩
  · have h2 : ¬ x0 < 2 := by omega
    go_wp2_with (go_at_call 15; refine HNEW.out.mono ?_; rintro _ _ ⟨rfl, rfl⟩)
    go_ret
    exact ⟨rfl, HB0.out⟩
theorem EtherOnTime_walk {H : Type} {enc : TypeId × Value → H} (x0 x1 : Int) (A2 : Option Addr) (n2 k2 : Nat) (x2 : List (List Value)) (d : Int) (g : Bool) (w : World) (_b0 : -9223372036854775808 ≤ x0) (_t0 : x0 ≤ 9223372036854775807) (_b1 : -9223372036854775808 ≤ x1) (_t1 : x1 ≤ 9223372036854775807) (p2 : n2 ≤ k2) (q2 : k2 * 80 ≤ 140737488351232) (l2 : x2.length = n2) (r2 : Rd w w.heap.size 6 A2 n2 x2.flatten) (s2 : ∀ y ∈ x2, y.length = 6 ∧ ∃ d, Fit enc Try.prog w 33 y d) (_bd : -9223372036854775808 ≤ d) (td : d ≤ 9223372036854775807) :
    Calls Try.prog 3 #[.agg #[.int .i64 x0, .int .i64 x1, .slice A2 n2 k2], .int .i64 d, .bool g] w (TrueOk w) := by
  by_cases h0 : x0 < 1 ∨ 16 < x0
  · exact On_none x0 x1 d g h0 A2 n2 k2
  · by_cases h1 : x0 = 1
    · subst h1
      exact On_one x1 d g A2 n2 k2
    · obtain ⟨N, rfl⟩ : ∃ N : Nat, x0 = (N : Int) := ⟨x0.toNat, by omega⟩
      have hc : (⟨N, 20000⟩ : ECfg).Ok := ⟨by show 1 ≤ N; omega, by show N ≤ 16; omega, by show 1 ≤ 20000; omega, by show 20000 ≤ 20000; omega⟩
      have hO := Lib.hid (eops_open l2 r2 s2)
      by_cases hd : 1 ≤ d ∧ d ≤ 16
      · cases g with
        | true => exact On_gap (c := ⟨N, 20000⟩) hc (by show 2 ≤ N; omega) rfl x1 d hd A2 n2 k2 p2 q2 hO
        | false => exact On_no (c := ⟨N, 20000⟩) hc (by show 2 ≤ N; omega) rfl x1 d hd A2 n2 k2 p2 q2 hO
      · exact On_bad (c := ⟨N, 20000⟩) hc (by show 2 ≤ N; omega) rfl x1 d hd td g A2 n2 k2 p2 q2 hO
end Go.Proofs.Ytgfhmfhhobhojaa
