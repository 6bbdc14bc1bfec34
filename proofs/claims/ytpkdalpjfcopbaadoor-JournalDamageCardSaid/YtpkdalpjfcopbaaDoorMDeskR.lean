/-
  The outright laws' desk: reopened.
-/
import Derived.Test.YtpkdalpjfcopbaaDoorMDeskB
namespace Go.Proofs.YtpkdalpjfcopbaaDoor
open Go.RowKit
/-- What opening a disk that stands between two commits comes to. -/
theorem Half.opens {f : Fls} {k : Nat} {x : Fi} (h : Half f k x) (hg : x.gen ≤ 1125899906842624) : ∃ j ws, openR f = .ok j x.recs ws ∧ j.recs = x.recs ∧ j.gen ≤ x.gen + 1 ∧ ((ws = [] ∧ Good f j ∧ j.file = k) ∨
    (ws ≠ [] ∧ (∀ m : Int, 0 ≤ m → m < (costW ws : Nat) → Half (apD ws m f) k x) ∧ Good (apD ws (-1) f) j ∧ ∀ a, lastF ws a = (j.file : Int))) := by
  rcases h.opened (by omega) with ⟨h1, h2⟩ | ⟨h1, h2⟩
  · exact ⟨_, _, h1, rfl, by show x.gen ≤ _; omega, .inl ⟨rfl, h2, rfl⟩⟩
  · refine ⟨_, _, h1, rfl, Nat.le_refl _, .inr ⟨by simp, fun m h0 hm => ?_, ?_, fun a => rfl⟩⟩
    · exact h.torn (g := x.gen + 1) (l := x.recs) h2 (by omega) (by omega) h0 hm
    · exact h.begun (g := x.gen + 1) (l := x.recs) h2 (by omega) (by omega) (.inl (by omega))
theorem good_sound {f : Fls} {j : JP} (h : Good f j) (hg : j.gen ≤ 2251799813685248) : soundB (f.nth j.file) j = true ∧ soundB (f.nth (1 - j.file)) j = false := by
  have hl : j.text.length = 18 + bodies j.recs := textB_length _ _ _
  constructor
  · unfold soundB
    rw [h.text]
    have e := text_gen (g := j.gen) (c := j.count) (m := j.text.length) (l := j.recs) (by omega) (by omega)
    have e2 : (textB j.gen j.count j.recs).take j.text.length = j.text := List.take_of_length_le (Nat.le_refl _)
    rw [e2] at e
    simp [e]
    omega
  · unfold soundB
    rw [decide_eq_false_iff_not]
    rintro ⟨_, h2, h3⟩
    exact h.half.od h2 h3
theorem recs_few {l : List UInt8} {x : Fi} (h : readR l = some x) : x.recs.length ≤ 65536 := by
  have ht := readR_told h
  have h1 := ht.len18
  have h2 := ht.hi
  have h3 := ht.len
  have h4 := bodies_le x.recs
  omega
/-- What reopened leaves. -/
def Reop (w : World) (tg : Nat) (x : Fi) (e : Ending) (w' : World) : Prop := e = .returned (.bool true) ∧ ∃ jg' j' f', Desk w' tg jg' j' f' ∧ j'.recs = x.recs ∧ j'.gen ≤ x.gen + 1 ∧ w.heap.size ≤ jg' ∧ Chg (fun i => i = tg) w w'
set_option maxRecDepth 100000 in
set_option maxHeartbeats 3200000 in
theorem reopened_any {w : World} {tg jg kk : Nat} {A0 A1 : Option Addr} {c0 c1 : Nat} {vb : Value} {K : List Rk} {j : JP} {f : Fls} {file : Int} {x : Fi} (k : Int) (h : DAt w tg jg A0 c0 A1 c1 vb K j f file) (hh : Half f kk x) (hk : K.map Rk.rc = x.recs) (hg : x.gen ≤ 1125899906842624)
    (hfile : file = (kk : Int) ∨ file = ((1 - kk : Nat) : Int)) (ht : Nibs w) :
    Calls Tryd.prog 65 #[.pointer (some ⟨tg, 0, none⟩), .int .i64 k] w (Reop w tg x) := by
  obtain ⟨Ab, cb, rfl, hb1, hb2⟩ := h.bk.shape hk
  obtain ⟨l0, l1, m0, m1⟩ := h.lens
  simp only [maxLen] at m0 m1
  obtain ⟨j1, ws1, ho1, _, _, hway1⟩ := hh.opens hg
  have HRF := Lib.hid (recs_few hh.rd)
  have HOP := Lib.hid (Open_any (w := w) (f := f) (c0 := c0) (c1 := c1) (Rd.of_own h.o0) (Rd.of_own h.o1) l0 l1 m0 m1 ht)
  rw [ho1] at HOP
  have HC1 := Lib.hid (open_costD ho1)
  have p1 : w.cell? ⟨tg, 1, none⟩ = some (.slice A0 f.a.length c0) := h.blk.cell 1
  have p2 : w.cell? ⟨tg, 2, none⟩ = some (.slice A1 f.b.length c1) := h.blk.cell 2
  have hnib : 0 ≠ tg := fun e => by
    have h0 := ht 0 (by omega)
    subst e
    rw [h.blk.cell 0] at h0
    cases h0
  have HNB := Lib.hid hnib
  have H := Lib.hid h
  have HH := Lib.hid hh
  have HT := Lib.hid ht
  have HK := Lib.hid hk
  have HG := Lib.hid hg
  have HFI := Lib.hid hfile
  have HW1 := Lib.hid hway1
  have HLA := Lib.hid hh.la
  clear h hh ht hk hg hfile hway1 ho1 hnib hb1 hb2
  go_enter Tryd.func65, Tryd.ntmps65
  go_upto_region 2 with (go_at_call 17; refine HOP.out.mono ?_; rintro _ w2 ⟨hb2, jg1, vl, vw, Kp, rfl, hj1, hj2, hj3, hj4, hj5⟩; obtain ⟨Al, cl, rfl⟩ := hj4.shapeN hj3; obtain ⟨Aw, cw, rfl⟩ := hj5.shapeN; have H2 := Lib.hid hb2; have HR2 := Lib.hid (And.intro (hj4.rdN hj3) (hj5.mono (Nat.zero_le _))); clear hb2 hj1 hj2 hj3 hj4 hj5)
  have p3 : w2.cell? ⟨tg, 3, none⟩ = some (.slice Ab x.recs.length cb) := (H.out.over H2.out).blk.cell 3
  have HRY := Lib.hid (records_yes (w := w2) (c1 := cl) (c2 := cb) HR2.out.1 (((H.out.over H2.out).bk.rdN HK.out).mono fun _ _ h => h.elim) (by have := HRF.out; omega))
  go_upto_region 4 with (go_at_call 14; refine HRY.out.mono ?_; rintro _ w3 ⟨rfl, hb3⟩; have H3 := Lib.hid hb3; clear hb3)
  have HB3 : Hid (Below w.heap.size w w3) := Lib.hid (Below.then H2.out H3.out)
  have HW3 : Hid (WOut w3 0 (.slice Aw ws1.length cw) ws1) := Lib.hid (HR2.out.2.below H3.out)
  have HD3 := Lib.hid (H.out.over HB3.out)
  have HCO := Lib.hid (PCost_any (w := w3) Aw _ cw _ HW3.out.wsN (by have := HC1.out; omega) (by have := HW3.out.few; omega))
  clear p1 p2 p3 HRY HOP
  have hbr : (∃ d : decide (0 ≤ k) = true, decide (k < ((costW ws1 : Nat) : Int)) = true) ∨ decide (0 ≤ k) = false ∨ (∃ d : decide (0 ≤ k) = true, decide (k < ((costW ws1 : Nat) : Int)) = false) := by
    by_cases h1 : 0 ≤ k
    · by_cases h2 : k < ((costW ws1 : Nat) : Int)
      · exact .inl ⟨by simpa using h1, by simpa using h2⟩
      · exact .inr (.inr ⟨by simpa using h1, by simpa using h2⟩)
    · exact .inr (.inl (by simpa using h1))
  have HBR := Lib.hid hbr
  clear hbr
  go_upto_region 4 with fail
  go_cut [38] from 10 to 123 (fun d wc => ∃ b, d = .bool b ∧ Hid ((b = true → 0 ≤ k ∧ k < ((costW ws1 : Nat) : Int)) ∧ Below w3.heap.size w3 wc))
  case first =>
    rcases HBR.out with ⟨d1, d2⟩ | d1 | ⟨d1, d2⟩
    · have HX := Lib.hid (And.intro (of_decide_eq_true d1) (of_decide_eq_true d2))
      go_wp2_with (go_at_call 36; refine HCO.out.mono ?_; rintro _ w4 ⟨rfl, hb4⟩; have H4 := Lib.hid hb4; clear hb4)
      go_meet
      exact ⟨_, rfl, Lib.hid ⟨fun _ => HX.out, H4.out⟩⟩
    · go_wp2_with fail
      go_meet
      exact ⟨_, rfl, Lib.hid ⟨fun h => absurd h (by simp), Below.refl _ _⟩⟩
    · go_wp2_with (go_at_call 36; refine HCO.out.mono ?_; rintro _ w4 ⟨rfl, hb4⟩; have H4 := Lib.hid hb4; clear hb4)
      go_meet
      exact ⟨_, rfl, Lib.hid ⟨fun h => absurd h (by simp), H4.out⟩⟩
  case rest =>
    obtain ⟨b, rfl, HBC⟩ := hcut
    obtain ⟨w4, HWY⟩ : ∃ wp, Hid (wc = wp) := ⟨_, Lib.hid rfl⟩
    rw [HWY.out] at HBC ⊢
    clear HWY HBR HCO
    have HD4 := Lib.hid (HD3.out.over HBC.out.2)
    have HW4 := Lib.hid (HW3.out.below HBC.out.2)
    have HB4 : Hid (Below w.heap.size w w4) := Lib.hid (Below.then HB3.out HBC.out.2)
    have HAP := Lib.hid (PApply_any (w := w4) Aw _ cw ws1 A0 A1 c0 c1 f k HW4.out.wsN (by have := HC1.out; omega) (by have := HW4.out.few; omega) (Rd.of_own HD4.out.o0) (Rd.of_own HD4.out.o1) (by have := HLA.out; omega) (by have := HLA.out; omega))
    rw [apply_same] at HAP
    have p1 : w4.cell? ⟨tg, 1, none⟩ = some (.slice A0 f.a.length c0) := HD4.out.blk.cell 1
    have p2 : w4.cell? ⟨tg, 2, none⟩ = some (.slice A1 f.b.length c1) := HD4.out.blk.cell 2
    go_upto_if 38 with fail
    go_cut [7] from 10 to 123 (fun d7 wc => ∃ f1 B0 e0 B1 e1, Hid (DAt wc tg jg B0 e0 B1 e1 (.slice Ab x.recs.length cb) K j f1 file ∧ Half f1 kk x ∧ Chg (fun i => i = tg) w wc))
    case first =>
      cases b with
      | true =>
        have HK0 := Lib.hid (HBC.out.1 rfl)
        go_wp2_with (go_at_call 37; refine HAP.out.mono ?_; rintro _ w5 ⟨B0, e0, B1, e1, rfl, o0, o1, hap, hb⟩; have H5 := Lib.hid (And.intro o0 (And.intro o1 hb)); have q1 := ((HD4.out.over hb).blk.frozen 1); have q2 := ((HD4.out.over hb).blk.frozen 2); have r1 : w5.cell? ⟨tg, 1, none⟩ = some (.slice A0 f.a.length c0) := (HD4.out.over hb).blk.cell 1; have r2 : w5.cell? ⟨tg, 2, none⟩ = some (.slice A1 f.b.length c1) := (HD4.out.over hb).blk.cell 2; clear o0 o1 hap hb)
        go_meet
        obtain ⟨h1, h2⟩ := HD4.out.disk H5.out.2.2 H5.out.1 H5.out.2.1
        refine ⟨_, _, _, _, _, Lib.hid ⟨h1, ?_, (Chg.of_below HB4.out _).trans h2⟩⟩
        rcases HW1.out with ⟨e1, _⟩ | ⟨_, h3, _⟩
        · have h4 := HK0.out
          rw [e1] at h4
          simp [costW] at h4
          omega
        · exact h3 k HK0.out.1 HK0.out.2
      | false =>
        go_wp2_with fail
        go_meet
        exact ⟨_, _, _, _, _, Lib.hid ⟨HD4.out, HH.out, Chg.of_below HB4.out _⟩⟩
    case rest =>
      obtain ⟨f1, B0, e0, B1, e1, HX⟩ := hcut
      obtain ⟨w6, HWY⟩ : ∃ wp, Hid (wc = wp) := ⟨_, Lib.hid rfl⟩
      rw [HWY.out] at HX ⊢
      clear HWY HAP p1 p2 HD4 HW4 HB4 HBC HD3 HW3 HB3 H3 H2 HR2 HC1 HLA HW1
      obtain ⟨l0, l1, m0, m1⟩ := HX.out.1.lens
      simp only [maxLen] at m0 m1
      obtain ⟨j2, ws2, ho2, hrec2, hgen2, hway2⟩ := HX.out.2.1.opens HG.out
      have HNW : Hid (Nibs w6) := Lib.hid (HT.out.chg HX.out.2.2 HNB.out)
      have HOP := Lib.hid (Open_any (w := w6) (f := f1) (c0 := e0) (c1 := e1) (Rd.of_own HX.out.1.o0) (Rd.of_own HX.out.1.o1) l0 l1 m0 m1 HNW.out)
      rw [ho2] at HOP
      have HC2 := Lib.hid (open_costD ho2)
      have HJ2 := Lib.hid (And.intro hrec2 (And.intro hgen2 hway2))
      have p1 : w6.cell? ⟨tg, 1, none⟩ = some (.slice B0 f1.a.length e0) := HX.out.1.blk.cell 1
      have p2 : w6.cell? ⟨tg, 2, none⟩ = some (.slice B1 f1.b.length e1) := HX.out.1.blk.cell 2
      clear ho2 hrec2 hgen2 hway2
      go_upto_region 7 with (go_at_call 17; refine HOP.out.mono ?_; rintro _ w7 ⟨hb7, jg2, vl, vw, Kp, rfl, hj1, hj2, hj3, hj4, hj5⟩; obtain ⟨Ac, cc, rfl⟩ := hj4.shapeN hj3; obtain ⟨Ax, cx, rfl⟩ := hj5.shapeN; have H7 := Lib.hid hb7; have HR7 := Lib.hid (And.intro (hj4.rdN hj3) (And.intro (hj5.mono (Nat.zero_le _)) (And.intro hj1 hj2))); clear hb7 hj1 hj2 hj3 hj4 hj5)
      have p3 : w7.cell? ⟨tg, 3, none⟩ = some (.slice Ab x.recs.length cb) := (HX.out.1.over H7.out).blk.cell 3
      have HRY := Lib.hid (records_yes (w := w7) (c1 := cc) (c2 := cb) HR7.out.1 (((HX.out.1.over H7.out).bk.rdN HK.out).mono fun _ _ h => h.elim) (by have := HRF.out; omega))
      go_upto_region 9 with (go_at_call 14; refine HRY.out.mono ?_; rintro _ w8 ⟨rfl, hb8⟩; have H8 := Lib.hid hb8; clear hb8)
      have H68 : Hid (Below w6.heap.size w6 w8) := Lib.hid (Below.then H7.out H8.out)
      have HDN := Lib.hid (HX.out.1.opened H68.out (HR7.out.2.2.2.below H8.out) HR7.out.2.2.1)
      have z0 : w8.cell? ⟨tg, 0, none⟩ = some (.pointer (some ⟨jg, 0, none⟩)) := (HX.out.1.over H68.out).blk.cell 0
      have zf := (HX.out.1.over H68.out).blk.frozen 0
      clear p1 p2 p3 HRY HOP
      go_upto_region 10 with fail
      have HWO : Hid (WOut (w8.setCell ⟨tg, 0, none⟩ (.pointer (some ⟨jg2, 0, none⟩))) 0 (.slice Ax ws2.length cx) ws2) := Lib.hid ((HR7.out.2.1.below H8.out).desk (HX.out.1.over H68.out).blk (by decide) (by decide) ((Chg.refl (fun k => k = tg) w8).setCell (p := ⟨tg, 0, none⟩) (.inl rfl) _))
      generalize w8.setCell ⟨tg, 0, none⟩ (.pointer (some ⟨jg2, 0, none⟩)) = w9 at HDN HWO ⊢
      have HC9 : Hid (Chg (fun i => i = tg) w w9) := Lib.hid (HX.out.2.2.trans HDN.out.2)
      have HJG : Hid (w.heap.size ≤ jg2) := Lib.hid (Nat.le_trans HX.out.2.2.size HR7.out.2.2.1)
      clear z0 zf
      rcases HJ2.out.2.2 with ⟨rfl, hgood, hfl⟩ | ⟨hne, _, hgood, hlf⟩
      · have HGD := Lib.hid hgood
        have HFL := Lib.hid hfl
        clear hgood hfl
        have hk1 := HX.out.2.1.k1
        rcases (by omega : kk = 0 ∨ kk = 1) with rfl | rfl <;> rcases HFI.out with rfl | rfl
        · skip
          have hs : soundB f1.a j2 = true := by
            have h := good_sound HGD.out (by have := HJ2.out.2.1; have := HG.out; omega)
            rw [HFL.out] at h
            exact h.1
          have HS := Lib.hid (sound_any (cap := e0) HDN.out.1.pj (Rd.of_own HDN.out.1.o0) (by have := HX.out.2.1.la; omega))
          rw [hs] at HS
          have z4 : w9.cell? ⟨tg, 4, none⟩ = some (.int .i64 0) := HDN.out.1.blk.cell 4
          have z1 : w9.cell? ⟨tg, 1, none⟩ = some (.slice B0 f1.a.length e0) := HDN.out.1.blk.cell 1
          have z2 : w9.cell? ⟨tg, 2, none⟩ = some (.slice B1 f1.b.length e1) := HDN.out.1.blk.cell 2
          have zf := HDN.out.1.blk.frozen 4
          clear hs
          go_wp2_with (go_at_call 78; refine HS.out.mono ?_; rintro _ _ ⟨rfl, rfl⟩)
          go_ret
          exact ⟨rfl, jg2, j2, f1, ⟨B0, e0, B1, e1, _, K, by rw [HFL.out]; exact HDN.out.1, HK.out.trans HJ2.out.1.symm, HGD.out⟩, HJ2.out.1, HJ2.out.2.1, HJG.out, HC9.out⟩
        · skip
          have hs : soundB f1.b j2 = false := by
            have h := good_sound HGD.out (by have := HJ2.out.2.1; have := HG.out; omega)
            rw [HFL.out] at h
            exact h.2
          have HS := Lib.hid (sound_any (cap := e1) HDN.out.1.pj (Rd.of_own HDN.out.1.o1) (by have := HX.out.2.1.la; omega))
          rw [hs] at HS
          have z4 : w9.cell? ⟨tg, 4, none⟩ = some (.int .i64 1) := HDN.out.1.blk.cell 4
          have z1 : w9.cell? ⟨tg, 1, none⟩ = some (.slice B0 f1.a.length e0) := HDN.out.1.blk.cell 1
          have z2 : w9.cell? ⟨tg, 2, none⟩ = some (.slice B1 f1.b.length e1) := HDN.out.1.blk.cell 2
          have zf := HDN.out.1.blk.frozen 4
          clear hs
          go_wp2_with (go_at_call 78; refine HS.out.mono ?_; rintro _ _ ⟨rfl, rfl⟩)
          go_ret
          have HF := HDN.out.1.filed 0
          exact ⟨rfl, jg2, j2, f1, ⟨B0, e0, B1, e1, _, K, by rw [HFL.out]; exact HF.1, HK.out.trans HJ2.out.1.symm, HGD.out⟩, HJ2.out.1, HJ2.out.2.1, HJG.out, HC9.out.trans HF.2⟩
        · skip
          have hs : soundB f1.b j2 = true := by
            have h := good_sound HGD.out (by have := HJ2.out.2.1; have := HG.out; omega)
            rw [HFL.out] at h
            exact h.1
          have HS := Lib.hid (sound_any (cap := e1) HDN.out.1.pj (Rd.of_own HDN.out.1.o1) (by have := HX.out.2.1.la; omega))
          rw [hs] at HS
          have z4 : w9.cell? ⟨tg, 4, none⟩ = some (.int .i64 1) := HDN.out.1.blk.cell 4
          have z1 : w9.cell? ⟨tg, 1, none⟩ = some (.slice B0 f1.a.length e0) := HDN.out.1.blk.cell 1
          have z2 : w9.cell? ⟨tg, 2, none⟩ = some (.slice B1 f1.b.length e1) := HDN.out.1.blk.cell 2
          have zf := HDN.out.1.blk.frozen 4
          clear hs
          go_wp2_with (go_at_call 78; refine HS.out.mono ?_; rintro _ _ ⟨rfl, rfl⟩)
          go_ret
          exact ⟨rfl, jg2, j2, f1, ⟨B0, e0, B1, e1, _, K, by rw [HFL.out]; exact HDN.out.1, HK.out.trans HJ2.out.1.symm, HGD.out⟩, HJ2.out.1, HJ2.out.2.1, HJG.out, HC9.out⟩
        · skip
          have hs : soundB f1.a j2 = false := by
            have h := good_sound HGD.out (by have := HJ2.out.2.1; have := HG.out; omega)
            rw [HFL.out] at h
            exact h.2
          have HS := Lib.hid (sound_any (cap := e0) HDN.out.1.pj (Rd.of_own HDN.out.1.o0) (by have := HX.out.2.1.la; omega))
          rw [hs] at HS
          have z4 : w9.cell? ⟨tg, 4, none⟩ = some (.int .i64 0) := HDN.out.1.blk.cell 4
          have z1 : w9.cell? ⟨tg, 1, none⟩ = some (.slice B0 f1.a.length e0) := HDN.out.1.blk.cell 1
          have z2 : w9.cell? ⟨tg, 2, none⟩ = some (.slice B1 f1.b.length e1) := HDN.out.1.blk.cell 2
          have zf := HDN.out.1.blk.frozen 4
          clear hs
          go_wp2_with (go_at_call 78; refine HS.out.mono ?_; rintro _ _ ⟨rfl, rfl⟩)
          go_ret
          have HF := HDN.out.1.filed 1
          exact ⟨rfl, jg2, j2, f1, ⟨B0, e0, B1, e1, _, K, by rw [HFL.out]; exact HF.1, HK.out.trans HJ2.out.1.symm, HGD.out⟩, HJ2.out.1, HJ2.out.2.1, HJG.out, HC9.out.trans HF.2⟩
      · have hpos : 0 < ws2.length := List.length_pos_iff.2 hne
        have hposI : (0 : Int) < ((ws2.length : Nat) : Int) := by omega
        have hposD : decide (0 < ws2.length) = true := decide_eq_true hpos
        have HGD := Lib.hid hgood
        have HLF := Lib.hid hlf
        have HMK := Lib.hid (dmakes_any (cap := cx) HDN.out.1 HWO.out (by have := HC2.out; omega) (by have := HX.out.2.1.la; omega) (-1))
        clear hne hgood hlf hpos
        go_wp2_with (go_at_call 63; refine HMK.out.mono ?_; rintro _ wa ⟨rfl, ⟨C0, g0, C1, g1, hpa⟩, hca⟩; have HA := Lib.hid (And.intro hpa hca); clear hpa hca)
        go_ret
        have hd := HA.out.1
        rw [HLF.out file] at hd
        exact ⟨rfl, jg2, j2, _, ⟨C0, g0, C1, g1, _, K, hd, HK.out.trans HJ2.out.1.symm, HGD.out⟩, HJ2.out.1, HJ2.out.2.1, HJG.out, HC9.out.trans HA.out.2⟩
end Go.Proofs.YtpkdalpjfcopbaaDoor
