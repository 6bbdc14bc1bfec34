/-
  The ether statements' helper: does, on both networks.
-/
import Derived.Test.YtgfhmfhhobhojaaELaw6
namespace Go.Proofs.Ytgfhmfhhobhojaa
open Go.ChangeShapes Go.WideShapes Go.ChangeAt Go.RowKit
theorem rdo_ev {w w1 : World} {c : ECfg} {K : Nat} {r : RV} {F : Nat → Prop} (hc : c.Ok) (h : RNx w F c K r) (hf : RFine r) {n : Int} (hn : n ≤ 9223372036854775807) {bs : List UInt8} {sides : List Int} (hbn : bs.length ≤ 140737488351232) (hsn : sides.length ≤ 17592186043904) {g cap hh caps : Nat} (h1 : SpareB w1 w.heap.size g cap bs) (h2 : SpareI w1 w.heap.size hh caps sides) (hb : Below w.heap.size w w1) (kd a b : Int) : Calls Try.prog 76 #[.pointer (some ⟨K, 0, none⟩), .agg #[.int .i64 kd, .int .i64 a, .int .i64 b, .int .i64 n, .slice (some ⟨g, 0, none⟩) bs.length cap, .int .i64 0, .int .i64 0, .int .i64 0, .int .i64 0, .string ByteArray.empty, .string ByteArray.empty, .string ByteArray.empty, .slice (some ⟨hh, 0, none⟩) sides.length caps]] w1 (StepR w1 F c K (.int .i64 (rdoD c r ⟨kd, a, b, n, bs, sides⟩).1) (rdoD c r ⟨kd, a, b, n, bs, sides⟩).2) := by
  have hF := h.1
  refine RDo_any hc (h.below hb) hf kd a b n (some ⟨g, 0, none⟩) (some ⟨hh, 0, none⟩) cap sides.length caps bs sides hn h1.rd hbn h2.rd (by omega) (fun _ b o s e hf => ?_)
  injection e with e
  injection e with e
  have := hF b hf
  have := h2.new
  omega
theorem duo_mid {w w1 w2 w3 : World} {F1 F2 : Nat → Prop} {c : ECfg} {D K m : Nat} {p p' : PV} {r r' : RV} {v v' : Value} {e e' : Ending} (h : Duo w F1 F2 c D K m p r) (hs : StepP w F1 c D (m + 1) v p' e w1) (hb : Below w1.heap.size w1 w2) (hr : StepR w2 F2 c K v' r' e' w3) (ht : TwinS c p' r' (m + 1)) : ∃ G1 G2, Next w F1 F2 c D K (m + 1) p' r' G1 G2 w3 := by
  obtain ⟨h0, G, h1, h2, h3⟩ := hs
  have hs1 := h3.size
  refine h.both (w1 := w2) (v := v) (p' := p') (e := e) ⟨h0, G, h1.below hb, h2, h3.trans (Chg.of_below hb F1)⟩ hr (Nat.le_refl _) ht
/-- The list half written over. -/
structure HalfW (w5 : World) (h : Nat) (sides : List Int) (k : Nat) (wr : World) : Prop where
  chg : Chg (fun j => j = h) w5 wr
  blk : ∃ cur : Array Value, Blk wr h 3 cur ∧ ∀ j x, k ≤ j → sides[j]? = some x → cur[j]? = some (.int .i64 x)
theorem HalfW.cell {w5 wr : World} {h k : Nat} {sides : List Int} {x : Int} (H : HalfW w5 h sides k wr) (hx : sides[k]? = some x) : wr.cell? ⟨h, k, none⟩ = some (.int .i64 x) := by
  obtain ⟨cur, hB, hc⟩ := H.blk
  rw [hB.cell]
  exact hc k x (Nat.le_refl _) hx
theorem HalfW.frozen {w5 wr : World} {h k : Nat} {sides : List Int} (H : HalfW w5 h sides k wr) (j : Nat) : wr.frozen? ⟨h, j, none⟩ = false := by
  obtain ⟨cur, hB, hc⟩ := H.blk
  exact hB.frozen j
theorem HalfW.put {w5 wr : World} {h k : Nat} {sides : List Int} (H : HalfW w5 h sides k wr) (u : Value) : HalfW w5 h sides (k + 1) ((wr.drew).setCell ⟨h, k, none⟩ u) := by
  obtain ⟨cur, hB, hc⟩ := H.blk
  have hBd : Blk wr.drew h 3 cur := hB
  refine ⟨(H.chg.drewN 1).setCell (p := ⟨h, k, none⟩) (.inl rfl) u, _, hBd.set_ k u, fun j x hj hx => ?_⟩
  rw [Array.getElem?_setIfInBounds_ne (by omega)]
  exact hc j x (by omega) hx
theorem HalfW.start {w5 : World} {B h cap : Nat} {sides : List Int} (H : SpareI w5 B h cap sides) : HalfW w5 h sides 0 w5 := by
  obtain ⟨h1, h2, h3, cur, rest, hB, hc⟩ := H
  refine ⟨Chg.refl _ _, cur, hB, fun j x _ hx => ?_⟩
  have hk := (List.getElem?_eq_some_iff.1 hx).1
  rw [← Array.getElem?_toList, hc, List.getElem?_append_left (by rw [ivs_len, List.length_append, sss_length]; omega)]
  simp only [ivs, List.map_append]
  rw [List.getElem?_append_left (by simpa using hk), List.getElem?_map, hx]
  rfl
set_option maxRecDepth 100000 in
set_option maxHeartbeats 3200000 in
theorem does_any {w : World} {F1 F2 : Nat → Prop} {c : ECfg} {D K m : Nat} {p : PV} {r : RV} (hc : c.Ok) (h : Duo w F1 F2 c D K m p r) (hm : m ≤ 16777216) (kd a b n : Int) (BA SA : Option Addr) (bc sc : Nat) (bs : List UInt8) (sides : List Int) (hkd : 20 < kd ∧ kd ≤ 60) (hn : n ≤ 9223372036854775807) (hr : RdB w w.heap.size BA bs.length bs) (hbn : bs.length ≤ 17592186044416) (hs : RdI w w.heap.size SA sides.length sides) (hsn : sides.length ≤ 1099511627776) (hBA : 0 < bs.length → ∀ b o s, BA = some ⟨b, o, s⟩ → ¬ F1 b ∧ ¬ F2 b) (hSA : 0 < sides.length → ∀ b o s, SA = some ⟨b, o, s⟩ → ¬ F1 b ∧ ¬ F2 b) : Calls Try.prog 54 #[.pointer (some ⟨D, 0, none⟩), .pointer (some ⟨K, 0, none⟩), .agg #[.int .i64 kd, .int .i64 a, .int .i64 b, .int .i64 n, .slice BA bs.length bc, .slice SA sides.length sc]] w (NextR w F1 F2 c D K m) := by
  have hb0 := one_box' w (.cells #[.int .i64 kd, .int .i64 a, .int .i64 b, .int .i64 n, .slice BA bs.length bc, .slice SA sides.length sc] 33)
  have hE := Blk.new w 33 #[.int .i64 kd, .int .i64 a, .int .i64 b, .int .i64 n, .slice BA bs.length bc, .slice SA sides.length sc]
  obtain ⟨w0, hw0⟩ : ∃ w0, w0 = w.alloc (.cells #[.int .i64 kd, .int .i64 a, .int .i64 b, .int .i64 n, .slice BA bs.length bc, .slice SA sides.length sc] 33) := ⟨_, rfl⟩
  rw [← hw0] at hb0 hE
  have h0 := h.below hb0
  obtain ⟨hfp, hfr⟩ : Fine p m ∧ RFine r := by
    rcases h.tw.fine (by omega) (Nat.le_refl m) with h1 | h1
    · exact h1
    · exact absurd hc h1
  have HW0 := Lib.hid hw0
  have HB0 := Lib.hid hb0
  have HH := Lib.hid h
  have HH0 := Lib.hid h0
  have HE := Lib.hid hE
  have HFP := Lib.hid hfp
  have HFR := Lib.hid hfr
  have HC := Lib.hid hc
  have hr0 := (hr.below hb0).more hb0.size
  have hs0 := (hs.below hb0).more hb0.size
  have HR0 := Lib.hid hr0
  have HS0 := Lib.hid hs0
  have HBA := Lib.hid hBA
  have HSA := Lib.hid hSA
  have HEV := Lib.hid (event_any kd a b n BA SA bc sc bs sides (by omega) hr0 (by omega) hs0 (by omega))
  have HT := Lib.hid (h.tw.do_ hc ⟨kd - 20, a, b, n, bs, sides⟩)
  have x0 : w0.cell? ⟨w.heap.size, 0, none⟩ = some (.int .i64 kd) := hE.cell 0
  have x1 : w0.cell? ⟨w.heap.size, 1, none⟩ = some (.int .i64 a) := hE.cell 1
  have x2 : w0.cell? ⟨w.heap.size, 2, none⟩ = some (.int .i64 b) := hE.cell 2
  have x3 : w0.cell? ⟨w.heap.size, 3, none⟩ = some (.int .i64 n) := hE.cell 3
  have x4 : w0.cell? ⟨w.heap.size, 4, none⟩ = some (.slice BA bs.length bc) := hE.cell 4
  have x5 : w0.cell? ⟨w.heap.size, 5, none⟩ = some (.slice SA sides.length sc) := hE.cell 5
  have HN1 : Hid (¬ F1 w.heap.size ∧ ¬ F2 w.heap.size) := Lib.hid ⟨fun hf => Nat.lt_irrefl _ (h.pn.1 _ hf), fun hf => Nat.lt_irrefl _ (h.rn.1 _ hf)⟩
  clear hw0 hb0 hE h0 h hr hr0 hs hs0 hfp hfr hBA hSA hc
  go_enter Try.func54, Try.ntmps54
  go_upto_region 1 with fail
  rw [← HW0.out]
  go_upto_region 2 with (go_at_call 39; refine HEV.out.mono ?_; rintro _ w1 ⟨g, cap, hh, caps, rfl, hSB, hSI, hb1⟩; have HG := Lib.hid (And.intro hSB (And.intro hSI hb1)); clear hSB hSI hb1)
  have hbv := one_box' w1 (.cells #[.int .i64 (kd - 20), .int .i64 a, .int .i64 b, .int .i64 n, .slice (some ⟨g, 0, none⟩) bs.length cap, .int .i64 0, .int .i64 0, .int .i64 0, .int .i64 0, .string ByteArray.empty, .string ByteArray.empty, .string ByteArray.empty, .slice (some ⟨hh, 0, none⟩) sides.length caps] 41)
  have hV := Blk.new w1 41 #[.int .i64 (kd - 20), .int .i64 a, .int .i64 b, .int .i64 n, .slice (some ⟨g, 0, none⟩) bs.length cap, .int .i64 0, .int .i64 0, .int .i64 0, .int .i64 0, .string ByteArray.empty, .string ByteArray.empty, .string ByteArray.empty, .slice (some ⟨hh, 0, none⟩) sides.length caps]
  have hb1 := HG.out.2.2
  have hs1 := hb1.size
  obtain ⟨w2, hw2⟩ : ∃ w2, w2 = w1.alloc (.cells #[.int .i64 (kd - 20), .int .i64 a, .int .i64 b, .int .i64 n, .slice (some ⟨g, 0, none⟩) bs.length cap, .int .i64 0, .int .i64 0, .int .i64 0, .int .i64 0, .string ByteArray.empty, .string ByteArray.empty, .string ByteArray.empty, .slice (some ⟨hh, 0, none⟩) sides.length caps] 41) := ⟨_, rfl⟩
  rw [← hw2] at hbv hV
  have HW2 := Lib.hid hw2
  have hF1 : ∀ k, F1 k → k < w0.heap.size := HH0.out.pn.1
  have hF2 : ∀ k, F2 k → k < w0.heap.size := HH0.out.rn.1
  have hg0 : w0.heap.size ≤ g := HG.out.1.new
  have hh0 : w0.heap.size ≤ hh := HG.out.2.1.new
  have hgl := HG.out.1.lt
  have hhl := HG.out.2.1.lt
  have hN : ∀ k, w0.heap.size ≤ k → ¬ F1 k ∧ ¬ F2 k := fun k hk => ⟨fun e => by have := hF1 k e; omega, fun e => by have := hF2 k e; omega⟩
  have HN := Lib.hid hN
  have hch2 : Chg (fun _ => False) w1 w2 := Chg.of_below hbv _
  have hSB2 := HG.out.1.chg hch2 fun h => h
  have hSI2 := HG.out.2.1.chg hch2 fun h => h
  have hD2 := (HH0.out.below hb1).below hbv
  have hE2 := (HE.out.over hb1).over hbv
  have hDF : F1 D := by
    obtain ⟨_, _, _, _, _, _, hP⟩ := HH0.out.pn
    exact hP.fd
  have HDO := Lib.hid (Do_any HC.out hD2.pn HFP.out (kd - 20) a b n (some ⟨g, 0, none⟩) (some ⟨hh, 0, none⟩) cap sides.length caps bs sides hn hSB2.rd (by omega) (fun _ b' o' s' e e2 => by
    injection e with e
    injection e with e
    have := hF1 D hDF
    omega) hSI2.rd (by omega) (fun _ b' o' s' e => by
    injection e with e
    injection e with e
    exact (hN b' (by omega)).1))
  have HRB2 := Lib.hid ((((HR0.out.below hb1).more hs1).below hbv).more hbv.size)
  have HRI2 := Lib.hid ((((HS0.out.below hb1).more hs1).below hbv).more hbv.size)
  have y0 : w2.cell? ⟨w1.heap.size, 0, none⟩ = some (.int .i64 (kd - 20)) := hV.cell 0
  have y1 : w2.cell? ⟨w1.heap.size, 1, none⟩ = some (.int .i64 a) := hV.cell 1
  have y2 : w2.cell? ⟨w1.heap.size, 2, none⟩ = some (.int .i64 b) := hV.cell 2
  have y3 : w2.cell? ⟨w1.heap.size, 3, none⟩ = some (.int .i64 n) := hV.cell 3
  have y4 : w2.cell? ⟨w1.heap.size, 4, none⟩ = some (.slice (some ⟨g, 0, none⟩) bs.length cap) := hV.cell 4
  have y5 : w2.cell? ⟨w1.heap.size, 5, none⟩ = some (.int .i64 0) := hV.cell 5
  have y6 : w2.cell? ⟨w1.heap.size, 6, none⟩ = some (.int .i64 0) := hV.cell 6
  have y7 : w2.cell? ⟨w1.heap.size, 7, none⟩ = some (.int .i64 0) := hV.cell 7
  have y8 : w2.cell? ⟨w1.heap.size, 8, none⟩ = some (.int .i64 0) := hV.cell 8
  have y9 : w2.cell? ⟨w1.heap.size, 9, none⟩ = some (.string ByteArray.empty) := hV.cell 9
  have y10 : w2.cell? ⟨w1.heap.size, 10, none⟩ = some (.string ByteArray.empty) := hV.cell 10
  have y11 : w2.cell? ⟨w1.heap.size, 11, none⟩ = some (.string ByteArray.empty) := hV.cell 11
  have y12 : w2.cell? ⟨w1.heap.size, 12, none⟩ = some (.slice (some ⟨hh, 0, none⟩) sides.length caps) := hV.cell 12
  have HD2 := Lib.hid hD2
  have HE2 := Lib.hid hE2
  have HV2 := Lib.hid hV
  have HS2 := Lib.hid (And.intro hSB2 hSI2)
  have HSZ := Lib.hid (And.intro hs1 (And.intro hbv.size (And.intro hg0 (And.intro hh0 (And.intro hgl hhl)))))
  have HB2 := Lib.hid (hb1.trans (hbv.mono hs1))
  clear hw2 hbv hV hb1 hs1 hF1 hF2 hg0 hh0 hgl hhl hN hch2 hSB2 hSI2 hD2 hE2 hDF x0 x1 x2 x3 x4 x5
  rw [← HW2.out]
  have HY : Hid (0 ≤ (doD c p ⟨kd - 20, a, b, n, bs, sides⟩).1 ∧ (doD c p ⟨kd - 20, a, b, n, bs, sides⟩).1 ≤ 100) := Lib.hid (do_100 c p _)
  obtain ⟨y, hy⟩ : ∃ y, y = (doD c p ⟨kd - 20, a, b, n, bs, sides⟩).1 := ⟨_, rfl⟩
  have HRY : Hid ((rdoD c r ⟨kd - 20, a, b, n, bs, sides⟩).1 = y) := Lib.hid (by rw [hy]; exact HT.out.1.symm)
  rw [← hy] at HDO HY
  clear hy
  go_upto_region 3 with (go_at_call 19; refine HDO.out.mono ?_; rintro _ w3 hst; have hv := hst.1; subst hv; have HST := Lib.hid hst; clear hst)
  have hC3 : Chg F1 w2 w3 := HST.out.2.choose_spec.2.2
  have hs3 := hC3.size
  have hE3 := HE2.out.chg hC3 HN1.out.1
  have hV3 := HV2.out.chg hC3 (HN.out _ (by have := HSZ.out.1; omega)).1
  have hSB3 := HS2.out.1.chg hC3 (HN.out _ HSZ.out.2.2.1).1
  have hSI3 := HS2.out.2.chg hC3 (HN.out _ HSZ.out.2.2.2.1).1
  have hrb3 := (rd_clear HRB2.out hC3 (Nat.le_refl _) fun hp b' o' s' e => (HBA.out hp b' o' s' e).1).more hs3
  have hri3 := (rdI_clear HRI2.out hC3 (Nat.le_refl _) fun hp b' o' s' e => (HSA.out hp b' o' s' e).1).more hs3
  have HEV2 := Lib.hid (event_any kd a b n BA SA bc sc bs sides (by omega) hrb3 (by omega) hri3 (by omega))
  clear y0 y1 y2 y3 y4 y5 y6 y7 y8 y9 y10 y11 y12
  have x0 : w3.cell? ⟨w.heap.size, 0, none⟩ = some (.int .i64 kd) := hE3.cell 0
  have x1 : w3.cell? ⟨w.heap.size, 1, none⟩ = some (.int .i64 a) := hE3.cell 1
  have x2 : w3.cell? ⟨w.heap.size, 2, none⟩ = some (.int .i64 b) := hE3.cell 2
  have x3 : w3.cell? ⟨w.heap.size, 3, none⟩ = some (.int .i64 n) := hE3.cell 3
  have x4 : w3.cell? ⟨w.heap.size, 4, none⟩ = some (.slice BA bs.length bc) := hE3.cell 4
  have x5 : w3.cell? ⟨w.heap.size, 5, none⟩ = some (.slice SA sides.length sc) := hE3.cell 5
  have HR3 := Lib.hid (HD2.out.stepP HST.out).1
  have HE3 := Lib.hid (And.intro hE3 (And.intro hV3 (And.intro hSB3 (And.intro hSI3 (And.intro hrb3 hri3)))))
  clear hE3 hV3 hSB3 hSI3 hrb3 hri3 hs3 hC3
  go_upto_region 4 with (first
    | (go_at_call 39; refine HEV2.out.mono ?_; rintro _ w4 ⟨g2, cap2, h2, caps2, rfl, hSB, hSI, hb4⟩; have HG4 := Lib.hid (And.intro hSB (And.intro hSI hb4)); clear hSB hSI hb4; have HRDO := Lib.hid (rdo_ev HC.out HR3.out HFR.out hn (by omega) (by omega) HG4.out.1 HG4.out.2.1 HG4.out.2.2 (kd - 20) a b); rw [HRY.out] at HRDO)
    | (go_at_call 76; refine HRDO.out.mono ?_; rintro _ w5 hst; have hv := hst.1; subst hv; have HST2 := Lib.hid hst; clear hst))
  have hb4 := HG4.out.2.2
  have hs4 := hb4.size
  have hC5 : Chg F2 w4 w5 := HST2.out.2.choose_spec.2.2
  have hE5 := (HE3.out.1.over hb4).chg hC5 HN1.out.2
  have hV5 := (HE3.out.2.1.over hb4).chg hC5 (HN.out _ (by have := HSZ.out.1; omega)).2
  have hSB5 := (HE3.out.2.2.1.chg (Chg.of_below hb4 (fun _ => False)) fun h => h).chg hC5 (HN.out _ HSZ.out.2.2.1).2
  have hSI5 := (HE3.out.2.2.2.1.chg (Chg.of_below hb4 (fun _ => False)) fun h => h).chg hC5 (HN.out _ HSZ.out.2.2.2.1).2
  have hrb5 := rd_clear ((HE3.out.2.2.2.2.1.below hb4).more hs4) hC5 (Nat.le_refl _) fun hp b' o' s' e => (HBA.out hp b' o' s' e).2
  have hri5 := rdI_clear ((HE3.out.2.2.2.2.2.below hb4).more hs4) hC5 (Nat.le_refl _) fun hp b' o' s' e => (HSA.out hp b' o' s' e).2
  obtain ⟨hgn, hgcap, hgmax, curB, restB, hgB, hgcur⟩ := hSB5
  have HKE := Lib.hid (kept_yes g bs.length cap BA bc _ bs curB restB w5 hgB hgcur hgcap hgmax hrb5)
  have hcsz : bs.length ≤ curB.size := by
    have h1 := congrArg List.length hgcur
    rw [List.length_append, bvs_length, List.length_append, Array.length_toList] at h1
    omega
  obtain ⟨hIc, hIl⟩ := hSI5.cells
  have hcaps := hSI5.room
  have hcapm := hSI5.max
  have hcapi : caps ≤ 9223372036854775807 := by simp only [maxLen] at hcapm; omega
  have HGB := Lib.hid hgB
  have HCSZ := Lib.hid hcsz
  have HIC := Lib.hid hIc
  have HSI5 := Lib.hid hSI5
  have HRI5 := Lib.hid hri5
  have HRI5S : Hid (w4.heap.size ≤ w5.heap.size) := Lib.hid hC5.size
  have HSA0 : Hid (0 < sides.length → ∀ b o s, SA = some ⟨b, o, s⟩ → b < w0.heap.size ∧ w0.heap.size ≤ hh) := Lib.hid fun hp b' o' s' e => by
    obtain ⟨b2, o2, e', hlt, _⟩ := HS0.out.at_ hp
    rw [e] at e'
    injection e' with e'
    injection e' with e'
    exact ⟨by omega, HSZ.out.2.2.2.1⟩
  have HE5 := Lib.hid hE5
  have HV5 := Lib.hid hV5
  have HNX : Hid (∃ G1 G2, Next w2 F1 F2 c D K (m + 1) (doD c p ⟨kd - 20, a, b, n, bs, sides⟩).2 (rdoD c r ⟨kd - 20, a, b, n, bs, sides⟩).2 G1 G2 w5) := Lib.hid (duo_mid HD2.out HST.out HG4.out.2.2 HST2.out HT.out.2)
  clear x0 x1 x2 x3 x4 x5
  have x4 : w5.cell? ⟨w.heap.size, 4, none⟩ = some (.slice BA bs.length bc) := hE5.cell 4
  have x5 : w5.cell? ⟨w.heap.size, 5, none⟩ = some (.slice SA sides.length sc) := hE5.cell 5
  have y4 : w5.cell? ⟨w1.heap.size, 4, none⟩ = some (.slice (some ⟨g, 0, none⟩) bs.length cap) := hV5.cell 4
  have y12 : w5.cell? ⟨w1.heap.size, 12, none⟩ = some (.slice (some ⟨hh, 0, none⟩) sides.length caps) := hV5.cell 12
  have hls : ((sides.length : Int) == (sides.length : Int)) = true := by simp
  clear hb4 hs4 hC5 hE5 hV5 hSI5 hrb5 hri5 hgn hgcap hgmax hgB hgcur hcsz hIc hIl hcapm
  go_upto_region 5 with (go_at_call 72; refine HKE.out.mono ?_; rintro _ _ ⟨rfl, rfl⟩)
  go_upto_region 6 with fail
  go_wp2_with fail
  go_loop [10, 12] (fun ok i => ok = .bool true ∧ ∃ k : Nat, k ≤ 64 ∧ i = .int .i64 (k : Int)) (fun _ i => 64 - (intOf i).toNat)
  case atStart => exact ⟨rfl, 0, by omega, rfl⟩
  case round =>
    obtain ⟨rfl, k, hk, rfl⟩ := hrel
    by_cases hlt : k < 64
    · have hI : (k : Int) < 64 := by omega
      have hcell := HIC.out k hlt
      have hlt1 : (sides.length : Int) + (k : Int) < (sides.length : Int) + 64 := by omega
      have e3 : ((sides.length : Int) + (k : Int)).toNat = sides.length + k := by omega
      have hiw : IntKind.i64.wrap (700 + (k : Int)) = 700 + (k : Int) := IntWalk.i64_in _ (by omega)
      have hiw2 : IntKind.i64.wrap ((sides.length : Int) + (k : Int)) = (sides.length : Int) + (k : Int) := IntWalk.i64_in _ (by omega)
      have heq : ((700 + (k : Int)) == (700 + (k : Int))) = true := by simp
      go_wp2
      go_round
      case rel => exact ⟨rfl, k + 1, by omega, by go_num⟩
      case measure => simp [intOf]; omega
    · obtain rfl : k = 64 := by omega
      go_upto_region 10 with fail
      have HLP : Hid (HalfW w5 hh sides 0 w5) := Lib.hid (HalfW.start HSI5.out)
      go_wp2_with fail
      go_loopw [10, 13] (fun ok i wr => ok = .bool true ∧ ∃ k : Nat, k ≤ sides.length ∧ i = .int .i64 (k : Int) ∧ Hid (HalfW w5 hh sides k wr)) (fun _ i _ => sides.length - (intOf i).toNat)
      case atStart => exact ⟨rfl, 0, by omega, rfl, HLP⟩
      case round =>
        clear HLP x4 x5 y4 y12
        obtain ⟨rfl, k, hk, rfl, HL⟩ := hrel
        have hhE := HSZ.out
        have hEr := HE5.out.chg HL.out.chg (fun e => by have := hhE.2.2.2.1; have := HB0.out.size; have hh3 := HE.out.lt; omega)
        have hVr := HV5.out.chg HL.out.chg (fun e => by have := hhE.2.2.2.2.2; omega)
        have x5 : wr.cell? ⟨w.heap.size, 5, none⟩ = some (.slice SA sides.length sc) := hEr.cell 5
        have y12 : wr.cell? ⟨w1.heap.size, 12, none⟩ = some (.slice (some ⟨hh, 0, none⟩) sides.length caps) := hVr.cell 12
        by_cases hlt : k < sides.length
        · have hI : (k : Int) < (sides.length : Int) := by omega
          obtain ⟨x, hx⟩ : ∃ x, sides[k]? = some x := ⟨sides[k], List.getElem?_eq_getElem hlt⟩
          have c1 := HL.out.cell hx
          have hfz := HL.out.frozen k
          obtain ⟨sb, soff, rfl, hsb, hsc⟩ := (rdI_clear HRI5.out HL.out.chg (Nat.le_of_lt_succ (Nat.lt_succ_of_le HRI5S.out)) (fun _ b' o' s' e e2 => by
            have := (HSA0.out (by omega) b' o' s' e)
            omega)).at_ (by omega)
          have c2 : wr.cell? ⟨sb, soff + k, none⟩ = some (.int .i64 x) := hsc k _ (by simp [ivs, hx])
          have heq : (x == x) = true := by simp
          have HPU := Lib.hid (HL.out.put (.int .i64 15))
          go_upto_region 13 with fail
          go_region
          clear c2 hsc hsb
          go_wp2_with fail
          go_roundw
          case rel => exact ⟨rfl, k + 1, by omega, by go_num, HPU⟩
          case measure => simp [intOf] <;> omega
        · obtain rfl : k = sides.length := by omega
          have y4 : wr.cell? ⟨w1.heap.size, 4, none⟩ = some (.slice (some ⟨g, 0, none⟩) bs.length cap) := hVr.cell 4
          have hgh : g ≠ hh := by
            intro e
            obtain ⟨cur, hBh, _⟩ := HL.out.blk
            have hBg := HGB.out
            obtain ⟨_, _, _, cur5, _, hB5, _⟩ := HSI5.out
            exact hBg.ne_ hB5 (by decide) e
          have HVR := Lib.hid hVr
          have HL3 : Hid (∃ cur' : Array Value, Blk wr g 5 cur' ∧ cur'.size = curB.size ∧ Chg (fun j => j = g) wr wr) := Lib.hid ⟨curB, HGB.out.chg HL.out.chg hgh, rfl, Chg.refl _ _⟩
          have HCH := Lib.hid HL.out.chg
          clear HL hEr hVr x5
          go_upto_region 15 with fail
          clear y12
          rename World => wl
          go_wp2_with fail
          go_loopw [14] (fun i wr => ∃ k : Nat, k ≤ bs.length ∧ i = .int .i64 (k : Int) ∧ Hid (∃ cur' : Array Value, Blk wr g 5 cur' ∧ cur'.size = curB.size ∧ Chg (fun j => j = g) wl wr)) (fun i _ => bs.length - (intOf i).toNat)
          case atStart => exact ⟨0, by omega, rfl, HL3⟩
          case round =>
            clear HL3 y4
            obtain ⟨k, hk, rfl, HL⟩ := hrel
            have hVr : Blk wr w1.heap.size 41 _ := HVR.out.chg HL.out.choose_spec.2.2 (fun e => by have := hhE.2.2.2.2.1; omega)
            have y4 : wr.cell? ⟨w1.heap.size, 4, none⟩ = some (.slice (some ⟨g, 0, none⟩) bs.length cap) := hVr.cell 4
            by_cases hlt : k < bs.length
            · have hI : (k : Int) < (bs.length : Int) := by omega
              obtain ⟨cur', hB', hsz', hch'⟩ := HL.out
              obtain ⟨u, hu⟩ : ∃ u, wr.cell? ⟨g, k, none⟩ = some u := by
                rw [hB'.cell]
                exact ⟨_, Array.getElem?_eq_getElem (by have := HCSZ.out; omega)⟩
              have hfz := hB'.frozen k
              have HN : Hid (∃ cur' : Array Value, Blk (wr.setCell ⟨g, k, none⟩ (.int .u8 238)) g 5 cur' ∧ cur'.size = curB.size ∧ Chg (fun j => j = g) wl (wr.setCell ⟨g, k, none⟩ (.int .u8 238))) := Lib.hid ⟨_, hB'.set_ k _, by rw [Array.size_setIfInBounds]; exact hsz', hch'.setCell (p := ⟨g, k, none⟩) (.inl rfl) _⟩
              clear hB' hsz' hch' hVr
              go_wp2
              go_roundw
              case rel => exact ⟨k + 1, by omega, by go_num, HN⟩
              case measure => simp [intOf] <;> omega
            · obtain rfl : k = bs.length := by omega
              have HFIN : Hid (∃ p' r' G1 G2, Next w F1 F2 c D K (m + 1) p' r' G1 G2 wr) := by
                obtain ⟨cur', _, _, hch'⟩ := HL.out
                obtain ⟨G1, G2, hn⟩ := HNX.out
                obtain ⟨hz1, hz2, hg0, hh0, hgl, hhl⟩ := hhE
                have hsw := HB0.out.size
                have hng : ∀ q, w0.heap.size ≤ q → q < w1.heap.size → ¬ G1 q ∧ ¬ G2 q := fun q hq hq2 => ⟨fun e => (hn.g1 q e).elim (HN.out q hq).1 (fun e => by omega), fun e => (hn.g2 q e).elim (HN.out q hq).2 (fun e => by omega)⟩
                have hn2 := hn.ahead (HB0.out.trans (HB2.out.mono hsw))
                have hn3 := hn2.chg_ HCH.out (hng hh hh0 hhl).1 (hng hh hh0 hhl).2 (by omega)
                exact Lib.hid ⟨_, _, G1, G2, hn3.chg_ hch' (hng g hg0 hgl).1 (hng g hg0 hgl).2 (by omega)⟩
              clear hVr
              go_wp2_with (go_at_call 30; refine (num_any _ _ (by have := HY.out; omega) (by have := HY.out; omega)).mono ?_; rintro _ _ ⟨rfl, rfl⟩)
              go_ret
              exact ⟨rfl, HFIN.out⟩
end Go.Proofs.Ytgfhmfhhobhojaa
