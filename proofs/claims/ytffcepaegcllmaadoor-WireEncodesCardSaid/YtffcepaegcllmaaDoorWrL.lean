/-
  The program's writer: part, for the two kinds with a loop.
-/
import Derived.Test.YtffcepaegcllmaaDoorWrK
namespace Go.Proofs.YtffcepaegcllmaaDoor
open Go.RowKit
def packS (l : List (Int × Int)) : List UInt8 := l.flatMap fun x => pack [x.1, x.2]
theorem packS_snoc {l : List (Int × Int)} {k : Nat} {x : Int × Int} (h : l[k]? = some x) : packS (l.take (k + 1)) = packS (l.take k) ++ pack [x.1, x.2] := by
  unfold packS
  rw [List.take_add_one, h, List.flatMap_append]
  simp
theorem packS_le (l : List (Int × Int)) : (packS l).length ≤ 18 * l.length := by
  induction l with
  | nil => simp [packS]
  | cons x r ih =>
    have h := pack_le [x.1, x.2]
    have e : packS (x :: r) = pack [x.1, x.2] ++ packS r := by simp [packS]
    rw [e, List.length_append]
    simp only [List.length_cons, List.length_nil] at *
    omega
theorem slotB_true' {s q : Int} (h : slotB s q = true) : 0 ≤ s ∧ s ≤ 4611686018427387904 ∧ 0 ≤ q ∧ q ≤ 4611686018427387904 := by
  simp [slotB, cntB] at h
  omega
set_option maxRecDepth 100000 in
set_option maxHeartbeats 3200000 in
theorem part_3 {base gw B : Nat} {bs : List UInt8} {p : Pk} {D : PkD} {w : World} (hk1 : p.k = 3) (hk2 : flushB p.f1 p.f2 p.f3 p.f4 p.base D.slots D.got = true) (hW : Wt w base gw bs) (hgb : base ≤ gw) (hb0 : base ≤ w.heap.size) (hin : InAll w base B p D) (_hBw : B ≤ w.heap.size) (hn : bs.length ≤ 100000) :
    Calls Tryd.prog 40 #[.pointer (some ⟨gw, 0, none⟩), .agg p.cells] w (WtP w base gw (bs ++ (packI p.f1 p.f2 p.f3 p.f4 ++ pack [p.base, (p.sn : Int)] ++ packS D.slots ++ packL D.got))) := by
  have hv : wholeB p.f1 p.f2 p.f3 p.f4 = true ∧ cntB p.base 0 = true ∧ slotsB D.slots = true ∧ D.slots.length ≤ 128 ∧ allB D.got = true ∧ D.got.length ≤ 16 := by
    simp only [flushB, countsB, Bool.and_eq_true, decide_eq_true_eq] at hk2
    obtain ⟨⟨⟨⟨h1, h2⟩, h3⟩, h4⟩, h5⟩ := hk2
    exact ⟨h2, h3, h1, h4, h5.1.1, h5.2⟩
  have HV := Lib.hid hv
  have HIN := Lib.hid hin
  have HSN : Hid (D.slots.length = p.sn) := Lib.hid (hin w (ChT.refl _ _ _)).rs.1
  have hsn : p.sn ≤ 128 := by have := HSN.out; have := hv.2.2.2.1; omega
  obtain ⟨wa, hwa⟩ : ∃ wa, wa = w.alloc (.cells p.cells 45) := ⟨_, rfl⟩
  have HA : Hid (Below w.heap.size w wa ∧ Blk wa w.heap.size 45 p.cells) := Lib.hid ⟨by rw [hwa]; exact one_box _ _, by rw [hwa]; exact Blk.new _ _ _⟩
  have HS0 : Hid (Wt wa base gw bs ∧ ChT wrTs base w wa ∧ base ≤ wa.heap.size ∧ Blk wa w.heap.size 45 p.cells ∧ bs.length ≤ 100000) := Lib.hid ⟨hW.below HA.out.1, ChT.of_below HA.out.1, Nat.le_trans hb0 HA.out.1.size, HA.out.2, hn⟩
  have HWA := Lib.hid hwa
  clear hwa hW hin hv hk2
  obtain ⟨sA, hsA⟩ : ∃ a, a = p.sA := ⟨_, rfl⟩
  have HSA := Lib.hid hsA
  clear hsA
  have c0 : wa.cell? ⟨w.heap.size, 0, none⟩ = some (.int .i64 3) := by rw [HA.out.2.cell]; exact congrArg (fun z => some (Value.int .i64 z)) hk1
  have c16 : wa.cell? ⟨w.heap.size, 16, none⟩ = some (.int .i64 p.f1) := HA.out.2.cell 16
  have c17 : wa.cell? ⟨w.heap.size, 17, none⟩ = some (.int .i64 p.f2) := HA.out.2.cell 17
  have c18 : wa.cell? ⟨w.heap.size, 18, none⟩ = some (.int .i64 p.f3) := HA.out.2.cell 18
  have c19 : wa.cell? ⟨w.heap.size, 19, none⟩ = some (.int .i64 p.f4) := HA.out.2.cell 19
  go_enter Tryd.func40, Tryd.ntmps40
  go_upto_region 1 with fail
  rw [← HWA.out]
  go_upto_region 13 with (first
    | (go_at_call 39; refine (counts_l (m := 2) (is := [p.base, (p.sn : Int)]) HS1.out.1 hgb HS1.out.2.2.1 rfl rfl (by have := HS1.out.2.2.2.2; omega) (by have h1 := HV.out.2.1; simp [cntB] at h1 ⊢; omega)).mono ?_; rintro _ y1 ⟨rfl, hw1, hc1⟩; have hbk : Blk y1 w.heap.size 45 p.cells := HS1.out.2.2.2.1.cht hc1 (.inl (by decide)); have HS2 : Hid (Wt y1 base gw ((bs ++ packI p.f1 p.f2 p.f3 p.f4) ++ pack [p.base, (p.sn : Int)]) ∧ ChT wrTs base w y1 ∧ base ≤ y1.heap.size ∧ Blk y1 w.heap.size 45 p.cells ∧ ((bs ++ packI p.f1 p.f2 p.f3 p.f4) ++ pack [p.base, (p.sn : Int)]).length ≤ 100054) := Lib.hid ⟨hw1, HS1.out.2.1.trans hc1, Nat.le_trans HS1.out.2.2.1 (ChT.size hc1), hbk, pack_len (k := 2) HS1.out.2.2.2.2 (by simp)⟩; have f21 : y1.cell? ⟨w.heap.size, 21, none⟩ = some (.slice sA p.sn p.sc) := (by rw [hbk.cell, HSA.out]; rfl); clear hw1 hc1 hbk; go_simp)
    | (go_at_call 98; refine (id_w HS0.out.1 hgb HS0.out.2.2.1 (by have := HS0.out.2.2.2.2; omega) (.inl HV.out.1)).mono ?_; rintro _ y0 ⟨rfl, hw1, hc1⟩; have hbk : Blk y0 w.heap.size 45 p.cells := HS0.out.2.2.2.1.cht hc1 (.inl (by decide)); have HS1 : Hid (Wt y0 base gw (bs ++ packI p.f1 p.f2 p.f3 p.f4) ∧ ChT wrTs base w y0 ∧ base ≤ y0.heap.size ∧ Blk y0 w.heap.size 45 p.cells ∧ (bs ++ packI p.f1 p.f2 p.f3 p.f4).length ≤ 100036) := Lib.hid ⟨hw1, HS0.out.2.1.trans hc1, Nat.le_trans HS0.out.2.2.1 (ChT.size hc1), hbk, packI_len HS0.out.2.2.2.2⟩; have e20 : y0.cell? ⟨w.heap.size, 20, none⟩ = some (.int .i64 p.base) := hbk.cell 20; have e21 : y0.cell? ⟨w.heap.size, 21, none⟩ = some (.slice sA p.sn p.sc) := (by rw [hbk.cell, HSA.out]; rfl); clear hw1 hc1 hbk; go_simp))
  go_wp2_with fail
  go_loopw [5, 74] (fun _ i wr => ∃ j : Nat, j ≤ p.sn ∧ i = .int .i64 (j : Int) ∧ Hid (Wt wr base gw (((bs ++ packI p.f1 p.f2 p.f3 p.f4) ++ pack [p.base, (p.sn : Int)]) ++ packS (D.slots.take j)) ∧ ChT wrTs base w wr ∧ base ≤ wr.heap.size ∧ Blk wr w.heap.size 45 p.cells)) (fun _ i _ => p.sn - (intOf i).toNat)
  case atStart => exact ⟨0, by omega, rfl, Lib.hid ⟨by simpa [packS] using HS2.out.1, HS2.out.2.1, HS2.out.2.2.1, HS2.out.2.2.2.1⟩⟩
  case round =>
    obtain ⟨j, hj, rfl, HJ⟩ := hrel
    have HLN : Hid ((((bs ++ packI p.f1 p.f2 p.f3 p.f4) ++ pack [p.base, (p.sn : Int)]) ++ packS (D.slots.take j)).length ≤ 103000) := Lib.hid (by
      have h1 := HS2.out.2.2.2.2
      have h2 := packS_le (D.slots.take j)
      have h3 : (D.slots.take j).length ≤ j := by rw [List.length_take]; omega
      rw [List.length_append]
      omega)
    by_cases hlt : j < p.sn
    · have hI : (j : Int) < (p.sn : Int) := by omega
      obtain ⟨x, hx⟩ : ∃ x, D.slots[j]? = some x := ⟨_, List.getElem?_eq_getElem (by rw [HSN.out]; exact hlt)⟩
      obtain ⟨b, off, he, hbl, hcl⟩ := (HIN.out wr HJ.out.2.1).rs.2 (by omega)
      obtain ⟨m0, m1⟩ := hcl j x hx
      have HX := Lib.hid hx
      have HSL : Hid (slotB x.1 x.2 = true) := Lib.hid (List.all_eq_true.1 HV.out.2.2.1 x (List.mem_of_getElem? hx))
      rw [← HSA.out] at he
      subst he
      obtain ⟨wd, hwd⟩ : ∃ y, y = wr.alloc (.cells #[.int .i64 x.1, .int .i64 x.2] 115) := ⟨_, rfl⟩
      have hbd : Below wr.heap.size wr wd := by rw [hwd]; exact one_box _ _
      have hBd : Blk wd wr.heap.size 115 #[.int .i64 x.1, .int .i64 x.2] := by rw [hwd]; exact Blk.new _ _ _
      have d0 : wd.cell? ⟨wr.heap.size, 0, none⟩ = some (.int .i64 x.1) := hBd.cell 0
      have d1 : wd.cell? ⟨wr.heap.size, 1, none⟩ = some (.int .i64 x.2) := hBd.cell 1
      have HWD := Lib.hid hwd
      have HBD := Lib.hid hbd
      have HCL := Lib.hid (counts_l (m := 2) (is := [x.1, x.2]) (cs := #[.int .i64 x.1, .int .i64 x.2]) (HJ.out.1.below hbd) hgb (Nat.le_trans HJ.out.2.2.1 hbd.size) rfl rfl (by have := HLN.out; omega) (by have h := slotB_true' HSL.out; simp; omega))
      clear hx hcl hwd hbd hBd
      go_upto_block 2 with fail
      refine wp_block ?_
      go_upto_region 16 with fail
      rw [← HWD.out]
      go_wp2_with (go_at_call 39; refine HCL.out.mono ?_; rintro _ y2 ⟨rfl, hw2, hc2⟩; have H2 := Lib.hid (And.intro hw2 ((ChT.of_below HBD.out).trans hc2)); clear hw2 hc2; go_simp)
      go_roundw
      case rel =>
        refine ⟨j + 1, by omega, by go_num, Lib.hid ⟨?_, HJ.out.2.1.trans H2.out.2, Nat.le_trans HJ.out.2.2.1 (ChT.size H2.out.2), HJ.out.2.2.2.cht H2.out.2 (.inl (by decide))⟩⟩
        rw [packS_snoc HX.out, ← List.append_assoc]
        exact H2.out.1
      case measure => simp [intOf] <;> omega
    · obtain rfl : j = p.sn := by omega
      have hI : ¬ (p.sn : Int) < (p.sn : Int) := by omega
      have hD : decide ((p.sn : Int) < (p.sn : Int)) = false := by simp
      have f22 : wr.cell? ⟨w.heap.size, 22, none⟩ = some (.slice p.eA p.en p.ec) := HJ.out.2.2.2.cell 22
      have HLW := Lib.hid (list_w (cap := p.ec) HJ.out.1 hgb HJ.out.2.2.1 (fun w1 hc => (HIN.out w1 (HJ.out.2.1.trans hc)).re) (by have h1 := HLN.out; have h2 := HV.out.2.2.2.2.2; have h3 := (HIN.out w (ChT.refl _ _ _)).re.lenI; omega) (all_in HV.out.2.2.2.2.1))
      go_wp2_with (go_at_call 97; refine HLW.out.mono ?_; rintro _ y3 ⟨rfl, hw3, hc3⟩; have H3 := Lib.hid (And.intro hw3 (HJ.out.2.1.trans hc3)); clear hw3 hc3; go_simp)
      go_end0
      refine ⟨rfl, ?_, H3.out.2⟩
      have h := H3.out.1
      rw [List.take_of_length_le (by rw [HSN.out]; exact Nat.le_refl _)] at h
      simpa only [List.append_assoc] using h
theorem data_w {base gw : Nat} {bs : List UInt8} {s q t : Int} {A : Option Addr} {m cap B : Nat} {body : List UInt8} {w : World} (hW : Wt w base gw bs) (hgb : base ≤ gw) (hb0 : base ≤ w.heap.size)
    (hr : ∀ w1, ChT wrTs base w w1 → RdB w1 B A m body) (hn : bs.length + m + 200 ≤ 140737488355328) (hs : 0 ≤ s ∧ s ≤ 4611686018427387904) (hq : 0 ≤ q ∧ q ≤ 4611686018427387904) (ht : 0 ≤ t ∧ t ≤ 4611686018427387904) :
    Calls Tryd.prog 100 #[.pointer (some ⟨gw, 0, none⟩), .agg #[.int .i64 s, .int .i64 q, .int .i64 t, .slice A m cap]] w (WtP w base gw (bs ++ packD s q t body)) := by
  obtain ⟨bv, hB, ho⟩ := hW
  refine (data_any base gw bv bs.length (bvs bs) s q t A m cap B body w hB hgb ho hb0 hr hn hs hq ht).mono ?_
  rintro e w' ⟨rfl, bv', hB', ho', hc⟩
  exact ⟨rfl, ⟨bv', hB', by rw [List.length_append, bvs_append]; exact ho'⟩, hc⟩
theorem rises_all {ml : List Msg} (h : rises ml = true) : ∀ m ∈ ml, msgB m = true := fun m hm => by
  obtain ⟨k, hk⟩ := List.getElem?_of_mem hm
  have hkl := (List.getElem?_eq_some_iff.1 hk).1
  cases hb : msgB m with
  | true => rfl
  | false =>
    have hs : stepB ml k = false := by unfold stepB; rw [hk]; simp [hb]
    unfold rises at h
    rw [risK_no hs ml.length hkl] at h
    cases h
theorem msgB_bd {m : Msg} (h : msgB m = true) : (0 ≤ m.s ∧ m.s ≤ 4611686018427387904) ∧ (0 ≤ m.q ∧ m.q ≤ 4611686018427387904) ∧ (0 ≤ m.t ∧ m.t ≤ 4611686018427387904) ∧ m.n ≤ 256 := by
  simp [msgB, datB, slotB, cntB] at h
  omega
def packM (l : List Msg) : List UInt8 := l.flatMap fun m => packD m.s m.q m.t m.body
theorem packM_snoc {l : List Msg} {k : Nat} {m : Msg} (h : l[k]? = some m) : packM (l.take (k + 1)) = packM (l.take k) ++ packD m.s m.q m.t m.body := by
  unfold packM
  rw [List.take_add_one, h, List.flatMap_append]
  simp
theorem packM_le (l : List Msg) (h : ∀ m ∈ l, m.body.length ≤ 256) : (packM l).length ≤ 300 * l.length := by
  induction l with
  | nil => simp [packM]
  | cons x r ih =>
    have h1 := pack_le [x.s, x.q, x.t]
    have h2 := packB_le x.body
    have h3 := h x List.mem_cons_self
    have h4 := ih fun m hm => h m (List.mem_cons_of_mem _ hm)
    have e : packM (x :: r) = pack [x.s, x.q, x.t] ++ packB x.body ++ packM r := by simp [packM, packD]
    rw [e, List.length_append, List.length_append]
    simp only [List.length_cons, List.length_nil] at *
    omega
set_option maxRecDepth 100000 in
set_option maxHeartbeats 3200000 in
theorem part_7 {base gw B : Nat} {bs : List UInt8} {p : Pk} {D : PkD} {w : World} (hk1 : p.k = 7) (hk2 : forwardB p.g1 p.g2 p.g3 p.g4 D.msgs = true) (hW : Wt w base gw bs) (hgb : base ≤ gw) (hb0 : base ≤ w.heap.size) (hin : InAll w base B p D) (hn : bs.length ≤ 100000) :
    Calls Tryd.prog 40 #[.pointer (some ⟨gw, 0, none⟩), .agg p.cells] w (WtP w base gw (bs ++ (packI p.g1 p.g2 p.g3 p.g4 ++ pack [(p.mn : Int)] ++ packM D.msgs))) := by
  have hv : wholeB p.g1 p.g2 p.g3 p.g4 = true ∧ (∀ m ∈ D.msgs, msgB m = true) ∧ D.msgs.length ≤ 128 := by
    simp only [forwardB, Bool.and_eq_true, decide_eq_true_eq] at hk2
    obtain ⟨⟨⟨h1, h2⟩, _⟩, h4⟩ := hk2
    exact ⟨h2, rises_all h1, h4⟩
  have HV := Lib.hid hv
  have HIN := Lib.hid hin
  have HSN : Hid (D.msgs.length = p.mn) := Lib.hid (hin w (ChT.refl _ _ _)).rm.1
  have HBL : Hid (∀ m ∈ D.msgs, m.body.length ≤ 256) := Lib.hid fun m hm => by
    have h1 := ((hin w (ChT.refl _ _ _)).rm.2.1 m hm).rd.lenB
    have h2 := (msgB_bd (hv.2.1 m hm)).2.2.2
    omega
  have hmn : p.mn ≤ 128 := by have := HSN.out; have := hv.2.2; omega
  obtain ⟨wa, hwa⟩ : ∃ wa, wa = w.alloc (.cells p.cells 45) := ⟨_, rfl⟩
  have HA : Hid (Below w.heap.size w wa ∧ Blk wa w.heap.size 45 p.cells) := Lib.hid ⟨by rw [hwa]; exact one_box _ _, by rw [hwa]; exact Blk.new _ _ _⟩
  have HS0 : Hid (Wt wa base gw bs ∧ ChT wrTs base w wa ∧ base ≤ wa.heap.size ∧ Blk wa w.heap.size 45 p.cells ∧ bs.length ≤ 100000) := Lib.hid ⟨hW.below HA.out.1, ChT.of_below HA.out.1, Nat.le_trans hb0 HA.out.1.size, HA.out.2, hn⟩
  have HWA := Lib.hid hwa
  clear hwa hW hin hv hk2
  obtain ⟨mA, hmA⟩ : ∃ a, a = p.mA := ⟨_, rfl⟩
  have HMA := Lib.hid hmA
  clear hmA
  have c0 : wa.cell? ⟨w.heap.size, 0, none⟩ = some (.int .i64 7) := by rw [HA.out.2.cell]; exact congrArg (fun z => some (Value.int .i64 z)) hk1
  have c40 : wa.cell? ⟨w.heap.size, 40, none⟩ = some (.int .i64 p.g1) := HA.out.2.cell 40
  have c41 : wa.cell? ⟨w.heap.size, 41, none⟩ = some (.int .i64 p.g2) := HA.out.2.cell 41
  have c42 : wa.cell? ⟨w.heap.size, 42, none⟩ = some (.int .i64 p.g3) := HA.out.2.cell 42
  have c43 : wa.cell? ⟨w.heap.size, 43, none⟩ = some (.int .i64 p.g4) := HA.out.2.cell 43
  go_enter Tryd.func40, Tryd.ntmps40
  go_upto_region 1 with fail
  rw [← HWA.out]
  go_upto_region 32 with (first
    | (go_at_call 39; refine (counts_l (m := 1) (is := [(p.mn : Int)]) HS1.out.1 hgb HS1.out.2.2.1 rfl rfl (by have := HS1.out.2.2.2.2; omega) (by simp; omega)).mono ?_; rintro _ y1 ⟨rfl, hw1, hc1⟩; have hbk : Blk y1 w.heap.size 45 p.cells := HS1.out.2.2.2.1.cht hc1 (.inl (by decide)); have HS2 : Hid (Wt y1 base gw ((bs ++ packI p.g1 p.g2 p.g3 p.g4) ++ pack [(p.mn : Int)]) ∧ ChT wrTs base w y1 ∧ base ≤ y1.heap.size ∧ Blk y1 w.heap.size 45 p.cells ∧ ((bs ++ packI p.g1 p.g2 p.g3 p.g4) ++ pack [(p.mn : Int)]).length ≤ 100045) := Lib.hid ⟨hw1, HS1.out.2.1.trans hc1, Nat.le_trans HS1.out.2.2.1 (ChT.size hc1), hbk, pack_len (k := 1) HS1.out.2.2.2.2 (by simp)⟩; have f44 : y1.cell? ⟨w.heap.size, 44, none⟩ = some (.slice mA p.mn p.mc) := (by rw [hbk.cell, HMA.out]; rfl); clear hw1 hc1 hbk; go_simp)
    | (go_at_call 98; refine (id_w HS0.out.1 hgb HS0.out.2.2.1 (by have := HS0.out.2.2.2.2; omega) (.inl HV.out.1)).mono ?_; rintro _ y0 ⟨rfl, hw1, hc1⟩; have hbk : Blk y0 w.heap.size 45 p.cells := HS0.out.2.2.2.1.cht hc1 (.inl (by decide)); have HS1 : Hid (Wt y0 base gw (bs ++ packI p.g1 p.g2 p.g3 p.g4) ∧ ChT wrTs base w y0 ∧ base ≤ y0.heap.size ∧ Blk y0 w.heap.size 45 p.cells ∧ (bs ++ packI p.g1 p.g2 p.g3 p.g4).length ≤ 100036) := Lib.hid ⟨hw1, HS0.out.2.1.trans hc1, Nat.le_trans HS0.out.2.2.1 (ChT.size hc1), hbk, packI_len HS0.out.2.2.2.2⟩; have e44 : y0.cell? ⟨w.heap.size, 44, none⟩ = some (.slice mA p.mn p.mc) := (by rw [hbk.cell, HMA.out]; rfl); clear hw1 hc1 hbk; go_simp))
  go_wp2_with fail
  go_loopw [7, 156] (fun _ i wr => ∃ j : Nat, j ≤ p.mn ∧ i = .int .i64 (j : Int) ∧ Hid (Wt wr base gw (((bs ++ packI p.g1 p.g2 p.g3 p.g4) ++ pack [(p.mn : Int)]) ++ packM (D.msgs.take j)) ∧ ChT wrTs base w wr ∧ base ≤ wr.heap.size ∧ Blk wr w.heap.size 45 p.cells)) (fun _ i _ => p.mn - (intOf i).toNat)
  case atStart => exact ⟨0, by omega, rfl, Lib.hid ⟨by simpa [packM] using HS2.out.1, HS2.out.2.1, HS2.out.2.2.1, HS2.out.2.2.2.1⟩⟩
  case round =>
    obtain ⟨j, hj, rfl, HJ⟩ := hrel
    have HLN : Hid ((((bs ++ packI p.g1 p.g2 p.g3 p.g4) ++ pack [(p.mn : Int)]) ++ packM (D.msgs.take j)).length ≤ 140000) := Lib.hid (by
      have h1 := HS2.out.2.2.2.2
      have h2 := packM_le (D.msgs.take j) fun m hm => HBL.out m (List.mem_of_mem_take hm)
      have h3 : (D.msgs.take j).length ≤ j := by rw [List.length_take]; omega
      rw [List.length_append]
      omega)
    by_cases hlt : j < p.mn
    · have hI : (j : Int) < (p.mn : Int) := by omega
      obtain ⟨m, hx⟩ : ∃ m, D.msgs[j]? = some m := ⟨_, List.getElem?_eq_getElem (by rw [HSN.out]; exact hlt)⟩
      obtain ⟨b, off, he, hbl, hcl⟩ := (HIN.out wr HJ.out.2.1).rm.2.2 (by omega)
      obtain ⟨m0, m1, m2, m3⟩ := hcl j m hx
      have HX := Lib.hid hx
      have HMB := Lib.hid (msgB_bd (HV.out.2.1 m (List.mem_of_getElem? hx)))
      rw [← HMA.out] at he
      subst he
      obtain ⟨wd, hwd⟩ : ∃ y, y = wr.alloc (.cells #[.int .i64 m.s, .int .i64 m.q, .int .i64 m.t, .slice m.A m.n m.cap] 82) := ⟨_, rfl⟩
      have hbd : Below wr.heap.size wr wd := by rw [hwd]; exact one_box _ _
      have hBd : Blk wd wr.heap.size 82 #[.int .i64 m.s, .int .i64 m.q, .int .i64 m.t, .slice m.A m.n m.cap] := by rw [hwd]; exact Blk.new _ _ _
      have d0 : wd.cell? ⟨wr.heap.size, 0, none⟩ = some (.int .i64 m.s) := hBd.cell 0
      have d1 : wd.cell? ⟨wr.heap.size, 1, none⟩ = some (.int .i64 m.q) := hBd.cell 1
      have d2 : wd.cell? ⟨wr.heap.size, 2, none⟩ = some (.int .i64 m.t) := hBd.cell 2
      have d3 : wd.cell? ⟨wr.heap.size, 3, none⟩ = some (.slice m.A m.n m.cap) := hBd.cell 3
      have HWD := Lib.hid hwd
      have HBD := Lib.hid hbd
      have HCL := Lib.hid (data_w (cap := m.cap) (HJ.out.1.below hbd) hgb (Nat.le_trans HJ.out.2.2.1 hbd.size) (fun w1 hc => ((HIN.out w1 (HJ.out.2.1.trans ((ChT.of_below HBD.out).trans hc))).rm.2.1 m (List.mem_of_getElem? HX.out)).rd) (by have := HLN.out; have := HMB.out.2.2.2; omega) HMB.out.1 HMB.out.2.1 HMB.out.2.2.1)
      clear hx hcl hwd hbd hBd
      go_upto_block 4 with fail
      refine wp_block ?_
      go_upto_region 35 with fail
      rw [← HWD.out]
      go_wp2_with (go_at_call 100; refine HCL.out.mono ?_; rintro _ y2 ⟨rfl, hw2, hc2⟩; have H2 := Lib.hid (And.intro hw2 ((ChT.of_below HBD.out).trans hc2)); clear hw2 hc2; go_simp)
      go_roundw
      case rel =>
        refine ⟨j + 1, by omega, by go_num, Lib.hid ⟨?_, HJ.out.2.1.trans H2.out.2, Nat.le_trans HJ.out.2.2.1 (ChT.size H2.out.2), HJ.out.2.2.2.cht H2.out.2 (.inl (by decide))⟩⟩
        rw [packM_snoc HX.out, ← List.append_assoc]
        exact H2.out.1
      case measure => simp [intOf] <;> omega
    · obtain rfl : j = p.mn := by omega
      have hI : ¬ (p.mn : Int) < (p.mn : Int) := by omega
      have hD : decide ((p.mn : Int) < (p.mn : Int)) = false := by simp
      go_wp2_with fail
      go_end0
      refine ⟨rfl, ?_, HJ.out.2.1⟩
      have h := HJ.out.1
      rw [List.take_of_length_le (by rw [HSN.out]; exact Nat.le_refl _)] at h
      simpa only [List.append_assoc] using h
/-- The bytes of the kind's own part. -/
def partB (p : Pk) (D : PkD) : List UInt8 :=
  if p.k = 1 then pack [p.tk] ++ packL D.hears
  else if p.k = 2 then packL D.set ++ pack [p.cid, p.rev, p.top] ++ packI p.p1 p.p2 p.p3 p.p4 ++ packL D.vec
  else if p.k = 3 then packI p.f1 p.f2 p.f3 p.f4 ++ pack [p.base, (p.sn : Int)] ++ packS D.slots ++ packL D.got
  else if p.k = 4 then packI p.w1 p.w2 p.w3 p.w4 ++ pack [p.done, p.pfx]
  else if p.k = 5 then packI p.t1 p.t2 p.t3 p.t4 ++ pack [p.seq] ++ packB D.body
  else if p.k = 6 then packI p.a1 p.a2 p.a3 p.a4 ++ pack [p.upto]
  else if p.k = 7 then packI p.g1 p.g2 p.g3 p.g4 ++ pack [(p.mn : Int)] ++ packM D.msgs
  else []
theorem kindB_k {p : Pk} {D : PkD} (h : kindB p D = true) : p.k = 1 ∨ p.k = 2 ∨ p.k = 3 ∨ p.k = 4 ∨ p.k = 5 ∨ p.k = 6 ∨ p.k = 7 := by
  unfold kindB at h
  repeat (split at h; · simp_all)
  cases h
theorem part_any {base gw B : Nat} {bs : List UInt8} {p : Pk} {D : PkD} {w : World} (hk2 : kindB p D = true) (hW : Wt w base gw bs) (hgb : base ≤ gw) (hb0 : base ≤ w.heap.size) (hin : InAll w base B p D) (hBw : B ≤ w.heap.size) (hn : bs.length ≤ 100000) :
    Calls Tryd.prog 40 #[.pointer (some ⟨gw, 0, none⟩), .agg p.cells] w (WtP w base gw (bs ++ partB p D)) := by
  rcases kindB_k hk2 with hk | hk | hk | hk | hk | hk | hk
  · have e : partB p D = pack [p.tk] ++ packL D.hears := by simp [partB, hk]
    rw [e]
    exact part_1 hk (by simpa [kindB, hk] using hk2) hW hgb hb0 hin hn
  · have e : partB p D = packL D.set ++ pack [p.cid, p.rev, p.top] ++ packI p.p1 p.p2 p.p3 p.p4 ++ packL D.vec := by simp [partB, hk]
    rw [e]
    exact part_2 hk (by simpa [kindB, hk] using hk2) hW hgb hb0 hin hn
  · have e : partB p D = packI p.f1 p.f2 p.f3 p.f4 ++ pack [p.base, (p.sn : Int)] ++ packS D.slots ++ packL D.got := by simp [partB, hk]
    rw [e]
    exact part_3 hk (by simpa [kindB, hk] using hk2) hW hgb hb0 hin hBw hn
  · have e : partB p D = packI p.w1 p.w2 p.w3 p.w4 ++ pack [p.done, p.pfx] := by simp [partB, hk]
    rw [e]
    exact part_4 hk (by simpa [kindB, hk] using hk2) hW hgb hb0 hin hn
  · have e : partB p D = packI p.t1 p.t2 p.t3 p.t4 ++ pack [p.seq] ++ packB D.body := by simp [partB, hk]
    rw [e]
    exact part_5 hk (by simpa [kindB, hk] using hk2) hW hgb hb0 hin hn
  · have e : partB p D = packI p.a1 p.a2 p.a3 p.a4 ++ pack [p.upto] := by simp [partB, hk]
    rw [e]
    exact part_6 hk (by simpa [kindB, hk] using hk2) hW hgb hb0 hin hn
  · have e : partB p D = packI p.g1 p.g2 p.g3 p.g4 ++ pack [(p.mn : Int)] ++ packM D.msgs := by simp [partB, hk]
    rw [e]
    exact part_7 hk (by simpa [kindB, hk] using hk2) hW hgb hb0 hin hn
end Go.Proofs.YtffcepaegcllmaaDoor
