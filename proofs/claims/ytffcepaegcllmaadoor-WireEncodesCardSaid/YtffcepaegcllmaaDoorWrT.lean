/-
  The reference's Sealed and Encode.
-/
import Derived.Test.YtffcepaegcllmaaDoorWrS
import Derived.Test.YtffcepaegcllmaaDoorPackR
namespace Go.Proofs.YtffcepaegcllmaaDoor
open Go.RowKit
def tailS : Nat → Nat → List UInt8
  | 0, _ => []
  | m + 1, y => UInt8.ofNat (y % 256) :: tailS m (y / 256)
theorem le4_tail (n : Nat) : le4 n = tailS 4 n := by simp [le4, tailS, Nat.div_div_eq_div_mul]
theorem byte_int (y : Nat) : ((UInt8.ofNat (y % 256)).toNat : Int) = (y : Int) % 256 := by
  rw [ofNat_int _ (by omega)]
  omega
set_option maxRecDepth 100000 in
set_option maxHeartbeats 1600000 in
theorem Sealed_b {base : Nat} {v : Value} {bs : List UInt8} {w : World} (hown : w.ownsRow base 5 1 v bs.length (bvs bs)) (hb0 : base ≤ w.heap.size) (hn : bs.length ≤ 1000000) :
    Calls Tryd.prog 35 #[v] w (BtP w base (bs ++ le4 (Crc.crc bs))) := by
  obtain ⟨i0, hi0, hz0, hz1, hz2⟩ := info_parts info_u8
  obtain ⟨Ab, cb, rfl, hcb, hcm⟩ := own_shape hown
  have HO := Lib.hid hown
  have HSM := Lib.hid (RSum_any Ab bs.length cb w.heap.size bs w (Rd.of_own hown) (by omega))
  have hcl := Crc.crc_lt bs
  obtain ⟨c, hc⟩ : ∃ c, c = Crc.crc bs := ⟨_, rfl⟩
  rw [← hc] at HSM hcl ⊢
  clear hc hown
  go_enter Tryd.func35, Tryd.ntmps35
  go_wp2_with (go_at_call 86; refine HSM.out.mono ?_; rintro _ _ ⟨rfl, rfl⟩; go_simp)
  go_loopw [0, 3, 4] (fun u s i wr => ∃ (k y : Nat) (done : List UInt8), s = .int .i64 (y : Int) ∧ i = .int .i64 (k : Int) ∧ k ≤ 4 ∧ y < 4294967296 ∧ Hid (done.length = k ∧ le4 c = done ++ tailS (4 - k) y ∧ wr.ownsRow base 5 1 u (bs ++ done).length (bvs (bs ++ done)) ∧ ChT [5] base w wr)) (fun _ _ i _ => 4 - (intOf i).toNat)
  case atStart => exact ⟨0, c, [], rfl, rfl, by omega, hcl, Lib.hid ⟨rfl, le4_tail c, by simpa using HO.out, ChT.refl _ _ _⟩⟩
  case round =>
    obtain ⟨k, y, done, rfl, rfl, hk, hy, HJ⟩ := hrel
    by_cases hlt : k < 4
    · have hI : (k : Int) < 4 := by omega
      have HT : Hid (le4 c = (done ++ [UInt8.ofNat (y % 256)]) ++ tailS (4 - (k + 1)) (y / 256)) := Lib.hid (by
        have h := HJ.out.2.1
        rw [show 4 - k = (4 - (k + 1)) + 1 from by omega] at h
        rw [h, List.append_assoc]
        rfl)
      have HL : Hid ((bs ++ done).length ≤ 1000004 ∧ base ≤ wr.heap.size) := Lib.hid ⟨by have := HJ.out.1; rw [List.length_append]; omega, Nat.le_trans hb0 (ChT.size HJ.out.2.2.2)⟩
      go_wp2_with (at_builtin; (refine app1 wr (by rfl) _ _ 36 (by rfl) base 5 i0 _ 1 u_bytes hi0 hz0 hz1 hz2 rfl _ _ _ (by rfl) HJ.out.2.2.1 _ (by rfl) (by rfl) (by have := HL.out.1; simp only [maxLen]; omega) (by have := HL.out.1; omega) HL.out.2 ?_; intro v2 w2 ho2 _ hg2; have H2 := Lib.hid (And.intro ho2 hg2); clear ho2 hg2))
      go_roundw
      case rel =>
        refine ⟨k + 1, y / 256, done ++ [UInt8.ofNat (y % 256)], by go_num, by go_num, by omega, by omega, Lib.hid ⟨by rw [List.length_append, HJ.out.1]; rfl, HT.out, ?_, ChT.trans HJ.out.2.2.2 (ChT.app HJ.out.2.2.1 H2.out.2 (by simp))⟩⟩
        have h := H2.out.1
        rw [← List.append_assoc, bvs_append (bs ++ done), bvs_sing, byte_int, @List.length_append _ (bs ++ done)]
        first | exact h | (have e : (y : Int) % 256 % 256 = (y : Int) % 256 := by omega
                           rw [e] at h; exact h)
      case measure => simp [intOf] <;> omega
    · obtain rfl : k = 4 := by omega
      go_wp2_with fail
      go_ret
      refine ⟨_, rfl, ?_, HJ.out.2.2.2⟩
      have h := HJ.out.2.2.1
      have e : le4 c = done := by
        have h1 := HJ.out.2.1
        simpa [tailS] using h1
      rw [e]
      exact h
theorem InR.of_below {w w1 : World} {B base : Nat} {p : Pk} {D : PkD} (h : PkIn w B p D) (hb : Below B w w1) (hB : B ≤ base) (hb0 : base ≤ w1.heap.size) : InR w1 base B p D :=
  fun _ hc => (h.below hb).below ((hc.below hb0).mono hB)
theorem list_body (p : Pk) (_D : PkD) (bs : List UInt8) : bs ++ pack [p.s] ++ pack [p.si] ++ pack [p.d] ++ pack [p.di] = bs ++ pack [p.s, p.si, p.d, p.di] := by simp [pack]
set_option maxRecDepth 100000 in
set_option maxHeartbeats 6400000 in
theorem REncode_p (p : Pk) (D : PkD) (w : World) (hin : PkIn w w.heap.size p D) (hle : PkLe p) (hv : validB p D = true) :
    Calls Tryd.prog 8 #[.agg p.cells] w fun e w' => ∃ v, e = .returned (.tuple #[v, .int .i64 0]) ∧ w'.ownsRow w.heap.size 5 1 v (encB p D).length (bvs (encB p D)) ∧ Below w.heap.size w w' := by
  have HV0 : Hid (headB p.k p.s p.si p.d p.di = true ∧ kindB p D = true) := Lib.hid (by
    unfold validB at hv
    simp only [Bool.and_eq_true] at hv
    exact ⟨hv.1.1, hv.2⟩)
  have HIN : Hid (∀ W, Below w.heap.size w W → PkIn W w.heap.size p D) := Lib.hid fun W hW => hin.below hW
  obtain ⟨w0, hw0⟩ : ∃ x, x = w.alloc (.cells p.cells 45) := ⟨_, rfl⟩
  have HB : Hid (Blk w0 w.heap.size 45 p.cells) := Lib.hid (by rw [hw0]; exact Blk.new _ _ _)
  have HBW : Hid (Below w.heap.size w w0) := Lib.hid (by rw [hw0]; exact one_box _ _)
  have HVA := Good_any p D w0 (hin.over HBW.out) hle
  rw [hv] at HVA
  have HV := Lib.hid HVA
  clear HVA hin hv
  have HW0 := Lib.hid hw0
  clear hw0
  have hBL : (bodyB p D).length ≤ 100000 := body_le HV0.out.2 (HIN.out w (Below.refl _ _))
  have HBL := Lib.hid hBL
  clear hBL
  go_enter Tryd.func8, Tryd.ntmps8
  go_upto_region 1 with fail
  rw [← HW0.out]
  go_cut [7] from 5 to 38 (fun t wc => t = .bool false ∧ Hid (Below w0.heap.size w0 wc))
  case first =>
    as_aux_lemma =>
      go_wp2_with (first | (refine wpList_load_on (by rfl) 45 _ (by rfl) w.heap.size (by rfl) 45 p.cells (0, 0) _ HB.out Tryd.underlying45 rfl (by kernel_rfl) ?_; simp only [Act.put, List.setIfInBounds_toArray, List.set_cons_zero, List.set_cons_succ]) | (go_at_call 32; refine HV.out.mono ?_; rintro _ w1 ⟨rfl, hb1⟩; have H1 := Lib.hid hb1; clear hb1; go_simp))
      go_meet
      exact ⟨rfl, H1⟩
  case rest =>
    obtain ⟨rfl, HC⟩ := hcut
    apply_assumption
    rename World => wc
    have HBc := Lib.hid (HB.out.over HC.out)
    have HWc := Lib.hid (Below.then HBW.out HC.out)
    have HD := Lib.hid (head_bd HV0.out.1)
    have hkw : IntKind.u8.wrap p.k = p.k := by have := HD.out.1; rw [IntKind.wrap_u8]; omega
    have c0 : wc.cell? ⟨w.heap.size, 0, none⟩ = some (.int .i64 p.k) := HBc.out.cell 0
    go_upto_region 4 with fail
    obtain ⟨wl, hwl⟩ : ∃ x, x = wc.alloc (.cells #[.int .u8 81, .int .u8 86, .int .u8 1, .int .u8 p.k] 5) := ⟨_, rfl⟩
    rw [← hwl]
    have hbs : bvs [0x51, 0x56, 1, UInt8.ofNat p.k.toNat] = [.int .u8 81, .int .u8 86, .int .u8 1, .int .u8 p.k] := by
      have h := HD.out.1
      simp [bvs]
      omega
    have HS0 : Hid (wl.ownsRow wc.heap.size 5 1 (.slice (some ⟨wc.heap.size, 0, none⟩) 4 4) ([0x51, 0x56, 1, UInt8.ofNat p.k.toNat] : List UInt8).length (bvs [0x51, 0x56, 1, UInt8.ofNat p.k.toNat]) ∧ Below wc.heap.size wc wl ∧ wc.heap.size ≤ wl.heap.size ∧ Blk wl w.heap.size 45 p.cells) := Lib.hid ⟨by
        rw [hbs, hwl]
        exact ⟨by simp, .inr ⟨wc.heap.size, 4, _, rfl, Nat.le_refl _, heap_alloc_new wc _, by simp, by simp [maxLen], by simp, by simp⟩⟩, by rw [hwl]; exact one_box _ _, by rw [hwl]; simp, by rw [hwl]; exact HBc.out.alloc _⟩
    obtain ⟨hd, hhd⟩ : ∃ x : List UInt8, x = [0x51, 0x56, 1, UInt8.ofNat p.k.toNat] := ⟨_, rfl⟩
    rw [← hhd] at HS0
    have HHD := Lib.hid hhd
    have hl4 : hd.length = 4 := by rw [hhd]; rfl
    clear c0 hkw hwl hbs hhd
    have HIA : Hid (∀ W, ChT [5] wc.heap.size wl W → PkIn W w.heap.size p D ∧ Blk W w.heap.size 45 p.cells) := Lib.hid fun W hW => ⟨HIN.out W ((HWc.out.trans (HS0.out.2.1.mono HWc.out.size)).trans ((hW.below HS0.out.2.2.1).mono HWc.out.size)), HS0.out.2.2.2.cht hW (.inl (by decide))⟩
    have c1 : wl.cell? ⟨w.heap.size, 1, none⟩ = some (.int .i64 p.s) := HS0.out.2.2.2.cell 1
    go_upto_region 8 with (first
      | (go_at_call 33; refine (put_b (x := p.di) H3.out.1 H3.out.2.2.1 (by have := H3.out.2.2.2; omega) (by have := HD.out; omega)).mono ?_; rintro _ y4 ⟨v4, rfl, ho1, hc1⟩; have H4 := Lib.hid (And.intro ho1 (And.intro (H3.out.2.1.trans hc1) (And.intro (Nat.le_trans H3.out.2.2.1 (ChT.size hc1)) (pack_len (k := 1) (is := [p.di]) H3.out.2.2.2 (by simp))))); clear ho1 hc1; go_simp)
      | (go_at_call 33; refine (put_b (x := p.d) H2.out.1 H2.out.2.2.1 (by have := H2.out.2.2.2; omega) (by have := HD.out; omega)).mono ?_; rintro _ y3 ⟨v3, rfl, ho1, hc1⟩; have H3 := Lib.hid (And.intro ho1 (And.intro (H2.out.2.1.trans hc1) (And.intro (Nat.le_trans H2.out.2.2.1 (ChT.size hc1)) (pack_len (k := 1) (is := [p.d]) H2.out.2.2.2 (by simp))))); have f4 : y3.cell? ⟨w.heap.size, 4, none⟩ = some (.int .i64 p.di) := (HIA.out y3 H3.out.2.1).2.cell 4; clear ho1 hc1; go_simp)
      | (go_at_call 33; refine (put_b (x := p.si) H1.out.1 H1.out.2.2.1 (by have := H1.out.2.2.2; omega) (by have := HD.out; omega)).mono ?_; rintro _ y2 ⟨v2, rfl, ho1, hc1⟩; have H2 := Lib.hid (And.intro ho1 (And.intro (H1.out.2.1.trans hc1) (And.intro (Nat.le_trans H1.out.2.2.1 (ChT.size hc1)) (pack_len (k := 1) (is := [p.si]) H1.out.2.2.2 (by simp))))); have f3 : y2.cell? ⟨w.heap.size, 3, none⟩ = some (.int .i64 p.d) := (HIA.out y2 H2.out.2.1).2.cell 3; clear ho1 hc1; go_simp)
      | (go_at_call 33; refine (put_b (x := p.s) HS0.out.1 HS0.out.2.2.1 (by omega) (by have := HD.out; omega)).mono ?_; rintro _ y1 ⟨v1, rfl, ho1, hc1⟩; have H1 := Lib.hid (And.intro ho1 (And.intro hc1 (And.intro (Nat.le_trans HS0.out.2.2.1 (ChT.size hc1)) (pack_len (k := 1) (is := [p.s]) (Nat.le_of_eq hl4) (by simp))))); have f2 : y1.cell? ⟨w.heap.size, 2, none⟩ = some (.int .i64 p.si) := (HIA.out y1 H1.out.2.1).2.cell 2; clear ho1 hc1; go_simp))
    have HB5 := Lib.hid (HIA.out y4 H4.out.2.1).2
    have HPA := Lib.hid (rpart_any (B := w.heap.size) HV0.out.2 H4.out.1 H4.out.2.2.1 (fun w1 hc => (HIA.out w1 (H4.out.2.1.trans hc)).1) (by have := H4.out.2.2.2; omega))
    clear hl4
    go_cut [4] from 34 to 38 (fun u wd => Hid (wd.ownsRow wc.heap.size 5 1 u (bodyB p D).length (bvs (bodyB p D)) ∧ ChT [5] wc.heap.size wl wd))
    case first =>
      as_aux_lemma =>
        go_wp2_with (first | (refine wpList_load_on (by rfl) 45 _ (by rfl) w.heap.size (by rfl) 45 p.cells (0, 0) _ HB5.out Tryd.underlying45 rfl (by kernel_rfl) ?_; simp only [Act.put, List.setIfInBounds_toArray, List.set_cons_zero, List.set_cons_succ]) | (go_at_call 34; refine HPA.out.mono ?_; rintro _ y5 ⟨v5, rfl, ho1, hc1⟩; have H5 := Lib.hid (And.intro ho1 (H4.out.2.1.trans hc1)); clear ho1 hc1; go_simp))
        go_meet
        have h := H5.out
        rw [list_body p D, HHD.out] at h
        exact Lib.hid h
    case rest =>
      have H5 := hcut
      clear hcut HPA HB5
      apply_assumption
      rename World => y5
      have HSL := Lib.hid (Sealed_b H5.out.1 (Nat.le_trans HS0.out.2.2.1 (ChT.size H5.out.2)) (by have := HBL.out; omega))
      go_wp2_with (go_at_call 35; refine HSL.out.mono ?_; rintro _ y6 ⟨v6, rfl, ho1, hc1⟩; have H6 := Lib.hid (And.intro ho1 (H5.out.2.trans hc1)); clear ho1 hc1; go_simp)
      go_ret2
      refine ⟨v6, rfl, own_base H6.out.1 HWc.out.size, (HWc.out.trans (HS0.out.2.1.mono HWc.out.size)).trans ((H6.out.2.below HS0.out.2.2.1).mono HWc.out.size)⟩
set_option maxRecDepth 100000 in
set_option maxHeartbeats 3200000 in
theorem REncode_no (p : Pk) (D : PkD) (w : World) (hin : PkIn w w.heap.size p D) (hle : PkLe p) (hv : validB p D = false) :
    Calls Tryd.prog 8 #[.agg p.cells] w fun e w' => e = .returned (.tuple #[.slice none 0 0, .int .i64 16]) ∧ Below w.heap.size w w' := by
  obtain ⟨w0, hw0⟩ : ∃ x, x = w.alloc (.cells p.cells 45) := ⟨_, rfl⟩
  have HB : Hid (Blk w0 w.heap.size 45 p.cells) := Lib.hid (by rw [hw0]; exact Blk.new _ _ _)
  have HBW : Hid (Below w.heap.size w w0) := Lib.hid (by rw [hw0]; exact one_box _ _)
  have HVA := Good_any p D w0 (hin.over HBW.out) hle
  rw [hv] at HVA
  have HV := Lib.hid HVA
  clear HVA hin hv
  have HW0 := Lib.hid hw0
  clear hw0
  go_enter Tryd.func8, Tryd.ntmps8
  go_upto_region 1 with fail
  rw [← HW0.out]
  go_wp2_with (first | (refine wpList_load_on (by rfl) 45 _ (by rfl) w.heap.size (by rfl) 45 p.cells (0, 0) _ HB.out Tryd.underlying45 rfl (by kernel_rfl) ?_; simp only [Act.put, List.setIfInBounds_toArray, List.set_cons_zero, List.set_cons_succ]) | (go_at_call 32; refine HV.out.mono ?_; rintro _ w1 ⟨rfl, hb1⟩; have H1 := Lib.hid hb1; clear hb1; go_simp))
  go_ret2
  exact ⟨rfl, Below.then HBW.out H1.out⟩
/-- What either Encode answers: the text of a valid packet, nothing for another. -/
def EncP (p : Pk) (D : PkD) (w : World) (e : Ending) (w' : World) : Prop := ∃ v, e = .returned (.tuple #[v, .int .i64 (codeB (validB p D))]) ∧ w'.ownsRow w.heap.size 5 1 v (bif validB p D then encB p D else []).length (bvs (bif validB p D then encB p D else [])) ∧ Below w.heap.size w w'
theorem own_nil {w : World} {base : Nat} : w.ownsRow base 5 1 (.slice none 0 0) ([] : List UInt8).length (bvs []) := ⟨rfl, .inl ⟨rfl, rfl⟩⟩
theorem Encode_any (p : Pk) (D : PkD) (w : World) (hin : PkIn w w.heap.size p D) (hle : PkLe p) (ht : Nibs w) : Calls Tryd.prog 11 #[.agg p.cells] w (EncP p D w) := by
  unfold EncP
  cases hv : validB p D with
  | true => exact Encode_p p D w hin hle ht hv
  | false =>
    refine (Encode_no p D w hin hle hv).mono ?_
    rintro _ w' ⟨rfl, hb⟩
    exact ⟨_, rfl, own_nil, hb⟩
theorem REncode_any (p : Pk) (D : PkD) (w : World) (hin : PkIn w w.heap.size p D) (hle : PkLe p) : Calls Tryd.prog 8 #[.agg p.cells] w (EncP p D w) := by
  unfold EncP
  cases hv : validB p D with
  | true => exact REncode_p p D w hin hle hv
  | false =>
    refine (REncode_no p D w hin hle hv).mono ?_
    rintro _ w' ⟨rfl, hb⟩
    exact ⟨_, rfl, own_nil, hb⟩
end Go.Proofs.YtffcepaegcllmaaDoor
