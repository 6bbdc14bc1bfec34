/-
  The reference's writer: a number, a view's ID behind the bytes so far.
-/
import Derived.Test.YtffcepaegcllmaaDoorWrE
namespace Go.Proofs.YtffcepaegcllmaaDoor
open Go.RowKit
/-- What a put gives back: the bytes, in memory from base on. -/
def BtP (w : World) (base : Nat) (bs : List UInt8) (e : Ending) (w' : World) : Prop := ∃ v, e = .returned v ∧ w'.ownsRow base 5 1 v bs.length (bvs bs) ∧ ChT [5] base w w'
theorem put_b {base : Nat} {v : Value} {bs : List UInt8} {x : Int} {w : World} (hown : w.ownsRow base 5 1 v bs.length (bvs bs)) (hb0 : base ≤ w.heap.size) (hn : bs.length ≤ 1000000) (hx : 0 ≤ x ∧ x ≤ 4611686018427387904) :
    Calls Tryd.prog 33 #[v, .int .i64 x] w (BtP w base (bs ++ pack [x])) := by
  obtain ⟨k, rfl⟩ : ∃ k : Nat, x = (k : Int) := ⟨x.toNat, by omega⟩
  have e : pack [(k : Int)] = putB k := by simp [pack]
  rw [e]
  refine (Rput_cht base v bs.length (bvs bs) k w hown hb0 (by omega) (by omega)).mono ?_
  rintro e w' ⟨v', rfl, ho, hc⟩
  exact ⟨v', rfl, by rw [List.length_append, bvs_append]; exact ho, hc⟩
theorem pack_cons (x : Int) (l : List Int) : pack (x :: l) = pack [x] ++ pack l := by simp [pack]
set_option maxRecDepth 100000 in
set_option maxHeartbeats 1600000 in
theorem putID_b {base : Nat} {v : Value} {bs : List UInt8} {e l i c : Int} {w : World} (hown : w.ownsRow base 5 1 v bs.length (bvs bs)) (hb0 : base ≤ w.heap.size) (hn : bs.length ≤ 900000) (hv : wholeB e l i c = true ∨ noneB e l i c = true) :
    Calls Tryd.prog 83 #[v, .agg #[.int .i64 e, .int .i64 l, .int .i64 i, .int .i64 c]] w (BtP w base (bs ++ packI e l i c)) := by
  obtain ⟨wa, hwa⟩ : ∃ wa, wa = w.alloc (.cells #[.int .i64 e, .int .i64 l, .int .i64 i, .int .i64 c] 28) := ⟨_, rfl⟩
  have HA : Hid (Below w.heap.size w wa ∧ base ≤ wa.heap.size ∧ ∀ W, ChT [5] base wa W → Blk W w.heap.size 28 #[.int .i64 e, .int .i64 l, .int .i64 i, .int .i64 c]) := Lib.hid ⟨by rw [hwa]; exact one_box _ _, by rw [hwa]; simp; omega, fun W hW => by
    have hB : Blk wa w.heap.size 28 #[.int .i64 e, .int .i64 l, .int .i64 i, .int .i64 c] := by rw [hwa]; exact Blk.new _ _ _
    exact hB.cht hW (.inl (by decide))⟩
  have HWA := Lib.hid hwa
  clear hwa
  have hoa := own_over hown HA.out.1
  have c0 : wa.cell? ⟨w.heap.size, 0, none⟩ = some (.int .i64 e) := (HA.out.2.2 wa (ChT.refl _ _ _)).cell 0
  cases hz : noneB e l i c with
  | true =>
    have HZ : Hid (packI e l i c = pack [e]) := Lib.hid (by
      have h := hz
      simp only [noneB, Bool.and_eq_true, decide_eq_true_eq] at h
      unfold packI
      rw [hz, h.1.1.1]
      rfl)
    simp only [noneB, Bool.and_eq_true, decide_eq_true_eq] at hz
    obtain ⟨⟨⟨rfl, rfl⟩, rfl⟩, rfl⟩ := hz
    have HP := Lib.hid (put_b (x := 0) hoa HA.out.2.1 (by omega) (by omega))
    clear hv hown hoa
    as_aux_lemma =>
      go_enter Tryd.func83, Tryd.ntmps83
      go_upto_region 1 with fail
      rw [← HWA.out]
      go_wp2_with (go_at_call 33; refine HP.out.mono ?_; rintro _ w1 ⟨v1, rfl, ho1, hc1⟩; have H1 := Lib.hid (And.intro ho1 hc1); have f0 : w1.cell? ⟨w.heap.size, 0, none⟩ = some (.int .i64 0) := (HA.out.2.2 w1 hc1).cell 0; clear ho1 hc1; go_simp)
      go_ret
      exact ⟨v1, rfl, by rw [HZ.out]; exact H1.out.1, (ChT.of_below HA.out.1).trans H1.out.2⟩
  | false =>
    have HZ : Hid (packI e l i c = pack [e] ++ pack [l] ++ pack [i] ++ pack [c]) := Lib.hid (by
      unfold packI
      rw [hz]
      simp [pack])
    have hw : wholeB e l i c = true := by
      rcases hv with h | h
      · exact h
      · rw [h] at hz; cases hz
    simp only [wholeB, cntB, Bool.and_eq_true, decide_eq_true_eq] at hw
    have hbl : ∀ (x : Int) (b : List UInt8), (b ++ pack [x]).length ≤ b.length + 9 := fun x b => by
      have h := pack_le [x]
      simp only [List.length_append, List.length_cons, List.length_nil] at h ⊢
      omega
    have HL := Lib.hid hbl
    have HWH := Lib.hid hw
    have HP := Lib.hid (put_b (x := e) hoa HA.out.2.1 (by omega) (by omega))
    have he : (e == 0) = false := by simp; omega
    clear hv hz hown hoa hbl hw
    as_aux_lemma =>
      go_enter Tryd.func83, Tryd.ntmps83
      go_upto_region 1 with fail
      rw [← HWA.out]
      go_wp2_with (go_at_call 33; first
        | (refine (put_b (x := c) H3.out.1 H3.out.2.2.1 (by have h1 := HL.out e bs; have h2 := HL.out l (bs ++ pack [e]); have h3 := HL.out i (bs ++ pack [e] ++ pack [l]); omega) (by have := HWH.out; omega)).mono ?_; rintro _ w4 ⟨v4, rfl, ho, hc⟩; have H4 := Lib.hid (And.intro ho (H3.out.2.1.trans hc)); clear ho hc; go_simp)
        | (refine (put_b (x := i) H2.out.1 H2.out.2.2.1 (by have h1 := HL.out e bs; have h2 := HL.out l (bs ++ pack [e]); omega) (by have := HWH.out; omega)).mono ?_; rintro _ w3 ⟨v3, rfl, ho, hc⟩; have H3 := Lib.hid (And.intro ho (And.intro (H2.out.2.1.trans hc) (And.intro (Nat.le_trans H2.out.2.2.1 (ChT.size hc)) trivial))); have h0 := HA.out.2.2 w3 H3.out.2.1; have f3 := h0.cell 3; clear ho hc h0; go_simp)
        | (refine (put_b (x := l) H1.out.1 H1.out.2.2.1 (by have h1 := HL.out e bs; omega) (by have := HWH.out; omega)).mono ?_; rintro _ w2 ⟨v2, rfl, ho, hc⟩; have H2 := Lib.hid (And.intro ho (And.intro (H1.out.2.1.trans hc) (And.intro (Nat.le_trans H1.out.2.2.1 (ChT.size hc)) trivial))); have h0 := HA.out.2.2 w2 H2.out.2.1; have e2 : w2.cell? ⟨w.heap.size, 2, none⟩ = some (.int .i64 i) := h0.cell 2; clear ho hc h0; go_simp)
        | (refine HP.out.mono ?_; rintro _ w1 ⟨v1, rfl, ho, hc⟩; have H1 := Lib.hid (And.intro ho (And.intro hc (And.intro (Nat.le_trans HA.out.2.1 (ChT.size hc)) trivial))); have h0 := HA.out.2.2 w1 hc; have d0 : w1.cell? ⟨w.heap.size, 0, none⟩ = some (.int .i64 e) := h0.cell 0; have d1 : w1.cell? ⟨w.heap.size, 1, none⟩ = some (.int .i64 l) := h0.cell 1; clear ho hc h0; go_simp))
      go_ret
      exact ⟨v4, rfl, by rw [HZ.out]; simpa only [List.append_assoc] using H4.out.1, (ChT.of_below HA.out.1).trans H4.out.2⟩
set_option maxRecDepth 100000 in
set_option maxHeartbeats 1600000 in
theorem putList_b {base B m cap : Nat} {A : Option Addr} {v : Value} {bs : List UInt8} {is : List Int} {w : World} (hown : w.ownsRow base 5 1 v bs.length (bvs bs)) (hb0 : base ≤ w.heap.size) (hr : ∀ w1, ChT [5] base w w1 → RdI w1 B A m is) (hm : m ≤ 1000) (hn : bs.length ≤ 900000) (his : ∀ x ∈ is, 0 ≤ x ∧ x ≤ 4611686018427387904) :
    Calls Tryd.prog 82 #[v, .slice A m cap] w (BtP w base (bs ++ packL is)) := by
  have HR := Lib.hid hr
  have HLI : Hid (is.length = m) := Lib.hid (hr w (ChT.refl _ _ _)).lenI
  have HIS := Lib.hid his
  have HP := Lib.hid (put_b (x := (m : Int)) hown hb0 (by omega) (by omega))
  have HSZ := Lib.hid hb0
  clear hr his hown hb0
  go_enter Tryd.func82, Tryd.ntmps82
  go_upto_region 2 with (go_at_call 33; refine HP.out.mono ?_; rintro _ w1 ⟨v1, rfl, ho, hc⟩; have H1 := Lib.hid (And.intro ho hc); clear ho hc; go_simp)
  go_wp2_with fail
  go_loopw [0, 5] (fun u i wr => ∃ k : Nat, k ≤ m ∧ i = .int .i64 (k : Int) ∧ Hid (wr.ownsRow base 5 1 u (bs ++ pack [(m : Int)] ++ pack (is.take k)).length (bvs (bs ++ pack [(m : Int)] ++ pack (is.take k))) ∧ ChT [5] base w wr)) (fun _ i _ => m - (intOf i).toNat)
  case atStart => exact ⟨0, by omega, rfl, Lib.hid ⟨by simpa [pack] using H1.out.1, H1.out.2⟩⟩
  case round =>
    obtain ⟨k, hk, rfl, HJ⟩ := hrel
    have HB : Hid ((bs ++ pack [(m : Int)] ++ pack (is.take k)).length ≤ 950000) := Lib.hid (by
      have h1 := pack_le [(m : Int)]
      have h2 := pack_le (is.take k)
      have h3 : (is.take k).length ≤ k := by rw [List.length_take]; omega
      simp only [List.length_append, List.length_cons, List.length_nil] at *
      omega)
    by_cases hlt : k < m
    · have hI : (k : Int) < (m : Int) := by omega
      obtain ⟨b, off, x, rfl, hb, hck, hcell⟩ := (HR.out _ HJ.out.2).int hlt
      have HX := Lib.hid hck
      have HPK := Lib.hid (put_b (x := x) HJ.out.1 (Nat.le_trans HSZ.out (ChT.size HJ.out.2)) (by have := HB.out; omega) (HIS.out x (List.mem_of_getElem? hck)))
      clear hck
      go_wp2_with (go_at_call 33; refine HPK.out.mono ?_; rintro _ w3 ⟨v3, rfl, ho, hc⟩; have H3 := Lib.hid (And.intro ho hc); clear ho hc; go_simp)
      go_roundw
      case rel =>
        refine ⟨k + 1, by omega, by go_num, Lib.hid ⟨?_, HJ.out.2.trans H3.out.2⟩⟩
        have e : pack (is.take (k + 1)) = pack (is.take k) ++ pack [x] := by
          rw [pack_snoc HX.out]
          simp [pack]
        rw [e, ← List.append_assoc]
        exact H3.out.1
      case measure => simp [intOf] <;> omega
    · obtain rfl : k = m := by omega
      have hI : ¬ (k : Int) < (k : Int) := by omega
      have hD : decide ((k : Int) < (k : Int)) = false := by simp
      go_wp2_with fail
      go_ret
      refine ⟨_, rfl, ?_, HJ.out.2⟩
      have h := HJ.out.1
      rw [List.take_of_length_le (by rw [HLI.out]; exact Nat.le_refl _)] at h
      unfold packL
      rw [HLI.out, ← List.append_assoc]
      exact h
end Go.Proofs.YtffcepaegcllmaaDoor
