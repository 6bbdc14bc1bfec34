/-
  The program's writer: a list, a view's ID; the bytes so far and what a call puts behind them.
-/
import Derived.Test.YtffcepaegcllmaaDoorEnc
import Derived.Test.YtffcepaegcllmaaDoorPackV
import Derived.Deep.CutBlock
namespace Go.Proofs.YtffcepaegcllmaaDoor
open Go.RowKit
/-- The writer at gw holds the bytes bs, in memory from base on. -/
def Wt (w : World) (base gw : Nat) (bs : List UInt8) : Prop := ∃ bv, Blk w gw 85 #[bv] ∧ w.ownsRow base 5 1 bv bs.length (bvs bs)
def WtP (w : World) (base gw : Nat) (bs : List UInt8) (e : Ending) (w' : World) : Prop := e = .returned (.tuple #[]) ∧ Wt w' base gw bs ∧ ChT wrTs base w w'
theorem Wt.below {w w' : World} {base gw : Nat} {bs : List UInt8} (h : Wt w base gw bs) (hb : Below w.heap.size w w') : Wt w' base gw bs := by
  obtain ⟨bv, hB, ho⟩ := h
  exact ⟨bv, hB.over hb, own_over ho hb⟩
theorem counts_w {base gw : Nat} {bs : List UInt8} {A : Option Addr} {m cap B : Nat} {is : List Int} {w : World} (hW : Wt w base gw bs) (hgb : base ≤ gw) (hb0 : base ≤ w.heap.size)
    (hr : ∀ w1, ChT wrTs base w w1 → RdI w1 B A m is) (hn : bs.length + 9 * m + 9 ≤ 140737488355328) (his : ∀ x ∈ is, 0 ≤ x ∧ x ≤ 4611686018427387904) :
    Calls Tryd.prog 39 #[.pointer (some ⟨gw, 0, none⟩), .slice A m cap] w (WtP w base gw (bs ++ pack is)) := by
  obtain ⟨bv, hB, ho⟩ := hW
  refine (counts_any base gw bv bs.length (bvs bs) A m cap B is w hB hgb ho hb0 hr hn his).mono ?_
  rintro e w' ⟨rfl, bv', hB', ho', hc⟩
  exact ⟨rfl, ⟨bv', hB', by rw [List.length_append, bvs_append]; exact ho'⟩, hc⟩
theorem text_w {base gw : Nat} {bs : List UInt8} {A : Option Addr} {m cap B : Nat} {t : List UInt8} {w : World} (hW : Wt w base gw bs) (hgb : base ≤ gw) (hb0 : base ≤ w.heap.size)
    (hr : ∀ w1, ChT wrTs base w w1 → RdB w1 B A m t) (hn : bs.length + m + 100 ≤ 140737488355328) :
    Calls Tryd.prog 99 #[.pointer (some ⟨gw, 0, none⟩), .slice A m cap] w (WtP w base gw (bs ++ packB t)) := by
  obtain ⟨bv, hB, ho⟩ := hW
  refine (text_any base gw bv bs.length (bvs bs) A m cap B t w hB hgb ho hb0 hr (by omega)).mono ?_
  rintro e w' ⟨rfl, bv', hB', ho', hc⟩
  exact ⟨rfl, ⟨bv', hB', by rw [List.length_append, bvs_append]; exact ho'⟩, hc⟩
def packL (l : List Int) : List UInt8 := pack [(l.length : Int)] ++ pack l
def packI (e l i c : Int) : List UInt8 := if noneB e l i c then pack [0] else pack [e, l, i, c]
set_option maxRecDepth 100000 in
set_option maxHeartbeats 1600000 in
theorem list_w {base gw : Nat} {bs : List UInt8} {A : Option Addr} {m cap B : Nat} {is : List Int} {w : World} (hW : Wt w base gw bs) (hgb : base ≤ gw) (hb0 : base ≤ w.heap.size)
    (hr : ∀ w1, ChT wrTs base w w1 → RdI w1 B A m is) (hn : bs.length + 9 * m + 100 ≤ 140737488355328) (his : ∀ x ∈ is, 0 ≤ x ∧ x ≤ 4611686018427387904) :
    Calls Tryd.prog 97 #[.pointer (some ⟨gw, 0, none⟩), .slice A m cap] w (WtP w base gw (bs ++ packL is)) := by
  have HW := Lib.hid hW
  have HR := Lib.hid hr
  have hli : is.length = m := (hr w (ChT.refl _ _ _)).lenI
  have HLI := Lib.hid hli
  have HIS := Lib.hid his
  clear hW hr hli his
  have hal := one_box w (.cells #[.int .i64 (m : Int)] 3)
  obtain ⟨wb, hwb⟩ : ∃ wb, wb = w.alloc (.cells #[.int .i64 (m : Int)] 3) := ⟨_, rfl⟩
  have HB : Hid (Below w.heap.size w wb ∧ ∀ w1, ChT wrTs base wb w1 → RdI w1 (w.heap.size + 1) (some ⟨w.heap.size, 0, none⟩) 1 [(m : Int)]) := Lib.hid ⟨by rw [hwb]; exact hal, fun w1 hc => by rw [hwb] at hc; exact built_rd (is := [(m : Int)]) hc rfl rfl rfl⟩
  have HWB := Lib.hid hwb
  clear hal hwb
  have HC1 := Lib.hid (counts_w (cap := 1) (HW.out.below HB.out.1) hgb (Nat.le_trans hb0 HB.out.1.size) HB.out.2 (by omega) (by simp; omega))
  have hp := pack_le [(m : Int)]
  have HP : Hid ((bs ++ pack [(m : Int)]).length ≤ bs.length + 9) := Lib.hid (by rw [List.length_append]; simp only [List.length_cons, List.length_nil] at hp; omega)
  clear hp
  go_enter Tryd.func97, Tryd.ntmps97
  go_wp2_with (first
    | (rw [← HWB.out]; go_at_call 39; refine HC1.out.mono ?_; rintro _ w2 ⟨rfl, hw2, hc2⟩; have H2 := Lib.hid (And.intro hw2 ((ChT.of_below HB.out.1).trans hc2)); clear hw2 hc2; have HC2 := Lib.hid (counts_w (cap := cap) H2.out.1 hgb (Nat.le_trans hb0 (ChT.size H2.out.2)) (fun w1 hc => HR.out w1 (H2.out.2.trans hc)) (by have := HP.out; omega) HIS.out); go_simp)
    | (go_at_call 39; refine HC2.out.mono ?_; rintro _ w3 ⟨rfl, hw3, hc3⟩; have H3 := Lib.hid (And.intro hw3 hc3); clear hw3 hc3; go_simp))
  go_end0
  refine ⟨rfl, ?_, H2.out.2.trans H3.out.2⟩
  unfold packL
  rw [HLI.out, ← List.append_assoc]
  exact H3.out.1
theorem none_not {e l i c : Int} (h : noneB e l i c = false) : ¬ (e = 0 ∧ l = 0 ∧ i = 0 ∧ c = 0) := fun ⟨a, b, d, f⟩ => by
  rw [a, b, d, f] at h
  cases h
set_option maxRecDepth 100000 in
set_option maxHeartbeats 1600000 in
theorem id_w {base gw : Nat} {bs : List UInt8} {e l i c : Int} {w : World} (hW : Wt w base gw bs) (hgb : base ≤ gw) (hb0 : base ≤ w.heap.size) (hn : bs.length + 200 ≤ 140737488355328) (hv : wholeB e l i c = true ∨ noneB e l i c = true) :
    Calls Tryd.prog 98 #[.pointer (some ⟨gw, 0, none⟩), .agg #[.int .i64 e, .int .i64 l, .int .i64 i, .int .i64 c]] w (WtP w base gw (bs ++ packI e l i c)) := by
  have HW := Lib.hid hW
  clear hW
  obtain ⟨wa, hwa⟩ : ∃ wa, wa = w.alloc (.cells #[.int .i64 e, .int .i64 l, .int .i64 i, .int .i64 c] 28) := ⟨_, rfl⟩
  have HA : Hid (Below w.heap.size w wa ∧ wa.heap.size = w.heap.size + 1 ∧ Blk wa w.heap.size 28 #[.int .i64 e, .int .i64 l, .int .i64 i, .int .i64 c]) := Lib.hid ⟨by rw [hwa]; exact one_box _ _, by rw [hwa]; simp, by rw [hwa]; exact Blk.new _ _ _⟩
  have HWA := Lib.hid hwa
  clear hwa
  have HS : Hid (∀ is : List Int, ∀ (cs : Array Value), cs.toList = ivs is → ∀ wc, wc = wa.alloc (.cells cs 3) → Below wa.heap.size wa wc ∧ ∀ w1, ChT wrTs base wc w1 → RdI w1 (wa.heap.size + 1) (some ⟨wa.heap.size, 0, none⟩) is.length is) := Lib.hid fun is cs hcs wc hwc => ⟨by rw [hwc]; exact one_box _ _, fun w1 hc => by rw [hwc] at hc; exact built_rd hc hcs rfl rfl⟩
  cases hz : noneB e l i c with
  | true =>
    have HZ : Hid (packI e l i c = pack [0]) := Lib.hid (by unfold packI; rw [hz]; rfl)
    simp only [noneB, Bool.and_eq_true, decide_eq_true_eq] at hz
    obtain ⟨⟨⟨rfl, rfl⟩, rfl⟩, rfl⟩ := hz
    obtain ⟨wc, hwc⟩ : ∃ wc, wc = wa.alloc (.cells #[.int .i64 0] 3) := ⟨_, rfl⟩
    obtain ⟨hbc, hrc⟩ := HS.out [0] #[.int .i64 0] rfl wc hwc
    have HWC := Lib.hid hwc
    have HBC := Lib.hid hbc
    have HC := Lib.hid (counts_w (cap := 1) ((HW.out.below HA.out.1).below hbc) hgb (Nat.le_trans (Nat.le_trans hb0 HA.out.1.size) hbc.size) hrc (by simp; omega) (by simp))
    clear hwc hbc hrc hv
    have c0 : wa.cell? ⟨w.heap.size, 0, none⟩ = some (.int .i64 0) := HA.out.2.2.cell 0
    have c1 : wa.cell? ⟨w.heap.size, 1, none⟩ = some (.int .i64 0) := HA.out.2.2.cell 1
    have c2 : wa.cell? ⟨w.heap.size, 2, none⟩ = some (.int .i64 0) := HA.out.2.2.cell 2
    have c3 : wa.cell? ⟨w.heap.size, 3, none⟩ = some (.int .i64 0) := HA.out.2.2.cell 3
    as_aux_lemma =>
      go_enter Tryd.func98, Tryd.ntmps98
      go_upto_region 1 with fail
      rw [← HWA.out]
      go_wp2_with (rw [← HWC.out]; go_at_call 39; refine HC.out.mono ?_; rintro _ w2 ⟨rfl, hw2, hc2⟩; have H2 := Lib.hid (And.intro hw2 hc2); clear hw2 hc2; go_simp)
      go_end0
      refine ⟨rfl, ?_, ((ChT.of_below HA.out.1).trans (ChT.of_below HBC.out)).trans H2.out.2⟩
      rw [HZ.out]
      exact H2.out.1
  | false =>
    have HZ : Hid (packI e l i c = pack [e, l, i, c]) := Lib.hid (by unfold packI; rw [hz]; rfl)
    have hw : wholeB e l i c = true := by
      rcases hv with h | h
      · exact h
      · rw [h] at hz; cases hz
    simp only [wholeB, cntB, Bool.and_eq_true, decide_eq_true_eq] at hw
    have he : (e == 0) = false := by simp; omega
    obtain ⟨wc, hwc⟩ : ∃ wc, wc = wa.alloc (.cells #[.int .i64 e, .int .i64 l, .int .i64 i, .int .i64 c] 3) := ⟨_, rfl⟩
    obtain ⟨hbc, hrc⟩ := HS.out [e, l, i, c] #[.int .i64 e, .int .i64 l, .int .i64 i, .int .i64 c] rfl wc hwc
    have HWC := Lib.hid hwc
    have HBC := Lib.hid hbc
    have HC := Lib.hid (counts_w (cap := 4) ((HW.out.below HA.out.1).below hbc) hgb (Nat.le_trans (Nat.le_trans hb0 HA.out.1.size) hbc.size) hrc (by simp; omega) (by simp; omega))
    have c0 : wa.cell? ⟨w.heap.size, 0, none⟩ = some (.int .i64 e) := HA.out.2.2.cell 0
    have c1 : wa.cell? ⟨w.heap.size, 1, none⟩ = some (.int .i64 l) := HA.out.2.2.cell 1
    have c2 : wa.cell? ⟨w.heap.size, 2, none⟩ = some (.int .i64 i) := HA.out.2.2.cell 2
    have c3 : wa.cell? ⟨w.heap.size, 3, none⟩ = some (.int .i64 c) := HA.out.2.2.cell 3
    have he0 : ¬ e = 0 := by omega
    clear hwc hbc hrc hv hz hw
    as_aux_lemma =>
      go_enter Tryd.func98, Tryd.ntmps98
      go_upto_region 1 with fail
      rw [← HWA.out]
      go_wp2_with (rw [← HWC.out]; go_at_call 39; refine HC.out.mono ?_; rintro _ w2 ⟨rfl, hw2, hc2⟩; have H2 := Lib.hid (And.intro hw2 hc2); clear hw2 hc2; go_simp)
      go_end0
      refine ⟨rfl, ?_, ((ChT.of_below HA.out.1).trans (ChT.of_below HBC.out)).trans H2.out.2⟩
      rw [HZ.out]
      exact H2.out.1
end Go.Proofs.YtffcepaegcllmaaDoor
