/-
  DecodeItem: a data, a slot; all together.
-/
import Derived.Test.YtjafmcahlmopiaaDecI
namespace Go.Proofs.Ytjafmcahlmopiaa
open Go.RowKit

set_option maxRecDepth 100000 in
set_option maxHeartbeats 1600000 in
theorem DecodeItem_1 (A : Option Addr) (n cap : Nat) (bs : List UInt8) (w : World) (hr : RdB w w.heap.size A n (1 :: bs)) (hn : n ≤ cap) (hc : n ≤ 140737488351232) (h3 : n ≤ 300) :
    Calls Try.prog 29 #[.slice A n cap] w (DecAns w (decItem (1 :: bs))) := by
  have hl := hr.lenB
  obtain ⟨r, hr0⟩ : ∃ r, r = decItem (1 :: bs) := ⟨_, rfl⟩
  have HR := Lib.hid hr0
  rw [← hr0]
  clear hr0
  have h300 : ¬ 300 < (1 :: bs : List UInt8).length := by omega
  have hmf : ∀ (fn : Fn) (first cap : Array Value) (w : World), (Instr.makeFunc fn first cap).run Try.prog w = .ok (.func fn first cap) w := fun _ _ _ _ => rfl
  obtain ⟨g, off, c0, rfl, hg, hc1, hc2⟩ := hr.byte (k := 0) (by simp only [List.length_cons] at hl; omega)
  simp only [List.getElem?_cons_zero, Option.some.injEq] at hc1
  subst hc1
  have hn1 : 1 ≤ n := by simp only [List.length_cons] at hl; omega
  have hn0 : ((n : Int) == 0) = false := by simp; omega
  have n0 : (0 : Int) < (n : Int) := by omega
  have cB : (decW w 0 0 (.slice (some ⟨g, off, none⟩) n cap)).cell? ⟨g, off, none⟩ = some (.int .u8 1) := decW_byte w 0 0 (.slice (some ⟨g, off, none⟩) n cap) g off _ hg hc2
  unfold decW at cB
  obtain ⟨hI, hE, hR, hbl⟩ := decW_facts w 1 0 (.slice (some ⟨g, off, none⟩) n cap)
  have hgr := hr.below hbl
  have HI := Lib.hid hI
  have HE := Lib.hid hE
  have HB := Lib.hid hbl
  have HG := Lib.hid hR
  have HRD := Lib.hid hgr
  have HL := Lib.hid hl
  have HH := Lib.hid h300
  clear hI hE hR hbl hgr hl h300 hr
  go_enter_defers Try.func29, Try.ntmps29
  go_wp2_with fail
  refine (data_r (w.heap.size + 1 + 1) _ n cap w.heap.size (1 :: bs) 1 (decW w 1 0 (.slice (some ⟨g, off, none⟩) n cap)) HG.out HRD.out (by omega) hn hc hn1).mono ?_
  intro e w1 hpst
  have hI := HI.out
  have hE := HE.out
  have hb := HB.out
  have HZ := Lib.hid hI.lt
  generalize decW w 1 0 (.slice (some ⟨g, off, none⟩) n cap) = w0 at hpst hI hE hb HZ
  clear cB HI HE HB HG HRD
  rcases h : dataP (1 :: bs) 1 with er | ⟨⟨s, q, t, l⟩, nx⟩
  · have HT : Hid (r = (.zero, er)) := by show _ = _; rw [HR.out]; unfold decItem; rw [if_neg HH.out]; simp only [if_true, h]
    rw [h] at hpst
    obtain ⟨rfl, hch⟩ := hpst
    clear h
    go_wp2
    rw [HT.out]
    have hb1 : Below w.heap.size w w1 := hb.trans (hch.to_below hb.size (fun k hk => by omega))
    exact itemCaught w w1 w.heap.size (w.heap.size + 1) _ _ _ er rfl rfl (hI.chg hch (by omega)) rfl (hE.chg hch (by omega)) rfl (by omega) hb1 (Nat.le_refl _) (by omega)
  rw [h] at hpst
  obtain ⟨⟨v, rfl, hown⟩, hG1, hch⟩ := hpst
  obtain ⟨A7, cap7, rfl, _, _⟩ := own_shape hown
  have hI1 := hI.chg hch (by omega)
  have hE1 := hE.chg hch (by omega)
  have hb1 : Below w.heap.size w w1 := hb.trans (hch.to_below hb.size (fun k hk => by omega))
  have i0 : w1.cell? ⟨w.heap.size, 0, none⟩ = some (.int .i64 1) := by rw [hI1.cell]; rfl
  have i1 : w1.cell? ⟨w.heap.size, 1, none⟩ = some (.int .i64 0) := by rw [hI1.cell]; rfl
  have i2 : w1.cell? ⟨w.heap.size, 2, none⟩ = some (.int .i64 0) := by rw [hI1.cell]; rfl
  have i3 : w1.cell? ⟨w.heap.size, 3, none⟩ = some (.int .i64 0) := by rw [hI1.cell]; rfl
  have i4 : w1.cell? ⟨w.heap.size, 4, none⟩ = some (.slice none 0 0) := by rw [hI1.cell]; rfl
  have i5 : w1.cell? ⟨w.heap.size, 5, none⟩ = some (.int .i64 0) := by rw [hI1.cell]; rfl
  have i6 : w1.cell? ⟨w.heap.size, 6, none⟩ = some (.int .i64 0) := by rw [hI1.cell]; rfl
  have i7 : w1.cell? ⟨w.heap.size, 7, none⟩ = some (.int .i64 0) := by rw [hI1.cell]; rfl
  have i8 : w1.cell? ⟨w.heap.size, 8, none⟩ = some (.int .i64 0) := by rw [hI1.cell]; rfl
  have e0 : w1.cell? ⟨w.heap.size + 1, 0, none⟩ = some (.int .i64 0) := by rw [hE1.cell]; rfl
  have g1 : w1.cell? ⟨w.heap.size + 1 + 1, 1, none⟩ = some (.int .i64 (nx : Int)) := by rw [hG1.cell]; rfl
  have fi0 := hI1.frozen 0
  have fi1 := hI1.frozen 1
  have fi2 := hI1.frozen 2
  have fi3 := hI1.frozen 3
  have fi4 := hI1.frozen 4
  have fi5 := hI1.frozen 5
  have fi6 := hI1.frozen 6
  have fi7 := hI1.frozen 7
  have fi8 := hI1.frozen 8
  have fe := hE1.frozen 0
  have H := Lib.hid h
  clear h
  have HO := Lib.hid hown
  clear hown
  by_cases hlt : nx < n
  · have HT : Hid (r = (.zero, 15)) := by show _ = _; rw [HR.out]; unfold decItem; rw [if_neg HH.out]; simp only [if_true, H.out, HL.out, if_pos hlt]
    have hlI : (nx : Int) < (n : Int) := by omega
    go_wp2_with fail
    rw [HT.out]
    have hI2 := ((((hI1.set_ 1 (.int .i64 (s : Int))).set_ 2 (.int .i64 (q : Int))).set_ 3 (.int .i64 (t : Int))).set_ 4 (.slice A7 l.length cap7))
    have hE2 := ((((hE1.far (p := ⟨w.heap.size, 1, none⟩) (by simp only; omega) (.int .i64 (s : Int))).far (p := ⟨w.heap.size, 2, none⟩) (by simp only; omega) (.int .i64 (q : Int))).far (p := ⟨w.heap.size, 3, none⟩) (by simp only; omega) (.int .i64 (t : Int))).far (p := ⟨w.heap.size, 4, none⟩) (by simp only; omega) (.slice A7 l.length cap7))
    have hc2' := (((((Chg.refl (fun k => k = w.heap.size ∨ k = w.heap.size + 1) w1).setCell (p := ⟨w.heap.size, 1, none⟩) (.inl (.inl rfl)) (.int .i64 (s : Int))).setCell (p := ⟨w.heap.size, 2, none⟩) (.inl (.inl rfl)) (.int .i64 (q : Int))).setCell (p := ⟨w.heap.size, 3, none⟩) (.inl (.inl rfl)) (.int .i64 (t : Int))).setCell (p := ⟨w.heap.size, 4, none⟩) (.inl (.inl rfl)) (.slice A7 l.length cap7))
    exact itemCaught w _ w.heap.size (w.heap.size + 1) _ _ _ 15 rfl rfl hI2 (by simp) hE2 (by simp) (by omega) (hb1.trans (hc2'.to_below hb1.size (fun k hk => by omega))) (Nat.le_refl _) (by omega)
  · have HT : Hid (r = (⟨1, s, q, t, l, 0, 0, 0, 0⟩, 0)) := by show _ = _; rw [HR.out]; unfold decItem; rw [if_neg HH.out]; simp only [if_true, H.out, HL.out, if_neg hlt]
    have hlI : (n : Int) ≤ (nx : Int) := by omega
    go_wp2_with fail
    rw [HT.out]
    have hI2 := ((((((((((((((hI1.set_ 1 (.int .i64 (s : Int))).set_ 2 (.int .i64 (q : Int))).set_ 3 (.int .i64 (t : Int))).set_ 4 (.slice A7 l.length cap7)).set_ 0 (.int .i64 1)).set_ 1 (.int .i64 (s : Int))).set_ 2 (.int .i64 (q : Int))).set_ 3 (.int .i64 (t : Int))).set_ 4 (.slice A7 l.length cap7)).set_ 5 (.int .i64 0)).set_ 6 (.int .i64 0)).set_ 7 (.int .i64 0)).set_ 8 (.int .i64 0)).far (p := ⟨w.heap.size + 1, 0, none⟩) (by simp only; omega) (.int .i64 0))
    have hE2 := ((((((((((((((hE1.far (p := ⟨w.heap.size, 1, none⟩) (by simp only; omega) (.int .i64 (s : Int))).far (p := ⟨w.heap.size, 2, none⟩) (by simp only; omega) (.int .i64 (q : Int))).far (p := ⟨w.heap.size, 3, none⟩) (by simp only; omega) (.int .i64 (t : Int))).far (p := ⟨w.heap.size, 4, none⟩) (by simp only; omega) (.slice A7 l.length cap7)).far (p := ⟨w.heap.size, 0, none⟩) (by simp only; omega) (.int .i64 1)).far (p := ⟨w.heap.size, 1, none⟩) (by simp only; omega) (.int .i64 (s : Int))).far (p := ⟨w.heap.size, 2, none⟩) (by simp only; omega) (.int .i64 (q : Int))).far (p := ⟨w.heap.size, 3, none⟩) (by simp only; omega) (.int .i64 (t : Int))).far (p := ⟨w.heap.size, 4, none⟩) (by simp only; omega) (.slice A7 l.length cap7)).far (p := ⟨w.heap.size, 5, none⟩) (by simp only; omega) (.int .i64 0)).far (p := ⟨w.heap.size, 6, none⟩) (by simp only; omega) (.int .i64 0)).far (p := ⟨w.heap.size, 7, none⟩) (by simp only; omega) (.int .i64 0)).far (p := ⟨w.heap.size, 8, none⟩) (by simp only; omega) (.int .i64 0)).set_ 0 (.int .i64 0))
    have hc2' := (((((((((((((((Chg.refl (fun k => k = w.heap.size ∨ k = w.heap.size + 1) w1).setCell (p := ⟨w.heap.size, 1, none⟩) (.inl (.inl rfl)) (.int .i64 (s : Int))).setCell (p := ⟨w.heap.size, 2, none⟩) (.inl (.inl rfl)) (.int .i64 (q : Int))).setCell (p := ⟨w.heap.size, 3, none⟩) (.inl (.inl rfl)) (.int .i64 (t : Int))).setCell (p := ⟨w.heap.size, 4, none⟩) (.inl (.inl rfl)) (.slice A7 l.length cap7)).setCell (p := ⟨w.heap.size, 0, none⟩) (.inl (.inl rfl)) (.int .i64 1)).setCell (p := ⟨w.heap.size, 1, none⟩) (.inl (.inl rfl)) (.int .i64 (s : Int))).setCell (p := ⟨w.heap.size, 2, none⟩) (.inl (.inl rfl)) (.int .i64 (q : Int))).setCell (p := ⟨w.heap.size, 3, none⟩) (.inl (.inl rfl)) (.int .i64 (t : Int))).setCell (p := ⟨w.heap.size, 4, none⟩) (.inl (.inl rfl)) (.slice A7 l.length cap7)).setCell (p := ⟨w.heap.size, 5, none⟩) (.inl (.inl rfl)) (.int .i64 0)).setCell (p := ⟨w.heap.size, 6, none⟩) (.inl (.inl rfl)) (.int .i64 0)).setCell (p := ⟨w.heap.size, 7, none⟩) (.inl (.inl rfl)) (.int .i64 0)).setCell (p := ⟨w.heap.size, 8, none⟩) (.inl (.inl rfl)) (.int .i64 0)).setCell (p := ⟨w.heap.size + 1, 0, none⟩) (.inl (.inr rfl)) (.int .i64 0))
    have hz1 : w.heap.size + 1 < w0.heap.size := hE.lt
    exact itemDone w _ w.heap.size (w.heap.size + 1) _ _ _ A7 cap7 0 rfl rfl hI2 (by simp) (by simp [ItemD.v, itemV]) hE2 (hb1.trans (hc2'.to_below hb1.size (fun k hk => by omega))) (own_base (own_chg HO.out hc2' (fun g hg hgp => by have := own_block_lt HO.out hg; omega)) (by omega))
set_option maxRecDepth 100000 in
set_option maxHeartbeats 1600000 in
theorem DecodeItem_2 (A : Option Addr) (n cap : Nat) (bs : List UInt8) (w : World) (hr : RdB w w.heap.size A n (2 :: bs)) (hn : n ≤ cap) (hc : n ≤ 140737488351232) (h3 : n ≤ 300) :
    Calls Try.prog 29 #[.slice A n cap] w (DecAns w (decItem (2 :: bs))) := by
  have hl := hr.lenB
  obtain ⟨r, hr0⟩ : ∃ r, r = decItem (2 :: bs) := ⟨_, rfl⟩
  have HR := Lib.hid hr0
  rw [← hr0]
  clear hr0
  have h300 : ¬ 300 < (2 :: bs : List UInt8).length := by omega
  have hmf : ∀ (fn : Fn) (first cap : Array Value) (w : World), (Instr.makeFunc fn first cap).run Try.prog w = .ok (.func fn first cap) w := fun _ _ _ _ => rfl
  obtain ⟨g, off, c0, rfl, hg, hc1, hc2⟩ := hr.byte (k := 0) (by simp only [List.length_cons] at hl; omega)
  simp only [List.getElem?_cons_zero, Option.some.injEq] at hc1
  subst hc1
  have hn1 : 1 ≤ n := by simp only [List.length_cons] at hl; omega
  have hn0 : ((n : Int) == 0) = false := by simp; omega
  have n0 : (0 : Int) < (n : Int) := by omega
  have cB : (decW w 0 0 (.slice (some ⟨g, off, none⟩) n cap)).cell? ⟨g, off, none⟩ = some (.int .u8 2) := decW_byte w 0 0 (.slice (some ⟨g, off, none⟩) n cap) g off _ hg hc2
  unfold decW at cB
  obtain ⟨hI, hE, hR, hbl⟩ := decW_facts w 2 0 (.slice (some ⟨g, off, none⟩) n cap)
  have hgr := hr.below hbl
  have HI := Lib.hid hI
  have HE := Lib.hid hE
  have HB := Lib.hid hbl
  have HG := Lib.hid hR
  have HRD := Lib.hid hgr
  have HL := Lib.hid hl
  have HH := Lib.hid h300
  clear hI hE hR hbl hgr hl h300 hr
  go_enter_defers Try.func29, Try.ntmps29
  go_wp2_with fail
  have HP0 :  1 ≤ n := hn1
  refine (count_r (w.heap.size + 1 + 1) _ n cap w.heap.size (2 :: bs) 1 1 (decW w 2 0 (.slice (some ⟨g, off, none⟩) n cap)) HG.out HRD.out (by omega) HP0).mono ?_
  intro e w1 hpst
  have hI := HI.out
  have hE := HE.out
  have hb := HB.out
  have hrd := HRD.out
  generalize decW w 2 0 (.slice (some ⟨g, off, none⟩) n cap) = w0 at hpst hI hE hb hrd
  have hne : w.heap.size + 1 < w0.heap.size := hE.lt
  clear cB HI HE HB HG HRD HP0
  rcases h : numP (2 :: bs) 1 1 4611686018427387904 with er | ⟨p, p1⟩
  · have HT : Hid (r = (.zero, er)) := by show _ = _; rw [HR.out]; unfold decItem; rw [if_neg HH.out]; simp only [show ¬ ((2 : UInt8) = 1) by decide, if_false, if_true, h]
    rw [h] at hpst
    obtain ⟨rfl, hch⟩ := hpst
    clear h
    go_wp2
    rw [HT.out]
    have hb1 : Below w.heap.size w w1 := hb.trans (hch.to_below hb.size (fun k hk => by omega))
    exact itemCaught w w1 w.heap.size (w.heap.size + 1) _ _ _ er rfl rfl (hI.chg hch (by omega)) rfl (hE.chg hch (by omega)) rfl (by omega) hb1 (Nat.le_refl _) (by omega)
  rw [h] at hpst
  obtain ⟨rfl, hG1, hch⟩ := hpst
  have hI1 := hI.chg hch (by omega)
  have hE1 := hE.chg hch (by omega)
  have hb1 : Below w.heap.size w w1 := hb.trans (hch.to_below hb.size (fun k hk => by omega))
  have HP1 : Hid (p1 ≤ n) := by have := (numP_ok h).2.2.2.2; have := HL.out; show _ ≤ _; omega
  have HV0 : Hid ((p : Int) ≤ 4611686018427387904) := by have := (numP_ok h).2.2.1; show _ ≤ _; omega
  have H0 := Lib.hid h
  clear h
  have i0 : w1.cell? ⟨w.heap.size, 0, none⟩ = some (.int .i64 2) := by rw [hI1.cell]; rfl
  have i1 : w1.cell? ⟨w.heap.size, 1, none⟩ = some (.int .i64 0) := by rw [hI1.cell]; rfl
  have i2 : w1.cell? ⟨w.heap.size, 2, none⟩ = some (.int .i64 0) := by rw [hI1.cell]; rfl
  have i3 : w1.cell? ⟨w.heap.size, 3, none⟩ = some (.int .i64 0) := by rw [hI1.cell]; rfl
  have i4 : w1.cell? ⟨w.heap.size, 4, none⟩ = some (.slice none 0 0) := by rw [hI1.cell]; rfl
  have i5 : w1.cell? ⟨w.heap.size, 5, none⟩ = some (.int .i64 0) := by rw [hI1.cell]; rfl
  have i6 : w1.cell? ⟨w.heap.size, 6, none⟩ = some (.int .i64 0) := by rw [hI1.cell]; rfl
  have i7 : w1.cell? ⟨w.heap.size, 7, none⟩ = some (.int .i64 0) := by rw [hI1.cell]; rfl
  have i8 : w1.cell? ⟨w.heap.size, 8, none⟩ = some (.int .i64 0) := by rw [hI1.cell]; rfl
  have fi0 := hI1.frozen 0
  have fi1 := hI1.frozen 1
  have fi2 := hI1.frozen 2
  have fi3 := hI1.frozen 3
  have fi4 := hI1.frozen 4
  have fi5 := hI1.frozen 5
  have fi6 := hI1.frozen 6
  have fi7 := hI1.frozen 7
  have fi8 := hI1.frozen 8
  have ep : IntKind.i64.wrap ((p : Int) - 1) = (p : Int) - 1 := by have := HV0.out; exact IntWalk.i64_in _ (by omega)
  go_wp2_with fail
  have hI2 := hI1.set_ 5 (.int .i64 (p : Int))
  have hE2 := hE1.far (p := ⟨w.heap.size, 5, none⟩) (by simp only; omega) (.int .i64 (p : Int))
  have hG2 := hG1.far (p := ⟨w.heap.size, 5, none⟩) (by simp only; omega) (.int .i64 (p : Int))
  have hc2' := (Chg.refl (fun k => k = w.heap.size) w1).setCell (p := ⟨w.heap.size, 5, none⟩) (.inl rfl) (.int .i64 (p : Int))
  have hr2 : RdB (w1.setCell ⟨w.heap.size, 5, none⟩ (.int .i64 (p : Int))) w.heap.size (some ⟨g, off, none⟩) n (2 :: bs) := hrd.keep fun j hj => (hc2'.block j (by have := hb1.size; omega) (by omega)).trans (hch.block j (by have := hb.size; omega) (by omega))
  have hb2 : Below w.heap.size w _ := hb1.trans (hc2'.to_below hb1.size (fun k hk => by omega))
  clear i0 i1 i2 i3 i4 i5 i6 i7 i8 fi0 fi1 fi2 fi3 fi4 fi5 fi6 fi7 fi8 ep
  generalize w1.setCell ⟨w.heap.size, 5, none⟩ (.int .i64 (p : Int)) = w2 at hI2 hE2 hG2 hr2 hb2 ⊢
  have HI := Lib.hid hI2
  have HE := Lib.hid hE2
  have HG := Lib.hid hG2
  have HRD := Lib.hid hr2
  have HB := Lib.hid hb2
  clear hI2 hE2 hG2 hr2 hb2 hc2' hI1 hE1 hG1 hb1 hch hI hE hb hrd hne w0 w1
  refine (number_any (w.heap.size + 1 + 1) _ n cap w.heap.size (2 :: bs) p1 0 ((p : Int) - 1) w2 HG.out HRD.out (by omega) HP1.out).mono ?_
  intro e w1 hpst
  have hI := HI.out
  have hE := HE.out
  have hb := HB.out
  have hrd := HRD.out
  generalize w2 = w0 at hpst hI hE hb hrd
  have hne : w.heap.size + 1 < w0.heap.size := hE.lt
  clear HI HE HB HG HRD HP1
  rcases h : numP (2 :: bs) p1 0 ((p : Int) - 1) with er | ⟨st, p2⟩
  · have HT : Hid (r = (.zero, er)) := by show _ = _; rw [HR.out]; unfold decItem; rw [if_neg HH.out]; simp only [show ¬ ((2 : UInt8) = 1) by decide, if_false, if_true, H0.out, h]
    rw [h] at hpst
    obtain ⟨rfl, hch⟩ := hpst
    clear h
    go_wp2
    rw [HT.out]
    have hb1 : Below w.heap.size w w1 := hb.trans (hch.to_below hb.size (fun k hk => by omega))
    exact itemCaught w w1 w.heap.size (w.heap.size + 1) _ _ _ er rfl rfl (hI.chg hch (by omega)) (by simp) (hE.chg hch (by omega)) rfl (by omega) hb1 (Nat.le_refl _) (by omega)
  rw [h] at hpst
  obtain ⟨rfl, hG1, hch⟩ := hpst
  have hI1 := hI.chg hch (by omega)
  have hE1 := hE.chg hch (by omega)
  have hb1 : Below w.heap.size w w1 := hb.trans (hch.to_below hb.size (fun k hk => by omega))
  have HP2 : Hid (p2 ≤ n) := by have := (numP_ok h).2.2.2.2; have := HL.out; show _ ≤ _; omega
  have HV1 : Hid ((st : Int) ≤ 4611686018427387904) := by have := (numP_ok h).2.2.1; show _ ≤ _; omega
  have H1 := Lib.hid h
  clear h
  have i0 : w1.cell? ⟨w.heap.size, 0, none⟩ = some (.int .i64 2) := by rw [hI1.cell]; rfl
  have i1 : w1.cell? ⟨w.heap.size, 1, none⟩ = some (.int .i64 0) := by rw [hI1.cell]; rfl
  have i2 : w1.cell? ⟨w.heap.size, 2, none⟩ = some (.int .i64 0) := by rw [hI1.cell]; rfl
  have i3 : w1.cell? ⟨w.heap.size, 3, none⟩ = some (.int .i64 0) := by rw [hI1.cell]; rfl
  have i4 : w1.cell? ⟨w.heap.size, 4, none⟩ = some (.slice none 0 0) := by rw [hI1.cell]; rfl
  have i5 : w1.cell? ⟨w.heap.size, 5, none⟩ = some (.int .i64 (p : Int)) := by rw [hI1.cell]; rfl
  have i6 : w1.cell? ⟨w.heap.size, 6, none⟩ = some (.int .i64 0) := by rw [hI1.cell]; rfl
  have i7 : w1.cell? ⟨w.heap.size, 7, none⟩ = some (.int .i64 0) := by rw [hI1.cell]; rfl
  have i8 : w1.cell? ⟨w.heap.size, 8, none⟩ = some (.int .i64 0) := by rw [hI1.cell]; rfl
  have fi0 := hI1.frozen 0
  have fi1 := hI1.frozen 1
  have fi2 := hI1.frozen 2
  have fi3 := hI1.frozen 3
  have fi4 := hI1.frozen 4
  have fi5 := hI1.frozen 5
  have fi6 := hI1.frozen 6
  have fi7 := hI1.frozen 7
  have fi8 := hI1.frozen 8
  go_wp2_with fail
  have hI2 := hI1.set_ 6 (.int .i64 (st : Int))
  have hE2 := hE1.far (p := ⟨w.heap.size, 6, none⟩) (by simp only; omega) (.int .i64 (st : Int))
  have hG2 := hG1.far (p := ⟨w.heap.size, 6, none⟩) (by simp only; omega) (.int .i64 (st : Int))
  have hc2' := (Chg.refl (fun k => k = w.heap.size) w1).setCell (p := ⟨w.heap.size, 6, none⟩) (.inl rfl) (.int .i64 (st : Int))
  have hr2 : RdB (w1.setCell ⟨w.heap.size, 6, none⟩ (.int .i64 (st : Int))) w.heap.size (some ⟨g, off, none⟩) n (2 :: bs) := hrd.keep fun j hj => (hc2'.block j (by have := hb1.size; omega) (by omega)).trans (hch.block j (by have := hb.size; omega) (by omega))
  have hb2 : Below w.heap.size w _ := hb1.trans (hc2'.to_below hb1.size (fun k hk => by omega))
  clear i0 i1 i2 i3 i4 i5 i6 i7 i8 fi0 fi1 fi2 fi3 fi4 fi5 fi6 fi7 fi8
  generalize w1.setCell ⟨w.heap.size, 6, none⟩ (.int .i64 (st : Int)) = w2 at hI2 hE2 hG2 hr2 hb2 ⊢
  have HI := Lib.hid hI2
  have HE := Lib.hid hE2
  have HG := Lib.hid hG2
  have HRD := Lib.hid hr2
  have HB := Lib.hid hb2
  clear hI2 hE2 hG2 hr2 hb2 hc2' hI1 hE1 hG1 hb1 hch hI hE hb hrd hne w0 w1
  refine (node_r (w.heap.size + 1 + 1) _ n cap w.heap.size (2 :: bs) p2 w2 HG.out HRD.out (by omega) HP2.out).mono ?_
  intro e w1 hpst
  have hI := HI.out
  have hE := HE.out
  have hb := HB.out
  have hrd := HRD.out
  generalize w2 = w0 at hpst hI hE hb hrd
  have hne : w.heap.size + 1 < w0.heap.size := hE.lt
  clear HI HE HB HG HRD HP2
  rcases h : numP (2 :: bs) p2 0 15 with er | ⟨a, p3⟩
  · have HT : Hid (r = (.zero, er)) := by show _ = _; rw [HR.out]; unfold decItem; rw [if_neg HH.out]; simp only [show ¬ ((2 : UInt8) = 1) by decide, if_false, if_true, H0.out, H1.out, h]
    rw [h] at hpst
    obtain ⟨rfl, hch⟩ := hpst
    clear h
    go_wp2
    rw [HT.out]
    have hb1 : Below w.heap.size w w1 := hb.trans (hch.to_below hb.size (fun k hk => by omega))
    exact itemCaught w w1 w.heap.size (w.heap.size + 1) _ _ _ er rfl rfl (hI.chg hch (by omega)) (by simp) (hE.chg hch (by omega)) rfl (by omega) hb1 (Nat.le_refl _) (by omega)
  rw [h] at hpst
  obtain ⟨rfl, hG1, hch⟩ := hpst
  have hI1 := hI.chg hch (by omega)
  have hE1 := hE.chg hch (by omega)
  have hb1 : Below w.heap.size w w1 := hb.trans (hch.to_below hb.size (fun k hk => by omega))
  have HP3 : Hid (p3 ≤ n) := by have := (numP_ok h).2.2.2.2; have := HL.out; show _ ≤ _; omega
  have HV2 : Hid ((a : Int) ≤ 4611686018427387904) := by have := (numP_ok h).2.2.1; show _ ≤ _; omega
  have H2 := Lib.hid h
  clear h
  have i0 : w1.cell? ⟨w.heap.size, 0, none⟩ = some (.int .i64 2) := by rw [hI1.cell]; rfl
  have i1 : w1.cell? ⟨w.heap.size, 1, none⟩ = some (.int .i64 0) := by rw [hI1.cell]; rfl
  have i2 : w1.cell? ⟨w.heap.size, 2, none⟩ = some (.int .i64 0) := by rw [hI1.cell]; rfl
  have i3 : w1.cell? ⟨w.heap.size, 3, none⟩ = some (.int .i64 0) := by rw [hI1.cell]; rfl
  have i4 : w1.cell? ⟨w.heap.size, 4, none⟩ = some (.slice none 0 0) := by rw [hI1.cell]; rfl
  have i5 : w1.cell? ⟨w.heap.size, 5, none⟩ = some (.int .i64 (p : Int)) := by rw [hI1.cell]; rfl
  have i6 : w1.cell? ⟨w.heap.size, 6, none⟩ = some (.int .i64 (st : Int)) := by rw [hI1.cell]; rfl
  have i7 : w1.cell? ⟨w.heap.size, 7, none⟩ = some (.int .i64 0) := by rw [hI1.cell]; rfl
  have i8 : w1.cell? ⟨w.heap.size, 8, none⟩ = some (.int .i64 0) := by rw [hI1.cell]; rfl
  have fi0 := hI1.frozen 0
  have fi1 := hI1.frozen 1
  have fi2 := hI1.frozen 2
  have fi3 := hI1.frozen 3
  have fi4 := hI1.frozen 4
  have fi5 := hI1.frozen 5
  have fi6 := hI1.frozen 6
  have fi7 := hI1.frozen 7
  have fi8 := hI1.frozen 8
  go_wp2_with fail
  have hI2 := hI1.set_ 7 (.int .i64 (a : Int))
  have hE2 := hE1.far (p := ⟨w.heap.size, 7, none⟩) (by simp only; omega) (.int .i64 (a : Int))
  have hG2 := hG1.far (p := ⟨w.heap.size, 7, none⟩) (by simp only; omega) (.int .i64 (a : Int))
  have hc2' := (Chg.refl (fun k => k = w.heap.size) w1).setCell (p := ⟨w.heap.size, 7, none⟩) (.inl rfl) (.int .i64 (a : Int))
  have hr2 : RdB (w1.setCell ⟨w.heap.size, 7, none⟩ (.int .i64 (a : Int))) w.heap.size (some ⟨g, off, none⟩) n (2 :: bs) := hrd.keep fun j hj => (hc2'.block j (by have := hb1.size; omega) (by omega)).trans (hch.block j (by have := hb.size; omega) (by omega))
  have hb2 : Below w.heap.size w _ := hb1.trans (hc2'.to_below hb1.size (fun k hk => by omega))
  clear i0 i1 i2 i3 i4 i5 i6 i7 i8 fi0 fi1 fi2 fi3 fi4 fi5 fi6 fi7 fi8
  generalize w1.setCell ⟨w.heap.size, 7, none⟩ (.int .i64 (a : Int)) = w2 at hI2 hE2 hG2 hr2 hb2 ⊢
  have HI := Lib.hid hI2
  have HE := Lib.hid hE2
  have HG := Lib.hid hG2
  have HRD := Lib.hid hr2
  have HB := Lib.hid hb2
  clear hI2 hE2 hG2 hr2 hb2 hc2' hI1 hE1 hG1 hb1 hch hI hE hb hrd hne w0 w1
  refine (count_r (w.heap.size + 1 + 1) _ n cap w.heap.size (2 :: bs) p3 1 w2 HG.out HRD.out (by omega) HP3.out).mono ?_
  intro e w1 hpst
  have hI := HI.out
  have hE := HE.out
  have hb := HB.out
  have hrd := HRD.out
  generalize w2 = w0 at hpst hI hE hb hrd
  have hne : w.heap.size + 1 < w0.heap.size := hE.lt
  clear HI HE HB HG HRD HP3
  rcases h : numP (2 :: bs) p3 1 4611686018427387904 with er | ⟨c, p4⟩
  · have HT : Hid (r = (.zero, er)) := by show _ = _; rw [HR.out]; unfold decItem; rw [if_neg HH.out]; simp only [show ¬ ((2 : UInt8) = 1) by decide, if_false, if_true, H0.out, H1.out, H2.out, h]
    rw [h] at hpst
    obtain ⟨rfl, hch⟩ := hpst
    clear h
    go_wp2
    rw [HT.out]
    have hb1 : Below w.heap.size w w1 := hb.trans (hch.to_below hb.size (fun k hk => by omega))
    exact itemCaught w w1 w.heap.size (w.heap.size + 1) _ _ _ er rfl rfl (hI.chg hch (by omega)) (by simp) (hE.chg hch (by omega)) rfl (by omega) hb1 (Nat.le_refl _) (by omega)
  rw [h] at hpst
  obtain ⟨rfl, hG1, hch⟩ := hpst
  have hI1 := hI.chg hch (by omega)
  have hE1 := hE.chg hch (by omega)
  have hb1 : Below w.heap.size w w1 := hb.trans (hch.to_below hb.size (fun k hk => by omega))
  have HP4 : Hid (p4 ≤ n) := by have := (numP_ok h).2.2.2.2; have := HL.out; show _ ≤ _; omega
  have HV3 : Hid ((c : Int) ≤ 4611686018427387904) := by have := (numP_ok h).2.2.1; show _ ≤ _; omega
  have H3 := Lib.hid h
  clear h
  have i0 : w1.cell? ⟨w.heap.size, 0, none⟩ = some (.int .i64 2) := by rw [hI1.cell]; rfl
  have i1 : w1.cell? ⟨w.heap.size, 1, none⟩ = some (.int .i64 0) := by rw [hI1.cell]; rfl
  have i2 : w1.cell? ⟨w.heap.size, 2, none⟩ = some (.int .i64 0) := by rw [hI1.cell]; rfl
  have i3 : w1.cell? ⟨w.heap.size, 3, none⟩ = some (.int .i64 0) := by rw [hI1.cell]; rfl
  have i4 : w1.cell? ⟨w.heap.size, 4, none⟩ = some (.slice none 0 0) := by rw [hI1.cell]; rfl
  have i5 : w1.cell? ⟨w.heap.size, 5, none⟩ = some (.int .i64 (p : Int)) := by rw [hI1.cell]; rfl
  have i6 : w1.cell? ⟨w.heap.size, 6, none⟩ = some (.int .i64 (st : Int)) := by rw [hI1.cell]; rfl
  have i7 : w1.cell? ⟨w.heap.size, 7, none⟩ = some (.int .i64 (a : Int)) := by rw [hI1.cell]; rfl
  have i8 : w1.cell? ⟨w.heap.size, 8, none⟩ = some (.int .i64 0) := by rw [hI1.cell]; rfl
  have fi0 := hI1.frozen 0
  have fi1 := hI1.frozen 1
  have fi2 := hI1.frozen 2
  have fi3 := hI1.frozen 3
  have fi4 := hI1.frozen 4
  have fi5 := hI1.frozen 5
  have fi6 := hI1.frozen 6
  have fi7 := hI1.frozen 7
  have fi8 := hI1.frozen 8
  have e0 : w1.cell? ⟨w.heap.size + 1, 0, none⟩ = some (.int .i64 0) := by rw [hE1.cell]; rfl
  have g1 : w1.cell? ⟨w.heap.size + 1 + 1, 1, none⟩ = some (.int .i64 (p4 : Int)) := by rw [hG1.cell]; rfl
  have fe := hE1.frozen 0
  by_cases hlt : p4 < n
  · have HT : Hid (r = (.zero, 15)) := by show _ = _; rw [HR.out]; unfold decItem; rw [if_neg HH.out]; simp only [show ¬ ((2 : UInt8) = 1) by decide, if_false, if_true, H0.out, H1.out, H2.out, H3.out, HL.out, if_pos hlt]
    have hlI : (p4 : Int) < (n : Int) := by omega
    go_wp2_with fail
    rw [HT.out]
    have hI2 := (hI1.set_ 8 (.int .i64 (c : Int)))
    have hE2 := (hE1.far (p := ⟨w.heap.size, 8, none⟩) (by simp only; omega) (.int .i64 (c : Int)))
    have hc2' := ((Chg.refl (fun k => k = w.heap.size ∨ k = w.heap.size + 1) w1).setCell (p := ⟨w.heap.size, 8, none⟩) (.inl (.inl rfl)) (.int .i64 (c : Int)))
    exact itemCaught w _ w.heap.size (w.heap.size + 1) _ _ _ 15 rfl rfl hI2 (by simp) hE2 (by simp) (by omega) (hb1.trans (hc2'.to_below hb1.size (fun k hk => by omega))) (Nat.le_refl _) (by omega)
  · have HT : Hid (r = (⟨2, 0, 0, 0, [], p, st, a, c⟩, 0)) := by show _ = _; rw [HR.out]; unfold decItem; rw [if_neg HH.out]; simp only [show ¬ ((2 : UInt8) = 1) by decide, if_false, if_true, H0.out, H1.out, H2.out, H3.out, HL.out, if_neg hlt]
    have hlI : (n : Int) ≤ (p4 : Int) := by omega
    go_wp2_with fail
    rw [HT.out]
    have hI2 := (((((((((((hI1.set_ 8 (.int .i64 (c : Int))).set_ 0 (.int .i64 2)).set_ 1 (.int .i64 0)).set_ 2 (.int .i64 0)).set_ 3 (.int .i64 0)).set_ 4 (.slice none 0 0)).set_ 5 (.int .i64 (p : Int))).set_ 6 (.int .i64 (st : Int))).set_ 7 (.int .i64 (a : Int))).set_ 8 (.int .i64 (c : Int))).far (p := ⟨w.heap.size + 1, 0, none⟩) (by simp only; omega) (.int .i64 0))
    have hE2 := (((((((((((hE1.far (p := ⟨w.heap.size, 8, none⟩) (by simp only; omega) (.int .i64 (c : Int))).far (p := ⟨w.heap.size, 0, none⟩) (by simp only; omega) (.int .i64 2)).far (p := ⟨w.heap.size, 1, none⟩) (by simp only; omega) (.int .i64 0)).far (p := ⟨w.heap.size, 2, none⟩) (by simp only; omega) (.int .i64 0)).far (p := ⟨w.heap.size, 3, none⟩) (by simp only; omega) (.int .i64 0)).far (p := ⟨w.heap.size, 4, none⟩) (by simp only; omega) (.slice none 0 0)).far (p := ⟨w.heap.size, 5, none⟩) (by simp only; omega) (.int .i64 (p : Int))).far (p := ⟨w.heap.size, 6, none⟩) (by simp only; omega) (.int .i64 (st : Int))).far (p := ⟨w.heap.size, 7, none⟩) (by simp only; omega) (.int .i64 (a : Int))).far (p := ⟨w.heap.size, 8, none⟩) (by simp only; omega) (.int .i64 (c : Int))).set_ 0 (.int .i64 0))
    have hc2' := ((((((((((((Chg.refl (fun k => k = w.heap.size ∨ k = w.heap.size + 1) w1).setCell (p := ⟨w.heap.size, 8, none⟩) (.inl (.inl rfl)) (.int .i64 (c : Int))).setCell (p := ⟨w.heap.size, 0, none⟩) (.inl (.inl rfl)) (.int .i64 2)).setCell (p := ⟨w.heap.size, 1, none⟩) (.inl (.inl rfl)) (.int .i64 0)).setCell (p := ⟨w.heap.size, 2, none⟩) (.inl (.inl rfl)) (.int .i64 0)).setCell (p := ⟨w.heap.size, 3, none⟩) (.inl (.inl rfl)) (.int .i64 0)).setCell (p := ⟨w.heap.size, 4, none⟩) (.inl (.inl rfl)) (.slice none 0 0)).setCell (p := ⟨w.heap.size, 5, none⟩) (.inl (.inl rfl)) (.int .i64 (p : Int))).setCell (p := ⟨w.heap.size, 6, none⟩) (.inl (.inl rfl)) (.int .i64 (st : Int))).setCell (p := ⟨w.heap.size, 7, none⟩) (.inl (.inl rfl)) (.int .i64 (a : Int))).setCell (p := ⟨w.heap.size, 8, none⟩) (.inl (.inl rfl)) (.int .i64 (c : Int))).setCell (p := ⟨w.heap.size + 1, 0, none⟩) (.inl (.inr rfl)) (.int .i64 0))
    exact itemDone w _ w.heap.size (w.heap.size + 1) _ _ _ none 0 0 rfl rfl hI2 (by simp) (by simp [ItemD.v, itemV]) hE2 (hb1.trans (hc2'.to_below hb1.size (fun k hk => by omega))) ⟨rfl, .inl ⟨rfl, rfl⟩⟩
end Go.Proofs.Ytjafmcahlmopiaa
