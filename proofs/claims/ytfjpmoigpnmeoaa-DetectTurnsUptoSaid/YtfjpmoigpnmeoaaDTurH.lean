/-
  DetectTurns: held, walked.
-/
import Derived.Test.YtfjpmoigpnmeoaaDTurR
namespace Go.Proofs.Ytfjpmoigpnmeoaa
open Go.RowKit
theorem lstT_len (kd : Int) {c : Cfg} (hc : c.Ok) (l : List Ev) : (lstT kd c (dOf c l)).length ≤ 17 := by
  have h16 := hc.2.1
  unfold lstT
  split
  · simp [hearsL]; omega
  · exact lst_len hc kd
theorem snoc17 {KL : List Gt} {y : Gt} (h : ∀ (k : Nat) (x : Gt), KL[k]? = some x → x.l.length ≤ 17) (hy : y.l.length ≤ 17) : ∀ (k : Nat) (x : Gt), (KL ++ [y])[k]? = some x → x.l.length ≤ 17 := fun k x hk => by
  have := List.mem_of_getElem? hk
  rcases List.mem_append.1 this with e | e
  · obtain ⟨j, hj⟩ := List.mem_iff_getElem?.1 e
    exact h j x hj
  · simp only [List.mem_cons, List.not_mem_nil, or_false] at e
    subst e
    exact hy
def HeldP (w : World) (B : Nat) (F G : Nat → Prop) (c : Cfg) (D K : Nat) (l : List Ev) (H : Nat) (vM : Value) (KL : List Gt) (e : Ending) (w' : World) : Prop :=
  e = .returned (.bool true) ∧ ∃ F' l' vG' vW' vR' KL', Pair w' F' c D K l' ∧ l'.length ≤ l.length + 1 ∧ (∀ k, F' k → F k ∨ w.heap.size ≤ k) ∧ HeldW w' B (fun k => F' k ∨ G k) H vG' vW' vM vR' KL' ∧ KL'.length ≤ KL.length + 2 ∧ Chg (fun k => B ≤ k ∧ ¬ G k) w w' ∧ (∀ (k : Nat) (x : Gt), KL'[k]? = some x → x.l.length ≤ 17)
section
variable {w : World} {c : Cfg} {D K H B Bi : Nat} {F G FF : Nat → Prop} {l : List Ev} {vG vW vM vR : Value} {KL : List Gt}
set_option maxRecDepth 100000 in
set_option maxHeartbeats 6400000 in
theorem held_any (A : Option Addr) (n cap : Nat) (hs : List Int) (kd q inc tick : Int) (hc : c.Ok) (h : Pair w F c D K l) (hn : l.length < 3518437208883) (hFG : ∀ k, F k → ¬ G k) (hGb : ∀ k, G k → k < w.heap.size) (hF1 : ∀ k, F k → FF k) (hF2 : ∀ k, G k → FF k) (hF3 : ∀ k, FF k → F k ∨ G k) (hw : HeldW w B FF H vG vW vM vR KL) (hr : RdI w Bi A n hs) (hBi : Bi ≤ B) (hB : B ≤ w.heap.size) (hFB : ∀ k, F k → B ≤ k) (hm : n ≤ 1048576) (hK : KL.length ≤ 1048000) (hn2 : l.length + 1 < 3518437208883) (hK17 : ∀ (k : Nat) (x : Gt), KL[k]? = some x → x.l.length ≤ 17) :
    Calls Try.prog 39 #[.pointer (some ⟨H, 0, none⟩), .pointer (some ⟨D, 0, none⟩), .pointer (some ⟨K, 0, none⟩), .agg #[.int .i64 kd, .int .i64 q, .int .i64 inc, .int .i64 tick, .slice A n cap]] w (HeldP w B F G c D K l H vM KL) := by
  have hb0 := one_box' w (.cells #[.int .i64 kd, .int .i64 q, .int .i64 inc, .int .i64 tick, .slice A n cap] 61)
  have hO := Blk.new w 61 #[.int .i64 kd, .int .i64 q, .int .i64 inc, .int .i64 tick, .slice A n cap]
  obtain ⟨w0, hw0⟩ : ∃ w0, w0 = w.alloc (.cells #[.int .i64 kd, .int .i64 q, .int .i64 inc, .int .i64 tick, .slice A n cap] 61) := ⟨_, rfl⟩
  rw [← hw0] at hb0 hO
  have HP := Lib.hid (h.below hb0)
  have HH := Lib.hid (hw.over hb0)
  have HR := Lib.hid (hr.below (hb0.mono (Nat.le_trans hBi hB)))
  have HW0 := Lib.hid hw0
  have HB0 := Lib.hid hb0
  have HO := Lib.hid hO
  have HFF := Lib.hid (And.intro hF1 (And.intro hF2 hF3))
  have HFG := Lib.hid hFG
  have H17 := Lib.hid hK17
  have HGb : Hid (∀ k, G k → k < w0.heap.size) := Lib.hid fun k hk => Nat.lt_of_lt_of_le (hGb k hk) hb0.size
  have HFB := Lib.hid hFB
  have HFFb : Hid (∀ k, FF k → k < w.heap.size) := Lib.hid fun k hk => (hF3 k hk).elim (by obtain ⟨_, _, _, _, _, _, _, h6⟩ := h; exact h6 k) (hGb k)
  have hB0 : B ≤ w0.heap.size := Nat.le_trans hB hb0.size
  have hs0 := hb0.size
  have hXF : ¬ FF w.heap.size := fun hf => by have := HFFb.out _ hf; omega
  have HXF := Lib.hid hXF
  have HXH : Hid (w.heap.size ≠ H) := Lib.hid fun e => by have := hw.blk.lt; omega
  have o0 : w0.cell? ⟨w.heap.size, 0, none⟩ = some (.int .i64 kd) := hO.cell 0
  have o1 : w0.cell? ⟨w.heap.size, 1, none⟩ = some (.int .i64 q) := hO.cell 1
  have o2 : w0.cell? ⟨w.heap.size, 2, none⟩ = some (.int .i64 inc) := hO.cell 2
  have o3 : w0.cell? ⟨w.heap.size, 3, none⟩ = some (.int .i64 tick) := hO.cell 3
  have o4 : w0.cell? ⟨w.heap.size, 4, none⟩ = some (.slice A n cap) := hO.cell 4
  clear h hw hr hw0 hb0 hO hF1 hF2 hF3 hFG hGb hFB hXF hK17
  go_enter Try.func39, Try.ntmps39
  go_upto_region 1 with fail
  rw [← HW0.out]
  by_cases h2 : kd = 2
  · have e2 : (kd == 2) = true := by simpa using h2
    have HL := Lib.hid (lends_any A n cap hs kd q inc tick hc HP.out hn HFG.out HGb.out HFF.out.1 HFF.out.2.1 HFF.out.2.2 HH.out HR.out hBi hB0 HFB.out hm)
    clear h2
    go_wp2_with (go_at_call 58; refine HL.out.mono ?_; rintro _ w1 ⟨rfl, F', l', vR', a1, a2, a3, a4, a5⟩; have HE : Hid (HeldP w B F G c D K l H vM KL (.returned (.bool true)) w1) := Lib.hid ⟨rfl, F', l', vG, vW, vR', KL, a1, a2, fun k hk => (a3 k hk).imp id fun h => (by omega), a4, (by omega), (Chg.of_below HB0.out _).trans a5, H17.out⟩; clear a1 a2 a3 a4 a5)
    go_ret
    exact HE.out
  · have e2 : (kd == 2) = false := by simpa using h2
    clear h2
    by_cases h47 : kd < 4 ∨ 7 < kd
    · have hrx : RdI w0 w0.heap.size A n hs := HR.out.more (Nat.le_trans hBi hB0)
      have HD := Lib.hid (does_any A n cap hs kd q inc tick hc HP.out hn hrx (by omega) (fun hp b o s e hf => by
        obtain ⟨b2, o2, e', hlt', _⟩ := HR.out.at_ hp
        rw [e] at e'; injection e' with e'; injection e' with e'
        have := HFB.out b hf
        omega))
      clear hrx
      go_upto_region 3 with fail
      go_cut [28] from 62 to 62 (fun t wc => t = .bool true ∧ Hid (wc = w0))
      case first =>
        rcases h47 with h | h
        · go_wp2_with fail
          go_meet
          exact ⟨rfl, Lib.hid rfl⟩
        · have e4 : decide (kd < 4) = false := by simp; omega
          go_wp2_with fail
          go_meet
          exact ⟨rfl, Lib.hid rfl⟩
      case rest =>
        obtain ⟨rfl, HWC⟩ := hcut
        rw [HWC.out]
        clear HWC h47
        go_wp2_with (first
          | (go_at_call 33; refine HD.out.mono ?_; rintro _ w3 ⟨rfl, F', l', hp', hl', hm⟩; have HM := Lib.hid (And.intro hp' (And.intro hl' hm)); have hO3 := HO.out.chg hm.2 (fun h => HXF.out (HFF.out.1 _ h)); clear o0 o1 o2 o3 o4 hp' hl' hm; have o0 : w3.cell? ⟨w.heap.size, 0, none⟩ = some (.int .i64 kd) := hO3.cell 0; have o1 : w3.cell? ⟨w.heap.size, 1, none⟩ = some (.int .i64 q) := hO3.cell 1; have o2 : w3.cell? ⟨w.heap.size, 2, none⟩ = some (.int .i64 inc) := hO3.cell 2; have o3 : w3.cell? ⟨w.heap.size, 3, none⟩ = some (.int .i64 tick) := hO3.cell 3; have o4 : w3.cell? ⟨w.heap.size, 4, none⟩ = some (.slice A n cap) := hO3.cell 4; have HT := Lib.hid (tells_any A n cap kd q inc tick hc HM.out.1 (Nat.lt_of_le_of_lt HM.out.2.1 (show l.length + 1 < 3518437208883 from hn2))); clear hO3)
          | (go_at_call 34; refine HT.out.mono ?_; rintro _ w4 ⟨rfl, hb4⟩; have HB4 := Lib.hid hb4; clear hb4))
        have HE : Hid (HeldP w B F G c D K l H vM KL (.returned (.bool true)) w4) := by
          obtain ⟨hp', hl', hm⟩ := HM.out
          have hcc := hm.2.mono (S' := FF) fun k _ h => HFF.out.1 k h
          have h1 := HH.out.moreF (F' := fun k => F' k ∨ G k) hcc fun k hk => hk.elim (fun h => (hm.1 k h).imp (HFF.out.1 k) id) fun h => .inl (HFF.out.2.1 k h)
          refine Lib.hid ⟨rfl, F', l', vG, vW, vR, KL, hp'.below HB4.out, hl', fun k hk => (hm.1 k hk).imp id fun h => (by omega), h1.over HB4.out, by omega, (((Chg.of_below HB0.out _).trans (hm.2.mono fun k _ h => ⟨HFB.out k h, HFG.out k h⟩)).trans (Chg.of_below HB4.out _)), H17.out⟩
        go_ret
        exact HE.out
    · have e4 : decide (kd < 4) = false := by simp; omega
      have e7 : decide (7 < kd) = false := by simp; omega
      have hln := lstT_len kd hc l
      have HLN := Lib.hid hln
      have HST : Hid (HeldW w0 B FF H vG vW vM vR KL ∧ Pair w0 F c D K l ∧ Chg (fun k => B ≤ k ∧ ¬ FF k) w0 w0 ∧ Blk w0 w.heap.size 61 #[.int .i64 kd, .int .i64 q, .int .i64 inc, .int .i64 tick, .slice A n cap] ∧ (∀ (k : Nat) (x : Gt), KL[k]? = some x → x.l.length ≤ 17)) := Lib.hid ⟨HH.out, HP.out, Chg.refl _ _, HO.out, H17.out⟩
      clear h47 hln
      go_wp2_with fail
      go_loopw [9, 10, 11, 12] (fun i _ _ _ wr => ∃ (j : Nat) (vG' vW' : Value) (KL' : List Gt), j ≤ 2 ∧ i = .int .i64 (j : Int) ∧ KL'.length = KL.length + j ∧ Hid (HeldW wr B FF H vG' vW' vM vR KL' ∧ Pair wr F c D K l ∧ Chg (fun k => B ≤ k ∧ ¬ FF k) w0 wr ∧ Blk wr w.heap.size 61 #[.int .i64 kd, .int .i64 q, .int .i64 inc, .int .i64 tick, .slice A n cap] ∧ (∀ (k : Nat) (x : Gt), KL'[k]? = some x → x.l.length ≤ 17))) (fun i _ _ _ _ => 2 - (intOf i).toNat)
      case atStart => exact ⟨0, vG, vW, KL, by omega, rfl, rfl, HST⟩
      case round =>
        clear HST o0 o1 o2 o3 o4
        obtain ⟨j, vG', vW', KL', hj, rfl, hKL, HST⟩ := hrel
        by_cases hlt : j < 2
        · have hI : (j : Int) < 2 := by omega
          have HLS := Lib.hid (listed_any hc HST.out.2.1 hn kd)
          have o0 : wr.cell? ⟨w.heap.size, 0, none⟩ = some (.int .i64 kd) := HST.out.2.2.2.1.cell 0
          generalize lstT kd c (dOf c l) = L at *
          go_upto_region 9 with (go_at_call 59; refine HLS.out.mono ?_; rintro _ w3 ⟨A1, c1, A2, c2, rfl, ho1, ho2, hb3⟩; have HO1 := Lib.hid ho1; have HO2 := Lib.hid ho2; have HB3 := Lib.hid hb3; clear ho1 ho2 hb3)
          have hsm := same_yes A1 A2 L.length c1 c2 L w3 (Rd.of_own HO1.out) (Rd.of_own HO2.out) (by have := HLN.out; omega)
          have HSM := Lib.hid hsm
          clear hsm o0
          go_upto_region 11 with (go_at_call 31; refine HSM.out.mono ?_; rintro _ w4 ⟨rfl, hb4⟩; have HB4 := Lib.hid hb4; clear hb4)
          have hBr : B ≤ wr.heap.size := Nat.le_trans hB0 HST.out.2.2.1.size
          have hb34 : Below wr.heap.size wr w4 := HB3.out.trans (HB4.out.mono HB3.out.size)
          have hFr : ∀ k, FF k → k < wr.heap.size := fun k hk => Nat.lt_of_lt_of_le (HFFb.out k hk) (Nat.le_trans hs0 HST.out.2.2.1.size)
          have hnew : NewL w4 B FF vR KL' (.slice A1 L.length c1) L := by
            have ho4 := own_over HO1.out HB4.out
            refine ⟨own_base ho4 hBr, fun g hg hf => ?_, fun g h1 h2 => ?_, fun k x hk g h1 h2 => ?_⟩
            · have h3 := (own_block_lt ho4 hg).2.1
              have h4 := hFr g hf
              omega
            · have h3 := (own_block_lt ho4 h2).2.1
              have h4 := (own_block_lt HST.out.1.room h1).1
              omega
            · have h3 := (own_block_lt ho4 h2).2.1
              have h4 := (own_block_lt (HST.out.1.eg k x hk) h1).1
              omega
          have HKP := Lib.hid (keep_any (HST.out.1.over hb34) L A1 c1 hnew (fun k hk => Nat.lt_of_lt_of_le (hFr k hk) hb34.size) (Nat.le_trans hBr hb34.size) (by have := HLN.out; omega) (by omega))
          have HB34 := Lib.hid hb34
          clear hnew hFr hb34
          go_wp2_with (go_at_call 60; refine HKP.out.mono ?_; rintro _ w5 ⟨rfl, vG2, vW2, g2, hh5, hc5, hk5⟩; have HN5 : Hid (HeldW w5 B FF H vG2 vW2 vM vR (KL' ++ [⟨L, A1, c1, some ⟨g2, 0, none⟩, L.length⟩]) ∧ Pair w5 F c D K l ∧ Chg (fun k => B ≤ k ∧ ¬ FF k) w0 w5 ∧ Blk w5 w.heap.size 61 #[.int .i64 kd, .int .i64 q, .int .i64 inc, .int .i64 tick, .slice A n cap] ∧ (∀ (k : Nat) (x : Gt), (KL' ++ [⟨L, A1, c1, some ⟨g2, 0, none⟩, L.length⟩])[k]? = some x → x.l.length ≤ 17)) := Lib.hid ⟨hh5, (HST.out.2.1.below HB34.out).chg hc5 (fun k hk h => h.2 (HFF.out.1 k hk)), (HST.out.2.2.1.trans (Chg.of_below HB34.out _)).trans hc5, hk5 _ _ _ (HST.out.2.2.2.1.over HB34.out) (by decide) (fun e => HXH.out e), snoc17 HST.out.2.2.2.2 HLN.out⟩; clear hh5 hc5 hk5)
          go_roundw
          case rel => exact ⟨j + 1, vG2, vW2, _, by omega, by go_num, by simp; omega, HN5⟩
          case measure => simp [intOf] <;> omega
        · obtain rfl : j = 2 := by omega
          have HE : Hid (HeldP w B F G c D K l H vM KL (.returned (.bool true)) wr) := Lib.hid ⟨rfl, F, l, vG', vW', vR, KL', HST.out.2.1, by omega, fun k hk => .inl hk, by
            have := HST.out.1
            refine HeldW.moreF this (Chg.refl _ _) fun k hk => .inl (hk.elim (HFF.out.1 k) (HFF.out.2.1 k)), by omega, (Chg.of_below HB0.out _).trans (HST.out.2.2.1.mono fun k _ h => ⟨h.1, fun hg => h.2 (HFF.out.2.1 k hg)⟩), HST.out.2.2.2.2⟩
          go_wp2
          go_ret
          exact HE.out
end
end Go.Proofs.Ytfjpmoigpnmeoaa
