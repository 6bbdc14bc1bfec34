/-
  FragThereAndBack, walked.
-/
import Derived.Test.YtgapkphkcncgeaaDoorThereP
import Derived.Test.YtgapkphkcncgeaaDoorNoWrongM
import Derived.Test.YtgapkphkcncgeaaDoorBools
import Derived.Deep.CutRange
namespace Go.Proofs.YtgapkphkcncgeaaDoor
open Go.RowKit

/-- What the loop of the takes stands on. -/
structure Lanes (w w0 : World) (F : Nat → Prop) (N J : Nat) (st : JSt) (bl ch wh at_ : Nat) (A2 A3 : Option Addr) (m1 k2 m2 k3 b0 o0 T0 C0 p0 b1 o1 T1 C1 p1 : Nat) (bs0 bs1 : List UInt8) (a b : Nat) : Prop where
  al : Alone w w0 F N J st
  c0 : Cks w F b0 o0 T0 C0 bs0
  c1 : Cks w F b1 o1 T1 C1 bs1
  blB : Blk w bl 22 #[.slice A2 m1 k2, .slice A3 m2 k3]
  chB : Blk w ch 55 #[.slice (some ⟨b0, o0, none⟩) C0 p0, .slice (some ⟨b1, o1, none⟩) C1 p1]
  whB : Blk w wh 56 #[.int .i64 0, .int .i64 ((N : Int) - 1)]
  atB : Blk w at_ 56 #[.int .i64 (a : Int), .int .i64 (b : Int)]
  nF : ¬ F bl ∧ ¬ F ch ∧ ¬ F wh ∧ ¬ F at_
  ne : bl ≠ at_ ∧ ch ≠ at_ ∧ wh ≠ at_ ∧ b0 ≠ at_ ∧ T0 ≠ at_ ∧ b1 ≠ at_ ∧ T1 ≠ at_
  lo : w0.heap.size ≤ at_
section
variable {w w' w0 : World} {F F' : Nat → Prop} {N J : Nat} {st st' : JSt} {bl ch wh at_ : Nat} {A2 A3 : Option Addr} {m1 k2 m2 k3 b0 o0 T0 C0 p0 b1 o1 T1 C1 p1 : Nat} {bs0 bs1 : List UInt8} {a b a' b' : Nat}
theorem moved_not {g : Nat} (h : ¬ F g) (hg : g < w.heap.size) (hm : Moved w w' F F') : ¬ F' g := fun hf => by
  rcases hm.1 g hf with h1 | h1
  · exact h h1
  · omega
theorem Lanes.moved (h : Lanes w w0 F N J st bl ch wh at_ A2 A3 m1 k2 m2 k3 b0 o0 T0 C0 p0 b1 o1 T1 C1 p1 bs0 bs1 a b) (ha : Alone w' w0 F' N J st') (hm : Moved w w' F F') :
    Lanes w' w0 F' N J st' bl ch wh at_ A2 A3 m1 k2 m2 k3 b0 o0 T0 C0 p0 b1 o1 T1 C1 p1 bs0 bs1 a b :=
  ⟨ha, h.c0.moved hm, h.c1.moved hm, h.blB.chg hm.2 h.nF.1, h.chB.chg hm.2 h.nF.2.1, h.whB.chg hm.2 h.nF.2.2.1, h.atB.chg hm.2 h.nF.2.2.2,
    ⟨moved_not h.nF.1 h.blB.lt hm, moved_not h.nF.2.1 h.chB.lt hm, moved_not h.nF.2.2.1 h.whB.lt hm, moved_not h.nF.2.2.2 h.atB.lt hm⟩, h.ne, h.lo⟩
theorem Cks.side {S : Nat → Prop} {c o T C : Nat} {bs : List UInt8} (h : Cks w F c o T C bs) (hc : Chg S w w') (hb : ¬ S c) (hT : ¬ S T) : Cks w' F c o T C bs :=
  ⟨Nat.lt_of_lt_of_le h.bl hc.size, Nat.lt_of_lt_of_le h.tl hc.size, fun k hk => (World.cell?_of_block (hc.block c h.bl hb)).trans (h.cell k hk),
    fun k hk => ((h.rd k hk).chgN hc (Nat.le_refl _) (fun b' o' s' e hF => by injection e with e; injection e with e; subst e; exact hT hF)).more hc.size, h.bF, h.tF⟩
/-- a counter set. -/
theorem Lanes.set_ (h : Lanes w w0 F N J st bl ch wh at_ A2 A3 m1 k2 m2 k3 b0 o0 T0 C0 p0 b1 o1 T1 C1 p1 bs0 bs1 a b) (i : Nat) (v : Value) (hat : (#[Value.int .i64 (a : Int), .int .i64 (b : Int)]).setIfInBounds i v = #[.int .i64 (a' : Int), .int .i64 (b' : Int)]) :
    Lanes (w.setCell ⟨at_, i, none⟩ v) w0 F N J st bl ch wh at_ A2 A3 m1 k2 m2 k3 b0 o0 T0 C0 p0 b1 o1 T1 C1 p1 bs0 bs1 a' b' := by
  have hc : Chg (fun k => k = at_) w (w.setCell ⟨at_, i, none⟩ v) := (Chg.refl (fun k => k = at_) w).setCell (p := ⟨at_, i, none⟩) (.inl rfl) v
  obtain ⟨n1, n2, n3, n4, n5, n6, n7⟩ := h.ne
  have hb := h.atB.set_ i v
  rw [hat] at hb
  exact ⟨h.al.side hc (fun k e => by subst e; exact h.lo) (fun k hk e => by subst e; exact h.nF.2.2.2 hk), h.c0.side hc n4 n5, h.c1.side hc n6 n7, h.blB.chg hc n1, h.chB.chg hc n2, h.whB.chg hc n3, hb, h.nF, h.ne, h.lo⟩
end
/-- Where an owned list of chunks lies. -/
theorem own_ge {w : World} {B b o C p : Nat} {xs : List Value} (h : w.ownsRow B 22 1 (.slice (some ⟨b, o, none⟩) C p) C xs) (hC : 0 < C) : B ≤ b := by
  obtain ⟨g, cap, cur, e, hg, _⟩ := own_parts h hC
  injection e with e
  injection e with e
  injection e with e
  omega
set_option maxRecDepth 100000 in
set_option maxHeartbeats 6400000 in
theorem FragThereAndBack_walk (x0 : Int) (A1 : Option Addr) (n1 k1 : Nat) (A2 : Option Addr) (n2 k2 : Nat) (bs2 : List UInt8) (A3 : Option Addr) (n3 k3 : Nat) (bs3 : List UInt8) (A4 : Option Addr) (n4 k4 : Nat) (Z : Nat → Bool) (w : World) (hx0 : -9223372036854775808 ≤ x0) (hx1 : x0 ≤ 9223372036854775807)
    (hn1 : n1 ≤ k1) (hk1 : k1 ≤ 140737488351232) (ho : Ops w w.heap.size A1 n1) (hn2 : n2 ≤ k2) (hk2 : k2 ≤ 140737488351232) (hr2 : RdB w w.heap.size A2 n2 bs2) (hn3 : n3 ≤ k3) (hk3 : k3 ≤ 140737488351232) (hr3 : RdB w w.heap.size A3 n3 bs3) (hn4 : n4 ≤ k4) (hk4 : k4 ≤ maxLen) (hz4 : Bools w w.heap.size A4 n4 Z) (ht : Nibs w) :
    Calls Tryd.prog 9 #[.int .i64 x0, .slice A1 n1 k1, .slice A2 n2 k2, .slice A3 n3 k3, .slice A4 n4 k4] w fun e w' => e = .returned (.bool true) ∧ Below w.heap.size w w' := by
  have HO := Lib.hid ho
  have HR2 := Lib.hid hr2
  have HR3 := Lib.hid hr3
  have HZ4 := Lib.hid hz4
  clear ho hr2 hr3 hz4
  go_enter Tryd.func9, Tryd.ntmps9
  go_wp2_with fail
  refine (size_any _ _).mono ?_
  rintro _ _ ⟨N, hN1, hN, rfl, rfl⟩
  go_wp2_with fail
  refine (PNew_yes N w hN1 hN).mono ?_
  rintro _ w1 ⟨J, F, rfl, hp1, hF1, hb1⟩
  have HAL : Hid (Alone w1 w F N J (fun _ => [])) := ⟨hp1, fun s _ => Part.nil_, hF1, hb1⟩
  clear hp1 hF1
  go_wp2_with fail
  go_loopw [14] (fun i wr => ∃ (k : Nat) (F : Nat → Prop) (st : JSt), k ≤ n1 ∧ i = .int .i64 (k : Int) ∧ Hid (Alone wr w F N J st) ∧ Below w.heap.size w wr) (fun i _ => n1 - (intOf i).toNat)
  case atStart => exact ⟨0, F, _, by omega, rfl, HAL, hb1⟩
  case round =>
    obtain ⟨k, F, st, hk, rfl, HX, hb⟩ := hrel
    by_cases hlt : k < n1
    · as_aux_lemma =>
      obtain ⟨b, off, rfl, hbl, hops⟩ := (HO.out.below hb) (by omega)
      obtain ⟨kd, sd, Ac, nc, capc, bs, hop⟩ := hops k hlt
      have c0 := hop.c0
      have c1 := hop.c1
      have c2 := hop.c2
      have hltI : (k : Int) < (n1 : Int) := by omega
      have hle := hop.le
      have hcap := hop.cap
      have HRC := Lib.hid hop.rd
      have hsz := hb.size
      clear hop hops
      by_cases hk1 : kd = 1
      · subst hk1
        go_wp2_with fail
        refine region_tail 11 (by kernel_rfl) (by kernel_rfl) ?_
        simp only [List.take_succ_cons, List.take_zero, List.drop_succ_cons, List.drop_zero]
        repeat (first | still_step | (refine wpStill_step (fun K hK => ?_); rw [if_pos (by kernel_rfl)]; go_simp; refine hK _ ?_; clear hK K))
        refine wpStill_nil ?_
        go_wp2_with fail
        refine (op_take (HX.out.over (below_drewN (Below.refl _ _) 1)) ht hN (HRC.out.keep fun _ _ => rfl) hle (by omega) sd).mono ?_
        intro e3 w3 hT3
        obtain ⟨u, bb, ok, er, st', F2, hS, rfl, hret, hp3, hm3⟩ := hT3
        have hok := takeS_ok HX.out.ok sd bs
        rw [← hS] at hok
        have HN : Hid (Alone w3 w F2 N J st') := (HX.out.over (below_drewN (Below.refl _ _) 1)).moved hp3 hok hm3
        have hb3 := HN.out.below
        clear hS hret hp3 hm3 hok
        go_wp2
        go_roundw
        case rel => first | exact ⟨k + 1, F2, st', by omega, by go_num, HN, hb3⟩ | ((repeat apply Exists.intro); refine And.symm ⟨?_, ?_⟩; (focus rfl); exact ⟨k + 1, F2, st', by omega, by go_num, HN, hb3⟩)
        case measure => simp [intOf] <;> omega
      · by_cases hk3 : kd = 3
        · subst hk3
          go_wp2_with fail
          refine (PReset_any J N F st _ HX.out.p hN1).mono ?_
          rintro _ w3 ⟨rfl, hp3, hm3⟩
          have HN : Hid (Alone w3 w F N J (fun _ => [])) := HX.out.moved hp3 (fun s _ => Part.nil_) hm3
          have hb3 := HN.out.below
          clear hp3 hm3
          go_wp2
          go_roundw
          case rel => first | exact ⟨k + 1, F, _, by omega, by go_num, HN, hb3⟩ | ((repeat apply Exists.intro); refine And.symm ⟨?_, ?_⟩; (focus rfl); exact ⟨k + 1, F, _, by omega, by go_num, HN, hb3⟩)
          case measure => simp [intOf] <;> omega
        · have e1 : (kd == 1) = false := by simpa using hk1
          have e3 : (kd == 3) = false := by simpa using hk3
          go_wp2
          go_roundw
          case rel => exact ⟨k + 1, F, st, by omega, by go_num, HX, hb⟩
          case measure => simp [intOf] <;> omega
    · clear HAL hb1
      rename World => wA
      go_wp2_with fail
      refine (short_any A2 n2 k2 wA hn2 (by omega)).mono ?_
      rintro _ _ ⟨m1, hm1, rfl, rfl⟩
      have hm14 : m1 ≤ 4000 := by omega
      have hm1n : m1 ≤ n2 := by omega
      clear hm1
      go_wp2_with fail
      refine (short_any A3 n3 k3 wA hn3 (by omega)).mono ?_
      rintro _ _ ⟨m2, hm2, rfl, rfl⟩
      have hm24 : m2 ≤ 4000 := by omega
      have hm2n : m2 ≤ n3 := by omega
      clear hm2
      have hq2 := HR2.out.takeB hm1n
      have hq3 := HR3.out.takeB hm2n
      have hm1k : m1 ≤ k2 := by omega
      have hm2k : m2 ≤ k3 := by omega
      generalize bs2.take m1 = bs0 at hq2
      generalize bs3.take m2 = bs1 at hq3
      have HQ2 := Lib.hid hq2
      have HQ3 := Lib.hid hq3
      have HL2 := Lib.hid hq2.lenB
      have HL3 := Lib.hid hq3.lenB
      obtain ⟨C0, hC0, d1, d2, d3, d4, d5⟩ := cnt_nat m1 hm14
      obtain ⟨C1, hC1, e1, e2, e3, e4, e5⟩ := cnt_nat m2 hm24
      have HC0 := Lib.hid hC0
      have HC1 := Lib.hid hC1
      clear hq2 hq3 hC0 hC1
      have HX2 : Hid (Alone ((wA.alloc (.cells #[.slice A2 m1 k2, .slice A3 m2 k3] 22)).alloc (.cells #[.slice none 0 0, .slice none 0 0] 55)) w F N J st) := (HX.out.over ((Below.refl _ _).alloc (Nat.le_refl _) _)).over ((Below.refl _ _).alloc (Nat.le_refl _) _)
      have HBL : Hid (Blk ((wA.alloc (.cells #[.slice A2 m1 k2, .slice A3 m2 k3] 22)).alloc (.cells #[.slice none 0 0, .slice none 0 0] 55)) wA.heap.size 22 #[.slice A2 m1 k2, .slice A3 m2 k3]) := (Blk.new wA _ _).alloc _
      have HCH : Hid (Blk ((wA.alloc (.cells #[.slice A2 m1 k2, .slice A3 m2 k3] 22)).alloc (.cells #[.slice none 0 0, .slice none 0 0] 55)) (wA.heap.size + 1) 55 #[.slice none 0 0, .slice none 0 0]) := by
        have h1 := Blk.new (wA.alloc (.cells #[.slice A2 m1 k2, .slice A3 m2 k3] 22)) 55 #[.slice none 0 0, .slice none 0 0]
        rw [show (wA.alloc (.cells #[.slice A2 m1 k2, .slice A3 m2 k3] 22)).heap.size = wA.heap.size + 1 by simp] at h1
        exact h1
      go_wp2_with fail
      refine wp_loop_rounds 3 ?_
      rw [rounds_succ]
      go_wp2_with fail
      refine (Split_yes A2 m1 k2 bs0 _ ((HQ2.out.below HX2.out.below).more HX2.out.below.size) hm1k (by omega) hm14 (HX2.out.nibs ht).1 C0 HC0.out).mono ?_
      rintro _ w5 ⟨v, T0, curT, rfl, hol, hT, hcT, hgT, hb5⟩
      obtain ⟨b0, o0, p0, rfl, hp0, hp0m, hck0⟩ := Cks.of_split HL2.out hm14 HC0.out hol hT hcT hgT HX2.out.p.1
      have hg5 := own_ge hol (by omega)
      have HX5 := Lib.hid (HX2.out.over hb5)
      have HBL5 := Lib.hid (HBL.out.over hb5)
      have HCH5 := Lib.hid (HCH.out.over hb5)
      have HCK0 := Lib.hid hck0
      have HGE := Lib.hid hgT
      have kb0 : w5.cell? ⟨wA.heap.size, 0, none⟩ = some (.slice A2 m1 k2) := HBL5.out.cell 0
      have kc0 : w5.cell? ⟨wA.heap.size + 1, 0, none⟩ = some (.slice none 0 0) := HCH5.out.cell 0
      have kf0 : w5.frozen? ⟨wA.heap.size + 1, 0, none⟩ = false := HCH5.out.frozen 0
      have i0 : ((C0 : Int) == 0) = false := by simp; omega
      have i1 : ((C1 : Int) == 0) = false := by simp; omega
      clear hol hT hcT hgT hb5 hck0
      go_wp2_with (go_at_call 28; refine (FCount_any (m1 : Int) _ (by omega) (by omega)).mono ?_; rintro _ _ ⟨rfl, rfl⟩; rw [HC0.out])
      have hcS : Chg (fun k => k = wA.heap.size + 1) w5 (w5.setCell ⟨wA.heap.size + 1, 0, none⟩ (.slice (some ⟨b0, o0, none⟩) C0 p0)) := (Chg.refl (fun k => k = wA.heap.size + 1) w5).setCell (p := ⟨wA.heap.size + 1, 0, none⟩) (.inl rfl) _
      have HX6 := Lib.hid (HX5.out.side hcS (fun k e => by have := hb.size; omega) (fun k hk e => by have := HX.out.p.1 k hk; omega))
      have HBL6 := Lib.hid (HBL5.out.chg hcS (by omega))
      have HCH6 : Hid (Blk (w5.setCell ⟨wA.heap.size + 1, 0, none⟩ (.slice (some ⟨b0, o0, none⟩) C0 p0)) (wA.heap.size + 1) 55 #[.slice (some ⟨b0, o0, none⟩) C0 p0, .slice none 0 0]) := HCH5.out.set_ 0 (.slice (some ⟨b0, o0, none⟩) C0 p0)
      have hTg := HGE.out
      have hnb : b0 ≠ wA.heap.size + 1 := by
        have : (wA.heap.size + 1) + 1 ≤ b0 := by simpa using hg5
        omega
      have hnT : T0 ≠ wA.heap.size + 1 := by
        have : (wA.heap.size + 1) + 1 ≤ T0 := by simpa using hTg
        omega
      have HCK6 := Lib.hid (HCK0.out.side hcS hnb hnT)
      have kb1 := HBL6.out.cell 1
      clear kb0 kc0 kf0 hTg hcS
      rw [rounds_succ]
      go_wp2_with fail
      refine (Split_yes A3 m2 k3 bs1 _ ((HQ3.out.below HX6.out.below).more HX6.out.below.size) hm2k (by omega) hm24 (HX6.out.nibs ht).1 C1 HC1.out).mono ?_
      rintro _ w7 ⟨v, T1, curT1, rfl, hol, hT, hcT, hgT, hb7⟩
      obtain ⟨b1, o1, p1, rfl, hp1, hp1m, hck1⟩ := Cks.of_split HL3.out hm24 HC1.out hol hT hcT hgT HX6.out.p.1
      have hg7 := own_ge hol (by omega)
      have HX7 := Lib.hid (HX6.out.over hb7)
      have HBL7 := Lib.hid (HBL6.out.over hb7)
      have HCH7 := Lib.hid (HCH6.out.over hb7)
      have HCK70 := Lib.hid (HCK6.out.moved (Moved.of_below F hb7))
      have HCK71 := Lib.hid hck1
      have HGE1 := Lib.hid hgT
      have kb1' : w7.cell? ⟨wA.heap.size, 1, none⟩ = some (.slice A3 m2 k3) := HBL7.out.cell 1
      have kc1 : w7.cell? ⟨wA.heap.size + 1, 1, none⟩ = some (.slice none 0 0) := HCH7.out.cell 1
      have kf1 : w7.frozen? ⟨wA.heap.size + 1, 1, none⟩ = false := HCH7.out.frozen 1
      clear hol hT hcT hgT hb7 hck1 kb1
      go_wp2_with (go_at_call 28; refine (FCount_any (m2 : Int) _ (by omega) (by omega)).mono ?_; rintro _ _ ⟨rfl, rfl⟩; rw [HC1.out])
      have hcS : Chg (fun k => k = wA.heap.size + 1) w7 (w7.setCell ⟨wA.heap.size + 1, 1, none⟩ (.slice (some ⟨b1, o1, none⟩) C1 p1)) := (Chg.refl (fun k => k = wA.heap.size + 1) w7).setCell (p := ⟨wA.heap.size + 1, 1, none⟩) (.inl rfl) _
      have HX8 := Lib.hid (HX7.out.side hcS (fun k e => by have := hb.size; omega) (fun k hk e => by have := HX.out.p.1 k hk; omega))
      have HBL8 := Lib.hid (HBL7.out.chg hcS (by omega))
      have HCH8 : Hid (Blk (w7.setCell ⟨wA.heap.size + 1, 1, none⟩ (.slice (some ⟨b1, o1, none⟩) C1 p1)) (wA.heap.size + 1) 55 #[.slice (some ⟨b0, o0, none⟩) C0 p0, .slice (some ⟨b1, o1, none⟩) C1 p1]) := HCH7.out.set_ 1 (.slice (some ⟨b1, o1, none⟩) C1 p1)
      have hTg := HGE1.out
      have h6s : wA.heap.size + 1 + 1 ≤ (w5.setCell ⟨wA.heap.size + 1, 0, none⟩ (.slice (some ⟨b0, o0, none⟩) C0 p0)).heap.size := HCH6.out.lt
      have HCK80 := Lib.hid (HCK70.out.side hcS hnb hnT)
      have HCK81 := Lib.hid (HCK71.out.side hcS (by omega) (by omega))
      clear kb1' kc1 kf1 hTg hcS h6s
      obtain ⟨w8, hw8⟩ : ∃ x, x = w7.setCell ⟨wA.heap.size + 1, 1, none⟩ (.slice (some ⟨b1, o1, none⟩) C1 p1) := ⟨_, rfl⟩
      rw [← hw8] at HX8 HBL8 HCH8 HCK80 HCK81 ⊢
      clear hw8 HX7 HBL7 HCH7 HCK70 HCK71 HX6 HBL6 HCH6 HCK6 HX5 HBL5 HCH5 HCK0 HX2 HBL HCH
      have HFA : Hid (∀ k, F k → k < wA.heap.size) := Lib.hid HX.out.p.1
      have HL0 : Hid (Lanes ((w8.alloc (.cells #[.int .i64 0, .int .i64 ((N : Int) - 1)] 56)).alloc (.cells #[.int .i64 0, .int .i64 0] 56)) w F N J st wA.heap.size (wA.heap.size + 1) w8.heap.size (w8.heap.size + 1) A2 A3 m1 k2 m2 k3 b0 o0 T0 C0 p0 b1 o1 T1 C1 p1 bs0 bs1 0 0) := by
        have ba1 : Below w8.heap.size w8 (w8.alloc (.cells #[.int .i64 0, .int .i64 ((N : Int) - 1)] 56)) := (Below.refl _ _).alloc (Nat.le_refl _) _
        have ba2 : Below (w8.alloc (.cells #[.int .i64 0, .int .i64 ((N : Int) - 1)] 56)).heap.size (w8.alloc (.cells #[.int .i64 0, .int .i64 ((N : Int) - 1)] 56)) ((w8.alloc (.cells #[.int .i64 0, .int .i64 ((N : Int) - 1)] 56)).alloc (.cells #[.int .i64 0, .int .i64 0] 56)) := (Below.refl _ _).alloc (Nat.le_refl _) _
        have s8 := HCH8.out.lt
        have f8 := HFA.out
        have l1 := HCK80.out.bl
        have l2 := HCK80.out.tl
        have l3 := HCK81.out.bl
        have l4 := HCK81.out.tl
        have hat := Blk.new (w8.alloc (.cells #[.int .i64 0, .int .i64 ((N : Int) - 1)] 56)) 56 #[.int .i64 0, .int .i64 0]
        rw [show (w8.alloc (.cells #[.int .i64 0, .int .i64 ((N : Int) - 1)] 56)).heap.size = w8.heap.size + 1 by simp] at hat
        exact ⟨(HX8.out.over ba1).over ba2, (HCK80.out.moved (Moved.of_below F ba1)).moved (Moved.of_below F ba2), (HCK81.out.moved (Moved.of_below F ba1)).moved (Moved.of_below F ba2), (HBL8.out.alloc _).alloc _, (HCH8.out.alloc _).alloc _, (Blk.new w8 _ _).alloc _, hat,
          ⟨fun h => by have := f8 _ h; omega, fun h => by have := f8 _ h; omega, fun h => by have := f8 _ h; omega, fun h => by have := f8 _ h; omega⟩,
          ⟨by omega, by omega, by omega, by omega, by omega, by omega, by omega⟩, by have := HX8.out.below.size; omega⟩
      have hbL := HL0.out.al.below
      rw [rounds_succ]
      go_upto_if 113 with fail
      go_cut [4] from 114 (fun t4 wx => ∃ (A5 : Option Addr) (n5 k5 : Nat), t4 = .slice A5 n5 k5 ∧ Hid (n5 ≤ k5 ∧ k5 ≤ maxLen ∧ Bools w w.heap.size A5 n5 Z ∧ (N = 1 → n5 = 0)) ∧ w8.alloc (.cells #[.int .i64 0, .int .i64 ((N : Int) - 1)] 56) = wx)
      case first => as_aux_lemma =>
        by_cases h1 : N = 1
        · have e1 : ((N : Int) == 1) = true := by simp; omega
          go_wp2_with fail
          go_meet
          exact ⟨none, 0, 0, rfl, ⟨by omega, by simp [maxLen], fun h => absurd h (by omega), fun _ => rfl⟩, rfl⟩
        · have e1 : ((N : Int) == 1) = false := by simp; omega
          go_wp2_with fail
          go_meet
          exact ⟨A4, n4, k4, rfl, ⟨hn4, hk4, HZ4.out, fun h => absurd h h1⟩, rfl⟩
      case rest =>
        obtain ⟨A5, n5, k5, rfl, H5, rfl⟩ := hcut
        have hn5 : n5 ≤ 9223372036854775807 := by have h1 := H5.out.1; have h2 := H5.out.2.1; simp only [maxLen] at h2; omega
        clear HCK80 HCK81 HCH8 HBL8 HX8 HFA
        go_wp2_with fail
        go_loopw [22, 23, 24, 25, 26, 27, 28] (fun i _ _ _ _ _ _ wr => ∃ (k a b : Nat) (F : Nat → Prop) (st : JSt), i = .int .i64 (k : Int) ∧ Hid (k = a + b ∧ a ≤ C0 ∧ b ≤ C1) ∧ Hid (Lanes wr w F N J st wA.heap.size (wA.heap.size + 1) w8.heap.size (w8.heap.size + 1) A2 A3 m1 k2 m2 k3 b0 o0 T0 C0 p0 b1 o1 T1 C1 p1 bs0 bs1 a b) ∧ Hid (Joint N st bs0 C0 a bs1 C1 b) ∧ Below w.heap.size w wr) (fun i _ _ _ _ _ _ _ => C0 + C1 - (intOf i).toNat)
        case atStart => exact ⟨0, 0, 0, F, st, rfl, ⟨by omega, by omega, by omega⟩, HL0, Lib.hid (Joint.start (by omega)), hbL⟩
        case round =>
          obtain ⟨k, a, b, F, st, rfl, HK, HL, HJ, hbr⟩ := hrel
          have hac := HK.out.2.1
          have hbc := HK.out.2.2
          have hkab := HK.out.1
          have ka : wr.cell? ⟨w8.heap.size + 1, 0, none⟩ = some (.int .i64 (a : Int)) := HL.out.atB.cell 0
          have kb : wr.cell? ⟨w8.heap.size + 1, 1, none⟩ = some (.int .i64 (b : Int)) := HL.out.atB.cell 1
          have kf : wr.frozen? ⟨w8.heap.size + 1, 0, none⟩ = false := HL.out.atB.frozen 0
          have kf1 : wr.frozen? ⟨w8.heap.size + 1, 1, none⟩ = false := HL.out.atB.frozen 1
          have kc0 : wr.cell? ⟨wA.heap.size + 1, 0, none⟩ = some (.slice (some ⟨b0, o0, none⟩) C0 p0) := HL.out.chB.cell 0
          have kc1 : wr.cell? ⟨wA.heap.size + 1, 1, none⟩ = some (.slice (some ⟨b1, o1, none⟩) C1 p1) := HL.out.chB.cell 1
          have hC0m : C0 ≤ 17 := d2
          have hC1m : C1 ≤ 17 := e2
          clear hkab
          by_cases hend : a = C0 ∧ b = C1
          · as_aux_lemma =>
            obtain ⟨rfl, rfl⟩ := hend
            obtain ⟨j0, j1⟩ := HJ.out.full (by omega) (by omega)
            have hz0 : heldS N st 0 = 0 := by
              unfold heldS
              rw [if_neg (by omega)]
              simp [j0, blobS]
            have hz1 : heldS N st ((N : Int) - 1) = 0 := by
              unfold heldS
              rw [if_neg (by omega), show ((N : Int) - 1).toNat = N - 1 by omega, j1]
              rfl
            clear j0 j1
            go_wp2_with (go_at_call 22; refine (PHeld_any J N F st _ _ HL.out.al.p HL.out.al.ok).mono ?_; rintro _ _ ⟨rfl, rfl⟩; (first | rw [hz0] | rw [hz1]))
            go_ret
            exact ⟨rfl, hbr⟩
          · as_aux_lemma =>
            have hor : a < C0 ∨ b < C1 := by omega
            go_upto_region 27 with fail
            go_cut [127] from 114 to 217 (fun q wx => q = .bool true ∧ wr = wx)
            case first => as_aux_lemma =>
              by_cases hA : a < C0
              · have hAI : (a : Int) < (C0 : Int) := by omega
                go_wp2_with fail
                go_meet
                exact ⟨rfl, rfl⟩
              · have hAI : ¬ (a : Int) < (C0 : Int) := by omega
                have hBI : (b : Int) < (C1 : Int) := by omega
                go_wp2_with fail
                go_meet
                exact ⟨rfl, rfl⟩
            case rest =>
              obtain ⟨rfl, rfl⟩ := hcut
              go_upto_region 30 with fail
              go_cut [155] from 114 to 217 (fun q wx => ∃ x : Bool, q = .bool x ∧ Hid ((x = false → a < C0) ∧ (x = true → b < C1 ∧ (N = 1 → a = C0))) ∧ wr = wx)
              case first => as_aux_lemma =>
                by_cases hA : a = C0
                · have eA : ((a : Int) == (C0 : Int)) = true := by simp; omega
                  go_wp2_with fail
                  go_meet
                  exact ⟨true, rfl, ⟨fun h => (by cases h), fun _ => ⟨by omega, fun _ => hA⟩⟩, rfl⟩
                · have eA : ((a : Int) == (C0 : Int)) = false := by simp; omega
                  by_cases hkn : k < n5
                  · have hkI : (k : Int) < (n5 : Int) := by omega
                    obtain ⟨zb, zo, rfl, hzb, hzc⟩ := (H5.out.2.2.1.below hbr) (by omega)
                    have hz := hzc k hkn
                    have hNn : N ≠ 1 := fun h => by have := H5.out.2.2.2 h; omega
                    cases hZ : Z k with
                    | false =>
                      rw [hZ] at hz
                      clear hzc
                      go_wp2_with fail
                      go_meet
                      exact ⟨false, rfl, ⟨fun _ => by omega, fun h => by cases h⟩, rfl⟩
                    | true =>
                      rw [hZ] at hz
                      clear hzc
                      by_cases hB : b < C1
                      · have hBI : (b : Int) < (C1 : Int) := by omega
                        go_wp2_with fail
                        go_meet
                        exact ⟨true, rfl, ⟨fun h => (by cases h), fun _ => ⟨hB, fun h => absurd h hNn⟩⟩, rfl⟩
                      · have hBI : ¬ (b : Int) < (C1 : Int) := by omega
                        go_wp2_with fail
                        go_meet
                        exact ⟨false, rfl, ⟨fun _ => by omega, fun h => by cases h⟩, rfl⟩
                  · have hkI : ¬ (k : Int) < (n5 : Int) := by omega
                    go_wp2_with fail
                    go_meet
                    exact ⟨false, rfl, ⟨fun _ => by omega, fun h => by cases h⟩, rfl⟩
              case rest =>
                obtain ⟨x, rfl, HXs, rfl⟩ := hcut
                cases x with
                | false =>
                  as_aux_lemma =>
                  have ha : a < C0 := HXs.out.1 rfl
                  obtain ⟨hst, hJ'⟩ := HJ.out.one hN1 ha
                  have HJ2 := Lib.hid hJ'
                  have hS := feed_lane (N := N) (st := st) (s := 0) (bs := bs0) (C := C0) (k := a) (by omega) (by rw [HL2.out]; exact hm14) (by rw [HL2.out]; exact d3) (by rw [HL2.out]; exact d4) (by rw [HL2.out]; exact d5) ha hst
                  rw [show ((0 : Nat) : Int) = 0 from rfl] at hS
                  have hcx : wr.cell? ⟨b0, o0 + a, none⟩ = some (chunkV T0 bs0.length a) := HL.out.c0.cell a ha
                  obtain ⟨Lc, hLc, eC⟩ : ∃ Lc, Lc ≤ 256 ∧ chunkV T0 bs0.length a = .slice (some ⟨T0, 256 * a, none⟩) Lc Lc := ⟨_, by omega, rfl⟩
                  rw [eC] at hcx
                  have haI : (a : Int) < (C0 : Int) := by omega
                  have hLcI : ¬ (256 : Int) < (Lc : Int) := by omega
                  have HLd : Hid (∀ d, Lanes (wr.drewN d) w F N J st wA.heap.size (wA.heap.size + 1) w8.heap.size (w8.heap.size + 1) A2 A3 m1 k2 m2 k3 b0 o0 T0 C0 p0 b1 o1 T1 C1 p1 bs0 bs1 a b ∧ Below w.heap.size w (wr.drewN d)) := Lib.hid fun d => ⟨HL.out.moved (HL.out.al.over (below_drewN (Below.refl _ _) d)) (Moved.of_below F (below_drewN (Below.refl _ _) d)), below_drewN hbr d⟩
                  clear hst hJ'
                  go_upto_region 32 with fail
                  go_cut [24] from 114 to 217 (fun c wx => c = .slice (some ⟨T0, 256 * a, none⟩) Lc Lc ∧ Hid (Lanes wx w F N J st wA.heap.size (wA.heap.size + 1) w8.heap.size (w8.heap.size + 1) A2 A3 m1 k2 m2 k3 b0 o0 T0 C0 p0 b1 o1 T1 C1 p1 bs0 bs1 a b) ∧ Below w.heap.size w wx)
                  case first => as_aux_lemma =>
                    go_quiet (fail)
                    go_wp2_with fail
                    go_meet
                    exact ⟨rfl, Lib.hid (HLd.out _).1, (HLd.out _).2⟩
                  case rest =>
                    obtain ⟨rfl, HLc, hbc9⟩ := hcut
                    have k1w : wc.cell? ⟨w8.heap.size, 0, none⟩ = some (.int .i64 (0 : Int)) := HLc.out.whB.cell 0
                    have ka : wc.cell? ⟨w8.heap.size + 1, 0, none⟩ = some (.int .i64 (a : Int)) := HLc.out.atB.cell 0
                    have kf : wc.frozen? ⟨w8.heap.size + 1, 0, none⟩ = false := HLc.out.atB.frozen 0
                    have kc0 : wc.cell? ⟨wA.heap.size + 1, 0, none⟩ = some (.slice (some ⟨b0, o0, none⟩) C0 p0) := HLc.out.chB.cell 0
                    by_cases hlast : a + 1 = C0
                    · as_aux_lemma =>
                      rw [if_pos hlast, decide_eq_true hlast] at hS
                      have e28 : (((a : Int) + 1) == (C0 : Int)) = true := by simp; omega
                      have HS := Lib.hid hS
                      clear hS
                      go_wp2_with fail
                      have hcS := HLc.out.set_ 0 (.int .i64 ((a : Int) + 1)) (a' := a + 1) (b' := b) (by simp)
                      have HTK := Lib.hid (ck_take hcS.al ht hN hcS.c0 ha (0 : Int))
                      rw [eC] at HTK
                      have HLS := Lib.hid hcS
                      clear hcS
                      refine HTK.out.mono ?_
                      intro e3 w3 hT
                      obtain ⟨u, F2, rfl, hret, hal3, hm3⟩ := hT.known HLS.out.al HS.out
                      have HL3' := Lib.hid (HLS.out.moved hal3 hm3)
                      have hb3 := hal3.below
                      obtain ⟨_, g9, cur9, rfl, hg1, hg2, _, _⟩ := hret.resolve_left (fun h => by cases h.1)
                      have hrx : RdB w3 w3.heap.size (some ⟨g9, 0, none⟩) bs0.length bs0 := ⟨by rw [bvs_length]; omega, fun _ => ⟨g9, 0, rfl, hg1.lt, fun i x hx => by
                        rw [Nat.zero_add, hg1.cell, ← Array.getElem?_toList, hg2]
                        exact hx⟩⟩
                      have hrb : RdB w3 w.heap.size A2 m1 bs0 := HQ2.out.below hb3
                      have kbl : w3.cell? ⟨wA.heap.size, 0, none⟩ = some (.slice A2 m1 k2) := HL3'.out.blB.cell 0
                      clear hg1 hg2
                      have kv3 : w3.cell? ⟨w8.heap.size + 1, 0, none⟩ = some (.int .i64 ((a : Int) + 1)) := HL3'.out.atB.cell 0
                      have k4' : w3.cell? ⟨wA.heap.size + 1, 0, none⟩ = some (.slice (some ⟨b0, o0, none⟩) C0 p0) := HL3'.out.chB.cell 0
                      have HND : Hid (∀ d, Lanes (w3.drewN d) w F2 N J _ wA.heap.size (wA.heap.size + 1) w8.heap.size (w8.heap.size + 1) A2 A3 m1 k2 m2 k3 b0 o0 T0 C0 p0 b1 o1 T1 C1 p1 bs0 bs1 (a + 1) b ∧ Below w.heap.size w (w3.drewN d)) := Lib.hid fun d => ⟨HL3'.out.moved (HL3'.out.al.over (below_drewN (Below.refl _ _) d)) (Moved.of_below F2 (below_drewN (Below.refl _ _) d)), below_drewN hb3 d⟩
                      have HK9 : Hid (k + 1 = (a + 1) + b ∧ a + 1 ≤ C0 ∧ b ≤ C1) := Lib.hid (by have h1 := HK.out; omega)
                      have hkm : k < C0 + C1 := by have h1 := HK.out; omega
                      clear hret hal3 hm3 k1w ka kb kf kf1 kc0 kc1 hcx hT
                      go_wp2
                      go_quiet (fail)
                      go_wp2_with (go_at_call 16; refine (same_yes _ _ _ _ _ _ _ _ bs0 _ (hrx.dn _) (hrb.dn _)).mono ?_; rintro _ _ ⟨rfl, rfl⟩)
                      go_roundw
                      case rel => first | exact ⟨k + 1, a + 1, b, F2, _, by go_num, HK9, Lib.hid (HND.out _).1, HJ2, (HND.out _).2⟩ | ((repeat apply Exists.intro); refine And.symm ⟨?_, ?_⟩; (focus rfl); exact ⟨k + 1, a + 1, b, F2, _, by go_num, HK9, Lib.hid (HND.out _).1, HJ2, (HND.out _).2⟩)
                      case measure => simp [intOf] <;> omega
                    · as_aux_lemma =>
                      rw [if_neg hlast, decide_eq_false hlast] at hS
                      have e28 : (((a : Int) + 1) == (C0 : Int)) = false := by simp; omega
                      have HS := Lib.hid hS
                      clear hS
                      go_wp2_with fail
                      have hcS := HLc.out.set_ 0 (.int .i64 ((a : Int) + 1)) (a' := a + 1) (b' := b) (by simp)
                      have HTK := Lib.hid (ck_take hcS.al ht hN hcS.c0 ha (0 : Int))
                      rw [eC] at HTK
                      have HLS := Lib.hid hcS
                      clear hcS
                      refine HTK.out.mono ?_
                      intro e3 w3 hT
                      obtain ⟨u, F2, rfl, hret, hal3, hm3⟩ := hT.known HLS.out.al HS.out
                      have HL3' := Lib.hid (HLS.out.moved hal3 hm3)
                      have hb3 := hal3.below
                      obtain rfl : u = .slice none 0 0 := by
                        rcases hret with ⟨_, h, _⟩ | ⟨h, _⟩
                        · exact h
                        · cases h
                      have kv3 : w3.cell? ⟨w8.heap.size + 1, 0, none⟩ = some (.int .i64 ((a : Int) + 1)) := HL3'.out.atB.cell 0
                      have k4' : w3.cell? ⟨wA.heap.size + 1, 0, none⟩ = some (.slice (some ⟨b0, o0, none⟩) C0 p0) := HL3'.out.chB.cell 0
                      have HND : Hid (∀ d, Lanes (w3.drewN d) w F2 N J _ wA.heap.size (wA.heap.size + 1) w8.heap.size (w8.heap.size + 1) A2 A3 m1 k2 m2 k3 b0 o0 T0 C0 p0 b1 o1 T1 C1 p1 bs0 bs1 (a + 1) b ∧ Below w.heap.size w (w3.drewN d)) := Lib.hid fun d => ⟨HL3'.out.moved (HL3'.out.al.over (below_drewN (Below.refl _ _) d)) (Moved.of_below F2 (below_drewN (Below.refl _ _) d)), below_drewN hb3 d⟩
                      have HK9 : Hid (k + 1 = (a + 1) + b ∧ a + 1 ≤ C0 ∧ b ≤ C1) := Lib.hid (by have h1 := HK.out; omega)
                      have hkm : k < C0 + C1 := by have h1 := HK.out; omega
                      clear hret hal3 hm3 k1w ka kb kf kf1 kc0 kc1 hcx hT
                      go_wp2
                      go_quiet (fail)
                      go_wp2
                      go_roundw
                      case rel => first | exact ⟨k + 1, a + 1, b, F2, _, by go_num, HK9, Lib.hid (HND.out _).1, HJ2, (HND.out _).2⟩ | ((repeat apply Exists.intro); refine And.symm ⟨?_, ?_⟩; (focus rfl); exact ⟨k + 1, a + 1, b, F2, _, by go_num, HK9, Lib.hid (HND.out _).1, HJ2, (HND.out _).2⟩)
                      case measure => simp [intOf] <;> omega
                | true =>
                  as_aux_lemma =>
                  have ha : b < C1 := (HXs.out.2 rfl).1
                  obtain ⟨hst, hJ'⟩ := HJ.out.two hN1 ha (HXs.out.2 rfl).2
                  have HJ2 := Lib.hid hJ'
                  have hS := feed_lane (N := N) (st := st) (s := (N - 1)) (bs := bs1) (C := C1) (k := b) (by omega) (by rw [HL3.out]; exact hm24) (by rw [HL3.out]; exact e3) (by rw [HL3.out]; exact e4) (by rw [HL3.out]; exact e5) ha hst
                  rw [show ((N - 1 : Nat) : Int) = (N : Int) - 1 by omega] at hS
                  have hcx : wr.cell? ⟨b1, o1 + b, none⟩ = some (chunkV T1 bs1.length b) := HL.out.c1.cell b ha
                  obtain ⟨Lc, hLc, eC⟩ : ∃ Lc, Lc ≤ 256 ∧ chunkV T1 bs1.length b = .slice (some ⟨T1, 256 * b, none⟩) Lc Lc := ⟨_, by omega, rfl⟩
                  rw [eC] at hcx
                  have haI : (b : Int) < (C1 : Int) := by omega
                  have hLcI : ¬ (256 : Int) < (Lc : Int) := by omega
                  have HLd : Hid (∀ d, Lanes (wr.drewN d) w F N J st wA.heap.size (wA.heap.size + 1) w8.heap.size (w8.heap.size + 1) A2 A3 m1 k2 m2 k3 b0 o0 T0 C0 p0 b1 o1 T1 C1 p1 bs0 bs1 a b ∧ Below w.heap.size w (wr.drewN d)) := Lib.hid fun d => ⟨HL.out.moved (HL.out.al.over (below_drewN (Below.refl _ _) d)) (Moved.of_below F (below_drewN (Below.refl _ _) d)), below_drewN hbr d⟩
                  clear hst hJ'
                  go_upto_region 32 with fail
                  go_cut [24] from 114 to 217 (fun c wx => c = .slice (some ⟨T1, 256 * b, none⟩) Lc Lc ∧ Hid (Lanes wx w F N J st wA.heap.size (wA.heap.size + 1) w8.heap.size (w8.heap.size + 1) A2 A3 m1 k2 m2 k3 b0 o0 T0 C0 p0 b1 o1 T1 C1 p1 bs0 bs1 a b) ∧ Below w.heap.size w wx)
                  case first => as_aux_lemma =>
                    go_quiet (fail)
                    go_wp2_with fail
                    go_meet
                    exact ⟨rfl, Lib.hid (HLd.out _).1, (HLd.out _).2⟩
                  case rest =>
                    obtain ⟨rfl, HLc, hbc9⟩ := hcut
                    have k1w : wc.cell? ⟨w8.heap.size, 1, none⟩ = some (.int .i64 ((N : Int) - 1)) := HLc.out.whB.cell 1
                    have ka : wc.cell? ⟨w8.heap.size + 1, 1, none⟩ = some (.int .i64 (b : Int)) := HLc.out.atB.cell 1
                    have kf : wc.frozen? ⟨w8.heap.size + 1, 1, none⟩ = false := HLc.out.atB.frozen 1
                    have kc0 : wc.cell? ⟨wA.heap.size + 1, 1, none⟩ = some (.slice (some ⟨b1, o1, none⟩) C1 p1) := HLc.out.chB.cell 1
                    by_cases hlast : b + 1 = C1
                    · as_aux_lemma =>
                      rw [if_pos hlast, decide_eq_true hlast] at hS
                      have e28 : (((b : Int) + 1) == (C1 : Int)) = true := by simp; omega
                      have HS := Lib.hid hS
                      clear hS
                      go_wp2_with fail
                      have hcS := HLc.out.set_ 1 (.int .i64 ((b : Int) + 1)) (a' := a) (b' := b + 1) (by simp)
                      have HTK := Lib.hid (ck_take hcS.al ht hN hcS.c1 ha ((N : Int) - 1))
                      rw [eC] at HTK
                      have HLS := Lib.hid hcS
                      clear hcS
                      refine HTK.out.mono ?_
                      intro e3 w3 hT
                      obtain ⟨u, F2, rfl, hret, hal3, hm3⟩ := hT.known HLS.out.al HS.out
                      have HL3' := Lib.hid (HLS.out.moved hal3 hm3)
                      have hb3 := hal3.below
                      obtain ⟨_, g9, cur9, rfl, hg1, hg2, _, _⟩ := hret.resolve_left (fun h => by cases h.1)
                      have hrx : RdB w3 w3.heap.size (some ⟨g9, 0, none⟩) bs1.length bs1 := ⟨by rw [bvs_length]; omega, fun _ => ⟨g9, 0, rfl, hg1.lt, fun i x hx => by
                        rw [Nat.zero_add, hg1.cell, ← Array.getElem?_toList, hg2]
                        exact hx⟩⟩
                      have hrb : RdB w3 w.heap.size A3 m2 bs1 := HQ3.out.below hb3
                      have kbl : w3.cell? ⟨wA.heap.size, 1, none⟩ = some (.slice A3 m2 k3) := HL3'.out.blB.cell 1
                      clear hg1 hg2
                      have kv3 : w3.cell? ⟨w8.heap.size + 1, 1, none⟩ = some (.int .i64 ((b : Int) + 1)) := HL3'.out.atB.cell 1
                      have k4' : w3.cell? ⟨wA.heap.size + 1, 1, none⟩ = some (.slice (some ⟨b1, o1, none⟩) C1 p1) := HL3'.out.chB.cell 1
                      have HND : Hid (∀ d, Lanes (w3.drewN d) w F2 N J _ wA.heap.size (wA.heap.size + 1) w8.heap.size (w8.heap.size + 1) A2 A3 m1 k2 m2 k3 b0 o0 T0 C0 p0 b1 o1 T1 C1 p1 bs0 bs1 a (b + 1) ∧ Below w.heap.size w (w3.drewN d)) := Lib.hid fun d => ⟨HL3'.out.moved (HL3'.out.al.over (below_drewN (Below.refl _ _) d)) (Moved.of_below F2 (below_drewN (Below.refl _ _) d)), below_drewN hb3 d⟩
                      have HK9 : Hid (k + 1 = a + (b + 1) ∧ a ≤ C0 ∧ b + 1 ≤ C1) := Lib.hid (by have h1 := HK.out; omega)
                      have hkm : k < C0 + C1 := by have h1 := HK.out; omega
                      clear hret hal3 hm3 k1w ka kb kf kf1 kc0 kc1 hcx hT
                      go_wp2
                      go_quiet (fail)
                      go_wp2_with (go_at_call 16; refine (same_yes _ _ _ _ _ _ _ _ bs1 _ (hrx.dn _) (hrb.dn _)).mono ?_; rintro _ _ ⟨rfl, rfl⟩)
                      go_roundw
                      case rel => first | exact ⟨k + 1, a, b + 1, F2, _, by go_num, HK9, Lib.hid (HND.out _).1, HJ2, (HND.out _).2⟩ | ((repeat apply Exists.intro); refine And.symm ⟨?_, ?_⟩; (focus rfl); exact ⟨k + 1, a, b + 1, F2, _, by go_num, HK9, Lib.hid (HND.out _).1, HJ2, (HND.out _).2⟩)
                      case measure => simp [intOf] <;> omega
                    · as_aux_lemma =>
                      rw [if_neg hlast, decide_eq_false hlast] at hS
                      have e28 : (((b : Int) + 1) == (C1 : Int)) = false := by simp; omega
                      have HS := Lib.hid hS
                      clear hS
                      go_wp2_with fail
                      have hcS := HLc.out.set_ 1 (.int .i64 ((b : Int) + 1)) (a' := a) (b' := b + 1) (by simp)
                      have HTK := Lib.hid (ck_take hcS.al ht hN hcS.c1 ha ((N : Int) - 1))
                      rw [eC] at HTK
                      have HLS := Lib.hid hcS
                      clear hcS
                      refine HTK.out.mono ?_
                      intro e3 w3 hT
                      obtain ⟨u, F2, rfl, hret, hal3, hm3⟩ := hT.known HLS.out.al HS.out
                      have HL3' := Lib.hid (HLS.out.moved hal3 hm3)
                      have hb3 := hal3.below
                      obtain rfl : u = .slice none 0 0 := by
                        rcases hret with ⟨_, h, _⟩ | ⟨h, _⟩
                        · exact h
                        · cases h
                      have kv3 : w3.cell? ⟨w8.heap.size + 1, 1, none⟩ = some (.int .i64 ((b : Int) + 1)) := HL3'.out.atB.cell 1
                      have k4' : w3.cell? ⟨wA.heap.size + 1, 1, none⟩ = some (.slice (some ⟨b1, o1, none⟩) C1 p1) := HL3'.out.chB.cell 1
                      have HND : Hid (∀ d, Lanes (w3.drewN d) w F2 N J _ wA.heap.size (wA.heap.size + 1) w8.heap.size (w8.heap.size + 1) A2 A3 m1 k2 m2 k3 b0 o0 T0 C0 p0 b1 o1 T1 C1 p1 bs0 bs1 a (b + 1) ∧ Below w.heap.size w (w3.drewN d)) := Lib.hid fun d => ⟨HL3'.out.moved (HL3'.out.al.over (below_drewN (Below.refl _ _) d)) (Moved.of_below F2 (below_drewN (Below.refl _ _) d)), below_drewN hb3 d⟩
                      have HK9 : Hid (k + 1 = a + (b + 1) ∧ a ≤ C0 ∧ b + 1 ≤ C1) := Lib.hid (by have h1 := HK.out; omega)
                      have hkm : k < C0 + C1 := by have h1 := HK.out; omega
                      clear hret hal3 hm3 k1w ka kb kf kf1 kc0 kc1 hcx hT
                      go_wp2
                      go_quiet (fail)
                      go_wp2
                      go_roundw
                      case rel => first | exact ⟨k + 1, a, b + 1, F2, _, by go_num, HK9, Lib.hid (HND.out _).1, HJ2, (HND.out _).2⟩ | ((repeat apply Exists.intro); refine And.symm ⟨?_, ?_⟩; (focus rfl); exact ⟨k + 1, a, b + 1, F2, _, by go_num, HK9, Lib.hid (HND.out _).1, HJ2, (HND.out _).2⟩)
                      case measure => simp [intOf] <;> omega
end Go.Proofs.YtgapkphkcncgeaaDoor
