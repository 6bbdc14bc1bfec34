/-
  FragNothingWrong, walked.
-/
import Derived.Test.YtgapkphkcncgeaaDoorNoWrongM
import Derived.Lib.SlBytesConst
import Derived.Deep.CutRange
import Derived.Deep.RegionHeld3
namespace Go.Proofs.YtgapkphkcncgeaaDoor
open Go.RowKit
abbrev chk : List UInt8 := [0, 9, 0, 0, 203, 244, 57, 38, 49, 50, 51, 52, 53, 54, 55, 56, 57]
set_option maxRecDepth 100000 in
set_option maxHeartbeats 6400000 in
theorem FragNothingWrong_walk (x0 : Int) (A1 : Option Addr) (n1 k1 : Nat) (w : World) (hx0 : -9223372036854775808 ≤ x0) (hx1 : x0 ≤ 9223372036854775807) (hn1 : n1 ≤ k1) (hk1 : k1 ≤ 140737488351232) (ho : Ops w w.heap.size A1 n1) (ht : Nibs w) :
    Calls Tryd.prog 6 #[.int .i64 x0, .slice A1 n1 k1] w fun e w' => e = .returned (.bool true) ∧ Below w.heap.size w w' := by
  have kc := fun (w : World) (C : Array Value) (n c : Nat) => Lib.run_convert_bytes_const (P := Tryd.prog) w 22 5 C n c Tryd.underlying22 Tryd.underlying5
  have HO := Lib.hid ho
  clear ho
  go_enter Tryd.func6, Tryd.ntmps6
  go_wp2_with fail
  refine (size_any _ _).mono ?_
  rintro _ _ ⟨N, hN1, hN, rfl, rfl⟩
  go_wp2_with fail
  refine (PNew_yes N w hN1 hN).mono ?_
  rintro _ w1 ⟨J, F, rfl, hp1, hF1, hb1⟩
  have hs1 := hb1.size
  have hal : Alone w1 w F N J (fun _ => []) := ⟨hp1, fun s _ => Part.nil_, hF1, hb1⟩
  have HAL := Lib.hid hal
  clear hal hp1 hF1
  go_wp2_with fail
  have hbA : Below w1.heap.size w1 (w1.alloc (.cells (bvs chk).toArray 5)) := (Below.refl _ _).alloc (Nat.le_refl _) _
  have hal2 := HAL.out.over hbA
  refine (PTake_any (some ⟨w1.heap.size, 0, none⟩) 17 17 J N F (fun _ => []) chk ((N : Int) - 1) _ hal2.p hN hal2.ok (rd_new (by simp) rfl) (by omega) (by omega) (fun _ b' o' s' e hF => by
    injection e with e; injection e with e; subst e
    have := HAL.out.p.1 _ hF; omega) (hal2.nibs ht).1 (hal2.nibs ht).2).mono ?_
  intro e3 w3 hT
  obtain ⟨u, F', rfl, hret, hal3, hm3⟩ := hT.known hal2 (check_take N hN1)
  have hb3 := hal3.below
  rw [upd_nil] at hal3
  obtain ⟨_, g', cur', rfl, hg1, hg2, _, _⟩ := hret.resolve_left (fun h => by cases h.1)
  have hrx : RdB w3 w3.heap.size (some ⟨g', 0, none⟩) 9 [49, 50, 51, 52, 53, 54, 55, 56, 57] := ⟨by simp [bvs], fun _ => ⟨g', 0, rfl, hg1.lt, fun i x hx => by
    rw [Nat.zero_add, hg1.cell, ← Array.getElem?_toList, hg2]
    exact hx⟩⟩
  have HAL3 := Lib.hid hal3
  have hs3 := hb3.size
  clear hT hret hal3 hm3 hg1 hg2 hbA hal2 HAL hb1
  go_wp2_with fail
  have hbB : Below w3.heap.size w3 (w3.alloc (.cells (bvs [49, 50, 51, 52, 53, 54, 55, 56, 57]).toArray 5 (9, 10))) := (Below.refl _ _).alloc (Nat.le_refl _) _
  have hal4 := HAL3.out.over hbB
  have hb4 := hal4.below
  refine (same_yes (some ⟨g', 0, none⟩) (some ⟨w3.heap.size, 0, none⟩) 9 9 9 9 _ _ [49, 50, 51, 52, 53, 54, 55, 56, 57] _ (hrx.below hbB) (rd_new (by simp) rfl)).mono ?_
  rintro _ w4 ⟨rfl, h4⟩
  rw [h4] at hal4 hb4
  have hs4 := hb4.size
  have HT4 := Lib.hid (told_new (w := w4) (B := w.heap.size) hs4 hal4.p.1)
  have HAL4 := Lib.hid (hal4.over ((Below.refl _ _).alloc (Nat.le_refl _) (.cells (Array.replicate 16 (.slice none 0 0)) 47)))
  have hb5 := HAL4.out.below
  clear hbB hal4 hrx HAL3 hb3 hb4 kc h4
  go_wp2_with fail
  go_loopw [11, 12, 13, 14, 15, 16, 17, 18] (fun i _ _ _ _ _ _ _ wr => ∃ (k : Nat) (F : Nat → Prop) (st : JSt) (cs : Array Value), k ≤ n1 ∧ i = .int .i64 (k : Int) ∧ Hid (Alone wr w F N J st ∧ ToldAt wr w.heap.size F w4.heap.size st cs) ∧ Below w.heap.size w wr) (fun i _ _ _ _ _ _ _ _ => n1 - (intOf i).toNat)
  case atStart => exact ⟨0, F', _, _, by omega, rfl, ⟨HAL4.out, HT4.out⟩, hb5⟩
  case round =>
    clear HT4 HAL4 hb5
    obtain ⟨k, F, st, cs, hk, rfl, HX, hb⟩ := hrel
    by_cases hlt : k < n1
    · obtain ⟨b, off, rfl, hbl, hops⟩ := (HO.out.below hb) (by omega)
      obtain ⟨kd, sd, Ac, nc, capc, bs, hop⟩ := hops k hlt
      have c0 := hop.c0
      have c1 := hop.c1
      have c2 := hop.c2
      have hltI : (k : Int) < (n1 : Int) := by omega
      have hsz := hb.size
      have hbo : Below wr.heap.size wr (wr.alloc (.cells #[.int .i64 kd, .int .i64 sd, .slice Ac nc capc] 41)) := (Below.refl _ _).alloc (Nat.le_refl _) _
      have HXo : Hid (Alone (wr.alloc (.cells #[.int .i64 kd, .int .i64 sd, .slice Ac nc capc] 41)) w F N J st ∧ ToldAt (wr.alloc (.cells #[.int .i64 kd, .int .i64 sd, .slice Ac nc capc] 41)) w.heap.size F w4.heap.size st cs) := ⟨HX.out.1.over hbo, HX.out.2.below hbo⟩
      have HRO : Hid (RdB (wr.alloc (.cells #[.int .i64 kd, .int .i64 sd, .slice Ac nc capc] 41)) w.heap.size Ac nc bs) := hop.rd.below (hbo.mono hsz)
      have HBO : Hid (Blk (wr.alloc (.cells #[.int .i64 kd, .int .i64 sd, .slice Ac nc capc] 41)) wr.heap.size 41 #[.int .i64 kd, .int .i64 sd, .slice Ac nc capc] ∧ ¬ F wr.heap.size) := ⟨Blk.new wr _ _, fun h => by have := HX.out.1.p.1 _ h; omega⟩
      have hboo := HXo.out.1.below
      have hle := hop.le
      have hcap := hop.cap
      have hsb := hop.sb
      have HTo := Lib.hid HX.out.2.lt
      have HOW : Hid (∀ s, s < 16 → ∃ v, cs[s]? = some v ∧ ∀ g, v.ownBlock = some g → g < wr.heap.size) := Lib.hid fun s hs => by
        obtain ⟨v, t, r⟩ := HX.out.2.each s hs
        exact ⟨v, r.at_, fun g hg => (own_block_lt r.row hg).1⟩
      clear hop hops hbo HX
      by_cases hk1 : kd = 1
      · subst hk1
        go_wp2_with fail
        refine (op_take HXo.out.1 ht hN HRO.out hle (by omega) sd).mono ?_
        intro e3 w3 hT3
        rcases takeS_three (c := bs) HXo.out.1.ok sd with ⟨er, st', hS, her, hst', hers⟩ | ⟨s, rfl, hsN, hf, hg, hl, hS⟩ | ⟨s, rfl, hsN, hf, hg, hl, hcr, hS⟩
        · as_aux_lemma =>
          obtain ⟨u, F2, rfl, hret, hal3, hm3⟩ := hT3.known HXo.out.1 hS
          have hb3 := hal3.below
          have hB3 := HBO.out.1.chg hm3.2 HBO.out.2
          have o1 : w3.cell? ⟨wr.heap.size, 1, none⟩ = some (.int .i64 sd) := hB3.cell 1
          have o2 : w3.cell? ⟨wr.heap.size, 2, none⟩ = some (.slice Ac nc capc) := hB3.cell 2
          have HB3 := Lib.hid hB3
          have hr3 : RdB w3 w.heap.size Ac nc bs := HRO.out.below (hm3.2.to_below hboo.size HXo.out.1.fw)
          have hlb := hr3.lenB
          obtain rfl : u = .slice none 0 0 := by
            rcases hret with ⟨_, h, _⟩ | ⟨h, _⟩
            · exact h
            · cases h
          have HN : Hid (Alone w3 w F2 N J st' ∧ ToldAt w3 w.heap.size F2 w4.heap.size st' cs) := ⟨hal3, HXo.out.2.moved hm3 hst'⟩
          have e0 : ((er : Int) == 0) = false := by simpa using her
          have e0b : ((er : Int) != 0) = true := by simpa using her
          have hTl := HN.out.2.lt
          clear hret hal3 hm3 hS hT3 hB3 c0 c1 c2
          go_upto_region 18 with fail
          go_cut [114] from 54 to 250 (fun q wx => q = .bool (!decide (FL bs)) ∧ w3 = wx)
          case first => as_aux_lemma =>
            have hways : nc < 8 ∨ (8 ≤ nc ∧ by_ bs 2 ≠ 0) ∨ (8 ≤ nc ∧ by_ bs 2 = 0 ∧ by_ bs 3 ≠ 0) ∨ (8 ≤ nc ∧ by_ bs 2 = 0 ∧ by_ bs 3 = 0) := by omega
            rcases hways with g8 | ⟨g8, g2⟩ | ⟨g8, g2, g3⟩ | ⟨g8, g2, g3⟩
            · have q8 : ¬ (8 : Int) ≤ (nc : Int) := by omega
              have hQ : decide (FL bs) = false := decide_eq_false (fun h => by have := h.1; omega)
              go_wp2_with fail
              go_meet
              rw [hQ]
              exact ⟨by first | rfl | (rw [e0b]; rfl), rfl⟩
            · have q8 : (8 : Int) ≤ (nc : Int) := by omega
              obtain ⟨cb, co, rfl, hcb, hcc⟩ := head_cells hr3 g8
              have q2 := hcc 2 (by omega)
              have e2 : (((by_ bs 2 : Nat) : Int) == 0) = false := by simpa using g2
              have hQ : decide (FL bs) = false := decide_eq_false (fun h => by have := h.2; omega)
              clear hcc hr3
              go_wp2_with fail
              go_meet
              rw [hQ]
              exact ⟨by first | rfl | (rw [e0b]; rfl), rfl⟩
            · have q8 : (8 : Int) ≤ (nc : Int) := by omega
              obtain ⟨cb, co, rfl, hcb, hcc⟩ := head_cells hr3 g8
              have q2 : w3.cell? ⟨cb, co + 2, none⟩ = some (.int .u8 0) := by have h := hcc 2 (by omega); rw [g2] at h; exact h
              have q3 := hcc 3 (by omega)
              have e3 : (((by_ bs 3 : Nat) : Int) == 0) = false := by simpa using g3
              have hQ : decide (FL bs) = false := decide_eq_false (fun h => by have := h.2; omega)
              clear hcc hr3
              go_wp2_with fail
              go_meet
              rw [hQ]
              exact ⟨by first | rfl | (rw [e0b]; rfl), rfl⟩
            · have q8 : (8 : Int) ≤ (nc : Int) := by omega
              obtain ⟨cb, co, rfl, hcb, hcc⟩ := head_cells hr3 g8
              have q2 : w3.cell? ⟨cb, co + 2, none⟩ = some (.int .u8 0) := by have h := hcc 2 (by omega); rw [g2] at h; exact h
              have q3 : w3.cell? ⟨cb, co + 3, none⟩ = some (.int .u8 0) := by have h := hcc 3 (by omega); rw [g3] at h; exact h
              have hQ : decide (FL bs) = true := decide_eq_true ⟨by omega, g2, g3⟩
              clear hcc hr3
              go_wp2_with fail
              go_meet
              rw [hQ]
              exact ⟨by first | rfl | (rw [e0b]; rfl), rfl⟩
          case rest =>
            obtain ⟨hq, rfl⟩ := hcut
            by_cases hFL : FL bs
            · have hq' := hq.trans (congrArg (fun b => Value.bool (!b)) (decide_eq_true hFL))
              clear hq
              subst hq'
              rcases hers with ⟨rfl, hsd | hsd⟩ | ⟨hsd, hsd2⟩
              · as_aux_lemma =>
                go_wp2
                go_roundw
                case rel => first | exact ⟨k + 1, F2, _, _, by omega, by go_num, HN.out, hb3⟩ | ((repeat apply Exists.intro); refine And.symm ⟨?_, ?_⟩; (focus rfl); exact ⟨k + 1, F2, _, _, by omega, by go_num, HN.out, hb3⟩)
                case measure => simp [intOf] <;> omega
              · as_aux_lemma =>
                have hsd0 : ¬ sd < 0 := by omega
                go_wp2
                go_roundw
                case rel => first | exact ⟨k + 1, F2, _, _, by omega, by go_num, HN.out, hb3⟩ | ((repeat apply Exists.intro); refine And.symm ⟨?_, ?_⟩; (focus rfl); exact ⟨k + 1, F2, _, _, by omega, by go_num, HN.out, hb3⟩)
                case measure => simp [intOf] <;> omega
              · as_aux_lemma =>
                obtain ⟨s, rfl⟩ := Int.eq_ofNat_of_zero_le hsd
                have hsN : s < N := by omega
                have hs16 : s < 16 := by omega
                have hs2 : ¬ (s : Int) < 0 := by omega
                have hs3 : ¬ (N : Int) ≤ (s : Int) := by omega
                have hs4 : (s : Int) < 16 := by omega
                have HH := Lib.hid (show heldS N st' (s : Int) = (blobS (st' s)).length by unfold heldS; rw [if_neg (by omega), Int.toNat_natCast])
                go_wp2_with fail
                refine (PHeld_any J N F2 st' (s : Int) _ HN.out.1.p HN.out.1.ok).mono ?_
                rintro _ _ ⟨rfl, rfl⟩
                rw [HH.out]
                by_cases hz : (blobS (st' s)).length = 0
                · rw [hz]
                  have HN2 : Hid (Alone (w3.setCell ⟨w4.heap.size, s, none⟩ (.slice none 0 0)) w F2 N J st' ∧ ToldAt (w3.setCell ⟨w4.heap.size, s, none⟩ (.slice none 0 0)) w.heap.size F2 w4.heap.size st' (cs.setIfInBounds s (.slice none 0 0))) :=
                    ⟨HN.out.1.side (S := fun k => k = w4.heap.size) ((Chg.refl (fun k => k = w4.heap.size) w3).setCell (p := ⟨w4.heap.size, s, none⟩) (.inl rfl) _) (fun k e => by subst e; exact HN.out.2.tB) (fun k hk e => by subst e; exact HN.out.2.tF hk),
                      HN.out.2.nil_ hs16 (Nat.le_trans HN.out.1.below.size (Nat.le_refl _)) HN.out.1.p.1 (.inr (List.eq_nil_of_length_eq_zero hz).symm) (fun _ _ => rfl)⟩
                  have hb4 := HN2.out.1.below
                  obtain ⟨v, t, hrow⟩ := HN.out.2.each s hs16
                  have hTc : w3.cell? ⟨w4.heap.size, s, none⟩ = some v := (HN.out.2.blk.cell s).trans hrow.at_
                  have hTf : w3.frozen? ⟨w4.heap.size, s, none⟩ = false := HN.out.2.blk.frozen s
                  clear hrow
                  go_wp2
                  go_roundw
                  case rel => first | exact ⟨k + 1, F2, _, _, by omega, by go_num, HN2.out, hb4⟩ | ((repeat apply Exists.intro); refine And.symm ⟨?_, ?_⟩; (focus rfl); exact ⟨k + 1, F2, _, _, by omega, by go_num, HN2.out, hb4⟩)
                  case measure => simp [intOf] <;> omega
                · have hz' : (((blobS (st' s)).length : Int) == 0) = false := by simpa using hz
                  go_wp2
                  go_roundw
                  case rel => first | exact ⟨k + 1, F2, _, _, by omega, by go_num, HN.out, hb3⟩ | ((repeat apply Exists.intro); refine And.symm ⟨?_, ?_⟩; (focus rfl); exact ⟨k + 1, F2, _, _, by omega, by go_num, HN.out, hb3⟩)
                  case measure => simp [intOf] <;> omega
            · have hq' := hq.trans (congrArg (fun b => Value.bool (!b)) (decide_eq_false hFL))
              clear hq
              subst hq'
              as_aux_lemma =>
              go_wp2
              go_roundw
              case rel => first | exact ⟨k + 1, F2, _, _, by omega, by go_num, HN.out, hb3⟩ | ((repeat apply Exists.intro); refine And.symm ⟨?_, ?_⟩; (focus rfl); exact ⟨k + 1, F2, _, _, by omega, by go_num, HN.out, hb3⟩)
              case measure => simp [intOf] <;> omega
        · as_aux_lemma =>
          obtain ⟨u, F2, rfl, hret, hal3, hm3⟩ := hT3.known HXo.out.1 hS
          have hb3 := hal3.below
          have hB3 := HBO.out.1.chg hm3.2 HBO.out.2
          have o1 : w3.cell? ⟨wr.heap.size, 1, none⟩ = some (.int .i64 (s : Int)) := hB3.cell 1
          have o2 : w3.cell? ⟨wr.heap.size, 2, none⟩ = some (.slice Ac nc capc) := hB3.cell 2
          have HB3 := Lib.hid hB3
          have hr3 : RdB w3 w.heap.size Ac nc bs := HRO.out.below (hm3.2.to_below hboo.size HXo.out.1.fw)
          have hlb := hr3.lenB
          have hs16 : s < 16 := by omega
          have hs2 : ¬ (s : Int) < 0 := by omega
          have hs3 : ¬ (N : Int) ≤ (s : Int) := by omega
          have hs4 : (s : Int) < 16 := by omega
          obtain ⟨v, t, hrow⟩ := HXo.out.2.each s hs16
          have h8 : 8 ≤ nc := by have := hf.1; omega
          have h8I : ¬ (nc : Int) < 8 := by omega
          have h8c : (8 : Int) ≤ (capc : Int) := by omega
          have HJ := Lib.hid (hrow.tell.joined hg)
          have HLE := Lib.hid (joined_le (HXo.out.1.ok s hsN) hf hg)
          have HSZ := Lib.hid hf.2.1
          have HT0 : Hid (ToldAt w3 w.heap.size F2 w4.heap.size (upd st s []) cs) := HXo.out.2.moved hm3 (fun k => by unfold upd; split; exact .inr rfl; exact .inl rfl)
          have HR0 : Hid (cs[s]? = some v ∧ w3.ownsRow w.heap.size 5 1 v t.length (bvs t)) := ⟨hrow.at_, own_chg hrow.row hm3.2 (fun g hg => (hrow.off g hg).1)⟩
          have HAL := Lib.hid hal3
          have HXo0 := HOW
          obtain rfl : u = .slice none 0 0 := by
            rcases hret with ⟨_, h, _⟩ | ⟨h, _⟩
            · exact h
            · cases h
          obtain ⟨cb, co, rfl, hcb, hcc⟩ := head_cells hr3 h8
          have q2 := hcc 2 (by omega)
          have q3 := hcc 3 (by omega)
          have HCC := Lib.hid hcc
          have HR3 := Lib.hid hr3
          clear hret hal3 hm3 hS hT3 hB3 c0 c1 c2 hcc hr3 hrow hf hg
          go_upto_region 28 with fail
          go_cut [155] from 54 to 250 (fun q wx => q = .bool (decide (cAt bs = 0)) ∧ w3 = wx)
          case first => as_aux_lemma =>
            have hca : cAt bs = by_ bs 2 * 256 + by_ bs 3 := rfl
            have hways : by_ bs 2 ≠ 0 ∨ (by_ bs 2 = 0 ∧ by_ bs 3 ≠ 0) ∨ (by_ bs 2 = 0 ∧ by_ bs 3 = 0) := by omega
            rcases hways with g2 | ⟨g2, g3⟩ | ⟨g2, g3⟩
            · have e2 : (((by_ bs 2 : Nat) : Int) == 0) = false := by simpa using g2
              have hQ : decide (cAt bs = 0) = false := decide_eq_false (by omega)
              go_wp2_with fail
              go_meet
              rw [hQ]
              exact ⟨rfl, rfl⟩
            · have e3 : (((by_ bs 3 : Nat) : Int) == 0) = false := by simpa using g3
              have hQ : decide (cAt bs = 0) = false := decide_eq_false (by omega)
              rw [g2] at q2
              go_wp2_with fail
              go_meet
              rw [hQ]
              exact ⟨rfl, rfl⟩
            · have hQ : decide (cAt bs = 0) = true := decide_eq_true (by omega)
              rw [g2] at q2
              rw [g3] at q3
              go_wp2_with fail
              go_meet
              rw [hQ]
              exact ⟨rfl, rfl⟩
          case rest =>
            obtain ⟨hq, rfl⟩ := hcut
            clear q2 q3
            go_upto_if 155 with fail
            go_cut [] from 54 to 250 (fun wx => ∃ (cs5 : Array Value) (v5 : Value) (t5 : List UInt8), Hid (ToldAt wx w.heap.size F2 w4.heap.size (upd st s []) cs5 ∧ cs5[s]? = some v5 ∧ wx.ownsRow w.heap.size 5 1 v5 t5.length (bvs t5) ∧ t5 = (if cAt bs = 0 then [] else t) ∧ Chg (fun k => k = w4.heap.size) w3 wx ∧ ∀ g', v5.ownBlock = some g' → v.ownBlock = some g'))
            case first => as_aux_lemma =>
              by_cases hz : cAt bs = 0
              · have hq' := hq.trans (congrArg Value.bool (decide_eq_true hz))
                clear hq
                subst hq'
                have HTN : Hid (ToldAt (w3.setCell ⟨w4.heap.size, s, none⟩ (.slice none 0 0)) w.heap.size F2 w4.heap.size (upd st s []) (cs.setIfInBounds s (.slice none 0 0))) :=
                  HT0.out.nil_ hs16 hb3.size HAL.out.p.1 (.inl (upd_same _ _ _)) (fun _ _ => rfl)
                have hTl := HT0.out.lt
                have hTc : w3.cell? ⟨w4.heap.size, s, none⟩ = some v := (HT0.out.blk.cell s).trans HR0.out.1
                have hTf : w3.frozen? ⟨w4.heap.size, s, none⟩ = false := HT0.out.blk.frozen s
                have HCS : Hid ((cs.setIfInBounds s (.slice none 0 0))[s]? = some (.slice none 0 0)) := by
                  refine Lib.hid ?_
                  rw [Array.getElem?_setIfInBounds_self_of_lt (by rw [HT0.out.size]; exact hs16)]
                go_wp2_with fail
                go_meet
                exact ⟨_, _, [], ⟨HTN.out, HCS.out, ⟨by simp [bvs], .inl ⟨rfl, rfl⟩⟩, by rw [if_pos hz], (Chg.refl (fun k => k = w4.heap.size) w3).setCell (p := ⟨w4.heap.size, s, none⟩) (.inl rfl) _, fun g' h => by simp [Value.ownBlock] at h⟩⟩
              · have hq' := hq.trans (congrArg Value.bool (decide_eq_false hz))
                clear hq
                subst hq'
                go_wp2_with fail
                go_meet
                exact ⟨_, _, t, ⟨HT0.out, HR0.out.1, HR0.out.2, by rw [if_neg hz], Chg.refl _ _, fun _ h => h⟩⟩
            case rest =>
              obtain ⟨cs5, v5, t5, HM⟩ := hcut
              have hTo := HTo.out
              have hTl := HM.out.1.lt
              have hch := HM.out.2.2.2.2.1
              have hB5 := HB3.out.chg hch (by omega)
              have o1 : wc.cell? ⟨wr.heap.size, 1, none⟩ = some (.int .i64 (s : Int)) := hB5.cell 1
              have o2 : wc.cell? ⟨wr.heap.size, 2, none⟩ = some (.slice (some ⟨cb, co, none⟩) nc capc) := hB5.cell 2
              have hTc : wc.cell? ⟨w4.heap.size, s, none⟩ = some v5 := (HM.out.1.blk.cell s).trans HM.out.2.1
              have hr5 : RdB wc w.heap.size (some ⟨cb, co, none⟩) nc bs := HR3.out.below (hch.to_below hb3.size (fun k e => by subst e; exact HM.out.1.tB))
              have hrt := hr5.tail8 h8 hle
              have hJ5 : t5 ++ bs.drop 8 = blobS (joined (st s) bs) := by rw [HM.out.2.2.2.1]; exact HJ.out
              have hl6 : t5.length + (nc - 8) ≤ 4000 := by
                have h1 := congrArg List.length hJ5
                rw [List.length_append, List.length_drop, hlb] at h1
                have h2 := HLE.out
                have h3 := HSZ.out
                omega
              have HJ5 := Lib.hid hJ5
              have hne : v5.ownBlock ≠ some wr.heap.size := fun e => by
                have h1 := HM.out.2.2.2.2.2 _ e
                have h2 := (own_block_lt HR0.out.2 h1).1
                obtain ⟨v2, r2⟩ := HXo0.out s hs16
                have e2 := r2.1
                rw [HR0.out.1] at e2
                obtain rfl : v = v2 := Option.some.inj e2
                have := r2.2 _ h1
                omega
              have hneT : v5.ownBlock ≠ some w4.heap.size := fun e => by
                obtain ⟨v2, t2, r2⟩ := HM.out.1.each s hs16
                have e2 := r2.at_
                rw [HM.out.2.1] at e2
                obtain rfl : v5 = v2 := Option.some.inj e2
                exact (r2.off _ e).2 rfl
              have hTf5 : wc.frozen? ⟨w4.heap.size, s, none⟩ = false := HM.out.1.blk.frozen s
              have how5 := HM.out.2.2.1
              have hws : w.heap.size ≤ wc.heap.size := Nat.le_trans hb3.size hch.size
              obtain ⟨A5, cap5, rfl, _, _⟩ := own_shape how5
              obtain ⟨i0, hi0, hz0, hz1, hz2⟩ := info_parts info_u8
              generalize hX : (if capc = 8 then (some ⟨cb, co, none⟩ : Option Addr) else (some ⟨cb, co, none⟩ : Option Addr).map (·.add (8 * 1))) = X at hrt
              have hsl : ∀ W, Sem.run Tryd.prog (Instr.slice 22 (.slice (some ⟨cb, co, none⟩) nc capc) (some (.int .i64 8)) none none) W = .ok (.slice X (nc - 8) (capc - 8)) W := by
                intro W
                rw [run_slice_l (P := Tryd.prog) W 22 (some ⟨cb, co, none⟩) nc capc Tryd.underlying22 .i64 8 (by omega) (by omega), ← hX]
                rfl
              have hol := hB5.lt
              have hTl5 := HM.out.1.lt
              have HFL : Hid (∀ k, F2 k → k < wc.heap.size) := Lib.hid fun k hk => Nat.lt_of_lt_of_le (HAL.out.p.1 k hk) hch.size
              clear hX hch hB5 hr5 hJ5
              have hm1 : t5.length + (nc - 8) ≤ maxLen := by simp only [maxLen]; omega
              have hm2 : (t5.length + (nc - 8)) * 1 ≤ 140737488355328 := by omega
              obtain ⟨L6, hL6⟩ : ∃ L6, L6 = t5.length + (nc - 8) := ⟨_, rfl⟩
              have HL6 := Lib.hid hL6
              have HL7 := Lib.hid hl6
              have HM1 := Lib.hid hm1
              have HM2 := Lib.hid hm2
              clear hL6 hl6 hm1 hm2 h8I h8c
              go_upto_region 30 with fail
              go_cut [] from 54 to 250 (fun wx => ∃ (cs6 : Array Value) (v6 : Value) (L6 : Nat), Hid (L6 = t5.length + (nc - 8)) ∧ Hid (ToldAt wx w.heap.size F2 w4.heap.size (upd st s (joined (st s) bs)) cs6 ∧ cs6[s]? = some v6 ∧ wx.ownsRow w.heap.size 5 1 v6 L6 (bvs (t5 ++ bs.drop 8)) ∧ Chg (fun k => k = w4.heap.size ∨ v.ownBlock = some k ∨ w3.heap.size ≤ k) w3 wx))
              case first => as_aux_lemma =>
                have FIN : Hid (∀ (v6 : Value) (w6 : World), w6.ownsRow w.heap.size 5 1 v6 (t5.length + (nc - 8)) (bvs t5 ++ bvs (bs.drop 8)) → wc.drew.grownBy w6 (Value.slice A5 t5.length cap5).ownBlock → (v6.ownBlock = (Value.slice A5 t5.length cap5).ownBlock ∨ v6.ownBlock = some wc.drew.heap.size) →
                    ToldAt (w6.setCell ⟨w4.heap.size, s, none⟩ v6) w.heap.size F2 w4.heap.size (upd st s (joined (st s) bs)) (cs5.setIfInBounds s v6) ∧ (cs5.setIfInBounds s v6)[s]? = some v6 ∧ (w6.setCell ⟨w4.heap.size, s, none⟩ v6).ownsRow w.heap.size 5 1 v6 L6 (bvs (t5 ++ bs.drop 8)) ∧ Chg (fun k => k = w4.heap.size ∨ v.ownBlock = some k ∨ w3.heap.size ≤ k) w3 (w6.setCell ⟨w4.heap.size, s, none⟩ v6)) := Lib.hid fun v6 w6 how6 hg6 hat6 => by
                  have HR6 : w6.ownsRow w.heap.size 5 1 v6 (t5 ++ bs.drop 8).length (bvs (t5 ++ bs.drop 8)) := by rw [List.length_append, List.length_drop, hlb, bvs_append]; exact how6
                  have hsf : (cs5.setIfInBounds s v6)[s]? = some v6 := by rw [Array.getElem?_setIfInBounds_self_of_lt (by rw [HM.out.1.size]; exact hs16)]
                  have HT6 : ToldAt (w6.setCell ⟨w4.heap.size, s, none⟩ v6) w.heap.size F2 w4.heap.size (upd st s (joined (st s) bs)) (cs5.setIfInBounds s v6) := HM.out.1.set_ (v := .slice A5 t5.length cap5) (t' := t5 ++ bs.drop 8) hs16 hws HFL.out HM.out.2.1 (((Chg.refl _ wc).drew).trans (Chg.of_grown hg6)) HR6 (by rw [List.length_append, List.length_drop, hlb]; exact HL7.out) (.inr (by rw [upd_same]; exact HJ5.out)) (by rcases hat6 with e | e; exact .inr (.inl e); exact .inr (.inr ⟨_, e, Nat.le_refl _⟩)) (fun k hk => by rw [upd_other hk, upd_other hk])
                  have HO6 : ∀ g', v6.ownBlock = some g' → g' ≠ w4.heap.size := fun g' h => by
                    obtain ⟨v2, t2, r2⟩ := HT6.each s hs16
                    have e2 := r2.at_
                    rw [hsf] at e2
                    obtain rfl : v6 = v2 := Option.some.inj e2
                    exact (r2.off _ h).2
                  refine ⟨HT6, hsf, ?_, (((HM.out.2.2.2.2.1.mono (fun _ _ h => .inl h)).drew).thenS (Chg.of_grown hg6) (fun i _ hi => .inr (.inl (HM.out.2.2.2.2.2 i hi.symm)))).setCell (p := ⟨w4.heap.size, s, none⟩) (.inl (.inl rfl)) _⟩
                  have h1 := own_chg HR6 ((Chg.refl (fun k => k = w4.heap.size) w6).setCell (p := ⟨w4.heap.size, s, none⟩) (.inl rfl) v6) (fun g' h => HO6 g' h)
                  rw [List.length_append, List.length_drop, hlb] at h1
                  rw [HL6.out]
                  exact h1
                have HPQ : Hid (∀ w6 : World, wc.drew.grownBy w6 (Value.slice A5 t5.length cap5).ownBlock → w6.cell? ⟨wr.heap.size, 1, none⟩ = some (.int .i64 (s : Int)) ∧ (∀ v, (w6.setCell ⟨w4.heap.size, s, none⟩ v).cell? ⟨wr.heap.size, 1, none⟩ = some (.int .i64 (s : Int))) ∧ w6.cell? ⟨w4.heap.size, s, none⟩ = some (.slice A5 t5.length cap5) ∧ w6.frozen? ⟨w4.heap.size, s, none⟩ = false) := Lib.hid fun w6 hg6 => by
                  have q1 : w6.cell? ⟨wr.heap.size, 1, none⟩ = some (.int .i64 (s : Int)) := (hg6.cell_far ⟨wr.heap.size, 1, none⟩ hol (Ne.symm hne)).trans o1
                  exact ⟨q1, fun v => (World.cell?_of_block (((Chg.refl (fun k => k = w4.heap.size) w6).setCell (p := ⟨w4.heap.size, s, none⟩) (.inl rfl) v).block wr.heap.size (Nat.lt_of_lt_of_le hol hg6.size) (fun e => by omega))).trans q1, (hg6.cell_far ⟨w4.heap.size, s, none⟩ hTl5 (Ne.symm hneT)).trans hTc, (hg6.frozen_far ⟨w4.heap.size, s, none⟩ hTl5 (Ne.symm hneT)).trans hTf5⟩
                have HHOW := Lib.hid how5.drew
                have hrtd := hrt.keep (w' := wc.drew) fun _ _ => rfl
                clear how5 hne hneT HM HFL HJ5 HR3 HCC HBO HRO HXo HOW HXo0 HT0 HR0 HAL HB3 HO HJ HLE HSZ
                have HS0 : wc.drew.cell? ⟨wr.heap.size, 1, none⟩ = some (.int .i64 (s : Int)) := o1
                refine wp_region_held_drew (S := fun w' => w'.cell? ⟨wr.heap.size, 1, none⟩ = some (.int .i64 (s : Int))) (by kernel_rfl) HS0 (fun hHeld => ?_)
                refine wpAnyH_take (i := 0) (oi := ?oi0) (v := ?v0) ?hi0 (by kernel_rfl) (by kernel_rfl) (by kernel_rfl) ?hq0 ?hy0 (by assumption) ?rest0
                case hi0 => (simp only [List.getElem?_toArray, List.getElem?_cons_zero, List.getElem?_cons_succ]; rfl)
                case hy0 => (refine Or.inl ⟨by rfl, ?_⟩; intro w hSw; (try dsimp only at hSw); go_simp; try with_reducible rfl)
                case hq0 => exact fun _ _ _ h => h
                try simp only [Act.put, List.setIfInBounds_toArray, List.set_cons_zero, List.set_cons_succ]
                refine wpAnyH_take (i := 1) (oi := ?oi1) (v := ?v1) ?hi1 (by kernel_rfl) (by kernel_rfl) (by kernel_rfl) ?hq1 ?hy1 (by assumption) ?rest1
                case hi1 => (simp only [List.getElem?_toArray, List.getElem?_cons_zero, List.getElem?_cons_succ]; rfl)
                case hy1 => (refine Or.inl ⟨by rfl, ?_⟩; intro w hSw; (try dsimp only at hSw); go_simp; try with_reducible rfl)
                case hq1 => exact fun _ _ _ h => h
                try simp only [Act.put, List.setIfInBounds_toArray, List.set_cons_zero, List.set_cons_succ]
                refine wpAnyH_take (i := 2) (oi := ?oi2) (v := ?v2) ?hi2 (by kernel_rfl) (by kernel_rfl) (by kernel_rfl) ?hq2 ?hy2 (by assumption) ?rest2
                case hi2 => (simp only [List.getElem?_toArray, List.getElem?_cons_zero, List.getElem?_cons_succ]; rfl)
                case hy2 => (refine Or.inl ⟨by rfl, ?_⟩; intro w hSw; (try dsimp only at hSw); go_simp; try with_reducible rfl)
                case hq2 => exact fun _ _ _ h => h
                try simp only [Act.put, List.setIfInBounds_toArray, List.set_cons_zero, List.set_cons_succ]
                refine wpAnyH_take (i := 3) (oi := ?oi3) (v := ?v3) ?hi3 (by kernel_rfl) (by kernel_rfl) (by kernel_rfl) ?hq3 ?hy3 (by assumption) ?rest3
                case hi3 => (simp only [List.getElem?_toArray, List.getElem?_cons_zero, List.getElem?_cons_succ]; rfl)
                case hy3 => (refine Or.inl ⟨by rfl, ?_⟩; intro w hSw; (try dsimp only at hSw); go_simp; try with_reducible rfl)
                case hq3 => exact fun _ _ _ h => h
                try simp only [Act.put, List.setIfInBounds_toArray, List.set_cons_zero, List.set_cons_succ]
                refine wpAnyH_take (i := 4) (oi := ?oi4) (v := ?v4) ?hi4 (by kernel_rfl) (by kernel_rfl) (by kernel_rfl) ?hq4 ?hy4 (by assumption) ?rest4
                case hi4 => (simp only [List.getElem?_toArray, List.getElem?_cons_zero, List.getElem?_cons_succ]; rfl)
                case hy4 => (refine Or.inl ⟨by rfl, ?_⟩; intro w hSw; (try dsimp only at hSw); go_simp; try with_reducible rfl)
                case hq4 => exact fun _ _ _ h => h
                try simp only [Act.put, List.setIfInBounds_toArray, List.set_cons_zero, List.set_cons_succ]
                refine wpAnyH_take (i := 6) (oi := ?oi6) (v := ?v6) ?hi6 (by kernel_rfl) (by kernel_rfl) (by kernel_rfl) ?hq6 ?hy6 (by assumption) ?rest6
                case hi6 => (simp only [List.getElem?_toArray, List.getElem?_cons_zero, List.getElem?_cons_succ]; rfl)
                case hy6 => (refine Or.inl ⟨by rfl, ?_⟩; intro w hSw; (try dsimp only at hSw); go_simp; try with_reducible rfl)
                case hq6 => exact fun _ _ _ h => h
                try simp only [Act.put, List.setIfInBounds_toArray, List.set_cons_zero, List.set_cons_succ]
                refine wpAnyH_take (i := 7) (oi := ?oi7) (v := ?v7) ?hi7 (by kernel_rfl) (by kernel_rfl) (by kernel_rfl) ?hq7 ?hy7 (by assumption) ?rest7
                case hi7 => (simp only [List.getElem?_toArray, List.getElem?_cons_zero, List.getElem?_cons_succ]; rfl)
                case hy7 => (refine Or.inl ⟨by rfl, ?_⟩; intro w hSw; (try dsimp only at hSw); go_simp; try with_reducible rfl)
                case hq7 => exact fun _ _ _ h => h
                try simp only [Act.put, List.setIfInBounds_toArray, List.set_cons_zero, List.set_cons_succ]
                refine wpAnyH_ready (rs := [5]) (by kernel_rfl) (by simp) ?_
                refine AllReadyH.cons (o := ?o5) ?ho5 (fun K hK => ?st5) AllReadyH.nil
                case ho5 => (simp only [List.getElem?_toArray, List.getElem?_cons_zero, List.getElem?_cons_succ]; rfl)
                go_simp
                refine hK.out _ _ (HS0) (fun hHeld5 => ?_)
                clear hK K
                try simp only [Act.put, List.setIfInBounds_toArray, List.set_cons_zero, List.set_cons_succ]
                refine wpAnyH_ready (rs := [8]) (by kernel_rfl) (by simp) ?_
                refine AllReadyH.cons (o := ?o8) ?ho8 (fun K hK => ?st8) AllReadyH.nil
                case ho8 => (simp only [List.getElem?_toArray, List.getElem?_cons_zero, List.getElem?_cons_succ]; rfl)
                refine step_append_any _ (by rfl) _ _ 22 (by rfl) w.heap.size 5 i0 _ 1 1 u_bytes hi0 hz0 hz1 hz2 rfl (by decide) _ t5.length _ (by rfl) HHOW.out w.heap.size X (nc - 8) (capc - 8) _ (by rfl) hrtd (bvs_one _) HM1.out HM2.out hws ?_
                intro v6 w6 how6 hg6 hat6
                obtain ⟨q1, q2, qT, fT⟩ := HPQ.out w6 hg6
                have HK6 := Lib.hid (FIN.out v6 w6 how6 hg6 hat6)
                rw [← HL6.out] at how6
                obtain ⟨A6, cap6, rfl, _, _⟩ := own_shape how6
                clear how6 hg6 hat6
                refine hK.out _ _ (q1) (fun hHeld8 => ?_)
                clear hK K
                try simp only [Act.put, List.setIfInBounds_toArray, List.set_cons_zero, List.set_cons_succ]
                refine wpAnyH_take (i := 9) (oi := ?oi9) (v := ?v9) ?hi9 (by kernel_rfl) (by kernel_rfl) (by kernel_rfl) ?hq9 ?hy9 (by assumption) ?rest9
                case hi9 => (simp only [List.getElem?_toArray, List.getElem?_cons_zero, List.getElem?_cons_succ]; rfl)
                case hy9 => (refine Or.inl ⟨by rfl, ?_⟩; intro w hSw; (try dsimp only at hSw); go_simp; try with_reducible rfl)
                case hq9 => exact fun _ _ _ h => h
                try simp only [Act.put, List.setIfInBounds_toArray, List.set_cons_zero, List.set_cons_succ]
                refine wpAnyH_ready (rs := [10]) (by kernel_rfl) (by simp) ?_
                refine AllReadyH.cons (o := ?o10) ?ho10 (fun K hK => ?st10) AllReadyH.nil
                case ho10 => (simp only [List.getElem?_toArray, List.getElem?_cons_zero, List.getElem?_cons_succ]; rfl)
                go_simp
                refine hK.out _ _ (q2 _) (fun hHeld10 => ?_)
                clear hK K
                try simp only [Act.put, List.setIfInBounds_toArray, List.set_cons_zero, List.set_cons_succ]
                refine wpAnyH_done (by kernel_rfl) ?_ _
                go_wp2_with fail
                go_meet
                exact ⟨_, _, _, HL6, HK6⟩
              case rest =>
                obtain ⟨cs6, v6, L6, HL6, HM6⟩ := hcut
                have hl6 := HL7.out
                have h8I : ¬ (nc : Int) < 8 := by omega
                have h8c : (8 : Int) ≤ (capc : Int) := by omega
                clear o1 o2 hTc hrt hne hneT hTf5 how5 hi0 hz0 hz1 hz2 hsl HM
                obtain ⟨A6, cap6, rfl, hcp6, _⟩ := own_shape HM6.out.2.2.1
                have HSD : Hid (∀ k, (k = w4.heap.size ∨ v.ownBlock = some k ∨ w3.heap.size ≤ k) → w.heap.size ≤ k ∧ ¬ F2 k) := Lib.hid fun k hk => by
                  rcases hk with rfl | e | e
                  · exact ⟨HT0.out.tB, HT0.out.tF⟩
                  · obtain ⟨v2, t2, r2⟩ := HT0.out.each s hs16
                    have e2 := r2.at_
                    rw [HR0.out.1] at e2
                    obtain rfl : v = v2 := Option.some.inj e2
                    exact ⟨(own_block_lt r2.row e).2.1, (r2.off _ e).1⟩
                  · exact ⟨Nat.le_trans hb3.size e, fun h => by have := HAL.out.p.1 _ h; omega⟩
                have hB6 := HB3.out.chg HM6.out.2.2.2 (by
                  rintro (e | e | e)
                  · omega
                  · obtain ⟨v2, r2⟩ := HXo0.out s hs16
                    have e2 := r2.1
                    rw [HR0.out.1] at e2
                    obtain rfl : v = v2 := Option.some.inj e2
                    have := r2.2 _ e
                    omega
                  · have := HB3.out.lt
                    omega)
                have o1 : wc.cell? ⟨wr.heap.size, 1, none⟩ = some (.int .i64 (s : Int)) := hB6.cell 1
                have o2 : wc.cell? ⟨wr.heap.size, 2, none⟩ = some (.slice (some ⟨cb, co, none⟩) nc capc) := hB6.cell 2
                have hTc6 : wc.cell? ⟨w4.heap.size, s, none⟩ = some (.slice A6 L6 cap6) := (HM6.out.1.blk.cell s).trans HM6.out.2.1
                have HN : Hid (Alone wc w F2 N J (upd st s (joined (st s) bs)) ∧ ToldAt wc w.heap.size F2 w4.heap.size (upd st s (joined (st s) bs)) cs6) := ⟨HAL.out.side HM6.out.2.2.2 (fun k hk => (HSD.out k hk).1) (fun k hk h => (HSD.out k h).2 hk), HM6.out.1⟩
                have hb7 := HN.out.1.below
                have HB6l := Lib.hid hB6.lt
                clear hB6
                have HHd := Lib.hid (show heldS N (upd st s (joined (st s) bs)) (s : Int) = L6 by
                  unfold heldS
                  rw [if_neg (by omega), Int.toNat_natCast, upd_same, ← HJ5.out, List.length_append, List.length_drop, hlb, HL6.out])
                have HPH : Hid (∀ d, Calls Tryd.prog 22 #[.pointer (some ⟨J, 0, none⟩), .int .i64 (s : Int)] (wc.drewN d) fun e w' => e = .returned (.int .i64 (L6 : Int)) ∧ w' = wc.drewN d) := Lib.hid fun d => by
                  have h1 := PHeld_q J N F2 _ (s : Int) wc HN.out.1.p HN.out.1.ok d
                  rw [HHd.out] at h1
                  exact h1
                have HND : Hid (∀ d, (Alone (wc.drewN d) w F2 N J (upd st s (joined (st s) bs)) ∧ ToldAt (wc.drewN d) w.heap.size F2 w4.heap.size (upd st s (joined (st s) bs)) cs6) ∧ Below w.heap.size w (wc.drewN d)) := Lib.hid fun d =>
                  ⟨⟨HN.out.1.over (below_drewN (Below.refl _ _) d), HN.out.2.below (below_drewN (Below.refl _ _) d)⟩, below_drewN hb7 d⟩
                go_wp2
                go_quiet ((go_at_call 22; exact Calls.quiet_of_same (HPH.out _)))
                go_wp2
                go_roundw
                case rel => first | exact ⟨k + 1, F2, _, _, by omega, by go_num, (HND.out _).1, (HND.out _).2⟩ | ((repeat apply Exists.intro); refine And.symm ⟨?_, ?_⟩; (focus rfl); exact ⟨k + 1, F2, _, _, by omega, by go_num, (HND.out _).1, (HND.out _).2⟩)
                case measure => simp [intOf] <;> omega
        · as_aux_lemma =>
          obtain ⟨u, F2, rfl, hret, hal3, hm3⟩ := hT3.known HXo.out.1 hS
          have hb3 := hal3.below
          have hB3 := HBO.out.1.chg hm3.2 HBO.out.2
          have o1 : w3.cell? ⟨wr.heap.size, 1, none⟩ = some (.int .i64 (s : Int)) := hB3.cell 1
          have o2 : w3.cell? ⟨wr.heap.size, 2, none⟩ = some (.slice Ac nc capc) := hB3.cell 2
          have HB3 := Lib.hid hB3
          have hr3 : RdB w3 w.heap.size Ac nc bs := HRO.out.below (hm3.2.to_below hboo.size HXo.out.1.fw)
          have hlb := hr3.lenB
          have hs16 : s < 16 := by omega
          have hs2 : ¬ (s : Int) < 0 := by omega
          have hs3 : ¬ (N : Int) ≤ (s : Int) := by omega
          have hs4 : (s : Int) < 16 := by omega
          obtain ⟨v, t, hrow⟩ := HXo.out.2.each s hs16
          have h8 : 8 ≤ nc := by have := hf.1; omega
          have h8I : ¬ (nc : Int) < 8 := by omega
          have h8c : (8 : Int) ≤ (capc : Int) := by omega
          have HJ := Lib.hid (hrow.tell.joined hg)
          have HLE := Lib.hid (joined_le (HXo.out.1.ok s hsN) hf hg)
          have HSZ := Lib.hid hf.2.1
          have HT0 : Hid (ToldAt w3 w.heap.size F2 w4.heap.size (upd st s []) cs) := HXo.out.2.moved hm3 (fun k => by unfold upd; split; exact .inr rfl; exact .inl rfl)
          have HR0 : Hid (cs[s]? = some v ∧ w3.ownsRow w.heap.size 5 1 v t.length (bvs t)) := ⟨hrow.at_, own_chg hrow.row hm3.2 (fun g hg => (hrow.off g hg).1)⟩
          have HAL := Lib.hid hal3
          have HXo0 := HOW
          obtain ⟨_, g, cur, rfl, hg1, hg2, hg3, hg4⟩ := hret.resolve_left (fun h => by cases h.1)
          have hgT : g ≠ w4.heap.size := fun e => by
            rcases hg4 with h | h
            · exact HXo.out.2.tF (e ▸ h)
            · have := HXo.out.2.lt; omega
          have hgn : ∀ (s' : Nat) (v' : Value) (g' : Nat), cs[s']? = some v' → v'.ownBlock = some g' → g ≠ g' := fun s' v' g' hv' ho e => by
            subst e
            have hs' : s' < 16 := by
              rcases Nat.lt_or_ge s' 16 with h1 | h1
              · exact h1
              · rw [Array.getElem?_eq_none (by rw [HXo.out.2.size]; exact h1)] at hv'; cases hv'
            obtain ⟨v2, t2, r2⟩ := HXo.out.2.each s' hs'
            have e2 := r2.at_
            rw [hv'] at e2
            obtain rfl : v' = v2 := Option.some.inj e2
            rcases hg4 with h | h
            · exact (r2.off _ ho).1 h
            · have := (own_block_lt r2.row ho).1; omega
          have HG : Hid (Blk w3 g 5 cur ∧ cur.toList = bvs (blobS (joined (st s) bs))) := ⟨hg1, hg2⟩
          have HGN := Lib.hid hgn
          have HLq := Lib.hid hl
          have HCRq := Lib.hid hcr
          clear hl hcr
          clear hg1 hg2 hg4 hgn
          obtain ⟨cb, co, rfl, hcb, hcc⟩ := head_cells hr3 h8
          have q2 := hcc 2 (by omega)
          have q3 := hcc 3 (by omega)
          have HCC := Lib.hid hcc
          have HR3 := Lib.hid hr3
          clear hret hal3 hm3 hS hT3 hB3 c0 c1 c2 hcc hr3 hrow hf hg
          go_upto_region 28 with fail
          go_cut [155] from 54 to 250 (fun q wx => q = .bool (decide (cAt bs = 0)) ∧ w3 = wx)
          case first => as_aux_lemma =>
            have hca : cAt bs = by_ bs 2 * 256 + by_ bs 3 := rfl
            have hways : by_ bs 2 ≠ 0 ∨ (by_ bs 2 = 0 ∧ by_ bs 3 ≠ 0) ∨ (by_ bs 2 = 0 ∧ by_ bs 3 = 0) := by omega
            rcases hways with g2 | ⟨g2, g3⟩ | ⟨g2, g3⟩
            · have e2 : (((by_ bs 2 : Nat) : Int) == 0) = false := by simpa using g2
              have hQ : decide (cAt bs = 0) = false := decide_eq_false (by omega)
              go_wp2_with fail
              go_meet
              rw [hQ]
              exact ⟨rfl, rfl⟩
            · have e3 : (((by_ bs 3 : Nat) : Int) == 0) = false := by simpa using g3
              have hQ : decide (cAt bs = 0) = false := decide_eq_false (by omega)
              rw [g2] at q2
              go_wp2_with fail
              go_meet
              rw [hQ]
              exact ⟨rfl, rfl⟩
            · have hQ : decide (cAt bs = 0) = true := decide_eq_true (by omega)
              rw [g2] at q2
              rw [g3] at q3
              go_wp2_with fail
              go_meet
              rw [hQ]
              exact ⟨rfl, rfl⟩
          case rest =>
            obtain ⟨hq, rfl⟩ := hcut
            clear q2 q3
            go_upto_if 155 with fail
            go_cut [] from 54 to 250 (fun wx => ∃ (cs5 : Array Value) (v5 : Value) (t5 : List UInt8), Hid (ToldAt wx w.heap.size F2 w4.heap.size (upd st s []) cs5 ∧ cs5[s]? = some v5 ∧ wx.ownsRow w.heap.size 5 1 v5 t5.length (bvs t5) ∧ t5 = (if cAt bs = 0 then [] else t) ∧ Chg (fun k => k = w4.heap.size) w3 wx ∧ ∀ g', v5.ownBlock = some g' → v.ownBlock = some g'))
            case first => as_aux_lemma =>
              by_cases hz : cAt bs = 0
              · have hq' := hq.trans (congrArg Value.bool (decide_eq_true hz))
                clear hq
                subst hq'
                have HTN : Hid (ToldAt (w3.setCell ⟨w4.heap.size, s, none⟩ (.slice none 0 0)) w.heap.size F2 w4.heap.size (upd st s []) (cs.setIfInBounds s (.slice none 0 0))) :=
                  HT0.out.nil_ hs16 hb3.size HAL.out.p.1 (.inl (upd_same _ _ _)) (fun _ _ => rfl)
                have hTl := HT0.out.lt
                have hTc : w3.cell? ⟨w4.heap.size, s, none⟩ = some v := (HT0.out.blk.cell s).trans HR0.out.1
                have hTf : w3.frozen? ⟨w4.heap.size, s, none⟩ = false := HT0.out.blk.frozen s
                have HCS : Hid ((cs.setIfInBounds s (.slice none 0 0))[s]? = some (.slice none 0 0)) := by
                  refine Lib.hid ?_
                  rw [Array.getElem?_setIfInBounds_self_of_lt (by rw [HT0.out.size]; exact hs16)]
                go_wp2_with fail
                go_meet
                exact ⟨_, _, [], ⟨HTN.out, HCS.out, ⟨by simp [bvs], .inl ⟨rfl, rfl⟩⟩, by rw [if_pos hz], (Chg.refl (fun k => k = w4.heap.size) w3).setCell (p := ⟨w4.heap.size, s, none⟩) (.inl rfl) _, fun g' h => by simp [Value.ownBlock] at h⟩⟩
              · have hq' := hq.trans (congrArg Value.bool (decide_eq_false hz))
                clear hq
                subst hq'
                go_wp2_with fail
                go_meet
                exact ⟨_, _, t, ⟨HT0.out, HR0.out.1, HR0.out.2, by rw [if_neg hz], Chg.refl _ _, fun _ h => h⟩⟩
            case rest =>
              obtain ⟨cs5, v5, t5, HM⟩ := hcut
              have hTo := HTo.out
              have hTl := HM.out.1.lt
              have hch := HM.out.2.2.2.2.1
              have hB5 := HB3.out.chg hch (by omega)
              have o1 : wc.cell? ⟨wr.heap.size, 1, none⟩ = some (.int .i64 (s : Int)) := hB5.cell 1
              have o2 : wc.cell? ⟨wr.heap.size, 2, none⟩ = some (.slice (some ⟨cb, co, none⟩) nc capc) := hB5.cell 2
              have hTc : wc.cell? ⟨w4.heap.size, s, none⟩ = some v5 := (HM.out.1.blk.cell s).trans HM.out.2.1
              have hr5 : RdB wc w.heap.size (some ⟨cb, co, none⟩) nc bs := HR3.out.below (hch.to_below hb3.size (fun k e => by subst e; exact HM.out.1.tB))
              have hrt := hr5.tail8 h8 hle
              have hJ5 : t5 ++ bs.drop 8 = blobS (joined (st s) bs) := by rw [HM.out.2.2.2.1]; exact HJ.out
              have hl6 : t5.length + (nc - 8) ≤ 4000 := by
                have h1 := congrArg List.length hJ5
                rw [List.length_append, List.length_drop, hlb] at h1
                have h2 := HLE.out
                have h3 := HSZ.out
                omega
              have HJ5 := Lib.hid hJ5
              have hne : v5.ownBlock ≠ some wr.heap.size := fun e => by
                have h1 := HM.out.2.2.2.2.2 _ e
                have h2 := (own_block_lt HR0.out.2 h1).1
                obtain ⟨v2, r2⟩ := HXo0.out s hs16
                have e2 := r2.1
                rw [HR0.out.1] at e2
                obtain rfl : v = v2 := Option.some.inj e2
                have := r2.2 _ h1
                omega
              have hneT : v5.ownBlock ≠ some w4.heap.size := fun e => by
                obtain ⟨v2, t2, r2⟩ := HM.out.1.each s hs16
                have e2 := r2.at_
                rw [HM.out.2.1] at e2
                obtain rfl : v5 = v2 := Option.some.inj e2
                exact (r2.off _ e).2 rfl
              have hTf5 : wc.frozen? ⟨w4.heap.size, s, none⟩ = false := HM.out.1.blk.frozen s
              have how5 := HM.out.2.2.1
              have hws : w.heap.size ≤ wc.heap.size := Nat.le_trans hb3.size hch.size
              obtain ⟨A5, cap5, rfl, _, _⟩ := own_shape how5
              obtain ⟨i0, hi0, hz0, hz1, hz2⟩ := info_parts info_u8
              generalize hX : (if capc = 8 then (some ⟨cb, co, none⟩ : Option Addr) else (some ⟨cb, co, none⟩ : Option Addr).map (·.add (8 * 1))) = X at hrt
              have hsl : ∀ W, Sem.run Tryd.prog (Instr.slice 22 (.slice (some ⟨cb, co, none⟩) nc capc) (some (.int .i64 8)) none none) W = .ok (.slice X (nc - 8) (capc - 8)) W := by
                intro W
                rw [run_slice_l (P := Tryd.prog) W 22 (some ⟨cb, co, none⟩) nc capc Tryd.underlying22 .i64 8 (by omega) (by omega), ← hX]
                rfl
              have hol := hB5.lt
              have hTl5 := HM.out.1.lt
              have HFL : Hid (∀ k, F2 k → k < wc.heap.size) := Lib.hid fun k hk => Nat.lt_of_lt_of_le (HAL.out.p.1 k hk) hch.size
              clear hX hch hB5 hr5 hJ5
              have hm1 : t5.length + (nc - 8) ≤ maxLen := by simp only [maxLen]; omega
              have hm2 : (t5.length + (nc - 8)) * 1 ≤ 140737488355328 := by omega
              obtain ⟨L6, hL6⟩ : ∃ L6, L6 = t5.length + (nc - 8) := ⟨_, rfl⟩
              have HL6 := Lib.hid hL6
              have HL7 := Lib.hid hl6
              have HM1 := Lib.hid hm1
              have HM2 := Lib.hid hm2
              clear hL6 hl6 hm1 hm2 h8I h8c
              go_upto_region 30 with fail
              go_cut [] from 54 to 250 (fun wx => ∃ (cs6 : Array Value) (v6 : Value) (L6 : Nat), Hid (L6 = t5.length + (nc - 8)) ∧ Hid (ToldAt wx w.heap.size F2 w4.heap.size (upd st s []) cs6 ∧ cs6[s]? = some v6 ∧ wx.ownsRow w.heap.size 5 1 v6 L6 (bvs (t5 ++ bs.drop 8)) ∧ Chg (fun k => k = w4.heap.size ∨ v.ownBlock = some k ∨ w3.heap.size ≤ k) w3 wx))
              case first => as_aux_lemma =>
                have FIN : Hid (∀ (v6 : Value) (w6 : World), w6.ownsRow w.heap.size 5 1 v6 (t5.length + (nc - 8)) (bvs t5 ++ bvs (bs.drop 8)) → wc.drew.grownBy w6 (Value.slice A5 t5.length cap5).ownBlock → (v6.ownBlock = (Value.slice A5 t5.length cap5).ownBlock ∨ v6.ownBlock = some wc.drew.heap.size) →
                    ToldAt (w6.setCell ⟨w4.heap.size, s, none⟩ v6) w.heap.size F2 w4.heap.size (upd st s []) (cs5.setIfInBounds s v6) ∧ (cs5.setIfInBounds s v6)[s]? = some v6 ∧ (w6.setCell ⟨w4.heap.size, s, none⟩ v6).ownsRow w.heap.size 5 1 v6 L6 (bvs (t5 ++ bs.drop 8)) ∧ Chg (fun k => k = w4.heap.size ∨ v.ownBlock = some k ∨ w3.heap.size ≤ k) w3 (w6.setCell ⟨w4.heap.size, s, none⟩ v6)) := Lib.hid fun v6 w6 how6 hg6 hat6 => by
                  have HR6 : w6.ownsRow w.heap.size 5 1 v6 (t5 ++ bs.drop 8).length (bvs (t5 ++ bs.drop 8)) := by rw [List.length_append, List.length_drop, hlb, bvs_append]; exact how6
                  have hsf : (cs5.setIfInBounds s v6)[s]? = some v6 := by rw [Array.getElem?_setIfInBounds_self_of_lt (by rw [HM.out.1.size]; exact hs16)]
                  have HT6 : ToldAt (w6.setCell ⟨w4.heap.size, s, none⟩ v6) w.heap.size F2 w4.heap.size (upd st s []) (cs5.setIfInBounds s v6) := HM.out.1.set_ (v := .slice A5 t5.length cap5) (t' := t5 ++ bs.drop 8) hs16 hws HFL.out HM.out.2.1 (((Chg.refl _ wc).drew).trans (Chg.of_grown hg6)) HR6 (by rw [List.length_append, List.length_drop, hlb]; exact HL7.out) (.inl (upd_same _ _ _)) (by rcases hat6 with e | e; exact .inr (.inl e); exact .inr (.inr ⟨_, e, Nat.le_refl _⟩)) (fun _ _ => rfl)
                  have HO6 : ∀ g', v6.ownBlock = some g' → g' ≠ w4.heap.size := fun g' h => by
                    obtain ⟨v2, t2, r2⟩ := HT6.each s hs16
                    have e2 := r2.at_
                    rw [hsf] at e2
                    obtain rfl : v6 = v2 := Option.some.inj e2
                    exact (r2.off _ h).2
                  refine ⟨HT6, hsf, ?_, (((HM.out.2.2.2.2.1.mono (fun _ _ h => .inl h)).drew).thenS (Chg.of_grown hg6) (fun i _ hi => .inr (.inl (HM.out.2.2.2.2.2 i hi.symm)))).setCell (p := ⟨w4.heap.size, s, none⟩) (.inl (.inl rfl)) _⟩
                  have h1 := own_chg HR6 ((Chg.refl (fun k => k = w4.heap.size) w6).setCell (p := ⟨w4.heap.size, s, none⟩) (.inl rfl) v6) (fun g' h => HO6 g' h)
                  rw [List.length_append, List.length_drop, hlb] at h1
                  rw [HL6.out]
                  exact h1
                have HPQ : Hid (∀ w6 : World, wc.drew.grownBy w6 (Value.slice A5 t5.length cap5).ownBlock → w6.cell? ⟨wr.heap.size, 1, none⟩ = some (.int .i64 (s : Int)) ∧ (∀ v, (w6.setCell ⟨w4.heap.size, s, none⟩ v).cell? ⟨wr.heap.size, 1, none⟩ = some (.int .i64 (s : Int))) ∧ w6.cell? ⟨w4.heap.size, s, none⟩ = some (.slice A5 t5.length cap5) ∧ w6.frozen? ⟨w4.heap.size, s, none⟩ = false) := Lib.hid fun w6 hg6 => by
                  have q1 : w6.cell? ⟨wr.heap.size, 1, none⟩ = some (.int .i64 (s : Int)) := (hg6.cell_far ⟨wr.heap.size, 1, none⟩ hol (Ne.symm hne)).trans o1
                  exact ⟨q1, fun v => (World.cell?_of_block (((Chg.refl (fun k => k = w4.heap.size) w6).setCell (p := ⟨w4.heap.size, s, none⟩) (.inl rfl) v).block wr.heap.size (Nat.lt_of_lt_of_le hol hg6.size) (fun e => by omega))).trans q1, (hg6.cell_far ⟨w4.heap.size, s, none⟩ hTl5 (Ne.symm hneT)).trans hTc, (hg6.frozen_far ⟨w4.heap.size, s, none⟩ hTl5 (Ne.symm hneT)).trans hTf5⟩
                have HHOW := Lib.hid how5.drew
                have hrtd := hrt.keep (w' := wc.drew) fun _ _ => rfl
                clear how5 hne hneT HM HFL HJ5 HR3 HCC HBO HRO HXo HOW HXo0 HT0 HR0 HAL HB3 HO HJ HLE HSZ
                have HS0 : wc.drew.cell? ⟨wr.heap.size, 1, none⟩ = some (.int .i64 (s : Int)) := o1
                refine wp_region_held_drew (S := fun w' => w'.cell? ⟨wr.heap.size, 1, none⟩ = some (.int .i64 (s : Int))) (by kernel_rfl) HS0 (fun hHeld => ?_)
                refine wpAnyH_take (i := 0) (oi := ?oi0z) (v := ?v0z) ?hi0z (by kernel_rfl) (by kernel_rfl) (by kernel_rfl) ?hq0z ?hy0z (by assumption) ?rest0z
                case hi0z => (simp only [List.getElem?_toArray, List.getElem?_cons_zero, List.getElem?_cons_succ]; rfl)
                case hy0z => (refine Or.inl ⟨by rfl, ?_⟩; intro w hSw; (try dsimp only at hSw); go_simp; try with_reducible rfl)
                case hq0z => exact fun _ _ _ h => h
                try simp only [Act.put, List.setIfInBounds_toArray, List.set_cons_zero, List.set_cons_succ]
                refine wpAnyH_take (i := 1) (oi := ?oi1z) (v := ?v1z) ?hi1z (by kernel_rfl) (by kernel_rfl) (by kernel_rfl) ?hq1z ?hy1z (by assumption) ?rest1z
                case hi1z => (simp only [List.getElem?_toArray, List.getElem?_cons_zero, List.getElem?_cons_succ]; rfl)
                case hy1z => (refine Or.inl ⟨by rfl, ?_⟩; intro w hSw; (try dsimp only at hSw); go_simp; try with_reducible rfl)
                case hq1z => exact fun _ _ _ h => h
                try simp only [Act.put, List.setIfInBounds_toArray, List.set_cons_zero, List.set_cons_succ]
                refine wpAnyH_take (i := 2) (oi := ?oi2z) (v := ?v2z) ?hi2z (by kernel_rfl) (by kernel_rfl) (by kernel_rfl) ?hq2z ?hy2z (by assumption) ?rest2z
                case hi2z => (simp only [List.getElem?_toArray, List.getElem?_cons_zero, List.getElem?_cons_succ]; rfl)
                case hy2z => (refine Or.inl ⟨by rfl, ?_⟩; intro w hSw; (try dsimp only at hSw); go_simp; try with_reducible rfl)
                case hq2z => exact fun _ _ _ h => h
                try simp only [Act.put, List.setIfInBounds_toArray, List.set_cons_zero, List.set_cons_succ]
                refine wpAnyH_take (i := 3) (oi := ?oi3z) (v := ?v3z) ?hi3z (by kernel_rfl) (by kernel_rfl) (by kernel_rfl) ?hq3z ?hy3z (by assumption) ?rest3z
                case hi3z => (simp only [List.getElem?_toArray, List.getElem?_cons_zero, List.getElem?_cons_succ]; rfl)
                case hy3z => (refine Or.inl ⟨by rfl, ?_⟩; intro w hSw; (try dsimp only at hSw); go_simp; try with_reducible rfl)
                case hq3z => exact fun _ _ _ h => h
                try simp only [Act.put, List.setIfInBounds_toArray, List.set_cons_zero, List.set_cons_succ]
                refine wpAnyH_take (i := 4) (oi := ?oi4z) (v := ?v4z) ?hi4z (by kernel_rfl) (by kernel_rfl) (by kernel_rfl) ?hq4z ?hy4z (by assumption) ?rest4z
                case hi4z => (simp only [List.getElem?_toArray, List.getElem?_cons_zero, List.getElem?_cons_succ]; rfl)
                case hy4z => (refine Or.inl ⟨by rfl, ?_⟩; intro w hSw; (try dsimp only at hSw); go_simp; try with_reducible rfl)
                case hq4z => exact fun _ _ _ h => h
                try simp only [Act.put, List.setIfInBounds_toArray, List.set_cons_zero, List.set_cons_succ]
                refine wpAnyH_take (i := 6) (oi := ?oi6z) (v := ?v6z) ?hi6z (by kernel_rfl) (by kernel_rfl) (by kernel_rfl) ?hq6z ?hy6z (by assumption) ?rest6z
                case hi6z => (simp only [List.getElem?_toArray, List.getElem?_cons_zero, List.getElem?_cons_succ]; rfl)
                case hy6z => (refine Or.inl ⟨by rfl, ?_⟩; intro w hSw; (try dsimp only at hSw); go_simp; try with_reducible rfl)
                case hq6z => exact fun _ _ _ h => h
                try simp only [Act.put, List.setIfInBounds_toArray, List.set_cons_zero, List.set_cons_succ]
                refine wpAnyH_take (i := 7) (oi := ?oi7z) (v := ?v7z) ?hi7z (by kernel_rfl) (by kernel_rfl) (by kernel_rfl) ?hq7z ?hy7z (by assumption) ?rest7z
                case hi7z => (simp only [List.getElem?_toArray, List.getElem?_cons_zero, List.getElem?_cons_succ]; rfl)
                case hy7z => (refine Or.inl ⟨by rfl, ?_⟩; intro w hSw; (try dsimp only at hSw); go_simp; try with_reducible rfl)
                case hq7z => exact fun _ _ _ h => h
                try simp only [Act.put, List.setIfInBounds_toArray, List.set_cons_zero, List.set_cons_succ]
                refine wpAnyH_ready (rs := [5]) (by kernel_rfl) (by simp) ?_
                refine AllReadyH.cons (o := ?o5z) ?ho5z (fun K hK => ?st5z) AllReadyH.nil
                case ho5z => (simp only [List.getElem?_toArray, List.getElem?_cons_zero, List.getElem?_cons_succ]; rfl)
                go_simp
                refine hK.out _ _ (HS0) (fun hHeld5 => ?_)
                clear hK K
                try simp only [Act.put, List.setIfInBounds_toArray, List.set_cons_zero, List.set_cons_succ]
                refine wpAnyH_ready (rs := [8]) (by kernel_rfl) (by simp) ?_
                refine AllReadyH.cons (o := ?o8z) ?ho8z (fun K hK => ?st8z) AllReadyH.nil
                case ho8z => (simp only [List.getElem?_toArray, List.getElem?_cons_zero, List.getElem?_cons_succ]; rfl)
                refine step_append_any _ (by rfl) _ _ 22 (by rfl) w.heap.size 5 i0 _ 1 1 u_bytes hi0 hz0 hz1 hz2 rfl (by decide) _ t5.length _ (by rfl) HHOW.out w.heap.size X (nc - 8) (capc - 8) _ (by rfl) hrtd (bvs_one _) HM1.out HM2.out hws ?_
                intro v6 w6 how6 hg6 hat6
                obtain ⟨q1, q2, qT, fT⟩ := HPQ.out w6 hg6
                have HK6 := Lib.hid (FIN.out v6 w6 how6 hg6 hat6)
                rw [← HL6.out] at how6
                obtain ⟨A6, cap6, rfl, _, _⟩ := own_shape how6
                clear how6 hg6 hat6
                refine hK.out _ _ (q1) (fun hHeld8 => ?_)
                clear hK K
                try simp only [Act.put, List.setIfInBounds_toArray, List.set_cons_zero, List.set_cons_succ]
                refine wpAnyH_take (i := 9) (oi := ?oi9z) (v := ?v9z) ?hi9z (by kernel_rfl) (by kernel_rfl) (by kernel_rfl) ?hq9z ?hy9z (by assumption) ?rest9z
                case hi9z => (simp only [List.getElem?_toArray, List.getElem?_cons_zero, List.getElem?_cons_succ]; rfl)
                case hy9z => (refine Or.inl ⟨by rfl, ?_⟩; intro w hSw; (try dsimp only at hSw); go_simp; try with_reducible rfl)
                case hq9z => exact fun _ _ _ h => h
                try simp only [Act.put, List.setIfInBounds_toArray, List.set_cons_zero, List.set_cons_succ]
                refine wpAnyH_ready (rs := [10]) (by kernel_rfl) (by simp) ?_
                refine AllReadyH.cons (o := ?o10z) ?ho10z (fun K hK => ?st10z) AllReadyH.nil
                case ho10z => (simp only [List.getElem?_toArray, List.getElem?_cons_zero, List.getElem?_cons_succ]; rfl)
                go_simp
                refine hK.out _ _ (q2 _) (fun hHeld10 => ?_)
                clear hK K
                try simp only [Act.put, List.setIfInBounds_toArray, List.set_cons_zero, List.set_cons_succ]
                refine wpAnyH_done (by kernel_rfl) ?_ _
                go_wp2_with fail
                go_meet
                exact ⟨_, _, _, HL6, HK6⟩
              case rest =>
                obtain ⟨cs6, v6, L6, HL6, HM6⟩ := hcut
                have hl6 := HL7.out
                have h8I : ¬ (nc : Int) < 8 := by omega
                have h8c : (8 : Int) ≤ (capc : Int) := by omega
                clear o1 o2 hTc hrt hne hneT hTf5 how5 hi0 hz0 hz1 hz2 hsl HM
                obtain ⟨A6, cap6, rfl, hcp6, _⟩ := own_shape HM6.out.2.2.1
                have HSD : Hid (∀ k, (k = w4.heap.size ∨ v.ownBlock = some k ∨ w3.heap.size ≤ k) → w.heap.size ≤ k ∧ ¬ F2 k) := Lib.hid fun k hk => by
                  rcases hk with rfl | e | e
                  · exact ⟨HT0.out.tB, HT0.out.tF⟩
                  · obtain ⟨v2, t2, r2⟩ := HT0.out.each s hs16
                    have e2 := r2.at_
                    rw [HR0.out.1] at e2
                    obtain rfl : v = v2 := Option.some.inj e2
                    exact ⟨(own_block_lt r2.row e).2.1, (r2.off _ e).1⟩
                  · exact ⟨Nat.le_trans hb3.size e, fun h => by have := HAL.out.p.1 _ h; omega⟩
                have hB6 := HB3.out.chg HM6.out.2.2.2 (by
                  rintro (e | e | e)
                  · omega
                  · obtain ⟨v2, r2⟩ := HXo0.out s hs16
                    have e2 := r2.1
                    rw [HR0.out.1] at e2
                    obtain rfl : v = v2 := Option.some.inj e2
                    have := r2.2 _ e
                    omega
                  · have := HB3.out.lt
                    omega)
                have o1 : wc.cell? ⟨wr.heap.size, 1, none⟩ = some (.int .i64 (s : Int)) := hB6.cell 1
                have o2 : wc.cell? ⟨wr.heap.size, 2, none⟩ = some (.slice (some ⟨cb, co, none⟩) nc capc) := hB6.cell 2
                have hTc6 : wc.cell? ⟨w4.heap.size, s, none⟩ = some (.slice A6 L6 cap6) := (HM6.out.1.blk.cell s).trans HM6.out.2.1
                have HN : Hid (Alone wc w F2 N J (upd st s []) ∧ ToldAt wc w.heap.size F2 w4.heap.size (upd st s []) cs6) := ⟨HAL.out.side HM6.out.2.2.2 (fun k hk => (HSD.out k hk).1) (fun k hk h => (HSD.out k h).2 hk), HM6.out.1⟩
                have hb7 := HN.out.1.below
                have HB6l := Lib.hid hB6.lt
                clear hB6
                have hch6 := HM6.out.2.2.2
                have hlo := HB6l.out
                have hlT : w4.heap.size < wc.heap.size := HM6.out.1.blk.lt
                have hlc : cb < wc.heap.size := Nat.lt_of_lt_of_le hcb HN.out.1.below.size
                have hr6 : RdB wc w.heap.size (some ⟨cb, co, none⟩) nc bs := HR3.out.below (hch6.to_below hb3.size (fun k hk => (HSD.out k hk).1))
                obtain ⟨_, _, e', _, hcc6⟩ := head_cells hr6 h8
                cases e'
                have p0 : wc.cell? ⟨cb, co, none⟩ = some (.int .u8 ((by_ bs 0 : Nat) : Int)) := hcc6 0 (by omega)
                have p1 := hcc6 1 (by omega)
                have p4 := hcc6 4 (by omega)
                have p5 := hcc6 5 (by omega)
                have p6 := hcc6 6 (by omega)
                have p7 := hcc6 7 (by omega)
                have hBg := HG.out.1.chg hch6 (by
                  rintro (e | e | e)
                  · exact hgT e
                  · exact HGN.out s v g HR0.out.1 e rfl
                  · have := HG.out.1.lt; omega)
                have hrb : RdB wc wc.heap.size (some ⟨g, 0, none⟩) (blobS (joined (st s) bs)).length (blobS (joined (st s) bs)) := ⟨by rw [bvs_length]; omega, fun _ => ⟨g, 0, rfl, hBg.lt, fun i x hx => by
                  rw [Nat.zero_add, hBg.cell, ← Array.getElem?_toList, HG.out.2]
                  exact hx⟩⟩
                have hrt6 : RdB wc wc.heap.size A6 L6 (blobS (joined (st s) bs)) := by
                  have h1 := Rd.of_own HM6.out.2.2.1
                  rw [HJ5.out] at h1
                  exact h1
                have b0 := by_lt bs 0
                have b1 := by_lt bs 1
                have b4 := by_lt bs 4
                have b5 := by_lt bs 5
                have b6 := by_lt bs 6
                have b7 := by_lt bs 7
                have hcz : (blobS (joined (st s) bs)).length = by_ bs 0 * 256 + by_ bs 1 := HLq.out
                have hcs : Crc.crc (blobS (joined (st s) bs)) = by_ bs 4 * 16777216 + by_ bs 5 * 65536 + by_ bs 6 * 256 + by_ bs 7 := HCRq.out
                have HSU : Hid (∀ W, Below wc.heap.size wc W → Calls Tryd.prog 23 #[.slice (some ⟨g, 0, none⟩) (blobS (joined (st s) bs)).length (blobS (joined (st s) bs)).length] W fun e w' => e = .returned (.int .i64 ((by_ bs 4 : Int) * 16777216 + (by_ bs 5 : Int) * 65536 + (by_ bs 6 : Int) * 256 + (by_ bs 7 : Int))) ∧ w' = W) := Lib.hid fun W hW => by
                  have h1 := Sum_any (some ⟨g, 0, none⟩) _ (blobS (joined (st s) bs)).length _ _ W (hrb.below hW) (by omega) (((HAL.out.side hch6 (fun k hk => (HSD.out k hk).1) (fun k hk h => (HSD.out k h).2 hk)).over hW).nibs ht).1
                  rw [hcs] at h1
                  refine h1.mono ?_
                  rintro _ _ ⟨rfl, rfl⟩
                  exact ⟨by simp, rfl⟩
                have HSA : Hid (∀ W, Below wc.heap.size wc W → Calls Tryd.prog 16 #[.slice (some ⟨g, 0, none⟩) (blobS (joined (st s) bs)).length (blobS (joined (st s) bs)).length, .slice A6 L6 cap6] W fun e w' => e = .returned (.bool true) ∧ w' = W) := Lib.hid fun W hW =>
                  (same_yes _ _ _ _ _ _ _ _ _ W (hrb.below hW) (hrt6.below hW)).mono fun _ _ ⟨h, h'⟩ => ⟨h, h'.symm⟩
                have hh0 : heldS N (upd st s []) (s : Int) = 0 := by
                  unfold heldS
                  rw [if_neg (by omega), Int.toNat_natCast, upd_same]
                  rfl
                have HPH : Hid (∀ W, Below wc.heap.size wc W → Calls Tryd.prog 22 #[.pointer (some ⟨J, 0, none⟩), .int .i64 (s : Int)] W fun e w' => e = .returned (.int .i64 0) ∧ w' = W) := Lib.hid fun W hW => by
                  have h1 := PHeld_any J N F2 _ (s : Int) W (HN.out.1.p.below hW) HN.out.1.ok
                  rw [hh0] at h1
                  exact h1.mono fun _ _ ⟨h, h'⟩ => ⟨h, h'.symm⟩
                have HNE : Hid (∀ W, Below wc.heap.size wc W → (Alone (W.setCell ⟨w4.heap.size, s, none⟩ (.slice none 0 0)) w F2 N J (upd st s []) ∧ ToldAt (W.setCell ⟨w4.heap.size, s, none⟩ (.slice none 0 0)) w.heap.size F2 w4.heap.size (upd st s []) (cs6.setIfInBounds s (.slice none 0 0))) ∧ Below w.heap.size w (W.setCell ⟨w4.heap.size, s, none⟩ (.slice none 0 0))) := Lib.hid fun W hW => by
                  have ha := HN.out.1.over hW
                  have hT := HN.out.2.below hW
                  have ha2 := ha.side (S := fun k => k = w4.heap.size) ((Chg.refl (fun k => k = w4.heap.size) W).setCell (p := ⟨w4.heap.size, s, none⟩) (.inl rfl) (.slice none 0 0)) (fun k e => by subst e; exact hT.tB) (fun k hk e => by subst e; exact hT.tF hk)
                  exact ⟨⟨ha2, hT.nil_ hs16 ha.below.size ha.p.1 (.inl (upd_same _ _ _)) (fun _ _ => rfl)⟩, ha2.below⟩
                have hTf6 : wc.frozen? ⟨w4.heap.size, s, none⟩ = false := HM6.out.1.blk.frozen s
                have hbl : (((blobS (joined (st s) bs)).length : Int) != (by_ bs 0 : Int) * 256 + (by_ bs 1 : Int)) = false := by
                  rw [hcz]; simp
                have n0 : 0 < nc := by omega
                have n0I : (0 : Int) < (nc : Int) := by omega
                have n1I : (1 : Int) < (nc : Int) := by omega
                clear HLq HCRq hcz hcs hrb hrt6 hcc6 hBg hr6 hch6 hh0
                generalize hLB : (blobS (joined (st s) bs)).length = LB at *
                obtain ⟨or1, or2, or3⟩ := or_four (by_ bs 4) (by_ bs 5) (by_ bs 6) (by_ bs 7) b4 b5 b6 b7
                have or4 := or_256 (by_ bs 0) (by_ bs 1) b0 b1
                obtain ⟨wr4, wr5, wr6, wr7, wr8, wr9, wr10⟩ := wraps (by_ bs 4) (by_ bs 5) (by_ bs 6) (by_ bs 7) b4 b5 b6 b7
                obtain ⟨wr0, wr1, _, _, _, _, _⟩ := wraps (by_ bs 0) (by_ bs 1) (by_ bs 0) (by_ bs 1) b0 b1 b0 b1
                have wr2 : IntKind.i64.wrap ((by_ bs 0 : Int) * 256) = (by_ bs 0 : Int) * 256 := (wraps (by_ bs 1) (by_ bs 1) (by_ bs 0) (by_ bs 1) b1 b1 b0 b1).2.2.2.2.2.2
                generalize by_ bs 0 = x0' at *
                generalize by_ bs 1 = x1' at *
                generalize by_ bs 4 = x4' at *
                generalize by_ bs 5 = x5' at *
                generalize by_ bs 6 = x6' at *
                generalize by_ bs 7 = x7' at *
                clear b0 b1 b4 b5 b6 b7
                have HFX : Hid (∀ W : World, Below wc.heap.size wc W → W.cell? ⟨wr.heap.size, 1, none⟩ = some (.int .i64 (s : Int)) ∧ W.cell? ⟨w4.heap.size, s, none⟩ = some (.slice A6 L6 cap6) ∧ W.cell? ⟨cb, co, none⟩ = some (.int .u8 (x0' : Int)) ∧ W.cell? ⟨cb, co + 1, none⟩ = some (.int .u8 (x1' : Int)) ∧ W.frozen? ⟨w4.heap.size, s, none⟩ = false) := Lib.hid fun W hW =>
                  ⟨((bcell hW).1 _ _ hlo).trans o1, ((bcell hW).1 _ _ hlT).trans hTc6, ((bcell hW).1 _ _ hlc).trans p0, ((bcell hW).1 _ _ hlc).trans p1, ((bcell hW).2 _ _ hlT).trans hTf6⟩
                go_upto_region 34 with fail
                go_cut [17] from 54 to 250 (fun q wx => q = .int .i64 ((x4' : Int) * 16777216 + (x5' : Int) * 65536 + (x6' : Int) * 256 + (x7' : Int)) ∧ Hid (Below wc.heap.size wc wx))
                case first => as_aux_lemma =>
                  go_quiet (fail)
                  go_wp2_with fail
                  go_meet
                  exact ⟨rfl, Lib.hid (below_drewN (Below.refl _ _) _)⟩
                case rest =>
                  obtain ⟨rfl, HBX⟩ := hcut
                  obtain ⟨f1, f2, f3, f4, f5⟩ := HFX.out _ HBX.out
                  have HBE : Hid (((x4' : Int) * 16777216 + (x5' : Int) * 65536 + (x6' : Int) * 256 + (x7' : Int) != (x4' : Int) * 16777216 + (x5' : Int) * 65536 + (x6' : Int) * 256 + (x7' : Int)) = false) := Lib.hid (by simp)
                  clear o1 o2 hTc6 hTf6 p0 p1 p4 p5 p6 p7 or1 or2 or3 wr4 wr5 wr6 wr7 wr8 wr9 wr10 HFX
                  generalize (x4' : Int) * 16777216 + (x5' : Int) * 65536 + (x6' : Int) * 256 + (x7' : Int) = SM at *
                  go_wp2
                  go_quiet ((first
                    | (go_at_call 23; exact Calls.quiet_of_same (HSU.out _ (below_drewN HBX.out _)))
                    | (go_at_call 16; exact Calls.quiet_of_same (HSA.out _ (below_drewN HBX.out _)))
                    | (go_at_call 22; exact Calls.quiet_of_same (HPH.out _ (below_drewN HBX.out _)))))
                  go_wp2
                  go_roundw
                  case rel => first | exact ⟨k + 1, F2, _, _, by omega, by go_num, Lib.hid (HNE.out _ (below_drewN HBX.out _)).1, (HNE.out _ (below_drewN HBX.out _)).2⟩ | ((repeat apply Exists.intro); refine And.symm ⟨?_, ?_⟩; (focus rfl); exact ⟨k + 1, F2, _, _, by omega, by go_num, Lib.hid (HNE.out _ (below_drewN HBX.out _)).1, (HNE.out _ (below_drewN HBX.out _)).2⟩)
                  case measure => simp [intOf] <;> omega
      · by_cases hk3 : kd = 3
        · as_aux_lemma =>
          subst hk3
          go_wp2_with fail
          refine (PReset_any J N F st _ HXo.out.1.p hN1).mono ?_
          rintro _ w3 ⟨rfl, hp3, hm3⟩
          have HD : Hid (Alone w3 w F N J (fun _ => []) ∧ ToldAt w3 w.heap.size F w4.heap.size (fun _ => []) cs) := ⟨HXo.out.1.moved hp3 (fun s _ => Part.nil_) hm3, HXo.out.2.moved hm3 (fun _ => .inr rfl)⟩
          have hb3 := HD.out.1.below
          clear hp3 hm3 c0 c1 c2
          go_wp2_with fail
          go_loopw [18] (fun i wi => ∃ (j : Nat) (cs' : Array Value), j ≤ 16 ∧ i = .int .i64 (j : Int) ∧ Hid (Alone wi w F N J (fun _ => []) ∧ ToldAt wi w.heap.size F w4.heap.size (fun _ => []) cs') ∧ Below w.heap.size w wi) (fun i _ => 16 - (intOf i).toNat)
          case atStart => exact ⟨0, cs, by omega, rfl, HD.out, hb3⟩
          case round =>
            obtain ⟨j, cs', hj, rfl, HY, hby⟩ := hrel
            by_cases hlt2 : j < 16
            · have hjI : (j : Int) < 16 := by omega
              obtain ⟨v, t, hrow⟩ := HY.out.2.each j hlt2
              have hTc : wr.cell? ⟨w4.heap.size, j, none⟩ = some v := (HY.out.2.blk.cell j).trans hrow.at_
              have hTf : wr.frozen? ⟨w4.heap.size, j, none⟩ = false := HY.out.2.blk.frozen j
              have HN2 : Hid (Alone (wr.setCell ⟨w4.heap.size, j, none⟩ (.slice none 0 0)) w F N J (fun _ => []) ∧ ToldAt (wr.setCell ⟨w4.heap.size, j, none⟩ (.slice none 0 0)) w.heap.size F w4.heap.size (fun _ => []) (cs'.setIfInBounds j (.slice none 0 0))) :=
                ⟨HY.out.1.side (S := fun k => k = w4.heap.size) ((Chg.refl (fun k => k = w4.heap.size) wr).setCell (p := ⟨w4.heap.size, j, none⟩) (.inl rfl) _) (fun k e => by subst e; exact HY.out.2.tB) (fun k hk e => by subst e; exact HY.out.2.tF hk),
                  HY.out.2.nil_ hlt2 hby.size HY.out.1.p.1 (.inl rfl) (fun _ _ => rfl)⟩
              have hb4 := HN2.out.1.below
              clear hrow
              go_wp2
              go_roundw
              case rel => first | exact ⟨j + 1, _, by omega, by go_num, HN2.out, hb4⟩ | ((repeat apply Exists.intro); refine And.symm ⟨?_, ?_⟩; (focus rfl); exact ⟨j + 1, _, by omega, by go_num, HN2.out, hb4⟩)
              case measure => simp [intOf] <;> omega
            · obtain rfl : j = 16 := by omega
              go_wp2
              go_roundw
              case rel => first | exact ⟨k + 1, F, _, _, by omega, by go_num, HY.out, hby⟩ | ((repeat apply Exists.intro); refine And.symm ⟨?_, ?_⟩; (focus rfl); exact ⟨k + 1, F, _, _, by omega, by go_num, HY.out, hby⟩)
              case measure => simp [intOf] <;> omega
        · have e1 : (kd == 1) = false := by simpa using hk1
          have e3 : (kd == 3) = false := by simpa using hk3
          go_wp2
          go_roundw
          case rel => first | exact ⟨k + 1, F, _, _, by omega, by go_num, HXo.out, hboo⟩ | ((repeat apply Exists.intro); refine And.symm ⟨?_, ?_⟩; (focus rfl); exact ⟨k + 1, F, _, _, by omega, by go_num, HXo.out, hboo⟩)
          case measure => simp [intOf] <;> omega
    · go_wp2
      go_ret
      exact ⟨rfl, hb⟩
end Go.Proofs.YtgapkphkcncgeaaDoor
