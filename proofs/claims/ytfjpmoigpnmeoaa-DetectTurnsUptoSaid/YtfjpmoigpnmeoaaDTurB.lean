/-
  DetectTurns: alone, walked.
-/
import Derived.Test.YtfjpmoigpnmeoaaDTurA
namespace Go.Proofs.Ytfjpmoigpnmeoaa
open Go.RowKit
section
variable {w : World} {B : Nat} {F : Nat → Prop} {H : Nat} {vG vW vR : Value} {KL : List Gt}
set_option maxRecDepth 100000 in
set_option maxHeartbeats 6400000 in
theorem alone_any (h : HeldW w B F H vG vW (.slice none 0 0) vR KL) (hlen : ∀ (k : Nat) (x : Gt), KL[k]? = some x → x.l.length ≤ 17) (hK : KL.length ≤ 1048576) (hBw : B ≤ w.heap.size) (hFb : ∀ k, F k → k < w.heap.size) :
    Calls Try.prog 40 #[.pointer (some ⟨H, 0, none⟩)] w fun e w' => e = .returned (.bool true) ∧ Chg (fun k => B ≤ k ∧ ¬ F k) w w' := by
  obtain ⟨i0, hi0, hz0, hz1, hz2⟩ := info_parts info_int
  obtain ⟨j0, hj0, hy0, hy1, hy2⟩ := info_parts info_il
  have HLE := Lib.hid hlen
  have HFB := Lib.hid hFb
  obtain ⟨AG, cG, hvG, hcG, _⟩ := own_shape h.got
  obtain ⟨AW, cW, hvW, hcW, _⟩ := own_shape h.was
  subst hvG hvW
  have HS : Hid (HeldW w B F H (.slice AG KL.length cG) (.slice AW KL.length cW) (.slice none 0 0) vR KL ∧ Below w.heap.size w w) := Lib.hid ⟨h, Below.refl _ _⟩
  clear h hlen hFb
  go_enter Try.func40, Try.ntmps40
  go_wp2_with fail
  go_loopw [3] (fun i wr => ∃ j : Nat, j ≤ KL.length ∧ i = .int .i64 (j : Int) ∧ Hid (HeldW wr B F H (.slice AG KL.length cG) (.slice AW KL.length cW) (.slice none 0 0) vR KL ∧ Below w.heap.size w wr)) (fun i _ => KL.length - (intOf i).toNat)
  case atStart => exact ⟨0, by omega, rfl, HS⟩
  case round =>
    clear HS
    obtain ⟨j, hj, rfl, HS⟩ := hrel
    have c0 : wr.cell? ⟨H, 0, none⟩ = some (.slice AG KL.length cG) := HS.out.1.blk.cell 0
    by_cases hlt : j < KL.length
    · have hI : (j : Int) < (KL.length : Int) := by omega
      obtain ⟨x, hx⟩ : ∃ x, KL[j]? = some x := ⟨_, List.getElem?_eq_getElem hlt⟩
      obtain ⟨gG, cG', hv1, r1, _⟩ := row_at (i := j) (u := x.g) HS.out.1.got (by rw [List.getElem?_map, hx]; rfl)
      obtain ⟨gW, cW', hv2, r2, _⟩ := row_at (i := j) (u := x.wv) HS.out.1.was (by rw [List.getElem?_map, hx]; rfl)
      simp only [Value.slice.injEq, true_and] at hv1 hv2
      obtain ⟨rfl, rfl⟩ := hv1
      obtain ⟨rfl, rfl⟩ := hv2
      have r1' : wr.cell? ⟨gG, j, none⟩ = some (.slice x.A x.l.length x.cap) := r1
      have r2' : wr.cell? ⟨gW, j, none⟩ = some (.slice x.A2 x.l.length x.cap2) := r2
      have hl17 := HLE.out j x hx
      obtain ⟨wd, hwd⟩ : ∃ wd, wd = wr.drew := ⟨_, rfl⟩
      have hbd : Below wr.heap.size wr wd := by rw [hwd]; exact below_drewN (Below.refl _ _) 1
      have HD := HS.out.1.over hbd
      have HSM := Lib.hid (same_yes x.A x.A2 x.l.length x.cap x.cap2 x.l wd (Rd.of_own (HD.eg j x hx)) (Rd.of_own (HD.ew j x hx)) (by omega))
      have HSS : Hid (∀ W, Below wd.heap.size wd W → W.cell? ⟨H, 0, none⟩ = some (.slice (some ⟨gG, 0, none⟩) KL.length cG) ∧ W.cell? ⟨H, 1, none⟩ = some (.slice (some ⟨gW, 0, none⟩) KL.length cW) ∧ W.cell? ⟨gG, j, none⟩ = some (.slice x.A x.l.length x.cap) ∧ W.cell? ⟨gW, j, none⟩ = some (.slice x.A2 x.l.length x.cap2)) := Lib.hid fun W hW => by
        have h1 := HD.over hW
        obtain ⟨g1, c1, hv1, q1, _⟩ := row_at (i := j) (u := x.g) h1.got (by rw [List.getElem?_map, hx]; rfl)
        obtain ⟨g2, c2, hv2, q2, _⟩ := row_at (i := j) (u := x.wv) h1.was (by rw [List.getElem?_map, hx]; rfl)
        simp only [Value.slice.injEq, Option.some.injEq, Addr.mk.injEq, and_true, true_and] at hv1 hv2
        obtain ⟨rfl, rfl⟩ := hv1
        obtain ⟨rfl, rfl⟩ := hv2
        exact ⟨h1.blk.cell 0, h1.blk.cell 1, q1, q2⟩
      have HWD := Lib.hid hwd
      have HBD := Lib.hid hbd
      clear hwd hbd HD r1 r2 r1' r2' hx
      go_upto_region 4 with fail
      refine wp_region_held_drew (S := fun W => W.cell? ⟨H, 0, none⟩ = some (.slice (some ⟨gG, 0, none⟩) KL.length cG) ∧ W.cell? ⟨H, 1, none⟩ = some (.slice (some ⟨gW, 0, none⟩) KL.length cW) ∧ W.cell? ⟨gG, j, none⟩ = some (.slice x.A x.l.length x.cap) ∧ W.cell? ⟨gW, j, none⟩ = some (.slice x.A2 x.l.length x.cap2)) (by kernel_rfl) (by rw [← HWD.out]; exact HSS.out _ (Below.refl _ _)) (fun hsw => ?_)
      rw [← HWD.out] at hsw ⊢
      refine wpAnyH_take (i := 0) (oi := ?oi0a) (v := ?v0a) ?hi0a (by kernel_rfl) (by kernel_rfl) (by kernel_rfl) ?hq0a ?hy0a (by assumption) ?rest0a
      case hi0a => (simp only [List.getElem?_toArray, List.getElem?_cons_zero]; rfl)
      case hy0a => (refine Or.inl ⟨by rfl, ?_⟩; intro w hSw; (try dsimp only at hSw); go_simp; try with_reducible rfl)
      case hq0a => exact fun _ _ _ h => h
      try simp only [Act.put, List.setIfInBounds_toArray, List.set_cons_zero, List.set_cons_succ]
      refine wpAnyH_take (i := 1) (oi := ?oi1a) (v := ?v1a) ?hi1a (by kernel_rfl) (by kernel_rfl) (by kernel_rfl) ?hq1a ?hy1a (by assumption) ?rest1a
      case hi1a => (simp only [List.getElem?_toArray, List.getElem?_cons_zero, List.getElem?_cons_succ]; rfl)
      case hy1a => (refine Or.inl ⟨by rfl, ?_⟩; intro w hSw; (try dsimp only at hSw); go_simp; try with_reducible rfl)
      case hq1a => exact fun _ _ _ h => h
      try simp only [Act.put, List.setIfInBounds_toArray, List.set_cons_zero, List.set_cons_succ]
      refine wpAnyH_take (i := 2) (oi := ?oi2a) (v := ?v2a) ?hi2a (by kernel_rfl) (by kernel_rfl) (by kernel_rfl) ?hq2a ?hy2a (by assumption) ?rest2a
      case hi2a => (simp only [List.getElem?_toArray, List.getElem?_cons_zero, List.getElem?_cons_succ]; rfl)
      case hy2a => (refine Or.inl ⟨by rfl, ?_⟩; intro w hSw; (try dsimp only at hSw); go_simp; try with_reducible rfl)
      case hq2a => exact fun _ _ _ h => h
      try simp only [Act.put, List.setIfInBounds_toArray, List.set_cons_zero, List.set_cons_succ]
      refine wpAnyH_take (i := 3) (oi := ?oi3a) (v := ?v3a) ?hi3a (by kernel_rfl) (by kernel_rfl) (by kernel_rfl) ?hq3a ?hy3a (by assumption) ?rest3a
      case hi3a => (simp only [List.getElem?_toArray, List.getElem?_cons_zero, List.getElem?_cons_succ]; rfl)
      case hy3a => (refine Or.inl ⟨by rfl, ?_⟩; intro w hSw; (try dsimp only at hSw); go_simp; try with_reducible rfl)
      case hq3a => exact fun _ _ _ h => h
      try simp only [Act.put, List.setIfInBounds_toArray, List.set_cons_zero, List.set_cons_succ]
      refine wpAnyH_take (i := 4) (oi := ?oi4a) (v := ?v4a) ?hi4a (by kernel_rfl) (by kernel_rfl) (by kernel_rfl) ?hq4a ?hy4a (by assumption) ?rest4a
      case hi4a => (simp only [List.getElem?_toArray, List.getElem?_cons_zero, List.getElem?_cons_succ]; rfl)
      case hy4a => (refine Or.inl ⟨by rfl, ?_⟩; intro w hSw; (try dsimp only at hSw); go_simp; try with_reducible rfl)
      case hq4a => exact fun _ _ _ h => h
      try simp only [Act.put, List.setIfInBounds_toArray, List.set_cons_zero, List.set_cons_succ]
      refine wpAnyH_take (i := 5) (oi := ?oi5a) (v := ?v5a) ?hi5a (by kernel_rfl) (by kernel_rfl) (by kernel_rfl) ?hq5a ?hy5a (by assumption) ?rest5a
      case hi5a => (simp only [List.getElem?_toArray, List.getElem?_cons_zero, List.getElem?_cons_succ]; rfl)
      case hy5a => (refine Or.inl ⟨by rfl, ?_⟩; intro w hSw; (try dsimp only at hSw); go_simp; try with_reducible rfl)
      case hq5a => exact fun _ _ _ h => h
      try simp only [Act.put, List.setIfInBounds_toArray, List.set_cons_zero, List.set_cons_succ]
      refine wpAnyH_take (i := 6) (oi := ?oi6a) (v := ?v6a) ?hi6a (by kernel_rfl) (by kernel_rfl) (by kernel_rfl) ?hq6a ?hy6a (by assumption) ?rest6a
      case hi6a => (simp only [List.getElem?_toArray, List.getElem?_cons_zero, List.getElem?_cons_succ]; rfl)
      case hy6a => (refine Or.inl ⟨by rfl, ?_⟩; intro w hSw; (try dsimp only at hSw); go_simp; try with_reducible rfl)
      case hq6a => exact fun _ _ _ h => h
      try simp only [Act.put, List.setIfInBounds_toArray, List.set_cons_zero, List.set_cons_succ]
      refine wpAnyH_take (i := 7) (oi := ?oi7a) (v := ?v7a) ?hi7a (by kernel_rfl) (by kernel_rfl) (by kernel_rfl) ?hq7a ?hy7a (by assumption) ?rest7a
      case hi7a => (simp only [List.getElem?_toArray, List.getElem?_cons_zero, List.getElem?_cons_succ]; rfl)
      case hy7a => (refine Or.inl ⟨by rfl, ?_⟩; intro w hSw; (try dsimp only at hSw); go_simp; try with_reducible rfl)
      case hq7a => exact fun _ _ _ h => h
      try simp only [Act.put, List.setIfInBounds_toArray, List.set_cons_zero, List.set_cons_succ]
      refine wpAnyH_take (i := 8) (oi := ?oi8a) (v := ?v8a) ?hi8a (by kernel_rfl) (by kernel_rfl) (by kernel_rfl) ?hq8a ?hy8a (by assumption) ?rest8a
      case hi8a => (simp only [List.getElem?_toArray, List.getElem?_cons_zero, List.getElem?_cons_succ]; rfl)
      case hy8a => (refine Or.inl ⟨by rfl, ?_⟩; intro w hSw; (try dsimp only at hSw); go_simp; try with_reducible rfl)
      case hq8a => exact fun _ _ _ h => h
      try simp only [Act.put, List.setIfInBounds_toArray, List.set_cons_zero, List.set_cons_succ]
      refine wpAnyH_take (i := 9) (oi := ?oi9a) (v := ?v9a) ?hi9a (by kernel_rfl) (by kernel_rfl) (by kernel_rfl) ?hq9a ?hy9a (by assumption) ?rest9a
      case hi9a => (simp only [List.getElem?_toArray, List.getElem?_cons_zero, List.getElem?_cons_succ]; rfl)
      case hy9a => (refine Or.inl ⟨by rfl, ?_⟩; intro w hSw; (try dsimp only at hSw); go_simp; try with_reducible rfl)
      case hq9a => exact fun _ _ _ h => h
      try simp only [Act.put, List.setIfInBounds_toArray, List.set_cons_zero, List.set_cons_succ]
      refine wpAnyH_take (i := 10) (oi := ?oi10a) (v := ?v10a) ?hi10a (by kernel_rfl) (by kernel_rfl) (by kernel_rfl) ?hq10a ?hy10a (by assumption) ?rest10a
      case hi10a => (simp only [List.getElem?_toArray, List.getElem?_cons_zero, List.getElem?_cons_succ]; rfl)
      case hy10a => (refine Or.inl ⟨by rfl, ?_⟩; intro w hSw; (try dsimp only at hSw); go_simp; try with_reducible rfl)
      case hq10a => exact fun _ _ _ h => h
      try simp only [Act.put, List.setIfInBounds_toArray, List.set_cons_zero, List.set_cons_succ]
      refine wpAnyH_take (i := 11) (oi := ?oi11a) (v := ?v11a) ?hi11a (by kernel_rfl) (by kernel_rfl) (by kernel_rfl) ?hq11a ?hy11a (by assumption) ?rest11a
      case hi11a => (simp only [List.getElem?_toArray, List.getElem?_cons_zero, List.getElem?_cons_succ]; rfl)
      case hy11a => (refine Or.inl ⟨by rfl, ?_⟩; intro w hSw; (try dsimp only at hSw); go_simp; try with_reducible rfl)
      case hq11a => exact fun _ _ _ h => h
      try simp only [Act.put, List.setIfInBounds_toArray, List.set_cons_zero, List.set_cons_succ]
      refine wpAnyH_take (i := 12) (oi := ?oi12a) (v := ?v12a) ?hi12a (by kernel_rfl) (by kernel_rfl) (by kernel_rfl) ?hq12a ?hy12a (by assumption) ?rest12a
      case hi12a => (simp only [List.getElem?_toArray, List.getElem?_cons_zero, List.getElem?_cons_succ]; rfl)
      case hy12a => (refine Or.inl ⟨by rfl, ?_⟩; intro w hSw; (try dsimp only at hSw); go_simp; try with_reducible rfl)
      case hq12a => exact fun _ _ _ h => h
      try simp only [Act.put, List.setIfInBounds_toArray, List.set_cons_zero, List.set_cons_succ]
      refine wpAnyH_take (i := 13) (oi := ?oi13a) (v := ?v13a) ?hi13a (by kernel_rfl) (by kernel_rfl) (by kernel_rfl) ?hq13a ?hy13a (by assumption) ?rest13a
      case hi13a => (simp only [List.getElem?_toArray, List.getElem?_cons_zero, List.getElem?_cons_succ]; rfl)
      case hy13a => (refine Or.inl ⟨by rfl, ?_⟩; intro w hSw; (try dsimp only at hSw); go_simp; try with_reducible rfl)
      case hq13a => exact fun _ _ _ h => h
      try simp only [Act.put, List.setIfInBounds_toArray, List.set_cons_zero, List.set_cons_succ]
      refine wpAnyH_ready (rs := [14]) (by kernel_rfl) (by simp) ?_
      refine AllReadyH.cons (o := ?o14a) ?ho14a (fun K hK => ?st14a) ?mo14a
      case ho14a => (simp only [List.getElem?_toArray, List.getElem?_cons_zero, List.getElem?_cons_succ]; rfl)
      · skip
        go_simp
        refine HSM.out.mono ?_
        rintro _ w2 ⟨rfl, hb2⟩
        have HB2 := Lib.hid hb2
        clear hb2
        go_simp
        refine hK.out _ _ (HSS.out _ HB2.out) (fun _ => ?_)
        clear hK K
        try simp only [Act.put, List.setIfInBounds_toArray, List.set_cons_zero, List.set_cons_succ]
        refine wpAnyH_take (i := 15) (oi := ?oi15a) (v := ?v15a) ?hi15a (by kernel_rfl) (by kernel_rfl) (by kernel_rfl) ?hq15a ?hy15a (by assumption) ?rest15a
        case hi15a => (simp only [List.getElem?_toArray, List.getElem?_cons_zero, List.getElem?_cons_succ]; rfl)
        case hy15a => (refine Or.inl ⟨by rfl, ?_⟩; intro w hSw; (try dsimp only at hSw); go_simp; try with_reducible rfl)
        case hq15a => exact fun _ _ _ h => h
        try simp only [Act.put, List.setIfInBounds_toArray, List.set_cons_zero, List.set_cons_succ]
        refine wpAnyH_done (by kernel_rfl) ?_ _
        have HN : Hid (HeldW w2 B F H (.slice (some ⟨gG, 0, none⟩) KL.length cG) (.slice (some ⟨gW, 0, none⟩) KL.length cW) (.slice none 0 0) vR KL ∧ Below w.heap.size w w2) := by
          have hb := HBD.out.trans (HB2.out.mono HBD.out.size)
          exact Lib.hid ⟨HS.out.1.over hb, HS.out.2.trans (hb.mono HS.out.2.size)⟩
        go_wp2_with fail
        go_roundw
        case rel => exact ⟨j + 1, by omega, by go_num, HN⟩
        case measure => simp [intOf] <;> omega
      · exact AllReadyH.nil
    · obtain rfl : j = KL.length := by omega
      have HA0 : Hid (AlA wr B F H (.slice AG KL.length cG) (.slice AW KL.length cW) (.slice none 0 0) vR KL (fun k => match KL[k]? with | some x => x.l | none => []) ∧ (∀ (k : Nat) (x : Gt), KL[k]? = some x → (fun k => match KL[k]? with | some x => x.l | none => []) k = if k < 0 then repI x.l.length k else x.l) ∧ Chg (fun k => B ≤ k ∧ ¬ F k) w wr) :=
        Lib.hid ⟨HS.out.1.ala, fun k x hk => by rw [if_neg (by omega)]; simp only [hk], Chg.of_below HS.out.2 _⟩
      clear hlt
      go_wp2_with fail
      go_loopw [4, 5] (fun i _ wr => ∃ (j : Nat) (f : Nat → List Int), j ≤ KL.length ∧ i = .int .i64 (j : Int) ∧ Hid (AlA wr B F H (.slice AG KL.length cG) (.slice AW KL.length cW) (.slice none 0 0) vR KL f ∧ (∀ (k : Nat) (x : Gt), KL[k]? = some x → f k = if k < j then repI x.l.length k else x.l) ∧ Chg (fun k => B ≤ k ∧ ¬ F k) w wr)) (fun i _ _ => KL.length - (intOf i).toNat)
      case atStart => exact ⟨0, _, by omega, rfl, HA0⟩
      case round =>
        clear HA0 HS c0
        obtain ⟨j, f, hj, rfl, HS⟩ := hrel
        have c0 : wr.cell? ⟨H, 0, none⟩ = some (.slice AG KL.length cG) := HS.out.1.blk.cell 0
        by_cases hlt : j < KL.length
        · have hI : (j : Int) < (KL.length : Int) := by omega
          obtain ⟨x, hx⟩ : ∃ x, KL[j]? = some x := ⟨_, List.getElem?_eq_getElem hlt⟩
          have HXJ := Lib.hid hx
          obtain ⟨gG, cG', hv1, r1, _⟩ := row_at (i := j) (u := x.g) HS.out.1.got (by rw [List.getElem?_map, hx]; rfl)
          simp only [Value.slice.injEq, true_and] at hv1
          obtain ⟨rfl, rfl⟩ := hv1
          have hl17 := HLE.out j x hx
          have HI0 : Hid (AlA wr B F H (.slice (some ⟨gG, 0, none⟩) KL.length cG) (.slice AW KL.length cW) (.slice none 0 0) vR KL f ∧ (∀ (k : Nat) (x : Gt), KL[k]? = some x → k ≠ j → f k = if k < j then repI x.l.length k else x.l) ∧ f j = repI 0 j ++ x.l.drop 0 ∧ Chg (fun k => B ≤ k ∧ ¬ F k) w wr) := Lib.hid ⟨HS.out.1, fun k y hk _ => HS.out.2.1 k y hk, by rw [HS.out.2.1 j x hx, if_neg (by omega)]; rfl, HS.out.2.2⟩
          have hwj : IntKind.i64.wrap (-1000 - (j : Int)) = mkI j := by rw [IntWalk.i64_in _ (by omega)]; rfl
          clear hx r1 HS
          go_wp2_with fail
          go_loopw [5] (fun t wr => ∃ (m : Nat) (f : Nat → List Int), m ≤ x.l.length ∧ t = .int .i64 (m : Int) ∧ Hid (AlA wr B F H (.slice (some ⟨gG, 0, none⟩) KL.length cG) (.slice AW KL.length cW) (.slice none 0 0) vR KL f ∧ (∀ (k : Nat) (x : Gt), KL[k]? = some x → k ≠ j → f k = if k < j then repI x.l.length k else x.l) ∧ f j = repI m j ++ x.l.drop m ∧ Chg (fun k => B ≤ k ∧ ¬ F k) w wr)) (fun t _ => x.l.length - (intOf t).toNat)
          case atStart => exact ⟨0, f, by omega, rfl, HI0⟩
          case round =>
            clear HI0 c0
            obtain ⟨m, f, hm, rfl, HS⟩ := hrel
            have c0 : wr.cell? ⟨H, 0, none⟩ = some (.slice (some ⟨gG, 0, none⟩) KL.length cG) := HS.out.1.blk.cell 0
            obtain ⟨g1, c1, hv1, r1, _⟩ := row_at (i := j) (u := x.g) HS.out.1.got (by rw [List.getElem?_map, HXJ.out]; rfl)
            simp only [Value.slice.injEq, Option.some.injEq, Addr.mk.injEq, and_true, true_and] at hv1
            obtain ⟨rfl, rfl⟩ := hv1
            have r1' : wr.cell? ⟨gG, j, none⟩ = some (.slice x.A x.l.length x.cap) := r1
            clear r1
            by_cases hml : m < x.l.length
            · have hmI : (m : Int) < (x.l.length : Int) := by omega
              obtain ⟨gx, hAx⟩ : ∃ gx, x.A = some ⟨gx, 0, none⟩ := by
                obtain ⟨g', _, _, hv, _⟩ := own_parts (HS.out.1.eg j x HXJ.out) (by omega)
                unfold Gt.g at hv
                injection hv with hv
                exact ⟨g', hv⟩
              obtain ⟨q0, ⟨u, q1⟩, hA2, hC2⟩ := HS.out.1.set_ HXJ.out hAx hml (mkI j)
              rw [hAx] at r1'
              have HN : Hid (AlA (wr.setCell ⟨gx, m, none⟩ (.int .i64 (mkI j))) B F H (.slice (some ⟨gG, 0, none⟩) KL.length cG) (.slice AW KL.length cW) (.slice none 0 0) vR KL (updN f j ((f j).set m (mkI j))) ∧ (∀ (k : Nat) (x : Gt), KL[k]? = some x → k ≠ j → (updN f j ((f j).set m (mkI j))) k = if k < j then repI x.l.length k else x.l) ∧ (updN f j ((f j).set m (mkI j))) j = repI (m + 1) j ++ x.l.drop (m + 1) ∧ Chg (fun k => B ≤ k ∧ ¬ F k) w (wr.setCell ⟨gx, m, none⟩ (.int .i64 (mkI j)))) :=
                Lib.hid ⟨hA2, fun k y hk hne => by rw [updN_other _ _ hne]; exact HS.out.2.1 k y hk hne, by rw [updN_same, HS.out.2.2.1, rep_set hml], HS.out.2.2.2.trans hC2⟩
              clear hA2 hC2 hAx
              go_wp2_with fail
              go_roundw
              case rel => exact ⟨m + 1, _, by omega, by go_num, HN⟩
              case measure => simp [intOf] <;> omega
            · obtain rfl : m = x.l.length := by omega
              have HN : Hid (AlA wr B F H (.slice (some ⟨gG, 0, none⟩) KL.length cG) (.slice AW KL.length cW) (.slice none 0 0) vR KL f ∧ (∀ (k : Nat) (x : Gt), KL[k]? = some x → f k = if k < j + 1 then repI x.l.length k else x.l) ∧ Chg (fun k => B ≤ k ∧ ¬ F k) w wr) := Lib.hid ⟨HS.out.1, fun k y hk => by
                by_cases e : k = j
                · subst e
                  rw [HXJ.out] at hk
                  injection hk with hk
                  subst hk
                  rw [if_pos (by omega), HS.out.2.2.1, List.drop_length, List.append_nil]
                · rw [HS.out.2.1 k y hk e]
                  by_cases e2 : k < j
                  · rw [if_pos e2, if_pos (by omega)]
                  · rw [if_neg e2, if_neg (by omega)], HS.out.2.2.2⟩
              clear hml
              go_wp2_with fail
              go_roundw
              case rel => exact ⟨j + 1, f, by omega, by go_num, HN⟩
              case measure => simp [intOf] <;> omega
        · obtain rfl : j = KL.length := by omega
          clear hlt
          have HB0 : Hid (AlB wr B F H (.slice AG KL.length cG) (.slice AW KL.length cW) (.slice none 0 0) vR KL [] ∧ Chg (fun k => B ≤ k ∧ ¬ F k) w wr) := Lib.hid ⟨HS.out.1.alb fun k x hk => by rw [HS.out.2.1 k x hk, if_pos (List.getElem?_eq_some_iff.1 hk).1], HS.out.2.2⟩
          clear HS
          go_wp2_with fail
          go_loopw [6, 7, 8] (fun i _ _ wr => ∃ (M : List Value) (vM : Value), M.length ≤ KL.length ∧ i = .int .i64 (M.length : Int) ∧ Hid (AlB wr B F H (.slice AG KL.length cG) (.slice AW KL.length cW) vM vR KL M ∧ Chg (fun k => B ≤ k ∧ ¬ F k) w wr)) (fun i _ _ _ => KL.length - (intOf i).toNat)
          case atStart => exact ⟨[], _, by simp, rfl, HB0⟩
          case round =>
            clear HB0 c0
            obtain ⟨M, vM, hM, rfl, HS⟩ := hrel
            have c0 : wr.cell? ⟨H, 0, none⟩ = some (.slice AG KL.length cG) := HS.out.1.blk.cell 0
            by_cases hlt : M.length < KL.length
            · have hI : (M.length : Int) < (KL.length : Int) := by omega
              obtain ⟨x, hx⟩ : ∃ x, KL[M.length]? = some x := ⟨_, List.getElem?_eq_getElem hlt⟩
              obtain ⟨gG, cG', hv1, r1, _⟩ := row_at (i := M.length) (u := x.g) HS.out.1.got (by rw [List.getElem?_map, hx]; rfl)
              simp only [Value.slice.injEq, true_and] at hv1
              obtain ⟨rfl, rfl⟩ := hv1
              have r1' : wr.cell? ⟨gG, M.length, none⟩ = some (.slice x.A x.l.length x.cap) := r1
              have hl17 := HLE.out M.length x hx
              have HXJ := Lib.hid hx
              obtain ⟨ws, HWS⟩ : ∃ ws, Hid (wr = ws) := ⟨_, Lib.hid rfl⟩
              rw [HWS.out] at HS c0 r1' ⊢
              have HT0 : Hid (AlT ws ws B x M.length (.slice x.A x.l.length x.cap) (x.l.length + 0)) := by
                have hxr := HS.out.1.rest M.length x hx (Nat.le_refl _)
                refine Lib.hid ⟨Chg.refl _ _, hxr, hxr, fun g hg => .inl hg, fun g hg _ => ?_, Nat.le_refl _, fun g hg => (own_block_lt hxr hg).1⟩
                obtain ⟨cap, cur, hv, _, _⟩ := slice_own hxr (show x.g.ownBlock = some g from hg)
                unfold Gt.g at hv
                simp only [Value.slice.injEq, true_and] at hv
                obtain ⟨e1, _⟩ := hv
                exact ⟨by rw [e1]; rfl, e1⟩
              have hwj : IntKind.i64.wrap (-1000 - (M.length : Int)) = mkI M.length := by rw [IntWalk.i64_in _ (by omega)]; rfl
              clear r1 hx HWS
              go_upto_region 17 with fail
              clear r1'
              go_wp2_with fail
              go_loopw [7, 8] (fun l t wr => ∃ (m : Nat), m ≤ 64 ∧ t = .int .i64 (m : Int) ∧ Hid (AlT ws wr B x M.length l (x.l.length + m))) (fun _ t _ => 64 - (intOf t).toNat)
              case atStart => exact ⟨0, by omega, rfl, HT0⟩
              case round =>
                clear HT0 c0
                obtain ⟨m, hm, rfl, HT⟩ := hrel
                obtain ⟨Av, cv, hvv, _, _⟩ := own_shape HT.out.own
                subst hvv
                by_cases hml : m < 64
                · have hmI : (m : Int) < 64 := by omega
                  have hBr : B ≤ wr.heap.size := Nat.le_trans (Nat.le_trans hBw HS.out.2.size) HT.out.chg.size
                  have hbal := one_box' wr (.cells #[.int .i64 (mkI M.length)] 3)
                  have HTA := Lib.hid (HT.out.over hbal)
                  have hrs : Rd (wr.alloc (.cells #[.int .i64 (mkI M.length)] 3)) (wr.heap.size + 1) 1 (some ⟨wr.heap.size, 0, none⟩) 1 [.int .i64 (mkI M.length)] :=
                    ⟨rfl, fun _ => ⟨wr.heap.size, 0, rfl, by omega, fun j u hu => by
                      rw [Nat.zero_add, (Blk.new wr 3 #[.int .i64 (mkI M.length)]).cell j, ← Array.getElem?_toList]
                      exact hu⟩⟩
                  have HRS := Lib.hid hrs
                  have hsal : B ≤ (wr.alloc (.cells #[.int .i64 (mkI M.length)] 3)).heap.size := by simp; omega
                  clear hbal hrs
                  go_wp2_with (
                    at_builtin
                    refine appRoom (wr.alloc (.cells #[.int .i64 (mkI M.length)] 3)) (by rfl) _ _ 22 (by rfl) B 3 i0 _ 1 8 u_ints hi0 hz0 hz1 hz2 rfl (by decide) (.slice Av (x.l.length + m) cv) (x.l.length + m) (ivs (repI (x.l.length + m) M.length)) (by rfl) HTA.out.own (wr.heap.size + 1) (some ⟨wr.heap.size, 0, none⟩) 1 1 [.int .i64 (mkI M.length)] (by rfl) HRS.out (by simp; rfl) (by decide) (by simp only [maxLen]; omega) (by omega) hsal ?_
                    intro u2 w2 ho2 hold2 hg2 hat2
                    have HT2 := Lib.hid (HTA.out.app ho2 hold2 hg2 hat2)
                    clear ho2 hold2 hg2 hat2)
                  go_roundw
                  case rel => exact ⟨m + 1, by omega, by go_num, HT2⟩
                  case measure => simp [intOf] <;> omega
                · obtain rfl : m = 64 := by omega
                  clear hml
                  obtain ⟨AM, cM, hvM, _, _⟩ := own_shape HS.out.1.mr
                  subst hvM
                  have hBr : B ≤ wr.heap.size := Nat.le_trans (Nat.le_trans hBw HS.out.2.size) HT.out.chg.size
                  have hMr : wr.ownsRow B 22 1 (.slice AM M.length cM) M.length M := own_chg HS.out.1.mr HT.out.chg fun g hg e => by
                    obtain ⟨_, _, cur, hC⟩ := own_block_lt HS.out.1.mr hg
                    obtain ⟨_, cur2, hC2⟩ := HS.out.1.tb _ x HXJ.out _ e.symm
                    exact hC2.ne_ hC (by decide) rfl
                  have hHb : Blk wr H 80 #[.slice (some ⟨gG, 0, none⟩) KL.length cG, .slice AW KL.length cW, .slice AM M.length cM, vR] := HS.out.1.blk.chg HT.out.chg fun e => by
                    obtain ⟨_, cur2, hC2⟩ := HS.out.1.tb _ x HXJ.out _ e.symm
                    exact hC2.ne_ HS.out.1.blk (by decide) rfl
                  have c2 : wr.cell? ⟨H, 2, none⟩ = some (.slice AM M.length cM) := hHb.cell 2
                  have HMR := Lib.hid hMr
                  have HFS : Hid (∀ k, F k → k < ws.heap.size) := Lib.hid fun k hk => Nat.lt_of_lt_of_le (HFB.out k hk) HS.out.2.size
                  clear hMr hHb
                  go_wp2_with (
                    at_builtin
                    refine appN2 wr (by rfl) _ _ 78 (by rfl) B 22 j0 _ 1 24 u_ils hj0 hy0 hy1 hy2 rfl (by decide) (.slice AM M.length cM) M.length M (by rfl) HMR.out #[.slice Av (x.l.length + 64) cv] rfl (by rfl) (by simp; rfl) (by simp only [maxLen]; omega) (by omega) hBr ?_
                    intro u3 w3 ho3 _ hg3 hat3
                    have hnx := HS.out.1.next HXJ.out HT.out HFS.out ho3 (Chg.of_grown hg3) (fun g hg => hat3.elim (fun e => .inl (e ▸ hg)) (fun e => .inr (by rw [e] at hg; injection hg with hg; omega)))
                    obtain ⟨q3, d3, hh3, hc3⟩ := hnx
                    obtain ⟨A3, c3, rfl, _, _⟩ := own_shape ho3
                    have HN : Hid (AlB (w3.setCell ⟨H, 2, none⟩ (.slice A3 (M.length + 1) c3)) B F H (.slice (some ⟨gG, 0, none⟩) KL.length cG) (.slice AW KL.length cW) (.slice A3 (M.length + 1) c3) vR KL (M ++ [.slice Av (x.l.length + 64) cv]) ∧ Chg (fun k => B ≤ k ∧ ¬ F k) w (w3.setCell ⟨H, 2, none⟩ (.slice A3 (M.length + 1) c3))) := Lib.hid ⟨hh3, HS.out.2.trans hc3⟩
                    clear ho3 hg3 hat3 hh3 hc3 c2)
                  go_roundw
                  case rel => exact ⟨M ++ [.slice Av (x.l.length + 64) cv], _, by simp; omega, by simp <;> go_num, HN⟩
                  case measure => simp [intOf] <;> omega
            · have hMl : M.length = KL.length := by omega
              have hltI : ¬ (M.length : Int) < (KL.length : Int) := by omega
              obtain ⟨AM, cM, hvM, _, _⟩ := own_shape HS.out.1.mr
              subst hvM
              rw [hMl] at HS
              have HML := Lib.hid hMl
              clear hMl
              obtain ⟨w5, HWS⟩ : ∃ w5, Hid (wr = w5) := ⟨_, Lib.hid rfl⟩
              rw [HWS.out] at HS c0 ⊢
              clear HWS c0
              have c0 : w5.cell? ⟨H, 0, none⟩ = some (.slice AG KL.length cG) := HS.out.1.blk.cell 0
              have c2 : w5.cell? ⟨H, 2, none⟩ = some (.slice AM KL.length cM) := HS.out.1.blk.cell 2
              go_wp2_with fail
              go_loopw [9, 10, 11] (fun i _ _ wr => ∃ j : Nat, j ≤ KL.length ∧ i = .int .i64 (j : Int) ∧ Hid (w5 = wr)) (fun i _ _ _ => KL.length - (intOf i).toNat)
              case atStart => exact ⟨0, by omega, rfl, Lib.hid rfl⟩
              case round =>
                obtain ⟨j, hj, rfl, HWE⟩ := hrel
                rw [← HWE.out]
                by_cases hlt : j < KL.length
                · have hI : (j : Int) < (KL.length : Int) := by omega
                  obtain ⟨x, hx⟩ : ∃ x, KL[j]? = some x := ⟨_, List.getElem?_eq_getElem hlt⟩
                  obtain ⟨mv, hmv⟩ : ∃ mv, M[j]? = some mv := ⟨_, List.getElem?_eq_getElem (by rw [HML.out]; exact hlt)⟩
                  obtain ⟨gG, cG', hv1, r1, _⟩ := row_at (i := j) (u := x.g) HS.out.1.got (by rw [List.getElem?_map, hx]; rfl)
                  simp only [Value.slice.injEq, true_and] at hv1
                  obtain ⟨rfl, rfl⟩ := hv1
                  have hmr := HS.out.1.mr
                  obtain ⟨gM, cM', hv2, r2, _⟩ := row_at (i := j) (u := mv) hmr hmv
                  rw [HML.out] at hv2
                  simp only [Value.slice.injEq, true_and] at hv2
                  obtain ⟨rfl, rfl⟩ := hv2
                  obtain ⟨hrd, ⟨Am, cm, rfl⟩, hown⟩ := HS.out.1.done j x mv hx hmv
                  have r1' : w5.cell? ⟨gG, j, none⟩ = some (.slice x.A x.l.length x.cap) := r1
                  obtain ⟨gm, cm', _, hvm, _⟩ := own_parts hown (by omega)
                  simp only [Value.slice.injEq, true_and] at hvm
                  obtain ⟨rfl, rfl⟩ := hvm
                  have HRD := Lib.hid hrd
                  have HMD := Lib.hid (Rd.of_own hown)
                  have hl17 := HLE.out j x hx
                  have hwj : IntKind.i64.wrap (-1000 - (j : Int)) = mkI j := by rw [IntWalk.i64_in _ (by omega)]; rfl
                  have hwn : IntKind.i64.wrap ((x.l.length : Int) + 64) = (x.l.length : Int) + 64 := IntWalk.i64_in _ (by omega)
                  have hne : (mkI j != mkI j) = false := by simp
                  clear r1 hrd hown hmr hx hmv
                  go_wp2_with fail
                  go_loopw [11] (fun t wr => ∃ q : Nat, q ≤ x.l.length + 64 ∧ t = .int .i64 (q : Int) ∧ Hid (w5 = wr)) (fun t _ => x.l.length + 64 - (intOf t).toNat)
                  case atStart => exact ⟨0, by omega, rfl, Lib.hid rfl⟩
                  case round =>
                    obtain ⟨q, hq, rfl, HWE2⟩ := hrel
                    rw [← HWE2.out]
                    by_cases hql : q < x.l.length + 64
                    · have hqI : (q : Int) < (x.l.length : Int) + 64 := by omega
                      have y0 : w5.cell? ⟨gm, q, none⟩ = some (.int .i64 (mkI j)) := by
                        obtain ⟨b, off, e, _, hcl⟩ := HMD.out.at_ (by omega)
                        injection e with e
                        injection e with e1 e2 _
                        subst e1 e2
                        have := hcl q _ (ivs_at (k := q) (c := mkI j) (by simp [repI, hql]))
                        rwa [Nat.zero_add] at this
                      by_cases hqn : q < x.l.length
                      · have hqnI : (q : Int) < (x.l.length : Int) := by omega
                        obtain ⟨bx, ox, hAx, _, hcl⟩ := HRD.out.at_ (by omega)
                        have y1 := hcl q _ (ivs_at (k := q) (c := mkI j) (by simp [repI, hqn]))
                        rw [hAx] at r1'
                        clear hcl hAx
                        go_wp2_with fail
                        go_roundw
                        case rel => exact ⟨q + 1, by omega, by go_num, Lib.hid (by first | rfl | trivial)⟩
                        case measure => simp [intOf] <;> omega
                      · have hqnI : decide ((q : Int) < (x.l.length : Int)) = false := by simp; omega
                        go_wp2_with fail
                        go_roundw
                        case rel => exact ⟨q + 1, by omega, by go_num, Lib.hid (by first | rfl | trivial)⟩
                        case measure => simp [intOf] <;> omega
                    · obtain rfl : q = x.l.length + 64 := by omega
                      go_wp2_with fail
                      go_roundw
                      case rel => exact ⟨j + 1, by omega, by go_num, Lib.hid (by first | rfl | trivial)⟩
                      case measure => simp [intOf] <;> omega
                · obtain rfl : j = KL.length := by omega
                  go_wp2
                  go_ret
                  exact ⟨rfl, HS.out.2⟩
end
end Go.Proofs.Ytfjpmoigpnmeoaa
