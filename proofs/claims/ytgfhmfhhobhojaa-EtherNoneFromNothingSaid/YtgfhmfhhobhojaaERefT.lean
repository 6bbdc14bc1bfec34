/-
  The document's network: turned. And: The document's network: Flights.
-/
import Derived.Test.YtgfhmfhhobhojaaERefD
namespace Go.Proofs.Ytgfhmfhhobhojaa
open Go.ChangeShapes Go.WideShapes Go.ChangeAt Go.RowKit
variable {w : World} {F : Nat → Prop} {c : ECfg} {D : Nat} {r : RV}
theorem take_grow {α : Type} {l : List α} {k : Nat} {x : α} (h : l[k]? = some x) : l.take (k + 1) = l.take k ++ [x] := by
  rw [List.take_add_one, h]; rfl
def RFlightsR (w : World) (r : RV) (e : Ending) (w' : World) : Prop :=
  ∃ vo m H, e = .returned vo ∧ OutS w.heap.size (wayOf r.all) vo m H w' ∧ Below w.heap.size w w'
structure FlS (w : World) (r : RV) (l : Value) (n k : Nat) (vo : Value) (m : Nat) (wr : World) : Prop where
  way : wr.ownsRow w.heap.size 3 1 l n (kvs (idxOf r.all))
  out : ∃ H, OutS w.heap.size ((wayOf r.all).take k) vo m H wr
  below : Below w.heap.size w wr
  far : ∀ g, l.ownBlock = some g → vo.ownBlock ≠ some g
set_option maxRecDepth 100000 in
set_option maxHeartbeats 6400000 in
theorem RFlights_any (h : RNx w F c D r) (hf : RFine r) : Calls Try.prog 75 #[.pointer (some ⟨D, 0, none⟩)] w (RFlightsR w r) := by
  obtain ⟨i0, hi0, hz0, hz1, hz2⟩ := info_parts info_flight
  have HWY := Lib.hid (way_any h hf.all)
  obtain ⟨hF, v, X, hX⟩ := h
  obtain ⟨A6, cap6, rfl, hcp6, hcm6⟩ := own_shape hX.row
  have hXl : X.length ≤ 1099511627776 := by rw [← hX.len]; exact hf.all
  have HX := Lib.hid hX
  have HF := Lib.hid hF
  have HFL := Lib.hid hf.fl
  clear hX hF hf
  go_enter Try.func75, Try.ntmps75
  go_upto_region 3 with (go_at_call 82; refine HWY.out.mono ?_; rintro _ w1 ⟨A4, n, cap4, rfl, hs⟩; have HS := Lib.hid hs; clear hs)
  obtain ⟨B4, hB4⟩ : ∃ B, B = A4 := ⟨_, rfl⟩
  have HST : Hid (FlS w r (.slice A4 n cap4) n 0 (.slice none 0 0) 0 w1) := Lib.hid ⟨HS.out.row, ⟨[], ⟨rfl, by simp, ⟨by simp [rowsV], .inl ⟨rfl, rfl⟩⟩, fun x hx => by simp at hx⟩⟩, HS.out.below, fun g _ h => by simp [Value.ownBlock] at h⟩
  have HN : Hid (n = (idxOf r.all).length) := Lib.hid HS.out.len
  have hnl : n ≤ 1099511627776 := by
    have h1 := idx_le r.all r.all.length
    rw [List.take_length] at h1
    have h2 := HX.out.len
    have h3 := HN.out
    omega
  have HNL := Lib.hid hnl
  clear HS hB4 B4
  go_wp2_with fail
  go_loopw [3, 5] (fun vo i wr => ∃ k m : Nat, k ≤ n ∧ m ≤ k ∧ i = .int .i64 (k : Int) ∧ Hid (FlS w r (.slice A4 n cap4) n k vo m wr)) (fun _ i _ => n - (intOf i).toNat)
  case atStart => exact ⟨0, 0, by omega, by omega, rfl, HST⟩
  case round =>
    clear HST
    obtain ⟨k, m, hk, hm, rfl, HT⟩ := hrel
    obtain ⟨H, hO⟩ := HT.out.out
    obtain ⟨A3, cap3, rfl, hcp3, hcm3⟩ := own_shape hO.row
    have HO := Lib.hid hO
    by_cases hlt : k < n
    · have hI : (k : Int) < (n : Int) := by omega
      obtain ⟨i, hki⟩ : ∃ i, (idxOf r.all)[k]? = some i := ⟨(idxOf r.all)[k]'(by rw [← HN.out]; exact hlt), List.getElem?_eq_getElem _⟩
      obtain ⟨f, hfi, hwk, _, _⟩ := idx_at hki
      have hXr := HX.out.below HF.out HT.out.below
      have hiX : i < X.length := by rw [← HX.out.len]; exact (List.getElem?_eq_some_iff.1 hfi).1
      have hiI : (i : Int) < (X.length : Int) := by omega
      obtain ⟨g, cp, f', q', u, hv, hx, hai, m0, m1, m2, m3, m4, m5⟩ := hXr.pkt hiX
      injection hv with hv1 hv2 hv3
      subst hv1
      have hff := hai.symm.trans hfi
      simp only [Option.some.injEq, Prod.mk.injEq] at hff
      obtain ⟨rfl, rfl⟩ := hff
      obtain ⟨hs16, hd16, hdue, hbl⟩ := HFL.out _ (List.mem_of_getElem? hfi)
      dsimp only at hs16 hd16 hdue hbl
      have hby := hXr.bytes _ (List.mem_of_getElem? hx)
      dsimp only at hby
      obtain ⟨uA, uc, rfl, _, _⟩ := own_shape hby
      have c6 : wr.cell? ⟨D, 563, none⟩ = some (.slice (some ⟨g, 0, none⟩) X.length cap6) := hXr.cell.2.2.2
      obtain ⟨g4, cap4', cur4, hv4, _, _, _, _, _, _⟩ := own_parts HT.out.way (by omega)
      injection hv4 with hv5 hv6 hv7
      subst hv5
      have l4 : wr.cell? ⟨g4, k, none⟩ = some (.int .i64 (i : Int)) := by
        have hr := HT.out.way.cells (g := g4) rfl k (.int .i64 (i : Int)) (by rw [kvs, List.getElem?_map, hki]; rfl)
        rw [addr_add, Nat.zero_add] at hr
        exact hr
      obtain ⟨wd, hwd⟩ : ∃ wd, wd = wr.drew := ⟨_, rfl⟩
      have c6' : wd.cell? ⟨D, 563, none⟩ = some (.slice (some ⟨g, 0, none⟩) X.length cap6) := by rw [hwd]; exact c6
      have l4' : wd.cell? ⟨g4, k, none⟩ = some (.int .i64 (i : Int)) := by rw [hwd]; exact l4
      have n0 : wd.cell? ⟨g, i * 6, none⟩ = some (.int .i64 (f'.id : Int)) := by rw [hwd]; exact m0
      have n1 : wd.cell? ⟨g, i * 6 + 1, none⟩ = some (.int .i64 (f'.src : Int)) := by rw [hwd]; exact m1
      have n2 : wd.cell? ⟨g, i * 6 + 2, none⟩ = some (.int .i64 (f'.dst : Int)) := by rw [hwd]; exact m2
      have n3 : wd.cell? ⟨g, i * 6 + 3, none⟩ = some (.int .i64 (f'.due : Int)) := by rw [hwd]; exact m3
      have n4 : wd.cell? ⟨g, i * 6 + 4, none⟩ = some (.slice uA f'.bs.length uc) := by rw [hwd]; exact m4
      have HOD : Hid (OutS w.heap.size ((wayOf r.all).take k) (.slice A3 m cap3) m H wd) := Lib.hid (by rw [hwd]; exact hO.over (below_drewN (Below.refl _ _) 1))
      have HWYD : Hid (wd.ownsRow w.heap.size 3 1 (.slice (some ⟨g4, 0, none⟩) n cap4) n (kvs (idxOf r.all))) := Lib.hid (by rw [hwd]; exact HT.out.way)
      have HBD : Hid (Below w.heap.size w wd) := Lib.hid (by rw [hwd]; exact below_drewN HT.out.below 1)
      have HGI : Hid (Calls Try.prog 80 #[.agg #[.int .i64 (f'.id : Int), .int .i64 (f'.src : Int), .int .i64 (f'.dst : Int), .int .i64 (f'.due : Int), .slice uA f'.bs.length uc]] wd (GivenR wd f')) := Lib.hid (given_any f' uA uc (by rw [hwd]; exact Rd.of_own hby) (by omega))
      have HWK := Lib.hid hwk
      have HFAR : Hid ((Value.slice A3 m cap3).ownBlock ≠ some g4) := Lib.hid (HT.out.far g4 rfl)
      have HWD := Lib.hid hwd
      have HSX : Hid (∀ W, Chg (fun j => (Value.slice A3 m cap3).ownBlock = some j) wd W → W.cell? ⟨D, 563, none⟩ = some (.slice (some ⟨g, 0, none⟩) X.length cap6) ∧ W.cell? ⟨g4, k, none⟩ = some (.int .i64 (i : Int)) ∧ W.cell? ⟨g, i * 6, none⟩ = some (.int .i64 (f'.id : Int)) ∧ W.cell? ⟨g, i * 6 + 1, none⟩ = some (.int .i64 (f'.src : Int)) ∧ W.cell? ⟨g, i * 6 + 2, none⟩ = some (.int .i64 (f'.dst : Int)) ∧ W.cell? ⟨g, i * 6 + 3, none⟩ = some (.int .i64 (f'.due : Int)) ∧ W.cell? ⟨g, i * 6 + 4, none⟩ = some (.slice uA f'.bs.length uc)) := by
        have hoB : ∀ q, (Value.slice A3 m cap3).ownBlock = some q → w.heap.size ≤ q := fun q e => (own_block_lt HOD.out.row e).2.1
        have hsd := HBD.out.size
        have hDl := HF.out D HX.out.fd
        have hgl := HF.out g (HX.out.fv g rfl)
        have h4l := (own_block_lt HWYD.out (g := g4) rfl).1
        refine Lib.hid fun W hW => ?_
        have cell : ∀ b o, b < wd.heap.size → ¬ (Value.slice A3 m cap3).ownBlock = some b → W.cell? ⟨b, o, none⟩ = wd.cell? ⟨b, o, none⟩ := fun b o hb hn => World.cell?_of_block (hW.block b hb hn)
        have hnD : ¬ (Value.slice A3 m cap3).ownBlock = some D := fun e => by have := hoB D e; omega
        have hng : ¬ (Value.slice A3 m cap3).ownBlock = some g := fun e => by have := hoB g e; omega
        exact ⟨(cell D _ (by omega) hnD).trans c6', (cell g4 _ h4l HFAR.out).trans l4', (cell g _ (by omega) hng).trans n0, (cell g _ (by omega) hng).trans n1, (cell g _ (by omega) hng).trans n2, (cell g _ (by omega) hng).trans n3, (cell g _ (by omega) hng).trans n4⟩
      clear hwd hXr hO hx hai hfi hki hwk hby m0 m1 m2 m3 m4 m5 hv2 hv3 hv6 hv7 hs16 hd16 hdue
      go_upto_region 6 with fail
      clear c6 l4
      refine wp_region_held_drew (S := (fun w' => w'.cell? ⟨D, 563, none⟩ = some (.slice (some ⟨g, 0, none⟩) X.length cap6) ∧ w'.cell? ⟨g4, k, none⟩ = some (.int .i64 (i : Int)) ∧ w'.cell? ⟨g, i * 6, none⟩ = some (.int .i64 (f'.id : Int)) ∧ w'.cell? ⟨g, i * 6 + 1, none⟩ = some (.int .i64 (f'.src : Int)) ∧ w'.cell? ⟨g, i * 6 + 2, none⟩ = some (.int .i64 (f'.dst : Int)) ∧ w'.cell? ⟨g, i * 6 + 3, none⟩ = some (.int .i64 (f'.due : Int)) ∧ w'.cell? ⟨g, i * 6 + 4, none⟩ = some (.slice uA f'.bs.length uc))) (by kernel_rfl) (by rw [← HWD.out]; exact HSX.out wd (Chg.refl _ _)) (fun hHeld => ?_)
      rw [← HWD.out] at hHeld ⊢
      clear c6' l4' n0 n1 n2 n3 n4
      refine wpAnyH_take (i := 0) (oi := ?oi0a) (v := ?v0a) ?hi0a (by kernel_rfl) (by kernel_rfl) (by kernel_rfl) ?hq0a ?hy0a (by assumption) ?rest0a
      case hi0a => (simp only [List.getElem?_toArray, List.getElem?_cons_zero]; rfl)
      case hy0a => (refine Or.inl ⟨by rfl, ?_⟩; intro w hSw; (try dsimp only at hSw); go_simp; try with_reducible rfl)
      case hq0a => exact fun _ _ _ h => h
      try simp only [Act.put, List.setIfInBounds_toArray, List.set_cons_zero, List.set_cons_succ]
      refine wpAnyH_take (i := 1) (oi := ?oi1a) (v := ?v1a) ?hi1a (by kernel_rfl) (by kernel_rfl) (by kernel_rfl) ?hq1a ?hy1a (by assumption) ?rest1a
      case hi1a => (simp only [List.getElem?_toArray, List.getElem?_cons_zero, List.getElem?_cons_succ]; rfl)
      case hy1a => (refine Or.inl ⟨by rfl, ?_⟩; intro w hSw; (try dsimp only at hSw); go_simp; try with_reducible rfl)
      case hq1a => exact fun _ _ _ h => h
      try simp only [Act.put, List.setIfInBounds_toArray, List.set_cons_zero, List.set_cons_succ]
      refine wpAnyH_take (i := 2) (oi := ?oi2a) (v := ?v2a) ?hi2a (by kernel_rfl) (by kernel_rfl) (by kernel_rfl) ?hq2a ?hy2a (by assumption) ?rest2a
      case hi2a => (simp only [List.getElem?_toArray, List.getElem?_cons_zero, List.getElem?_cons_succ]; rfl)
      case hy2a => (refine Or.inl ⟨by rfl, ?_⟩; intro w hSw; (try dsimp only at hSw); go_simp; try with_reducible rfl)
      case hq2a => exact fun _ _ _ h => h
      try simp only [Act.put, List.setIfInBounds_toArray, List.set_cons_zero, List.set_cons_succ]
      refine wpAnyH_take (i := 3) (oi := ?oi3a) (v := ?v3a) ?hi3a (by kernel_rfl) (by kernel_rfl) (by kernel_rfl) ?hq3a ?hy3a (by assumption) ?rest3a
      case hi3a => (simp only [List.getElem?_toArray, List.getElem?_cons_zero, List.getElem?_cons_succ]; rfl)
      case hy3a => (refine Or.inl ⟨by rfl, ?_⟩; intro w hSw; (try dsimp only at hSw); go_simp; try with_reducible rfl)
      case hq3a => exact fun _ _ _ h => h
      try simp only [Act.put, List.setIfInBounds_toArray, List.set_cons_zero, List.set_cons_succ]
      refine wpAnyH_take (i := 4) (oi := ?oi4a) (v := ?v4a) ?hi4a (by kernel_rfl) (by kernel_rfl) (by kernel_rfl) ?hq4a ?hy4a (by assumption) ?rest4a
      case hi4a => (simp only [List.getElem?_toArray, List.getElem?_cons_zero, List.getElem?_cons_succ]; rfl)
      case hy4a => (refine Or.inl ⟨by rfl, ?_⟩; intro w hSw; (try dsimp only at hSw); go_simp; try with_reducible rfl)
      case hq4a => exact fun _ _ _ h => h
      try simp only [Act.put, List.setIfInBounds_toArray, List.set_cons_zero, List.set_cons_succ]
      refine wpAnyH_take (i := 5) (oi := ?oi5a) (v := ?v5a) ?hi5a (by kernel_rfl) (by kernel_rfl) (by kernel_rfl) ?hq5a ?hy5a (by assumption) ?rest5a
      case hi5a => (simp only [List.getElem?_toArray, List.getElem?_cons_zero, List.getElem?_cons_succ]; rfl)
      case hy5a => (refine Or.inl ⟨by rfl, ?_⟩; intro w hSw; (try dsimp only at hSw); go_simp; try with_reducible rfl)
      case hq5a => exact fun _ _ _ h => h
      try simp only [Act.put, List.setIfInBounds_toArray, List.set_cons_zero, List.set_cons_succ]
      refine wpAnyH_take (i := 6) (oi := ?oi6a) (v := ?v6a) ?hi6a (by kernel_rfl) (by kernel_rfl) (by kernel_rfl) ?hq6a ?hy6a (by assumption) ?rest6a
      case hi6a => (simp only [List.getElem?_toArray, List.getElem?_cons_zero, List.getElem?_cons_succ]; rfl)
      case hy6a => (refine Or.inl ⟨by rfl, ?_⟩; intro w hSw; (try dsimp only at hSw); go_simp; try with_reducible rfl)
      case hq6a => exact fun _ _ _ h => h
      try simp only [Act.put, List.setIfInBounds_toArray, List.set_cons_zero, List.set_cons_succ]
      refine wpAnyH_take (i := 7) (oi := ?oi7a) (v := ?v7a) ?hi7a (by kernel_rfl) (by kernel_rfl) (by kernel_rfl) ?hq7a ?hy7a (by assumption) ?rest7a
      case hi7a => (simp only [List.getElem?_toArray, List.getElem?_cons_zero, List.getElem?_cons_succ]; rfl)
      case hy7a => (refine Or.inl ⟨by rfl, ?_⟩; intro w hSw; (try dsimp only at hSw); go_simp; try with_reducible rfl)
      case hq7a => exact fun _ _ _ h => h
      try simp only [Act.put, List.setIfInBounds_toArray, List.set_cons_zero, List.set_cons_succ]
      refine wpAnyH_take (i := 8) (oi := ?oi8a) (v := ?v8a) ?hi8a (by kernel_rfl) (by kernel_rfl) (by kernel_rfl) ?hq8a ?hy8a (by assumption) ?rest8a
      case hi8a => (simp only [List.getElem?_toArray, List.getElem?_cons_zero, List.getElem?_cons_succ]; rfl)
      case hy8a => (refine Or.inl ⟨by rfl, ?_⟩; intro w hSw; (try dsimp only at hSw); go_simp; try with_reducible rfl)
      case hq8a => exact fun _ _ _ h => h
      try simp only [Act.put, List.setIfInBounds_toArray, List.set_cons_zero, List.set_cons_succ]
      refine wpAnyH_take (i := 9) (oi := ?oi9a) (v := ?v9a) ?hi9a (by kernel_rfl) (by kernel_rfl) (by kernel_rfl) ?hq9a ?hy9a (by assumption) ?rest9a
      case hi9a => (simp only [List.getElem?_toArray, List.getElem?_cons_zero, List.getElem?_cons_succ]; rfl)
      case hy9a => (refine Or.inl ⟨by rfl, ?_⟩; intro w hSw; (try dsimp only at hSw); go_simp; try with_reducible rfl)
      case hq9a => exact fun _ _ _ h => h
      try simp only [Act.put, List.setIfInBounds_toArray, List.set_cons_zero, List.set_cons_succ]
      refine wpAnyH_take (i := 10) (oi := ?oi10a) (v := ?v10a) ?hi10a (by kernel_rfl) (by kernel_rfl) (by kernel_rfl) ?hq10a ?hy10a (by assumption) ?rest10a
      case hi10a => (simp only [List.getElem?_toArray, List.getElem?_cons_zero, List.getElem?_cons_succ]; rfl)
      case hy10a => (refine Or.inl ⟨by rfl, ?_⟩; intro w hSw; (try dsimp only at hSw); go_simp; try with_reducible rfl)
      case hq10a => exact fun _ _ _ h => h
      try simp only [Act.put, List.setIfInBounds_toArray, List.set_cons_zero, List.set_cons_succ]
      refine wpAnyH_take (i := 11) (oi := ?oi11a) (v := ?v11a) ?hi11a (by kernel_rfl) (by kernel_rfl) (by kernel_rfl) ?hq11a ?hy11a (by assumption) ?rest11a
      case hi11a => (simp only [List.getElem?_toArray, List.getElem?_cons_zero, List.getElem?_cons_succ]; rfl)
      case hy11a => (refine Or.inl ⟨by rfl, ?_⟩; intro w hSw; (try dsimp only at hSw); go_simp; try with_reducible rfl)
      case hq11a => exact fun _ _ _ h => h
      try simp only [Act.put, List.setIfInBounds_toArray, List.set_cons_zero, List.set_cons_succ]
      refine wpAnyH_ready (rs := [12]) (by kernel_rfl) (by simp) ?_
      refine AllReadyH.cons (o := ?o12p0) ?ho12p0 (fun K hK => ?st12p0) ?mo12p0
      case ho12p0 => (simp only [List.getElem?_toArray, List.getElem?_cons_zero, List.getElem?_cons_succ]; rfl)
      · skip
        go_simp
        refine HGI.out.mono ?_
        rintro _ w5 ⟨A5, cap5, rfl, ho5, hb5⟩
        have HO5 := Lib.hid (HOD.out.over hb5)
        have HU5 := Lib.hid ho5
        have HW5 := Lib.hid (own_over HWYD.out hb5)
        have hs5 := hb5.size
        have hsd := HBD.out.size
        have HB5 := Lib.hid (HBD.out.trans (hb5.mono hsd))
        have HC5 := Lib.hid (Chg.of_below hb5 fun j => (Value.slice A3 m cap3).ownBlock = some j)
        clear ho5 hb5
        go_simp
        refine hK.out _ _ (HSX.out w5 HC5.out) (fun hHeld1 => ?_)
        clear hK K
        try simp only [Act.put, List.setIfInBounds_toArray, List.set_cons_zero, List.set_cons_succ]
        refine wpAnyH_ready (rs := [13]) (by kernel_rfl) (by simp) ?_
        refine AllReadyH.cons (o := ?o13p1) ?ho13p1 (fun K hK => ?st13p1) ?mo13p1
        case ho13p1 => (simp only [List.getElem?_toArray, List.getElem?_cons_zero, List.getElem?_cons_succ]; rfl)
        · skip
          go_simp
          refine hK.out _ _ (HSX.out _ (HC5.out.alloc _)) (fun hHeld2 => ?_)
          clear hK K
          try simp only [Act.put, List.setIfInBounds_toArray, List.set_cons_zero, List.set_cons_succ]
          refine wpAnyH_ready (rs := [14]) (by kernel_rfl) (by simp) ?_
          refine AllReadyH.cons (o := ?o14p2) ?ho14p2 (fun K hK => ?st14p2) ?mo14p2
          case ho14p2 => (simp only [List.getElem?_toArray, List.getElem?_cons_zero, List.getElem?_cons_succ]; rfl)
          · skip
            refine step_appN w5 (by rfl) _ _ 43 (by rfl) w.heap.size 48 i0 _ 5 56 u_flights hi0 hz0 hz1 hz2 rfl (by decide) _ m _ (by rfl) HO5.out.row #[.int .i64 (f'.id : Int), .int .i64 (f'.src : Int), .int .i64 (f'.dst : Int), .int .i64 (f'.due : Int), .slice A5 f'.bs.length cap5] rfl (by rfl) (rowV_one f' A5 f'.bs.length cap5) (by simp only [maxLen]; omega) (by omega) (by omega) ?_
            intro v9 w9 own9 hb9 hg9 hat9
            have HC9 := Lib.hid (HC5.out.trans ((Chg.of_grown hg9).mono fun _ _ e => e.symm))
            have h4s := (own_block_lt HW5.out (g := g4) rfl).1
            have HNN : Hid (FlS w r (.slice (some ⟨g4, 0, none⟩) n cap4) n (k + 1) v9 (m + 1) w9) := Lib.hid ⟨own_chg HW5.out ((Chg.of_grown hg9).mono fun _ _ e => e.symm) (fun q hq e => by
                simp only [Value.ownBlock, Option.some.injEq] at hq
                exact HFAR.out (by rw [← hq] at e; exact e)), ⟨_, by rw [take_grow HWK.out]; exact HO5.out.push (own_base HU5.out hsd) own9 hg9⟩, HB5.out.trans hb9, fun q hq e => by
                have hq4 : q = g4 := by
                  have h1 : (Value.slice (some ⟨g4, 0, none⟩) n cap4).ownBlock = some g4 := rfl
                  rw [h1] at hq
                  injection hq with hq
                  exact hq.symm
                rcases hat9 with e2 | e2
                · exact HFAR.out (by rw [← e2, e, hq4])
                · rw [e2] at e
                  injection e with e
                  omega⟩
            clear own9 hb9 hg9 hat9
            refine hK.out _ _ (HSX.out w9 HC9.out) (fun hHeld3 => ?_)
            clear hK K
            try simp only [Act.put, List.setIfInBounds_toArray, List.set_cons_zero, List.set_cons_succ]
            refine wpAnyH_ready (rs := [15]) (by kernel_rfl) (by simp) ?_
            refine AllReadyH.cons (o := ?o15p3) ?ho15p3 (fun K hK => ?st15p3) ?mo15p3
            case ho15p3 => (simp only [List.getElem?_toArray, List.getElem?_cons_zero, List.getElem?_cons_succ]; rfl)
            · skip
              go_simp
              refine hK.out _ _ (HSX.out w9 HC9.out) (fun hHeld4 => ?_)
              clear hK K
              try simp only [Act.put, List.setIfInBounds_toArray, List.set_cons_zero, List.set_cons_succ]
              refine wpAnyH_done (by kernel_rfl) ?_ _
              go_wp2_with fail
              go_roundw
              case rel => exact ⟨k + 1, m + 1, by omega, by omega, by go_num, HNN⟩
              case measure => simp [intOf] <;> omega
            · exact AllReadyH.nil
          · exact AllReadyH.nil
        · exact AllReadyH.nil
      · exact AllReadyH.nil
    · obtain rfl : k = n := by omega
      have HE : Hid (RFlightsR w r (.returned (.slice A3 m cap3)) wr) := by
        refine Lib.hid ⟨_, m, H, rfl, ?_, HT.out.below⟩
        have h1 := HO.out
        rw [List.take_of_length_le (by rw [HN.out, idxOf_length]; exact Nat.le_refl _)] at h1
        exact h1
      clear hO
      go_wp2
      go_ret
      exact HE.out
end Go.Proofs.Ytgfhmfhhobhojaa
namespace Go.Proofs.Ytgfhmfhhobhojaa
open Go.ChangeShapes Go.WideShapes Go.ChangeAt Go.RowKit
variable {w : World} {F : Nat → Prop} {c : ECfg} {D : Nat} {r : RV}
theorem turn_all : ((List.range 256).all fun n => (List.range 8).all fun q => decide (((flipV (UInt8.ofNat n) q).toNat = if n / 2 ^ q % 2 = 1 then n - 2 ^ q else n + 2 ^ q) ∧ (n / 2 ^ q % 2 = 1 → 2 ^ q ≤ n) ∧ (n / 2 ^ q % 2 ≠ 1 → n + 2 ^ q < 256))) = true := by kernel_rfl
theorem turn_one (x : UInt8) {q : Nat} (hq : q < 8) : ((flipV x q).toNat = if x.toNat / 2 ^ q % 2 = 1 then x.toNat - 2 ^ q else x.toNat + 2 ^ q) ∧ (x.toNat / 2 ^ q % 2 = 1 → 2 ^ q ≤ x.toNat) ∧ (x.toNat / 2 ^ q % 2 ≠ 1 → x.toNat + 2 ^ q < 256) := by
  have h := turn_all
  rw [List.all_eq_true] at h
  have h1 := h x.toNat (List.mem_range.2 x.toNat_lt)
  rw [List.all_eq_true] at h1
  have h2 := of_decide_eq_true (h1 q (List.mem_range.2 hq))
  rw [UInt8.ofNat_toNat] at h2
  exact h2
theorem pow_le7 {q : Nat} (h : q < 8) : 2 ^ q ≤ 128 := by
  have : q = 0 ∨ q = 1 ∨ q = 2 ∨ q = 3 ∨ q = 4 ∨ q = 5 ∨ q = 6 ∨ q = 7 := by omega
  rcases this with rfl | rfl | rfl | rfl | rfl | rfl | rfl | rfl <;> decide
set_option maxRecDepth 100000 in
set_option maxHeartbeats 1600000 in
theorem turned_any (x : UInt8) (k : Nat) (hk : k < 8) : Calls Try.prog 88 #[.int .u8 (x.toNat : Int), .int .i64 (k : Int)] w fun e w' => e = .returned (.int .u8 ((flipV x k).toNat : Int)) ∧ w' = w := by
  have HT := Lib.hid (turn_one x hk)
  have hxl := x.toNat_lt
  obtain ⟨n, hn⟩ : ∃ n, n = x.toNat := ⟨_, rfl⟩
  rw [← hn] at HT hxl ⊢
  obtain ⟨y, hy⟩ : ∃ y, y = (flipV x k).toNat := ⟨_, rfl⟩
  rw [← hy] at HT ⊢
  clear hn hy
  have HK := Lib.hid hk
  go_enter Try.func88, Try.ntmps88
  go_wp2_with fail
  go_loopw [5, 6] (fun v5 i wr => ∃ q p : Nat, q ≤ k ∧ p ≤ 128 ∧ i = .int .i64 (q : Int) ∧ v5 = .int .u8 (p : Int) ∧ Hid (p = 2 ^ q) ∧ wr = w) (fun _ i _ => k - (intOf i).toNat)
  case atStart => exact ⟨0, 1, by omega, by omega, rfl, rfl, Lib.hid rfl, rfl⟩
  case round =>
    obtain ⟨q, p, hq, hp, rfl, rfl, HP, rfl⟩ := hrel
    by_cases hlt : q < k
    · have hI : (q : Int) < (k : Int) := by omega
      have hp64 : p ≤ 64 := by
        have h1 : q < 7 := by omega
        have h2 := pow_le7 (q := q + 1) (by omega)
        rw [HP.out]
        rw [Nat.pow_succ] at h2
        omega
      have hw2 : IntKind.u8.wrap ((p : Int) * 2) = (p : Int) * 2 := IntWalk.u8_in _ (by omega)
      have HP2 : Hid (p * 2 = 2 ^ (q + 1)) := Lib.hid (by rw [HP.out, Nat.pow_succ])
      go_wp2
      go_roundw
      case rel => exact ⟨q + 1, p * 2, by omega, by omega, by go_num, by rw [Int.natCast_mul]; rfl, HP2, trivial⟩
      case measure => simp [intOf] <;> omega
    · obtain rfl : q = k := by omega
      have hp0 : 0 < p := by rw [HP.out]; exact Nat.pow_pos (by omega)
      obtain ⟨d, hd⟩ : ∃ d, d = n / p := ⟨_, rfl⟩
      have hdl : d ≤ n := by rw [hd]; exact Nat.div_le_self _ _
      obtain ⟨e, he⟩ : ∃ e, e = d % 2 := ⟨_, rfl⟩
      have h1 : (n : Int).tdiv (p : Int) = (d : Int) := by rw [hd]; exact (Int.ofNat_tdiv n p).symm
      have h2 : (d : Int).tmod 2 = (e : Int) := by rw [he]; rfl
      have h1' : (n : Int) / (p : Int) = (d : Int) := by rw [hd]; exact (Int.natCast_ediv n p).symm
      have h2' : (d : Int) % 2 = (e : Int) := by rw [he]; exact (Int.natCast_emod d 2).symm
      have hpz : ¬ (p : Int) = 0 := by omega
      have hpn : (p : Int) ≠ 0 := by omega
      have hwd : IntKind.u8.wrap (d : Int) = (d : Int) := IntWalk.u8_in _ (by omega)
      have hwe : IntKind.u8.wrap (e : Int) = (e : Int) := IntWalk.u8_in _ (by omega)
      have HT2 : Hid ((y = if e = 1 then n - p else n + p) ∧ (e = 1 → p ≤ n) ∧ (e ≠ 1 → n + p < 256)) := Lib.hid (by rw [he, hd, HP.out]; exact HT.out)
      clear hd he HT HP
      by_cases h1e : e = 1
      · subst h1e
        obtain ⟨ha, hb, _⟩ := HT2.out
        have hb := hb rfl
        rw [if_pos rfl] at ha
        have hws : IntKind.u8.wrap ((n : Int) - (p : Int)) = (y : Int) := (IntWalk.u8_in _ (by omega)).trans (by omega)
        clear ha
        go_wp2
        go_ret
        exact ⟨rfl, rfl⟩
      · obtain ⟨ha, _, hb⟩ := HT2.out
        have hb := hb h1e
        rw [if_neg h1e] at ha
        have h1i : ¬ (e : Int) = 1 := by omega
        have hws : IntKind.u8.wrap ((n : Int) + (p : Int)) = (y : Int) := (IntWalk.u8_in _ (by omega)).trans (by omega)
        clear ha
        go_wp2
        go_ret
        exact ⟨rfl, rfl⟩
end Go.Proofs.Ytgfhmfhhobhojaa
