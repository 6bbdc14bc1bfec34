/-
  The program's Each: the disk is copied and picked; a function is made.
-/
import Derived.Test.YtpkdalpjfcopbaaDoorKOpen
namespace Go.Proofs.YtpkdalpjfcopbaaDoor
open Go.RowKit
/-- What Each gives. -/
def giveR (f : Fls) : List Rc := match pickR f with
  | none => []
  | some (_, x) => x.recs
/-- What pick hands out, its records with memory of their own. -/
structure _root_.Go.World.ownsK (w : World) (base : Nat) (r : LV) (K : List Rk) (f : Fls) : Prop where
  own : RcOwn w base (.slice r.A r.m r.c) K
  len : r.m = K.length
  rc : K.map Rk.rc = giveR f
theorem _root_.Go.World.ownsK.over {w w' : World} {base : Nat} {r : LV} {K : List Rk} {f : Fls} (h : w.ownsK base r K f) (hb : Below w.heap.size w w') : w'.ownsK base r K f := ⟨h.own.below hb, h.len, h.rc⟩
theorem Picked.val {w w' : World} {f : Fls} {e : Ending} (h : Picked w f e w') : ∃ k r K, e = .returned (.tuple #[.int .i64 k, LV.val r]) ∧ Below w.heap.size w w' ∧ RcOwn w' w.heap.size (.slice r.A r.m r.c) K ∧ r.m = K.length ∧ K.map Rk.rc = giveR f := by
  obtain ⟨hb, h⟩ := h
  unfold giveR
  split at h
  · rename_i hp
    rw [hp]
    exact ⟨-1, LV.zero, [], h, hb, RcOwn.nil, rfl, rfl⟩
  · rename_i k x hp
    rw [hp]
    obtain ⟨r, he, hv, hr⟩ := h
    unfold LkV at hv
    rw [hr] at hv
    obtain ⟨_, _, _, _, _, K, h1, h2, h3⟩ := hv
    exact ⟨k, r, K, he, hb, h3, h2, h1⟩
theorem own_len2 {w : World} {base n c : Nat} {A : Option Addr} {xs : List Value} (h : w.ownsRow base 5 1 (.slice A n c) n xs) : n ≤ c ∧ c ≤ 9223372036854775807 := by
  obtain ⟨_, _, e, h1, h2⟩ := own_shape h
  injection e with _ _ e
  subst e
  simp only [maxLen] at h2
  exact ⟨h1, h2⟩
theorem lv_cells0 {w : World} {q : Nat} (h : Blk w q 87 LV.zero.cells) : (w.cell? ⟨q, 0, none⟩ = some (.bool false) ∧ w.cell? ⟨q, 1, none⟩ = some (.bool false) ∧ w.cell? ⟨q, 2, none⟩ = some (.int .i64 0) ∧ w.cell? ⟨q, 3, none⟩ = some (.slice none 0 0) ∧ w.cell? ⟨q, 4, none⟩ = some (.int .i64 0) ∧ w.cell? ⟨q, 5, none⟩ = some (.int .u8 0) ∧ w.cell? ⟨q, 6, none⟩ = some (.int .u8 0) ∧ w.cell? ⟨q, 7, none⟩ = some (.int .u8 0) ∧ w.cell? ⟨q, 8, none⟩ = some (.int .u8 0)) ∧
    (w.frozen? ⟨q, 0, none⟩ = false ∧ w.frozen? ⟨q, 1, none⟩ = false ∧ w.frozen? ⟨q, 2, none⟩ = false ∧ w.frozen? ⟨q, 3, none⟩ = false ∧ w.frozen? ⟨q, 4, none⟩ = false ∧ w.frozen? ⟨q, 5, none⟩ = false ∧ w.frozen? ⟨q, 6, none⟩ = false ∧ w.frozen? ⟨q, 7, none⟩ = false ∧ w.frozen? ⟨q, 8, none⟩ = false) := lv_cells h
/-- The function that Each gives: it holds the block of a file's words. -/
def EachOf (w : World) (f : Fls) (e : Ending) (w' : World) : Prop :=
  ∃ fg r K, e = .returned (.func (.func 47) #[] #[.pointer (some ⟨fg, 0, none⟩)]) ∧ Blk w' fg 87 (LV.cells r) ∧ w.heap.size ≤ fg ∧ w'.ownsK w.heap.size r K f ∧ Below w.heap.size w w'
theorem each_fin {w wd W W' : World} {D : Nat} {r : LV} {K : List Rk} {f : Fls} (hb : Below w.heap.size w wd) (hbb : Below wd.heap.size wd W) (hp : W.ownsK wd.heap.size r K f) (hn : Blk W' D 87 (LV.cells r) ∧ Chg (fun k => k = D) W W') (hD : wd.heap.size ≤ D) (hT : IsT W 87 D) :
    EachOf w f (.returned (.func (.func 47) #[] #[.pointer (some ⟨D, 0, none⟩)])) W' := by
  have h1 := hb.size
  have h2 := hbb.size
  refine ⟨D, r, K, rfl, hn.1, by omega, ⟨(hp.own.chgT hn.2 fun g _ ht e => ?_).mono h1, hp.len, hp.rc⟩, (hb.trans (hbb.mono h1)).trans (hn.2.to_below (by omega) fun k e => by omega)⟩
  subst e
  exact ht.elim (fun h => absurd (h.eq_ hT) (by decide)) (fun h => absurd (h.eq_ hT) (by decide))
set_option maxRecDepth 100000 in
set_option maxHeartbeats 3200000 in
theorem Each_any {w : World} {f : Fls} {A0 A1 : Option Addr} {c0 c1 : Nat} (h0 : RdB w w.heap.size A0 f.a.length f.a) (h1 : RdB w w.heap.size A1 f.b.length f.b) (m0 : f.a.length ≤ 140737488351232) (m1 : f.b.length ≤ 140737488351232) (ht : Nibs w) :
    Calls Tryd.prog 12 #[.agg #[.slice A0 f.a.length c0, .slice A1 f.b.length c1]] w (EachOf w f) := by
  obtain ⟨i0, hi0, hz0, hz1, hz2⟩ := info_parts info_u8
  obtain ⟨w1, hw1⟩ : ∃ w1, w1 = w.alloc (.cells #[.slice A0 f.a.length c0, .slice A1 f.b.length c1] 24) := ⟨_, rfl⟩
  have hb1 : Below w.heap.size w w1 := by rw [hw1]; exact one_box' _ _
  have hX1 : Blk w1 w.heap.size 24 #[.slice A0 f.a.length c0, .slice A1 f.b.length c1] := by rw [hw1]; exact Blk.new _ _ _
  obtain ⟨wd, hwd⟩ : ∃ wd, wd = w1.drew := ⟨_, rfl⟩
  have hbd : Below w1.heap.size w1 wd := by rw [hwd]; exact below_drewN (Below.refl _ _) 1
  have HXD := Lib.hid (hX1.over hbd)
  have HBX : Hid (Below w.heap.size w wd) := Lib.hid (Below.then hb1 hbd)
  have HBB : Hid (Below wd.heap.size wd wd) := Lib.hid (Below.refl _ _)
  have HSL : Hid (w.heap.size < wd.heap.size) := Lib.hid HXD.out.lt
  have HSB : Hid (∀ W, Below wd.heap.size wd W → W.cell? ⟨w.heap.size, 0, none⟩ = some (.slice A0 f.a.length c0) ∧ W.cell? ⟨w.heap.size, 1, none⟩ = some (.slice A1 f.b.length c1)) := Lib.hid fun W hW => ⟨(HXD.out.over hW).cell 0, (HXD.out.over hW).cell 1⟩
  have HR0 : Hid (∀ W, Below w.heap.size w W → RdB W w.heap.size A0 f.a.length f.a) := Lib.hid fun W hW => h0.below hW
  have HR1 : Hid (∀ W, Below w.heap.size w W → RdB W w.heap.size A1 f.b.length f.b) := Lib.hid fun W hW => h1.below hW
  have HT := Lib.hid ht
  have HW1 := Lib.hid hw1
  have HWD := Lib.hid hwd
  clear hw1 hb1 hX1 hwd hbd h0 h1 ht
  go_enter Tryd.func12, Tryd.ntmps12
  go_upto_region 1 with fail
  rw [← HW1.out]
  clear HW1
  refine wp_region_held_drew (S := fun W => W.cell? ⟨w.heap.size, 0, none⟩ = some (.slice A0 f.a.length c0) ∧ W.cell? ⟨w.heap.size, 1, none⟩ = some (.slice A1 f.b.length c1)) (by kernel_rfl) (by rw [← HWD.out]; exact HSB.out _ (Below.refl _ _)) (fun hsw => ?_)
  rw [← HWD.out] at hsw ⊢
  clear HWD
  refine wpAnyH_take (i := 0) (oi := ?oi0aa) (v := ?v0aa) ?hi0aa (by kernel_rfl) (by kernel_rfl) (by kernel_rfl) ?hq0aa ?hy0aa (by assumption) ?rest0aa
  case hi0aa => (simp only [List.getElem?_toArray, List.getElem?_cons_zero]; rfl)
  case hy0aa => (refine Or.inl ⟨by rfl, ?_⟩; intro w hSw; (try dsimp only at hSw); go_simp; try with_reducible rfl)
  case hq0aa => exact fun _ _ _ h => h
  try simp only [Act.put, List.setIfInBounds_toArray, List.set_cons_zero, List.set_cons_succ]
  refine wpAnyH_take (i := 1) (oi := ?oi1aa) (v := ?v1aa) ?hi1aa (by kernel_rfl) (by kernel_rfl) (by kernel_rfl) ?hq1aa ?hy1aa (by assumption) ?rest1aa
  case hi1aa => (simp only [List.getElem?_toArray, List.getElem?_cons_zero, List.getElem?_cons_succ]; rfl)
  case hy1aa => (refine Or.inl ⟨by rfl, ?_⟩; intro w hSw; (try dsimp only at hSw); go_simp; try with_reducible rfl)
  case hq1aa => exact fun _ _ _ h => h
  try simp only [Act.put, List.setIfInBounds_toArray, List.set_cons_zero, List.set_cons_succ]
  refine wpAnyH_take (i := 3) (oi := ?oi3aa) (v := ?v3aa) ?hi3aa (by kernel_rfl) (by kernel_rfl) (by kernel_rfl) ?hq3aa ?hy3aa (by assumption) ?rest3aa
  case hi3aa => (simp only [List.getElem?_toArray, List.getElem?_cons_zero, List.getElem?_cons_succ]; rfl)
  case hy3aa => (refine Or.inl ⟨by rfl, ?_⟩; intro w hSw; (try dsimp only at hSw); go_simp; try with_reducible rfl)
  case hq3aa => exact fun _ _ _ h => h
  try simp only [Act.put, List.setIfInBounds_toArray, List.set_cons_zero, List.set_cons_succ]
  refine wpAnyH_take (i := 4) (oi := ?oi4aa) (v := ?v4aa) ?hi4aa (by kernel_rfl) (by kernel_rfl) (by kernel_rfl) ?hq4aa ?hy4aa (by assumption) ?rest4aa
  case hi4aa => (simp only [List.getElem?_toArray, List.getElem?_cons_zero, List.getElem?_cons_succ]; rfl)
  case hy4aa => (refine Or.inl ⟨by rfl, ?_⟩; intro w hSw; (try dsimp only at hSw); go_simp; try with_reducible rfl)
  case hq4aa => exact fun _ _ _ h => h
  try simp only [Act.put, List.setIfInBounds_toArray, List.set_cons_zero, List.set_cons_succ]
  refine wpAnyH_ready (rs := [2, 11]) (by kernel_rfl) (by simp) ?_
  refine AllReadyH.cons (o := ?o2o2) ?ho2o2 (fun K hK => ?st2o2) ?mo2o2
  case ho2o2 => (simp only [List.getElem?_toArray, List.getElem?_cons_zero, List.getElem?_cons_succ]; rfl)
  · skip
    have hnil : wd.ownsRow wd.heap.size 5 1 (.slice none 0 0) 0 [] := ⟨by simp, .inl ⟨rfl, rfl⟩⟩
    refine step_append_any _ (by rfl) _ _ 22 (by rfl) wd.heap.size 5 i0 _ 1 1 u_bytes hi0 hz0 hz1 hz2 rfl (by omega) _ 0 [] (by rfl) hnil w.heap.size A0 f.a.length c0 (bvs f.a) (by rfl) (HR0.out _ (HBX.out.trans (HBB.out.mono HBX.out.size))) (bvs_one _) (by simp only [maxLen]; omega) (by omega) (Nat.le_refl _) ?_
    intro v2 wv2 ho2 hg2 _
    rw [Nat.zero_add, List.nil_append] at ho2
    obtain ⟨X2, e2, rfl, _, _⟩ := own_shape ho2
    have hb2 : Below wd.heap.size wd wv2 := below_app hnil hg2 (Nat.le_refl _)
    have HOa := Lib.hid ho2
    have HLNa : Hid (f.a.length ≤ e2 ∧ e2 ≤ 9223372036854775807) := Lib.hid (own_len2 ho2)
    clear hnil ho2 hg2
    replace HBB := Lib.hid (Below.then HBB.out hb2)
    clear hb2
    refine hK.out _ _ (HSB.out _ HBB.out) (fun _ => ?_)
    clear hK K
    try simp only [Act.put, List.setIfInBounds_toArray, List.set_cons_zero, List.set_cons_succ]
    refine wpAnyH_ready (rs := [5, 11]) (by kernel_rfl) (by simp) ?_
    refine AllReadyH.cons (o := ?o5o4) ?ho5o4 (fun K hK => ?st5o4) ?mo5o4
    case ho5o4 => (simp only [List.getElem?_toArray, List.getElem?_cons_zero, List.getElem?_cons_succ]; rfl)
    · skip
      have hnil : wv2.ownsRow wv2.heap.size 5 1 (.slice none 0 0) 0 [] := ⟨by simp, .inl ⟨rfl, rfl⟩⟩
      refine step_append_any _ (by rfl) _ _ 22 (by rfl) wv2.heap.size 5 i0 _ 1 1 u_bytes hi0 hz0 hz1 hz2 rfl (by omega) _ 0 [] (by rfl) hnil w.heap.size A1 f.b.length c1 (bvs f.b) (by rfl) (HR1.out _ (HBX.out.trans (HBB.out.mono HBX.out.size))) (bvs_one _) (by simp only [maxLen]; omega) (by omega) (Nat.le_refl _) ?_
      intro v4 wv4 ho4 hg4 _
      rw [Nat.zero_add, List.nil_append] at ho4
      obtain ⟨X4, e4, rfl, _, _⟩ := own_shape ho4
      have hb4 : Below wv2.heap.size wv2 wv4 := below_app hnil hg4 (Nat.le_refl _)
      have HOb := Lib.hid ho4
      have HLNb : Hid (f.b.length ≤ e4 ∧ e4 ≤ 9223372036854775807) := Lib.hid (own_len2 ho4)
      clear hnil ho4 hg4
      replace HOa := Lib.hid (own_over HOa.out hb4)
      replace HBB := Lib.hid (Below.then HBB.out hb4)
      clear hb4
      refine hK.out _ _ (HSB.out _ HBB.out) (fun _ => ?_)
      clear hK K
      try simp only [Act.put, List.setIfInBounds_toArray, List.set_cons_zero, List.set_cons_succ]
      refine wpAnyH_take (i := 6) (oi := ?oi6t4) (v := ?v6t4) ?hi6t4 (by kernel_rfl) (by kernel_rfl) (by kernel_rfl) ?hq6t4 ?hy6t4 (by assumption) ?rest6t4
      case hi6t4 => (simp only [List.getElem?_toArray, List.getElem?_cons_zero, List.getElem?_cons_succ]; rfl)
      case hy6t4 => (refine Or.inl ⟨by rfl, ?_⟩; intro w hSw; (try dsimp only at hSw); go_simp; try with_reducible rfl)
      case hq6t4 => exact fun _ _ _ h => h
      try simp only [Act.put, List.setIfInBounds_toArray, List.set_cons_zero, List.set_cons_succ]
      refine wpAnyH_ready (rs := [7, 11]) (by kernel_rfl) (by simp) ?_
      refine AllReadyH.cons (o := ?o7o6) ?ho7o6 (fun K hK => ?st7o6) ?mo7o6
      case ho7o6 => (simp only [List.getElem?_toArray, List.getElem?_cons_zero, List.getElem?_cons_succ]; rfl)
      · skip
        have HP := Lib.hid (pick_any (w := wv4) (f := f) (Rd.of_own HOa.out) (Rd.of_own HOb.out) HLNa.out.1 HLNb.out.1 HLNa.out.2 HLNb.out.2 (HT.out.below (HBX.out.trans (HBB.out.mono HBX.out.size))))
        go_simp
        refine HP.out.mono ?_
        rintro _ wv6 hp6
        obtain ⟨kx, r, Kp, rfl, hb6, ho6, hm6, hr6⟩ := hp6.val
        have HPK : Hid (wv6.ownsK wd.heap.size r Kp f) := Lib.hid ⟨ho6.mono HBB.out.size, hm6, hr6⟩
        unfold LV.val
        clear hp6 ho6 hm6 hr6 HP
        go_simp
        replace HBB := Lib.hid (Below.then HBB.out hb6)
        clear hb6
        refine hK.out _ _ (HSB.out _ HBB.out) (fun _ => ?_)
        clear hK K
        try simp only [Act.put, List.setIfInBounds_toArray, List.set_cons_zero, List.set_cons_succ]
        refine wpAnyH_take (i := 8) (oi := ?oi8t6) (v := ?v8t6) ?hi8t6 (by kernel_rfl) (by kernel_rfl) (by kernel_rfl) ?hq8t6 ?hy8t6 (by assumption) ?rest8t6
        case hi8t6 => (simp only [List.getElem?_toArray, List.getElem?_cons_zero, List.getElem?_cons_succ]; rfl)
        case hy8t6 => (refine Or.inl ⟨by rfl, ?_⟩; intro w hSw; (try dsimp only at hSw); go_simp; try with_reducible rfl)
        case hq8t6 => exact fun _ _ _ h => h
        try simp only [Act.put, List.setIfInBounds_toArray, List.set_cons_zero, List.set_cons_succ]
        refine wpAnyH_take (i := 9) (oi := ?oi9t6) (v := ?v9t6) ?hi9t6 (by kernel_rfl) (by kernel_rfl) (by kernel_rfl) ?hq9t6 ?hy9t6 (by assumption) ?rest9t6
        case hi9t6 => (simp only [List.getElem?_toArray, List.getElem?_cons_zero, List.getElem?_cons_succ]; rfl)
        case hy9t6 => (refine Or.inl ⟨by rfl, ?_⟩; intro w hSw; (try dsimp only at hSw); go_simp; try with_reducible rfl)
        case hq9t6 => exact fun _ _ _ h => h
        try simp only [Act.put, List.setIfInBounds_toArray, List.set_cons_zero, List.set_cons_succ]
        refine wpAnyH_take (i := 10) (oi := ?oi10t6) (v := ?v10t6) ?hi10t6 (by kernel_rfl) (by kernel_rfl) (by kernel_rfl) ?hq10t6 ?hy10t6 (by assumption) ?rest10t6
        case hi10t6 => (simp only [List.getElem?_toArray, List.getElem?_cons_zero, List.getElem?_cons_succ]; rfl)
        case hy10t6 => (refine Or.inl ⟨by rfl, ?_⟩; intro w hSw; (try dsimp only at hSw); go_simp; try with_reducible rfl)
        case hq10t6 => exact fun _ _ _ h => h
        try simp only [Act.put, List.setIfInBounds_toArray, List.set_cons_zero, List.set_cons_succ]
        refine wpAnyH_ready (rs := [11]) (by kernel_rfl) (by simp) ?_
        refine AllReadyH.cons (o := ?o11o8) ?ho11o8 (fun K hK => ?st11o8) ?mo11o8
        case ho11o8 => (simp only [List.getElem?_toArray, List.getElem?_cons_zero, List.getElem?_cons_succ]; rfl)
        · skip
          obtain ⟨wv8, hw8⟩ : ∃ x, x = wv6.alloc (.cells #[.bool false, .bool false, .int .i64 0, .slice none 0 0, .int .i64 0, .int .u8 0, .int .u8 0, .int .u8 0, .int .u8 0] 87) := ⟨_, rfl⟩
          have hb8 : Below wv6.heap.size wv6 wv8 := by rw [hw8]; exact one_box' _ _
          have HDB : Hid (Blk wv8 wv6.heap.size 87 LV.zero.cells) := Lib.hid (by rw [hw8]; exact Blk.new _ _ _)
          have HDG : Hid (wd.heap.size ≤ wv6.heap.size) := Lib.hid HBB.out.size
          go_simp
          rw [← hw8]
          clear hw8
          replace HPK := Lib.hid (HPK.out.over hb8)
          replace HBB := Lib.hid (Below.then HBB.out hb8)
          clear hb8
          refine hK.out _ _ (HSB.out _ HBB.out) (fun _ => ?_)
          clear hK K
          try simp only [Act.put, List.setIfInBounds_toArray, List.set_cons_zero, List.set_cons_succ]
          refine wpAnyH_take (i := 12) (oi := ?oi12y9) (v := ?v12y9) ?hi12y9 (by kernel_rfl) (by kernel_rfl) (by kernel_rfl) ?hq12y9 ?hy12y9 (by assumption) ?rest12y9
          case hi12y9 => (simp only [List.getElem?_toArray, List.getElem?_cons_zero, List.getElem?_cons_succ]; rfl)
          case hy12y9 => (refine Or.inl ⟨by rfl, ?_⟩; intro w hSw; (try dsimp only at hSw); go_simp; try with_reducible rfl)
          case hq12y9 => exact fun _ _ _ h => h
          try simp only [Act.put, List.setIfInBounds_toArray, List.set_cons_zero, List.set_cons_succ]
          refine wpAnyH_ready (rs := [13]) (by kernel_rfl) (by simp) ?_
          refine AllReadyH.cons (o := ?o13z9) ?ho13z9 (fun K hK => ?st13z9) ?mo13z9
          case ho13z9 => (simp only [List.getElem?_toArray, List.getElem?_cons_zero, List.getElem?_cons_succ]; rfl)
          case mo13z9 => exact AllReadyH.nil
          have HN := Lib.hid (nine_blk HDB.out r)
          obtain ⟨⟨c0, c1, c2, c3, c4, c5, c6, c7, c8⟩, q0, q1, q2, q3, q4, q5, q6, q7, q8⟩ := lv_cells0 HDB.out
          have hXN := (HXD.out.over HBB.out).chg HN.out.2 (by have := HDG.out; have := HSL.out; omega)
          have hS := And.intro (hXN.cell 0) (hXN.cell 1)
          have HFI := Lib.hid (each_fin HBX.out HBB.out HPK.out HN.out HDG.out HDB.out.isT)
          unfold nine at hS HFI
          go_simp
          refine hK.out _ _ hS (fun _ => ?_)
          clear hK K
          refine wpAnyH_done (by kernel_rfl) ?_ _
          go_wp2_with fail
          go_ret
          exact HFI.out
        exact AllReadyH.nil
      refine AllReadyH.cons (o := ?o11o10) ?ho11o10 (fun K hK => ?st11o10) ?mo11o10
      case ho11o10 => (simp only [List.getElem?_toArray, List.getElem?_cons_zero, List.getElem?_cons_succ]; rfl)
      · skip
        obtain ⟨wv10, hw10⟩ : ∃ x, x = wv4.alloc (.cells #[.bool false, .bool false, .int .i64 0, .slice none 0 0, .int .i64 0, .int .u8 0, .int .u8 0, .int .u8 0, .int .u8 0] 87) := ⟨_, rfl⟩
        have hb10 : Below wv4.heap.size wv4 wv10 := by rw [hw10]; exact one_box' _ _
        have HDB : Hid (Blk wv10 wv4.heap.size 87 LV.zero.cells) := Lib.hid (by rw [hw10]; exact Blk.new _ _ _)
        have HDG : Hid (wd.heap.size ≤ wv4.heap.size) := Lib.hid HBB.out.size
        go_simp
        rw [← hw10]
        clear hw10
        replace HOa := Lib.hid (own_over HOa.out hb10)
        replace HOb := Lib.hid (own_over HOb.out hb10)
        replace HBB := Lib.hid (Below.then HBB.out hb10)
        clear hb10
        refine hK.out _ _ (HSB.out _ HBB.out) (fun _ => ?_)
        clear hK K
        try simp only [Act.put, List.setIfInBounds_toArray, List.set_cons_zero, List.set_cons_succ]
        refine wpAnyH_ready (rs := [7]) (by kernel_rfl) (by simp) ?_
        refine AllReadyH.cons (o := ?o7o12) ?ho7o12 (fun K hK => ?st7o12) ?mo7o12
        case ho7o12 => (simp only [List.getElem?_toArray, List.getElem?_cons_zero, List.getElem?_cons_succ]; rfl)
        · skip
          have HP := Lib.hid (pick_any (w := wv10) (f := f) (Rd.of_own HOa.out) (Rd.of_own HOb.out) HLNa.out.1 HLNb.out.1 HLNa.out.2 HLNb.out.2 (HT.out.below (HBX.out.trans (HBB.out.mono HBX.out.size))))
          go_simp
          refine HP.out.mono ?_
          rintro _ wv12 hp12
          obtain ⟨kx, r, Kp, rfl, hb12, ho12, hm12, hr12⟩ := hp12.val
          have HPK : Hid (wv12.ownsK wd.heap.size r Kp f) := Lib.hid ⟨ho12.mono HBB.out.size, hm12, hr12⟩
          unfold LV.val
          clear hp12 ho12 hm12 hr12 HP
          go_simp
          replace HDB := Lib.hid (HDB.out.over hb12)
          replace HBB := Lib.hid (Below.then HBB.out hb12)
          clear hb12
          refine hK.out _ _ (HSB.out _ HBB.out) (fun _ => ?_)
          clear hK K
          try simp only [Act.put, List.setIfInBounds_toArray, List.set_cons_zero, List.set_cons_succ]
          refine wpAnyH_take (i := 8) (oi := ?oi8t12) (v := ?v8t12) ?hi8t12 (by kernel_rfl) (by kernel_rfl) (by kernel_rfl) ?hq8t12 ?hy8t12 (by assumption) ?rest8t12
          case hi8t12 => (simp only [List.getElem?_toArray, List.getElem?_cons_zero, List.getElem?_cons_succ]; rfl)
          case hy8t12 => (refine Or.inl ⟨by rfl, ?_⟩; intro w hSw; (try dsimp only at hSw); go_simp; try with_reducible rfl)
          case hq8t12 => exact fun _ _ _ h => h
          try simp only [Act.put, List.setIfInBounds_toArray, List.set_cons_zero, List.set_cons_succ]
          refine wpAnyH_take (i := 9) (oi := ?oi9t12) (v := ?v9t12) ?hi9t12 (by kernel_rfl) (by kernel_rfl) (by kernel_rfl) ?hq9t12 ?hy9t12 (by assumption) ?rest9t12
          case hi9t12 => (simp only [List.getElem?_toArray, List.getElem?_cons_zero, List.getElem?_cons_succ]; rfl)
          case hy9t12 => (refine Or.inl ⟨by rfl, ?_⟩; intro w hSw; (try dsimp only at hSw); go_simp; try with_reducible rfl)
          case hq9t12 => exact fun _ _ _ h => h
          try simp only [Act.put, List.setIfInBounds_toArray, List.set_cons_zero, List.set_cons_succ]
          refine wpAnyH_take (i := 10) (oi := ?oi10t12) (v := ?v10t12) ?hi10t12 (by kernel_rfl) (by kernel_rfl) (by kernel_rfl) ?hq10t12 ?hy10t12 (by assumption) ?rest10t12
          case hi10t12 => (simp only [List.getElem?_toArray, List.getElem?_cons_zero, List.getElem?_cons_succ]; rfl)
          case hy10t12 => (refine Or.inl ⟨by rfl, ?_⟩; intro w hSw; (try dsimp only at hSw); go_simp; try with_reducible rfl)
          case hq10t12 => exact fun _ _ _ h => h
          try simp only [Act.put, List.setIfInBounds_toArray, List.set_cons_zero, List.set_cons_succ]
          refine wpAnyH_take (i := 12) (oi := ?oi12y13) (v := ?v12y13) ?hi12y13 (by kernel_rfl) (by kernel_rfl) (by kernel_rfl) ?hq12y13 ?hy12y13 (by assumption) ?rest12y13
          case hi12y13 => (simp only [List.getElem?_toArray, List.getElem?_cons_zero, List.getElem?_cons_succ]; rfl)
          case hy12y13 => (refine Or.inl ⟨by rfl, ?_⟩; intro w hSw; (try dsimp only at hSw); go_simp; try with_reducible rfl)
          case hq12y13 => exact fun _ _ _ h => h
          try simp only [Act.put, List.setIfInBounds_toArray, List.set_cons_zero, List.set_cons_succ]
          refine wpAnyH_ready (rs := [13]) (by kernel_rfl) (by simp) ?_
          refine AllReadyH.cons (o := ?o13z13) ?ho13z13 (fun K hK => ?st13z13) ?mo13z13
          case ho13z13 => (simp only [List.getElem?_toArray, List.getElem?_cons_zero, List.getElem?_cons_succ]; rfl)
          case mo13z13 => exact AllReadyH.nil
          have HN := Lib.hid (nine_blk HDB.out r)
          obtain ⟨⟨c0, c1, c2, c3, c4, c5, c6, c7, c8⟩, q0, q1, q2, q3, q4, q5, q6, q7, q8⟩ := lv_cells0 HDB.out
          have hXN := (HXD.out.over HBB.out).chg HN.out.2 (by have := HDG.out; have := HSL.out; omega)
          have hS := And.intro (hXN.cell 0) (hXN.cell 1)
          have HFI := Lib.hid (each_fin HBX.out HBB.out HPK.out HN.out HDG.out HDB.out.isT)
          unfold nine at hS HFI
          go_simp
          refine hK.out _ _ hS (fun _ => ?_)
          clear hK K
          refine wpAnyH_done (by kernel_rfl) ?_ _
          go_wp2_with fail
          go_ret
          exact HFI.out
        exact AllReadyH.nil
      exact AllReadyH.nil
    refine AllReadyH.cons (o := ?o11o14) ?ho11o14 (fun K hK => ?st11o14) ?mo11o14
    case ho11o14 => (simp only [List.getElem?_toArray, List.getElem?_cons_zero, List.getElem?_cons_succ]; rfl)
    · skip
      obtain ⟨wv14, hw14⟩ : ∃ x, x = wv2.alloc (.cells #[.bool false, .bool false, .int .i64 0, .slice none 0 0, .int .i64 0, .int .u8 0, .int .u8 0, .int .u8 0, .int .u8 0] 87) := ⟨_, rfl⟩
      have hb14 : Below wv2.heap.size wv2 wv14 := by rw [hw14]; exact one_box' _ _
      have HDB : Hid (Blk wv14 wv2.heap.size 87 LV.zero.cells) := Lib.hid (by rw [hw14]; exact Blk.new _ _ _)
      have HDG : Hid (wd.heap.size ≤ wv2.heap.size) := Lib.hid HBB.out.size
      go_simp
      rw [← hw14]
      clear hw14
      replace HOa := Lib.hid (own_over HOa.out hb14)
      replace HBB := Lib.hid (Below.then HBB.out hb14)
      clear hb14
      refine hK.out _ _ (HSB.out _ HBB.out) (fun _ => ?_)
      clear hK K
      try simp only [Act.put, List.setIfInBounds_toArray, List.set_cons_zero, List.set_cons_succ]
      refine wpAnyH_ready (rs := [5]) (by kernel_rfl) (by simp) ?_
      refine AllReadyH.cons (o := ?o5o16) ?ho5o16 (fun K hK => ?st5o16) ?mo5o16
      case ho5o16 => (simp only [List.getElem?_toArray, List.getElem?_cons_zero, List.getElem?_cons_succ]; rfl)
      · skip
        have hnil : wv14.ownsRow wv14.heap.size 5 1 (.slice none 0 0) 0 [] := ⟨by simp, .inl ⟨rfl, rfl⟩⟩
        refine step_append_any _ (by rfl) _ _ 22 (by rfl) wv14.heap.size 5 i0 _ 1 1 u_bytes hi0 hz0 hz1 hz2 rfl (by omega) _ 0 [] (by rfl) hnil w.heap.size A1 f.b.length c1 (bvs f.b) (by rfl) (HR1.out _ (HBX.out.trans (HBB.out.mono HBX.out.size))) (bvs_one _) (by simp only [maxLen]; omega) (by omega) (Nat.le_refl _) ?_
        intro v16 wv16 ho16 hg16 _
        rw [Nat.zero_add, List.nil_append] at ho16
        obtain ⟨X16, e16, rfl, _, _⟩ := own_shape ho16
        have hb16 : Below wv14.heap.size wv14 wv16 := below_app hnil hg16 (Nat.le_refl _)
        have HOb := Lib.hid ho16
        have HLNb : Hid (f.b.length ≤ e16 ∧ e16 ≤ 9223372036854775807) := Lib.hid (own_len2 ho16)
        clear hnil ho16 hg16
        replace HOa := Lib.hid (own_over HOa.out hb16)
        replace HDB := Lib.hid (HDB.out.over hb16)
        replace HBB := Lib.hid (Below.then HBB.out hb16)
        clear hb16
        refine hK.out _ _ (HSB.out _ HBB.out) (fun _ => ?_)
        clear hK K
        try simp only [Act.put, List.setIfInBounds_toArray, List.set_cons_zero, List.set_cons_succ]
        refine wpAnyH_take (i := 6) (oi := ?oi6t16) (v := ?v6t16) ?hi6t16 (by kernel_rfl) (by kernel_rfl) (by kernel_rfl) ?hq6t16 ?hy6t16 (by assumption) ?rest6t16
        case hi6t16 => (simp only [List.getElem?_toArray, List.getElem?_cons_zero, List.getElem?_cons_succ]; rfl)
        case hy6t16 => (refine Or.inl ⟨by rfl, ?_⟩; intro w hSw; (try dsimp only at hSw); go_simp; try with_reducible rfl)
        case hq6t16 => exact fun _ _ _ h => h
        try simp only [Act.put, List.setIfInBounds_toArray, List.set_cons_zero, List.set_cons_succ]
        refine wpAnyH_ready (rs := [7]) (by kernel_rfl) (by simp) ?_
        refine AllReadyH.cons (o := ?o7o18) ?ho7o18 (fun K hK => ?st7o18) ?mo7o18
        case ho7o18 => (simp only [List.getElem?_toArray, List.getElem?_cons_zero, List.getElem?_cons_succ]; rfl)
        · skip
          have HP := Lib.hid (pick_any (w := wv16) (f := f) (Rd.of_own HOa.out) (Rd.of_own HOb.out) HLNa.out.1 HLNb.out.1 HLNa.out.2 HLNb.out.2 (HT.out.below (HBX.out.trans (HBB.out.mono HBX.out.size))))
          go_simp
          refine HP.out.mono ?_
          rintro _ wv18 hp18
          obtain ⟨kx, r, Kp, rfl, hb18, ho18, hm18, hr18⟩ := hp18.val
          have HPK : Hid (wv18.ownsK wd.heap.size r Kp f) := Lib.hid ⟨ho18.mono HBB.out.size, hm18, hr18⟩
          unfold LV.val
          clear hp18 ho18 hm18 hr18 HP
          go_simp
          replace HDB := Lib.hid (HDB.out.over hb18)
          replace HBB := Lib.hid (Below.then HBB.out hb18)
          clear hb18
          refine hK.out _ _ (HSB.out _ HBB.out) (fun _ => ?_)
          clear hK K
          try simp only [Act.put, List.setIfInBounds_toArray, List.set_cons_zero, List.set_cons_succ]
          refine wpAnyH_take (i := 8) (oi := ?oi8t18) (v := ?v8t18) ?hi8t18 (by kernel_rfl) (by kernel_rfl) (by kernel_rfl) ?hq8t18 ?hy8t18 (by assumption) ?rest8t18
          case hi8t18 => (simp only [List.getElem?_toArray, List.getElem?_cons_zero, List.getElem?_cons_succ]; rfl)
          case hy8t18 => (refine Or.inl ⟨by rfl, ?_⟩; intro w hSw; (try dsimp only at hSw); go_simp; try with_reducible rfl)
          case hq8t18 => exact fun _ _ _ h => h
          try simp only [Act.put, List.setIfInBounds_toArray, List.set_cons_zero, List.set_cons_succ]
          refine wpAnyH_take (i := 9) (oi := ?oi9t18) (v := ?v9t18) ?hi9t18 (by kernel_rfl) (by kernel_rfl) (by kernel_rfl) ?hq9t18 ?hy9t18 (by assumption) ?rest9t18
          case hi9t18 => (simp only [List.getElem?_toArray, List.getElem?_cons_zero, List.getElem?_cons_succ]; rfl)
          case hy9t18 => (refine Or.inl ⟨by rfl, ?_⟩; intro w hSw; (try dsimp only at hSw); go_simp; try with_reducible rfl)
          case hq9t18 => exact fun _ _ _ h => h
          try simp only [Act.put, List.setIfInBounds_toArray, List.set_cons_zero, List.set_cons_succ]
          refine wpAnyH_take (i := 10) (oi := ?oi10t18) (v := ?v10t18) ?hi10t18 (by kernel_rfl) (by kernel_rfl) (by kernel_rfl) ?hq10t18 ?hy10t18 (by assumption) ?rest10t18
          case hi10t18 => (simp only [List.getElem?_toArray, List.getElem?_cons_zero, List.getElem?_cons_succ]; rfl)
          case hy10t18 => (refine Or.inl ⟨by rfl, ?_⟩; intro w hSw; (try dsimp only at hSw); go_simp; try with_reducible rfl)
          case hq10t18 => exact fun _ _ _ h => h
          try simp only [Act.put, List.setIfInBounds_toArray, List.set_cons_zero, List.set_cons_succ]
          refine wpAnyH_take (i := 12) (oi := ?oi12y19) (v := ?v12y19) ?hi12y19 (by kernel_rfl) (by kernel_rfl) (by kernel_rfl) ?hq12y19 ?hy12y19 (by assumption) ?rest12y19
          case hi12y19 => (simp only [List.getElem?_toArray, List.getElem?_cons_zero, List.getElem?_cons_succ]; rfl)
          case hy12y19 => (refine Or.inl ⟨by rfl, ?_⟩; intro w hSw; (try dsimp only at hSw); go_simp; try with_reducible rfl)
          case hq12y19 => exact fun _ _ _ h => h
          try simp only [Act.put, List.setIfInBounds_toArray, List.set_cons_zero, List.set_cons_succ]
          refine wpAnyH_ready (rs := [13]) (by kernel_rfl) (by simp) ?_
          refine AllReadyH.cons (o := ?o13z19) ?ho13z19 (fun K hK => ?st13z19) ?mo13z19
          case ho13z19 => (simp only [List.getElem?_toArray, List.getElem?_cons_zero, List.getElem?_cons_succ]; rfl)
          case mo13z19 => exact AllReadyH.nil
          have HN := Lib.hid (nine_blk HDB.out r)
          obtain ⟨⟨c0, c1, c2, c3, c4, c5, c6, c7, c8⟩, q0, q1, q2, q3, q4, q5, q6, q7, q8⟩ := lv_cells0 HDB.out
          have hXN := (HXD.out.over HBB.out).chg HN.out.2 (by have := HDG.out; have := HSL.out; omega)
          have hS := And.intro (hXN.cell 0) (hXN.cell 1)
          have HFI := Lib.hid (each_fin HBX.out HBB.out HPK.out HN.out HDG.out HDB.out.isT)
          unfold nine at hS HFI
          go_simp
          refine hK.out _ _ hS (fun _ => ?_)
          clear hK K
          refine wpAnyH_done (by kernel_rfl) ?_ _
          go_wp2_with fail
          go_ret
          exact HFI.out
        exact AllReadyH.nil
      exact AllReadyH.nil
    exact AllReadyH.nil
  refine AllReadyH.cons (o := ?o11o20) ?ho11o20 (fun K hK => ?st11o20) ?mo11o20
  case ho11o20 => (simp only [List.getElem?_toArray, List.getElem?_cons_zero, List.getElem?_cons_succ]; rfl)
  · skip
    obtain ⟨wv20, hw20⟩ : ∃ x, x = wd.alloc (.cells #[.bool false, .bool false, .int .i64 0, .slice none 0 0, .int .i64 0, .int .u8 0, .int .u8 0, .int .u8 0, .int .u8 0] 87) := ⟨_, rfl⟩
    have hb20 : Below wd.heap.size wd wv20 := by rw [hw20]; exact one_box' _ _
    have HDB : Hid (Blk wv20 wd.heap.size 87 LV.zero.cells) := Lib.hid (by rw [hw20]; exact Blk.new _ _ _)
    have HDG : Hid (wd.heap.size ≤ wd.heap.size) := Lib.hid HBB.out.size
    go_simp
    rw [← hw20]
    clear hw20
    replace HBB := Lib.hid (Below.then HBB.out hb20)
    clear hb20
    refine hK.out _ _ (HSB.out _ HBB.out) (fun _ => ?_)
    clear hK K
    try simp only [Act.put, List.setIfInBounds_toArray, List.set_cons_zero, List.set_cons_succ]
    refine wpAnyH_ready (rs := [2]) (by kernel_rfl) (by simp) ?_
    refine AllReadyH.cons (o := ?o2o22) ?ho2o22 (fun K hK => ?st2o22) ?mo2o22
    case ho2o22 => (simp only [List.getElem?_toArray, List.getElem?_cons_zero, List.getElem?_cons_succ]; rfl)
    · skip
      have hnil : wv20.ownsRow wv20.heap.size 5 1 (.slice none 0 0) 0 [] := ⟨by simp, .inl ⟨rfl, rfl⟩⟩
      refine step_append_any _ (by rfl) _ _ 22 (by rfl) wv20.heap.size 5 i0 _ 1 1 u_bytes hi0 hz0 hz1 hz2 rfl (by omega) _ 0 [] (by rfl) hnil w.heap.size A0 f.a.length c0 (bvs f.a) (by rfl) (HR0.out _ (HBX.out.trans (HBB.out.mono HBX.out.size))) (bvs_one _) (by simp only [maxLen]; omega) (by omega) (Nat.le_refl _) ?_
      intro v22 wv22 ho22 hg22 _
      rw [Nat.zero_add, List.nil_append] at ho22
      obtain ⟨X22, e22, rfl, _, _⟩ := own_shape ho22
      have hb22 : Below wv20.heap.size wv20 wv22 := below_app hnil hg22 (Nat.le_refl _)
      have HOa := Lib.hid ho22
      have HLNa : Hid (f.a.length ≤ e22 ∧ e22 ≤ 9223372036854775807) := Lib.hid (own_len2 ho22)
      clear hnil ho22 hg22
      replace HDB := Lib.hid (HDB.out.over hb22)
      replace HBB := Lib.hid (Below.then HBB.out hb22)
      clear hb22
      refine hK.out _ _ (HSB.out _ HBB.out) (fun _ => ?_)
      clear hK K
      try simp only [Act.put, List.setIfInBounds_toArray, List.set_cons_zero, List.set_cons_succ]
      refine wpAnyH_ready (rs := [5]) (by kernel_rfl) (by simp) ?_
      refine AllReadyH.cons (o := ?o5o24) ?ho5o24 (fun K hK => ?st5o24) ?mo5o24
      case ho5o24 => (simp only [List.getElem?_toArray, List.getElem?_cons_zero, List.getElem?_cons_succ]; rfl)
      · skip
        have hnil : wv22.ownsRow wv22.heap.size 5 1 (.slice none 0 0) 0 [] := ⟨by simp, .inl ⟨rfl, rfl⟩⟩
        refine step_append_any _ (by rfl) _ _ 22 (by rfl) wv22.heap.size 5 i0 _ 1 1 u_bytes hi0 hz0 hz1 hz2 rfl (by omega) _ 0 [] (by rfl) hnil w.heap.size A1 f.b.length c1 (bvs f.b) (by rfl) (HR1.out _ (HBX.out.trans (HBB.out.mono HBX.out.size))) (bvs_one _) (by simp only [maxLen]; omega) (by omega) (Nat.le_refl _) ?_
        intro v24 wv24 ho24 hg24 _
        rw [Nat.zero_add, List.nil_append] at ho24
        obtain ⟨X24, e24, rfl, _, _⟩ := own_shape ho24
        have hb24 : Below wv22.heap.size wv22 wv24 := below_app hnil hg24 (Nat.le_refl _)
        have HOb := Lib.hid ho24
        have HLNb : Hid (f.b.length ≤ e24 ∧ e24 ≤ 9223372036854775807) := Lib.hid (own_len2 ho24)
        clear hnil ho24 hg24
        replace HOa := Lib.hid (own_over HOa.out hb24)
        replace HDB := Lib.hid (HDB.out.over hb24)
        replace HBB := Lib.hid (Below.then HBB.out hb24)
        clear hb24
        refine hK.out _ _ (HSB.out _ HBB.out) (fun _ => ?_)
        clear hK K
        try simp only [Act.put, List.setIfInBounds_toArray, List.set_cons_zero, List.set_cons_succ]
        refine wpAnyH_take (i := 6) (oi := ?oi6t24) (v := ?v6t24) ?hi6t24 (by kernel_rfl) (by kernel_rfl) (by kernel_rfl) ?hq6t24 ?hy6t24 (by assumption) ?rest6t24
        case hi6t24 => (simp only [List.getElem?_toArray, List.getElem?_cons_zero, List.getElem?_cons_succ]; rfl)
        case hy6t24 => (refine Or.inl ⟨by rfl, ?_⟩; intro w hSw; (try dsimp only at hSw); go_simp; try with_reducible rfl)
        case hq6t24 => exact fun _ _ _ h => h
        try simp only [Act.put, List.setIfInBounds_toArray, List.set_cons_zero, List.set_cons_succ]
        refine wpAnyH_ready (rs := [7]) (by kernel_rfl) (by simp) ?_
        refine AllReadyH.cons (o := ?o7o26) ?ho7o26 (fun K hK => ?st7o26) ?mo7o26
        case ho7o26 => (simp only [List.getElem?_toArray, List.getElem?_cons_zero, List.getElem?_cons_succ]; rfl)
        · skip
          have HP := Lib.hid (pick_any (w := wv24) (f := f) (Rd.of_own HOa.out) (Rd.of_own HOb.out) HLNa.out.1 HLNb.out.1 HLNa.out.2 HLNb.out.2 (HT.out.below (HBX.out.trans (HBB.out.mono HBX.out.size))))
          go_simp
          refine HP.out.mono ?_
          rintro _ wv26 hp26
          obtain ⟨kx, r, Kp, rfl, hb26, ho26, hm26, hr26⟩ := hp26.val
          have HPK : Hid (wv26.ownsK wd.heap.size r Kp f) := Lib.hid ⟨ho26.mono HBB.out.size, hm26, hr26⟩
          unfold LV.val
          clear hp26 ho26 hm26 hr26 HP
          go_simp
          replace HDB := Lib.hid (HDB.out.over hb26)
          replace HBB := Lib.hid (Below.then HBB.out hb26)
          clear hb26
          refine hK.out _ _ (HSB.out _ HBB.out) (fun _ => ?_)
          clear hK K
          try simp only [Act.put, List.setIfInBounds_toArray, List.set_cons_zero, List.set_cons_succ]
          refine wpAnyH_take (i := 8) (oi := ?oi8t26) (v := ?v8t26) ?hi8t26 (by kernel_rfl) (by kernel_rfl) (by kernel_rfl) ?hq8t26 ?hy8t26 (by assumption) ?rest8t26
          case hi8t26 => (simp only [List.getElem?_toArray, List.getElem?_cons_zero, List.getElem?_cons_succ]; rfl)
          case hy8t26 => (refine Or.inl ⟨by rfl, ?_⟩; intro w hSw; (try dsimp only at hSw); go_simp; try with_reducible rfl)
          case hq8t26 => exact fun _ _ _ h => h
          try simp only [Act.put, List.setIfInBounds_toArray, List.set_cons_zero, List.set_cons_succ]
          refine wpAnyH_take (i := 9) (oi := ?oi9t26) (v := ?v9t26) ?hi9t26 (by kernel_rfl) (by kernel_rfl) (by kernel_rfl) ?hq9t26 ?hy9t26 (by assumption) ?rest9t26
          case hi9t26 => (simp only [List.getElem?_toArray, List.getElem?_cons_zero, List.getElem?_cons_succ]; rfl)
          case hy9t26 => (refine Or.inl ⟨by rfl, ?_⟩; intro w hSw; (try dsimp only at hSw); go_simp; try with_reducible rfl)
          case hq9t26 => exact fun _ _ _ h => h
          try simp only [Act.put, List.setIfInBounds_toArray, List.set_cons_zero, List.set_cons_succ]
          refine wpAnyH_take (i := 10) (oi := ?oi10t26) (v := ?v10t26) ?hi10t26 (by kernel_rfl) (by kernel_rfl) (by kernel_rfl) ?hq10t26 ?hy10t26 (by assumption) ?rest10t26
          case hi10t26 => (simp only [List.getElem?_toArray, List.getElem?_cons_zero, List.getElem?_cons_succ]; rfl)
          case hy10t26 => (refine Or.inl ⟨by rfl, ?_⟩; intro w hSw; (try dsimp only at hSw); go_simp; try with_reducible rfl)
          case hq10t26 => exact fun _ _ _ h => h
          try simp only [Act.put, List.setIfInBounds_toArray, List.set_cons_zero, List.set_cons_succ]
          refine wpAnyH_take (i := 12) (oi := ?oi12y27) (v := ?v12y27) ?hi12y27 (by kernel_rfl) (by kernel_rfl) (by kernel_rfl) ?hq12y27 ?hy12y27 (by assumption) ?rest12y27
          case hi12y27 => (simp only [List.getElem?_toArray, List.getElem?_cons_zero, List.getElem?_cons_succ]; rfl)
          case hy12y27 => (refine Or.inl ⟨by rfl, ?_⟩; intro w hSw; (try dsimp only at hSw); go_simp; try with_reducible rfl)
          case hq12y27 => exact fun _ _ _ h => h
          try simp only [Act.put, List.setIfInBounds_toArray, List.set_cons_zero, List.set_cons_succ]
          refine wpAnyH_ready (rs := [13]) (by kernel_rfl) (by simp) ?_
          refine AllReadyH.cons (o := ?o13z27) ?ho13z27 (fun K hK => ?st13z27) ?mo13z27
          case ho13z27 => (simp only [List.getElem?_toArray, List.getElem?_cons_zero, List.getElem?_cons_succ]; rfl)
          case mo13z27 => exact AllReadyH.nil
          have HN := Lib.hid (nine_blk HDB.out r)
          obtain ⟨⟨c0, c1, c2, c3, c4, c5, c6, c7, c8⟩, q0, q1, q2, q3, q4, q5, q6, q7, q8⟩ := lv_cells0 HDB.out
          have hXN := (HXD.out.over HBB.out).chg HN.out.2 (by have := HDG.out; have := HSL.out; omega)
          have hS := And.intro (hXN.cell 0) (hXN.cell 1)
          have HFI := Lib.hid (each_fin HBX.out HBB.out HPK.out HN.out HDG.out HDB.out.isT)
          unfold nine at hS HFI
          go_simp
          refine hK.out _ _ hS (fun _ => ?_)
          clear hK K
          refine wpAnyH_done (by kernel_rfl) ?_ _
          go_wp2_with fail
          go_ret
          exact HFI.out
        exact AllReadyH.nil
      exact AllReadyH.nil
    exact AllReadyH.nil
  exact AllReadyH.nil
end Go.Proofs.YtpkdalpjfcopbaaDoor
