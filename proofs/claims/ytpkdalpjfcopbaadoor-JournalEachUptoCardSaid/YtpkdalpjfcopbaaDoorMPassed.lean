/-
  passed: a pass of a reader over what Each gave, that has enough at some number.
-/
import Derived.Test.YtpkdalpjfcopbaaDoorMGiven
namespace Go.Proofs.YtpkdalpjfcopbaaDoor
open Go.RowKit Go.Shelf
attribute [local go_sem] Oper.semAt_some
/-- A pass under way. -/
structure Pas (w : World) (f : Fls) (q : Nat) (pre : List Gv) (W : World) : Prop where
  ga : Gath w.heap.size (w.heap.size + 1) pre W
  ok : Blk W (w.heap.size + 1 + 1) 4 #[.bool true]
  en : Blk W w.heap.size 3 #[.int .i64 (q : Int)]
  rc : pre.map Gv.rc = (giveR f).take pre.length
  bw : Below w.heap.size w W
theorem pas_from {w : World} {f : Fls} {q B : Nat} (hB : w.heap.size ≤ B) : OwnFrom B (Pas w f q) := fun s W W' row hs hg hr => by
  have hc := Chg.of_grown hg
  exact ⟨gath_from _ _ _ _ hs.ga hg hr, (hc.block _ hs.ok.lt (isT_row hs.ok.isT hr)).trans hs.ok, (hc.block _ hs.en.lt (isT_row hs.en.isT hr)).trans hs.en, hs.rc, ownFrom_below (Nat.le_refl _) hB () _ _ _ hs.bw hg hr⟩
theorem own_alone {β : Type} {B : Nat} {I : β → World → Prop} {p : β → Prop} (h : OwnFrom B I) : OwnFrom B (fun s W => I s W ∧ p s) := fun s W W' row hs hg hr => ⟨h s W W' row hs.1 hg hr, hs.2⟩
/-- What a round is told of its record. -/
structure Rnd (w : World) (f : Fls) (pre : List Gv) (x : Gv) (W : World) (Bx : Nat) : Prop where
  blk : Blk W Bx 34 #[.int .i64 x.rc.kind, .slice x.A x.rc.body.length x.c]
  gt : w.heap.size + 1 + 1 < Bx
  at_ : (giveR f)[pre.length]? = some x.rc
  row : W.ownsRow x.lo 5 1 (.slice x.A x.rc.body.length x.c) x.rc.body.length (bvs x.rc.body)
  hi : ∀ g, x.rk.v.ownBlock = some g → g < x.hi
  lo : w.heap.size ≤ x.lo
  pr : ∀ y ∈ pre, y.hi ≤ x.lo
theorem rnd_from {w : World} {f : Fls} {pre : List Gv} {x : Gv} {B Bx : Nat} {W W' : World} {row : Option Nat} (h : Rnd w f pre x W Bx) (hg : W.grownBy W' row) (hr : ∀ r, row = some r → B ≤ r ∧ ∃ o : Obj, W.heap[r]? = some o ∧ o.isCells = false) : Rnd w f pre x W' Bx := by
  have hc := Chg.of_grown hg
  exact ⟨(hc.block Bx h.blk.lt (isT_row h.blk.isT hr)).trans h.blk, h.gt, h.at_, own_chg h.row hc fun g hg' => isT_row (own_isT h.row hg') hr, h.hi, h.lo, h.pr⟩
set_option maxRecDepth 100000 in
set_option maxHeartbeats 3200000 in
theorem passed_any {w : World} {fg base : Nat} {r : LV} {K : List Rk} {f : Fls} (hB : Blk w fg 87 (LV.cells r)) (hK : w.ownsK base r K f) (hlen : K.length ≤ 65536) (hbl : ∀ x ∈ giveR f, x.body.length ≤ 65536) (q : Nat) (hq : 1 ≤ q) (hq2 : q ≤ 9223372036854775807) :
    Calls Tryd.prog 13 #[.func (.func 47) #[] #[.pointer (some ⟨fg, 0, none⟩)], .int .i64 (q : Int)] w fun e W' => ∃ A c K', e = .returned (.tuple #[.slice A K'.length c, .bool true]) ∧ RcOwn W' w.heap.size (.slice A K'.length c) K' ∧ K'.map Rk.rc = (giveR f).take q ∧ Below w.heap.size w W' := by
  refine (callsIn_wide (n := 8)).1 ?_
  refine callsIn_of_wp_marks Tryd.func13 rfl trivial ?_ rfl
  simp only [Tryd.ntmps13, List.size_toArray, List.length_cons, List.length_nil, Nat.reduceAdd, Nat.reduceSub, Array.replicate_succ, Array.replicate_zero, List.push_toArray, List.append_toArray, List.nil_append, List.cons_append]
  gi_wp2
  obtain ⟨wa, hwa⟩ : ∃ wa, ((w.alloc (.cells #[.int .i64 (q : Int)] 3)).alloc (.cells #[.slice none 0 0] 25)).alloc (.cells #[.bool true] 4) = wa := ⟨_, rfl⟩
  rw [hwa]
  have hba : Below w.heap.size w wa := by rw [← hwa]; exact (((Below.refl _ w).alloc (Nat.le_refl _) _).alloc (by simp) _).alloc (by simp; omega) _
  have hsz : wa.heap.size = w.heap.size + 3 := by rw [← hwa]; simp
  have h0 : Pas w f q [] wa := by
    have b1 := Blk.new w 3 #[.int .i64 (q : Int)]
    have b2 := Blk.new (w.alloc (.cells #[.int .i64 (q : Int)] 3)) 25 #[.slice none 0 0]
    have b3 := Blk.new ((w.alloc (.cells #[.int .i64 (q : Int)] 3)).alloc (.cells #[.slice none 0 0] 25)) 4 #[.bool true]
    rw [World.size_alloc] at b2
    rw [World.size_alloc, World.size_alloc] at b3
    have hx := Below.then (one_box' (w.alloc (.cells #[.int .i64 (q : Int)] 3)) (.cells #[.slice none 0 0] 25)) (one_box' _ (.cells #[.bool true] 4))
    rw [← hwa]
    exact ⟨⟨⟨none, 0, b2.over (one_box' _ _), RcOwn.nil⟩, fun y hy => by cases hy⟩, b3, b1.over hx, rfl, hwa ▸ hba⟩
  clear hwa
  refine range_v (F := Fence.wide) rfl (by decide) (gf := 47) (lb := #[.pointer (some ⟨fg, 0, none⟩)]) rfl trivial (enters_of Tryd.func47 (by kernel_rfl) rfl)
    (encs := Gv.encs) (Kp := KpOf (fun k => base ≤ k ∧ k < w.heap.size)) (V := VGv (giveR f) w.heap.size) (S := SGv (giveR f)) (w0 := w) (each1_seq 7 hB hK (fun g h1 h2 => ⟨h1, h2⟩) hlen hbl) hba
    kpOf_t (kpOf_b (fun k h => by omega)) (fun _ => rfl)
    (fun pre W => Pas w f q pre W ∧ pre.length < q)
    (fun c pre W => Pas w f q pre W ∧ (c = .exit 0 ∧ pre.length = q))
    (own_alone (pas_from (by omega))) (fun c => own_alone (pas_from (by omega)))
    ⟨h0, hq⟩
    (fun pre x a' W => ∃ Bx, Rnd w f pre x W Bx ∧ a' = Act.mk #[.func (.func 47) #[] #[.pointer (some ⟨fg, 0, none⟩)], .int .i64 (q : Int), undef, .pointer (some ⟨w.heap.size, 0, none⟩), .slice none 0 0, .bool false, .pointer (some ⟨w.heap.size + 1, 0, none⟩), .pointer (some ⟨w.heap.size + 1 + 1, 0, none⟩), .int .i64 (pre.length : Int), .pointer (some ⟨Bx, 0, none⟩), .func (.func 47) #[] #[.pointer (some ⟨fg, 0, none⟩)], .int .i64 (pre.length : Int), .agg #[.int .i64 x.rc.kind, .slice x.A x.rc.body.length x.c], undef, undef, undef, undef, undef, undef, undef, undef, undef, undef, undef, undef, undef, undef, undef, undef, undef] [])
    (fun pre x a' s W W' row hs hg hr => ?_) ?assign ?body ?done ?stop
  · obtain ⟨Bx, h1, h2⟩ := hs
    exact ⟨Bx, rnd_from h1 hg hr, h2⟩
  case assign =>
    intro l pre x W K hi hv hKK
    simp only [Gv.encs]
    gi_wp2
    obtain ⟨hvi, hvr, hvo, hvh, hvl, hvp⟩ := hv
    rw [hvi]
    have hb1 := one_box' W (.cells #[.int .i64 x.rc.kind, .slice x.A x.rc.body.length x.c] 34)
    refine hKK _ _ ((KeepsOthers.alloc _ _).from _) (Chg.of_below hb1 _) ⟨(pas_from (B := w.heap.size) (Nat.le_refl _)).alloc _ hi.1, hi.2⟩ ⟨W.heap.size, ⟨Blk.new _ _ _, ?_, ?_, own_over hvo hb1, fun g hg => Nat.lt_of_lt_of_le (own_block_lt hvo hg).1 hvh, hvl, hvp⟩, rfl⟩
    · have := hi.1.ok.lt; exact this
    · rw [← hvi]; exact hvr
  case body =>
    rintro l pre x a' W ⟨⟨⟨⟨A, c, hG1, hG2⟩, hup⟩, hok, hen, hrc, hbw⟩, hpq⟩ ⟨Bx, hR, rfl⟩
    have HSZ := Lib.hid hsz
    clear hsz
    obtain ⟨i1, hi1, hr0, hr1, hr2⟩ := info_parts info_rec
    have hpl : pre.length ≤ 65536 := by
      have h1 := (List.getElem?_eq_some_iff.1 hR.at_).1
      have h2 := congrArg List.length hK.rc
      rw [List.length_map] at h2
      omega
    obtain ⟨W2, hW2⟩ : ∃ W2, W2 = W.setCell ⟨w.heap.size + 1 + 1, 0, none⟩ (.bool true) := ⟨_, rfl⟩
    have hc2 : Chg (fun k => k = w.heap.size + 1 + 1) W W2 := by rw [hW2]; exact (Chg.refl (fun k => k = w.heap.size + 1 + 1) W).setCell (p := ⟨w.heap.size + 1 + 1, 0, none⟩) (.inl rfl) _
    have hok2 : Blk W2 (w.heap.size + 1 + 1) 4 #[.bool true] := by rw [hW2]; exact hok.set_ 0 (.bool true)
    have hG12 : Blk W2 (w.heap.size + 1) 25 #[.slice A pre.length c] := hG1.chg hc2 (by omega)
    have hen2 : Blk W2 w.heap.size 3 #[.int .i64 (q : Int)] := hen.chg hc2 (by omega)
    have hX2 := hR.blk.chg hc2 (by have := hR.gt; omega)
    have off : ∀ {t g : Nat}, IsT W t g → t ≠ 4 → ¬ g = w.heap.size + 1 + 1 := fun ht hne e => by
      subst e
      exact hne (ht.eq_ hok.isT)
    have hG22 := hG2.walks hc2 (fun g h => off h (by decide)) (fun g h => off h (by decide))
    have hrow2 := own_chg hR.row hc2 fun g hg => off (own_isT hR.row hg) (by decide)
    have hs2 : W.heap.size ≤ W2.heap.size := hc2.size
    have hbw2 : Below w.heap.size w W2 := hbw.trans (hc2.to_below hbw.size fun k e => by omega)
    have hkf : KeepsFrom wa.heap.size W W2 := by rw [hW2]; exact (KeepsOthers.setCell _ _ _).from _
    have cg : (W.setCell ⟨w.heap.size + 1 + 1, 0, none⟩ (.bool true)).cell? ⟨w.heap.size + 1, 0, none⟩ = some (.slice A pre.length c) := by rw [← hW2]; exact hG12.cell 0
    have cg0 : W.cell? ⟨w.heap.size + 1, 0, none⟩ = some (.slice A pre.length c) := hG1.cell 0
    have co0 : W.cell? ⟨w.heap.size + 1 + 1, 0, none⟩ = some (.bool true) := hok.cell 0
    have fo0 : W.frozen? ⟨w.heap.size + 1 + 1, 0, none⟩ = false := hok.frozen 0
    have cx0 : (W.setCell ⟨w.heap.size + 1 + 1, 0, none⟩ (.bool true)).cell? ⟨Bx, 0, none⟩ = some (.int .i64 x.rc.kind) := by rw [← hW2]; exact hX2.cell 0
    have cx1 : (W.setCell ⟨w.heap.size + 1 + 1, 0, none⟩ (.bool true)).cell? ⟨Bx, 1, none⟩ = some (.slice x.A x.rc.body.length x.c) := by rw [← hW2]; exact hX2.cell 1
    have hro : W2.ownsRow w.heap.size 34 2 (.slice A pre.length c) pre.length (rowsK (pre.map Gv.rk)) := by
      have := hG22.own
      rwa [List.length_map] at this
    have hne : ¬ some (w.heap.size + 1) = (Value.slice A pre.length c).ownBlock := fun e => absurd ((own_isT hro e.symm).eq_ hG12.isT) (by decide)
    have hse : W2.heap.size = W.heap.size := by rw [hW2]; simp
    have HSE := Lib.hid hse
    have HW2 := Lib.hid hW2
    clear hse hW2
    gi_wp2_with (gi_at_builtin; rw [← HW2.out, ← HSE.out]; refine appNIn W2 (by rfl) _ _ 25 (by rfl) w.heap.size 34 i1 _ 2 32 u_recs hi1 hr0 hr1 hr2 rfl (by omega) _ pre.length _ (by rfl) hro #[.int .i64 x.rc.kind, .slice x.A x.rc.body.length x.c] rfl (by rfl) (by simp; exact ⟨rfl, rfl⟩) (by simp only [maxLen]; omega) (by omega) hbw2.size ?_; intro v' w' hov hbx hg; obtain ⟨A', c', rfl, _, _⟩ := own_shape hov; have hG3 : Blk w' (w.heap.size + 1) 25 #[.slice A pre.length c] := (hg.block _ hG12.lt hne).trans hG12; have cg3 : w'.cell? ⟨w.heap.size + 1, 0, none⟩ = some (.slice A pre.length c) := hG3.cell 0; have fg3 : w'.frozen? ⟨w.heap.size + 1, 0, none⟩ = false := hG3.frozen 0; have hen3 : Blk w' w.heap.size 3 #[.int .i64 (q : Int)] := (hg.block _ hen2.lt (fun e => absurd ((own_isT hro e.symm).eq_ hen2.isT) (by decide))).trans hen2; have ce3 : w'.cell? ⟨w.heap.size, 0, none⟩ = some (.int .i64 (q : Int)) := hen3.cell 0)
    all_goals
      have hgs := gath_step hG12 hG22 hrow2 hR.lo hup hR.pr (.inr hR.hi) hov hg
      have hk := step_keeps (B := wa.heap.size) hG12 hro hg (.slice A' (pre.length + 1) c')
      have hcs : Chg (fun k => k = w.heap.size + 1) w' (w'.setCell ⟨w.heap.size + 1, 0, none⟩ (.slice A' (pre.length + 1) c')) := (Chg.refl (fun k => k = w.heap.size + 1) w').setCell (p := ⟨w.heap.size + 1, 0, none⟩) (.inl rfl) _
      have hok3 : Blk w' (w.heap.size + 1 + 1) 4 #[.bool true] := (hg.block _ hok2.lt (fun e => absurd ((own_isT hro e.symm).eq_ hok2.isT) (by decide))).trans hok2
      have hkp : KpOf (fun k => base ≤ k ∧ k < w.heap.size) W (w'.setCell ⟨w.heap.size + 1, 0, none⟩ (.slice A' (pre.length + 1) c')) := by
        refine Chg.trans (hc2.mono fun k _ e h => by omega) (hk.2.mono fun k _ e h => ?_)
        rcases e with e | e
        · omega
        · have := (own_block_lt hro e.symm).2.1
          omega
      have hpas : Pas w f q (pre ++ [x]) (w'.setCell ⟨w.heap.size + 1, 0, none⟩ (.slice A' (pre.length + 1) c')) :=
        ⟨hgs, hok3.chg hcs (by omega), hen3.chg hcs (by omega), by rw [List.length_append]; exact take_next hrc hR.at_, (hbw2.trans hbx).setCell (by simp) _⟩
      have hle : (pre ++ [x]).length = pre.length + 1 := by simp
    · rename_i hh
      have hh2 := eq_of_beq hh
      exact ⟨hkf.trans hk.1, hpas, rfl, by omega⟩
    · rename_i hh
      have hh2 : ¬ pre.length + 1 = q := fun e => by
        have h3 := ne_of_beq_false hh
        omega
      exact ⟨hkf.trans hk.1, hkp, hpas, by omega⟩
  case done =>
    rintro D xs W hD hS ⟨hP, hlt⟩ hd
    obtain ⟨⟨A, c, hG1, hG2⟩, hup⟩ := hP.ga
    have cg : W.cell? ⟨w.heap.size + 1, 0, none⟩ = some (.slice A xs.length c) := hG1.cell 0
    have co : W.cell? ⟨w.heap.size + 1 + 1, 0, none⟩ = some (.bool true) := hP.ok.cell 0
    gi_wp2
    gi_region
    gi_wp2
    have hd2 : W.drew.heap[D]? = some (.deferred (some [])) := hd
    have hrc : xs.map Gv.rc = (giveR f).take q := by
      have h1 : xs.map Gv.rc = giveR f := hS
      have h2 := congrArg List.length h1
      rw [List.length_map] at h2
      rw [h1, List.take_of_length_le (by omega)]
    refine ⟨by simp, .inl ⟨_, _, rfl, run_takeDeferred hd2, ?_⟩⟩
    have hw := hG2.walks (w' := W.drew.putObj D (.deferred none)) (Chg.trans ((Chg.of_below (below_drewN (Below.refl _ W) 1) (fun k => some k = some D))) (Chg.of_grown (grownBy_putObj' W.drew D (.deferred none)))) (fun g h => isT_row (B := 0) h fun r e => by cases e; exact ⟨Nat.zero_le _, _, hd, rfl⟩) (fun g h => isT_row (B := 0) h fun r e => by cases e; exact ⟨Nat.zero_le _, _, hd, rfl⟩)
    refine ⟨_, results_tmp2 rfl _ _ _, A, c, xs.map Gv.rk, ?_, ?_, ?_, (hP.bw.trans ((below_drewN (Below.refl _ W) 1).mono hP.bw.size)).trans (belowK_b (w := w) (Nat.le_refl _) W.drew D _ _ (Nat.le_trans hba.size hD) hd2 rfl rfl)⟩
    · simp
    · rw [List.length_map]
      exact hw
    · rw [List.map_map]
      exact hrc
  case stop =>
    rintro D _ xs W hD ⟨hP, rfl, hlq⟩ hd
    obtain ⟨⟨A, c, hG1, hG2⟩, hup⟩ := hP.ga
    have cg : W.cell? ⟨w.heap.size + 1, 0, none⟩ = some (.slice A xs.length c) := hG1.cell 0
    have co : W.cell? ⟨w.heap.size + 1 + 1, 0, none⟩ = some (.bool true) := hP.ok.cell 0
    gi_wp2
    gi_region
    gi_wp2
    have hd2 : W.drew.heap[D]? = some (.deferred (some [])) := hd
    have hrc : xs.map Gv.rc = (giveR f).take q := by rw [hP.rc, hlq]
    refine ⟨by simp, .inl ⟨_, _, rfl, run_takeDeferred hd2, ?_⟩⟩
    have hw := hG2.walks (w' := W.drew.putObj D (.deferred none)) (Chg.trans ((Chg.of_below (below_drewN (Below.refl _ W) 1) (fun k => some k = some D))) (Chg.of_grown (grownBy_putObj' W.drew D (.deferred none)))) (fun g h => isT_row (B := 0) h fun r e => by cases e; exact ⟨Nat.zero_le _, _, hd, rfl⟩) (fun g h => isT_row (B := 0) h fun r e => by cases e; exact ⟨Nat.zero_le _, _, hd, rfl⟩)
    refine ⟨_, results_tmp2 rfl _ _ _, A, c, xs.map Gv.rk, ?_, ?_, ?_, (hP.bw.trans ((below_drewN (Below.refl _ W) 1).mono hP.bw.size)).trans (belowK_b (w := w) (Nat.le_refl _) W.drew D _ _ (Nat.le_trans hba.size hD) hd2 rfl rfl)⟩
    · simp [hlq]
    · rw [List.length_map]
      exact hw
    · rw [List.map_map]
      exact hrc
end Go.Proofs.YtpkdalpjfcopbaaDoor
