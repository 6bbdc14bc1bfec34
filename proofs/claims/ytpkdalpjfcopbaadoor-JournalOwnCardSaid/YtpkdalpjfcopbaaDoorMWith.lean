/-
  with: the desk's disk with other bytes in its present file. And: given: the records that a disk gives, gathered out of the function that Each makes.
-/
import Derived.Test.YtpkdalpjfcopbaaDoorMIter
import Derived.Maps.AppendAt
import Derived.Test.YtpkdalpjfcopbaaDoorMDeskW
namespace Go.Proofs.YtpkdalpjfcopbaaDoor
open Go.RowKit Go.Shelf
attribute [local go_sem] Oper.semAt_some
/-- One more of a row's things, within a fence. -/
theorem appNIn {F : Fence} {m : Nat} {P : Program} {ops : Array Oper} {rest : List Oper} {o : Oper} {a : Act} {Q : Exit → Act → World → Prop} (W : World) (hgd : o.guard = none) (s x : Operand) (t : TypeId)
    (ho : o.op = .call { callee := .builtin .append, args := #[s, x], argTypes := #[t, t] })
    (base : Nat) (e : TypeId) (i : TypeInfo) (z : Value) (size bytes : Nat) (ht : P.underlying t = some (.slice e)) (hi : P.info? e = some i) (hz : i.zero = some z)
    (hsize : i.size = size) (hby : i.bytes = bytes) (hzs : z.cells.size = size) (hsz : 0 < size)
    (v : Value) (n : Nat) (xs : List Value) (hs : a.eval s = v) (hown : W.ownsRow base e size v n xs)
    (us : Array Value) (hu : us.size = size) (hx : a.eval x = .slice (some ⟨W.heap.size, 0, none⟩) 1 1) (h1 : ∀ u ∈ us.toList, u.oneCell' = true)
    (h63 : n + 1 ≤ maxLen) (hbytes : (n + 1) * bytes ≤ 140737488355328) (hbase : base ≤ W.heap.size)
    (h : ∀ v' w', w'.ownsRow base e size v' (n + 1) (xs ++ us.toList) → Below base W w' → W.grownBy w' v.ownBlock → wpListIn F m P ops Q rest (a.put o.dst v') w') :
    wpListIn F m P ops Q (o :: rest) a (W.alloc (.cells us e)) := by
  have hown2 : (W.alloc (.cells us e)).ownsRow base e size v n xs := hown.alloc _
  refine wpListIn_append_own (P := P) _ hgd s x t ho base e i z size bytes ht hi hz hsize hby hzs hsz v n xs hs hown2 ⟨W.heap.size, 0, none⟩ 1 1 us.toList hx (by simp [hu]) ?_ h1 h63 hbytes (by simp; omega) ?_
  · intro j y hj
    rw [addr_add, Nat.zero_add, (Blk.new W e us).cell j, ← Array.getElem?_toList]
    exact hj
  · intro v' w' h2 h3 _
    have hal : W.grownBy (W.alloc (.cells us e)) v.ownBlock := ⟨rfl, rfl, rfl, by simp, fun k hk _ => Below.heap_alloc _ _ _ hk⟩
    exact h v' w' h2 (((Below.refl _ _).alloc hbase _).trans (below_app hown2 h3 (by simp; omega)))
      ⟨h3.os.trans hal.os, h3.tape.trans hal.tape, h3.output.trans hal.output, Nat.le_trans hal.size h3.size, fun k hk hn => (h3.block k (by simp; omega) hn).trans (hal.block k hk hn)⟩
def Gv.rk (x : Gv) : Rk := ⟨x.rc, .slice x.A x.rc.body.length x.c⟩
theorem RcOwn.walks {w w' : World} {base : Nat} {v : Value} {K : List Rk} {S : Nat → Prop} (h : RcOwn w base v K) (hc : Chg S w w') (h1 : ∀ g, IsT w 34 g → ¬ S g) (h2 : ∀ g, IsT w 5 g → ¬ S g) : RcOwn w' base v K :=
  ⟨own_chg h.own hc fun g hg => h1 g (own_isT h.own hg), fun k r hk => own_chg (h.bod k r hk) hc fun g hg => h2 g (own_isT (h.bod k r hk) hg), h.pw⟩
/-- What has been gathered by then. -/
structure Gath (b0 Bl : Nat) (pre : List Gv) (W : World) : Prop where
  ex : ∃ A c, Blk W Bl 25 #[.slice A pre.length c] ∧ RcOwn W b0 (.slice A pre.length c) (pre.map Gv.rk)
  up : ∀ y ∈ pre, ∀ g, y.rk.v.ownBlock = some g → g < y.hi
theorem isT_row {W : World} {t : TypeId} {g : Nat} {row : Option Nat} {B : Nat} (h : IsT W t g) (hr : ∀ r, row = some r → B ≤ r ∧ ∃ o, W.heap[r]? = some o ∧ o.isCells = false) : ¬ some g = row := fun e => by
  obtain ⟨_, o, h1, h2⟩ := hr g e.symm
  obtain ⟨cs, fz, h3⟩ := h
  rw [h3, Option.some.injEq] at h1
  subst h1
  cases h2
theorem gath_from {B b0 Bl : Nat} : OwnFrom B (Gath b0 Bl) := fun s W W' row hs hg hr => by
  obtain ⟨⟨A, c, h1, h2⟩, hu⟩ := hs
  have hc := Chg.of_grown hg
  exact ⟨⟨A, c, (hc.block Bl h1.lt (isT_row h1.isT hr)).trans h1, h2.walks hc (fun g h => isT_row h hr) (fun g h => isT_row h hr)⟩, hu⟩
theorem gath_step {b0 Bl : Nat} {pre : List Gv} {x : Gv} {W w' : World} {v v' : Value} (hb : Blk W Bl 25 #[v]) (h : RcOwn W b0 v (pre.map Gv.rk)) (hx : W.ownsRow x.lo 5 1 (.slice x.A x.rc.body.length x.c) x.rc.body.length (bvs x.rc.body)) (hlo : b0 ≤ x.lo)
    (hup : ∀ y ∈ pre, ∀ g, y.rk.v.ownBlock = some g → g < y.hi) (hpre : ∀ y ∈ pre, y.hi ≤ x.lo) (hxh : W.heap.size ≤ x.hi ∨ ∀ g, x.rk.v.ownBlock = some g → g < x.hi)
    (hov : w'.ownsRow b0 34 2 v' (pre.length + 1) (rowsK (pre.map Gv.rk) ++ [.int .i64 x.rc.kind, .slice x.A x.rc.body.length x.c])) (hg : W.grownBy w' v.ownBlock) : Gath b0 Bl (pre ++ [x]) (w'.setCell ⟨Bl, 0, none⟩ v') := by
  have hs := RcOwn.snoc (x := x.rk) h (Chg.of_grown hg) (by rw [List.length_map]; exact hov) (own_base hx hlo) (fun k r g hk hr hx' => by
    rw [List.getElem?_map, Option.map_eq_some_iff] at hk
    obtain ⟨y, hy, rfl⟩ := hk
    have hm := List.mem_of_getElem? hy
    have h1 := hup y hm g hr
    have h2 := hpre y hm
    have h3 := (own_block_lt hx hx').2.1
    omega)
  have hne : ¬ some Bl = v.ownBlock := fun e => by
    have := (own_isT h.own e.symm).eq_ hb.isT
    exact absurd this (by decide)
  have hb' : Blk w' Bl 25 #[v] := (hg.block Bl hb.lt hne).trans hb
  have hc : Chg (fun k => k = Bl) w' (w'.setCell ⟨Bl, 0, none⟩ v') := Chg.setCell (S := fun k => k = Bl) (Chg.refl _ _) (.inl rfl) _
  obtain ⟨A, c, rfl, _, _⟩ := own_shape hov
  refine ⟨⟨A, c, ?_, ?_⟩, fun y hy g hg' => ?_⟩
  · rw [List.length_append]
    exact hb'.set_ 0 _
  · rw [List.map_append, List.length_append]
    refine RcOwn.walks hs hc (fun g h e => ?_) (fun g h e => ?_)
    · exact absurd (h.eq_ (e ▸ hb'.isT)) (by decide)
    · exact absurd (h.eq_ (e ▸ hb'.isT)) (by decide)
  · rcases List.mem_append.1 hy with hy | hy
    · exact hup y hy g hg'
    · obtain rfl : y = x := by simpa using hy
      rcases hxh with h1 | h1
      · have := (own_block_lt hx hg').1
        omega
      · exact h1 g hg'
theorem step_keeps {B b0 Bl n : Nat} {W w' : World} {v : Value} {cs : Array Value} {t e : TypeId} {xs : List Value} {sz : Nat} (hb : Blk W Bl t cs) (ho : W.ownsRow b0 e sz v n xs) (hg : W.grownBy w' v.ownBlock) (v' : Value) :
    KeepsFrom B W (w'.setCell ⟨Bl, 0, none⟩ v') ∧ Chg (fun k => k = Bl ∨ some k = v.ownBlock) W (w'.setCell ⟨Bl, 0, none⟩ v') := by
  have hc : Chg (fun k => k = Bl ∨ some k = v.ownBlock) W (w'.setCell ⟨Bl, 0, none⟩ v') := Chg.setCell (Chg.mono (Chg.of_grown hg) fun k _ h => .inr h) (.inl (.inl rfl)) _
  refine ⟨⟨hc.size, fun k o _ h1 h2 => ?_⟩, hc⟩
  refine (hc.block k (Array.getElem?_eq_some_iff.1 h1).1 ?_).trans h1
  rintro (rfl | e1)
  · have h3 : W.heap[k]? = _ := hb
    rw [h3, Option.some.injEq] at h1
    subst h1
    cases h2
  · obtain ⟨ds, fz, h3⟩ := own_isT ho e1.symm
    rw [h3, Option.some.injEq] at h1
    subst h1
    cases h2
set_option maxRecDepth 100000 in
set_option maxHeartbeats 3200000 in
/-- The records that a disk gives. -/
theorem given_any {w : World} {f : Fls} {A0 A1 : Option Addr} {c0 c1 : Nat} (hR0 : RdB w w.heap.size A0 f.a.length f.a) (hR1 : RdB w w.heap.size A1 f.b.length f.b) (h0 : f.a.length ≤ 140737488351232) (h1 : f.b.length ≤ 140737488351232) (hnib : Nibs w) (hcount : (giveR f).length ≤ 65536) (hbl : ∀ x ∈ giveR f, x.body.length ≤ 65536) :
    Calls Tryd.prog 38 #[.agg #[.slice A0 f.a.length c0, .slice A1 f.b.length c1]] w fun e W' => ∃ A c K, e = .returned (.slice A K.length c) ∧ RcOwn W' w.heap.size (.slice A K.length c) K ∧ K.map Rk.rc = giveR f ∧ Below w.heap.size w W' := by
  refine (callsIn_wide (n := 8)).1 ?_
  refine callsIn_of_wp_marks Tryd.func38 rfl trivial ?_ rfl
  simp only [Tryd.ntmps38, List.size_toArray, List.length_cons, List.length_nil, Nat.reduceAdd, Nat.reduceSub, Array.replicate_succ, Array.replicate_zero, List.push_toArray, List.append_toArray, List.nil_append, List.cons_append]
  gi_wp2
  obtain ⟨wa, hwa⟩ : ∃ wa, (w.alloc (.cells #[.slice A0 f.a.length c0, .slice A1 f.b.length c1] 24)).alloc (.cells #[.slice none 0 0] 25) = wa := ⟨_, rfl⟩
  rw [hwa]
  have hba : Below w.heap.size w wa := by rw [← hwa]; exact ((Below.refl _ w).alloc (Nat.le_refl _) _).alloc (by simp) _
  have hBl : Blk wa (w.heap.size + 1) 25 #[.slice none 0 0] := by
    have h := Blk.new (w.alloc (.cells #[.slice A0 f.a.length c0, .slice A1 f.b.length c1] 24)) 25 #[.slice none 0 0]
    rw [World.size_alloc] at h
    rw [← hwa]
    exact h
  have hsz : wa.heap.size = w.heap.size + 2 := by rw [← hwa]; simp
  clear hwa
  refine ⟨trivial, (callsIn_wide.2 (Each_any (hR0.over hba) (hR1.over hba) h0 h1 (hnib.below hba))).mono ?_⟩
  rintro e we ⟨fg, r, K, rfl, hB, hfg, hK, hbe⟩
  have hBl := hBl.over hbe
  have hbw : Below w.heap.size w we := hba.trans (hbe.mono hba.size)
  clear hR0 hR1 hnib hba
  gi_wp2
  have hq : ∀ (W : World), (binOp BinOp.eql 28 (Value.func (Fn.func 47) #[] #[Value.pointer (some ⟨fg, 0, none⟩)]) Value.nilFunc).run Tryd.prog W = .ok (.bool false) W := fun _ => by kernel_rfl
  rw [hq]
  gi_wp2
  clear hq
  have hlen : K.length ≤ 65536 := by
    have := congrArg List.length hK.rc
    rw [List.length_map] at this
    omega
  refine range_v (F := Fence.wide) rfl (by decide) (gf := 47) (lb := #[.pointer (some ⟨fg, 0, none⟩)]) rfl trivial (enters_of Tryd.func47 (by kernel_rfl) rfl)
    (encs := Gv.encs) (Kp := KpOf (fun k => wa.heap.size ≤ k ∧ k < we.heap.size)) (V := VGv (giveR f) we.heap.size) (S := SGv (giveR f)) (w0 := we) (each1_seq 7 hB hK (fun g h1 h2 => ⟨h1, h2⟩) hlen hbl) (Below.refl _ _)
    kpOf_t (kpOf_b (fun k h => h.2)) (fun _ => rfl)
    (fun pre W => Gath we.heap.size (w.heap.size + 1) pre W ∧ Below w.heap.size w W ∧ we.heap.size ≤ W.heap.size)
    (fun _ _ _ => False)
    (OwnFrom.and gath_from (OwnFrom.and (ownFrom_below (Nat.le_refl _) hbw.size) (fun _ _ _ _ h hg _ => Nat.le_trans h hg.size))) (fun _ _ _ _ _ h _ _ => h)
    ⟨⟨⟨none, 0, hBl, RcOwn.nil⟩, fun y hy => by cases hy⟩, hbw, Nat.le_refl _⟩
    (fun pre x a' W => (∃ Bx, Blk W Bx 34 #[.int .i64 x.rc.kind, .slice x.A x.rc.body.length x.c] ∧ w.heap.size + 1 < Bx ∧ a' = Act.mk #[.agg #[.slice A0 f.a.length c0, .slice A1 f.b.length c1], .pointer (some ⟨w.heap.size, 0, none⟩), .slice none 0 0, .pointer (some ⟨w.heap.size + 1, 0, none⟩), .func (.func 47) #[] #[.pointer (some ⟨fg, 0, none⟩)], undef, .pointer (some ⟨Bx, 0, none⟩), .agg #[.slice A0 f.a.length c0, .slice A1 f.b.length c1], .func (.func 47) #[] #[.pointer (some ⟨fg, 0, none⟩)], .func (.func 47) #[] #[.pointer (some ⟨fg, 0, none⟩)], .bool false, undef, .func (.func 47) #[] #[.pointer (some ⟨fg, 0, none⟩)], .int .i64 (x.i : Int), .agg #[.int .i64 x.rc.kind, .slice x.A x.rc.body.length x.c], undef, undef, undef, undef, undef] []) ∧
      x.rc ∈ giveR f ∧ pre.length < (giveR f).length ∧ W.ownsRow x.lo 5 1 (.slice x.A x.rc.body.length x.c) x.rc.body.length (bvs x.rc.body) ∧ (∀ g, x.rk.v.ownBlock = some g → g < x.hi) ∧ we.heap.size ≤ x.lo ∧ ∀ y ∈ pre, y.hi ≤ x.lo)
    (fun pre x a' s W W' row hs hg hr => ?_) ?assign ?body ?done ?stop
  · obtain ⟨⟨Bx, h1, h2, h3⟩, h4, h5, h6, h7⟩ := hs
    have hc := Chg.of_grown hg
    exact ⟨⟨Bx, (hc.block Bx h1.lt (isT_row h1.isT hr)).trans h1, h2, h3⟩, h4, h5, own_chg h6 hc (fun g h => isT_row (own_isT h6 h) hr), h7⟩
  case assign =>
    intro l pre x W K hi hv hKK
    simp only [Gv.encs]
    gi_wp2
    obtain ⟨hvi, hvr, hvo, hvh, hvl, hvp⟩ := hv
    refine hKK _ _ ((KeepsOthers.alloc _ _).from _) (Chg.of_below ((Below.refl _ W).alloc (Nat.le_refl _) _) _) ⟨gath_from.alloc (B := 0) _ hi.1, hi.2.1.alloc hi.2.1.size _, Nat.le_trans hi.2.2 (by simp)⟩ ⟨⟨W.heap.size, Blk.new _ _ _, ?_, rfl⟩, List.mem_of_getElem? hvr, ?_, own_chg hvo (Chg.of_below ((Below.refl _ W).alloc (Nat.le_refl _) _) (fun _ => False)) (fun _ _ h => h), fun g hg => Nat.lt_of_lt_of_le (own_block_lt hvo hg).1 hvh, hvl, hvp⟩
    · obtain ⟨A, c, h, _⟩ := hi.1.ex
      exact h.lt
    · rw [← hvi]
      exact (List.getElem?_eq_some_iff.1 hvr).1
  case body =>
    rintro l pre x a' W ⟨⟨⟨A, c, hG1, hG2⟩, hup⟩, hbW, hsW⟩ ⟨⟨Bx, hX, hXl, rfl⟩, hmem, hcn, hrow, hxh, hlo, hpre⟩
    obtain ⟨i1, hi1, hr0, hr1, hr2⟩ := info_parts info_rec
    have cg : W.cell? ⟨w.heap.size + 1, 0, none⟩ = some (.slice A pre.length c) := hG1.cell 0
    have cx0 : W.cell? ⟨Bx, 0, none⟩ = some (.int .i64 x.rc.kind) := hX.cell 0
    have cx1 : W.cell? ⟨Bx, 1, none⟩ = some (.slice x.A x.rc.body.length x.c) := hX.cell 1
    have hro : W.ownsRow we.heap.size 34 2 (.slice A pre.length c) pre.length (rowsK (pre.map Gv.rk)) := by
      have := hG2.own
      rwa [List.length_map] at this
    have hne : ¬ some (w.heap.size + 1) = (Value.slice A pre.length c).ownBlock := fun e => absurd ((own_isT hro e.symm).eq_ hG1.isT) (by decide)
    gi_wp2_with (gi_at_builtin; refine appNIn W (by rfl) _ _ 25 (by rfl) we.heap.size 34 i1 _ 2 32 u_recs hi1 hr0 hr1 hr2 rfl (by omega) _ pre.length _ (by rfl) hro #[.int .i64 x.rc.kind, .slice x.A x.rc.body.length x.c] rfl (by rfl) (by simp; exact ⟨rfl, rfl⟩) (by simp only [maxLen]; omega) (by omega) hsW ?_; intro v' w' hov hbx hg; obtain ⟨A', c', rfl, _, _⟩ := own_shape hov; have hG3 : Blk w' (w.heap.size + 1) 25 #[.slice A pre.length c] := (hg.block _ hG1.lt hne).trans hG1; have cg3 : w'.cell? ⟨w.heap.size + 1, 0, none⟩ = some (.slice A pre.length c) := hG3.cell 0; have fg3 : w'.frozen? ⟨w.heap.size + 1, 0, none⟩ = false := hG3.frozen 0)
    have hgs := gath_step hG1 hG2 hrow hlo hup hpre (.inr hxh) hov hg
    have hk := step_keeps (B := we.heap.size) hG1 hro hg (.slice A' (pre.length + 1) c')
    refine ⟨hk.1, hk.2.mono fun k hk1 hk2 hk3 => ?_, hgs, (hbW.trans (hbx.mono ?_)).setCell (by simp) _, ?_⟩
    · rcases hk2 with rfl | e
      · omega
      · have := (own_block_lt hro e.symm).2.1
        omega
    · exact hbw.size
    · exact Nat.le_trans hsW (Nat.le_trans hg.size (by simp))
  case done =>
    rintro D xs W hD hS ⟨⟨⟨A, c, hG1, hG2⟩, hup⟩, hbW, hsW⟩ hd
    have cg : W.cell? ⟨w.heap.size + 1, 0, none⟩ = some (.slice A xs.length c) := hG1.cell 0
    gi_wp2
    refine ⟨by simp, .inl ⟨_, _, rfl, run_takeDeferred hd, ?_⟩⟩
    have hw := hG2.walks (Chg.of_grown (grownBy_putObj' W D (.deferred none))) (fun g h => isT_row (B := 0) h fun r e => by cases e; exact ⟨Nat.zero_le _, _, hd, rfl⟩) (fun g h => isT_row (B := 0) h fun r e => by cases e; exact ⟨Nat.zero_le _, _, hd, rfl⟩)
    refine ⟨_, results_tmp rfl _ _ _, A, c, xs.map Gv.rk, by simp, ?_, ?_, hbW.trans (belowK_b (w := w) (Nat.le_refl _) W D _ _ (Nat.le_trans hbw.size hD) hd rfl rfl)⟩
    · rw [List.length_map]
      exact hw.mono hbw.size
    · rw [List.map_map]
      exact hS
  case stop =>
    rintro D c pre W _ h _
    exact h.elim
end Go.Proofs.YtpkdalpjfcopbaaDoor
namespace Go.Proofs.YtpkdalpjfcopbaaDoor
open Go.RowKit
/-- What a disk gives is of a bounded size. -/
theorem giveR_le (f : Fls) : (giveR f).length ≤ 65536 ∧ ∀ x ∈ giveR f, x.body.length ≤ 65536 := by
  unfold giveR
  cases hp : pickR f with
  | none => exact ⟨by simp, fun x hx => by cases hx⟩
  | some y =>
    obtain ⟨k, x⟩ := y
    obtain ⟨_, ht, _⟩ := pickR_told hp
    have h1 := congrArg List.length ht.text
    rw [textB_length, List.length_take] at h1
    have h2 := bodies_le x.recs
    have h3 := ht.hi
    have h4 := ht.len
    refine ⟨by dsimp only; omega, fun r hr => ?_⟩
    have hk : 1 ≤ r.kind ∧ r.kind ≤ 4 ∧ r.body.length ≤ 4200 := by simpa [Rc.ok] using ht.ok r hr
    omega
/-- given, whatever the disk. -/
theorem given_all {w : World} {f : Fls} {A0 A1 : Option Addr} {c0 c1 : Nat} (hR0 : RdB w w.heap.size A0 f.a.length f.a) (hR1 : RdB w w.heap.size A1 f.b.length f.b) (h0 : f.a.length ≤ 140737488351232) (h1 : f.b.length ≤ 140737488351232) (hnib : Nibs w) :
    Calls Tryd.prog 38 #[.agg #[.slice A0 f.a.length c0, .slice A1 f.b.length c1]] w fun e W' => ∃ A c K, e = .returned (.slice A K.length c) ∧ RcOwn W' w.heap.size (.slice A K.length c) K ∧ K.map Rk.rc = giveR f ∧ Below w.heap.size w W' :=
  given_any hR0 hR1 h0 h1 hnib (giveR_le f).1 (giveR_le f).2
set_option maxRecDepth 100000 in
set_option maxHeartbeats 3200000 in
theorem with_any {w : World} {tg jg : Nat} {A0 A1 : Option Addr} {n0 c0 n1 c1 : Nat} {vb : Value} {file : Nat} (hB : Blk w tg 63 #[.pointer (some ⟨jg, 0, none⟩), .slice A0 n0 c0, .slice A1 n1 c1, vb, .int .i64 (file : Int)]) (C : Option Addr) (n c : Nat) :
    Calls Tryd.prog 43 #[.pointer (some ⟨tg, 0, none⟩), .slice C n c] w fun e w' => e = .returned (.agg (if file = 0 then #[.slice C n c, .slice A1 n1 c1] else #[.slice A0 n0 c0, .slice C n c])) ∧ Below w.heap.size w w' := by
  have p1 : w.cell? ⟨tg, 1, none⟩ = some (.slice A0 n0 c0) := hB.cell 1
  have p2 : w.cell? ⟨tg, 2, none⟩ = some (.slice A1 n1 c1) := hB.cell 2
  have p4 : w.cell? ⟨tg, 4, none⟩ = some (.int .i64 (file : Int)) := hB.cell 4
  have hlt := hB.lt
  by_cases hf : file = 0
  · subst hf
    go_enter Tryd.func43, Tryd.ntmps43
    go_wp2
    have hN := Blk.new w 24 #[.slice C n c, .slice A1 n1 c1]
    have y0 : (w.alloc (.cells #[.slice C n c, .slice A1 n1 c1] 24)).cell? ⟨w.heap.size, 0, none⟩ = some (.slice C n c) := hN.cell 0
    have y1 : (w.alloc (.cells #[.slice C n c, .slice A1 n1 c1] 24)).cell? ⟨w.heap.size, 1, none⟩ = some (.slice A1 n1 c1) := hN.cell 1
    exact bodyPost_ret (v := .agg #[.slice C n c, .slice A1 n1 c1]) (by simp [results, Tryd.results43, y0, y1, go_sem]) rfl ⟨rfl, one_box' _ _⟩
  · have hf2 : ((file : Int) == 0) = false := by simpa using hf
    go_enter Tryd.func43, Tryd.ntmps43
    go_wp2
    have hN := Blk.new w 24 #[.slice A0 n0 c0, .slice C n c]
    have y0 : (w.alloc (.cells #[.slice A0 n0 c0, .slice C n c] 24)).cell? ⟨w.heap.size, 0, none⟩ = some (.slice A0 n0 c0) := hN.cell 0
    have y1 : (w.alloc (.cells #[.slice A0 n0 c0, .slice C n c] 24)).cell? ⟨w.heap.size, 1, none⟩ = some (.slice C n c) := hN.cell 1
    exact bodyPost_ret (v := .agg #[.slice A0 n0 c0, .slice C n c]) (by simp [results, Tryd.results43, y0, y1, go_sem]) rfl ⟨rfl, one_box' _ _⟩
end Go.Proofs.YtpkdalpjfcopbaaDoor
