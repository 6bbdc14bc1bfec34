/-
  JournalEach: the law, walked.
-/
import Derived.Test.YtpkdalpjfcopbaaDoorMPassed
import Derived.Test.YtpkdalpjfcopbaaDoorMRecs
import Derived.Test.YtpkdalpjfcopbaaDoorMHelp
import Derived.Test.YtpkdalpjfcopbaaDoorRound
import Derived.Test.YtpkdalpjfcopbaaDoorALawB
import Derived.Deep.CutBlock
namespace Go.Proofs.YtpkdalpjfcopbaaDoor
open Go.RowKit Go.Shelf
attribute [local go_sem] Oper.semAt_some
theorem two_sets2 (w : World) (pg : Nat) (u v : Value) : Chg (fun k => k = pg) w ((w.setCell ⟨pg, 0, none⟩ u).setCell ⟨pg, 1, none⟩ v) := ((Chg.refl (fun k => k = pg) w).setCell (p := ⟨pg, 0, none⟩) (.inl rfl) u).setCell (p := ⟨pg, 1, none⟩) (.inl rfl) v
/-- What a disk gives is of a bounded size. -/
theorem giveR_le2 (f : Fls) : (giveR f).length ≤ 65536 ∧ ∀ x ∈ giveR f, x.body.length ≤ 65536 := by
  unfold giveR
  cases hp : pickR f with
  | none => exact ⟨by simp, fun x hx => by cases hx⟩
  | some y =>
    obtain ⟨k, x⟩ := y
    obtain ⟨_, ht, _⟩ := pickR_told hp
    have h1 := congrArg List.length ht.text
    rw [textB_length, List.length_take] at h1
    have h2 := bodies_le x.recs
    have h3 := ht.hi
    have h4 := ht.len
    refine ⟨by dsimp only; omega, fun r hr => ?_⟩
    have hk : 1 ≤ r.kind ∧ r.kind ≤ 4 ∧ r.body.length ≤ 4200 := by simpa [Rc.ok] using ht.ok r hr
    omega
/-- What the law holds: its arguments' boxes, the result's, the records that are wanted and all of them. -/
structure Ja (w : World) (DA : Option Addr) (ca : Nat) (DB : Option Addr) (cb : Nat) (f : Fls) (q : Int) (W5 W6 : Nat) (Aw : Option Addr) (k : Nat) (cw : Nat) (K : List Rk) (wr : World) : Prop where
  d : Blk wr w.heap.size 24 #[.slice DA f.a.length ca, .slice DB f.b.length cb]
  e : Blk wr (w.heap.size + 1) 3 #[.int .i64 q]
  r : Blk wr (w.heap.size + 1 + 1) 4 #[.bool false]
  wn : Blk wr W5 25 #[.slice Aw k cw]
  al : Blk wr W6 25 #[.slice Aw K.length cw]
  own : RcOwn wr w.heap.size (.slice Aw K.length cw) K
  bw : Below w.heap.size w wr
  ne : W5 ≠ W6 ∧ w.heap.size ≤ W5
section
variable {w wr w' : World} {DA DB Aw : Option Addr} {ca cb W5 W6 k cw : Nat} {f : Fls} {q : Int} {K : List Rk}
theorem Ja.over (h : Ja w DA ca DB cb f q W5 W6 Aw k cw K wr) (hb : Below wr.heap.size wr w') : Ja w DA ca DB cb f q W5 W6 Aw k cw K w' :=
  ⟨h.d.over hb, h.e.over hb, h.r.over hb, h.wn.over hb, h.al.over hb, h.own.below hb, h.bw.trans (hb.mono h.bw.size), h.ne⟩
theorem one_set (w : World) (g : Nat) (v : Value) : Chg (fun k => k = g) w (w.setCell ⟨g, 0, none⟩ v) := (Chg.refl (fun k => k = g) w).setCell (p := ⟨g, 0, none⟩) (.inl rfl) v
theorem Ja.setE (h : Ja w DA ca DB cb f q W5 W6 Aw k cw K wr) (q' : Int) : Ja w DA ca DB cb f q' W5 W6 Aw k cw K (wr.setCell ⟨w.heap.size + 1, 0, none⟩ (.int .i64 q')) := by
  have hc := one_set wr (w.heap.size + 1) (.int .i64 q')
  have off : ∀ {t g : Nat}, IsT wr t g → t ≠ 3 → ¬ g = w.heap.size + 1 := fun ht hne e => by
    subst e
    exact hne (ht.eq_ h.e.isT)
  exact ⟨h.d.chg hc (by omega), h.e.set_ 0 _, h.r.chg hc (by omega), h.wn.chg hc (off h.wn.isT (by decide)), h.al.chg hc (off h.al.isT (by decide)), h.own.walks hc (fun g ht => off ht (by decide)) (fun g ht => off ht (by decide)), h.bw.trans (hc.to_below h.bw.size fun k e => by omega), h.ne⟩
theorem Ja.setW (h : Ja w DA ca DB cb f q W5 W6 Aw k cw K wr) (k' : Nat) : Ja w DA ca DB cb f q W5 W6 Aw k' cw K (wr.setCell ⟨W5, 0, none⟩ (.slice Aw k' cw)) := by
  have hc := one_set wr W5 (.slice Aw k' cw)
  have off : ∀ {t g : Nat}, IsT wr t g → t ≠ 25 → ¬ g = W5 := fun ht hne e => by
    subst e
    exact hne (ht.eq_ h.wn.isT)
  exact ⟨h.d.chg hc (off h.d.isT (by decide)), h.e.chg hc (off h.e.isT (by decide)), h.r.chg hc (off h.r.isT (by decide)), h.wn.set_ 0 _, h.al.chg hc h.ne.1.symm, h.own.walks hc (fun g ht => off ht (by decide)) (fun g ht => off ht (by decide)), h.bw.trans (hc.to_below h.bw.size fun k e => e ▸ h.ne.2), h.ne⟩
end
theorem RcRd.takeM {w : World} {F : Nat → Prop} {A : Option Addr} {n k : Nat} {rs : List Rc} (h : RcRd w F A n rs) (hk : k ≤ n) : RcRd w F A k (rs.take k) := by
  refine ⟨by have := h.len; rw [List.length_take]; omega, fun i r hr => h.at_ i r ?_⟩
  rw [List.getElem?_take] at hr
  split at hr
  · exact hr
  · cases hr
/-- And the copies, the function that Each made, what it holds. -/
structure Jb (w : World) (DA : Option Addr) (ca : Nat) (DB : Option Addr) (cb : Nat) (f : Fls) (q : Nat) (W5 W6 : Nat) (Aw : Option Addr) (cw : Nat) (K : List Rk) (C ga gb pa pb X8 fg base : Nat) (r : LV) (K2 : List Rk) (wr : World) : Prop where
  ja : Ja w DA ca DB cb f (q : Int) W5 W6 Aw (min q K.length) cw K wr
  pr : Pre w DA DB ca cb f C ga gb pa pb wr
  x : Blk wr X8 28 #[.func (.func 47) #[] #[.pointer (some ⟨fg, 0, none⟩)]]
  fl : Blk wr fg 87 (LV.cells r)
  ok : wr.ownsK base r K2 f
  gv : K.map Rk.rc = giveR f
section
variable {w wr w' : World} {DA DB Aw : Option Addr} {ca cb W5 W6 cw q C ga gb pa pb X8 fg base : Nat} {f : Fls} {K K2 : List Rk} {r : LV}
theorem Jb.over (h : Jb w DA ca DB cb f q W5 W6 Aw cw K C ga gb pa pb X8 fg base r K2 wr) (hb : Below wr.heap.size wr w') : Jb w DA ca DB cb f q W5 W6 Aw cw K C ga gb pa pb X8 fg base r K2 w' :=
  ⟨h.ja.over hb, h.pr.over hb, h.x.over hb, h.fl.over hb, h.ok.over hb, h.gv⟩
theorem Jb.len (h : Jb w DA ca DB cb f q W5 W6 Aw cw K C ga gb pa pb X8 fg base r K2 wr) : (giveR f).length = K.length ∧ K.length ≤ 65536 ∧ K2.length ≤ 65536 := by
  have h1 := congrArg List.length h.gv
  have h2 := congrArg List.length h.ok.rc
  rw [List.length_map] at h1 h2
  have h3 := (giveR_le2 f).1
  omega
theorem Jb.passed (h : Jb w DA ca DB cb f q W5 W6 Aw cw K C ga gb pa pb X8 fg base r K2 wr) (p : Nat) (hp : 1 ≤ p) (hp2 : p ≤ 9223372036854775807) :
    Calls Tryd.prog 13 #[.func (.func 47) #[] #[.pointer (some ⟨fg, 0, none⟩)], .int .i64 (p : Int)] wr fun e W' => ∃ A c, e = .returned (.tuple #[.slice A (min p K.length) c, .bool true]) ∧ RcRd W' (fun _ => False) A (min p K.length) ((giveR f).take p) ∧ Below wr.heap.size wr W' := by
  obtain ⟨l1, l2, l3⟩ := h.len
  refine (passed_any h.fl h.ok l3 (giveR_le2 f).2 p hp hp2).mono ?_
  rintro e W' ⟨A, c, K', rfl, h1, h2, h3⟩
  have hl : K'.length = min p K.length := by
    have := congrArg List.length h2
    rw [List.length_map, List.length_take, l1] at this
    exact this
  rw [hl] at h1 ⊢
  have hx : min p K.length = ((giveR f).take p).length := by rw [List.length_take, l1]
  rw [hx] at h1 ⊢
  exact ⟨A, c, rfl, h1.rdN h2, h3⟩
theorem Jb.want (h : Jb w DA ca DB cb f q W5 W6 Aw cw K C ga gb pa pb X8 fg base r K2 wr) : RcRd wr (fun _ => False) Aw (min q K.length) ((giveR f).take q) ∧ RcRd wr (fun _ => False) Aw K.length (giveR f) := by
  have h1 : RcRd wr (fun _ => False) Aw (giveR f).length (giveR f) := RcOwn.rdN (by rw [h.len.1]; exact h.ja.own) h.gv
  rw [h.len.1] at h1
  refine ⟨?_, h1⟩
  have h2 := h1.takeM (k := min q K.length) (by omega)
  have h3 : (giveR f).take (min q K.length) = (giveR f).take q := by
    rcases Nat.le_total q K.length with e | e
    · rw [Nat.min_eq_left e]
    · rw [Nat.min_eq_right e, List.take_of_length_le (by rw [h.len.1]; omega), List.take_of_length_le (by rw [h.len.1]; omega)]
  rwa [h3] at h2
end
/-- A reader's pass that counts. -/
structure Rin (w7 : World) (nb : Nat) (pre : List Gv) (W : World) : Prop where
  bw : Below w7.heap.size w7 W
  n : Blk W nb 3 #[.int .i64 (pre.length : Int)]
theorem rin_from {w7 : World} {nb B : Nat} (hB : w7.heap.size ≤ B) : OwnFrom B (Rin w7 nb) := fun s W W' row hs hg hr => by
  have hc := Chg.of_grown hg
  exact ⟨ownFrom_below (Nat.le_refl _) hB () _ _ _ hs.bw hg hr, (hc.block _ hs.n.lt (isT_row hs.n.isT hr)).trans hs.n⟩
structure Rn2 (f : Fls) (pre : List Gv) (x : Gv) (W : World) (Bx : Nat) : Prop where
  blk : Blk W Bx 34 #[.int .i64 x.rc.kind, .slice x.A x.rc.body.length x.c]
  at_ : (giveR f)[pre.length]? = some x.rc
  row : W.ownsRow x.lo 5 1 (.slice x.A x.rc.body.length x.c) x.rc.body.length (bvs x.rc.body)
theorem rn2_from {f : Fls} {pre : List Gv} {x : Gv} {B Bx : Nat} {W W' : World} {row : Option Nat} (h : Rn2 f pre x W Bx) (hg : W.grownBy W' row) (hr : ∀ r, row = some r → B ≤ r ∧ ∃ o : Obj, W.heap[r]? = some o ∧ o.isCells = false) : Rn2 f pre x W' Bx := by
  have hc := Chg.of_grown hg
  exact ⟨(hc.block Bx h.blk.lt (isT_row h.blk.isT hr)).trans h.blk, h.at_, own_chg h.row hc fun g hg' => isT_row (own_isT h.row hg') hr⟩
theorem wpIn_calm {F : Fence} {n : Nat} {P : Program} {c : Code} {K : Act → World → Prop} {Q' : Exit → Act → World → Prop} {a : Act} {w : World} (h : c.wpIn F n P (Exit.then K (fun _ _ _ => False)) a w) : c.wpIn F n P (Exit.then K Q') a w :=
  wpIn_mono h fun e a w h => by cases e <;> first | exact h | exact h.elim
theorem keeps_below {B : Nat} {W W' : World} (hb : Below W.heap.size W W') : KeepsFrom B W W' :=
  ⟨hb.size, fun k _o _ h _ => (hb.block k (Array.getElem?_eq_some_iff.1 h).1).trans h⟩
theorem cell_below {W W' : World} {p : Addr} {v : Value} (hb : Below W.heap.size W W') (h : W.cell? p = some v) : W'.cell? p = some v :=
  (World.cell?_of_block (hb.block _ (World.block_lt_of_cell? W p h))).trans h
theorem run_store_fn {P : Program} {w : World} {a : Addr} {m : Mode} (fn : Fn) (x y : Array Value) : (store a (.func fn x y) m).run P w = stored P w a (.func fn x y) m := run_store P w a _ m rfl
attribute [local go_sem] run_store_fn
theorem wp_calm {P : Program} {c : Code} {K : Act → World → Prop} {Q' : Exit → Act → World → Prop} {a : Act} {w : World} (h : c.wp P (Exit.then K (fun _ _ _ => False)) a w) : c.wp P (Exit.then K Q') a w :=
  wp_mono h fun e a w h => by cases e <;> first | exact h | exact h.elim
set_option maxRecDepth 100000 in
set_option maxHeartbeats 6400000 in
theorem JEach_go (DA DB : Option Addr) (ca cb : Nat) (f : Fls) (en : Int) (w : World) (h0 : RdB w w.heap.size DA f.a.length f.a) (h1 : RdB w w.heap.size DB f.b.length f.b) (n0 : f.a.length ≤ ca) (n1 : f.b.length ≤ cb) (m0 : ca ≤ 140737488351232) (m1 : cb ≤ 140737488351232) (he : -9223372036854775808 ≤ en ∧ en ≤ 9223372036854775807) (ht : Nibs w) :
    Calls Tryd.prog 3 #[.agg #[.slice DA f.a.length ca, .slice DB f.b.length cb], .int .i64 en] w fun e w' => e = .returned (.bool true) ∧ Below w.heap.size w w' := by
  obtain ⟨wa, hwa⟩ : ∃ wa, wa = ((w.alloc (.cells #[.slice DA f.a.length ca, .slice DB f.b.length cb] 24)).alloc (.cells #[.int .i64 en] 3)).alloc (.cells #[.bool false] 4) := ⟨_, rfl⟩
  have hba : Below w.heap.size w wa := by rw [hwa]; exact (((Below.refl _ w).alloc (Nat.le_refl _) _).alloc (by simp) _).alloc (by simp; omega) _
  have hsz : wa.heap.size = w.heap.size + 3 := by rw [hwa]; simp
  have hBl : Blk wa w.heap.size 24 #[.slice DA f.a.length ca, .slice DB f.b.length cb] ∧ Blk wa (w.heap.size + 1) 3 #[.int .i64 en] ∧ Blk wa (w.heap.size + 1 + 1) 4 #[.bool false] := by
    have b1 := Blk.new w 24 #[.slice DA f.a.length ca, .slice DB f.b.length cb]
    have b2 := Blk.new (w.alloc (.cells #[.slice DA f.a.length ca, .slice DB f.b.length cb] 24)) 3 #[.int .i64 en]
    have b3 := Blk.new ((w.alloc (.cells #[.slice DA f.a.length ca, .slice DB f.b.length cb] 24)).alloc (.cells #[.int .i64 en] 3)) 4 #[.bool false]
    rw [World.size_alloc] at b2
    rw [World.size_alloc, World.size_alloc] at b3
    rw [hwa]
    exact ⟨b1.over (Below.then (one_box' _ _) (one_box' _ _)), b2.over (one_box' _ _), b3⟩
  have HRA : Hid (∀ W, Below w.heap.size w W → RdB W w.heap.size DA f.a.length f.a) := Lib.hid fun W hW => h0.below hW
  have HRB : Hid (∀ W, Below w.heap.size w W → RdB W w.heap.size DB f.b.length f.b) := Lib.hid fun W hW => h1.below hW
  have HT := Lib.hid ht
  have HE := Lib.hid he
  have HRC := Lib.hid (RRecords_any (w := wa) (f := f) (c0 := ca) (c1 := cb) ((h0.below hba).more hba.size) ((h1.below hba).more hba.size) n0 n1 (by omega) (by omega))
  have HWA := Lib.hid hwa
  have HBL := Lib.hid hBl
  have HBA := Lib.hid hba
  have HSA := Lib.hid hsz
  have HGL := Lib.hid (giveR_le2 f)
  have d0 : wa.cell? ⟨w.heap.size, 0, none⟩ = some (.slice DA f.a.length ca) := hBl.1.cell 0
  have d1 : wa.cell? ⟨w.heap.size, 1, none⟩ = some (.slice DB f.b.length cb) := hBl.1.cell 1
  clear hwa hba hBl h0 h1 ht hsz he
  refine (callsIn_wide (n := 8)).1 ?_
  refine callsIn_of_wp_marks Tryd.func3 rfl trivial ?_ rfl
  simp only [Tryd.ntmps3, List.size_toArray, List.length_cons, List.length_nil, Nat.reduceAdd, Nat.reduceSub, Array.replicate_succ, Array.replicate_zero, List.push_toArray, List.append_toArray, List.nil_append, List.cons_append]
  refine wpIn_wide.2 ?_
  go_upto_region 1 with fail
  rw [← HWA.out]
  go_upto_region 2 with (go_at_call 10; refine HRC.out.mono ?_; rintro _ w2 ⟨Aw, cw, K, rfl, hk, hm, hb2⟩; have H2 := Lib.hid (And.intro hk (And.intro hm hb2)); clear hk hm hb2)
  obtain ⟨w3, hw3⟩ : ∃ x, x = w2.alloc (.cells #[.slice Aw K.length cw] 25) := ⟨_, rfl⟩
  rw [← hw3]
  have hb3 : Below w2.heap.size w2 w3 := by rw [hw3]; exact one_box' _ _
  have hX3 : Blk w3 w2.heap.size 25 #[.slice Aw K.length cw] := by rw [hw3]; exact Blk.new _ _ _
  have b0 : w3.cell? ⟨w2.heap.size, 0, none⟩ = some (.slice Aw K.length cw) := hX3.cell 0
  have H3 := Lib.hid (And.intro hb3 hX3)
  have HW3 := Lib.hid hw3
  clear hw3 hb3 hX3 d0 d1
  go_upto_region 3 with fail
  obtain ⟨w4, hw4⟩ : ∃ x, x = w3.alloc (.cells #[.slice Aw K.length cw] 25) := ⟨_, rfl⟩
  rw [← hw4]
  have hb4 : Below w3.heap.size w3 w4 := by rw [hw4]; exact one_box' _ _
  have hX4 : Blk w4 w3.heap.size 25 #[.slice Aw K.length cw] := by rw [hw4]; exact Blk.new _ _ _
  obtain ⟨W5, hW5⟩ : ∃ W5, W5 = w2.heap.size := ⟨_, rfl⟩
  obtain ⟨W6, hW6⟩ : ∃ W6, W6 = w3.heap.size := ⟨_, rfl⟩
  have HJ : Hid (Ja w DA ca DB cb f en W5 W6 Aw K.length cw K w4) := by
    have h24 := Below.then H3.out.1 hb4
    have ha4 := Below.then H2.out.2.2 h24
    have hs := HBA.out.size
    have hs2 := H2.out.2.2.size
    have hlt := H3.out.2.lt
    refine Lib.hid ⟨HBL.out.1.over ha4, HBL.out.2.1.over ha4, HBL.out.2.2.over ha4, hW5 ▸ H3.out.2.over hb4, hW6 ▸ hX4, (H2.out.1.below h24).mono hs, HBA.out.trans (ha4.mono hs), by omega, by omega⟩
  rw [← hW5, ← hW6]
  have HKL : Hid (K.map Rk.rc = giveR f ∧ K.length ≤ 65536) := Lib.hid ⟨H2.out.2.1, by have := congrArg List.length H2.out.2.1; rw [List.length_map] at this; have := HGL.out.1; omega⟩
  have hsw4 : Hid (w.heap.size + 3 ≤ w4.heap.size) := Lib.hid (by have h1 := H2.out.2.2.size; have h2 := H3.out.1.size; have h3 := hb4.size; have h4 := HSA.out; omega)
  clear hw4 hb4 hX4 b0 H3 HW3 H2 HWA HBL HSA HRC hW5 hW6
  have e0 : w4.cell? ⟨w.heap.size + 1, 0, none⟩ = some (.int .i64 en) := HJ.out.e.cell 0
  have e1 : w4.frozen? ⟨w.heap.size + 1, 0, none⟩ = false := HJ.out.e.frozen 0
  go_upto_if 22 with fail
  go_cut [22] from 18 to 23 (fun _ wx => ∃ q : Nat, 1 ≤ q ∧ q ≤ 9223372036854775807 ∧ Hid (Ja w DA ca DB cb f (q : Int) W5 W6 Aw K.length cw K wx) ∧ Hid (w.heap.size + 3 ≤ wx.heap.size))
  case first =>
    by_cases hlt : en < 1
    · have hd : decide (en < 1) = true := by simpa using hlt
      go_wp2_with fail
      go_meet
      exact ⟨1, by omega, by omega, Lib.hid (HJ.out.setE 1), Lib.hid (by simp; exact hsw4.out)⟩
    · have hd : decide (en < 1) = false := by simpa using hlt
      go_wp2_with fail
      go_meet
      refine ⟨en.toNat, by omega, by have := HE.out.2; omega, ?_, hsw4⟩
      rw [show ((en.toNat : Nat) : Int) = en by omega]
      exact HJ
  case rest =>
    obtain ⟨q, hq1, hq2, HJ, HSW⟩ := hcut
    obtain ⟨wx, HWX⟩ : ∃ wx, Hid (wc = wx) := ⟨_, Lib.hid rfl⟩
    rw [HWX.out] at HJ HSW ⊢
    clear HWX
    have e0 : wx.cell? ⟨w.heap.size + 1, 0, none⟩ = some (.int .i64 (q : Int)) := HJ.out.e.cell 0
    have b0 : wx.cell? ⟨W5, 0, none⟩ = some (.slice Aw K.length cw) := HJ.out.wn.cell 0
    have b1 : wx.frozen? ⟨W5, 0, none⟩ = false := HJ.out.wn.frozen 0
    go_upto_if 26 with fail
    go_cut [26] from 18 to 30 (fun _ wx => Hid (Ja w DA ca DB cb f (q : Int) W5 W6 Aw (min q K.length) cw K wx) ∧ Hid (w.heap.size + 3 ≤ wx.heap.size))
    case first =>
      have hcw : K.length ≤ cw := by
        obtain ⟨_, cq, he, hkc, _⟩ := HJ.out.own.shape
        injection he with _ _ he
        omega
      by_cases hlt : q < K.length
      · have hd : decide (q < K.length) = true := by simpa using hlt
        have hqc : (q : Int) ≤ (cw : Int) := by omega
        go_wp2_with fail
        go_meet
        have := HJ.out.setW q
        rw [show min q K.length = q by omega]
        exact ⟨Lib.hid this, Lib.hid (by simp; exact HSW.out)⟩
      · have hd : decide (q < K.length) = false := by simpa using hlt
        go_wp2_with fail
        go_meet
        rw [show min q K.length = K.length by omega]
        exact ⟨HJ, HSW⟩
    case rest =>
      obtain ⟨HJ, HSW⟩ := hcut
      clear e0 b0 b1
      obtain ⟨wy, HWY⟩ : ∃ wy, Hid (wc = wy) := ⟨_, Lib.hid rfl⟩
      rw [HWY.out] at HJ HSW ⊢
      clear HWY
      obtain ⟨wd, hwd⟩ : ∃ wd, wd = wy.drew := ⟨_, rfl⟩
      have hbd : Below wy.heap.size wy wd := by rw [hwd]; exact below_drewN (Below.refl _ _) 1
      have HWD := Lib.hid hwd
      have HJD := Lib.hid (HJ.out.over hbd)
      have HXD := Lib.hid HJD.out.d
      have HSB : Hid (∀ W, Below wd.heap.size wd W → W.cell? ⟨w.heap.size, 0, none⟩ = some (.slice DA f.a.length ca) ∧ W.cell? ⟨w.heap.size, 1, none⟩ = some (.slice DB f.b.length cb)) := Lib.hid fun W hW => ⟨(HXD.out.over hW).cell 0, (HXD.out.over hW).cell 1⟩
      have HP := Lib.hid (⟨HJD.out.bw, Below.refl _ _, fun v p e => by (cases e), fun v p e => by (cases e), fun v e => by (cases e), fun v p g q e => by (cases e)⟩ : P1 w wd wd f none none none)
      have hsD : w.heap.size ≤ wd.heap.size := HJD.out.bw.size
      clear hwd hbd
      go_upto_region 7 with fail
      go_cut [7] from 18 to 37 (fun d wc => ∃ C ga gb pa pb, d = .pointer (some ⟨C, 0, none⟩) ∧ Hid (Pre w DA DB ca cb f C ga gb pa pb wc) ∧ Hid (Below wd.heap.size wd wc))
      case first =>
        refine wp_calm ?_
        refine wp_region_held_drew (S := fun W => W.cell? ⟨w.heap.size, 0, none⟩ = some (.slice DA f.a.length ca) ∧ W.cell? ⟨w.heap.size, 1, none⟩ = some (.slice DB f.b.length cb)) (by kernel_rfl) (by rw [← HWD.out]; exact HSB.out _ (Below.refl _ _)) (fun hsw => ?_)
        rw [← HWD.out] at hsw ⊢
        refine wpAnyH_take (i := 0) (oi := ?oi0a) (v := ?v0a) ?hi0a (by kernel_rfl) (by kernel_rfl) (by kernel_rfl) ?hq0a ?hy0a (by assumption) ?rest0a
        case hi0a => (simp only [List.getElem?_toArray, List.getElem?_cons_zero]; rfl)
        case hy0a => (refine Or.inl ⟨by rfl, ?_⟩; intro w hSw; (try dsimp only at hSw); go_simp; try with_reducible rfl)
        case hq0a => exact fun _ _ _ h => h
        try simp only [Act.put, List.setIfInBounds_toArray, List.set_cons_zero, List.set_cons_succ]
        refine wpAnyH_take (i := 1) (oi := ?oi1a) (v := ?v1a) ?hi1a (by kernel_rfl) (by kernel_rfl) (by kernel_rfl) ?hq1a ?hy1a (by assumption) ?rest1a
        case hi1a => (simp only [List.getElem?_toArray, List.getElem?_cons_zero, List.getElem?_cons_succ]; rfl)
        case hy1a => (refine Or.inl ⟨by rfl, ?_⟩; intro w hSw; (try dsimp only at hSw); go_simp; try with_reducible rfl)
        case hq1a => exact fun _ _ _ h => h
        try simp only [Act.put, List.setIfInBounds_toArray, List.set_cons_zero, List.set_cons_succ]
        refine wpAnyH_take (i := 3) (oi := ?oi3a) (v := ?v3a) ?hi3a (by kernel_rfl) (by kernel_rfl) (by kernel_rfl) ?hq3a ?hy3a (by assumption) ?rest3a
        case hi3a => (simp only [List.getElem?_toArray, List.getElem?_cons_zero, List.getElem?_cons_succ]; rfl)
        case hy3a => (refine Or.inl ⟨by rfl, ?_⟩; intro w hSw; (try dsimp only at hSw); go_simp; try with_reducible rfl)
        case hq3a => exact fun _ _ _ h => h
        try simp only [Act.put, List.setIfInBounds_toArray, List.set_cons_zero, List.set_cons_succ]
        refine wpAnyH_take (i := 4) (oi := ?oi4a) (v := ?v4a) ?hi4a (by kernel_rfl) (by kernel_rfl) (by kernel_rfl) ?hq4a ?hy4a (by assumption) ?rest4a
        case hi4a => (simp only [List.getElem?_toArray, List.getElem?_cons_zero, List.getElem?_cons_succ]; rfl)
        case hy4a => (refine Or.inl ⟨by rfl, ?_⟩; intro w hSw; (try dsimp only at hSw); go_simp; try with_reducible rfl)
        case hq4a => exact fun _ _ _ h => h
        try simp only [Act.put, List.setIfInBounds_toArray, List.set_cons_zero, List.set_cons_succ]
        refine wpAnyH_ready (rs := [2, 7]) (by kernel_rfl) (by simp) ?_
        refine AllReadyH.cons (o := ?o2p1) ?ho2p1 (fun K hK => ?st2p1) ?mo2p1
        case ho2p1 => (simp only [List.getElem?_toArray, List.getElem?_cons_zero, List.getElem?_cons_succ]; rfl)
        · skip
          have hbW := HP.out.bw.trans (HP.out.b0.mono hsD)
          have HSP := Lib.hid (spare_sp DA ca f.a wd ((HRA.out _ hbW).more hbW.size) (by omega))
          clear hbW
          go_simp
          refine HSP.out.mono ?_
          rintro _ wp1 ⟨gp1, cp1, rfl, hgp1, hsp1, hbp1⟩
          have Hp1 := Lib.hid (HP.out.spA hbp1 hgp1 hsp1)
          clear hgp1 hsp1 hbp1 HSP
          go_simp
          refine hK.out _ _ (HSB.out _ Hp1.out.b0) (fun _ => ?_)
          clear hK K
          try simp only [Act.put, List.setIfInBounds_toArray, List.set_cons_zero, List.set_cons_succ]
          refine wpAnyH_ready (rs := [5, 7]) (by kernel_rfl) (by simp) ?_
          refine AllReadyH.cons (o := ?o5p2) ?ho5p2 (fun K hK => ?st5p2) ?mo5p2
          case ho5p2 => (simp only [List.getElem?_toArray, List.getElem?_cons_zero, List.getElem?_cons_succ]; rfl)
          · skip
            have hbW := Hp1.out.bw.trans (Hp1.out.b0.mono hsD)
            have HSP := Lib.hid (spare_sp DB cb f.b wp1 ((HRB.out _ hbW).more hbW.size) (by omega))
            clear hbW
            go_simp
            refine HSP.out.mono ?_
            rintro _ wp2 ⟨gp2, cp2, rfl, hgp2, hsp2, hbp2⟩
            have Hp2 := Lib.hid (Hp1.out.spB hbp2 hgp2 hsp2)
            clear hgp2 hsp2 hbp2 HSP
            go_simp
            refine hK.out _ _ (HSB.out _ Hp2.out.b0) (fun _ => ?_)
            clear hK K
            try simp only [Act.put, List.setIfInBounds_toArray, List.set_cons_zero, List.set_cons_succ]
            refine wpAnyH_take (i := 6) (oi := ?oi6p3) (v := ?v6p3) ?hi6p3 (by kernel_rfl) (by kernel_rfl) (by kernel_rfl) ?hq6p3 ?hy6p3 (by assumption) ?rest6p3
            case hi6p3 => (simp only [List.getElem?_toArray, List.getElem?_cons_zero, List.getElem?_cons_succ]; rfl)
            case hy6p3 => (refine Or.inl ⟨by rfl, ?_⟩; intro w hSw; (try dsimp only at hSw); go_simp; try with_reducible rfl)
            case hq6p3 => exact fun _ _ _ h => h
            try simp only [Act.put, List.setIfInBounds_toArray, List.set_cons_zero, List.set_cons_succ]
            refine wpAnyH_ready (rs := [7]) (by kernel_rfl) (by simp) ?_
            refine AllReadyH.cons (o := ?o7p4) ?ho7p4 (fun K hK => ?st7p4) ?mo7p4
            case ho7p4 => (simp only [List.getElem?_toArray, List.getElem?_cons_zero, List.getElem?_cons_succ]; rfl)
            · skip
              have Hp4 := Lib.hid Hp2.out.box
              obtain ⟨wp4, hwp4⟩ : ∃ w', w' = wp2.alloc (.cells #[.slice none 0 0, .slice none 0 0] 24) := ⟨_, rfl⟩
              rw [← hwp4] at Hp4
              go_simp
              rw [← hwp4]
              clear hwp4
              refine hK.out _ _ (HSB.out _ Hp4.out.b0) (fun _ => ?_)
              clear hK K
              try simp only [Act.put, List.setIfInBounds_toArray, List.set_cons_zero, List.set_cons_succ]
              refine wpAnyH_ready (rs := [8]) (by kernel_rfl) (by simp) ?_
              refine AllReadyH.cons (o := ?o8p5) ?ho8p5 (fun K hK => ?st8p5) ?mo8p5
              case ho8p5 => (simp only [List.getElem?_toArray, List.getElem?_cons_zero, List.getElem?_cons_succ]; rfl)
              · skip
                obtain ⟨hBD, hDge⟩ := Hp4.out.od _ rfl
                have c0 := hBD.cell 0
                have c1 := hBD.cell 1
                have q0 := hBD.frozen 0
                have q1 := hBD.frozen 1
                have HFI := Lib.hid (Hp4.out.fin HXD.out)
                have hS := And.intro (HFI.out.x0.cell 0) (HFI.out.x0.cell 1)
                clear hBD
                go_simp
                refine hK.out _ _ hS (fun _ => ?_)
                clear hK K
                refine wpAnyH_done (by kernel_rfl) ?_ _
                go_wp2_with fail
                go_meet
                exact ⟨_, _, _, _, _, rfl, HFI, Lib.hid (Hp4.out.b0.trans ((two_sets2 _ _ _ _).to_below Hp4.out.b0.size (fun k e => e ▸ hDge)))⟩
              exact AllReadyH.nil
            exact AllReadyH.nil
          refine AllReadyH.cons (o := ?o7p6) ?ho7p6 (fun K hK => ?st7p6) ?mo7p6
          case ho7p6 => (simp only [List.getElem?_toArray, List.getElem?_cons_zero, List.getElem?_cons_succ]; rfl)
          · skip
            have Hp6 := Lib.hid Hp1.out.box
            obtain ⟨wp6, hwp6⟩ : ∃ w', w' = wp1.alloc (.cells #[.slice none 0 0, .slice none 0 0] 24) := ⟨_, rfl⟩
            rw [← hwp6] at Hp6
            go_simp
            rw [← hwp6]
            clear hwp6
            refine hK.out _ _ (HSB.out _ Hp6.out.b0) (fun _ => ?_)
            clear hK K
            try simp only [Act.put, List.setIfInBounds_toArray, List.set_cons_zero, List.set_cons_succ]
            refine wpAnyH_ready (rs := [5]) (by kernel_rfl) (by simp) ?_
            refine AllReadyH.cons (o := ?o5p7) ?ho5p7 (fun K hK => ?st5p7) ?mo5p7
            case ho5p7 => (simp only [List.getElem?_toArray, List.getElem?_cons_zero, List.getElem?_cons_succ]; rfl)
            · skip
              have hbW := Hp6.out.bw.trans (Hp6.out.b0.mono hsD)
              have HSP := Lib.hid (spare_sp DB cb f.b wp6 ((HRB.out _ hbW).more hbW.size) (by omega))
              clear hbW
              go_simp
              refine HSP.out.mono ?_
              rintro _ wp7 ⟨gp7, cp7, rfl, hgp7, hsp7, hbp7⟩
              have Hp7 := Lib.hid (Hp6.out.spB hbp7 hgp7 hsp7)
              clear hgp7 hsp7 hbp7 HSP
              go_simp
              refine hK.out _ _ (HSB.out _ Hp7.out.b0) (fun _ => ?_)
              clear hK K
              try simp only [Act.put, List.setIfInBounds_toArray, List.set_cons_zero, List.set_cons_succ]
              refine wpAnyH_take (i := 6) (oi := ?oi6p8) (v := ?v6p8) ?hi6p8 (by kernel_rfl) (by kernel_rfl) (by kernel_rfl) ?hq6p8 ?hy6p8 (by assumption) ?rest6p8
              case hi6p8 => (simp only [List.getElem?_toArray, List.getElem?_cons_zero, List.getElem?_cons_succ]; rfl)
              case hy6p8 => (refine Or.inl ⟨by rfl, ?_⟩; intro w hSw; (try dsimp only at hSw); go_simp; try with_reducible rfl)
              case hq6p8 => exact fun _ _ _ h => h
              try simp only [Act.put, List.setIfInBounds_toArray, List.set_cons_zero, List.set_cons_succ]
              refine wpAnyH_ready (rs := [8]) (by kernel_rfl) (by simp) ?_
              refine AllReadyH.cons (o := ?o8p9) ?ho8p9 (fun K hK => ?st8p9) ?mo8p9
              case ho8p9 => (simp only [List.getElem?_toArray, List.getElem?_cons_zero, List.getElem?_cons_succ]; rfl)
              · skip
                obtain ⟨hBD, hDge⟩ := Hp7.out.od _ rfl
                have c0 := hBD.cell 0
                have c1 := hBD.cell 1
                have q0 := hBD.frozen 0
                have q1 := hBD.frozen 1
                have HFI := Lib.hid (Hp7.out.fin HXD.out)
                have hS := And.intro (HFI.out.x0.cell 0) (HFI.out.x0.cell 1)
                clear hBD
                go_simp
                refine hK.out _ _ hS (fun _ => ?_)
                clear hK K
                refine wpAnyH_done (by kernel_rfl) ?_ _
                go_wp2_with fail
                go_meet
                exact ⟨_, _, _, _, _, rfl, HFI, Lib.hid (Hp7.out.b0.trans ((two_sets2 _ _ _ _).to_below Hp7.out.b0.size (fun k e => e ▸ hDge)))⟩
              exact AllReadyH.nil
            exact AllReadyH.nil
          exact AllReadyH.nil
        refine AllReadyH.cons (o := ?o7p10) ?ho7p10 (fun K hK => ?st7p10) ?mo7p10
        case ho7p10 => (simp only [List.getElem?_toArray, List.getElem?_cons_zero, List.getElem?_cons_succ]; rfl)
        · skip
          have Hp10 := Lib.hid HP.out.box
          obtain ⟨wp10, hwp10⟩ : ∃ w', w' = wd.alloc (.cells #[.slice none 0 0, .slice none 0 0] 24) := ⟨_, rfl⟩
          rw [← hwp10] at Hp10
          go_simp
          rw [← hwp10]
          clear hwp10
          refine hK.out _ _ (HSB.out _ Hp10.out.b0) (fun _ => ?_)
          clear hK K
          try simp only [Act.put, List.setIfInBounds_toArray, List.set_cons_zero, List.set_cons_succ]
          refine wpAnyH_ready (rs := [2]) (by kernel_rfl) (by simp) ?_
          refine AllReadyH.cons (o := ?o2p11) ?ho2p11 (fun K hK => ?st2p11) ?mo2p11
          case ho2p11 => (simp only [List.getElem?_toArray, List.getElem?_cons_zero, List.getElem?_cons_succ]; rfl)
          · skip
            have hbW := Hp10.out.bw.trans (Hp10.out.b0.mono hsD)
            have HSP := Lib.hid (spare_sp DA ca f.a wp10 ((HRA.out _ hbW).more hbW.size) (by omega))
            clear hbW
            go_simp
            refine HSP.out.mono ?_
            rintro _ wp11 ⟨gp11, cp11, rfl, hgp11, hsp11, hbp11⟩
            have Hp11 := Lib.hid (Hp10.out.spA hbp11 hgp11 hsp11)
            clear hgp11 hsp11 hbp11 HSP
            go_simp
            refine hK.out _ _ (HSB.out _ Hp11.out.b0) (fun _ => ?_)
            clear hK K
            try simp only [Act.put, List.setIfInBounds_toArray, List.set_cons_zero, List.set_cons_succ]
            refine wpAnyH_ready (rs := [5]) (by kernel_rfl) (by simp) ?_
            refine AllReadyH.cons (o := ?o5p12) ?ho5p12 (fun K hK => ?st5p12) ?mo5p12
            case ho5p12 => (simp only [List.getElem?_toArray, List.getElem?_cons_zero, List.getElem?_cons_succ]; rfl)
            · skip
              have hbW := Hp11.out.bw.trans (Hp11.out.b0.mono hsD)
              have HSP := Lib.hid (spare_sp DB cb f.b wp11 ((HRB.out _ hbW).more hbW.size) (by omega))
              clear hbW
              go_simp
              refine HSP.out.mono ?_
              rintro _ wp12 ⟨gp12, cp12, rfl, hgp12, hsp12, hbp12⟩
              have Hp12 := Lib.hid (Hp11.out.spB hbp12 hgp12 hsp12)
              clear hgp12 hsp12 hbp12 HSP
              go_simp
              refine hK.out _ _ (HSB.out _ Hp12.out.b0) (fun _ => ?_)
              clear hK K
              try simp only [Act.put, List.setIfInBounds_toArray, List.set_cons_zero, List.set_cons_succ]
              refine wpAnyH_take (i := 6) (oi := ?oi6p13) (v := ?v6p13) ?hi6p13 (by kernel_rfl) (by kernel_rfl) (by kernel_rfl) ?hq6p13 ?hy6p13 (by assumption) ?rest6p13
              case hi6p13 => (simp only [List.getElem?_toArray, List.getElem?_cons_zero, List.getElem?_cons_succ]; rfl)
              case hy6p13 => (refine Or.inl ⟨by rfl, ?_⟩; intro w hSw; (try dsimp only at hSw); go_simp; try with_reducible rfl)
              case hq6p13 => exact fun _ _ _ h => h
              try simp only [Act.put, List.setIfInBounds_toArray, List.set_cons_zero, List.set_cons_succ]
              refine wpAnyH_ready (rs := [8]) (by kernel_rfl) (by simp) ?_
              refine AllReadyH.cons (o := ?o8p14) ?ho8p14 (fun K hK => ?st8p14) ?mo8p14
              case ho8p14 => (simp only [List.getElem?_toArray, List.getElem?_cons_zero, List.getElem?_cons_succ]; rfl)
              · skip
                obtain ⟨hBD, hDge⟩ := Hp12.out.od _ rfl
                have c0 := hBD.cell 0
                have c1 := hBD.cell 1
                have q0 := hBD.frozen 0
                have q1 := hBD.frozen 1
                have HFI := Lib.hid (Hp12.out.fin HXD.out)
                have hS := And.intro (HFI.out.x0.cell 0) (HFI.out.x0.cell 1)
                clear hBD
                go_simp
                refine hK.out _ _ hS (fun _ => ?_)
                clear hK K
                refine wpAnyH_done (by kernel_rfl) ?_ _
                go_wp2_with fail
                go_meet
                exact ⟨_, _, _, _, _, rfl, HFI, Lib.hid (Hp12.out.b0.trans ((two_sets2 _ _ _ _).to_below Hp12.out.b0.size (fun k e => e ▸ hDge)))⟩
              exact AllReadyH.nil
            exact AllReadyH.nil
          exact AllReadyH.nil
        exact AllReadyH.nil
      case rest =>
        obtain ⟨C, ga, gb, pa, pb, rfl, HPR, HBP⟩ := hcut
        obtain ⟨wp, HWY⟩ : ∃ wp, Hid (wc = wp) := ⟨_, Lib.hid rfl⟩
        rw [HWY.out] at HPR HBP ⊢
        have HJP := Lib.hid (HJD.out.over HBP.out)
        clear HWY HWD HSB HP HXD hsD HJD HJ HSW HBP
        have hpa : f.a.length + 64 ≤ pa ∧ pa ≤ 9223372036854775807 := by
          obtain ⟨_, _, _, _, h1, h2⟩ := HPR.out.sa
          exact ⟨h1, h2⟩
        have hpb : f.b.length + 64 ≤ pb ∧ pb ≤ 9223372036854775807 := by
          obtain ⟨_, _, _, _, h1, h2⟩ := HPR.out.sb
          exact ⟨h1, h2⟩
        have HEA := Lib.hid (Each_any (w := wp) (f := f) (c0 := pa) (c1 := pb) HPR.out.sa.rd HPR.out.sb.rd (by omega) (by omega) (HT.out.below HPR.out.bw))
        have z0 : wp.cell? ⟨C, 0, none⟩ = some (.slice (some ⟨ga, 0, none⟩) f.a.length pa) := HPR.out.c.cell 0
        have z1 : wp.cell? ⟨C, 1, none⟩ = some (.slice (some ⟨gb, 0, none⟩) f.b.length pb) := HPR.out.c.cell 1
        go_upto_region 9 with (go_at_call 12; refine HEA.out.mono ?_; rintro _ w2 ⟨fg, r, K2, rfl, hfl, hfg, hok, hb2⟩; have H2 := Lib.hid (And.intro hfl (And.intro hok hb2)); clear hfl hok hb2)
        obtain ⟨w3, hw3⟩ : ∃ x, x = w2.alloc (.cells #[.func (.func 47) #[] #[.pointer (some ⟨fg, 0, none⟩)]] 28) := ⟨_, rfl⟩
        rw [← hw3]
        obtain ⟨X8, hX8⟩ : ∃ X8, X8 = w2.heap.size := ⟨_, rfl⟩
        rw [← hX8]
        have HJB : Hid (Jb w DA ca DB cb f q W5 W6 Aw cw K C ga gb pa pb X8 fg wp.heap.size r K2 w3) := by
          have hb3 : Below w2.heap.size w2 w3 := by rw [hw3]; exact one_box' _ _
          have hb4 := Below.then H2.out.2.2 hb3
          exact Lib.hid ⟨HJP.out.over hb4, HPR.out.over hb4, by rw [hX8, hw3]; exact Blk.new _ _ _, H2.out.1.over hb3, H2.out.2.1.over hb3, HKL.out.1⟩
        clear hw3 hX8 hfg z0 z1 H2 HJP HPR HEA
        have x0 : w3.cell? ⟨X8, 0, none⟩ = some (.func (.func 47) #[] #[.pointer (some ⟨fg, 0, none⟩)]) := HJB.out.x.cell 0
        have e0 : w3.cell? ⟨w.heap.size + 1, 0, none⟩ = some (.int .i64 (q : Int)) := HJB.out.ja.e.cell 0
        have hq : ∀ (W : World), (binOp BinOp.eql 28 (Value.func (Fn.func 47) #[] #[Value.pointer (some ⟨fg, 0, none⟩)]) Value.nilFunc).run Tryd.prog W = .ok (.bool false) W := fun _ => by kernel_rfl
        have HPA := Lib.hid (HJB.out.passed q hq1 hq2)
        go_upto_region 12 with (go_at_call 13; refine HPA.out.mono ?_; rintro _ w4 ⟨Ag, cg, rfl, hk, hb4⟩; have H4 := Lib.hid (And.intro hk hb4); clear hk hb4)
        have HJ4 := Lib.hid (HJB.out.over H4.out.2)
        have hKL := HKL.out.2
        have x0 : w4.cell? ⟨X8, 0, none⟩ = some (.func (.func 47) #[] #[.pointer (some ⟨fg, 0, none⟩)]) := HJ4.out.x.cell 0
        have a0 : w4.cell? ⟨W6, 0, none⟩ = some (.slice Aw K.length cw) := HJ4.out.ja.al.cell 0
        have HPB : Hid (Calls Tryd.prog 13 #[.func (.func 47) #[] #[.pointer (some ⟨fg, 0, none⟩)], .int .i64 ((K.length : Int) + 1)] w4 fun e W' => ∃ A c, e = .returned (.tuple #[.slice A K.length c, .bool true]) ∧ RcRd W' (fun _ => False) A K.length (giveR f) ∧ Below w4.heap.size w4 W') := by
          have h1 := HJ4.out.passed (K.length + 1) (by omega) (by omega)
          rw [show min (K.length + 1) K.length = K.length by omega, List.take_of_length_le (by rw [HJ4.out.len.1]; omega), show ((K.length + 1 : Nat) : Int) = (K.length : Int) + 1 by omega] at h1
          exact Lib.hid h1
        go_upto_region 13 with (go_at_call 13; refine HPB.out.mono ?_; rintro _ w5 ⟨Ah, ch, rfl, hk, hb5⟩; have H5 := Lib.hid (And.intro hk hb5); clear hk hb5)
        have HJ5 := Lib.hid (HJ4.out.over H5.out.2)
        have a0 : w5.cell? ⟨W6, 0, none⟩ = some (.slice Aw K.length cw) := HJ5.out.ja.al.cell 0
        have b0 : w5.cell? ⟨W5, 0, none⟩ = some (.slice Aw (min q K.length) cw) := HJ5.out.ja.wn.cell 0
        have HRY := Lib.hid (records_yes (c1 := cg) (c2 := cw) (H4.out.1.below H5.out.2) HJ5.out.want.1 (by omega))
        go_upto_if 72 with (first
          | (go_at_call 14; refine HRY.out.mono ?_; rintro _ w6 ⟨rfl, hb6⟩; have HJ6 := Lib.hid (HJ5.out.over hb6); have HRZ := Lib.hid (records_yes (c1 := ch) (c2 := cw) (H5.out.1.below hb6) HJ6.out.want.2 (by omega)); have a0 : w6.cell? ⟨W6, 0, none⟩ = some (.slice Aw K.length cw) := HJ6.out.ja.al.cell 0; clear HRY hb6)
          | (go_at_call 14; refine HRZ.out.mono ?_; rintro _ w7 ⟨rfl, hb7⟩; have HJ7 := Lib.hid (HJ6.out.over hb7); clear hb7))
        clear HJB HJ4 HJ5 HJ6 H4 H5 HPA HPB HRZ x0 e0 a0 b0 hq
        go_cut [72] from 18 to 73 (fun _ wx => wx = w7)
        case first =>
          go_wp2_with fail
          go_meet
          rfl
        case rest =>
          obtain rfl := hcut
          obtain ⟨w7, HWY⟩ : ∃ w7, Hid (wc = w7) := ⟨_, Lib.hid rfl⟩
          rw [HWY.out] at HJ7 ⊢
          clear HWY
          go_upto_region 16 with fail
          obtain ⟨w8, hw8⟩ : ∃ x, x = w7.alloc (.cells #[.int .i64 0] 3) := ⟨_, rfl⟩
          rw [← hw8]
          obtain ⟨nb, hnb⟩ : ∃ nb, nb = w7.heap.size := ⟨_, rfl⟩
          rw [← hnb]
          have hb8 : Below w7.heap.size w7 w8 := by rw [hw8]; exact one_box' _ _
          have hN8 : Blk w8 nb 3 #[.int .i64 0] := by rw [hnb, hw8]; exact Blk.new _ _ _
          have hs8 : w8.heap.size = w7.heap.size + 1 := by rw [hw8]; simp
          have HJ8 := Lib.hid (HJ7.out.over hb8)
          have x0 : w8.cell? ⟨X8, 0, none⟩ = some (.func (.func 47) #[] #[.pointer (some ⟨fg, 0, none⟩)]) := HJ8.out.x.cell 0
          have h08 : Rin w7 nb [] w8 := ⟨hb8, hN8⟩
          have HNB : Hid (nb = w7.heap.size ∧ w8.heap.size = w7.heap.size + 1) := Lib.hid ⟨hnb, hs8⟩
          clear hw8 HJ8 hN8 hnb hs8
          go_wp2_with fail
          refine (wpIn_wide (n := 8)).1 ?_
          obtain ⟨l1, l2, l3⟩ := HJ7.out.len
          refine range_v (F := Fence.wide) rfl (by decide) (gf := 47) (lb := #[.pointer (some ⟨fg, 0, none⟩)]) rfl trivial (enters_of Tryd.func47 (by kernel_rfl) rfl)
            (encs := Gv.encs) (Kp := KpOf (fun k => wp.heap.size ≤ k ∧ k < w7.heap.size)) (V := VGv (giveR f) w7.heap.size) (S := SGv (giveR f)) (w0 := w7) (each1_seq 7 HJ7.out.fl HJ7.out.ok (fun g h1 h2 => ⟨h1, h2⟩) l3 HGL.out.2) hb8
            kpOf_t (kpOf_b (fun k h => by have := HNB.out.2; omega)) (fun _ => rfl)
            (fun pre W => Rin w7 nb pre W ∧ pre.length < 3)
            (fun c pre W => Rin w7 nb pre W ∧ (c = .exit 0 ∧ pre.length = 3))
            (own_alone (rin_from hb8.size)) (fun c => own_alone (rin_from hb8.size))
            ⟨h08, by simp⟩
            (fun pre x a' W => ∃ Bx, Rn2 f pre x W Bx ∧ a' = Act.mk #[.agg #[.slice DA f.a.length ca, .slice DB f.b.length cb], .int .i64 en, .pointer (some ⟨w.heap.size, 0, none⟩), .pointer (some ⟨w.heap.size + 1, 0, none⟩), .pointer (some ⟨w.heap.size + 1 + 1, 0, none⟩), .pointer (some ⟨W5, 0, none⟩), .pointer (some ⟨W6, 0, none⟩), .pointer (some ⟨C, 0, none⟩), .pointer (some ⟨X8, 0, none⟩), .slice Ag (min q K.length) cg, .bool true, .slice Ah K.length ch, .bool true, .pointer (some ⟨nb, 0, none⟩), .int .i64 (pre.length : Int), .pointer (some ⟨Bx, 0, none⟩), undef, undef, u18, u19, u20, u21, u22, u23, u24, u25, u26, u27, u28, u29, u30, u31, u32, u33, u34, u35, u36, u37, u38, u39, u40, u41, u42, u43, u44, u45, u46, u47, u48, u49, u50, u51, u52, u53, u54, u55, u56, u57, u58, u59, u60, u61, u62, u63, u64, u65, u66, u67, u68, u69, u70, u71, u72, .func (.func 47) #[] #[.pointer (some ⟨fg, 0, none⟩)], .int .i64 (pre.length : Int), .agg #[.int .i64 x.rc.kind, .slice x.A x.rc.body.length x.c], undef, undef, undef, undef, undef, undef, undef, undef, undef, undef, undef, undef, undef, undef, undef, undef, undef, undef, undef, undef, undef, undef, undef, undef, undef, undef, undef, undef, undef, undef, undef, undef, undef, undef, undef, undef, undef, undef, undef, undef, undef, undef, undef, undef, undef, undef, undef, undef, undef, undef, undef, undef, undef, undef, undef, undef, undef, undef, undef, undef] [])
            (fun pre x a' s W W' row hs hg hr => ?_) ?assign ?body ?done ?stop
          · obtain ⟨Bx, h1, h2⟩ := hs
            exact ⟨Bx, rn2_from h1 hg hr, h2⟩
          case assign =>
            intro l pre x W K hi hv hKK
            simp only [Gv.encs]
            gi_wp2
            obtain ⟨hvi, hvr, hvo, hvh, hvl, hvp⟩ := hv
            rw [hvi]
            have hb1 := one_box' W (.cells #[.int .i64 x.rc.kind, .slice x.A x.rc.body.length x.c] 34)
            refine hKK _ _ ((KeepsOthers.alloc _ _).from _) (Chg.of_below hb1 _) ⟨(rin_from (B := w7.heap.size) (Nat.le_refl _)).alloc _ hi.1, hi.2⟩ ⟨W.heap.size, ⟨Blk.new _ _ _, ?_, own_over hvo hb1⟩, rfl⟩
            rw [← hvi]; exact hvr
          case body =>
            rintro l pre x a' W ⟨⟨hbW, hN⟩, hlt3⟩ ⟨Bx, hR, rfl⟩
            have hJW := HJ7.out.over hbW
            have HPA := Lib.hid (hJW.passed q hq1 hq2)
            have HJW := Lib.hid hJW
            have x0 : W.cell? ⟨X8, 0, none⟩ = some (.func (.func 47) #[] #[.pointer (some ⟨fg, 0, none⟩)]) := hJW.x.cell 0
            have e0 : W.cell? ⟨w.heap.size + 1, 0, none⟩ = some (.int .i64 (q : Int)) := hJW.ja.e.cell 0
            clear hJW
            gi_wp2
            refine ⟨trivial, (CallsIn.inRound l (callsIn_wide.2 HPA.out)).mono ?_⟩
            rintro _ w2 ⟨Ai, ci, rfl, hk, hb2⟩
            gi_wp2
            obtain ⟨wd, hwd⟩ : ∃ wd, wd = w2.drew := ⟨_, rfl⟩
            have hbd : Below w2.heap.size w2 wd := by rw [hwd]; exact below_drewN (Below.refl _ _) 1
            have hb2d := Below.then hb2 hbd
            have hJD := HJW.out.over hb2d
            have hXD := hR.blk.over hb2d
            have hND := hN.over hb2d
            have hrow := own_over hR.row hb2d
            obtain ⟨ge, oe, bA, bc, hAw, _, _, y0, y1, hrb, _, _⟩ := hJD.want.2.at_ pre.length x.rc hR.at_
            have hpl : pre.length < K.length := by rw [← l1]; exact (List.getElem?_eq_some_iff.1 hR.at_).1
            have hpI : (pre.length : Int) < (K.length : Int) := by omega
            have hpd : decide (K.length ≤ pre.length) = false := by simpa using hpl
            have hpd2 : decide ((pre.length : Int) ≥ (K.length : Int)) = false := by simpa using hpl
            have HSB : Hid (∀ W', Below wd.heap.size wd W' → ((W'.cell? ⟨nb, 0, none⟩ = some (.int .i64 (pre.length : Int)) ∧ W'.cell? ⟨W6, 0, none⟩ = some (.slice Aw K.length cw)) ∧ (W'.cell? ⟨W5, 0, none⟩ = some (.slice Aw (min q K.length) cw) ∧ W'.cell? ⟨Bx, 0, none⟩ = some (.int .i64 x.rc.kind))) ∧ (W'.cell? ⟨Bx, 1, none⟩ = some (.slice x.A x.rc.body.length x.c) ∧ (W'.cell? ⟨ge, oe + pre.length * 2, none⟩ = some (.int .i64 x.rc.kind) ∧ W'.cell? ⟨ge, oe + pre.length * 2 + 1, none⟩ = some (.slice bA x.rc.body.length bc)))) :=
              Lib.hid fun W' hW => ⟨⟨⟨(hND.over hW).cell 0, (hJD.ja.al.over hW).cell 0⟩, (hJD.ja.wn.over hW).cell 0, (hXD.over hW).cell 0⟩, (hXD.over hW).cell 1, cell_below hW y0, cell_below hW y1⟩
            have HRE := Lib.hid (record_yes (w := wd) x.rc.kind x.A bA x.rc.body.length x.c bc x.rc.body (Rd.of_own hrow) hrb)
            have HWANT := Lib.hid (fun W' (hW : Below wd.heap.size wd W') => records_yes (c1 := ci) (c2 := cw) ((hk.below hbd).below hW) (hJD.over hW).want.1 (by omega))
            have HWD := Lib.hid hwd
            have HB2D := Lib.hid hb2d
            have HL3 := Lib.hid hlt3
            subst hAw
            clear hwd hbd hb2d hJD hXD hND hrow y0 y1 hrb hk hb2 x0 e0 hlt3
            refine wpIn_calm ?_
            refine round_held (S := fun W' => ((W'.cell? ⟨nb, 0, none⟩ = some (.int .i64 (pre.length : Int)) ∧ W'.cell? ⟨W6, 0, none⟩ = some (.slice (some ⟨ge, oe, none⟩) K.length cw)) ∧ (W'.cell? ⟨W5, 0, none⟩ = some (.slice (some ⟨ge, oe, none⟩) (min q K.length) cw) ∧ W'.cell? ⟨Bx, 0, none⟩ = some (.int .i64 x.rc.kind))) ∧ (W'.cell? ⟨Bx, 1, none⟩ = some (.slice x.A x.rc.body.length x.c) ∧ (W'.cell? ⟨ge, oe + pre.length * 2, none⟩ = some (.int .i64 x.rc.kind) ∧ W'.cell? ⟨ge, oe + pre.length * 2 + 1, none⟩ = some (.slice bA x.rc.body.length bc)))) (by kernel_rfl) (by kernel_rfl) (fun ⟨_, _, h⟩ => h) (by rw [← HWD.out]; exact HSB.out _ (Below.refl _ _)) (fun hsw => ?_)
            rw [← HWD.out] at hsw ⊢
            refine wpAnyH_take (i := 0) (oi := ?oi0ja) (v := ?v0ja) ?hi0ja (by kernel_rfl) (by kernel_rfl) (by kernel_rfl) ?hq0ja ?hy0ja (by assumption) ?rest0ja
            case hi0ja => (simp only [List.getElem?_toArray, List.getElem?_cons_zero]; rfl)
            case hy0ja => (refine Or.inl ⟨by rfl, ?_⟩; intro w hSw; (try dsimp only at hSw); go_simp; try with_reducible rfl)
            case hq0ja => exact fun _ _ _ h => h
            try simp only [Act.put, List.setIfInBounds_toArray, List.set_cons_zero, List.set_cons_succ]
            refine wpAnyH_take (i := 1) (oi := ?oi1ja) (v := ?v1ja) ?hi1ja (by kernel_rfl) (by kernel_rfl) (by kernel_rfl) ?hq1ja ?hy1ja (by assumption) ?rest1ja
            case hi1ja => (simp only [List.getElem?_toArray, List.getElem?_cons_zero, List.getElem?_cons_succ]; rfl)
            case hy1ja => (refine Or.inl ⟨by rfl, ?_⟩; intro w hSw; (try dsimp only at hSw); go_simp; try with_reducible rfl)
            case hq1ja => exact fun _ _ _ h => h
            try simp only [Act.put, List.setIfInBounds_toArray, List.set_cons_zero, List.set_cons_succ]
            refine wpAnyH_take (i := 2) (oi := ?oi2ja) (v := ?v2ja) ?hi2ja (by kernel_rfl) (by kernel_rfl) (by kernel_rfl) ?hq2ja ?hy2ja (by assumption) ?rest2ja
            case hi2ja => (simp only [List.getElem?_toArray, List.getElem?_cons_zero, List.getElem?_cons_succ]; rfl)
            case hy2ja => (refine Or.inl ⟨by rfl, ?_⟩; intro w hSw; (try dsimp only at hSw); go_simp; try with_reducible rfl)
            case hq2ja => exact fun _ _ _ h => h
            try simp only [Act.put, List.setIfInBounds_toArray, List.set_cons_zero, List.set_cons_succ]
            refine wpAnyH_take (i := 3) (oi := ?oi3ja) (v := ?v3ja) ?hi3ja (by kernel_rfl) (by kernel_rfl) (by kernel_rfl) ?hq3ja ?hy3ja (by assumption) ?rest3ja
            case hi3ja => (simp only [List.getElem?_toArray, List.getElem?_cons_zero, List.getElem?_cons_succ]; rfl)
            case hy3ja => (refine Or.inl ⟨by rfl, ?_⟩; intro w hSw; (try dsimp only at hSw); go_simp; try with_reducible rfl)
            case hq3ja => exact fun _ _ _ h => h
            try simp only [Act.put, List.setIfInBounds_toArray, List.set_cons_zero, List.set_cons_succ]
            refine wpAnyH_take (i := 4) (oi := ?oi4ja) (v := ?v4ja) ?hi4ja (by kernel_rfl) (by kernel_rfl) (by kernel_rfl) ?hq4ja ?hy4ja (by assumption) ?rest4ja
            case hi4ja => (simp only [List.getElem?_toArray, List.getElem?_cons_zero, List.getElem?_cons_succ]; rfl)
            case hy4ja => (refine Or.inl ⟨by rfl, ?_⟩; intro w hSw; (try dsimp only at hSw); go_simp; try with_reducible rfl)
            case hq4ja => exact fun _ _ _ h => h
            try simp only [Act.put, List.setIfInBounds_toArray, List.set_cons_zero, List.set_cons_succ]
            refine wpAnyH_take (i := 5) (oi := ?oi5ja) (v := ?v5ja) ?hi5ja (by kernel_rfl) (by kernel_rfl) (by kernel_rfl) ?hq5ja ?hy5ja (by assumption) ?rest5ja
            case hi5ja => (simp only [List.getElem?_toArray, List.getElem?_cons_zero, List.getElem?_cons_succ]; rfl)
            case hy5ja => (refine Or.inl ⟨by rfl, ?_⟩; intro w hSw; (try dsimp only at hSw); go_simp; try with_reducible rfl)
            case hq5ja => exact fun _ _ _ h => h
            try simp only [Act.put, List.setIfInBounds_toArray, List.set_cons_zero, List.set_cons_succ]
            refine wpAnyH_take (i := 6) (oi := ?oi6ja) (v := ?v6ja) ?hi6ja (by kernel_rfl) (by kernel_rfl) (by kernel_rfl) ?hq6ja ?hy6ja (by assumption) ?rest6ja
            case hi6ja => (simp only [List.getElem?_toArray, List.getElem?_cons_zero, List.getElem?_cons_succ]; rfl)
            case hy6ja => (refine Or.inl ⟨by rfl, ?_⟩; intro w hSw; (try dsimp only at hSw); go_simp; try with_reducible rfl)
            case hq6ja => exact fun _ _ _ h => h
            try simp only [Act.put, List.setIfInBounds_toArray, List.set_cons_zero, List.set_cons_succ]
            refine wpAnyH_take (i := 7) (oi := ?oi7ja) (v := ?v7ja) ?hi7ja (by kernel_rfl) (by kernel_rfl) (by kernel_rfl) ?hq7ja ?hy7ja (by assumption) ?rest7ja
            case hi7ja => (simp only [List.getElem?_toArray, List.getElem?_cons_zero, List.getElem?_cons_succ]; rfl)
            case hy7ja => (refine Or.inl ⟨by rfl, ?_⟩; intro w hSw; (try dsimp only at hSw); go_simp; try with_reducible rfl)
            case hq7ja => exact fun _ _ _ h => h
            try simp only [Act.put, List.setIfInBounds_toArray, List.set_cons_zero, List.set_cons_succ]
            refine wpAnyH_take (i := 8) (oi := ?oi8ja) (v := ?v8ja) ?hi8ja (by kernel_rfl) (by kernel_rfl) (by kernel_rfl) ?hq8ja ?hy8ja (by assumption) ?rest8ja
            case hi8ja => (simp only [List.getElem?_toArray, List.getElem?_cons_zero, List.getElem?_cons_succ]; rfl)
            case hy8ja => (refine Or.inl ⟨by rfl, ?_⟩; intro w hSw; (try dsimp only at hSw); go_simp; try with_reducible rfl)
            case hq8ja => exact fun _ _ _ h => h
            try simp only [Act.put, List.setIfInBounds_toArray, List.set_cons_zero, List.set_cons_succ]
            refine wpAnyH_take (i := 9) (oi := ?oi9ja) (v := ?v9ja) ?hi9ja (by kernel_rfl) (by kernel_rfl) (by kernel_rfl) ?hq9ja ?hy9ja (by assumption) ?rest9ja
            case hi9ja => (simp only [List.getElem?_toArray, List.getElem?_cons_zero, List.getElem?_cons_succ]; rfl)
            case hy9ja => (refine Or.inl ⟨by rfl, ?_⟩; intro w hSw; (try dsimp only at hSw); go_simp; try with_reducible rfl)
            case hq9ja => exact fun _ _ _ h => h
            try simp only [Act.put, List.setIfInBounds_toArray, List.set_cons_zero, List.set_cons_succ]
            refine wpAnyH_take (i := 10) (oi := ?oi10ja) (v := ?v10ja) ?hi10ja (by kernel_rfl) (by kernel_rfl) (by kernel_rfl) ?hq10ja ?hy10ja (by assumption) ?rest10ja
            case hi10ja => (simp only [List.getElem?_toArray, List.getElem?_cons_zero, List.getElem?_cons_succ]; rfl)
            case hy10ja => (refine Or.inl ⟨by rfl, ?_⟩; intro w hSw; (try dsimp only at hSw); go_simp; try with_reducible rfl)
            case hq10ja => exact fun _ _ _ h => h
            try simp only [Act.put, List.setIfInBounds_toArray, List.set_cons_zero, List.set_cons_succ]
            refine wpAnyH_take (i := 11) (oi := ?oi11ja) (v := ?v11ja) ?hi11ja (by kernel_rfl) (by kernel_rfl) (by kernel_rfl) ?hq11ja ?hy11ja (by assumption) ?rest11ja
            case hi11ja => (simp only [List.getElem?_toArray, List.getElem?_cons_zero, List.getElem?_cons_succ]; rfl)
            case hy11ja => (refine Or.inl ⟨by rfl, ?_⟩; intro w hSw; (try dsimp only at hSw); go_simp; try with_reducible rfl)
            case hq11ja => exact fun _ _ _ h => h
            try simp only [Act.put, List.setIfInBounds_toArray, List.set_cons_zero, List.set_cons_succ]
            refine wpAnyH_take (i := 12) (oi := ?oi12ja) (v := ?v12ja) ?hi12ja (by kernel_rfl) (by kernel_rfl) (by kernel_rfl) ?hq12ja ?hy12ja (by assumption) ?rest12ja
            case hi12ja => (simp only [List.getElem?_toArray, List.getElem?_cons_zero, List.getElem?_cons_succ]; rfl)
            case hy12ja => (refine Or.inl ⟨by rfl, ?_⟩; intro w hSw; (try dsimp only at hSw); go_simp; try with_reducible rfl)
            case hq12ja => exact fun _ _ _ h => h
            try simp only [Act.put, List.setIfInBounds_toArray, List.set_cons_zero, List.set_cons_succ]
            refine wpAnyH_take (i := 13) (oi := ?oi13ja) (v := ?v13ja) ?hi13ja (by kernel_rfl) (by kernel_rfl) (by kernel_rfl) ?hq13ja ?hy13ja (by assumption) ?rest13ja
            case hi13ja => (simp only [List.getElem?_toArray, List.getElem?_cons_zero, List.getElem?_cons_succ]; rfl)
            case hy13ja => (refine Or.inl ⟨by rfl, ?_⟩; intro w hSw; (try dsimp only at hSw); go_simp; try with_reducible rfl)
            case hq13ja => exact fun _ _ _ h => h
            try simp only [Act.put, List.setIfInBounds_toArray, List.set_cons_zero, List.set_cons_succ]
            refine wpAnyH_take (i := 14) (oi := ?oi14ja) (v := ?v14ja) ?hi14ja (by kernel_rfl) (by kernel_rfl) (by kernel_rfl) ?hq14ja ?hy14ja (by assumption) ?rest14ja
            case hi14ja => (simp only [List.getElem?_toArray, List.getElem?_cons_zero, List.getElem?_cons_succ]; rfl)
            case hy14ja => (refine Or.inl ⟨by rfl, ?_⟩; intro w hSw; (try dsimp only at hSw); go_simp; try with_reducible rfl)
            case hq14ja => exact fun _ _ _ h => h
            try simp only [Act.put, List.setIfInBounds_toArray, List.set_cons_zero, List.set_cons_succ]
            refine wpAnyH_take (i := 15) (oi := ?oi15ja) (v := ?v15ja) ?hi15ja (by kernel_rfl) (by kernel_rfl) (by kernel_rfl) ?hq15ja ?hy15ja (by assumption) ?rest15ja
            case hi15ja => (simp only [List.getElem?_toArray, List.getElem?_cons_zero, List.getElem?_cons_succ]; rfl)
            case hy15ja => (refine Or.inl ⟨by rfl, ?_⟩; intro w hSw; (try dsimp only at hSw); go_simp; try with_reducible rfl)
            case hq15ja => exact fun _ _ _ h => h
            try simp only [Act.put, List.setIfInBounds_toArray, List.set_cons_zero, List.set_cons_succ]
            refine wpAnyH_take (i := 16) (oi := ?oi16ja) (v := ?v16ja) ?hi16ja (by kernel_rfl) (by kernel_rfl) (by kernel_rfl) ?hq16ja ?hy16ja (by assumption) ?rest16ja
            case hi16ja => (simp only [List.getElem?_toArray, List.getElem?_cons_zero, List.getElem?_cons_succ]; rfl)
            case hy16ja => (refine Or.inl ⟨by rfl, ?_⟩; intro w hSw; (try dsimp only at hSw); go_simp; try with_reducible rfl)
            case hq16ja => exact fun _ _ _ h => h
            try simp only [Act.put, List.setIfInBounds_toArray, List.set_cons_zero, List.set_cons_succ]
            refine wpAnyH_take (i := 17) (oi := ?oi17ja) (v := ?v17ja) ?hi17ja (by kernel_rfl) (by kernel_rfl) (by kernel_rfl) ?hq17ja ?hy17ja (by assumption) ?rest17ja
            case hi17ja => (simp only [List.getElem?_toArray, List.getElem?_cons_zero, List.getElem?_cons_succ]; rfl)
            case hy17ja => (refine Or.inl ⟨by rfl, ?_⟩; intro w hSw; (try dsimp only at hSw); go_simp; try with_reducible rfl)
            case hq17ja => exact fun _ _ _ h => h
            try simp only [Act.put, List.setIfInBounds_toArray, List.set_cons_zero, List.set_cons_succ]
            refine wpAnyH_take (i := 18) (oi := ?oi18ja) (v := ?v18ja) ?hi18ja (by kernel_rfl) (by kernel_rfl) (by kernel_rfl) ?hq18ja ?hy18ja (by assumption) ?rest18ja
            case hi18ja => (simp only [List.getElem?_toArray, List.getElem?_cons_zero, List.getElem?_cons_succ]; rfl)
            case hy18ja => (refine Or.inl ⟨by rfl, ?_⟩; intro w hSw; (try dsimp only at hSw); go_simp; try with_reducible rfl)
            case hq18ja => exact fun _ _ _ h => h
            try simp only [Act.put, List.setIfInBounds_toArray, List.set_cons_zero, List.set_cons_succ]
            refine wpAnyH_ready (rs := [19]) (by kernel_rfl) (by simp) ?_
            refine AllReadyH.cons (o := ?o19jb) ?ho19jb (fun K hK => ?st19jb) ?mo19jb
            case ho19jb => (simp only [List.getElem?_toArray, List.getElem?_cons_zero, List.getElem?_cons_succ]; rfl)
            · skip
              go_simp
              refine HRE.out.mono ?_
              rintro _ w3 ⟨rfl, hb3⟩
              have HRY := Lib.hid (HWANT.out w3 hb3)
              have HB3 := Lib.hid hb3
              clear hb3
              go_simp
              refine hK.out _ _ (HSB.out _ HB3.out) (fun _ => ?_)
              clear hK K
              try simp only [Act.put, List.setIfInBounds_toArray, List.set_cons_zero, List.set_cons_succ]
              refine wpAnyH_take (i := 20) (oi := ?oi20jc) (v := ?v20jc) ?hi20jc (by kernel_rfl) (by kernel_rfl) (by kernel_rfl) ?hq20jc ?hy20jc (by assumption) ?rest20jc
              case hi20jc => (simp only [List.getElem?_toArray, List.getElem?_cons_zero, List.getElem?_cons_succ]; rfl)
              case hy20jc => (refine Or.inl ⟨by rfl, ?_⟩; intro w hSw; (try dsimp only at hSw); go_simp; try with_reducible rfl)
              case hq20jc => exact fun _ _ _ h => h
              try simp only [Act.put, List.setIfInBounds_toArray, List.set_cons_zero, List.set_cons_succ]
              refine wpAnyH_take (i := 21) (oi := ?oi21jc) (v := ?v21jc) ?hi21jc (by kernel_rfl) (by kernel_rfl) (by kernel_rfl) ?hq21jc ?hy21jc (by assumption) ?rest21jc
              case hi21jc => (simp only [List.getElem?_toArray, List.getElem?_cons_zero, List.getElem?_cons_succ]; rfl)
              case hy21jc => (refine Or.inl ⟨by rfl, ?_⟩; intro w hSw; (try dsimp only at hSw); go_simp; try with_reducible rfl)
              case hq21jc => exact fun _ _ _ h => h
              try simp only [Act.put, List.setIfInBounds_toArray, List.set_cons_zero, List.set_cons_succ]
              refine wpAnyH_take (i := 22) (oi := ?oi22jc) (v := ?v22jc) ?hi22jc (by kernel_rfl) (by kernel_rfl) (by kernel_rfl) ?hq22jc ?hy22jc (by assumption) ?rest22jc
              case hi22jc => (simp only [List.getElem?_toArray, List.getElem?_cons_zero, List.getElem?_cons_succ]; rfl)
              case hy22jc => (refine Or.inl ⟨by rfl, ?_⟩; intro w hSw; (try dsimp only at hSw); go_simp; try with_reducible rfl)
              case hq22jc => exact fun _ _ _ h => h
              try simp only [Act.put, List.setIfInBounds_toArray, List.set_cons_zero, List.set_cons_succ]
              refine wpAnyH_take (i := 23) (oi := ?oi23jc) (v := ?v23jc) ?hi23jc (by kernel_rfl) (by kernel_rfl) (by kernel_rfl) ?hq23jc ?hy23jc (by assumption) ?rest23jc
              case hi23jc => (simp only [List.getElem?_toArray, List.getElem?_cons_zero, List.getElem?_cons_succ]; rfl)
              case hy23jc => (refine Or.inl ⟨by rfl, ?_⟩; intro w hSw; (try dsimp only at hSw); go_simp; try with_reducible rfl)
              case hq23jc => exact fun _ _ _ h => h
              try simp only [Act.put, List.setIfInBounds_toArray, List.set_cons_zero, List.set_cons_succ]
              refine wpAnyH_take (i := 24) (oi := ?oi24jc) (v := ?v24jc) ?hi24jc (by kernel_rfl) (by kernel_rfl) (by kernel_rfl) ?hq24jc ?hy24jc (by assumption) ?rest24jc
              case hi24jc => (simp only [List.getElem?_toArray, List.getElem?_cons_zero, List.getElem?_cons_succ]; rfl)
              case hy24jc => (refine Or.inl ⟨by rfl, ?_⟩; intro w hSw; (try dsimp only at hSw); go_simp; try with_reducible rfl)
              case hq24jc => exact fun _ _ _ h => h
              try simp only [Act.put, List.setIfInBounds_toArray, List.set_cons_zero, List.set_cons_succ]
              refine wpAnyH_ready (rs := [25]) (by kernel_rfl) (by simp) ?_
              refine AllReadyH.cons (o := ?o25jd) ?ho25jd (fun K hK => ?st25jd) ?mo25jd
              case ho25jd => (simp only [List.getElem?_toArray, List.getElem?_cons_zero, List.getElem?_cons_succ]; rfl)
              · skip
                go_simp
                refine HRY.out.mono ?_
                rintro _ w4 ⟨rfl, hb4⟩
                have HB4 := Lib.hid (Below.then HB3.out hb4)
                clear hb4
                go_simp
                refine hK.out _ _ (HSB.out _ HB4.out) (fun _ => ?_)
                clear hK K
                try simp only [Act.put, List.setIfInBounds_toArray, List.set_cons_zero, List.set_cons_succ]
                refine wpAnyH_take (i := 26) (oi := ?oi26je) (v := ?v26je) ?hi26je (by kernel_rfl) (by kernel_rfl) (by kernel_rfl) ?hq26je ?hy26je (by assumption) ?rest26je
                case hi26je => (simp only [List.getElem?_toArray, List.getElem?_cons_zero, List.getElem?_cons_succ]; rfl)
                case hy26je => (refine Or.inl ⟨by rfl, ?_⟩; intro w hSw; (try dsimp only at hSw); go_simp; try with_reducible rfl)
                case hq26je => exact fun _ _ _ h => h
                try simp only [Act.put, List.setIfInBounds_toArray, List.set_cons_zero, List.set_cons_succ]
                refine wpAnyH_take (i := 27) (oi := ?oi27je) (v := ?v27je) ?hi27je (by kernel_rfl) (by kernel_rfl) (by kernel_rfl) ?hq27je ?hy27je (by assumption) ?rest27je
                case hi27je => (simp only [List.getElem?_toArray, List.getElem?_cons_zero, List.getElem?_cons_succ]; rfl)
                case hy27je => (refine Or.inl ⟨by rfl, ?_⟩; intro w hSw; (try dsimp only at hSw); go_simp; try with_reducible rfl)
                case hq27je => exact fun _ _ _ h => h
                try simp only [Act.put, List.setIfInBounds_toArray, List.set_cons_zero, List.set_cons_succ]
                refine wpAnyH_done (by kernel_rfl) ?_ _
                have hbw4 := Below.then HB2D.out HB4.out
                have hN4 : Blk w4 nb 3 #[.int .i64 (pre.length : Int)] := hN.over hbw4
                have n0' : w4.cell? ⟨nb, 0, none⟩ = some (.int .i64 (pre.length : Int)) := hN4.cell 0
                have n1' : w4.frozen? ⟨nb, 0, none⟩ = false := hN4.frozen 0
                have HX : Hid (KeepsFrom w8.heap.size W (w4.setCell ⟨nb, 0, none⟩ (.int .i64 ((pre.length : Int) + 1))) ∧ KpOf (fun k => wp.heap.size ≤ k ∧ k < w7.heap.size) W (w4.setCell ⟨nb, 0, none⟩ (.int .i64 ((pre.length : Int) + 1))) ∧ Rin w7 nb (pre ++ [x]) (w4.setCell ⟨nb, 0, none⟩ (.int .i64 ((pre.length : Int) + 1)))) := by
                  have hcs := one_set w4 nb (.int .i64 ((pre.length : Int) + 1))
                  have hnb := HNB.out.1
                  refine Lib.hid ⟨(keeps_below hbw4).trans ((KeepsOthers.setCell _ _ _).from _), Chg.trans (Chg.of_below hbw4 _) (hcs.mono fun k _ e h => by omega), (hbW.trans (hbw4.mono hbW.size)).trans (hcs.to_below (Nat.le_trans hbW.size hbw4.size) fun k e => by omega), ?_⟩
                  rw [show (((pre ++ [x]).length : Nat) : Int) = (pre.length : Int) + 1 by simp]
                  exact hN4.set_ 0 _
                clear hN4 hbw4 hbW hN
                have hpl6 : pre.length ≤ 65536 := by omega
                gi_wp2
                · rename_i hh
                  have hh2 := eq_of_beq hh
                  exact ⟨HX.out.1, HX.out.2.2, rfl, by rw [List.length_append, List.length_singleton]; omega⟩
                · rename_i hh
                  have hh2 := ne_of_beq_false hh
                  exact ⟨HX.out.1, HX.out.2.1, HX.out.2.2, by have := HL3.out; rw [List.length_append, List.length_singleton]; omega⟩
              exact AllReadyH.nil
            exact AllReadyH.nil
          case done =>
            rintro D xs W hD hS ⟨⟨hbW, hN⟩, hlt⟩ hd
            have hlen : xs.length = K.length := by
              have h1 := congrArg List.length (show xs.map Gv.rc = giveR f from hS)
              rw [List.length_map] at h1
              rw [h1, l1]
            rw [hlen] at hN
            have h3 : ((K.length : Int) == 3) = false := by rw [beq_eq_false_iff_ne]; omega
            have n0' : W.cell? ⟨nb, 0, none⟩ = some (.int .i64 (K.length : Int)) := hN.cell 0
            have HJW := Lib.hid (HJ7.out.over hbW)
            have a0 : W.cell? ⟨W6, 0, none⟩ = some (.slice Aw K.length cw) := HJW.out.ja.al.cell 0
            have z0 : W.cell? ⟨C, 0, none⟩ = some (.slice (some ⟨ga, 0, none⟩) f.a.length pa) := HJW.out.pr.c.cell 0
            have z1 : W.cell? ⟨C, 1, none⟩ = some (.slice (some ⟨gb, 0, none⟩) f.b.length pb) := HJW.out.pr.c.cell 1
            have y0 : W.cell? ⟨w.heap.size, 0, none⟩ = some (.slice DA f.a.length ca) := HJW.out.pr.x0.cell 0
            have y1 : W.cell? ⟨w.heap.size, 1, none⟩ = some (.slice DB f.b.length cb) := HJW.out.pr.x0.cell 1
            have r0 : W.cell? ⟨w.heap.size + 1 + 1, 0, none⟩ = some (.bool false) := HJW.out.ja.r.cell 0
            have r1 : W.frozen? ⟨w.heap.size + 1 + 1, 0, none⟩ = false := HJW.out.ja.r.frozen 0
            have HIA : Hid (RdB W w.heap.size DA f.a.length f.a) := Lib.hid (HRA.out _ HJW.out.pr.bw)
            have HIB : Hid (RdB W w.heap.size DB f.b.length f.b) := Lib.hid (HRB.out _ HJW.out.pr.bw)
            clear hbW hN
            go_wp2_with (go_at_call 16; refine (intact_sp _ _ w.heap.size _ _ (by first | exact HJW.out.pr.sa | exact HJW.out.pr.sb) (by first | exact HIA.out | exact HIB.out)).mono ?_; rintro _ _ ⟨rfl, rfl⟩)
            have hJR := HJW.out.ja.r.set_ 0 (.bool true)
            have hJL := HJW.out.ja.r.lt
            have hbz := HJW.out.ja.bw
            have hs78 := hb8.size
            have hDl : w.heap.size + 1 + 1 < w8.heap.size := Nat.lt_of_lt_of_le HJ7.out.ja.r.lt hs78
            have hd2 : (W.setCell ⟨w.heap.size + 1 + 1, 0, none⟩ (.bool true)).heap[D]? = some (.deferred (some [])) := (Below.heap_setCell W ⟨w.heap.size + 1 + 1, 0, none⟩ (.bool true) D (by intro e; have e2 : D = w.heap.size + 1 + 1 := e; omega)).trans hd
            have hbs : Below w.heap.size w (W.setCell ⟨w.heap.size + 1 + 1, 0, none⟩ (.bool true)) := hbz.setCell (by simp; omega) _
            generalize W.setCell ⟨w.heap.size + 1 + 1, 0, none⟩ (.bool true) = wz at hJR hd2 hbs ⊢
            refine ⟨by simp, .inl ⟨_, _, rfl, run_takeDeferred hd2, ?_⟩⟩
            have hBz : Blk (wz.putObj D (.deferred none)) (w.heap.size + 1 + 1) 4 #[.bool true] := (World.putObj_heap_other (by omega)).trans hJR
            have y9 : (wz.putObj D (.deferred none)).cell? ⟨w.heap.size + 1 + 1, 0, none⟩ = some (.bool true) := hBz.cell 0
            refine ⟨.bool true, ?_, rfl, hbs.trans (belowK_b (w := w) (Nat.le_refl _) wz D _ _ (by omega) hd2 rfl rfl)⟩
            simp only [results]
            rw [show Tryd.f3.results = #[.cell 4 4] from rfl]
            simp [y9, go_sem]
          case stop =>
            rintro D _ xs W hD ⟨⟨hbW, hN⟩, rfl, hlq⟩ hd
            rw [hlq] at hN
            have n0' : W.cell? ⟨nb, 0, none⟩ = some (.int .i64 3) := hN.cell 0
            have HJW := Lib.hid (HJ7.out.over hbW)
            have a0 : W.cell? ⟨W6, 0, none⟩ = some (.slice Aw K.length cw) := HJW.out.ja.al.cell 0
            have z0 : W.cell? ⟨C, 0, none⟩ = some (.slice (some ⟨ga, 0, none⟩) f.a.length pa) := HJW.out.pr.c.cell 0
            have z1 : W.cell? ⟨C, 1, none⟩ = some (.slice (some ⟨gb, 0, none⟩) f.b.length pb) := HJW.out.pr.c.cell 1
            have y0 : W.cell? ⟨w.heap.size, 0, none⟩ = some (.slice DA f.a.length ca) := HJW.out.pr.x0.cell 0
            have y1 : W.cell? ⟨w.heap.size, 1, none⟩ = some (.slice DB f.b.length cb) := HJW.out.pr.x0.cell 1
            have r0 : W.cell? ⟨w.heap.size + 1 + 1, 0, none⟩ = some (.bool false) := HJW.out.ja.r.cell 0
            have r1 : W.frozen? ⟨w.heap.size + 1 + 1, 0, none⟩ = false := HJW.out.ja.r.frozen 0
            have HIA : Hid (RdB W w.heap.size DA f.a.length f.a) := Lib.hid (HRA.out _ HJW.out.pr.bw)
            have HIB : Hid (RdB W w.heap.size DB f.b.length f.b) := Lib.hid (HRB.out _ HJW.out.pr.bw)
            clear hbW hN
            refine wpIn_wide.2 ?_
            go_wp2_with (go_at_call 16; refine (intact_sp _ _ w.heap.size _ _ (by first | exact HJW.out.pr.sa | exact HJW.out.pr.sb) (by first | exact HIA.out | exact HIB.out)).mono ?_; rintro _ _ ⟨rfl, rfl⟩)
            have hJR := HJW.out.ja.r.set_ 0 (.bool true)
            have hJL := HJW.out.ja.r.lt
            have hbz := HJW.out.ja.bw
            have hs78 := hb8.size
            have hDl : w.heap.size + 1 + 1 < w8.heap.size := Nat.lt_of_lt_of_le HJ7.out.ja.r.lt hs78
            have hd2 : (W.setCell ⟨w.heap.size + 1 + 1, 0, none⟩ (.bool true)).heap[D]? = some (.deferred (some [])) := (Below.heap_setCell W ⟨w.heap.size + 1 + 1, 0, none⟩ (.bool true) D (by intro e; have e2 : D = w.heap.size + 1 + 1 := e; omega)).trans hd
            have hbs : Below w.heap.size w (W.setCell ⟨w.heap.size + 1 + 1, 0, none⟩ (.bool true)) := hbz.setCell (by simp; omega) _
            generalize W.setCell ⟨w.heap.size + 1 + 1, 0, none⟩ (.bool true) = wz at hJR hd2 hbs ⊢
            refine ⟨by simp, .inl ⟨_, _, rfl, run_takeDeferred hd2, ?_⟩⟩
            have hBz : Blk (wz.putObj D (.deferred none)) (w.heap.size + 1 + 1) 4 #[.bool true] := (World.putObj_heap_other (by omega)).trans hJR
            have y9 : (wz.putObj D (.deferred none)).cell? ⟨w.heap.size + 1 + 1, 0, none⟩ = some (.bool true) := hBz.cell 0
            refine ⟨.bool true, ?_, rfl, hbs.trans (belowK_b (w := w) (Nat.le_refl _) wz D _ _ (by omega) hd2 rfl rfl)⟩
            simp only [results]
            rw [show Tryd.f3.results = #[.cell 4 4] from rfl]
            simp [y9, go_sem]
theorem JournalEach_walk (A0 : Option Addr) (n0 k0 : Nat) (x0 : List UInt8) (A1 : Option Addr) (n1 k1 : Nat) (x1 : List UInt8) (en : Int) (w : World) (_u0 : n0 ≤ 1048576) (p0 : n0 ≤ k0) (q0 : k0 ≤ 140737488351232) (r0 : RdB w w.heap.size A0 n0 x0)
    (_u1 : n1 ≤ 1048576) (p1 : n1 ≤ k1) (q1 : k1 ≤ 140737488351232) (r1 : RdB w w.heap.size A1 n1 x1) (b : -9223372036854775808 ≤ en) (t : en ≤ 9223372036854775807) (ht : Nibs w) :
    Calls Tryd.prog 3 #[.agg #[.slice A0 n0 k0, .slice A1 n1 k1], .int .i64 en] w fun e w' => e = .returned (.bool true) ∧ Below w.heap.size w w' := by
  obtain rfl := r0.lenB
  obtain rfl := r1.lenB
  exact JEach_go A0 A1 k0 k1 ⟨x0, x1⟩ en w r0 r1 p0 p1 q0 q1 ⟨b, t⟩ ht
end Go.Proofs.YtpkdalpjfcopbaaDoor
