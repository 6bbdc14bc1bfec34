/-
  The statements' helper list: the program's list and the document's.
-/
import Derived.Test.YtfjpmoigpnmeoaaDLaw1
import Derived.Deep.RegionHeld3
namespace Go.Proofs.Ytfjpmoigpnmeoaa
open Go.RowKit
variable {w : World} {c : Cfg} {D K : Nat}

theorem RDx.parts {F : Nat → Prop} {l : List Ev} (h : RDx w F c K l) : ∃ v, RD w F c K l v ∧ (∀ k, F k → k < w.heap.size) ∧ ∀ x ∈ l, x.Ok := by
  obtain ⟨h0, ho, v, h⟩ := h
  exact ⟨v, h, h0, ho⟩
def lstOf (kind : Int) (c : Cfg) (d : DSt) : List Int := if kind = 4 then d.tick :: hearsL c d else if kind = 5 then hearsL c d else if kind = 6 then estL c d else if kind = 7 then suspL c d c.n else []
/-- Two lists that read the same, each a row of the call's own. -/
def ListsP (w : World) (L : List Int) (e : Ending) (w' : World) : Prop := ∃ A1 cap1 A2 cap2, e = .returned (.tuple #[.slice A1 L.length cap1, .slice A2 L.length cap2]) ∧
  w'.ownsRow w.heap.size 3 1 (.slice A1 L.length cap1) L.length (ivs L) ∧ w'.ownsRow w.heap.size 3 1 (.slice A2 L.length cap2) L.length (ivs L) ∧ Below w.heap.size w w'
theorem GivesL.two {w w1 w2 : World} {l : List Int} {e1 e2 : Ending} (h1 : GivesL w l e1 w1) (h2 : GivesL w1 l e2 w2) : ∃ A1 cap1 A2 cap2, e1 = .returned (.slice A1 l.length cap1) ∧ e2 = .returned (.slice A2 l.length cap2) ∧
    w2.ownsRow w.heap.size 3 1 (.slice A1 l.length cap1) l.length (ivs l) ∧ w2.ownsRow w.heap.size 3 1 (.slice A2 l.length cap2) l.length (ivs l) ∧ Below w.heap.size w w2 := by
  obtain ⟨A1, cap1, he1, ho1, hb1⟩ := h1
  obtain ⟨A2, cap2, he2, ho2, hb2⟩ := h2
  exact ⟨A1, cap1, A2, cap2, he1, he2, own_over ho1 hb2, own_base ho2 hb1.size, hb1.trans (hb2.mono hb1.size)⟩
/-- Where the two rows stand while they are built. -/
structure Sts (B : Nat) (w0 w : World) (r1 r2 : Option (Value × List Int)) : Prop where
  size : B ≤ w.heap.size
  below : Below B w0 w
  o1 : ∀ v l, r1 = some (v, l) → w.ownsRow B 3 1 v l.length (ivs l)
  o2 : ∀ v l, r2 = some (v, l) → w.ownsRow B 3 1 v l.length (ivs l)
  ne : ∀ v1 l1 v2 l2 g, r1 = some (v1, l1) → r2 = some (v2, l2) → v1.ownBlock = some g → v2.ownBlock ≠ some g
theorem Sts.swap {B : Nat} {w0 w : World} {r1 r2 : Option (Value × List Int)} (h : Sts B w0 w r1 r2) : Sts B w0 w r2 r1 :=
  ⟨h.size, h.below, h.o2, h.o1, fun v1 l1 v2 l2 g e1 e2 hg hg' => h.ne v2 l2 v1 l1 g e2 e1 hg' hg⟩
theorem Sts.build {B : Nat} {w0 w : World} {r2 : Option (Value × List Int)} (h : Sts B w0 w none r2) (x : Int) (g : Nat) (hg0 : w.heap.size = g) : Sts B w0 (w.alloc (.cells #[.int .i64 x] 3)) (some (.slice (some ⟨g, 0, none⟩) 1 1, [x])) r2 := by
  subst hg0
  have hs : (w.alloc (.cells #[.int .i64 x] 3)).heap.size = w.heap.size + 1 := by simp
  refine ⟨by rw [hs]; have := h.size; omega, h.below.alloc h.size _, fun v l e => ?_, fun v l e => (h.o2 v l e).alloc _, fun v1 l1 v2 l2 g e1 e2 hg hg' => ?_⟩
  · simp only [Option.some.injEq, Prod.mk.injEq] at e
    obtain ⟨rfl, rfl⟩ := e
    exact ⟨by simp [ivs], .inr ⟨w.heap.size, 1, #[.int .i64 x], rfl, h.size, Blk.new w _ _, by simp, by simp [maxLen], by simp, by simp [ivs]⟩⟩
  · simp only [Option.some.injEq, Prod.mk.injEq] at e1
    obtain ⟨rfl, rfl⟩ := e1
    simp only [Value.ownBlock, Option.some.injEq] at hg
    have := (own_block_lt (h.o2 v2 l2 e2) hg').1
    omega
theorem Sts.app {B : Nat} {w0 w w' : World} {r2 : Option (Value × List Int)} {v v' : Value} {l m : List Int} (h : Sts B w0 w (some (v, l)) r2) (ho : w'.ownsRow B 3 1 v' (l.length + m.length) (ivs l ++ ivs m)) (hg : w.grownBy w' v.ownBlock) (hat : v'.ownBlock = v.ownBlock ∨ v'.ownBlock = some w.heap.size) :
    Sts B w0 w' (some (v', l ++ m)) r2 := by
  have hov := h.o1 v l rfl
  refine ⟨Nat.le_trans h.size hg.size, h.below.trans (below_app hov hg h.size), fun v1 l1 e => ?_, fun v2 l2 e => own_chg (h.o2 v2 l2 e) (Chg.of_grown hg) fun g hg' e' => h.ne v l v2 l2 g rfl e e'.symm hg', fun v1 l1 v2 l2 g e1 e2 hg1 hg2 => ?_⟩
  · simp only [Option.some.injEq, Prod.mk.injEq] at e
    obtain ⟨rfl, rfl⟩ := e
    rw [List.length_append, ivs_append]
    exact ho
  · simp only [Option.some.injEq, Prod.mk.injEq] at e1
    obtain ⟨rfl, rfl⟩ := e1
    rcases hat with hat | hat
    · rw [hat] at hg1
      exact h.ne v l v2 l2 g rfl e2 hg1 hg2
    · rw [hat] at hg1
      injection hg1 with hg1
      have := (own_block_lt (h.o2 v2 l2 e2) hg2).1
      omega
theorem Sts.drew {B : Nat} {w0 w : World} {r1 r2 : Option (Value × List Int)} (h : Sts B w0 w r1 r2) : Sts B w0 w.drew r1 r2 :=
  ⟨h.size, below_drewN h.below 1, fun v l e => (h.o1 v l e).drew, fun v l e => (h.o2 v l e).drew, h.ne⟩
set_option maxRecDepth 100000 in
set_option maxHeartbeats 1600000 in
theorem list_5 {Fa Fb : Nat → Prop} {l : List Ev} (hc : c.Ok) (ha : PDx w Fa c D (dOf c l)) (hb : RDx w Fb c K l) (hn : l.length < 3518437208883) :
    Calls Try.prog 36 #[.pointer (some ⟨D, 0, none⟩), .pointer (some ⟨K, 0, none⟩), .int .i64 5] w (ListsP w (hearsL c (dOf c l))) := by
  have hcc := hc
  obtain ⟨hN1, hn16, hsf, _⟩ := hcc
  obtain ⟨hFa, O, Q, C, hP⟩ := ha
  obtain ⟨v, hR, hFb, hl⟩ := hb.parts
  have HP := Lib.hid (PHears_any hP hFa hn16 hsf)
  have HR := Lib.hid fun (w1 : World) (hb1 : Below w.heap.size w w1) => RHears_any hc (hR.below hFb hb1) (fun k hk => Nat.lt_of_lt_of_le (hFb k hk) hb1.size) hl hn
  generalize hL : hearsL c (dOf c l) = L at *
  clear hL hP hR hFa hFb hl hb
  go_enter Try.func36, Try.ntmps36
  go_wp2_with fail
  refine HP.out.mono ?_
  intro e1 w1 h1
  have hb1 : Below w.heap.size w w1 := by obtain ⟨_, _, _, _, hb⟩ := h1; exact hb
  have H1 := Lib.hid h1
  obtain ⟨A1, cap1, rfl, _, _⟩ := h1
  go_wp2_with fail
  refine (HR.out w1 hb1).mono ?_
  intro e2 w2 h2
  have H2 := Lib.hid h2
  obtain ⟨A2, cap2, rfl, _, _⟩ := h2
  have HT := Lib.hid (GivesL.two H1.out H2.out)
  go_wp2
  go_ret2
  obtain ⟨A1', cap1', A2', cap2', he1, he2, ho1, ho2, hbb⟩ := HT.out
  simp only [Ending.returned.injEq, Value.slice.injEq, true_and] at he1 he2
  obtain ⟨rfl, rfl⟩ := he1
  obtain ⟨rfl, rfl⟩ := he2
  exact ⟨A1, cap1, A2, cap2, rfl, ho1, ho2, hbb⟩
set_option maxRecDepth 100000 in
set_option maxHeartbeats 1600000 in
theorem list_6 {Fa Fb : Nat → Prop} {l : List Ev} (hc : c.Ok) (ha : PDx w Fa c D (dOf c l)) (hb : RDx w Fb c K l) (hn : l.length < 3518437208883) :
    Calls Try.prog 36 #[.pointer (some ⟨D, 0, none⟩), .pointer (some ⟨K, 0, none⟩), .int .i64 6] w (ListsP w (estL c (dOf c l))) := by
  have hcc := hc
  obtain ⟨hN1, hn16, hsf, _⟩ := hcc
  obtain ⟨hFa, O, Q, C, hP⟩ := ha
  obtain ⟨v, hR, hFb, hl⟩ := hb.parts
  have HP := Lib.hid (PEst_any hP hFa hn16 hsf)
  have HR := Lib.hid fun (w1 : World) (hb1 : Below w.heap.size w w1) => REst_any hc (hR.below hFb hb1) (fun k hk => Nat.lt_of_lt_of_le (hFb k hk) hb1.size) hl hn
  generalize hL : estL c (dOf c l) = L at *
  clear hL hP hR hFa hFb hl hb
  go_enter Try.func36, Try.ntmps36
  go_wp2_with fail
  refine HP.out.mono ?_
  intro e1 w1 h1
  have hb1 : Below w.heap.size w w1 := by obtain ⟨_, _, _, _, hb⟩ := h1; exact hb
  have H1 := Lib.hid h1
  obtain ⟨A1, cap1, rfl, _, _⟩ := h1
  go_wp2_with fail
  refine (HR.out w1 hb1).mono ?_
  intro e2 w2 h2
  have H2 := Lib.hid h2
  obtain ⟨A2, cap2, rfl, _, _⟩ := h2
  have HT := Lib.hid (GivesL.two H1.out H2.out)
  go_wp2
  go_ret2
  obtain ⟨A1', cap1', A2', cap2', he1, he2, ho1, ho2, hbb⟩ := HT.out
  simp only [Ending.returned.injEq, Value.slice.injEq, true_and] at he1 he2
  obtain ⟨rfl, rfl⟩ := he1
  obtain ⟨rfl, rfl⟩ := he2
  exact ⟨A1, cap1, A2, cap2, rfl, ho1, ho2, hbb⟩
set_option maxRecDepth 100000 in
set_option maxHeartbeats 1600000 in
theorem list_7 {Fa Fb : Nat → Prop} {l : List Ev} (hc : c.Ok) (ha : PDx w Fa c D (dOf c l)) (hb : RDx w Fb c K l) (hn : l.length < 3518437208883) :
    Calls Try.prog 36 #[.pointer (some ⟨D, 0, none⟩), .pointer (some ⟨K, 0, none⟩), .int .i64 7] w (ListsP w (suspL c (dOf c l) c.n)) := by
  have hcc := hc
  obtain ⟨hN1, hn16, hsf, _⟩ := hcc
  obtain ⟨hFa, O, Q, C, hP⟩ := ha
  obtain ⟨v, hR, hFb, hl⟩ := hb.parts
  have HP := Lib.hid (PSusp_any hP hFa hn16)
  have HR := Lib.hid fun (w1 : World) (hb1 : Below w.heap.size w w1) => RSusp_any hc (hR.below hFb hb1) (fun k hk => Nat.lt_of_lt_of_le (hFb k hk) hb1.size) hl hn
  generalize hL : suspL c (dOf c l) c.n = L at *
  clear hL hP hR hFa hFb hl hb
  go_enter Try.func36, Try.ntmps36
  go_wp2_with fail
  refine HP.out.mono ?_
  intro e1 w1 h1
  have hb1 : Below w.heap.size w w1 := by obtain ⟨_, _, _, _, hb⟩ := h1; exact hb
  have H1 := Lib.hid h1
  obtain ⟨A1, cap1, rfl, _, _⟩ := h1
  go_wp2_with fail
  refine (HR.out w1 hb1).mono ?_
  intro e2 w2 h2
  have H2 := Lib.hid h2
  obtain ⟨A2, cap2, rfl, _, _⟩ := h2
  have HT := Lib.hid (GivesL.two H1.out H2.out)
  go_wp2
  go_ret2
  obtain ⟨A1', cap1', A2', cap2', he1, he2, ho1, ho2, hbb⟩ := HT.out
  simp only [Ending.returned.injEq, Value.slice.injEq, true_and] at he1 he2
  obtain ⟨rfl, rfl⟩ := he1
  obtain ⟨rfl, rfl⟩ := he2
  exact ⟨A1, cap1, A2, cap2, rfl, ho1, ho2, hbb⟩
set_option maxRecDepth 100000 in
set_option maxHeartbeats 1600000 in
theorem list_else (a b : Value) (kd : Int) (h : kd < 4 ∨ 7 < kd) :
    Calls Try.prog 36 #[a, b, .int .i64 kd] w (ListsP w []) := by
  have e4 : (kd == 4) = false := by simp; omega
  have e5 : (kd == 5) = false := by simp; omega
  have e6 : (kd == 6) = false := by simp; omega
  have e7 : (kd == 7) = false := by simp; omega
  clear h
  go_enter Try.func36, Try.ntmps36
  go_wp2
  go_ret2
  exact ⟨none, 0, none, 0, rfl, ⟨by simp [ivs], .inl ⟨rfl, rfl⟩⟩, ⟨by simp [ivs], .inl ⟨rfl, rfl⟩⟩, Below.refl _ _⟩
set_option maxRecDepth 100000 in
set_option maxHeartbeats 6400000 in
theorem list_4 {Fa Fb : Nat → Prop} {l : List Ev} (hc : c.Ok) (ha : PDx w Fa c D (dOf c l)) (hb : RDx w Fb c K l) (hn : l.length < 3518437208883) :
    Calls Try.prog 36 #[.pointer (some ⟨D, 0, none⟩), .pointer (some ⟨K, 0, none⟩), .int .i64 4] w (ListsP w ((dOf c l).tick :: hearsL c (dOf c l))) := by
  obtain ⟨i0, hi0, hz0, hz1, hz2⟩ := info_parts info_int
  have hcc := hc
  obtain ⟨hN1, hn16, hsf, _⟩ := hcc
  obtain ⟨hFa, O, Q, C, hP⟩ := ha
  obtain ⟨v, hR, hFb, hl⟩ := hb.parts
  have HLn : Hid ((hearsL c (dOf c l)).length = c.n) := Lib.hid (by simp [hearsL])
  have HP := Lib.hid (PBeat_any hP hFa hn16 hsf)
  have HR := Lib.hid fun (w1 : World) (hb1 : Below w.heap.size w w1) => RBeat_any hc (hR.below hFb hb1) (fun k hk => Nat.lt_of_lt_of_le (hFb k hk) hb1.size) hl hn
  generalize hearsL c (dOf c l) = L at *
  generalize (dOf c l).tick = t at *
  clear hP hR hFa hFb hl hb
  go_enter Try.func36, Try.ntmps36
  go_wp2_with fail
  refine HP.out.mono ?_
  rintro _ w1 ⟨A1, cap1, rfl, ho1, hb1⟩
  have hbx := one_box' w1 (.cells #[.int .i64 t, .slice A1 L.length cap1] 37)
  have hX1 := Blk.new w1 37 #[.int .i64 t, .slice A1 L.length cap1]
  have ho1' := own_over ho1 hbx
  have hb2 : Below w.heap.size w (w1.alloc (.cells #[.int .i64 t, .slice A1 L.length cap1] 37)) := hb1.trans (hbx.mono hb1.size)
  obtain ⟨w2, hw2⟩ : ∃ w2, w2 = w1.alloc (.cells #[.int .i64 t, .slice A1 L.length cap1] 37) := ⟨_, rfl⟩
  rw [← hw2] at hX1 ho1' hb2
  have HW2 := Lib.hid hw2
  have HX1 := Lib.hid hX1
  have HO1 := Lib.hid ho1'
  have hs1 := hb1.size
  clear hw2 hX1 ho1 ho1' hbx hb1
  go_upto_region 4 with fail
  rw [← HW2.out]
  go_wp2_with fail
  refine (HR.out w2 hb2).mono ?_
  rintro _ w4 ⟨A2, cap2, rfl, ho2, hb4⟩
  have hs2 := hb2.size
  have hs4 := hb4.size
  have hbx := one_box' w4 (.cells #[.int .i64 t, .slice A2 L.length cap2] 37)
  have hX2 := Blk.new w4 37 #[.int .i64 t, .slice A2 L.length cap2]
  have ho2' := own_over ho2 hbx
  have ho1' := own_over (own_over HO1.out hb4) hbx
  have hX1' := (HX1.out.over hb4).over hbx
  have hb5 : Below w.heap.size w (w4.alloc (.cells #[.int .i64 t, .slice A2 L.length cap2] 37)) := (hb2.trans (hb4.mono hs2)).trans (hbx.mono (by omega))
  obtain ⟨w5, hw5⟩ : ∃ w5, w5 = w4.alloc (.cells #[.int .i64 t, .slice A2 L.length cap2] 37) := ⟨_, rfl⟩
  rw [← hw5] at hX2 ho2' ho1' hX1' hb5
  have HW5 := Lib.hid hw5
  have hs5 := hb5.size
  have hlx1 := hX1'.lt
  have hlx2 := hX2.lt
  have HS : Hid (∀ w', Below w5.heap.size w5 w' → (fun w' => w'.cell? ⟨w1.heap.size, 0, none⟩ = some (.int .i64 t) ∧ w'.cell? ⟨w1.heap.size, 1, none⟩ = some (.slice A1 L.length cap1) ∧ w'.cell? ⟨w4.heap.size, 0, none⟩ = some (.int .i64 t) ∧ w'.cell? ⟨w4.heap.size, 1, none⟩ = some (.slice A2 L.length cap2)) w') := Lib.hid fun w' hb => ⟨(hX1'.over hb).cell 0, (hX1'.over hb).cell 1, (hX2.over hb).cell 0, (hX2.over hb).cell 1⟩
  have HRD : Hid (∀ w', Below w5.heap.size w5 w' → RdI w' w5.heap.size A1 L.length L ∧ RdI w' w5.heap.size A2 L.length L) := Lib.hid fun w' hb => ⟨(Rd.of_own ho1').below hb, (Rd.of_own ho2').below hb⟩
  have HST : Hid (Sts w5.heap.size w5 w5.drew none none) := Lib.hid (Sts.drew ⟨Nat.le_refl _, Below.refl _ _, fun _ _ e => (by cases e), fun _ _ e => (by cases e), fun _ _ _ _ _ e => (by cases e)⟩)
  have HEND : Hid (∀ (w' : World) (v1 v2 : Value), Sts w5.heap.size w5 w' (some (v1, [t] ++ L)) (some (v2, [t] ++ L)) → ListsP w (t :: L) (.returned (.tuple #[v1, v2])) w') := Lib.hid fun w' v1 v2 h => by
    have q1 := h.o1 v1 _ rfl
    have q2 := h.o2 v2 _ rfl
    obtain ⟨B1, c1, rfl, _, _⟩ := own_shape q1
    obtain ⟨B2, c2, rfl, _, _⟩ := own_shape q2
    exact ⟨B1, c1, B2, c2, rfl, own_base q1 hs5, own_base q2 hs5, hb5.trans (h.below.mono hs5)⟩
  have k10 : w5.cell? ⟨w1.heap.size, 0, none⟩ = some (.int .i64 t) := hX1'.cell 0
  clear hw5 hX2 ho2' ho1' hX1' hbx ho2 hb4 hb2 HP HR HX1 HO1 hb5 k10
  generalize hn' : L.length = n at *
  have HN := Lib.hid hn'
  clear hn'
  have hnb : n ≤ 16 := by rw [HLn.out]; exact hn16
  go_upto_region 5 with fail
  rw [← HW5.out]
  refine wp_region_held_drew (S := (fun w' => w'.cell? ⟨w1.heap.size, 0, none⟩ = some (.int .i64 t) ∧ w'.cell? ⟨w1.heap.size, 1, none⟩ = some (.slice A1 n cap1) ∧ w'.cell? ⟨w4.heap.size, 0, none⟩ = some (.int .i64 t) ∧ w'.cell? ⟨w4.heap.size, 1, none⟩ = some (.slice A2 n cap2))) (by kernel_rfl) (HS.out _ HST.out.below) (fun hHeld => ?_)
  refine wpAnyH_take (i := 0) (oi := ?oi0a) (v := ?v0a) ?hi0a (by kernel_rfl) (by kernel_rfl) (by kernel_rfl) ?hq0a ?hy0a (by assumption) ?rest0a
  case hi0a => (simp only [List.getElem?_toArray, List.getElem?_cons_zero]; rfl)
  case hy0a => (refine Or.inl ⟨by rfl, ?_⟩; intro w hSw; (try dsimp only at hSw); go_simp; try with_reducible rfl)
  case hq0a => exact fun _ _ _ h => h
  try simp only [Act.put, List.setIfInBounds_toArray, List.set_cons_zero, List.set_cons_succ]
  refine wpAnyH_take (i := 1) (oi := ?oi1a) (v := ?v1a) ?hi1a (by kernel_rfl) (by kernel_rfl) (by kernel_rfl) ?hq1a ?hy1a (by assumption) ?rest1a
  case hi1a => (simp only [List.getElem?_toArray, List.getElem?_cons_zero, List.getElem?_cons_succ]; rfl)
  case hy1a => (refine Or.inl ⟨by rfl, ?_⟩; intro w hSw; (try dsimp only at hSw); go_simp; try with_reducible rfl)
  case hq1a => exact fun _ _ _ h => h
  try simp only [Act.put, List.setIfInBounds_toArray, List.set_cons_zero, List.set_cons_succ]
  refine wpAnyH_take (i := 3) (oi := ?oi3a) (v := ?v3a) ?hi3a (by kernel_rfl) (by kernel_rfl) (by kernel_rfl) ?hq3a ?hy3a (by assumption) ?rest3a
  case hi3a => (simp only [List.getElem?_toArray, List.getElem?_cons_zero, List.getElem?_cons_succ]; rfl)
  case hy3a => (refine Or.inl ⟨by rfl, ?_⟩; intro w hSw; (try dsimp only at hSw); go_simp; try with_reducible rfl)
  case hq3a => exact fun _ _ _ h => h
  try simp only [Act.put, List.setIfInBounds_toArray, List.set_cons_zero, List.set_cons_succ]
  refine wpAnyH_take (i := 4) (oi := ?oi4a) (v := ?v4a) ?hi4a (by kernel_rfl) (by kernel_rfl) (by kernel_rfl) ?hq4a ?hy4a (by assumption) ?rest4a
  case hi4a => (simp only [List.getElem?_toArray, List.getElem?_cons_zero, List.getElem?_cons_succ]; rfl)
  case hy4a => (refine Or.inl ⟨by rfl, ?_⟩; intro w hSw; (try dsimp only at hSw); go_simp; try with_reducible rfl)
  case hq4a => exact fun _ _ _ h => h
  try simp only [Act.put, List.setIfInBounds_toArray, List.set_cons_zero, List.set_cons_succ]
  refine wpAnyH_take (i := 6) (oi := ?oi6a) (v := ?v6a) ?hi6a (by kernel_rfl) (by kernel_rfl) (by kernel_rfl) ?hq6a ?hy6a (by assumption) ?rest6a
  case hi6a => (simp only [List.getElem?_toArray, List.getElem?_cons_zero, List.getElem?_cons_succ]; rfl)
  case hy6a => (refine Or.inl ⟨by rfl, ?_⟩; intro w hSw; (try dsimp only at hSw); go_simp; try with_reducible rfl)
  case hq6a => exact fun _ _ _ h => h
  try simp only [Act.put, List.setIfInBounds_toArray, List.set_cons_zero, List.set_cons_succ]
  refine wpAnyH_take (i := 7) (oi := ?oi7a) (v := ?v7a) ?hi7a (by kernel_rfl) (by kernel_rfl) (by kernel_rfl) ?hq7a ?hy7a (by assumption) ?rest7a
  case hi7a => (simp only [List.getElem?_toArray, List.getElem?_cons_zero, List.getElem?_cons_succ]; rfl)
  case hy7a => (refine Or.inl ⟨by rfl, ?_⟩; intro w hSw; (try dsimp only at hSw); go_simp; try with_reducible rfl)
  case hq7a => exact fun _ _ _ h => h
  try simp only [Act.put, List.setIfInBounds_toArray, List.set_cons_zero, List.set_cons_succ]
  refine wpAnyH_take (i := 9) (oi := ?oi9a) (v := ?v9a) ?hi9a (by kernel_rfl) (by kernel_rfl) (by kernel_rfl) ?hq9a ?hy9a (by assumption) ?rest9a
  case hi9a => (simp only [List.getElem?_toArray, List.getElem?_cons_zero, List.getElem?_cons_succ]; rfl)
  case hy9a => (refine Or.inl ⟨by rfl, ?_⟩; intro w hSw; (try dsimp only at hSw); go_simp; try with_reducible rfl)
  case hq9a => exact fun _ _ _ h => h
  try simp only [Act.put, List.setIfInBounds_toArray, List.set_cons_zero, List.set_cons_succ]
  refine wpAnyH_take (i := 10) (oi := ?oi10a) (v := ?v10a) ?hi10a (by kernel_rfl) (by kernel_rfl) (by kernel_rfl) ?hq10a ?hy10a (by assumption) ?rest10a
  case hi10a => (simp only [List.getElem?_toArray, List.getElem?_cons_zero, List.getElem?_cons_succ]; rfl)
  case hy10a => (refine Or.inl ⟨by rfl, ?_⟩; intro w hSw; (try dsimp only at hSw); go_simp; try with_reducible rfl)
  case hq10a => exact fun _ _ _ h => h
  try simp only [Act.put, List.setIfInBounds_toArray, List.set_cons_zero, List.set_cons_succ]
  refine wpAnyH_ready (rs := [2, 8]) (by kernel_rfl) (by simp) ?_
  refine AllReadyH.cons (o := ?o2p0) ?ho2p0 (fun K hK => ?st2p0) ?mo2p0
  case ho2p0 => (simp only [List.getElem?_toArray, List.getElem?_cons_zero, List.getElem?_cons_succ]; rfl)
  · skip
    go_simp
    have HS1 := Lib.hid (HST.out.build t (w5.heap.size) rfl)
    refine hK.out _ _ (HS.out _ HS1.out.below) (fun hHeld1 => ?_)
    clear hK K
    try simp only [Act.put, List.setIfInBounds_toArray, List.set_cons_zero, List.set_cons_succ]
    refine wpAnyH_ready (rs := [5, 8]) (by kernel_rfl) (by simp) ?_
    refine AllReadyH.cons (o := ?o5p2) ?ho5p2 (fun K hK => ?st5p2) ?mo5p2
    case ho5p2 => (simp only [List.getElem?_toArray, List.getElem?_cons_zero, List.getElem?_cons_succ]; rfl)
    · skip
      refine step_append_any _ (by rfl) _ _ 22 (by rfl) w5.heap.size 3 i0 _ 1 8 u_ints hi0 hz0 hz1 hz2 rfl (by decide) _ 1 _ (by rfl) (HS1.out.o1 _ _ rfl) w5.heap.size A1 n cap1 _ (by rfl) (HRD.out _ HS1.out.below).1 (ivs_one _) (by simp only [maxLen]; omega) (by omega) HS1.out.size ?_
      intro v6 w6 how6 hg6 hat6
      have HS3 := Lib.hid (HS1.out.app (m := L) (by rw [HN.out]; exact how6) hg6 hat6)
      clear how6 hg6 hat6
      refine hK.out _ _ (HS.out _ HS3.out.below) (fun hHeld3 => ?_)
      clear hK K
      try simp only [Act.put, List.setIfInBounds_toArray, List.set_cons_zero, List.set_cons_succ]
      refine wpAnyH_ready (rs := [8]) (by kernel_rfl) (by simp) ?_
      refine AllReadyH.cons (o := ?o8p4) ?ho8p4 (fun K hK => ?st8p4) ?mo8p4
      case ho8p4 => (simp only [List.getElem?_toArray, List.getElem?_cons_zero, List.getElem?_cons_succ]; rfl)
      · skip
        go_simp
        have HS5 := Lib.hid (HS3.out.swap.build t (w6.heap.size) rfl)
        replace HS5 := Lib.hid HS5.out.swap
        refine hK.out _ _ (HS.out _ HS5.out.below) (fun hHeld5 => ?_)
        clear hK K
        try simp only [Act.put, List.setIfInBounds_toArray, List.set_cons_zero, List.set_cons_succ]
        refine wpAnyH_ready (rs := [11]) (by kernel_rfl) (by simp) ?_
        refine AllReadyH.cons (o := ?o11p6) ?ho11p6 (fun K hK => ?st11p6) ?mo11p6
        case ho11p6 => (simp only [List.getElem?_toArray, List.getElem?_cons_zero, List.getElem?_cons_succ]; rfl)
        · skip
          refine step_append_any _ (by rfl) _ _ 22 (by rfl) w5.heap.size 3 i0 _ 1 8 u_ints hi0 hz0 hz1 hz2 rfl (by decide) _ 1 _ (by rfl) (HS5.out.o2 _ _ rfl) w5.heap.size A2 n cap2 _ (by rfl) (HRD.out _ HS5.out.below).2 (ivs_one _) (by simp only [maxLen]; omega) (by omega) HS5.out.size ?_
          intro v6 w6 how6 hg6 hat6
          have HS7 := Lib.hid (HS5.out.swap.app (m := L) (by rw [HN.out]; exact how6) hg6 hat6)
          replace HS7 := Lib.hid HS7.out.swap
          clear how6 hg6 hat6
          refine hK.out _ _ (HS.out _ HS7.out.below) (fun hHeld7 => ?_)
          clear hK K
          try simp only [Act.put, List.setIfInBounds_toArray, List.set_cons_zero, List.set_cons_succ]
          refine wpAnyH_take (i := 12) (oi := ?oi12z8) (v := ?v12z8) ?hi12z8 (by kernel_rfl) (by kernel_rfl) (by kernel_rfl) ?hq12z8 ?hy12z8 (by assumption) ?rest12z8
          case hi12z8 => (simp only [List.getElem?_toArray, List.getElem?_cons_zero, List.getElem?_cons_succ]; rfl)
          case hy12z8 => (refine Or.inl ⟨by rfl, ?_⟩; intro w hSw; (try dsimp only at hSw); go_simp; try with_reducible rfl)
          case hq12z8 => exact fun _ _ _ h => h
          try simp only [Act.put, List.setIfInBounds_toArray, List.set_cons_zero, List.set_cons_succ]
          refine wpAnyH_take (i := 13) (oi := ?oi13z8) (v := ?v13z8) ?hi13z8 (by kernel_rfl) (by kernel_rfl) (by kernel_rfl) ?hq13z8 ?hy13z8 (by assumption) ?rest13z8
          case hi13z8 => (simp only [List.getElem?_toArray, List.getElem?_cons_zero, List.getElem?_cons_succ]; rfl)
          case hy13z8 => (refine Or.inl ⟨by rfl, ?_⟩; intro w hSw; (try dsimp only at hSw); go_simp; try with_reducible rfl)
          case hq13z8 => exact fun _ _ _ h => h
          try simp only [Act.put, List.setIfInBounds_toArray, List.set_cons_zero, List.set_cons_succ]
          refine wpAnyH_done (by kernel_rfl) ?_ _
          go_wp2
          go_ret2
          exact HEND.out _ _ _ HS7.out
        · exact AllReadyH.nil
      · exact AllReadyH.nil
    refine AllReadyH.cons (o := ?o8p9) ?ho8p9 (fun K hK => ?st8p9) ?mo8p9
    case ho8p9 => (simp only [List.getElem?_toArray, List.getElem?_cons_zero, List.getElem?_cons_succ]; rfl)
    · skip
      go_simp
      have HS10 := Lib.hid (HS1.out.swap.build t (w5.heap.size + 1) (by simp))
      replace HS10 := Lib.hid HS10.out.swap
      refine hK.out _ _ (HS.out _ HS10.out.below) (fun hHeld10 => ?_)
      clear hK K
      try simp only [Act.put, List.setIfInBounds_toArray, List.set_cons_zero, List.set_cons_succ]
      refine wpAnyH_ready (rs := [5]) (by kernel_rfl) (by simp) ?_
      refine AllReadyH.cons (o := ?o5p11) ?ho5p11 (fun K hK => ?st5p11) ?mo5p11
      case ho5p11 => (simp only [List.getElem?_toArray, List.getElem?_cons_zero, List.getElem?_cons_succ]; rfl)
      · skip
        refine step_append_any _ (by rfl) _ _ 22 (by rfl) w5.heap.size 3 i0 _ 1 8 u_ints hi0 hz0 hz1 hz2 rfl (by decide) _ 1 _ (by rfl) (HS10.out.o1 _ _ rfl) w5.heap.size A1 n cap1 _ (by rfl) (HRD.out _ HS10.out.below).1 (ivs_one _) (by simp only [maxLen]; omega) (by omega) HS10.out.size ?_
        intro v6 w6 how6 hg6 hat6
        have HS12 := Lib.hid (HS10.out.app (m := L) (by rw [HN.out]; exact how6) hg6 hat6)
        clear how6 hg6 hat6
        refine hK.out _ _ (HS.out _ HS12.out.below) (fun hHeld12 => ?_)
        clear hK K
        try simp only [Act.put, List.setIfInBounds_toArray, List.set_cons_zero, List.set_cons_succ]
        refine wpAnyH_ready (rs := [11]) (by kernel_rfl) (by simp) ?_
        refine AllReadyH.cons (o := ?o11p13) ?ho11p13 (fun K hK => ?st11p13) ?mo11p13
        case ho11p13 => (simp only [List.getElem?_toArray, List.getElem?_cons_zero, List.getElem?_cons_succ]; rfl)
        · skip
          refine step_append_any _ (by rfl) _ _ 22 (by rfl) w5.heap.size 3 i0 _ 1 8 u_ints hi0 hz0 hz1 hz2 rfl (by decide) _ 1 _ (by rfl) (HS12.out.o2 _ _ rfl) w5.heap.size A2 n cap2 _ (by rfl) (HRD.out _ HS12.out.below).2 (ivs_one _) (by simp only [maxLen]; omega) (by omega) HS12.out.size ?_
          intro v6 w6 how6 hg6 hat6
          have HS14 := Lib.hid (HS12.out.swap.app (m := L) (by rw [HN.out]; exact how6) hg6 hat6)
          replace HS14 := Lib.hid HS14.out.swap
          clear how6 hg6 hat6
          refine hK.out _ _ (HS.out _ HS14.out.below) (fun hHeld14 => ?_)
          clear hK K
          try simp only [Act.put, List.setIfInBounds_toArray, List.set_cons_zero, List.set_cons_succ]
          refine wpAnyH_take (i := 12) (oi := ?oi12z15) (v := ?v12z15) ?hi12z15 (by kernel_rfl) (by kernel_rfl) (by kernel_rfl) ?hq12z15 ?hy12z15 (by assumption) ?rest12z15
          case hi12z15 => (simp only [List.getElem?_toArray, List.getElem?_cons_zero, List.getElem?_cons_succ]; rfl)
          case hy12z15 => (refine Or.inl ⟨by rfl, ?_⟩; intro w hSw; (try dsimp only at hSw); go_simp; try with_reducible rfl)
          case hq12z15 => exact fun _ _ _ h => h
          try simp only [Act.put, List.setIfInBounds_toArray, List.set_cons_zero, List.set_cons_succ]
          refine wpAnyH_take (i := 13) (oi := ?oi13z15) (v := ?v13z15) ?hi13z15 (by kernel_rfl) (by kernel_rfl) (by kernel_rfl) ?hq13z15 ?hy13z15 (by assumption) ?rest13z15
          case hi13z15 => (simp only [List.getElem?_toArray, List.getElem?_cons_zero, List.getElem?_cons_succ]; rfl)
          case hy13z15 => (refine Or.inl ⟨by rfl, ?_⟩; intro w hSw; (try dsimp only at hSw); go_simp; try with_reducible rfl)
          case hq13z15 => exact fun _ _ _ h => h
          try simp only [Act.put, List.setIfInBounds_toArray, List.set_cons_zero, List.set_cons_succ]
          refine wpAnyH_done (by kernel_rfl) ?_ _
          go_wp2
          go_ret2
          exact HEND.out _ _ _ HS14.out
        · exact AllReadyH.nil
      · exact AllReadyH.nil
    · exact AllReadyH.nil
  refine AllReadyH.cons (o := ?o8p16) ?ho8p16 (fun K hK => ?st8p16) ?mo8p16
  case ho8p16 => (simp only [List.getElem?_toArray, List.getElem?_cons_zero, List.getElem?_cons_succ]; rfl)
  · skip
    go_simp
    have HS17 := Lib.hid (HST.out.swap.build t (w5.heap.size) rfl)
    replace HS17 := Lib.hid HS17.out.swap
    refine hK.out _ _ (HS.out _ HS17.out.below) (fun hHeld17 => ?_)
    clear hK K
    try simp only [Act.put, List.setIfInBounds_toArray, List.set_cons_zero, List.set_cons_succ]
    refine wpAnyH_ready (rs := [2]) (by kernel_rfl) (by simp) ?_
    refine AllReadyH.cons (o := ?o2p18) ?ho2p18 (fun K hK => ?st2p18) ?mo2p18
    case ho2p18 => (simp only [List.getElem?_toArray, List.getElem?_cons_zero, List.getElem?_cons_succ]; rfl)
    · skip
      go_simp
      have HS19 := Lib.hid (HS17.out.build t (w5.heap.size + 1) (by simp))
      refine hK.out _ _ (HS.out _ HS19.out.below) (fun hHeld19 => ?_)
      clear hK K
      try simp only [Act.put, List.setIfInBounds_toArray, List.set_cons_zero, List.set_cons_succ]
      refine wpAnyH_ready (rs := [5]) (by kernel_rfl) (by simp) ?_
      refine AllReadyH.cons (o := ?o5p20) ?ho5p20 (fun K hK => ?st5p20) ?mo5p20
      case ho5p20 => (simp only [List.getElem?_toArray, List.getElem?_cons_zero, List.getElem?_cons_succ]; rfl)
      · skip
        refine step_append_any _ (by rfl) _ _ 22 (by rfl) w5.heap.size 3 i0 _ 1 8 u_ints hi0 hz0 hz1 hz2 rfl (by decide) _ 1 _ (by rfl) (HS19.out.o1 _ _ rfl) w5.heap.size A1 n cap1 _ (by rfl) (HRD.out _ HS19.out.below).1 (ivs_one _) (by simp only [maxLen]; omega) (by omega) HS19.out.size ?_
        intro v6 w6 how6 hg6 hat6
        have HS21 := Lib.hid (HS19.out.app (m := L) (by rw [HN.out]; exact how6) hg6 hat6)
        clear how6 hg6 hat6
        refine hK.out _ _ (HS.out _ HS21.out.below) (fun hHeld21 => ?_)
        clear hK K
        try simp only [Act.put, List.setIfInBounds_toArray, List.set_cons_zero, List.set_cons_succ]
        refine wpAnyH_ready (rs := [11]) (by kernel_rfl) (by simp) ?_
        refine AllReadyH.cons (o := ?o11p22) ?ho11p22 (fun K hK => ?st11p22) ?mo11p22
        case ho11p22 => (simp only [List.getElem?_toArray, List.getElem?_cons_zero, List.getElem?_cons_succ]; rfl)
        · skip
          refine step_append_any _ (by rfl) _ _ 22 (by rfl) w5.heap.size 3 i0 _ 1 8 u_ints hi0 hz0 hz1 hz2 rfl (by decide) _ 1 _ (by rfl) (HS21.out.o2 _ _ rfl) w5.heap.size A2 n cap2 _ (by rfl) (HRD.out _ HS21.out.below).2 (ivs_one _) (by simp only [maxLen]; omega) (by omega) HS21.out.size ?_
          intro v6 w6 how6 hg6 hat6
          have HS23 := Lib.hid (HS21.out.swap.app (m := L) (by rw [HN.out]; exact how6) hg6 hat6)
          replace HS23 := Lib.hid HS23.out.swap
          clear how6 hg6 hat6
          refine hK.out _ _ (HS.out _ HS23.out.below) (fun hHeld23 => ?_)
          clear hK K
          try simp only [Act.put, List.setIfInBounds_toArray, List.set_cons_zero, List.set_cons_succ]
          refine wpAnyH_take (i := 12) (oi := ?oi12z24) (v := ?v12z24) ?hi12z24 (by kernel_rfl) (by kernel_rfl) (by kernel_rfl) ?hq12z24 ?hy12z24 (by assumption) ?rest12z24
          case hi12z24 => (simp only [List.getElem?_toArray, List.getElem?_cons_zero, List.getElem?_cons_succ]; rfl)
          case hy12z24 => (refine Or.inl ⟨by rfl, ?_⟩; intro w hSw; (try dsimp only at hSw); go_simp; try with_reducible rfl)
          case hq12z24 => exact fun _ _ _ h => h
          try simp only [Act.put, List.setIfInBounds_toArray, List.set_cons_zero, List.set_cons_succ]
          refine wpAnyH_take (i := 13) (oi := ?oi13z24) (v := ?v13z24) ?hi13z24 (by kernel_rfl) (by kernel_rfl) (by kernel_rfl) ?hq13z24 ?hy13z24 (by assumption) ?rest13z24
          case hi13z24 => (simp only [List.getElem?_toArray, List.getElem?_cons_zero, List.getElem?_cons_succ]; rfl)
          case hy13z24 => (refine Or.inl ⟨by rfl, ?_⟩; intro w hSw; (try dsimp only at hSw); go_simp; try with_reducible rfl)
          case hq13z24 => exact fun _ _ _ h => h
          try simp only [Act.put, List.setIfInBounds_toArray, List.set_cons_zero, List.set_cons_succ]
          refine wpAnyH_done (by kernel_rfl) ?_ _
          go_wp2
          go_ret2
          exact HEND.out _ _ _ HS23.out
        · exact AllReadyH.nil
      · exact AllReadyH.nil
    · exact AllReadyH.nil
  · exact AllReadyH.nil
theorem lists_any {Fa Fb : Nat → Prop} {l : List Ev} (hc : c.Ok) (ha : PDx w Fa c D (dOf c l)) (hb : RDx w Fb c K l) (hn : l.length < 3518437208883) (kd : Int) :
    Calls Try.prog 36 #[.pointer (some ⟨D, 0, none⟩), .pointer (some ⟨K, 0, none⟩), .int .i64 kd] w (ListsP w (lstOf kd c (dOf c l))) := by
  unfold lstOf
  by_cases h4 : kd = 4
  · subst h4; exact list_4 hc ha hb hn
  · rw [if_neg h4]
    by_cases h5 : kd = 5
    · subst h5; exact list_5 hc ha hb hn
    · rw [if_neg h5]
      by_cases h6 : kd = 6
      · subst h6; exact list_6 hc ha hb hn
      · rw [if_neg h6]
        by_cases h7 : kd = 7
        · subst h7; exact list_7 hc ha hb hn
        · rw [if_neg h7]; exact list_else _ _ kd (by omega)
end Go.Proofs.Ytfjpmoigpnmeoaa
