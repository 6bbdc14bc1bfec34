/-
  The document's Open. And: The document's Open: what it keeps.
-/
import Derived.Test.YtpkdalpjfcopbaaDoorLPick
namespace Go.Proofs.YtpkdalpjfcopbaaDoor
open Go.RowKit
theorem appN2 {P : Program} {ops : Array Oper} {rest : List Oper} {o : Oper} {a : Act} {Q : Exit → Act → World → Prop} (W : World) (hgd : o.guard = none) (s x : Operand) (t : TypeId)
    (ho : o.op = .call { callee := .builtin .append, args := #[s, x], argTypes := #[t, t] })
    (base : Nat) (e : TypeId) (i : TypeInfo) (z : Value) (size bytes : Nat) (ht : P.underlying t = some (.slice e)) (hi : P.info? e = some i) (hz : i.zero = some z)
    (hsize : i.size = size) (hby : i.bytes = bytes) (hzs : z.cells.size = size) (hsz : 0 < size)
    (v : Value) (n : Nat) (xs : List Value) (hs : a.eval s = v) (hown : W.ownsRow base e size v n xs)
    (us : Array Value) (hu : us.size = size) (hx : a.eval x = .slice (some ⟨W.heap.size, 0, none⟩) 1 1) (h1 : ∀ u ∈ us.toList, u.oneCell' = true)
    (h63 : n + 1 ≤ maxLen) (hbytes : (n + 1) * bytes ≤ 140737488355328) (hbase : base ≤ W.heap.size)
    (h : ∀ v' w', w'.ownsRow base e size v' (n + 1) (xs ++ us.toList) → Below base W w' → W.grownBy w' v.ownBlock → (v'.ownBlock = v.ownBlock ∨ v'.ownBlock = some (W.heap.size + 1)) → wpList P ops Q rest (a.put o.dst v') w') :
    wpList P ops Q (o :: rest) a (W.alloc (.cells us e)) := by
  have hown2 : (W.alloc (.cells us e)).ownsRow base e size v n xs := hown.alloc _
  refine wpList_append_any (P := P) _ hgd s x t ho base e i z size bytes ht hi hz hsize hby hzs hsz v n xs hs hown2 (W.heap.size + 1) (some ⟨W.heap.size, 0, none⟩) 1 1 us.toList hx ?_ h1 h63 hbytes (by simp; omega) ?_
  · refine ⟨by simp [hu], fun _ => ⟨W.heap.size, 0, rfl, by omega, fun j y hj => ?_⟩⟩
    rw [Nat.zero_add, (Blk.new W e us).cell j, ← Array.getElem?_toList]
    exact hj
  · intro v' w' h2 h3 h4
    have hal : W.grownBy (W.alloc (.cells us e)) v.ownBlock := ⟨rfl, rfl, rfl, by simp, fun k hk _ => Below.heap_alloc _ _ _ hk⟩
    exact h v' w' h2 (((Below.refl _ _).alloc hbase _).trans (below_app hown2 h3 (by simp; omega)))
      ⟨h3.os.trans hal.os, h3.tape.trans hal.tape, h3.output.trans hal.output, Nat.le_trans hal.size h3.size, fun k hk hn => (h3.block k (by simp; omega) hn).trans (hal.block k hk hn)⟩ (by simpa using h4)
theorem rk_snoc_cases {K : List Rk} {x r : Rk} {k : Nat} (hk : (K ++ [x])[k]? = some r) : K[k]? = some r ∨ (k = K.length ∧ r = x) := by
  rcases Nat.lt_or_ge k K.length with hlt | hge
  · rw [List.getElem?_append_left hlt] at hk
    exact .inl hk
  · rw [List.getElem?_append_right hge] at hk
    have : k - K.length = 0 := by
      have := (List.getElem?_eq_some_iff.1 hk).1
      simp at this
      omega
    rw [this] at hk
    simp at hk
    exact .inr ⟨by omega, hk.symm⟩
/-- No more of a footprint than there are blocks. -/
theorem rj_cut {w : World} {F : Nat → Prop} {kg : Nat} {j : JP} (h : RJAt w F kg j) : RJAt w (fun k => F k ∧ k < w.heap.size) kg j := by
  obtain ⟨v, K, h1, h2, h3, h4⟩ := h.ex
  exact ⟨⟨v, K, h1, h2, ⟨fun g hg => ⟨h3.rows g hg, (own_block_lt h2.own hg).1⟩, fun k r g hk hg => ⟨h3.bod k r g hk hg, (own_block_lt (h2.bod k r hk) hg).1⟩⟩, h4⟩, h.kgF, h1.lt⟩
/-- An Open under way. -/
structure OpS (w0 : World) (Q kg : Nat) (r : RV) (rs : List Rc) (j : JP) (F : Nat → Prop) (vl : Value) (Kl : List Rk) (wr : World) : Prop where
  src : Blk wr Q 82 r.cells
  rd : RcRd wr (fun g => w0.heap.size ≤ g) r.A r.m rs
  jr : RJAt wr F kg j
  fge : ∀ g, F g → w0.heap.size ≤ g
  flt : ∀ g, F g → g < wr.heap.size
  own : RcOwn wr w0.heap.size vl Kl
  off : RcF (fun g => ¬ F g) vl Kl
  bw : Below w0.heap.size w0 wr
  lo : Q < w0.heap.size
section
variable {w0 wr w' w2 : World} {Q kg : Nat} {r : RV} {rs : List Rc} {j j' : JP} {F F' : Nat → Prop} {vl v2 : Value} {Kl : List Rk} {x : Rk}
theorem OpS.below (h : OpS w0 Q kg r rs j F vl Kl wr) (hb : Below wr.heap.size wr w') : OpS w0 Q kg r rs j F vl Kl w' :=
  ⟨h.src.over hb, h.rd.below hb, h.jr.below hb, h.fge, fun g hg => Nat.lt_of_lt_of_le (h.flt g hg) hb.size, h.own.below hb, h.off, h.bw.trans (hb.mono h.bw.size), h.lo⟩
/-- The journal has turned. -/
theorem OpS.turn (h : OpS w0 Q kg r rs j F vl Kl wr) (hj : RJAt w' F' kg j') (hm : Moved wr w' F F') : OpS w0 Q kg r rs j' (fun k => F' k ∧ k < w'.heap.size) vl Kl w' := by
  have hs := h.bw.size
  refine ⟨h.src.chg hm.2 fun e => by have := h.fge _ e; have := h.lo; omega, h.rd.chg hm.2 fun k _ hk => h.fge k hk, rj_cut hj, fun g hg => ?_, fun g hg => hg.2, ?_, ?_, h.bw.trans (hm.2.to_below hs fun k hk => h.fge k hk), h.lo⟩
  · rcases hm.1 g hg.1 with h1 | h1
    · exact h.fge g h1
    · omega
  · exact ⟨own_chg h.own.own hm.2 fun g hg => h.off.rows g hg, fun k r hk => own_chg (h.own.bod k r hk) hm.2 fun g hg => h.off.bod k r g hk hg, h.own.pw⟩
  · refine ⟨fun g hg hf => ?_, fun k r g hk hg hf => ?_⟩
    · rcases hm.1 g hf.1 with h1 | h1
      · exact h.off.rows g hg h1
      · have := (own_block_lt h.own.own hg).1
        omega
    · rcases hm.1 g hf.1 with h1 | h1
      · exact h.off.bod k r g hk hg h1
      · have := (own_block_lt (h.own.bod k r hk) hg).1
        omega
/-- One record more in the list. -/
theorem OpS.snoc (h : OpS w0 Q kg r rs j F vl Kl wr) (ho : w2.ownsRow w0.heap.size 34 2 v2 (Kl.length + 1) (rowsK Kl ++ x.cells)) (hg : wr.grownBy w2 vl.ownBlock) (hat : v2.ownBlock = vl.ownBlock ∨ v2.ownBlock = some (wr.heap.size + 1))
    (hx : wr.ownsRow w0.heap.size 5 1 x.v x.rc.body.length (bvs x.rc.body)) (hxn : ∀ g, x.v.ownBlock = some g → ¬ F g) (hn : ∀ (k : Nat) (r : Rk) (g : Nat), Kl[k]? = some r → r.v.ownBlock = some g → x.v.ownBlock = some g → False) : OpS w0 Q kg r rs j F v2 (Kl ++ [x]) w2 := by
  have hc := Chg.of_grown hg
  have hs := h.bw.size
  have hvl : ∀ g, some g = vl.ownBlock → w0.heap.size ≤ g ∧ ¬ F g := fun g e => ⟨(own_block_lt h.own.own e.symm).2.1, h.off.rows g e.symm⟩
  refine ⟨h.src.chg hc fun e => by have := (hvl _ e).1; have := h.lo; omega, h.rd.chg hc fun k _ hk => (hvl k hk).1, h.jr.chg hc fun k _ hF hk => (hvl k hk).2 hF, h.fge, fun g hF => Nat.lt_of_lt_of_le (h.flt g hF) hc.size, h.own.snoc hc ho hx hn, ⟨fun g hg hF => ?_, fun k r' g hk hg => ?_⟩, h.bw.trans (hc.to_below hs fun k hk => (hvl k hk).1), h.lo⟩
  · rcases hat with e | e
    · exact h.off.rows g (e ▸ hg) hF
    · rw [e] at hg
      injection hg with hg
      have := h.flt g hF
      omega
  · rcases rk_snoc_cases hk with h1 | ⟨_, rfl⟩
    · exact h.off.bod k r' g h1 hg
    · exact hxn g hg
end
/-- What the document's Open comes to. -/
def ROpened (w : World) (o : OR) (e : Ending) (w' : World) : Prop :=
  Below w.heap.size w w' ∧ match o with
    | .bad => e = .returned (.tuple #[.pointer none, .slice none 0 0, .slice none 0 0, .int .i64 122])
    | .spent => e = .returned (.tuple #[.pointer none, .slice none 0 0, .slice none 0 0, .int .i64 3])
    | .ok j recs ws => ∃ kg vl vw K F, e = .returned (.tuple #[.pointer (some ⟨kg, 0, none⟩), vl, vw, .int .i64 0]) ∧ RJAt w' F kg j ∧ (∀ k, F k → w.heap.size ≤ k ∧ k < w'.heap.size) ∧ K.map Rk.rc = recs ∧ RcOwn w' w.heap.size vl K ∧ WOut w' w.heap.size vw ws
theorem pickI_none {f : Fls} (h : pickR f = none) : pickI f = -1 := by unfold pickI; rw [h]
theorem pickI_some {f : Fls} {k : Nat} {x : Fi} (h : pickR f = some (k, x)) : pickI f = (k : Int) := by unfold pickI; rw [h]
theorem pickR_read {f : Fls} {k : Nat} {x : Fi} (h : pickR f = some (k, x)) : readR (f.nth k) = some x ∧ (k = 0 ∨ k = 1) := by
  unfold pickR at h
  cases ha : soundR f.a with
  | none =>
    cases hb : soundR f.b with
    | none => rw [ha, hb] at h; cases h
    | some b =>
      rw [ha, hb] at h
      injection h with h
      injection h with h1 h2
      subst h1 h2
      exact ⟨(soundR_told hb).2.2, .inr rfl⟩
  | some a =>
    cases hb : soundR f.b with
    | none =>
      rw [ha, hb] at h
      injection h with h
      injection h with h1 h2
      subst h1 h2
      exact ⟨(soundR_told ha).2.2, .inl rfl⟩
    | some b =>
      rw [ha, hb] at h
      dsimp only at h
      split at h
      · injection h with h
        injection h with h1 h2
        subst h1 h2
        exact ⟨(soundR_told hb).2.2, .inr rfl⟩
      · injection h with h
        injection h with h1 h2
        subst h1 h2
        exact ⟨(soundR_told ha).2.2, .inl rfl⟩
/-- The head of a journal turned. -/
theorem rj_set {w : World} {F : Nat → Prop} {kg : Nat} {j : JP} (h : RJAt w F kg j) (fl gn ct : Nat) : RJAt (((w.setCell ⟨kg, 0, none⟩ (.int .i64 (fl : Int))).setCell ⟨kg, 1, none⟩ (.int .i64 (gn : Int))).setCell ⟨kg, 2, none⟩ (.int .i64 (ct : Int))) F kg ⟨fl, gn, ct, j.recs⟩ ∧ Moved w (((w.setCell ⟨kg, 0, none⟩ (.int .i64 (fl : Int))).setCell ⟨kg, 1, none⟩ (.int .i64 (gn : Int))).setCell ⟨kg, 2, none⟩ (.int .i64 (ct : Int))) F F := by
  obtain ⟨v, K, h1, h2, h3, h4⟩ := h.ex
  have hc : Chg (fun k => k = kg) w (((w.setCell ⟨kg, 0, none⟩ (.int .i64 (fl : Int))).setCell ⟨kg, 1, none⟩ (.int .i64 (gn : Int))).setCell ⟨kg, 2, none⟩ (.int .i64 (ct : Int))) := (((Chg.refl (fun k => k = kg) w).setCell (p := ⟨kg, 0, none⟩) (.inl rfl) _).setCell (p := ⟨kg, 1, none⟩) (.inl rfl) _).setCell (p := ⟨kg, 2, none⟩) (.inl rfl) _
  refine ⟨⟨⟨v, K, ((h1.set_ 0 _).set_ 1 _).set_ 2 _, h2.chgT hc fun g _ ht e => ?_, h3, h4⟩, h.kgF⟩, fun _ h => .inl h, hc.mono fun k _ e => e ▸ h.kgF⟩
  subst e
  exact ht.elim (fun h => absurd (h.eq_ h1.isT) (by decide)) (fun h => absurd (h.eq_ h1.isT) (by decide))
end Go.Proofs.YtpkdalpjfcopbaaDoor
namespace Go.Proofs.YtpkdalpjfcopbaaDoor
open Go.RowKit
set_option maxRecDepth 100000 in
set_option maxHeartbeats 3200000 in
theorem ROpen_any {w : World} {f : Fls} {A0 A1 : Option Addr} {c0 c1 : Nat} (h0 : RdB w w.heap.size A0 f.a.length f.a) (h1 : RdB w w.heap.size A1 f.b.length f.b) (n0 : f.a.length ≤ c0) (n1 : f.b.length ≤ c1) (m0 : c0 ≤ 9223372036854775807) (m1 : c1 ≤ 9223372036854775807) :
    Calls Tryd.prog 19 #[.agg #[.slice A0 f.a.length c0, .slice A1 f.b.length c1]] w (ROpened w (openR f)) := by
  obtain ⟨w1, hw1⟩ : ∃ x, x = w.alloc (.cells #[.slice A0 f.a.length c0, .slice A1 f.b.length c1] 24) := ⟨_, rfl⟩
  have hb1 : Below w.heap.size w w1 := by rw [hw1]; exact one_box' _ _
  have hB1 : Blk w1 w.heap.size 24 #[.slice A0 f.a.length c0, .slice A1 f.b.length c1] := by rw [hw1]; exact Blk.new _ _ _
  have d0 : w1.cell? ⟨w.heap.size, 0, none⟩ = some (.slice A0 f.a.length c0) := hB1.cell 0
  have HW1 := Lib.hid hw1
  have HB1 := Lib.hid hb1
  have HX1 := Lib.hid hB1
  have H0 := Lib.hid h0
  have H1 := Lib.hid h1
  have HRA : Hid (Calls Tryd.prog 44 #[.slice A0 f.a.length c0] w1 (ReadP w1 f.a)) := Lib.hid (Read_any ((h0.below hb1).more hb1.size) n0 m0)
  have HRBB : Hid (∀ W, Below w.heap.size w W → Calls Tryd.prog 44 #[.slice A1 f.b.length c1] W (ReadP W f.b)) := Lib.hid fun W hb => Read_any ((h1.below hb).more hb.size) n1 m1
  clear hw1 hb1 hB1 h0 h1
  go_enter Tryd.func19, Tryd.ntmps19
  go_upto_region 1 with fail
  rw [← HW1.out]
  go_upto_region 2 with (go_at_call 44; refine HRA.out.mono ?_; rintro _ w2 ⟨ra, rfl, hv2, hb2⟩; unfold RV.val; have H2 := Lib.hid (And.intro hv2 hb2); clear hv2 hb2)
  obtain ⟨w3, hw3⟩ : ∃ x, x = w2.alloc (.cells #[.int .i64 ra.gn, .int .i64 ra.ct, .int .i64 ra.fn, .slice ra.A ra.m ra.c, .bool ra.so, .bool ra.cl] 82) := ⟨_, rfl⟩
  rw [← hw3]
  have hb3 : Below w2.heap.size w2 w3 := by rw [hw3]; exact one_box' _ _
  have hQ6 : Blk w3 w2.heap.size 82 ra.cells := by rw [hw3]; exact Blk.new _ _ _
  have hbw3 : Below w.heap.size w w3 := Below.then HB1.out (Below.then H2.out.2 hb3)
  have hX3 := (HX1.out.over H2.out.2).over hb3
  have d1 : w3.cell? ⟨w.heap.size, 1, none⟩ = some (.slice A1 f.b.length c1) := hX3.cell 1
  have H3 := Lib.hid (And.intro hQ6 (And.intro hbw3 (And.intro hX3 (H2.out.1.below hb3))))
  have hq6 : w2.heap.size < w3.heap.size := hQ6.lt
  have hqd : w.heap.size < w2.heap.size := (HX1.out.over H2.out.2).lt
  clear hw3 hb3 hQ6 hbw3 hX3 d0 HRA
  go_upto_region 3 with (go_at_call 44; refine (HRBB.out _ H3.out.2.1).mono ?_; rintro _ w4 ⟨rb, rfl, hv4, hb4⟩; unfold RV.val; have H4 := Lib.hid (And.intro hv4 hb4); clear hv4 hb4)
  obtain ⟨w5, hw5⟩ : ∃ x, x = w4.alloc (.cells #[.int .i64 rb.gn, .int .i64 rb.ct, .int .i64 rb.fn, .slice rb.A rb.m rb.c, .bool rb.so, .bool rb.cl] 82) := ⟨_, rfl⟩
  rw [← hw5]
  have hb5 : Below w4.heap.size w4 w5 := by rw [hw5]; exact one_box' _ _
  have hQ7 : Blk w5 w4.heap.size 82 rb.cells := by rw [hw5]; exact Blk.new _ _ _
  have hb35 : Below w3.heap.size w3 w5 := Below.then H4.out.2 hb5
  have hbw5 : Below w.heap.size w w5 := H3.out.2.1.trans (hb35.mono H3.out.2.1.size)
  have hQ6 := H3.out.1.over hb35
  have hX5 := H3.out.2.2.1.over hb35
  obtain ⟨⟨x0, x1, x2, x3, x4, x5⟩, _⟩ := rv_cells hQ6
  obtain ⟨⟨y0, y1, y2, y3, y4, y5⟩, _⟩ := rv_cells hQ7
  have hva := H3.out.2.2.2.below hb35
  have hvb := (H4.out.1.below hb5).mono (base' := w1.heap.size) (by have := H2.out.2.size; omega)
  have hpk := rpick_any (w := w5) hva hvb
  unfold RV.val at hpk
  have HPK := Lib.hid hpk
  have H5 := Lib.hid (And.intro hQ6 (And.intro hQ7 (And.intro hbw5 (And.intro hX5 (And.intro hva hvb)))))
  have hq7 : w3.heap.size ≤ w4.heap.size := H4.out.2.size
  have hq75 : w4.heap.size < w5.heap.size := hQ7.lt
  clear hw5 hb5 hQ6 hQ7 hb35 hbw5 hX5 hva hvb hpk d1 HRBB
  go_upto_region 4 with (go_at_call 45; refine HPK.out.mono ?_; rintro _ w6 ⟨rfl, hb6⟩; have H6 := Lib.hid hb6; clear hb6)
  have HB6 : Hid (Below w.heap.size w w6) := Lib.hid (H5.out.2.2.1.trans (H6.out.mono H5.out.2.2.1.size))
  have hX6 := H5.out.2.2.2.1.over H6.out
  have d0 : w6.cell? ⟨w.heap.size, 0, none⟩ = some (.slice A0 f.a.length c0) := hX6.cell 0
  have d1 : w6.cell? ⟨w.heap.size, 1, none⟩ = some (.slice A1 f.b.length c1) := hX6.cell 1
  clear hX6 x0 x1 x2 x3 x4 x5 y0 y1 y2 y3 y4 y5 HPK
  cases hp : pickR f with
  | none =>
    rw [pickI_none hp]
    have HP := Lib.hid hp
    have HUB := Lib.hid (unborn_any (w := w6) (f := f) (A0 := A0) (A1 := A1) (c0 := c0) (c1 := c1) ((H0.out.below HB6.out).more HB6.out.size) (by omega))
    cases hu : unbornR f with
    | false =>
      rw [hu] at HUB
      have HU := Lib.hid hu
      clear hp hu
      go_wp2_with (go_at_call 51; refine HUB.out.mono ?_; rintro _ w7 ⟨rfl, hb7⟩; have H7 := Lib.hid hb7; clear hb7)
      refine bodyPost_ret (v := .tuple #[.pointer none, .slice none 0 0, .slice none 0 0, .int .i64 122]) (by simp [results, Tryd.results19, go_sem]) rfl ⟨HB6.out.trans (H7.out.mono HB6.out.size), ?_⟩
      unfold openR
      rw [HP.out]
      dsimp only
      rw [if_neg (by rw [HU.out]; exact Bool.false_ne_true)]
    | true =>
      rw [hu] at HUB
      have HU := Lib.hid hu
      have HNW : Hid (∀ W, Calls Tryd.prog 52 #[] W _) := Lib.hid fun W => RNew_any (w := W)
      clear hp hu
      go_upto_region 8 with (go_at_call 51; refine HUB.out.mono ?_; rintro _ w7 ⟨rfl, hb7⟩; have H7 := Lib.hid hb7; clear hb7)
      go_wp2_with (go_at_call 52; refine (HNW.out _).mono ?_; rintro _ w8 ⟨kg, v, F, rfl, hj, hF, hwo, hb8⟩; have H8 := Lib.hid (And.intro hj (And.intro hF (And.intro hwo hb8))); clear hj hF hwo hb8)
      have hb7 := HB6.out.trans (H7.out.mono HB6.out.size)
      refine bodyPost_ret (v := .tuple #[.pointer (some ⟨kg, 0, none⟩), .slice none 0 0, v, .int .i64 0]) (by simp [results, Tryd.results19, go_sem]) rfl ⟨hb7.trans (H8.out.2.2.2.mono hb7.size), ?_⟩
      unfold openR
      rw [HP.out]
      dsimp only
      rw [if_pos HU.out]
      exact ⟨kg, _, v, [], _, rfl, rj_cut H8.out.1, fun k hk => ⟨Nat.le_trans hb7.size (H8.out.2.1 k hk.1), hk.2⟩, rfl, RcOwn.nil, H8.out.2.2.1.mono hb7.size⟩
  | some kx =>
    obtain ⟨k, x⟩ := kx
    rw [pickI_some hp]
    obtain ⟨hk1, htd, hcnt⟩ := pickR_told hp
    obtain ⟨hrd, hk01⟩ := pickR_read hp
    have HP := Lib.hid (And.intro hp (And.intro hrd (And.intro htd hcnt)))
    have hk0 : decide ((k : Int) < 0) = false := decide_eq_false (by omega)
    obtain ⟨⟨x0, x1, x2, x3, x4, x5⟩, _⟩ := rv_cells (H5.out.1.over H6.out)
    obtain ⟨⟨y0, y1, y2, y3, y4, y5⟩, _⟩ := rv_cells (H5.out.2.1.over H6.out)
    clear hp hrd htd hcnt d0 d1
    have hs6 : w5.heap.size ≤ w6.heap.size := H6.out.size
    rcases hk01 with hk | hk
    case' inl =>
      have hb : ((k : Int) == 1) = false := by rw [beq_eq_false_iff_ne]; omega
      go_upto_region 13 with fail
      obtain ⟨r, hr⟩ : ∃ r, r = ra := ⟨_, rfl⟩
      obtain ⟨w7, hw7⟩ : ∃ y, y = w6.alloc (.cells #[.int .i64 ra.gn, .int .i64 ra.ct, .int .i64 ra.fn, .slice ra.A ra.m ra.c, .bool ra.so, .bool ra.cl] 82) := ⟨_, rfl⟩
      have hb7 : Below w6.heap.size w6 w7 := by rw [hw7]; exact one_box' _ _
      have hX7 : Blk w7 w6.heap.size 82 r.cells := by rw [hw7, hr]; exact Blk.new _ _ _
      have hv7 : RdV w7 w1.heap.size (f.nth k) r := by
        rw [hr, hk]
        exact (H5.out.2.2.2.2.1.below H6.out).below hb7
      rw [← hw7]
      clear hw7 hr
    case' inr =>
      have hb : ((k : Int) == 1) = true := by rw [beq_iff_eq]; omega
      go_upto_region 12 with fail
      obtain ⟨wb, hwb⟩ : ∃ y, y = w6.alloc (.cells #[.int .i64 ra.gn, .int .i64 ra.ct, .int .i64 ra.fn, .slice ra.A ra.m ra.c, .bool ra.so, .bool ra.cl] 82) := ⟨_, rfl⟩
      rw [← hwb]
      have hbb : Below w6.heap.size w6 wb := by rw [hwb]; exact one_box' _ _
      have hXb : Blk wb w6.heap.size 82 ra.cells := by rw [hwb]; exact Blk.new _ _ _
      clear x0 x1 x2 x3 x4 x5 y0 y1 y2 y3 y4 y5 hwb
      obtain ⟨⟨y0, y1, y2, y3, y4, y5⟩, _⟩ := rv_cells ((H5.out.2.1.over H6.out).over hbb)
      obtain ⟨⟨x0, x1, x2, x3, x4, x5⟩, ⟨g0, g1, g2, g3, g4, g5⟩⟩ := rv_cells hXb
      have HXB := Lib.hid (And.intro hbb hXb)
      clear hbb hXb
      go_upto_region 13 with fail
      obtain ⟨r, hr⟩ : ∃ r, r = rb := ⟨_, rfl⟩
      have hsx := six_blk HXB.out.2 rb
      unfold six at hsx
      obtain ⟨w7, hw7⟩ : ∃ y, y = ((((((wb.setCell ⟨w6.heap.size, 0, none⟩ (.int .i64 rb.gn)).setCell ⟨w6.heap.size, 1, none⟩ (.int .i64 rb.ct)).setCell ⟨w6.heap.size, 2, none⟩ (.int .i64 rb.fn)).setCell ⟨w6.heap.size, 3, none⟩ (.slice rb.A rb.m rb.c)).setCell ⟨w6.heap.size, 4, none⟩ (.bool rb.so)).setCell ⟨w6.heap.size, 5, none⟩ (.bool rb.cl)) := ⟨_, rfl⟩
      rw [← hw7] at hsx
      have hb7 : Below w6.heap.size w6 w7 := HXB.out.1.trans (hsx.2.to_below HXB.out.1.size fun y e => by omega)
      have hX7 : Blk w7 w6.heap.size 82 r.cells := by rw [hr]; exact hsx.1
      have hv7 : RdV w7 w1.heap.size (f.nth k) r := by
        rw [hr, hk]
        exact (H5.out.2.2.2.2.2.below H6.out).below hb7
      rw [← hw7]
      clear hw7 hr hsx g0 g1 g2 g3 g4 g5
    all_goals clear x0 x1 x2 x3 x4 x5 y0 y1 y2 y3 y4 y5
    case inl =>
      unfold RdV at hv7
      rw [HP.out.2.1] at hv7
      obtain ⟨v1, v2, v3, v4, v5, K0, v6, v7, v8⟩ := hv7
      have hw17 : w1.heap.size ≤ w7.heap.size := by
        have := HB6.out.size
        have := hb7.size
        have := H2.out.2.size
        omega
      have hrd7 : RcRd w7 (fun g => w7.heap.size ≤ g) r.A r.m x.recs := by
        rw [← v6, v7]
        rw [v7] at v8
        exact v8.rd fun g _ h1 h2 => by omega
      have hqw : w6.heap.size < w7.heap.size := hX7.lt
      obtain ⟨⟨x0, x1, x2, x3, x4, x5⟩, _⟩ := rv_cells hX7
      have hbw7 : Below w.heap.size w w7 := HB6.out.trans (hb7.mono HB6.out.size)
      have H7 := Lib.hid (And.intro hX7 (And.intro hrd7 (And.intro hbw7 (And.intro v1 (And.intro v3 v5)))))
      rw [v1] at x0
      rw [v2] at x1
      clear hb7 hX7 v1 v2 v3 v4 v5 v6 v7 v8 hrd7 hbw7 hb hk
      go_upto_block 0 with fail
      obtain ⟨w8, hw8⟩ : ∃ y, y = w7.alloc (.cells #[.int .i64 (k : Int), .int .i64 (x.gen : Int), .int .i64 (x.count : Int), .slice none 0 0] 102) := ⟨_, rfl⟩
      rw [← hw8]
      have hb8 : Below w7.heap.size w7 w8 := by rw [hw8]; exact one_box' _ _
      have hB8 : Blk w8 w7.heap.size 102 #[.int .i64 (k : Int), .int .i64 (x.gen : Int), .int .i64 (x.count : Int), .slice none 0 0] := by rw [hw8]; exact Blk.new _ _ _
      have hl8 := hB8.lt
      have hS8 : OpS w7 w6.heap.size w7.heap.size r x.recs ⟨k, x.gen, x.count, x.recs.take 0⟩ (fun g => g = w7.heap.size) (.slice none 0 0) [] w8 :=
        ⟨H7.out.1.over hb8, H7.out.2.1.below hb8, ⟨⟨_, [], hB8, RcOwn.nil, ⟨fun g h => by simp [Value.ownBlock] at h, fun k r g h => by simp at h⟩, rfl⟩, rfl⟩, fun g e => Nat.le_of_eq e.symm, fun g e => Nat.lt_of_le_of_lt (Nat.le_of_eq e) hl8, RcOwn.nil, ⟨fun g h => by simp [Value.ownBlock] at h, fun k r g h => by simp at h⟩, hb8, hqw⟩
      have HS8 : Hid (OpS w7 w6.heap.size w7.heap.size r x.recs ⟨k, x.gen, x.count, x.recs.take 0⟩ (fun g => g = w7.heap.size) (.slice none 0 0) [] w8 ∧ ([] : List Rk).map Rk.rc = x.recs.take 0) := Lib.hid ⟨hS8, rfl⟩
      have hrm : r.m = x.recs.length := H7.out.2.1.len
      have hrm2 : r.m ≤ 65536 := by
        have h1 := HP.out.2.2.1.len18
        have h2 := HP.out.2.2.1.hi
        have h3 := HP.out.2.2.1.len
        have h4 := bodies_le x.recs
        omega
      have HRM := Lib.hid hrm
      have HOK := Lib.hid HP.out.2.2.1.ok
      clear hw8 hb8 hB8 hl8 hS8 x0 x1 x2 x3 x4 x5 hrm
      go_cut [14, 15, 16, 17] from 51 to 83 (fun vl _ _ _ wc => ∃ (F : Nat → Prop) (Kl : List Rk), Hid (OpS w7 w6.heap.size w7.heap.size r x.recs ⟨k, x.gen, x.count, x.recs⟩ F vl Kl wc ∧ Kl.map Rk.rc = x.recs))
      case first =>
        go_wp2_with fail
        go_loopw [14, 15, 16, 17] (fun vl i _ _ wr => ∃ (n : Nat) (F : Nat → Prop) (Kl : List Rk), n ≤ r.m ∧ i = .int .i64 (n : Int) ∧ Hid (OpS w7 w6.heap.size w7.heap.size r x.recs ⟨k, x.gen, x.count, x.recs.take n⟩ F vl Kl wr ∧ Kl.map Rk.rc = x.recs.take n)) (fun _ i _ _ _ => r.m - (intOf i).toNat)
        case atStart => exact ⟨0, _, [], by omega, rfl, HS8⟩
        case round =>
          obtain ⟨n, F, Kl, hn, rfl, HZ⟩ := hrel
          obtain ⟨Al, cl, rfl, _, _⟩ := HZ.out.1.own.shape
          obtain ⟨⟨x0, x1, x2, x3, x4, x5⟩, _⟩ := rv_cells HZ.out.1.src
          have hKl : Kl.length = n := by
            have := congrArg List.length HZ.out.2
            rw [List.length_map, List.length_take, ← HRM.out] at this
            omega
          by_cases hlt : n < r.m
          · have hI : (n : Int) < (r.m : Int) := by omega
            obtain ⟨rc, hx⟩ : ∃ rc, x.recs[n]? = some rc := ⟨x.recs[n]'(by rw [← HRM.out]; exact hlt), List.getElem?_eq_getElem _⟩
            obtain ⟨q, o, bA, bc, hA, hq, hqB, c0, c1, hrd, hcp, hbB⟩ := HZ.out.1.rd.at_ n rc hx
            have HX := Lib.hid hx
            have hqB2 : q < w7.heap.size := by omega
            rw [hA] at x3
            have HA := Lib.hid hA
            have hbod : rc.body.length ≤ 140737488355328 := by
              obtain ⟨_, _, _, _, h4⟩ := Rc.ok_k (HOK.out rc (List.mem_of_getElem? hx))
              omega
            have HT1 := Lib.hid (twin_any (w := wr) rc.kind bA rc.body.length bc rc.body hrd hbod)
            clear hA hbB hrd hcp hx hqB
            go_upto_region 19 with (go_at_call 53; refine HT1.out.mono ?_; rintro _ w9 ⟨A9, c9, rfl, ho9, hb9⟩; have H9 := Lib.hid (And.intro ho9 hb9); clear ho9 hb9)
            obtain ⟨w10, hw10⟩ : ∃ y, y = w9.alloc (.cells #[.int .i64 rc.kind, .slice A9 rc.body.length c9] 34) := ⟨_, rfl⟩
            rw [← hw10]
            have hb10 : Below w9.heap.size w9 w10 := by rw [hw10]; exact one_box' _ _
            have hX10 : Blk w10 w9.heap.size 34 #[.int .i64 rc.kind, .slice A9 rc.body.length c9] := by rw [hw10]; exact Blk.new _ _ _
            have hs9 := H9.out.2.size
            have hl10 := hX10.lt
            have hS10 := HZ.out.1.below (Below.then H9.out.2 hb10)
            have HB10 := Lib.hid (And.intro (Below.then H9.out.2 hb10) (And.intro hX10 hb10))
            clear x0 x1 x2 x3 x4 x5 c0 c1 hw10 hb10 hX10 HT1
            obtain ⟨⟨x0, x1, x2, x3, x4, x5⟩, _⟩ := rv_cells hS10.src
            obtain ⟨q', o', bA', bc', hA', hq', hqB', c0, c1, hrd', hcp', _⟩ := hS10.rd.at_ n rc HX.out
            rw [hA'] at x3
            have HT2 := Lib.hid (twin_any (w := w10) rc.kind bA' rc.body.length bc' rc.body hrd' hbod)
            have HS10 := Lib.hid hS10
            clear hA' hrd' hS10 hcp' hqB'
            go_upto_region 20 with (go_at_call 53; refine HT2.out.mono ?_; rintro _ w11 ⟨A11, c11, rfl, ho11, hb11⟩; have H11 := Lib.hid (And.intro ho11 hb11); clear ho11 hb11)
            obtain ⟨w12, hw12⟩ : ∃ y, y = w11.alloc (.cells #[.int .i64 rc.kind, .slice A11 rc.body.length c11] 34) := ⟨_, rfl⟩
            rw [← hw12]
            have hb12 : Below w11.heap.size w11 w12 := by rw [hw12]; exact one_box' _ _
            have hX12 : Blk w12 w11.heap.size 34 #[.int .i64 rc.kind, .slice A11 rc.body.length c11] := by rw [hw12]; exact Blk.new _ _ _
            have hs11 := H11.out.2.size
            clear x0 x1 x2 x3 x4 x5 c0 c1 hw12 HT2
            obtain ⟨wd, hwd⟩ : ∃ wd, wd = w12.drew := ⟨_, rfl⟩
            have hbd : Below w11.heap.size w11 wd := by rw [hwd]; exact below_drewN hb12 1
            have hXd : Blk wd w11.heap.size 34 #[.int .i64 rc.kind, .slice A11 rc.body.length c11] := by rw [hwd]; exact hX12.drewN 1
            have hb10d : Below w10.heap.size w10 wd := Below.then H11.out.2 hbd
            have hX9d := HB10.out.2.1.over hb10d
            have hBd : Below wr.heap.size wr wd := Below.then HB10.out.1 hb10d
            have hSd := HZ.out.1.below hBd
            obtain ⟨v, KL, hJB, hJK, hJF, hJm⟩ := hSd.jr.ex
            obtain ⟨Av, cv, rfl, _, _⟩ := hJK.shape
            have hKLl : KL.length ≤ 65536 := by
              have h4 : KL.length = (x.recs.take n).length := by
                have := congrArg List.length hJm
                rw [List.length_map] at this
                exact this
              rw [List.length_take] at h4
              omega
            have hxo : wd.ownsRow 0 5 1 (.slice A9 rc.body.length c9) rc.body.length (bvs rc.body) := own_base (own_over H9.out.1 (Below.then HB10.out.2.2 hb10d)) (Nat.zero_le _)
            have hxnew : ∀ g, (Value.slice A9 rc.body.length c9).ownBlock = some g → wr.heap.size ≤ g ∧ g < w9.heap.size := fun g hg => ⟨(own_block_lt H9.out.1 hg).2.1, (own_block_lt H9.out.1 hg).1⟩
            have hynew : ∀ g, (Value.slice A11 rc.body.length c11).ownBlock = some g → w10.heap.size ≤ g ∧ g < w11.heap.size := fun g hg => ⟨(own_block_lt H11.out.1 hg).2.1, (own_block_lt H11.out.1 hg).1⟩
            have hyo : wd.ownsRow w7.heap.size 5 1 (.slice A11 rc.body.length c11) rc.body.length (bvs rc.body) := own_base (own_over H11.out.1 hbd) (by have := HS10.out.bw.size; omega)
            have hvold : ∀ g, (Value.slice Av KL.length cv).ownBlock = some g → g < wr.heap.size := fun g hg => HZ.out.1.flt g (hJF.rows g hg)
            have j3 : wd.cell? ⟨w7.heap.size, 3, none⟩ = some (.slice Av KL.length cv) := hJB.cell 3
            have HJ := Lib.hid (And.intro hJB (And.intro hJK (And.intro hJF hJm)))
            have HXX := Lib.hid (And.intro hxo (And.intro hxnew (And.intro hvold (And.intro hBd hX9d))))
            have HY := Lib.hid (And.intro hyo (And.intro hynew hXd))
            have HWD := Lib.hid hwd
            have HSB : Hid ((wd.alloc (.cells #[.int .i64 rc.kind, .slice A9 rc.body.length c9] 34)).cell? ⟨w9.heap.size, 0, none⟩ = some (.int .i64 rc.kind) ∧ (wd.alloc (.cells #[.int .i64 rc.kind, .slice A9 rc.body.length c9] 34)).cell? ⟨w9.heap.size, 1, none⟩ = some (.slice A9 rc.body.length c9)) := Lib.hid ⟨(hX9d.alloc _).cell 0, (hX9d.alloc _).cell 1⟩
            have HJA : Hid ((wd.alloc (.cells #[.int .i64 rc.kind, .slice A9 rc.body.length c9] 34)).cell? ⟨w7.heap.size, 3, none⟩ = some (.slice Av KL.length cv)) := Lib.hid ((hJB.alloc _).cell 3)
            clear hb12 hX12 hwd hbd hXd hb10d hX9d hBd hSd hJB hJK hJF hJm hxo hxnew hynew hyo hvold
            go_cut [] from 70 to 79 (fun wc => ∃ F', Hid (RJAt wc F' w7.heap.size ⟨k, x.gen, x.count, x.recs.take n ++ [rc]⟩ ∧ Moved wr wc F F' ∧ Chg F wd wc ∧ (∀ g, (Value.slice A11 rc.body.length c11).ownBlock = some g → ¬ F' g)))
            case first =>
              obtain ⟨i1, hi1, hr0, hr1, hr2⟩ := info_parts info_rec
              have hqlt : w9.heap.size < wd.heap.size := HXX.out.2.2.2.2.lt
              have HSA : Hid (∀ w8, wd.grownBy w8 (Value.slice Av KL.length cv).ownBlock → w8.cell? ⟨w9.heap.size, 0, none⟩ = some (.int .i64 rc.kind) ∧ w8.cell? ⟨w9.heap.size, 1, none⟩ = some (.slice A9 rc.body.length c9)) := Lib.hid fun w8 hg => by
                have hne : ¬ some w9.heap.size = (Value.slice Av KL.length cv).ownBlock := fun e => by
                  have h1 := HXX.out.2.2.1 _ e.symm
                  omega
                have hX8 := HXX.out.2.2.2.2.chg (Chg.of_grown hg) hne
                exact ⟨hX8.cell 0, hX8.cell 1⟩
              have HKG : Hid (∀ w8, wd.grownBy w8 (Value.slice Av KL.length cv).ownBlock → w8.cell? ⟨w7.heap.size, 3, none⟩ = some (.slice Av KL.length cv) ∧ w8.frozen? ⟨w7.heap.size, 3, none⟩ = false) := Lib.hid fun w8 hg => by
                have hB8 := HJ.out.1.chg (Chg.of_grown hg) fun e => absurd (HJ.out.1.isT.eq_ (own_isT HJ.out.2.1.own e.symm)) (by decide)
                exact ⟨hB8.cell 3, hB8.frozen 3⟩
              have HFN : Hid (∀ v8 w8, w8.ownsRow 0 34 2 v8 (KL.length + 1) (rowsK KL ++ (Rk.mk rc (.slice A9 rc.body.length c9)).cells) → wd.grownBy w8 (Value.slice Av KL.length cv).ownBlock → (v8.ownBlock = (Value.slice Av KL.length cv).ownBlock ∨ v8.ownBlock = some (wd.heap.size + 1)) → (RJAt (w8.setCell ⟨w7.heap.size, 3, none⟩ v8) (fun k => F k ∨ v8.ownBlock = some k ∨ (Value.slice A9 rc.body.length c9).ownBlock = some k) w7.heap.size ⟨k, x.gen, x.count, x.recs.take n ++ [rc]⟩ ∧ Moved wr (w8.setCell ⟨w7.heap.size, 3, none⟩ v8) F (fun k => F k ∨ v8.ownBlock = some k ∨ (Value.slice A9 rc.body.length c9).ownBlock = some k) ∧ Chg F wd (w8.setCell ⟨w7.heap.size, 3, none⟩ v8) ∧ (∀ g, (Value.slice A11 rc.body.length c11).ownBlock = some g → ¬ (F g ∨ v8.ownBlock = some g ∨ (Value.slice A9 rc.body.length c9).ownBlock = some g))) ∧ ((w8.setCell ⟨w7.heap.size, 3, none⟩ v8).cell? ⟨w9.heap.size, 0, none⟩ = some (.int .i64 rc.kind) ∧ (w8.setCell ⟨w7.heap.size, 3, none⟩ v8).cell? ⟨w9.heap.size, 1, none⟩ = some (.slice A9 rc.body.length c9))) := Lib.hid fun v8 w8 ho hg hat => by
                have hxn : ∀ g, (Value.slice A9 rc.body.length c9).ownBlock = some g → ¬ F g := fun g hg hF => by
                  have h1 := (HXX.out.2.1 g hg).1
                  have h2 := HZ.out.1.flt g hF
                  omega
                obtain ⟨h1, h2⟩ := rj_push (j := ⟨k, x.gen, x.count, x.recs.take n⟩) (x := ⟨rc, .slice A9 rc.body.length c9⟩) HJ.out.1 HJ.out.2.1 HJ.out.2.2.1 HZ.out.1.jr.kgF HJ.out.2.2.2 HXX.out.1 hxn ho hg
                have hsz := HXX.out.2.2.2.1.size
                have hyl := HY.out.2.2.lt
                refine ⟨⟨h1, ⟨fun k hk => ?_, ?_⟩, h2, fun g hy hF => ?_⟩, ?_⟩
                · rcases hk with hk | hk | hk
                  · exact .inl hk
                  · rcases hat with e | e
                    · exact .inl (HJ.out.2.2.1.rows k (e ▸ hk))
                    · rw [e] at hk
                      injection hk with hk
                      exact .inr (by omega)
                  · exact .inr (HXX.out.2.1 k hk).1
                · exact (Chg.of_below HXX.out.2.2.2.1 F).trans h2
                · have hy2 := HY.out.2.1 g hy
                  rcases hF with hF | hF | hF
                  · have := HZ.out.1.flt g hF
                    omega
                  · rcases hat with e | e
                    · rw [e] at hF
                      have := HXX.out.2.2.1 g hF
                      omega
                    · rw [e] at hF
                      injection hF with hF
                      omega
                  · have := (HXX.out.2.1 g hF).2
                    omega
                · have hX9 := HXX.out.2.2.2.2.chg h2 fun hF => by have := HZ.out.1.flt _ hF; omega
                  exact ⟨hX9.cell 0, hX9.cell 1⟩
              refine wp_region_held_drew (S := fun W => W.cell? ⟨w9.heap.size, 0, none⟩ = some (.int .i64 rc.kind) ∧ W.cell? ⟨w9.heap.size, 1, none⟩ = some (.slice A9 rc.body.length c9)) (by kernel_rfl) (by rw [← HWD.out]; exact ⟨HXX.out.2.2.2.2.cell 0, HXX.out.2.2.2.2.cell 1⟩) (fun hsw => ?_)
              rw [← HWD.out] at hsw ⊢
              refine wpAnyH_take (i := 0) (oi := ?oi0a) (v := ?v0a) ?hi0a (by kernel_rfl) (by kernel_rfl) (by kernel_rfl) ?hq0a ?hy0a (by assumption) ?rest0a
              case hi0a => (simp only [List.getElem?_toArray, List.getElem?_cons_zero]; rfl)
              case hy0a => (refine Or.inl ⟨by rfl, ?_⟩; intro w hSw; (try dsimp only at hSw); go_simp; try with_reducible rfl)
              case hq0a => exact fun _ _ _ h => h
              try simp only [Act.put, List.setIfInBounds_toArray, List.set_cons_zero, List.set_cons_succ]
              refine wpAnyH_take (i := 1) (oi := ?oi1a) (v := ?v1a) ?hi1a (by kernel_rfl) (by kernel_rfl) (by kernel_rfl) ?hq1a ?hy1a (by assumption) ?rest1a
              case hi1a => (simp only [List.getElem?_toArray, List.getElem?_cons_zero, List.getElem?_cons_succ]; rfl)
              case hy1a => (refine Or.inl ⟨by rfl, ?_⟩; intro w hSw; (try dsimp only at hSw); go_simp; try with_reducible rfl)
              case hq1a => exact fun _ _ _ h => h
              try simp only [Act.put, List.setIfInBounds_toArray, List.set_cons_zero, List.set_cons_succ]
              refine wpAnyH_take (i := 2) (oi := ?oi2a) (v := ?v2a) ?hi2a (by kernel_rfl) (by kernel_rfl) (by kernel_rfl) ?hq2a ?hy2a (by assumption) ?rest2a
              case hi2a => (simp only [List.getElem?_toArray, List.getElem?_cons_zero, List.getElem?_cons_succ]; rfl)
              case hy2a => (refine Or.inl ⟨by rfl, ?_⟩; intro w hSw; (try dsimp only at hSw); go_simp; try with_reducible rfl)
              case hq2a => exact fun _ _ _ h => h
              try simp only [Act.put, List.setIfInBounds_toArray, List.set_cons_zero, List.set_cons_succ]
              refine wpAnyH_take (i := 3) (oi := ?oi3a) (v := ?v3a) ?hi3a (by kernel_rfl) (by kernel_rfl) (by kernel_rfl) ?hq3a ?hy3a (by assumption) ?rest3a
              case hi3a => (simp only [List.getElem?_toArray, List.getElem?_cons_zero, List.getElem?_cons_succ]; rfl)
              case hy3a => (refine Or.inl ⟨by rfl, ?_⟩; intro w hSw; (try dsimp only at hSw); go_simp; try with_reducible rfl)
              case hq3a => exact fun _ _ _ h => h
              try simp only [Act.put, List.setIfInBounds_toArray, List.set_cons_zero, List.set_cons_succ]
              refine wpAnyH_take (i := 5) (oi := ?oi5a) (v := ?v5a) ?hi5a (by kernel_rfl) (by kernel_rfl) (by kernel_rfl) ?hq5a ?hy5a (by assumption) ?rest5a
              case hi5a => (simp only [List.getElem?_toArray, List.getElem?_cons_zero, List.getElem?_cons_succ]; rfl)
              case hy5a => (refine Or.inl ⟨by rfl, ?_⟩; intro w hSw; (try dsimp only at hSw); go_simp; try with_reducible rfl)
              case hq5a => exact fun _ _ _ h => h
              try simp only [Act.put, List.setIfInBounds_toArray, List.set_cons_zero, List.set_cons_succ]
              refine wpAnyH_ready (rs := [4, 6]) (by kernel_rfl) (by simp) ?_
              refine AllReadyH.cons (o := ?o4b4) ?ho4b4 (fun K hK => ?st4b4) ?mo4b4
              case ho4b4 => (simp only [List.getElem?_toArray, List.getElem?_cons_zero, List.getElem?_cons_succ]; rfl)
              · skip
                go_simp
                refine hK.out _ _ hsw (fun _ => ?_)
                clear hK K
                try simp only [Act.put, List.setIfInBounds_toArray, List.set_cons_zero, List.set_cons_succ]
                refine wpAnyH_ready (rs := [6]) (by kernel_rfl) (by simp) ?_
                refine AllReadyH.cons (o := ?o6b6) ?ho6b6 (fun K hK => ?st6b6) ?mo6b6
                case ho6b6 => (simp only [List.getElem?_toArray, List.getElem?_cons_zero, List.getElem?_cons_succ]; rfl)
                · skip
                  go_simp
                  have hsa := HSB.out
                  refine hK.out _ _ hsa (fun _ => ?_)
                  clear hK K hsa
                  try simp only [Act.put, List.setIfInBounds_toArray, List.set_cons_zero, List.set_cons_succ]
                  refine wpAnyH_ready (rs := [7]) (by kernel_rfl) (by simp) ?_
                  refine AllReadyH.cons (o := ?o7c7) ?ho7c7 (fun K hK => ?st7c7) ?mo7c7
                  case ho7c7 => (simp only [List.getElem?_toArray, List.getElem?_cons_zero, List.getElem?_cons_succ]; rfl)
                  · skip
                    refine step_appN wd (by rfl) _ _ 25 (by rfl) 0 34 i1 _ 2 32 u_recs hi1 hr0 hr1 hr2 rfl (by omega) _ KL.length _ (by rfl) HJ.out.2.1.own #[.int .i64 rc.kind, .slice A9 rc.body.length c9] rfl (by rfl) (by simp; exact ⟨rfl, rfl⟩) (by simp only [maxLen]; omega) (by omega) (Nat.zero_le _) ?_
                    intro v8 w8 how8 _ hg8 hat8
                    obtain ⟨A8, c8, rfl, _, _⟩ := own_shape how8
                    have hs8 := HSA.out w8 hg8
                    have hkk := HKG.out w8 hg8
                    have H8 := Lib.hid (And.intro how8 (And.intro hg8 hat8))
                    refine hK.out _ _ hs8 (fun _ => ?_)
                    clear hK K how8 hg8 hat8 hs8
                    try simp only [Act.put, List.setIfInBounds_toArray, List.set_cons_zero, List.set_cons_succ]
                    refine wpAnyH_take (i := 8) (oi := ?oi8ct) (v := ?v8ct) ?hi8ct (by kernel_rfl) (by kernel_rfl) (by kernel_rfl) ?hq8ct ?hy8ct (by assumption) ?rest8ct
                    case hi8ct => (simp only [List.getElem?_toArray, List.getElem?_cons_zero, List.getElem?_cons_succ]; rfl)
                    case hy8ct => (refine Or.inl ⟨by rfl, ?_⟩; intro w hSw; (try dsimp only at hSw); go_simp; try with_reducible rfl)
                    case hq8ct => exact fun _ _ _ h => h
                    try simp only [Act.put, List.setIfInBounds_toArray, List.set_cons_zero, List.set_cons_succ]
                    refine wpAnyH_take (i := 9) (oi := ?oi9ct) (v := ?v9ct) ?hi9ct (by kernel_rfl) (by kernel_rfl) (by kernel_rfl) ?hq9ct ?hy9ct (by assumption) ?rest9ct
                    case hi9ct => (simp only [List.getElem?_toArray, List.getElem?_cons_zero, List.getElem?_cons_succ]; rfl)
                    case hy9ct => (refine Or.inl ⟨by rfl, ?_⟩; intro w hSw; (try dsimp only at hSw); go_simp; try with_reducible rfl)
                    case hq9ct => exact fun _ _ _ h => h
                    try simp only [Act.put, List.setIfInBounds_toArray, List.set_cons_zero, List.set_cons_succ]
                    refine wpAnyH_ready (rs := [10]) (by kernel_rfl) (by simp) ?_
                    refine AllReadyH.cons (o := ?o10c10) ?ho10c10 (fun K hK => ?st10c10) ?mo10c10
                    case ho10c10 => (simp only [List.getElem?_toArray, List.getElem?_cons_zero, List.getElem?_cons_succ]; rfl)
                    · skip
                      obtain ⟨k3, kf⟩ := hkk
                      go_simp
                      have hfin := HFN.out _ w8 H8.out.1 H8.out.2.1 H8.out.2.2
                      refine hK.out _ _ hfin.2 (fun _ => ?_)
                      have HX9 := Lib.hid hfin.1
                      clear hK K hfin
                      try simp only [Act.put, List.setIfInBounds_toArray, List.set_cons_zero, List.set_cons_succ]
                      refine wpAnyH_done (by kernel_rfl) ?_ _
                      go_wp2_with fail
                      go_meet
                      exact ⟨_, Lib.hid HX9.out⟩
                    exact AllReadyH.nil
                  exact AllReadyH.nil
                exact AllReadyH.nil
              refine AllReadyH.cons (o := ?o6d6) ?ho6d6 (fun K hK => ?st6d6) ?mo6d6
              case ho6d6 => (simp only [List.getElem?_toArray, List.getElem?_cons_zero, List.getElem?_cons_succ]; rfl)
              · skip
                go_simp
                have hsa := HSB.out
                have j3a := HJA.out
                refine hK.out _ _ hsa (fun _ => ?_)
                clear hK K hsa
                try simp only [Act.put, List.setIfInBounds_toArray, List.set_cons_zero, List.set_cons_succ]
                refine wpAnyH_ready (rs := [4]) (by kernel_rfl) (by simp) ?_
                refine AllReadyH.cons (o := ?o4d4) ?ho4d4 (fun K hK => ?st4d4) ?mo4d4
                case ho4d4 => (simp only [List.getElem?_toArray, List.getElem?_cons_zero, List.getElem?_cons_succ]; rfl)
                · skip
                  go_simp
                  have hsa := HSB.out
                  refine hK.out _ _ hsa (fun _ => ?_)
                  clear hK K hsa j3a
                  try simp only [Act.put, List.setIfInBounds_toArray, List.set_cons_zero, List.set_cons_succ]
                  refine wpAnyH_ready (rs := [7]) (by kernel_rfl) (by simp) ?_
                  refine AllReadyH.cons (o := ?o7e7) ?ho7e7 (fun K hK => ?st7e7) ?mo7e7
                  case ho7e7 => (simp only [List.getElem?_toArray, List.getElem?_cons_zero, List.getElem?_cons_succ]; rfl)
                  · skip
                    refine step_appN wd (by rfl) _ _ 25 (by rfl) 0 34 i1 _ 2 32 u_recs hi1 hr0 hr1 hr2 rfl (by omega) _ KL.length _ (by rfl) HJ.out.2.1.own #[.int .i64 rc.kind, .slice A9 rc.body.length c9] rfl (by rfl) (by simp; exact ⟨rfl, rfl⟩) (by simp only [maxLen]; omega) (by omega) (Nat.zero_le _) ?_
                    intro v8 w8 how8 _ hg8 hat8
                    obtain ⟨A8, c8, rfl, _, _⟩ := own_shape how8
                    have hs8 := HSA.out w8 hg8
                    have hkk := HKG.out w8 hg8
                    have H8 := Lib.hid (And.intro how8 (And.intro hg8 hat8))
                    refine hK.out _ _ hs8 (fun _ => ?_)
                    clear hK K how8 hg8 hat8 hs8
                    try simp only [Act.put, List.setIfInBounds_toArray, List.set_cons_zero, List.set_cons_succ]
                    refine wpAnyH_take (i := 8) (oi := ?oi8et) (v := ?v8et) ?hi8et (by kernel_rfl) (by kernel_rfl) (by kernel_rfl) ?hq8et ?hy8et (by assumption) ?rest8et
                    case hi8et => (simp only [List.getElem?_toArray, List.getElem?_cons_zero, List.getElem?_cons_succ]; rfl)
                    case hy8et => (refine Or.inl ⟨by rfl, ?_⟩; intro w hSw; (try dsimp only at hSw); go_simp; try with_reducible rfl)
                    case hq8et => exact fun _ _ _ h => h
                    try simp only [Act.put, List.setIfInBounds_toArray, List.set_cons_zero, List.set_cons_succ]
                    refine wpAnyH_take (i := 9) (oi := ?oi9et) (v := ?v9et) ?hi9et (by kernel_rfl) (by kernel_rfl) (by kernel_rfl) ?hq9et ?hy9et (by assumption) ?rest9et
                    case hi9et => (simp only [List.getElem?_toArray, List.getElem?_cons_zero, List.getElem?_cons_succ]; rfl)
                    case hy9et => (refine Or.inl ⟨by rfl, ?_⟩; intro w hSw; (try dsimp only at hSw); go_simp; try with_reducible rfl)
                    case hq9et => exact fun _ _ _ h => h
                    try simp only [Act.put, List.setIfInBounds_toArray, List.set_cons_zero, List.set_cons_succ]
                    refine wpAnyH_ready (rs := [10]) (by kernel_rfl) (by simp) ?_
                    refine AllReadyH.cons (o := ?o10e10) ?ho10e10 (fun K hK => ?st10e10) ?mo10e10
                    case ho10e10 => (simp only [List.getElem?_toArray, List.getElem?_cons_zero, List.getElem?_cons_succ]; rfl)
                    · skip
                      obtain ⟨k3, kf⟩ := hkk
                      go_simp
                      have hfin := HFN.out _ w8 H8.out.1 H8.out.2.1 H8.out.2.2
                      refine hK.out _ _ hfin.2 (fun _ => ?_)
                      have HX9 := Lib.hid hfin.1
                      clear hK K hfin
                      try simp only [Act.put, List.setIfInBounds_toArray, List.set_cons_zero, List.set_cons_succ]
                      refine wpAnyH_done (by kernel_rfl) ?_ _
                      go_wp2_with fail
                      go_meet
                      exact ⟨_, Lib.hid HX9.out⟩
                    exact AllReadyH.nil
                  exact AllReadyH.nil
                exact AllReadyH.nil
              exact AllReadyH.nil
            obtain ⟨F1, hC⟩ := hcut
            have hSc := HZ.out.1.turn hC.1 hC.2.1
            have hyc := own_chg HY.out.1 hC.2.2.1 fun g hg hF => by
              have h1 := (HY.out.2.1 g hg).1
              have h2 := HZ.out.1.flt g hF
              omega
            have hXc : Blk wc w11.heap.size 34 #[.int .i64 rc.kind, .slice A11 rc.body.length c11] := HY.out.2.2.chg hC.2.2.1 fun hF => by
              have h2 := HZ.out.1.flt _ hF
              omega
            have q0 : wc.cell? ⟨w11.heap.size, 0, none⟩ = some (.int .i64 rc.kind) := hXc.cell 0
            have q1 : wc.cell? ⟨w11.heap.size, 1, none⟩ = some (.slice A11 rc.body.length c11) := hXc.cell 1
            have how := hSc.own.own
            rw [hKl] at how
            have hyF : ∀ g, (Value.slice A11 rc.body.length c11).ownBlock = some g → ¬ F1 g := hC.2.2.2
            have hyK : ∀ (kk : Nat) (r' : Rk) (g : Nat), Kl[kk]? = some r' → r'.v.ownBlock = some g → (Value.slice A11 rc.body.length c11).ownBlock = some g → False := fun kk r' g hk h1 h2 => by
              have e1 := (own_block_lt (HZ.out.1.own.bod kk r' hk) h1).1
              have e2 := (HY.out.2.1 g h2).1
              omega
            have HSC := Lib.hid hSc
            have HOW := Lib.hid how
            have HYC := Lib.hid (And.intro hyc (And.intro hyF hyK))
            have et : x.recs.take (n + 1) = x.recs.take n ++ [rc] := by rw [List.take_add_one, HX.out]; rfl
            have HET := Lib.hid et
            have HKL := Lib.hid hKl
            obtain ⟨i1, hi1, hr0, hr1, hr2⟩ := info_parts info_rec
            have hn65 : n ≤ 65536 := by omega
            clear hC hSc hyc hXc how hyF hyK et j3 hKl
            go_upto_region 17 with (
              at_builtin
              refine appN2 wc (by rfl) _ _ 25 (by rfl) w7.heap.size 34 i1 _ 2 32 u_recs hi1 hr0 hr1 hr2 rfl (by omega) _ n _ (by rfl) HOW.out #[.int .i64 rc.kind, .slice A11 rc.body.length c11] rfl (by rfl) (by simp; exact ⟨rfl, rfl⟩) (by simp only [maxLen]; omega) (by omega) HSC.out.bw.size ?_
              intro v9 w13 how9 _ hg9 hat9
              obtain ⟨Av9, cv9, rfl, _, _⟩ := own_shape how9
              have H13 := Lib.hid (And.intro how9 (And.intro hg9 hat9))
              clear how9 hg9 hat9)
            go_wp2_with fail
            go_roundw
            case rel =>
              have hfin := HSC.out.snoc (x := ⟨rc, .slice A11 rc.body.length c11⟩) (v2 := .slice Av9 (n + 1) cv9) (w2 := w13) (by rw [HKL.out]; exact H13.out.1) (by rw [HKL.out]; exact H13.out.2.1) (by rw [HKL.out]; exact H13.out.2.2) HYC.out.1 (fun g hg hF => HYC.out.2.1 g hg hF.1) HYC.out.2.2
              have hml : (Kl ++ [(⟨rc, .slice A11 rc.body.length c11⟩ : Rk)]).map Rk.rc = x.recs.take (n + 1) := by
                rw [HET.out, List.map_append, HZ.out.2]
                rfl
              rw [← HET.out] at hfin
              exact ⟨n + 1, _, _, by omega, by go_num, Lib.hid (And.intro hfin hml)⟩
            case measure => simp [intOf] <;> omega
          · obtain rfl : n = r.m := by omega
            have dli : decide ((r.m : Int) < (r.m : Int)) = false := by simp
            go_wp2_with fail
            go_meet
            have et : x.recs.take r.m = x.recs := List.take_of_length_le (by rw [← HRM.out]; exact Nat.le_refl _)
            rw [et] at HZ
            exact ⟨F, Kl, HZ⟩
      obtain ⟨F, Kl, HZ⟩ := hcut
      obtain ⟨Al, cl, rfl, _, _⟩ := HZ.out.1.own.shape
      obtain ⟨⟨x0, x1, x2, x3, x4, x5⟩, _⟩ := rv_cells HZ.out.1.src
      rw [H7.out.2.2.2.1] at x0
      rw [H7.out.2.2.2.2.2] at x5
      have hwl := H7.out.2.2.1.size
      have HWC : Hid (Below w.heap.size w wc) := Lib.hid (H7.out.2.2.1.trans (HZ.out.1.bw.mono hwl))
      by_cases hcl : x.fin = (f.nth k).length
      · rw [decide_eq_true hcl] at x5
        have hJ : openR f = .ok ⟨k, x.gen, x.count, x.recs⟩ x.recs [] := by
          unfold openR
          rw [HP.out.1]
          dsimp only
          rw [if_pos hcl]
        have HJJ := Lib.hid hJ
        clear hcl hJ
        go_wp2
        refine bodyPost_ret (v := .tuple #[.pointer (some ⟨w7.heap.size, 0, none⟩), .slice Al Kl.length cl, .slice none 0 0, .int .i64 0]) (by simp [results, Tryd.results19, go_sem]) rfl ⟨HWC.out, ?_⟩
        rw [HJJ.out]
        exact ⟨w7.heap.size, _, _, Kl, F, rfl, HZ.out.1.jr, fun g hg => ⟨Nat.le_trans hwl (HZ.out.1.fge g hg), HZ.out.1.flt g hg⟩, HZ.out.2, HZ.out.1.own.mono hwl, WOut.nil⟩
      · rw [decide_eq_false hcl] at x5
        have HCL := Lib.hid hcl
        by_cases hgm : x.gen = 4611686018427387904
        · have b0 : ((x.gen : Int) == 4611686018427387904) = true := by rw [hgm]; rfl
          have hJ : openR f = .spent := by
            unfold openR
            rw [HP.out.1]
            dsimp only
            rw [if_neg hcl, if_pos hgm]
          have HJJ := Lib.hid hJ
          clear hcl hJ hgm
          go_wp2
          refine bodyPost_ret (v := .tuple #[.pointer none, .slice none 0 0, .slice none 0 0, .int .i64 3]) (by simp [results, Tryd.results19, go_sem]) rfl ⟨HWC.out, ?_⟩
          rw [HJJ.out]
        · have b0 : ((x.gen : Int) == 4611686018427387904) = false := by rw [beq_eq_false_iff_ne]; omega
          have hJ : openR f = .ok ⟨1 - k, x.gen + 1, x.recs.length, x.recs⟩ x.recs [⟨((1 - k : Nat) : Int), true, textB (x.gen + 1) x.recs.length x.recs⟩] := by
            unfold openR
            rw [HP.out.1]
            dsimp only
            rw [if_neg hcl, if_neg hgm]
          have hgx := HP.out.2.2.1.gen
          have hKl : Kl.length = x.recs.length := by
            have := congrArg List.length HZ.out.2
            rw [List.length_map] at this
            exact this
          have hlr : x.recs.length ≤ 65536 := by
            rw [← HRM.out]
            omega
          have HJJ := Lib.hid hJ
          clear hcl hJ
          obtain ⟨v, KL, hJB, _⟩ := id HZ.out.1.jr.ex
          have j0 : wc.cell? ⟨w7.heap.size, 0, none⟩ = some (.int .i64 (k : Int)) := hJB.cell 0
          have j1 : wc.cell? ⟨w7.heap.size, 1, none⟩ = some (.int .i64 (x.gen : Int)) := hJB.cell 1
          have j2 : wc.cell? ⟨w7.heap.size, 2, none⟩ = some (.int .i64 (x.count : Int)) := hJB.cell 2
          have jf0 := hJB.frozen 0
          have jf1 := hJB.frozen 1
          have jf2 := hJB.frozen 2
          have hne7 : w7.heap.size ≠ w6.heap.size := by omega
          clear hJB
          go_upto_region 29 with fail
          have eF : (1 : Int) - (k : Int) = ((1 - k : Nat) : Int) := by omega
          have eG : (x.gen : Int) + 1 = ((x.gen + 1 : Nat) : Int) := by omega
          rw [eF, eG]
          have hst := rj_set HZ.out.1.jr (1 - k) (x.gen + 1) x.recs.length
          have hS9 := HZ.out.1.turn hst.1 hst.2
          clear hst eF eG x0 x1 x2 x3 x4 x5 j0 j1 j2 jf0 jf1 jf2
          generalize ((wc.setCell ⟨w7.heap.size, 0, none⟩ (.int .i64 ((1 - k : Nat) : Int))).setCell ⟨w7.heap.size, 1, none⟩ (.int .i64 ((x.gen + 1 : Nat) : Int))).setCell ⟨w7.heap.size, 2, none⟩ (.int .i64 (x.recs.length : Int)) = ws at hS9 ⊢
          have HS9 := Lib.hid hS9
          have hby := Bytes_any hS9.jr (openR_fine HJJ.out).1
          have htl : (JP.text ⟨1 - k, x.gen + 1, x.recs.length, x.recs⟩).length = 18 + bodies x.recs := textB_length _ _ _
          rw [htl] at hby
          have HBY := Lib.hid hby
          have HKL := Lib.hid hKl
          clear hS9 hby htl
          go_upto_region 30 with (go_at_call 54; refine HBY.out.mono ?_; rintro _ w10 ⟨A10, c10, rfl, ho10, hb10⟩; obtain ⟨g10, rfl, _, _, _⟩ := own_open ho10 (by omega); have H10 := Lib.hid (And.intro ho10 hb10); clear ho10 hb10)
          have hS10 := HS9.out.below H10.out.2
          obtain ⟨wd, hwd⟩ : ∃ y, y = w10.drew := ⟨_, rfl⟩
          have hbd : Below w10.heap.size w10 wd := by rw [hwd]; exact below_drewN (Below.refl _ _) 1
          have hSd := hS10.below hbd
          obtain ⟨v, KL, hJB, _⟩ := id hSd.jr.ex
          have hsd : wd.cell? ⟨w7.heap.size, 0, none⟩ = some (.int .i64 ((1 - k : Nat) : Int)) := hJB.cell 0
          have hod := own_over H10.out.1 hbd
          have HSD := Lib.hid (And.intro hSd hod)
          have HCD := Lib.hid hsd
          have hzd : ws.heap.size ≤ wd.heap.size := Nat.le_trans H10.out.2.size hbd.size
          have hzs := HS9.out.bw.size
          have HWD := Lib.hid hwd
          clear hJB hS10 hbd hSd hod hwd
          refine wp_region_held_drew (S := fun W => W.cell? ⟨w7.heap.size, 0, none⟩ = some (.int .i64 ((1 - k : Nat) : Int))) (by kernel_rfl) (by rw [← HWD.out]; exact hsd) (fun hsw => ?_)
          rw [← HWD.out] at hsw ⊢
          refine wpAnyH_take (i := 0) (oi := ?oi0ya) (v := ?v0ya) ?hi0ya (by kernel_rfl) (by kernel_rfl) (by kernel_rfl) ?hq0ya ?hy0ya (by assumption) ?rest0ya
          case hi0ya => (simp only [List.getElem?_toArray, List.getElem?_cons_zero]; rfl)
          case hy0ya => (refine Or.inl ⟨by rfl, ?_⟩; intro w hSw; (try dsimp only at hSw); go_simp; try with_reducible rfl)
          case hq0ya => exact fun _ _ _ h => h
          try simp only [Act.put, List.setIfInBounds_toArray, List.set_cons_zero, List.set_cons_succ]
          refine wpAnyH_take (i := 1) (oi := ?oi1ya) (v := ?v1ya) ?hi1ya (by kernel_rfl) (by kernel_rfl) (by kernel_rfl) ?hq1ya ?hy1ya (by assumption) ?rest1ya
          case hi1ya => (simp only [List.getElem?_toArray, List.getElem?_cons_zero, List.getElem?_cons_succ]; rfl)
          case hy1ya => (refine Or.inl ⟨by rfl, ?_⟩; intro w hSw; (try dsimp only at hSw); go_simp; try with_reducible rfl)
          case hq1ya => exact fun _ _ _ h => h
          try simp only [Act.put, List.setIfInBounds_toArray, List.set_cons_zero, List.set_cons_succ]
          refine wpAnyH_take (i := 2) (oi := ?oi2ya) (v := ?v2ya) ?hi2ya (by kernel_rfl) (by kernel_rfl) (by kernel_rfl) ?hq2ya ?hy2ya (by assumption) ?rest2ya
          case hi2ya => (simp only [List.getElem?_toArray, List.getElem?_cons_zero, List.getElem?_cons_succ]; rfl)
          case hy2ya => (refine Or.inl ⟨by rfl, ?_⟩; intro w hSw; (try dsimp only at hSw); go_simp; try with_reducible rfl)
          case hq2ya => exact fun _ _ _ h => h
          try simp only [Act.put, List.setIfInBounds_toArray, List.set_cons_zero, List.set_cons_succ]
          refine wpAnyH_take (i := 3) (oi := ?oi3ya) (v := ?v3ya) ?hi3ya (by kernel_rfl) (by kernel_rfl) (by kernel_rfl) ?hq3ya ?hy3ya (by assumption) ?rest3ya
          case hi3ya => (simp only [List.getElem?_toArray, List.getElem?_cons_zero, List.getElem?_cons_succ]; rfl)
          case hy3ya => (refine Or.inl ⟨by rfl, ?_⟩; intro w hSw; (try dsimp only at hSw); go_simp; try with_reducible rfl)
          case hq3ya => exact fun _ _ _ h => h
          try simp only [Act.put, List.setIfInBounds_toArray, List.set_cons_zero, List.set_cons_succ]
          refine wpAnyH_take (i := 4) (oi := ?oi4ya) (v := ?v4ya) ?hi4ya (by kernel_rfl) (by kernel_rfl) (by kernel_rfl) ?hq4ya ?hy4ya (by assumption) ?rest4ya
          case hi4ya => (simp only [List.getElem?_toArray, List.getElem?_cons_zero, List.getElem?_cons_succ]; rfl)
          case hy4ya => (refine Or.inl ⟨by rfl, ?_⟩; intro w hSw; (try dsimp only at hSw); go_simp; try with_reducible rfl)
          case hq4ya => exact fun _ _ _ h => h
          try simp only [Act.put, List.setIfInBounds_toArray, List.set_cons_zero, List.set_cons_succ]
          refine wpAnyH_take (i := 5) (oi := ?oi5ya) (v := ?v5ya) ?hi5ya (by kernel_rfl) (by kernel_rfl) (by kernel_rfl) ?hq5ya ?hy5ya (by assumption) ?rest5ya
          case hi5ya => (simp only [List.getElem?_toArray, List.getElem?_cons_zero, List.getElem?_cons_succ]; rfl)
          case hy5ya => (refine Or.inl ⟨by rfl, ?_⟩; intro w hSw; (try dsimp only at hSw); go_simp; try with_reducible rfl)
          case hq5ya => exact fun _ _ _ h => h
          try simp only [Act.put, List.setIfInBounds_toArray, List.set_cons_zero, List.set_cons_succ]
          refine wpAnyH_take (i := 6) (oi := ?oi6ya) (v := ?v6ya) ?hi6ya (by kernel_rfl) (by kernel_rfl) (by kernel_rfl) ?hq6ya ?hy6ya (by assumption) ?rest6ya
          case hi6ya => (simp only [List.getElem?_toArray, List.getElem?_cons_zero, List.getElem?_cons_succ]; rfl)
          case hy6ya => (refine Or.inl ⟨by rfl, ?_⟩; intro w hSw; (try dsimp only at hSw); go_simp; try with_reducible rfl)
          case hq6ya => exact fun _ _ _ h => h
          try simp only [Act.put, List.setIfInBounds_toArray, List.set_cons_zero, List.set_cons_succ]
          refine wpAnyH_take (i := 7) (oi := ?oi7ya) (v := ?v7ya) ?hi7ya (by kernel_rfl) (by kernel_rfl) (by kernel_rfl) ?hq7ya ?hy7ya (by assumption) ?rest7ya
          case hi7ya => (simp only [List.getElem?_toArray, List.getElem?_cons_zero, List.getElem?_cons_succ]; rfl)
          case hy7ya => (refine Or.inl ⟨by rfl, ?_⟩; intro w hSw; (try dsimp only at hSw); go_simp; try with_reducible rfl)
          case hq7ya => exact fun _ _ _ h => h
          try simp only [Act.put, List.setIfInBounds_toArray, List.set_cons_zero, List.set_cons_succ]
          refine wpAnyH_take (i := 9) (oi := ?oi9ya) (v := ?v9ya) ?hi9ya (by kernel_rfl) (by kernel_rfl) (by kernel_rfl) ?hq9ya ?hy9ya (by assumption) ?rest9ya
          case hi9ya => (simp only [List.getElem?_toArray, List.getElem?_cons_zero, List.getElem?_cons_succ]; rfl)
          case hy9ya => (refine Or.inl ⟨by rfl, ?_⟩; intro w hSw; (try dsimp only at hSw); go_simp; try with_reducible rfl)
          case hq9ya => exact fun _ _ _ h => h
          try simp only [Act.put, List.setIfInBounds_toArray, List.set_cons_zero, List.set_cons_succ]
          refine wpAnyH_take (i := 10) (oi := ?oi10ya) (v := ?v10ya) ?hi10ya (by kernel_rfl) (by kernel_rfl) (by kernel_rfl) ?hq10ya ?hy10ya (by assumption) ?rest10ya
          case hi10ya => (simp only [List.getElem?_toArray, List.getElem?_cons_zero, List.getElem?_cons_succ]; rfl)
          case hy10ya => (refine Or.inl ⟨by rfl, ?_⟩; intro w hSw; (try dsimp only at hSw); go_simp; try with_reducible rfl)
          case hq10ya => exact fun _ _ _ h => h
          try simp only [Act.put, List.setIfInBounds_toArray, List.set_cons_zero, List.set_cons_succ]
          refine wpAnyH_ready (rs := [8]) (by kernel_rfl) (by simp) ?_
          refine AllReadyH.cons (o := ?o8yb) ?ho8yb (fun K hK => ?st8yb) ?mo8yb
          case ho8yb => (simp only [List.getElem?_toArray, List.getElem?_cons_zero, List.getElem?_cons_succ]; rfl)
          · skip
            go_simp
            obtain ⟨wf, hwf⟩ : ∃ y, y = wd.alloc (.cells #[.int .i64 ((1 - k : Nat) : Int), .bool true, .slice (some ⟨g10, 0, none⟩) (18 + bodies x.recs) c10] 94) := ⟨_, rfl⟩
            have hbf : Below wd.heap.size wd wf := by rw [hwf]; exact one_box' _ _
            have hwo : WOut wf w.heap.size (.slice (some ⟨wd.heap.size, 0, none⟩) 1 1) [⟨((1 - k : Nat) : Int), true, textB (x.gen + 1) x.recs.length x.recs⟩] := by
              rw [hwf]
              exact wout_one (x := ⟨((1 - k : Nat) : Int), true, textB (x.gen + 1) x.recs.length x.recs⟩) (textB_length _ _ _) (by omega) (own_base HSD.out.2 (by omega)) (by omega)
            rw [← hwf]
            have hsf := (hbf.cell (p := ⟨w7.heap.size, 0, none⟩) (cell_lt HCD.out)).trans HCD.out
            have HF := Lib.hid (And.intro hbf hwo)
            refine hK.out _ _ hsf (fun _ => ?_)
            clear hK K hwf hbf hwo hsf
            try simp only [Act.put, List.setIfInBounds_toArray, List.set_cons_zero, List.set_cons_succ]
            refine wpAnyH_take (i := 11) (oi := ?oi11yc) (v := ?v11yc) ?hi11yc (by kernel_rfl) (by kernel_rfl) (by kernel_rfl) ?hq11yc ?hy11yc (by assumption) ?rest11yc
            case hi11yc => (simp only [List.getElem?_toArray, List.getElem?_cons_zero, List.getElem?_cons_succ]; rfl)
            case hy11yc => (refine Or.inl ⟨by rfl, ?_⟩; intro w hSw; (try dsimp only at hSw); go_simp; try with_reducible rfl)
            case hq11yc => exact fun _ _ _ h => h
            try simp only [Act.put, List.setIfInBounds_toArray, List.set_cons_zero, List.set_cons_succ]
            refine wpAnyH_take (i := 12) (oi := ?oi12yc) (v := ?v12yc) ?hi12yc (by kernel_rfl) (by kernel_rfl) (by kernel_rfl) ?hq12yc ?hy12yc (by assumption) ?rest12yc
            case hi12yc => (simp only [List.getElem?_toArray, List.getElem?_cons_zero, List.getElem?_cons_succ]; rfl)
            case hy12yc => (refine Or.inl ⟨by rfl, ?_⟩; intro w hSw; (try dsimp only at hSw); go_simp; try with_reducible rfl)
            case hq12yc => exact fun _ _ _ h => h
            try simp only [Act.put, List.setIfInBounds_toArray, List.set_cons_zero, List.set_cons_succ]
            refine wpAnyH_done (by kernel_rfl) ?_ _
            go_wp2
            have hfin := HSD.out.1.below HF.out.1
            refine bodyPost_ret (v := .tuple #[.pointer (some ⟨w7.heap.size, 0, none⟩), .slice Al x.recs.length cl, .slice (some ⟨wd.heap.size, 0, none⟩) 1 1, .int .i64 0]) (by simp [results, Tryd.results19, go_sem]) rfl ⟨H7.out.2.2.1.trans (hfin.bw.mono hwl), ?_⟩
            rw [HJJ.out]
            refine ⟨w7.heap.size, _, _, Kl, _, rfl, hfin.jr, fun g hg => ⟨Nat.le_trans hwl (hfin.fge g hg), hfin.flt g hg⟩, HZ.out.2, ?_, HF.out.2⟩
            have := hfin.own.mono hwl
            rw [HKL.out] at this
            exact this
          exact AllReadyH.nil
    case inr =>
      unfold RdV at hv7
      rw [HP.out.2.1] at hv7
      obtain ⟨v1, v2, v3, v4, v5, K0, v6, v7, v8⟩ := hv7
      have hw17 : w1.heap.size ≤ w7.heap.size := by
        have := HB6.out.size
        have := hb7.size
        have := H2.out.2.size
        omega
      have hrd7 : RcRd w7 (fun g => w7.heap.size ≤ g) r.A r.m x.recs := by
        rw [← v6, v7]
        rw [v7] at v8
        exact v8.rd fun g _ h1 h2 => by omega
      have hqw : w6.heap.size < w7.heap.size := hX7.lt
      obtain ⟨⟨x0, x1, x2, x3, x4, x5⟩, _⟩ := rv_cells hX7
      have hbw7 : Below w.heap.size w w7 := HB6.out.trans (hb7.mono HB6.out.size)
      have H7 := Lib.hid (And.intro hX7 (And.intro hrd7 (And.intro hbw7 (And.intro v1 (And.intro v3 v5)))))
      rw [v1] at x0
      rw [v2] at x1
      clear hb7 hX7 v1 v2 v3 v4 v5 v6 v7 v8 hrd7 hbw7 hb hk
      go_upto_block 0 with fail
      obtain ⟨w8, hw8⟩ : ∃ y, y = w7.alloc (.cells #[.int .i64 (k : Int), .int .i64 (x.gen : Int), .int .i64 (x.count : Int), .slice none 0 0] 102) := ⟨_, rfl⟩
      rw [← hw8]
      have hb8 : Below w7.heap.size w7 w8 := by rw [hw8]; exact one_box' _ _
      have hB8 : Blk w8 w7.heap.size 102 #[.int .i64 (k : Int), .int .i64 (x.gen : Int), .int .i64 (x.count : Int), .slice none 0 0] := by rw [hw8]; exact Blk.new _ _ _
      have hl8 := hB8.lt
      have hS8 : OpS w7 w6.heap.size w7.heap.size r x.recs ⟨k, x.gen, x.count, x.recs.take 0⟩ (fun g => g = w7.heap.size) (.slice none 0 0) [] w8 :=
        ⟨H7.out.1.over hb8, H7.out.2.1.below hb8, ⟨⟨_, [], hB8, RcOwn.nil, ⟨fun g h => by simp [Value.ownBlock] at h, fun k r g h => by simp at h⟩, rfl⟩, rfl⟩, fun g e => Nat.le_of_eq e.symm, fun g e => Nat.lt_of_le_of_lt (Nat.le_of_eq e) hl8, RcOwn.nil, ⟨fun g h => by simp [Value.ownBlock] at h, fun k r g h => by simp at h⟩, hb8, hqw⟩
      have HS8 : Hid (OpS w7 w6.heap.size w7.heap.size r x.recs ⟨k, x.gen, x.count, x.recs.take 0⟩ (fun g => g = w7.heap.size) (.slice none 0 0) [] w8 ∧ ([] : List Rk).map Rk.rc = x.recs.take 0) := Lib.hid ⟨hS8, rfl⟩
      have hrm : r.m = x.recs.length := H7.out.2.1.len
      have hrm2 : r.m ≤ 65536 := by
        have h1 := HP.out.2.2.1.len18
        have h2 := HP.out.2.2.1.hi
        have h3 := HP.out.2.2.1.len
        have h4 := bodies_le x.recs
        omega
      have HRM := Lib.hid hrm
      have HOK := Lib.hid HP.out.2.2.1.ok
      clear hw8 hb8 hB8 hl8 hS8 x0 x1 x2 x3 x4 x5 hrm
      go_cut [14, 15, 16, 17] from 51 to 83 (fun vl _ _ _ wc => ∃ (F : Nat → Prop) (Kl : List Rk), Hid (OpS w7 w6.heap.size w7.heap.size r x.recs ⟨k, x.gen, x.count, x.recs⟩ F vl Kl wc ∧ Kl.map Rk.rc = x.recs))
      case first =>
        go_wp2_with fail
        go_loopw [14, 15, 16, 17] (fun vl i _ _ wr => ∃ (n : Nat) (F : Nat → Prop) (Kl : List Rk), n ≤ r.m ∧ i = .int .i64 (n : Int) ∧ Hid (OpS w7 w6.heap.size w7.heap.size r x.recs ⟨k, x.gen, x.count, x.recs.take n⟩ F vl Kl wr ∧ Kl.map Rk.rc = x.recs.take n)) (fun _ i _ _ _ => r.m - (intOf i).toNat)
        case atStart => exact ⟨0, _, [], by omega, rfl, HS8⟩
        case round =>
          obtain ⟨n, F, Kl, hn, rfl, HZ⟩ := hrel
          obtain ⟨Al, cl, rfl, _, _⟩ := HZ.out.1.own.shape
          obtain ⟨⟨x0, x1, x2, x3, x4, x5⟩, _⟩ := rv_cells HZ.out.1.src
          have hKl : Kl.length = n := by
            have := congrArg List.length HZ.out.2
            rw [List.length_map, List.length_take, ← HRM.out] at this
            omega
          by_cases hlt : n < r.m
          · have hI : (n : Int) < (r.m : Int) := by omega
            obtain ⟨rc, hx⟩ : ∃ rc, x.recs[n]? = some rc := ⟨x.recs[n]'(by rw [← HRM.out]; exact hlt), List.getElem?_eq_getElem _⟩
            obtain ⟨q, o, bA, bc, hA, hq, hqB, c0, c1, hrd, hcp, hbB⟩ := HZ.out.1.rd.at_ n rc hx
            have HX := Lib.hid hx
            have hqB2 : q < w7.heap.size := by omega
            rw [hA] at x3
            have HA := Lib.hid hA
            have hbod : rc.body.length ≤ 140737488355328 := by
              obtain ⟨_, _, _, _, h4⟩ := Rc.ok_k (HOK.out rc (List.mem_of_getElem? hx))
              omega
            have HT1 := Lib.hid (twin_any (w := wr) rc.kind bA rc.body.length bc rc.body hrd hbod)
            clear hA hbB hrd hcp hx hqB
            go_upto_region 19 with (go_at_call 53; refine HT1.out.mono ?_; rintro _ w9 ⟨A9, c9, rfl, ho9, hb9⟩; have H9 := Lib.hid (And.intro ho9 hb9); clear ho9 hb9)
            obtain ⟨w10, hw10⟩ : ∃ y, y = w9.alloc (.cells #[.int .i64 rc.kind, .slice A9 rc.body.length c9] 34) := ⟨_, rfl⟩
            rw [← hw10]
            have hb10 : Below w9.heap.size w9 w10 := by rw [hw10]; exact one_box' _ _
            have hX10 : Blk w10 w9.heap.size 34 #[.int .i64 rc.kind, .slice A9 rc.body.length c9] := by rw [hw10]; exact Blk.new _ _ _
            have hs9 := H9.out.2.size
            have hl10 := hX10.lt
            have hS10 := HZ.out.1.below (Below.then H9.out.2 hb10)
            have HB10 := Lib.hid (And.intro (Below.then H9.out.2 hb10) (And.intro hX10 hb10))
            clear x0 x1 x2 x3 x4 x5 c0 c1 hw10 hb10 hX10 HT1
            obtain ⟨⟨x0, x1, x2, x3, x4, x5⟩, _⟩ := rv_cells hS10.src
            obtain ⟨q', o', bA', bc', hA', hq', hqB', c0, c1, hrd', hcp', _⟩ := hS10.rd.at_ n rc HX.out
            rw [hA'] at x3
            have HT2 := Lib.hid (twin_any (w := w10) rc.kind bA' rc.body.length bc' rc.body hrd' hbod)
            have HS10 := Lib.hid hS10
            clear hA' hrd' hS10 hcp' hqB'
            go_upto_region 20 with (go_at_call 53; refine HT2.out.mono ?_; rintro _ w11 ⟨A11, c11, rfl, ho11, hb11⟩; have H11 := Lib.hid (And.intro ho11 hb11); clear ho11 hb11)
            obtain ⟨w12, hw12⟩ : ∃ y, y = w11.alloc (.cells #[.int .i64 rc.kind, .slice A11 rc.body.length c11] 34) := ⟨_, rfl⟩
            rw [← hw12]
            have hb12 : Below w11.heap.size w11 w12 := by rw [hw12]; exact one_box' _ _
            have hX12 : Blk w12 w11.heap.size 34 #[.int .i64 rc.kind, .slice A11 rc.body.length c11] := by rw [hw12]; exact Blk.new _ _ _
            have hs11 := H11.out.2.size
            clear x0 x1 x2 x3 x4 x5 c0 c1 hw12 HT2
            obtain ⟨wd, hwd⟩ : ∃ wd, wd = w12.drew := ⟨_, rfl⟩
            have hbd : Below w11.heap.size w11 wd := by rw [hwd]; exact below_drewN hb12 1
            have hXd : Blk wd w11.heap.size 34 #[.int .i64 rc.kind, .slice A11 rc.body.length c11] := by rw [hwd]; exact hX12.drewN 1
            have hb10d : Below w10.heap.size w10 wd := Below.then H11.out.2 hbd
            have hX9d := HB10.out.2.1.over hb10d
            have hBd : Below wr.heap.size wr wd := Below.then HB10.out.1 hb10d
            have hSd := HZ.out.1.below hBd
            obtain ⟨v, KL, hJB, hJK, hJF, hJm⟩ := hSd.jr.ex
            obtain ⟨Av, cv, rfl, _, _⟩ := hJK.shape
            have hKLl : KL.length ≤ 65536 := by
              have h4 : KL.length = (x.recs.take n).length := by
                have := congrArg List.length hJm
                rw [List.length_map] at this
                exact this
              rw [List.length_take] at h4
              omega
            have hxo : wd.ownsRow 0 5 1 (.slice A9 rc.body.length c9) rc.body.length (bvs rc.body) := own_base (own_over H9.out.1 (Below.then HB10.out.2.2 hb10d)) (Nat.zero_le _)
            have hxnew : ∀ g, (Value.slice A9 rc.body.length c9).ownBlock = some g → wr.heap.size ≤ g ∧ g < w9.heap.size := fun g hg => ⟨(own_block_lt H9.out.1 hg).2.1, (own_block_lt H9.out.1 hg).1⟩
            have hynew : ∀ g, (Value.slice A11 rc.body.length c11).ownBlock = some g → w10.heap.size ≤ g ∧ g < w11.heap.size := fun g hg => ⟨(own_block_lt H11.out.1 hg).2.1, (own_block_lt H11.out.1 hg).1⟩
            have hyo : wd.ownsRow w7.heap.size 5 1 (.slice A11 rc.body.length c11) rc.body.length (bvs rc.body) := own_base (own_over H11.out.1 hbd) (by have := HS10.out.bw.size; omega)
            have hvold : ∀ g, (Value.slice Av KL.length cv).ownBlock = some g → g < wr.heap.size := fun g hg => HZ.out.1.flt g (hJF.rows g hg)
            have j3 : wd.cell? ⟨w7.heap.size, 3, none⟩ = some (.slice Av KL.length cv) := hJB.cell 3
            have HJ := Lib.hid (And.intro hJB (And.intro hJK (And.intro hJF hJm)))
            have HXX := Lib.hid (And.intro hxo (And.intro hxnew (And.intro hvold (And.intro hBd hX9d))))
            have HY := Lib.hid (And.intro hyo (And.intro hynew hXd))
            have HWD := Lib.hid hwd
            have HSB : Hid ((wd.alloc (.cells #[.int .i64 rc.kind, .slice A9 rc.body.length c9] 34)).cell? ⟨w9.heap.size, 0, none⟩ = some (.int .i64 rc.kind) ∧ (wd.alloc (.cells #[.int .i64 rc.kind, .slice A9 rc.body.length c9] 34)).cell? ⟨w9.heap.size, 1, none⟩ = some (.slice A9 rc.body.length c9)) := Lib.hid ⟨(hX9d.alloc _).cell 0, (hX9d.alloc _).cell 1⟩
            have HJA : Hid ((wd.alloc (.cells #[.int .i64 rc.kind, .slice A9 rc.body.length c9] 34)).cell? ⟨w7.heap.size, 3, none⟩ = some (.slice Av KL.length cv)) := Lib.hid ((hJB.alloc _).cell 3)
            clear hb12 hX12 hwd hbd hXd hb10d hX9d hBd hSd hJB hJK hJF hJm hxo hxnew hynew hyo hvold
            go_cut [] from 70 to 79 (fun wc => ∃ F', Hid (RJAt wc F' w7.heap.size ⟨k, x.gen, x.count, x.recs.take n ++ [rc]⟩ ∧ Moved wr wc F F' ∧ Chg F wd wc ∧ (∀ g, (Value.slice A11 rc.body.length c11).ownBlock = some g → ¬ F' g)))
            case first =>
              obtain ⟨i1, hi1, hr0, hr1, hr2⟩ := info_parts info_rec
              have hqlt : w9.heap.size < wd.heap.size := HXX.out.2.2.2.2.lt
              have HSA : Hid (∀ w8, wd.grownBy w8 (Value.slice Av KL.length cv).ownBlock → w8.cell? ⟨w9.heap.size, 0, none⟩ = some (.int .i64 rc.kind) ∧ w8.cell? ⟨w9.heap.size, 1, none⟩ = some (.slice A9 rc.body.length c9)) := Lib.hid fun w8 hg => by
                have hne : ¬ some w9.heap.size = (Value.slice Av KL.length cv).ownBlock := fun e => by
                  have h1 := HXX.out.2.2.1 _ e.symm
                  omega
                have hX8 := HXX.out.2.2.2.2.chg (Chg.of_grown hg) hne
                exact ⟨hX8.cell 0, hX8.cell 1⟩
              have HKG : Hid (∀ w8, wd.grownBy w8 (Value.slice Av KL.length cv).ownBlock → w8.cell? ⟨w7.heap.size, 3, none⟩ = some (.slice Av KL.length cv) ∧ w8.frozen? ⟨w7.heap.size, 3, none⟩ = false) := Lib.hid fun w8 hg => by
                have hB8 := HJ.out.1.chg (Chg.of_grown hg) fun e => absurd (HJ.out.1.isT.eq_ (own_isT HJ.out.2.1.own e.symm)) (by decide)
                exact ⟨hB8.cell 3, hB8.frozen 3⟩
              have HFN : Hid (∀ v8 w8, w8.ownsRow 0 34 2 v8 (KL.length + 1) (rowsK KL ++ (Rk.mk rc (.slice A9 rc.body.length c9)).cells) → wd.grownBy w8 (Value.slice Av KL.length cv).ownBlock → (v8.ownBlock = (Value.slice Av KL.length cv).ownBlock ∨ v8.ownBlock = some (wd.heap.size + 1)) → (RJAt (w8.setCell ⟨w7.heap.size, 3, none⟩ v8) (fun k => F k ∨ v8.ownBlock = some k ∨ (Value.slice A9 rc.body.length c9).ownBlock = some k) w7.heap.size ⟨k, x.gen, x.count, x.recs.take n ++ [rc]⟩ ∧ Moved wr (w8.setCell ⟨w7.heap.size, 3, none⟩ v8) F (fun k => F k ∨ v8.ownBlock = some k ∨ (Value.slice A9 rc.body.length c9).ownBlock = some k) ∧ Chg F wd (w8.setCell ⟨w7.heap.size, 3, none⟩ v8) ∧ (∀ g, (Value.slice A11 rc.body.length c11).ownBlock = some g → ¬ (F g ∨ v8.ownBlock = some g ∨ (Value.slice A9 rc.body.length c9).ownBlock = some g))) ∧ ((w8.setCell ⟨w7.heap.size, 3, none⟩ v8).cell? ⟨w9.heap.size, 0, none⟩ = some (.int .i64 rc.kind) ∧ (w8.setCell ⟨w7.heap.size, 3, none⟩ v8).cell? ⟨w9.heap.size, 1, none⟩ = some (.slice A9 rc.body.length c9))) := Lib.hid fun v8 w8 ho hg hat => by
                have hxn : ∀ g, (Value.slice A9 rc.body.length c9).ownBlock = some g → ¬ F g := fun g hg hF => by
                  have h1 := (HXX.out.2.1 g hg).1
                  have h2 := HZ.out.1.flt g hF
                  omega
                obtain ⟨h1, h2⟩ := rj_push (j := ⟨k, x.gen, x.count, x.recs.take n⟩) (x := ⟨rc, .slice A9 rc.body.length c9⟩) HJ.out.1 HJ.out.2.1 HJ.out.2.2.1 HZ.out.1.jr.kgF HJ.out.2.2.2 HXX.out.1 hxn ho hg
                have hsz := HXX.out.2.2.2.1.size
                have hyl := HY.out.2.2.lt
                refine ⟨⟨h1, ⟨fun k hk => ?_, ?_⟩, h2, fun g hy hF => ?_⟩, ?_⟩
                · rcases hk with hk | hk | hk
                  · exact .inl hk
                  · rcases hat with e | e
                    · exact .inl (HJ.out.2.2.1.rows k (e ▸ hk))
                    · rw [e] at hk
                      injection hk with hk
                      exact .inr (by omega)
                  · exact .inr (HXX.out.2.1 k hk).1
                · exact (Chg.of_below HXX.out.2.2.2.1 F).trans h2
                · have hy2 := HY.out.2.1 g hy
                  rcases hF with hF | hF | hF
                  · have := HZ.out.1.flt g hF
                    omega
                  · rcases hat with e | e
                    · rw [e] at hF
                      have := HXX.out.2.2.1 g hF
                      omega
                    · rw [e] at hF
                      injection hF with hF
                      omega
                  · have := (HXX.out.2.1 g hF).2
                    omega
                · have hX9 := HXX.out.2.2.2.2.chg h2 fun hF => by have := HZ.out.1.flt _ hF; omega
                  exact ⟨hX9.cell 0, hX9.cell 1⟩
              refine wp_region_held_drew (S := fun W => W.cell? ⟨w9.heap.size, 0, none⟩ = some (.int .i64 rc.kind) ∧ W.cell? ⟨w9.heap.size, 1, none⟩ = some (.slice A9 rc.body.length c9)) (by kernel_rfl) (by rw [← HWD.out]; exact ⟨HXX.out.2.2.2.2.cell 0, HXX.out.2.2.2.2.cell 1⟩) (fun hsw => ?_)
              rw [← HWD.out] at hsw ⊢
              refine wpAnyH_take (i := 0) (oi := ?oi0aZ) (v := ?v0aZ) ?hi0aZ (by kernel_rfl) (by kernel_rfl) (by kernel_rfl) ?hq0aZ ?hy0aZ (by assumption) ?rest0aZ
              case hi0aZ => (simp only [List.getElem?_toArray, List.getElem?_cons_zero]; rfl)
              case hy0aZ => (refine Or.inl ⟨by rfl, ?_⟩; intro w hSw; (try dsimp only at hSw); go_simp; try with_reducible rfl)
              case hq0aZ => exact fun _ _ _ h => h
              try simp only [Act.put, List.setIfInBounds_toArray, List.set_cons_zero, List.set_cons_succ]
              refine wpAnyH_take (i := 1) (oi := ?oi1aZ) (v := ?v1aZ) ?hi1aZ (by kernel_rfl) (by kernel_rfl) (by kernel_rfl) ?hq1aZ ?hy1aZ (by assumption) ?rest1aZ
              case hi1aZ => (simp only [List.getElem?_toArray, List.getElem?_cons_zero, List.getElem?_cons_succ]; rfl)
              case hy1aZ => (refine Or.inl ⟨by rfl, ?_⟩; intro w hSw; (try dsimp only at hSw); go_simp; try with_reducible rfl)
              case hq1aZ => exact fun _ _ _ h => h
              try simp only [Act.put, List.setIfInBounds_toArray, List.set_cons_zero, List.set_cons_succ]
              refine wpAnyH_take (i := 2) (oi := ?oi2aZ) (v := ?v2aZ) ?hi2aZ (by kernel_rfl) (by kernel_rfl) (by kernel_rfl) ?hq2aZ ?hy2aZ (by assumption) ?rest2aZ
              case hi2aZ => (simp only [List.getElem?_toArray, List.getElem?_cons_zero, List.getElem?_cons_succ]; rfl)
              case hy2aZ => (refine Or.inl ⟨by rfl, ?_⟩; intro w hSw; (try dsimp only at hSw); go_simp; try with_reducible rfl)
              case hq2aZ => exact fun _ _ _ h => h
              try simp only [Act.put, List.setIfInBounds_toArray, List.set_cons_zero, List.set_cons_succ]
              refine wpAnyH_take (i := 3) (oi := ?oi3aZ) (v := ?v3aZ) ?hi3aZ (by kernel_rfl) (by kernel_rfl) (by kernel_rfl) ?hq3aZ ?hy3aZ (by assumption) ?rest3aZ
              case hi3aZ => (simp only [List.getElem?_toArray, List.getElem?_cons_zero, List.getElem?_cons_succ]; rfl)
              case hy3aZ => (refine Or.inl ⟨by rfl, ?_⟩; intro w hSw; (try dsimp only at hSw); go_simp; try with_reducible rfl)
              case hq3aZ => exact fun _ _ _ h => h
              try simp only [Act.put, List.setIfInBounds_toArray, List.set_cons_zero, List.set_cons_succ]
              refine wpAnyH_take (i := 5) (oi := ?oi5aZ) (v := ?v5aZ) ?hi5aZ (by kernel_rfl) (by kernel_rfl) (by kernel_rfl) ?hq5aZ ?hy5aZ (by assumption) ?rest5aZ
              case hi5aZ => (simp only [List.getElem?_toArray, List.getElem?_cons_zero, List.getElem?_cons_succ]; rfl)
              case hy5aZ => (refine Or.inl ⟨by rfl, ?_⟩; intro w hSw; (try dsimp only at hSw); go_simp; try with_reducible rfl)
              case hq5aZ => exact fun _ _ _ h => h
              try simp only [Act.put, List.setIfInBounds_toArray, List.set_cons_zero, List.set_cons_succ]
              refine wpAnyH_ready (rs := [4, 6]) (by kernel_rfl) (by simp) ?_
              refine AllReadyH.cons (o := ?o4b4Z) ?ho4b4Z (fun K hK => ?st4b4Z) ?mo4b4Z
              case ho4b4Z => (simp only [List.getElem?_toArray, List.getElem?_cons_zero, List.getElem?_cons_succ]; rfl)
              · skip
                go_simp
                refine hK.out _ _ hsw (fun _ => ?_)
                clear hK K
                try simp only [Act.put, List.setIfInBounds_toArray, List.set_cons_zero, List.set_cons_succ]
                refine wpAnyH_ready (rs := [6]) (by kernel_rfl) (by simp) ?_
                refine AllReadyH.cons (o := ?o6b6Z) ?ho6b6Z (fun K hK => ?st6b6Z) ?mo6b6Z
                case ho6b6Z => (simp only [List.getElem?_toArray, List.getElem?_cons_zero, List.getElem?_cons_succ]; rfl)
                · skip
                  go_simp
                  have hsa := HSB.out
                  refine hK.out _ _ hsa (fun _ => ?_)
                  clear hK K hsa
                  try simp only [Act.put, List.setIfInBounds_toArray, List.set_cons_zero, List.set_cons_succ]
                  refine wpAnyH_ready (rs := [7]) (by kernel_rfl) (by simp) ?_
                  refine AllReadyH.cons (o := ?o7c7Z) ?ho7c7Z (fun K hK => ?st7c7Z) ?mo7c7Z
                  case ho7c7Z => (simp only [List.getElem?_toArray, List.getElem?_cons_zero, List.getElem?_cons_succ]; rfl)
                  · skip
                    refine step_appN wd (by rfl) _ _ 25 (by rfl) 0 34 i1 _ 2 32 u_recs hi1 hr0 hr1 hr2 rfl (by omega) _ KL.length _ (by rfl) HJ.out.2.1.own #[.int .i64 rc.kind, .slice A9 rc.body.length c9] rfl (by rfl) (by simp; exact ⟨rfl, rfl⟩) (by simp only [maxLen]; omega) (by omega) (Nat.zero_le _) ?_
                    intro v8 w8 how8 _ hg8 hat8
                    obtain ⟨A8, c8, rfl, _, _⟩ := own_shape how8
                    have hs8 := HSA.out w8 hg8
                    have hkk := HKG.out w8 hg8
                    have H8 := Lib.hid (And.intro how8 (And.intro hg8 hat8))
                    refine hK.out _ _ hs8 (fun _ => ?_)
                    clear hK K how8 hg8 hat8 hs8
                    try simp only [Act.put, List.setIfInBounds_toArray, List.set_cons_zero, List.set_cons_succ]
                    refine wpAnyH_take (i := 8) (oi := ?oi8ctZ) (v := ?v8ctZ) ?hi8ctZ (by kernel_rfl) (by kernel_rfl) (by kernel_rfl) ?hq8ctZ ?hy8ctZ (by assumption) ?rest8ctZ
                    case hi8ctZ => (simp only [List.getElem?_toArray, List.getElem?_cons_zero, List.getElem?_cons_succ]; rfl)
                    case hy8ctZ => (refine Or.inl ⟨by rfl, ?_⟩; intro w hSw; (try dsimp only at hSw); go_simp; try with_reducible rfl)
                    case hq8ctZ => exact fun _ _ _ h => h
                    try simp only [Act.put, List.setIfInBounds_toArray, List.set_cons_zero, List.set_cons_succ]
                    refine wpAnyH_take (i := 9) (oi := ?oi9ctZ) (v := ?v9ctZ) ?hi9ctZ (by kernel_rfl) (by kernel_rfl) (by kernel_rfl) ?hq9ctZ ?hy9ctZ (by assumption) ?rest9ctZ
                    case hi9ctZ => (simp only [List.getElem?_toArray, List.getElem?_cons_zero, List.getElem?_cons_succ]; rfl)
                    case hy9ctZ => (refine Or.inl ⟨by rfl, ?_⟩; intro w hSw; (try dsimp only at hSw); go_simp; try with_reducible rfl)
                    case hq9ctZ => exact fun _ _ _ h => h
                    try simp only [Act.put, List.setIfInBounds_toArray, List.set_cons_zero, List.set_cons_succ]
                    refine wpAnyH_ready (rs := [10]) (by kernel_rfl) (by simp) ?_
                    refine AllReadyH.cons (o := ?o10c10Z) ?ho10c10Z (fun K hK => ?st10c10Z) ?mo10c10Z
                    case ho10c10Z => (simp only [List.getElem?_toArray, List.getElem?_cons_zero, List.getElem?_cons_succ]; rfl)
                    · skip
                      obtain ⟨k3, kf⟩ := hkk
                      go_simp
                      have hfin := HFN.out _ w8 H8.out.1 H8.out.2.1 H8.out.2.2
                      refine hK.out _ _ hfin.2 (fun _ => ?_)
                      have HX9 := Lib.hid hfin.1
                      clear hK K hfin
                      try simp only [Act.put, List.setIfInBounds_toArray, List.set_cons_zero, List.set_cons_succ]
                      refine wpAnyH_done (by kernel_rfl) ?_ _
                      go_wp2_with fail
                      go_meet
                      exact ⟨_, Lib.hid HX9.out⟩
                    exact AllReadyH.nil
                  exact AllReadyH.nil
                exact AllReadyH.nil
              refine AllReadyH.cons (o := ?o6d6Z) ?ho6d6Z (fun K hK => ?st6d6Z) ?mo6d6Z
              case ho6d6Z => (simp only [List.getElem?_toArray, List.getElem?_cons_zero, List.getElem?_cons_succ]; rfl)
              · skip
                go_simp
                have hsa := HSB.out
                have j3a := HJA.out
                refine hK.out _ _ hsa (fun _ => ?_)
                clear hK K hsa
                try simp only [Act.put, List.setIfInBounds_toArray, List.set_cons_zero, List.set_cons_succ]
                refine wpAnyH_ready (rs := [4]) (by kernel_rfl) (by simp) ?_
                refine AllReadyH.cons (o := ?o4d4Z) ?ho4d4Z (fun K hK => ?st4d4Z) ?mo4d4Z
                case ho4d4Z => (simp only [List.getElem?_toArray, List.getElem?_cons_zero, List.getElem?_cons_succ]; rfl)
                · skip
                  go_simp
                  have hsa := HSB.out
                  refine hK.out _ _ hsa (fun _ => ?_)
                  clear hK K hsa j3a
                  try simp only [Act.put, List.setIfInBounds_toArray, List.set_cons_zero, List.set_cons_succ]
                  refine wpAnyH_ready (rs := [7]) (by kernel_rfl) (by simp) ?_
                  refine AllReadyH.cons (o := ?o7e7Z) ?ho7e7Z (fun K hK => ?st7e7Z) ?mo7e7Z
                  case ho7e7Z => (simp only [List.getElem?_toArray, List.getElem?_cons_zero, List.getElem?_cons_succ]; rfl)
                  · skip
                    refine step_appN wd (by rfl) _ _ 25 (by rfl) 0 34 i1 _ 2 32 u_recs hi1 hr0 hr1 hr2 rfl (by omega) _ KL.length _ (by rfl) HJ.out.2.1.own #[.int .i64 rc.kind, .slice A9 rc.body.length c9] rfl (by rfl) (by simp; exact ⟨rfl, rfl⟩) (by simp only [maxLen]; omega) (by omega) (Nat.zero_le _) ?_
                    intro v8 w8 how8 _ hg8 hat8
                    obtain ⟨A8, c8, rfl, _, _⟩ := own_shape how8
                    have hs8 := HSA.out w8 hg8
                    have hkk := HKG.out w8 hg8
                    have H8 := Lib.hid (And.intro how8 (And.intro hg8 hat8))
                    refine hK.out _ _ hs8 (fun _ => ?_)
                    clear hK K how8 hg8 hat8 hs8
                    try simp only [Act.put, List.setIfInBounds_toArray, List.set_cons_zero, List.set_cons_succ]
                    refine wpAnyH_take (i := 8) (oi := ?oi8etZ) (v := ?v8etZ) ?hi8etZ (by kernel_rfl) (by kernel_rfl) (by kernel_rfl) ?hq8etZ ?hy8etZ (by assumption) ?rest8etZ
                    case hi8etZ => (simp only [List.getElem?_toArray, List.getElem?_cons_zero, List.getElem?_cons_succ]; rfl)
                    case hy8etZ => (refine Or.inl ⟨by rfl, ?_⟩; intro w hSw; (try dsimp only at hSw); go_simp; try with_reducible rfl)
                    case hq8etZ => exact fun _ _ _ h => h
                    try simp only [Act.put, List.setIfInBounds_toArray, List.set_cons_zero, List.set_cons_succ]
                    refine wpAnyH_take (i := 9) (oi := ?oi9etZ) (v := ?v9etZ) ?hi9etZ (by kernel_rfl) (by kernel_rfl) (by kernel_rfl) ?hq9etZ ?hy9etZ (by assumption) ?rest9etZ
                    case hi9etZ => (simp only [List.getElem?_toArray, List.getElem?_cons_zero, List.getElem?_cons_succ]; rfl)
                    case hy9etZ => (refine Or.inl ⟨by rfl, ?_⟩; intro w hSw; (try dsimp only at hSw); go_simp; try with_reducible rfl)
                    case hq9etZ => exact fun _ _ _ h => h
                    try simp only [Act.put, List.setIfInBounds_toArray, List.set_cons_zero, List.set_cons_succ]
                    refine wpAnyH_ready (rs := [10]) (by kernel_rfl) (by simp) ?_
                    refine AllReadyH.cons (o := ?o10e10Z) ?ho10e10Z (fun K hK => ?st10e10Z) ?mo10e10Z
                    case ho10e10Z => (simp only [List.getElem?_toArray, List.getElem?_cons_zero, List.getElem?_cons_succ]; rfl)
                    · skip
                      obtain ⟨k3, kf⟩ := hkk
                      go_simp
                      have hfin := HFN.out _ w8 H8.out.1 H8.out.2.1 H8.out.2.2
                      refine hK.out _ _ hfin.2 (fun _ => ?_)
                      have HX9 := Lib.hid hfin.1
                      clear hK K hfin
                      try simp only [Act.put, List.setIfInBounds_toArray, List.set_cons_zero, List.set_cons_succ]
                      refine wpAnyH_done (by kernel_rfl) ?_ _
                      go_wp2_with fail
                      go_meet
                      exact ⟨_, Lib.hid HX9.out⟩
                    exact AllReadyH.nil
                  exact AllReadyH.nil
                exact AllReadyH.nil
              exact AllReadyH.nil
            obtain ⟨F1, hC⟩ := hcut
            have hSc := HZ.out.1.turn hC.1 hC.2.1
            have hyc := own_chg HY.out.1 hC.2.2.1 fun g hg hF => by
              have h1 := (HY.out.2.1 g hg).1
              have h2 := HZ.out.1.flt g hF
              omega
            have hXc : Blk wc w11.heap.size 34 #[.int .i64 rc.kind, .slice A11 rc.body.length c11] := HY.out.2.2.chg hC.2.2.1 fun hF => by
              have h2 := HZ.out.1.flt _ hF
              omega
            have q0 : wc.cell? ⟨w11.heap.size, 0, none⟩ = some (.int .i64 rc.kind) := hXc.cell 0
            have q1 : wc.cell? ⟨w11.heap.size, 1, none⟩ = some (.slice A11 rc.body.length c11) := hXc.cell 1
            have how := hSc.own.own
            rw [hKl] at how
            have hyF : ∀ g, (Value.slice A11 rc.body.length c11).ownBlock = some g → ¬ F1 g := hC.2.2.2
            have hyK : ∀ (kk : Nat) (r' : Rk) (g : Nat), Kl[kk]? = some r' → r'.v.ownBlock = some g → (Value.slice A11 rc.body.length c11).ownBlock = some g → False := fun kk r' g hk h1 h2 => by
              have e1 := (own_block_lt (HZ.out.1.own.bod kk r' hk) h1).1
              have e2 := (HY.out.2.1 g h2).1
              omega
            have HSC := Lib.hid hSc
            have HOW := Lib.hid how
            have HYC := Lib.hid (And.intro hyc (And.intro hyF hyK))
            have et : x.recs.take (n + 1) = x.recs.take n ++ [rc] := by rw [List.take_add_one, HX.out]; rfl
            have HET := Lib.hid et
            have HKL := Lib.hid hKl
            obtain ⟨i1, hi1, hr0, hr1, hr2⟩ := info_parts info_rec
            have hn65 : n ≤ 65536 := by omega
            clear hC hSc hyc hXc how hyF hyK et j3 hKl
            go_upto_region 17 with (
              at_builtin
              refine appN2 wc (by rfl) _ _ 25 (by rfl) w7.heap.size 34 i1 _ 2 32 u_recs hi1 hr0 hr1 hr2 rfl (by omega) _ n _ (by rfl) HOW.out #[.int .i64 rc.kind, .slice A11 rc.body.length c11] rfl (by rfl) (by simp; exact ⟨rfl, rfl⟩) (by simp only [maxLen]; omega) (by omega) HSC.out.bw.size ?_
              intro v9 w13 how9 _ hg9 hat9
              obtain ⟨Av9, cv9, rfl, _, _⟩ := own_shape how9
              have H13 := Lib.hid (And.intro how9 (And.intro hg9 hat9))
              clear how9 hg9 hat9)
            go_wp2_with fail
            go_roundw
            case rel =>
              have hfin := HSC.out.snoc (x := ⟨rc, .slice A11 rc.body.length c11⟩) (v2 := .slice Av9 (n + 1) cv9) (w2 := w13) (by rw [HKL.out]; exact H13.out.1) (by rw [HKL.out]; exact H13.out.2.1) (by rw [HKL.out]; exact H13.out.2.2) HYC.out.1 (fun g hg hF => HYC.out.2.1 g hg hF.1) HYC.out.2.2
              have hml : (Kl ++ [(⟨rc, .slice A11 rc.body.length c11⟩ : Rk)]).map Rk.rc = x.recs.take (n + 1) := by
                rw [HET.out, List.map_append, HZ.out.2]
                rfl
              rw [← HET.out] at hfin
              exact ⟨n + 1, _, _, by omega, by go_num, Lib.hid (And.intro hfin hml)⟩
            case measure => simp [intOf] <;> omega
          · obtain rfl : n = r.m := by omega
            have dli : decide ((r.m : Int) < (r.m : Int)) = false := by simp
            go_wp2_with fail
            go_meet
            have et : x.recs.take r.m = x.recs := List.take_of_length_le (by rw [← HRM.out]; exact Nat.le_refl _)
            rw [et] at HZ
            exact ⟨F, Kl, HZ⟩
      obtain ⟨F, Kl, HZ⟩ := hcut
      obtain ⟨Al, cl, rfl, _, _⟩ := HZ.out.1.own.shape
      obtain ⟨⟨x0, x1, x2, x3, x4, x5⟩, _⟩ := rv_cells HZ.out.1.src
      rw [H7.out.2.2.2.1] at x0
      rw [H7.out.2.2.2.2.2] at x5
      have hwl := H7.out.2.2.1.size
      have HWC : Hid (Below w.heap.size w wc) := Lib.hid (H7.out.2.2.1.trans (HZ.out.1.bw.mono hwl))
      by_cases hcl : x.fin = (f.nth k).length
      · rw [decide_eq_true hcl] at x5
        have hJ : openR f = .ok ⟨k, x.gen, x.count, x.recs⟩ x.recs [] := by
          unfold openR
          rw [HP.out.1]
          dsimp only
          rw [if_pos hcl]
        have HJJ := Lib.hid hJ
        clear hcl hJ
        go_wp2
        refine bodyPost_ret (v := .tuple #[.pointer (some ⟨w7.heap.size, 0, none⟩), .slice Al Kl.length cl, .slice none 0 0, .int .i64 0]) (by simp [results, Tryd.results19, go_sem]) rfl ⟨HWC.out, ?_⟩
        rw [HJJ.out]
        exact ⟨w7.heap.size, _, _, Kl, F, rfl, HZ.out.1.jr, fun g hg => ⟨Nat.le_trans hwl (HZ.out.1.fge g hg), HZ.out.1.flt g hg⟩, HZ.out.2, HZ.out.1.own.mono hwl, WOut.nil⟩
      · rw [decide_eq_false hcl] at x5
        have HCL := Lib.hid hcl
        by_cases hgm : x.gen = 4611686018427387904
        · have b0 : ((x.gen : Int) == 4611686018427387904) = true := by rw [hgm]; rfl
          have hJ : openR f = .spent := by
            unfold openR
            rw [HP.out.1]
            dsimp only
            rw [if_neg hcl, if_pos hgm]
          have HJJ := Lib.hid hJ
          clear hcl hJ hgm
          go_wp2
          refine bodyPost_ret (v := .tuple #[.pointer none, .slice none 0 0, .slice none 0 0, .int .i64 3]) (by simp [results, Tryd.results19, go_sem]) rfl ⟨HWC.out, ?_⟩
          rw [HJJ.out]
        · have b0 : ((x.gen : Int) == 4611686018427387904) = false := by rw [beq_eq_false_iff_ne]; omega
          have hJ : openR f = .ok ⟨1 - k, x.gen + 1, x.recs.length, x.recs⟩ x.recs [⟨((1 - k : Nat) : Int), true, textB (x.gen + 1) x.recs.length x.recs⟩] := by
            unfold openR
            rw [HP.out.1]
            dsimp only
            rw [if_neg hcl, if_neg hgm]
          have hgx := HP.out.2.2.1.gen
          have hKl : Kl.length = x.recs.length := by
            have := congrArg List.length HZ.out.2
            rw [List.length_map] at this
            exact this
          have hlr : x.recs.length ≤ 65536 := by
            rw [← HRM.out]
            omega
          have HJJ := Lib.hid hJ
          clear hcl hJ
          obtain ⟨v, KL, hJB, _⟩ := id HZ.out.1.jr.ex
          have j0 : wc.cell? ⟨w7.heap.size, 0, none⟩ = some (.int .i64 (k : Int)) := hJB.cell 0
          have j1 : wc.cell? ⟨w7.heap.size, 1, none⟩ = some (.int .i64 (x.gen : Int)) := hJB.cell 1
          have j2 : wc.cell? ⟨w7.heap.size, 2, none⟩ = some (.int .i64 (x.count : Int)) := hJB.cell 2
          have jf0 := hJB.frozen 0
          have jf1 := hJB.frozen 1
          have jf2 := hJB.frozen 2
          have hne7 : w7.heap.size ≠ w6.heap.size := by omega
          clear hJB
          go_upto_region 29 with fail
          have eF : (1 : Int) - (k : Int) = ((1 - k : Nat) : Int) := by omega
          have eG : (x.gen : Int) + 1 = ((x.gen + 1 : Nat) : Int) := by omega
          rw [eF, eG]
          have hst := rj_set HZ.out.1.jr (1 - k) (x.gen + 1) x.recs.length
          have hS9 := HZ.out.1.turn hst.1 hst.2
          clear hst eF eG x0 x1 x2 x3 x4 x5 j0 j1 j2 jf0 jf1 jf2
          generalize ((wc.setCell ⟨w7.heap.size, 0, none⟩ (.int .i64 ((1 - k : Nat) : Int))).setCell ⟨w7.heap.size, 1, none⟩ (.int .i64 ((x.gen + 1 : Nat) : Int))).setCell ⟨w7.heap.size, 2, none⟩ (.int .i64 (x.recs.length : Int)) = ws at hS9 ⊢
          have HS9 := Lib.hid hS9
          have hby := Bytes_any hS9.jr (openR_fine HJJ.out).1
          have htl : (JP.text ⟨1 - k, x.gen + 1, x.recs.length, x.recs⟩).length = 18 + bodies x.recs := textB_length _ _ _
          rw [htl] at hby
          have HBY := Lib.hid hby
          have HKL := Lib.hid hKl
          clear hS9 hby htl
          go_upto_region 30 with (go_at_call 54; refine HBY.out.mono ?_; rintro _ w10 ⟨A10, c10, rfl, ho10, hb10⟩; obtain ⟨g10, rfl, _, _, _⟩ := own_open ho10 (by omega); have H10 := Lib.hid (And.intro ho10 hb10); clear ho10 hb10)
          have hS10 := HS9.out.below H10.out.2
          obtain ⟨wd, hwd⟩ : ∃ y, y = w10.drew := ⟨_, rfl⟩
          have hbd : Below w10.heap.size w10 wd := by rw [hwd]; exact below_drewN (Below.refl _ _) 1
          have hSd := hS10.below hbd
          obtain ⟨v, KL, hJB, _⟩ := id hSd.jr.ex
          have hsd : wd.cell? ⟨w7.heap.size, 0, none⟩ = some (.int .i64 ((1 - k : Nat) : Int)) := hJB.cell 0
          have hod := own_over H10.out.1 hbd
          have HSD := Lib.hid (And.intro hSd hod)
          have HCD := Lib.hid hsd
          have hzd : ws.heap.size ≤ wd.heap.size := Nat.le_trans H10.out.2.size hbd.size
          have hzs := HS9.out.bw.size
          have HWD := Lib.hid hwd
          clear hJB hS10 hbd hSd hod hwd
          refine wp_region_held_drew (S := fun W => W.cell? ⟨w7.heap.size, 0, none⟩ = some (.int .i64 ((1 - k : Nat) : Int))) (by kernel_rfl) (by rw [← HWD.out]; exact hsd) (fun hsw => ?_)
          rw [← HWD.out] at hsw ⊢
          refine wpAnyH_take (i := 0) (oi := ?oi0yaZ) (v := ?v0yaZ) ?hi0yaZ (by kernel_rfl) (by kernel_rfl) (by kernel_rfl) ?hq0yaZ ?hy0yaZ (by assumption) ?rest0yaZ
          case hi0yaZ => (simp only [List.getElem?_toArray, List.getElem?_cons_zero]; rfl)
          case hy0yaZ => (refine Or.inl ⟨by rfl, ?_⟩; intro w hSw; (try dsimp only at hSw); go_simp; try with_reducible rfl)
          case hq0yaZ => exact fun _ _ _ h => h
          try simp only [Act.put, List.setIfInBounds_toArray, List.set_cons_zero, List.set_cons_succ]
          refine wpAnyH_take (i := 1) (oi := ?oi1yaZ) (v := ?v1yaZ) ?hi1yaZ (by kernel_rfl) (by kernel_rfl) (by kernel_rfl) ?hq1yaZ ?hy1yaZ (by assumption) ?rest1yaZ
          case hi1yaZ => (simp only [List.getElem?_toArray, List.getElem?_cons_zero, List.getElem?_cons_succ]; rfl)
          case hy1yaZ => (refine Or.inl ⟨by rfl, ?_⟩; intro w hSw; (try dsimp only at hSw); go_simp; try with_reducible rfl)
          case hq1yaZ => exact fun _ _ _ h => h
          try simp only [Act.put, List.setIfInBounds_toArray, List.set_cons_zero, List.set_cons_succ]
          refine wpAnyH_take (i := 2) (oi := ?oi2yaZ) (v := ?v2yaZ) ?hi2yaZ (by kernel_rfl) (by kernel_rfl) (by kernel_rfl) ?hq2yaZ ?hy2yaZ (by assumption) ?rest2yaZ
          case hi2yaZ => (simp only [List.getElem?_toArray, List.getElem?_cons_zero, List.getElem?_cons_succ]; rfl)
          case hy2yaZ => (refine Or.inl ⟨by rfl, ?_⟩; intro w hSw; (try dsimp only at hSw); go_simp; try with_reducible rfl)
          case hq2yaZ => exact fun _ _ _ h => h
          try simp only [Act.put, List.setIfInBounds_toArray, List.set_cons_zero, List.set_cons_succ]
          refine wpAnyH_take (i := 3) (oi := ?oi3yaZ) (v := ?v3yaZ) ?hi3yaZ (by kernel_rfl) (by kernel_rfl) (by kernel_rfl) ?hq3yaZ ?hy3yaZ (by assumption) ?rest3yaZ
          case hi3yaZ => (simp only [List.getElem?_toArray, List.getElem?_cons_zero, List.getElem?_cons_succ]; rfl)
          case hy3yaZ => (refine Or.inl ⟨by rfl, ?_⟩; intro w hSw; (try dsimp only at hSw); go_simp; try with_reducible rfl)
          case hq3yaZ => exact fun _ _ _ h => h
          try simp only [Act.put, List.setIfInBounds_toArray, List.set_cons_zero, List.set_cons_succ]
          refine wpAnyH_take (i := 4) (oi := ?oi4yaZ) (v := ?v4yaZ) ?hi4yaZ (by kernel_rfl) (by kernel_rfl) (by kernel_rfl) ?hq4yaZ ?hy4yaZ (by assumption) ?rest4yaZ
          case hi4yaZ => (simp only [List.getElem?_toArray, List.getElem?_cons_zero, List.getElem?_cons_succ]; rfl)
          case hy4yaZ => (refine Or.inl ⟨by rfl, ?_⟩; intro w hSw; (try dsimp only at hSw); go_simp; try with_reducible rfl)
          case hq4yaZ => exact fun _ _ _ h => h
          try simp only [Act.put, List.setIfInBounds_toArray, List.set_cons_zero, List.set_cons_succ]
          refine wpAnyH_take (i := 5) (oi := ?oi5yaZ) (v := ?v5yaZ) ?hi5yaZ (by kernel_rfl) (by kernel_rfl) (by kernel_rfl) ?hq5yaZ ?hy5yaZ (by assumption) ?rest5yaZ
          case hi5yaZ => (simp only [List.getElem?_toArray, List.getElem?_cons_zero, List.getElem?_cons_succ]; rfl)
          case hy5yaZ => (refine Or.inl ⟨by rfl, ?_⟩; intro w hSw; (try dsimp only at hSw); go_simp; try with_reducible rfl)
          case hq5yaZ => exact fun _ _ _ h => h
          try simp only [Act.put, List.setIfInBounds_toArray, List.set_cons_zero, List.set_cons_succ]
          refine wpAnyH_take (i := 6) (oi := ?oi6yaZ) (v := ?v6yaZ) ?hi6yaZ (by kernel_rfl) (by kernel_rfl) (by kernel_rfl) ?hq6yaZ ?hy6yaZ (by assumption) ?rest6yaZ
          case hi6yaZ => (simp only [List.getElem?_toArray, List.getElem?_cons_zero, List.getElem?_cons_succ]; rfl)
          case hy6yaZ => (refine Or.inl ⟨by rfl, ?_⟩; intro w hSw; (try dsimp only at hSw); go_simp; try with_reducible rfl)
          case hq6yaZ => exact fun _ _ _ h => h
          try simp only [Act.put, List.setIfInBounds_toArray, List.set_cons_zero, List.set_cons_succ]
          refine wpAnyH_take (i := 7) (oi := ?oi7yaZ) (v := ?v7yaZ) ?hi7yaZ (by kernel_rfl) (by kernel_rfl) (by kernel_rfl) ?hq7yaZ ?hy7yaZ (by assumption) ?rest7yaZ
          case hi7yaZ => (simp only [List.getElem?_toArray, List.getElem?_cons_zero, List.getElem?_cons_succ]; rfl)
          case hy7yaZ => (refine Or.inl ⟨by rfl, ?_⟩; intro w hSw; (try dsimp only at hSw); go_simp; try with_reducible rfl)
          case hq7yaZ => exact fun _ _ _ h => h
          try simp only [Act.put, List.setIfInBounds_toArray, List.set_cons_zero, List.set_cons_succ]
          refine wpAnyH_take (i := 9) (oi := ?oi9yaZ) (v := ?v9yaZ) ?hi9yaZ (by kernel_rfl) (by kernel_rfl) (by kernel_rfl) ?hq9yaZ ?hy9yaZ (by assumption) ?rest9yaZ
          case hi9yaZ => (simp only [List.getElem?_toArray, List.getElem?_cons_zero, List.getElem?_cons_succ]; rfl)
          case hy9yaZ => (refine Or.inl ⟨by rfl, ?_⟩; intro w hSw; (try dsimp only at hSw); go_simp; try with_reducible rfl)
          case hq9yaZ => exact fun _ _ _ h => h
          try simp only [Act.put, List.setIfInBounds_toArray, List.set_cons_zero, List.set_cons_succ]
          refine wpAnyH_take (i := 10) (oi := ?oi10yaZ) (v := ?v10yaZ) ?hi10yaZ (by kernel_rfl) (by kernel_rfl) (by kernel_rfl) ?hq10yaZ ?hy10yaZ (by assumption) ?rest10yaZ
          case hi10yaZ => (simp only [List.getElem?_toArray, List.getElem?_cons_zero, List.getElem?_cons_succ]; rfl)
          case hy10yaZ => (refine Or.inl ⟨by rfl, ?_⟩; intro w hSw; (try dsimp only at hSw); go_simp; try with_reducible rfl)
          case hq10yaZ => exact fun _ _ _ h => h
          try simp only [Act.put, List.setIfInBounds_toArray, List.set_cons_zero, List.set_cons_succ]
          refine wpAnyH_ready (rs := [8]) (by kernel_rfl) (by simp) ?_
          refine AllReadyH.cons (o := ?o8ybZ) ?ho8ybZ (fun K hK => ?st8ybZ) ?mo8ybZ
          case ho8ybZ => (simp only [List.getElem?_toArray, List.getElem?_cons_zero, List.getElem?_cons_succ]; rfl)
          · skip
            go_simp
            obtain ⟨wf, hwf⟩ : ∃ y, y = wd.alloc (.cells #[.int .i64 ((1 - k : Nat) : Int), .bool true, .slice (some ⟨g10, 0, none⟩) (18 + bodies x.recs) c10] 94) := ⟨_, rfl⟩
            have hbf : Below wd.heap.size wd wf := by rw [hwf]; exact one_box' _ _
            have hwo : WOut wf w.heap.size (.slice (some ⟨wd.heap.size, 0, none⟩) 1 1) [⟨((1 - k : Nat) : Int), true, textB (x.gen + 1) x.recs.length x.recs⟩] := by
              rw [hwf]
              exact wout_one (x := ⟨((1 - k : Nat) : Int), true, textB (x.gen + 1) x.recs.length x.recs⟩) (textB_length _ _ _) (by omega) (own_base HSD.out.2 (by omega)) (by omega)
            rw [← hwf]
            have hsf := (hbf.cell (p := ⟨w7.heap.size, 0, none⟩) (cell_lt HCD.out)).trans HCD.out
            have HF := Lib.hid (And.intro hbf hwo)
            refine hK.out _ _ hsf (fun _ => ?_)
            clear hK K hwf hbf hwo hsf
            try simp only [Act.put, List.setIfInBounds_toArray, List.set_cons_zero, List.set_cons_succ]
            refine wpAnyH_take (i := 11) (oi := ?oi11ycZ) (v := ?v11ycZ) ?hi11ycZ (by kernel_rfl) (by kernel_rfl) (by kernel_rfl) ?hq11ycZ ?hy11ycZ (by assumption) ?rest11ycZ
            case hi11ycZ => (simp only [List.getElem?_toArray, List.getElem?_cons_zero, List.getElem?_cons_succ]; rfl)
            case hy11ycZ => (refine Or.inl ⟨by rfl, ?_⟩; intro w hSw; (try dsimp only at hSw); go_simp; try with_reducible rfl)
            case hq11ycZ => exact fun _ _ _ h => h
            try simp only [Act.put, List.setIfInBounds_toArray, List.set_cons_zero, List.set_cons_succ]
            refine wpAnyH_take (i := 12) (oi := ?oi12ycZ) (v := ?v12ycZ) ?hi12ycZ (by kernel_rfl) (by kernel_rfl) (by kernel_rfl) ?hq12ycZ ?hy12ycZ (by assumption) ?rest12ycZ
            case hi12ycZ => (simp only [List.getElem?_toArray, List.getElem?_cons_zero, List.getElem?_cons_succ]; rfl)
            case hy12ycZ => (refine Or.inl ⟨by rfl, ?_⟩; intro w hSw; (try dsimp only at hSw); go_simp; try with_reducible rfl)
            case hq12ycZ => exact fun _ _ _ h => h
            try simp only [Act.put, List.setIfInBounds_toArray, List.set_cons_zero, List.set_cons_succ]
            refine wpAnyH_done (by kernel_rfl) ?_ _
            go_wp2
            have hfin := HSD.out.1.below HF.out.1
            refine bodyPost_ret (v := .tuple #[.pointer (some ⟨w7.heap.size, 0, none⟩), .slice Al x.recs.length cl, .slice (some ⟨wd.heap.size, 0, none⟩) 1 1, .int .i64 0]) (by simp [results, Tryd.results19, go_sem]) rfl ⟨H7.out.2.2.1.trans (hfin.bw.mono hwl), ?_⟩
            rw [HJJ.out]
            refine ⟨w7.heap.size, _, _, Kl, _, rfl, hfin.jr, fun g hg => ⟨Nat.le_trans hwl (hfin.fge g hg), hfin.flt g hg⟩, HZ.out.2, ?_, HF.out.2⟩
            have := hfin.own.mono hwl
            rw [HKL.out] at this
            exact this
          exact AllReadyH.nil
end Go.Proofs.YtpkdalpjfcopbaaDoor
