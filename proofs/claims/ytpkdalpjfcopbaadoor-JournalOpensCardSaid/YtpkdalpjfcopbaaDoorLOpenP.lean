/-
  The document's Open: what it keeps.
-/
import Derived.Test.YtpkdalpjfcopbaaDoorLPick
namespace Go.Proofs.YtpkdalpjfcopbaaDoor
open Go.RowKit
theorem appN2 {P : Program} {ops : Array Oper} {rest : List Oper} {o : Oper} {a : Act} {Q : Exit → Act → World → Prop} (W : World) (hgd : o.guard = none) (s x : Operand) (t : TypeId)
    (ho : o.op = .call { callee := .builtin .append, args := #[s, x], argTypes := #[t, t] })
    (base : Nat) (e : TypeId) (i : TypeInfo) (z : Value) (size bytes : Nat) (ht : P.underlying t = some (.slice e)) (hi : P.info? e = some i) (hz : i.zero = some z)
    (hsize : i.size = size) (hby : i.bytes = bytes) (hzs : z.cells.size = size) (hsz : 0 < size)
    (v : Value) (n : Nat) (xs : List Value) (hs : a.eval s = v) (hown : W.ownsRow base e size v n xs)
    (us : Array Value) (hu : us.size = size) (hx : a.eval x = .slice (some ⟨W.heap.size, 0, none⟩) 1 1) (h1 : ∀ u ∈ us.toList, u.oneCell' = true)
    (h63 : n + 1 ≤ maxLen) (hbytes : (n + 1) * bytes ≤ 140737488355328) (hbase : base ≤ W.heap.size)
    (h : ∀ v' w', w'.ownsRow base e size v' (n + 1) (xs ++ us.toList) → Below base W w' → W.grownBy w' v.ownBlock → (v'.ownBlock = v.ownBlock ∨ v'.ownBlock = some (W.heap.size + 1)) → wpList P ops Q rest (a.put o.dst v') w') :
    wpList P ops Q (o :: rest) a (W.alloc (.cells us e)) := by
  have hown2 : (W.alloc (.cells us e)).ownsRow base e size v n xs := hown.alloc _
  refine wpList_append_any (P := P) _ hgd s x t ho base e i z size bytes ht hi hz hsize hby hzs hsz v n xs hs hown2 (W.heap.size + 1) (some ⟨W.heap.size, 0, none⟩) 1 1 us.toList hx ?_ h1 h63 hbytes (by simp; omega) ?_
  · refine ⟨by simp [hu], fun _ => ⟨W.heap.size, 0, rfl, by omega, fun j y hj => ?_⟩⟩
    rw [Nat.zero_add, (Blk.new W e us).cell j, ← Array.getElem?_toList]
    exact hj
  · intro v' w' h2 h3 h4
    have hal : W.grownBy (W.alloc (.cells us e)) v.ownBlock := ⟨rfl, rfl, rfl, by simp, fun k hk _ => Below.heap_alloc _ _ _ hk⟩
    exact h v' w' h2 (((Below.refl _ _).alloc hbase _).trans (below_app hown2 h3 (by simp; omega)))
      ⟨h3.os.trans hal.os, h3.tape.trans hal.tape, h3.output.trans hal.output, Nat.le_trans hal.size h3.size, fun k hk hn => (h3.block k (by simp; omega) hn).trans (hal.block k hk hn)⟩ (by simpa using h4)
theorem rk_snoc_cases {K : List Rk} {x r : Rk} {k : Nat} (hk : (K ++ [x])[k]? = some r) : K[k]? = some r ∨ (k = K.length ∧ r = x) := by
  rcases Nat.lt_or_ge k K.length with hlt | hge
  · rw [List.getElem?_append_left hlt] at hk
    exact .inl hk
  · rw [List.getElem?_append_right hge] at hk
    have : k - K.length = 0 := by
      have := (List.getElem?_eq_some_iff.1 hk).1
      simp at this
      omega
    rw [this] at hk
    simp at hk
    exact .inr ⟨by omega, hk.symm⟩
/-- No more of a footprint than there are blocks. -/
theorem rj_cut {w : World} {F : Nat → Prop} {kg : Nat} {j : JP} (h : RJAt w F kg j) : RJAt w (fun k => F k ∧ k < w.heap.size) kg j := by
  obtain ⟨v, K, h1, h2, h3, h4⟩ := h.ex
  exact ⟨⟨v, K, h1, h2, ⟨fun g hg => ⟨h3.rows g hg, (own_block_lt h2.own hg).1⟩, fun k r g hk hg => ⟨h3.bod k r g hk hg, (own_block_lt (h2.bod k r hk) hg).1⟩⟩, h4⟩, h.kgF, h1.lt⟩
/-- An Open under way. -/
structure OpS (w0 : World) (Q kg : Nat) (r : RV) (rs : List Rc) (j : JP) (F : Nat → Prop) (vl : Value) (Kl : List Rk) (wr : World) : Prop where
  src : Blk wr Q 82 r.cells
  rd : RcRd wr (fun g => w0.heap.size ≤ g) r.A r.m rs
  jr : RJAt wr F kg j
  fge : ∀ g, F g → w0.heap.size ≤ g
  flt : ∀ g, F g → g < wr.heap.size
  own : RcOwn wr w0.heap.size vl Kl
  off : RcF (fun g => ¬ F g) vl Kl
  bw : Below w0.heap.size w0 wr
  lo : Q < w0.heap.size
section
variable {w0 wr w' w2 : World} {Q kg : Nat} {r : RV} {rs : List Rc} {j j' : JP} {F F' : Nat → Prop} {vl v2 : Value} {Kl : List Rk} {x : Rk}
theorem OpS.below (h : OpS w0 Q kg r rs j F vl Kl wr) (hb : Below wr.heap.size wr w') : OpS w0 Q kg r rs j F vl Kl w' :=
  ⟨h.src.over hb, h.rd.below hb, h.jr.below hb, h.fge, fun g hg => Nat.lt_of_lt_of_le (h.flt g hg) hb.size, h.own.below hb, h.off, h.bw.trans (hb.mono h.bw.size), h.lo⟩
/-- The journal has turned. -/
theorem OpS.turn (h : OpS w0 Q kg r rs j F vl Kl wr) (hj : RJAt w' F' kg j') (hm : Moved wr w' F F') : OpS w0 Q kg r rs j' (fun k => F' k ∧ k < w'.heap.size) vl Kl w' := by
  have hs := h.bw.size
  refine ⟨h.src.chg hm.2 fun e => by have := h.fge _ e; have := h.lo; omega, h.rd.chg hm.2 fun k _ hk => h.fge k hk, rj_cut hj, fun g hg => ?_, fun g hg => hg.2, ?_, ?_, h.bw.trans (hm.2.to_below hs fun k hk => h.fge k hk), h.lo⟩
  · rcases hm.1 g hg.1 with h1 | h1
    · exact h.fge g h1
    · omega
  · exact ⟨own_chg h.own.own hm.2 fun g hg => h.off.rows g hg, fun k r hk => own_chg (h.own.bod k r hk) hm.2 fun g hg => h.off.bod k r g hk hg, h.own.pw⟩
  · refine ⟨fun g hg hf => ?_, fun k r g hk hg hf => ?_⟩
    · rcases hm.1 g hf.1 with h1 | h1
      · exact h.off.rows g hg h1
      · have := (own_block_lt h.own.own hg).1
        omega
    · rcases hm.1 g hf.1 with h1 | h1
      · exact h.off.bod k r g hk hg h1
      · have := (own_block_lt (h.own.bod k r hk) hg).1
        omega
/-- One record more in the list. -/
theorem OpS.snoc (h : OpS w0 Q kg r rs j F vl Kl wr) (ho : w2.ownsRow w0.heap.size 34 2 v2 (Kl.length + 1) (rowsK Kl ++ x.cells)) (hg : wr.grownBy w2 vl.ownBlock) (hat : v2.ownBlock = vl.ownBlock ∨ v2.ownBlock = some (wr.heap.size + 1))
    (hx : wr.ownsRow w0.heap.size 5 1 x.v x.rc.body.length (bvs x.rc.body)) (hxn : ∀ g, x.v.ownBlock = some g → ¬ F g) (hn : ∀ (k : Nat) (r : Rk) (g : Nat), Kl[k]? = some r → r.v.ownBlock = some g → x.v.ownBlock = some g → False) : OpS w0 Q kg r rs j F v2 (Kl ++ [x]) w2 := by
  have hc := Chg.of_grown hg
  have hs := h.bw.size
  have hvl : ∀ g, some g = vl.ownBlock → w0.heap.size ≤ g ∧ ¬ F g := fun g e => ⟨(own_block_lt h.own.own e.symm).2.1, h.off.rows g e.symm⟩
  refine ⟨h.src.chg hc fun e => by have := (hvl _ e).1; have := h.lo; omega, h.rd.chg hc fun k _ hk => (hvl k hk).1, h.jr.chg hc fun k _ hF hk => (hvl k hk).2 hF, h.fge, fun g hF => Nat.lt_of_lt_of_le (h.flt g hF) hc.size, h.own.snoc hc ho hx hn, ⟨fun g hg hF => ?_, fun k r' g hk hg => ?_⟩, h.bw.trans (hc.to_below hs fun k hk => (hvl k hk).1), h.lo⟩
  · rcases hat with e | e
    · exact h.off.rows g (e ▸ hg) hF
    · rw [e] at hg
      injection hg with hg
      have := h.flt g hF
      omega
  · rcases rk_snoc_cases hk with h1 | ⟨_, rfl⟩
    · exact h.off.bod k r' g h1 hg
    · exact hxn g hg
end
/-- What the document's Open comes to. -/
def ROpened (w : World) (o : OR) (e : Ending) (w' : World) : Prop :=
  Below w.heap.size w w' ∧ match o with
    | .bad => e = .returned (.tuple #[.pointer none, .slice none 0 0, .slice none 0 0, .int .i64 122])
    | .spent => e = .returned (.tuple #[.pointer none, .slice none 0 0, .slice none 0 0, .int .i64 3])
    | .ok j recs ws => ∃ kg vl vw K F, e = .returned (.tuple #[.pointer (some ⟨kg, 0, none⟩), vl, vw, .int .i64 0]) ∧ RJAt w' F kg j ∧ (∀ k, F k → w.heap.size ≤ k ∧ k < w'.heap.size) ∧ K.map Rk.rc = recs ∧ RcOwn w' w.heap.size vl K ∧ WOut w' w.heap.size vw ws
theorem pickI_none {f : Fls} (h : pickR f = none) : pickI f = -1 := by unfold pickI; rw [h]
theorem pickI_some {f : Fls} {k : Nat} {x : Fi} (h : pickR f = some (k, x)) : pickI f = (k : Int) := by unfold pickI; rw [h]
theorem pickR_read {f : Fls} {k : Nat} {x : Fi} (h : pickR f = some (k, x)) : readR (f.nth k) = some x ∧ (k = 0 ∨ k = 1) := by
  unfold pickR at h
  cases ha : soundR f.a with
  | none =>
    cases hb : soundR f.b with
    | none => rw [ha, hb] at h; cases h
    | some b =>
      rw [ha, hb] at h
      injection h with h
      injection h with h1 h2
      subst h1 h2
      exact ⟨(soundR_told hb).2.2, .inr rfl⟩
  | some a =>
    cases hb : soundR f.b with
    | none =>
      rw [ha, hb] at h
      injection h with h
      injection h with h1 h2
      subst h1 h2
      exact ⟨(soundR_told ha).2.2, .inl rfl⟩
    | some b =>
      rw [ha, hb] at h
      dsimp only at h
      split at h
      · injection h with h
        injection h with h1 h2
        subst h1 h2
        exact ⟨(soundR_told hb).2.2, .inr rfl⟩
      · injection h with h
        injection h with h1 h2
        subst h1 h2
        exact ⟨(soundR_told ha).2.2, .inl rfl⟩
/-- The head of a journal turned. -/
theorem rj_set {w : World} {F : Nat → Prop} {kg : Nat} {j : JP} (h : RJAt w F kg j) (fl gn ct : Nat) : RJAt (((w.setCell ⟨kg, 0, none⟩ (.int .i64 (fl : Int))).setCell ⟨kg, 1, none⟩ (.int .i64 (gn : Int))).setCell ⟨kg, 2, none⟩ (.int .i64 (ct : Int))) F kg ⟨fl, gn, ct, j.recs⟩ ∧ Moved w (((w.setCell ⟨kg, 0, none⟩ (.int .i64 (fl : Int))).setCell ⟨kg, 1, none⟩ (.int .i64 (gn : Int))).setCell ⟨kg, 2, none⟩ (.int .i64 (ct : Int))) F F := by
  obtain ⟨v, K, h1, h2, h3, h4⟩ := h.ex
  have hc : Chg (fun k => k = kg) w (((w.setCell ⟨kg, 0, none⟩ (.int .i64 (fl : Int))).setCell ⟨kg, 1, none⟩ (.int .i64 (gn : Int))).setCell ⟨kg, 2, none⟩ (.int .i64 (ct : Int))) := (((Chg.refl (fun k => k = kg) w).setCell (p := ⟨kg, 0, none⟩) (.inl rfl) _).setCell (p := ⟨kg, 1, none⟩) (.inl rfl) _).setCell (p := ⟨kg, 2, none⟩) (.inl rfl) _
  refine ⟨⟨⟨v, K, ((h1.set_ 0 _).set_ 1 _).set_ 2 _, h2.chgT hc fun g _ ht e => ?_, h3, h4⟩, h.kgF⟩, fun _ h => .inl h, hc.mono fun k _ e => e ▸ h.kgF⟩
  subst e
  exact ht.elim (fun h => absurd (h.eq_ h1.isT) (by decide)) (fun h => absurd (h.eq_ h1.isT) (by decide))
end Go.Proofs.YtpkdalpjfcopbaaDoor
