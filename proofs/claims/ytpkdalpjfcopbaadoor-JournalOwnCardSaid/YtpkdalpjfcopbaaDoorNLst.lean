/-
  Lists of bytes by their blocks: read, own, appended to at any offset.
-/
import Derived.Test.YtpkdalpjfcopbaaDoorKOut
import Derived.Test.YtpkdalpjfcopbaaDoorTy
import Derived.Deep.AppendSrc
namespace Go.Proofs.YtpkdalpjfcopbaaDoor
open Go.RowKit
/-- A list of bytes as it lies. -/
structure Lr (w : World) (A : Option Addr) (n : Nat) (bs : List UInt8) : Prop where
  len : bs.length = n
  at_ : 0 < n → ∃ g o cur, A = some ⟨g, o, none⟩ ∧ Blk w g 5 cur ∧ ∀ j c, bs[j]? = some c → cur[o + j]? = some (.int .u8 (c.toNat : Int))
/-- Its room, from a block on. -/
structure Lo (w : World) (base : Nat) (A : Option Addr) (n cap : Nat) : Prop where
  le : n ≤ cap
  mx : cap ≤ maxLen
  at_ : 0 < cap → ∃ g o cur, A = some ⟨g, o, none⟩ ∧ base ≤ g ∧ Blk w g 5 cur ∧ o + cap ≤ cur.size
/-- Its block, if it has room. -/
def blkO (A : Option Addr) (cap : Nat) : Option Nat := if 0 < cap then A.map (·.block) else none
theorem blkO_pos {g o : Nat} {cap : Nat} (h : 0 < cap) : blkO (some ⟨g, o, none⟩) cap = some g := by
  unfold blkO
  rw [if_pos h]
  rfl
section
variable {w w' : World} {A : Option Addr} {n cap base base' : Nat} {bs : List UInt8} {S : Nat → Prop}
theorem Lr.rd (h : Lr w A n bs) : RdB w w.heap.size A n bs := by
  refine ⟨by rw [bvs_length, h.len, Nat.mul_one], fun hn => ?_⟩
  obtain ⟨g, o, cur, e, hB, hc⟩ := h.at_ hn
  refine ⟨g, o, e, hB.lt, fun j u hu => ?_⟩
  have hj : j < bs.length := by
    have := (List.getElem?_eq_some_iff.1 hu).1
    rwa [bvs_length] at this
  rw [bvs_at (List.getElem?_eq_getElem hj)] at hu
  injection hu with hu
  subst hu
  rw [hB.cell]
  exact hc j _ (List.getElem?_eq_getElem hj)
theorem Lr.chg (h : Lr w A n bs) (hc : Chg S w w') (hS : ∀ g, 0 < n → A.map (·.block) = some g → IsT w 5 g → ¬ S g) : Lr w' A n bs := by
  refine ⟨h.len, fun hn => ?_⟩
  obtain ⟨g, o, cur, e, hB, hx⟩ := h.at_ hn
  exact ⟨g, o, cur, e, hB.chg hc (hS g hn (by rw [e]; rfl) hB.isT), hx⟩
theorem Lr.over (h : Lr w A n bs) (hb : Below w.heap.size w w') : Lr w' A n bs := h.chg (Chg.of_below hb (fun _ => False)) fun _ _ _ _ h => h
theorem Lr.nil (w : World) (A : Option Addr) : Lr w A 0 [] := ⟨rfl, fun h => absurd h (Nat.lt_irrefl 0)⟩
theorem Lo.chg (h : Lo w base A n cap) (hc : Chg S w w') (hS : ∀ g, blkO A cap = some g → base ≤ g → IsT w 5 g → ¬ S g) : Lo w' base A n cap := by
  refine ⟨h.le, h.mx, fun hn => ?_⟩
  obtain ⟨g, o, cur, e, hg, hB, hx⟩ := h.at_ hn
  exact ⟨g, o, cur, e, hg, hB.chg hc (hS g (by rw [e]; exact blkO_pos hn) hg hB.isT), hx⟩
theorem Lo.over (h : Lo w base A n cap) (hb : Below w.heap.size w w') : Lo w' base A n cap := h.chg (Chg.of_below hb (fun _ => False)) fun _ _ _ _ h => h
theorem Lo.mono (h : Lo w base A n cap) (hb : base' ≤ base) : Lo w base' A n cap :=
  ⟨h.le, h.mx, fun hn => by
    obtain ⟨g, o, cur, e, hg, hB, hx⟩ := h.at_ hn
    exact ⟨g, o, cur, e, Nat.le_trans hb hg, hB, hx⟩⟩
theorem Lo.blk (h : Lo w base A n cap) {g : Nat} (hg : blkO A cap = some g) : base ≤ g ∧ g < w.heap.size ∧ IsT w 5 g := by
  unfold blkO at hg
  split at hg
  · rename_i hn
    obtain ⟨g', o, cur, e, h1, hB, _⟩ := h.at_ hn
    rw [e] at hg
    injection hg with hg
    subst hg
    exact ⟨h1, hB.lt, hB.isT⟩
  · cases hg
/-- Bytes of which there is a row of their own. -/
theorem Lo.of_own {A : Option Addr} {cap : Nat} {xs : List Value} (h : w.ownsRow base 5 1 (.slice A n cap) n xs) : Lo w base A n cap := by
  obtain ⟨_, _, e, h1, h2⟩ := own_shape h
  injection e with _ _ e
  subst e
  refine ⟨h1, h2, fun hn => ?_⟩
  rcases h.2 with ⟨e, _⟩ | ⟨g, cap', cur, e, hb, hB, _, _, hs, _⟩
  · injection e with _ _ e
    omega
  · injection e with e1 _ e2
    subst e1 e2
    exact ⟨g, 0, cur, rfl, hb, hB, by omega⟩
theorem Lo.of_by {A : Option Addr} {cap : Nat} (h : ByO w base A n cap bs) : Lo w base A n cap := by
  obtain ⟨g, o, pre, rfl, h1, h2, h3, ho⟩ := h
  obtain ⟨_, _, e, h4, h5⟩ := own_shape ho
  injection e with _ _ e
  subst e
  refine ⟨by omega, by omega, fun hn => ?_⟩
  obtain ⟨g', cap', cur, e, hb, hB, _, _, hs, _⟩ := own_parts ho (by omega)
  injection e with e1 _ e2
  injection e1 with e1
  injection e1 with e1 _
  subst e1 e2
  exact ⟨g, o, cur, rfl, hb, hB, by omega⟩
theorem blkO_own {A : Option Addr} {cap : Nat} {xs : List Value} (h : w.ownsRow base 5 1 (.slice A n cap) n xs) : blkO A cap = (Value.slice A n cap).ownBlock ∨ blkO A cap = none := by
  unfold blkO
  split
  · rcases h.2 with ⟨e, _⟩ | ⟨g, cap', cur, e, _⟩
    · injection e with _ _ e
      omega
    · injection e with e1 _ e2
      subst e1
      exact .inl rfl
  · exact .inr rfl
/-- A byte is written. -/
theorem Lo.set_ (h : Lo w base A n cap) {g o i : Nat} (e : A = some ⟨g, o, none⟩) (u : Value) : Lo (w.setCell ⟨g, i, none⟩ u) base A n cap := by
  refine ⟨h.le, h.mx, fun hn => ?_⟩
  obtain ⟨g', o', cur, e', hg, hB, hx⟩ := h.at_ hn
  rw [e] at e'
  injection e' with e'
  injection e' with e1 e2 _
  subst e1 e2
  exact ⟨g, o, _, e, hg, hB.set_ i u, by rw [Array.size_setIfInBounds]; exact hx⟩
end
/-- A store anywhere. -/
theorem Lo.any_set {w : World} {base : Nat} {A : Option Addr} {n cap : Nat} (h : Lo w base A n cap) (g i : Nat) (u : Value) : Lo (w.setCell ⟨g, i, none⟩ u) base A n cap := by
  refine ⟨h.le, h.mx, fun hn => ?_⟩
  obtain ⟨g', o', cur, e', hg, hB, hx⟩ := h.at_ hn
  by_cases e : g' = g
  · subst e
    exact ⟨g', o', _, e', hg, hB.set_ i u, by rw [Array.size_setIfInBounds]; exact hx⟩
  · exact ⟨g', o', _, e', hg, hB.far e u, hx⟩
theorem Lr.far {w : World} {A : Option Addr} {n : Nat} {bs : List UInt8} (h : Lr w A n bs) {g : Nat} (hg : 0 < n → A.map (·.block) ≠ some g) (i : Nat) (u : Value) : Lr (w.setCell ⟨g, i, none⟩ u) A n bs := by
  refine ⟨h.len, fun hn => ?_⟩
  obtain ⟨g', o', cur, e', hB, hx⟩ := h.at_ hn
  refine ⟨g', o', cur, e', hB.far (fun e => hg hn (by rw [e']; exact congrArg some e)) u, hx⟩
theorem Lr.lt {w : World} {A : Option Addr} {n g : Nat} {bs : List UInt8} (h : Lr w A n bs) (hn : 0 < n) (hg : A.map (·.block) = some g) : g < w.heap.size := by
  obtain ⟨g', o', cur, e', hB, _⟩ := h.at_ hn
  rw [e'] at hg
  injection hg with hg
  subst hg
  exact hB.lt
theorem blkO_map {A : Option Addr} {n cap g : Nat} (hn : 0 < n) (hle : n ≤ cap) (h : A.map (·.block) = some g) : blkO A cap = some g := by
  unfold blkO
  rw [if_pos (by omega)]
  exact h
/-- The next byte is written. -/
theorem Lo.fill {w : World} {base : Nat} {A : Option Addr} {n cap i : Nat} {bs : List UInt8} (h : Lo w base A n cap) (hr : Lr w A i bs) (hi : i < n) : ∃ g o, A = some ⟨g, o, none⟩ ∧ blkO A cap = some g ∧ w.frozen? ⟨g, o + i, none⟩ = false ∧ (w.cell? ⟨g, o + i, none⟩).isSome = true ∧ ∀ c : UInt8, Lr (w.setCell ⟨g, o + i, none⟩ (.int .u8 (c.toNat : Int))) A (i + 1) (bs ++ [c]) := by
  have hle := h.le
  obtain ⟨g, o, cur, rfl, hg, hB, hx⟩ := h.at_ (by omega)
  refine ⟨g, o, rfl, blkO_pos (by omega), hB.frozen _, by rw [hB.cell, Array.getElem?_eq_getElem (by omega)]; rfl, fun c => ⟨by rw [List.length_append, hr.len]; rfl, fun _ => ⟨g, o, _, rfl, hB.set_ (o + i) _, fun j d hj => ?_⟩⟩⟩
  rcases Nat.lt_or_ge j i with h1 | h1
  · rw [List.getElem?_append_left (by rw [hr.len]; exact h1)] at hj
    obtain ⟨g', o', cur', e', hB', hx'⟩ := hr.at_ (by omega)
    injection e' with e'
    injection e' with e1 e2 _
    subst e1 e2
    have e3 : w.heap[g]? = some (.cells cur 5 (0, 0)) := hB
    have e4 : w.heap[g]? = some (.cells cur' 5 (0, 0)) := hB'
    rw [e3] at e4
    injection e4 with e4
    injection e4 with e4 _ _
    subst e4
    rw [Array.getElem?_setIfInBounds_ne (by omega)]
    exact hx' j d hj
  · have hjl := (List.getElem?_eq_some_iff.1 hj).1
    rw [List.length_append, hr.len] at hjl
    have hj0 : j = i := by simp at hjl; omega
    subst hj0
    rw [List.getElem?_append_right (by rw [hr.len]; exact Nat.le_refl _), hr.len, Nat.sub_self] at hj
    simp only [List.getElem?_cons_zero, Option.some.injEq] at hj
    subst hj
    rw [Array.getElem?_setIfInBounds_self_of_lt (by omega)]
/-- A store behind what is read. -/
theorem Lr.beyond {w : World} {A : Option Addr} {n g o i : Nat} {bs : List UInt8} (h : Lr w A n bs) (e : A = some ⟨g, o, none⟩) (hi : n ≤ i) (u : Value) : Lr (w.setCell ⟨g, o + i, none⟩ u) A n bs := by
  refine ⟨h.len, fun hn => ?_⟩
  obtain ⟨g', o', cur, e', hB, hx⟩ := h.at_ hn
  rw [e] at e'
  injection e' with e'
  injection e' with e1 e2 _
  subst e1 e2
  refine ⟨g, o, _, e, hB.set_ (o + i) u, fun j c hj => ?_⟩
  have hl := (List.getElem?_eq_some_iff.1 hj).1
  rw [h.len] at hl
  rw [Array.getElem?_setIfInBounds_ne (by omega)]
  exact hx j c hj
/-- What one more byte makes of a list. -/
structure Ap (w : World) (base : Nat) (A : Option Addr) (n cap : Nat) (bs : List UInt8) (x : UInt8) (A' : Option Addr) (cap' : Nat) (w' : World) : Prop where
  lo : Lo w' base A' (n + 1) cap'
  lr : Lr w' A' (n + 1) (bs ++ [x])
  how : (n < cap ∧ A' = A ∧ cap' = cap ∧ ∃ g o, A = some ⟨g, o, none⟩ ∧ w' = w.setCell ⟨g, o + n, none⟩ (.int .u8 (x.toNat : Int))) ∨ (Below w.heap.size w w' ∧ blkO A' cap' = some w.heap.size)
theorem run_lst_app {P : Program} {w : World} {base : Nat} {A : Option Addr} {n cap p : Nat} {bs : List UInt8} {x : UInt8} (t ty : TypeId) (i : TypeInfo) (z : Value) (ht : P.underlying t = some (.slice 5)) (hi : P.info? 5 = some i) (hz : i.zero = some z) (hs1 : i.size = 1) (hs2 : i.bytes = 1) (hzs : z.cells.size = 1)
    (hLo : Lo w base A n cap) (hLr : Lr w A n bs) (hp : w.cell? ⟨p, 0, none⟩ = some (.int .u8 (x.toNat : Int))) (hn : n + 1 ≤ 140737488355328) (hb : base ≤ w.heap.size) :
    ∃ A' cap' w', (Builtin.append_ #[t, t] ty #[.slice A n cap, .slice (some ⟨p, 0, none⟩) 1 1]).run P w = .ok (.slice A' (n + 1) cap') w' ∧ Ap w base A n cap bs x A' cap' w' := by
  have hsrc : Src P i.size t (.slice (some ⟨p, 0, none⟩) 1 1) 1 [.int .u8 (x.toNat : Int)] w := Src.ofSlice w ht ⟨p, 0, none⟩ 1 1 _ (by rw [hs1]; rfl) (fun j u hu => by
    match j, hu with
    | 0, hu =>
      simp only [List.getElem?_cons_zero, Option.some.injEq] at hu
      subst hu
      exact hp
    | j + 1, hu => simp at hu) (by intro u hu; rw [List.mem_singleton] at hu; subst hu; rfl)
  by_cases hlt : n < cap
  · obtain ⟨g, o, cur, rfl, hg, hB, hx⟩ := hLo.at_ (by omega)
    have hcell : ∀ j, j < 1 → (w.cell? ⟨g, o + n * i.size + j, none⟩).isSome = true ∧ w.frozen? ⟨g, o + n * i.size + j, none⟩ = false := fun j hj => by
      rw [hs1, Nat.mul_one, hB.cell, hB.frozen, Array.getElem?_eq_getElem (by omega)]
      exact ⟨rfl, rfl⟩
    have hrun := run_append_room_src (P := P) w t t ty 5 i ht hi g o n cap (.slice (some ⟨p, 0, none⟩) 1 1) 1 _ hsrc (by omega) (fun j hj => (hcell j hj).1) (fun j hj => (hcell j hj).2)
    rw [hs1, Nat.mul_one] at hrun
    refine ⟨_, _, _, hrun, ⟨?_, ?_, .inl ⟨hlt, rfl, rfl, g, o, rfl, rfl⟩⟩⟩
    · exact ⟨by omega, hLo.mx, fun _ => ⟨g, o, _, rfl, hg, hB.set_ (o + n) _, by rw [Array.size_setIfInBounds]; exact hx⟩⟩
    · refine ⟨by rw [List.length_append, hLr.len]; rfl, fun _ => ⟨g, o, _, rfl, hB.set_ (o + n) (.int .u8 (x.toNat : Int)), fun j c hj => ?_⟩⟩
      rcases Nat.lt_or_ge j n with h1 | h1
      · rw [List.getElem?_append_left (by rw [hLr.len]; exact h1)] at hj
        obtain ⟨g', o', cur', e', hB', hx'⟩ := hLr.at_ (by omega)
        injection e' with e'
        injection e' with e1 e2 _
        subst e1 e2
        have e3 : w.heap[g]? = some (.cells cur 5 (0, 0)) := hB
        have e4 : w.heap[g]? = some (.cells cur' 5 (0, 0)) := hB'
        rw [e3] at e4
        injection e4 with e4
        injection e4 with e4 _ _
        subst e4
        rw [Array.getElem?_setIfInBounds_ne (by omega)]
        exact hx' j c hj
      · have hjl := (List.getElem?_eq_some_iff.1 hj).1
        rw [List.length_append, hLr.len] at hjl
        have hj0 : j = n := by simp at hjl; omega
        subst hj0
        rw [List.getElem?_append_right (by rw [hLr.len]; exact Nat.le_refl _), hLr.len, Nat.sub_self] at hj
        simp only [List.getElem?_cons_zero, Option.some.injEq] at hj
        subst hj
        rw [Array.getElem?_setIfInBounds_self_of_lt (by omega)]
  · have hcap : cap = n := by have := hLo.le; omega
    subst hcap
    have hold : (Builtin.firstCells i.size cap (.slice A cap cap)).run P w.drew = .ok (bvs bs).toArray w.drew := by
      rcases Nat.eq_zero_or_pos cap with h0 | h0
      · subst h0
        have hb0 : bs = [] := List.eq_nil_of_length_eq_zero hLr.len
        subst hb0
        cases A with
        | none => exact run_firstCells_none w.drew i.size 0 0 0
        | some a' => exact run_firstCells_some w.drew i.size 0 a' 0 0 [] (by simp) (by intro _ _ h'; simp at h')
      · obtain ⟨g, o, cur, rfl, hB, hx⟩ := hLr.at_ h0
        refine run_firstCells_some w.drew i.size cap ⟨g, o, none⟩ cap cap (bvs bs) (by rw [bvs_length, hLr.len, hs1, Nat.mul_one]) fun j u hu => ?_
        have hr := hLr.rd
        obtain ⟨g2, o2, e2, _, hc2⟩ := hr.at_ h0
        injection e2 with e2
        injection e2 with e3 e4 _
        subst e3 e4
        rw [addr_add]
        exact hc2 j u hu
    have hrun := run_append_grow_src (P := P) w t t ty 5 i z ht hi hz A cap cap (bvs bs) hold (.slice (some ⟨p, 0, none⟩) 1 1) 1 _ hsrc (by omega) (by omega) (growslice_fits (by omega) (by rw [hs2]; omega))
    have hge := grownCap_ge w (cap + 1) cap 5
    have hcm := grownCap_le_maxLen w (cap + 1) cap 5 (by simp only [maxLen]; omega)
    have hbn : bvs bs ++ [.int .u8 (x.toNat : Int)] = bvs (bs ++ [x]) := by rw [bvs_append]; rfl
    rw [hbn] at hrun
    have hsz : ((bvs (bs ++ [x])).toArray ++ Builtin.zeroCells z.cells (grownCap w (cap + 1) cap 5 - (cap + 1))).size = grownCap w (cap + 1) cap 5 := by
      rw [Array.size_append, List.size_toArray, bvs_length, List.length_append, hLr.len, size_zeroCells, hzs, List.length_singleton]
      omega
    generalize grownCap w (cap + 1) cap 5 = c' at hrun hge hcm hsz
    have hNB := Blk.new w.drew 5 ((bvs (bs ++ [x])).toArray ++ Builtin.zeroCells z.cells (c' - (cap + 1)))
    have hbw : Below w.heap.size w (w.drew.alloc (.cells ((bvs (bs ++ [x])).toArray ++ Builtin.zeroCells z.cells (c' - (cap + 1))) 5)) := (Below.refl _ w).drew.alloc (Nat.le_refl _) _
    refine ⟨_, _, _, hrun, ⟨⟨hge, hcm, fun _ => ⟨_, 0, _, rfl, hb, hNB, by rw [hsz]; omega⟩⟩, ⟨by rw [List.length_append, hLr.len]; rfl, fun _ => ⟨_, 0, _, rfl, hNB, fun j c hj => ?_⟩⟩, .inr ⟨hbw, ?_⟩⟩⟩
    · have hjl := (List.getElem?_eq_some_iff.1 hj).1
      rw [Nat.zero_add, Array.getElem?_append_left (by rw [List.size_toArray, bvs_length]; exact hjl), List.getElem?_toArray]
      exact bvs_at hj
    · exact blkO_pos (by omega)
theorem wpList_lst_app {P : Program} {ops : Array Oper} {rest : List Oper} {o : Oper} {a : Act} {Q : Exit → Act → World → Prop} (w : World) (hgd : o.guard = none) (s x : Operand) (t : TypeId)
    (ho : o.op = .call { callee := .builtin .append, args := #[s, x], argTypes := #[t, t] }) (i : TypeInfo) (z : Value) (ht : P.underlying t = some (.slice 5)) (hi : P.info? 5 = some i) (hz : i.zero = some z) (hs1 : i.size = 1) (hs2 : i.bytes = 1) (hzs : z.cells.size = 1)
    {base : Nat} {A : Option Addr} {n cap p : Nat} {bs : List UInt8} {y : UInt8} (hv : a.eval s = .slice A n cap) (hLo : Lo w base A n cap) (hLr : Lr w A n bs) (hx : a.eval x = .slice (some ⟨p, 0, none⟩) 1 1) (hp : w.cell? ⟨p, 0, none⟩ = some (.int .u8 (y.toNat : Int))) (hn : n + 1 ≤ 140737488355328) (hb : base ≤ w.heap.size)
    (h : ∀ A' cap' w', Ap w base A n cap bs y A' cap' w' → wpList P ops Q rest (a.put o.dst (.slice A' (n + 1) cap')) w') : wpList P ops Q (o :: rest) a w := by
  refine wpList_plain hgd fun K hK => ?_
  obtain ⟨A', cap', w', hrun, hA⟩ := run_lst_app (P := P) t o.type i z ht hi hz hs1 hs2 hzs hLo hLr hp hn hb
  unfold Oper.wp execOp
  simp only [ho, resolve, invoke, builtin, Sem.run_bind, Sem.run_pure, Result.andThen_ok, List.map_toArray, List.map_cons, List.map_nil, hv, hx, hrun]
  exact hK _ _ (h A' cap' w' hA)
end Go.Proofs.YtpkdalpjfcopbaaDoor
