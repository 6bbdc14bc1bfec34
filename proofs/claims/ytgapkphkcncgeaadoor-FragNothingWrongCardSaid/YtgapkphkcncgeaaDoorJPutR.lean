/-
  The reference's joiner behind a change of one sender's row.
-/
import Derived.Test.YtgapkphkcncgeaaDoorJState
namespace Go.Proofs.YtgapkphkcncgeaaDoor
open Go.RowKit
theorem Rd.chgN {w w' : World} {S : Nat → Prop} {B sz n : Nat} {A : Option Addr} {xs : List Value} (h : Rd w B sz A n xs) (hc : Chg S w w') (hB : B ≤ w.heap.size) (hA : ∀ b o s, A = some ⟨b, o, s⟩ → ¬ S b) : Rd w' B sz A n xs :=
  ⟨h.len, fun hn => by
    obtain ⟨b, off, e, hb, hx⟩ := h.at_ hn
    exact ⟨b, off, e, hb, fun j u hu => (World.cell?_of_block (hc.block b (by omega) (hA b off none e))).trans (hx j u hu)⟩⟩
def updF {α : Type} (f : Nat → α) (s : Nat) (x : α) : Nat → α := fun k => if k = s then x else f k
theorem updF_same {α : Type} (f : Nat → α) (s : Nat) (x : α) : updF f s x s = x := by simp [updF]
theorem updF_other {α : Type} {f : Nat → α} {s k : Nat} {x : α} (h : k ≠ s) : updF f s x k = f k := by simp [updF, h]

/-- Blocks of another type than those that turned stay. -/
theorem own_chgT {w w' : World} {S : Nat → Prop} {base : Nat} {e t : TypeId} {size : Nat} {v : Value} {n : Nat} {xs : List Value} (h : w.ownsRow base e size v n xs) (hc : Chg S w w') (hS : ∀ g, S g → g < w.heap.size → IsT w t g) (hne : e ≠ t) : w'.ownsRow base e size v n xs :=
  own_chg h hc fun g hg hs => hne ((own_isT h hg).eq_ (hS g hs (own_block_lt h hg).1))
/-- 'out = append(out, x)': where the new row lies is told too. -/
theorem app1h {P : Program} {ops : Array Oper} {rest : List Oper} {o : Oper} {a : Act} {Q : Exit → Act → World → Prop} (W : World) (hgd : o.guard = none) (s x : Operand) (t : TypeId)
    (ho : o.op = .call { callee := .builtin .append, args := #[s, x], argTypes := #[t, t] })
    (base : Nat) (e : TypeId) (i : TypeInfo) (z : Value) (bytes : Nat) (ht : P.underlying t = some (.slice e)) (hi : P.info? e = some i) (hz : i.zero = some z)
    (hsize : i.size = 1) (hby : i.bytes = bytes) (hzs : z.cells.size = 1)
    (v : Value) (n : Nat) (xs : List Value) (hs : a.eval s = v) (hown : W.ownsRow base e 1 v n xs)
    (u : Value) (hx : a.eval x = .slice (some ⟨W.heap.size, 0, none⟩) 1 1) (h1 : u.oneCell' = true)
    (h63 : n + 1 ≤ maxLen) (hbytes : (n + 1) * bytes ≤ 140737488355328) (hbase : base ≤ W.heap.size)
    (h : ∀ v' w', w'.ownsRow base e 1 v' (n + 1) (xs ++ [u]) → W.grownBy w' v.ownBlock → (v'.ownBlock = v.ownBlock ∨ v'.ownBlock = some (W.heap.size + 1)) → wpList P ops Q rest (a.put o.dst v') w') :
    wpList P ops Q (o :: rest) a (W.alloc (.cells #[u] e)) := by
  have hown2 : (W.alloc (.cells #[u] e)).ownsRow base e 1 v n xs := hown.alloc _
  refine wpList_append_any (P := P) _ hgd s x t ho base e i z 1 bytes ht hi hz hsize hby hzs (by omega) v n xs hs hown2 (W.heap.size + 1) (some ⟨W.heap.size, 0, none⟩) 1 1 [u] hx ?_ (by simpa using h1) h63 hbytes (by simp; omega) ?_
  · refine ⟨by simp, fun _ => ⟨W.heap.size, 0, rfl, by omega, fun j y hj => ?_⟩⟩
    match j, hj with
    | 0, hj =>
      simp only [List.getElem?_cons_zero, Option.some.injEq] at hj
      subst hj
      exact (Blk.new W e #[u]).cell 0
    | j + 1, hj => simp at hj
  · intro v' w' h2 h3 h4
    have hal : W.grownBy (W.alloc (.cells #[u] e)) v.ownBlock := ⟨rfl, rfl, rfl, by simp, fun k hk _ => Below.heap_alloc _ _ _ hk⟩
    exact h v' w' h2 ⟨h3.os.trans hal.os, h3.tape.trans hal.tape, h3.output.trans hal.output, Nat.le_trans hal.size h3.size, fun k hk hn => (h3.block k (by simp; omega) hn).trans (hal.block k hk hn)⟩ (by simpa using h4)

section
variable {w w3 : World} {F : Nat → Prop} {N J : Nat} {st : JSt} {vv : Nat → Value} {rows : Nat → List Value} {cs : Array Value}
def FNew (F : Nat → Prop) (w w' : World) (k : Nat) : Prop := F k ∨ (w.heap.size ≤ k ∧ k < w'.heap.size)
/-- One sender's row is another now: its old block alone has turned; then it is stored. -/
theorem RJ.put (h : RJ w F N J st vv rows cs) (hF : ∀ k, F k → k < w.heap.size) {s : Nat} (hs : s < 16) {u : Value} {l : List (List UInt8)} {rs : List Value} (hc : Chg (fun k => some k = (vv s).ownBlock) w w3)
    (hu : w3.ownsRow 0 22 1 u l.length rs) (hlo : LO w3 0 rs l) (hub : ∀ g, u.ownBlock = some g → (vv s).ownBlock = some g ∨ w.heap.size ≤ g) (hrb : ∀ v ∈ rs, ∀ g, v.ownBlock = some g → F g ∨ w.heap.size ≤ g) :
    RJx (w3.setCell ⟨J, 1 + s, none⟩ u) (FNew F w w3) N J (upd st s l) ∧ Moved w (w3.setCell ⟨J, 1 + s, none⟩ u) F (FNew F w w3) := by
  have hsz := hc.size
  have hJt := h.blk.isT
  have hJ3 : Blk w3 J 64 cs := h.blk.chg hc fun e => absurd (hJt.eq_ (own_isT (h.row s hs) e.symm)) (by decide)
  have hJ3t := hJ3.isT
  have hcJ : Chg (fun k => k = J) w3 (w3.setCell ⟨J, 1 + s, none⟩ u) := (Chg.refl (fun k => k = J) w3).setCell (p := ⟨J, 1 + s, none⟩) (.inl rfl) u
  have hST : ∀ g, g = J → g < w3.heap.size → IsT w3 64 g := fun g e _ => by subst e; exact hJ3t
  have hS0 : ∀ g, some g = (vv s).ownBlock → g < w.heap.size → IsT w 22 g := fun g e _ => own_isT (h.row s hs) e.symm
  have hrow3 : ∀ t, t < 16 → t ≠ s → w3.ownsRow 0 22 1 (vv t) (st t).length (rows t) := fun t ht hne => own_chg (h.row t ht) hc fun g hg e => hne (h.sep t s g ht hs hg e.symm)
  have hlo3 : ∀ t, t < 16 → LO w3 0 (rows t) (st t) := fun t ht => ⟨(h.lo t ht).1, fun i v c hv hx => own_chgT ((h.lo t ht).2 i v c hv hx) hc hS0 (by decide)⟩
  refine ⟨⟨fun k hk => ?_, updF vv s u, updF rows s rs, cs.setIfInBounds (1 + s) u, ?_⟩, ⟨fun k hk => ?_, ?_⟩⟩
  · have h1 : (w3.setCell ⟨J, 1 + s, none⟩ u).heap.size = w3.heap.size := by simp [World.setCell]
    rw [h1]
    rcases hk with hk | hk
    · have := hF k hk; omega
    · exact hk.2
  · refine ⟨hJ3.set_ _ _, by rw [Array.size_setIfInBounds]; exact h.size, ?_, ?_, ?_, ?_, ?_, .inl h.fj, ?_, ?_⟩
    · rw [Array.getElem?_setIfInBounds_ne (by omega)]; exact h.num
    · intro t ht
      by_cases e : t = s
      · subst e; rw [updF_same, Array.getElem?_setIfInBounds_self_of_lt (by rw [h.size]; omega)]
      · rw [updF_other e, Array.getElem?_setIfInBounds_ne (by omega)]; exact h.at_ t ht
    · intro t ht
      by_cases e : t = s
      · subst e; rw [updF_same, updF_same, upd_same]; exact own_chgT hu hcJ hST (by decide)
      · rw [updF_other e, updF_other e, upd_other e]; exact own_chgT (hrow3 t ht e) hcJ hST (by decide)
    · intro t ht
      by_cases e : t = s
      · subst e; rw [updF_same, upd_same]
        exact ⟨hlo.1, fun i v c hv hx => own_chgT (hlo.2 i v c hv hx) hcJ hST (by decide)⟩
      · rw [updF_other e, upd_other e]
        exact ⟨(hlo3 t ht).1, fun i v c hv hx => own_chgT ((hlo3 t ht).2 i v c hv hx) hcJ hST (by decide)⟩
    · intro t t' g ht ht' h1 h2
      by_cases e : t = s
      · by_cases e' : t' = s
        · omega
        · subst e
          rw [updF_same] at h1
          rw [updF_other e'] at h2
          have hlt := (own_block_lt (h.row t' ht') h2).1
          rcases hub g h1 with h3 | h3
          · exact h.sep t t' g ht ht' h3 h2
          · omega
      · by_cases e' : t' = s
        · subst e'
          rw [updF_same] at h2
          rw [updF_other e] at h1
          have hlt := (own_block_lt (h.row t ht) h1).1
          rcases hub g h2 with h3 | h3
          · exact h.sep t t' g ht ht' h1 h3
          · omega
        · rw [updF_other e] at h1
          rw [updF_other e'] at h2
          exact h.sep t t' g ht ht' h1 h2
    · intro t ht g hg
      by_cases e : t = s
      · subst e; rw [updF_same] at hg
        rcases hub g hg with h3 | h3
        · exact .inl (h.fr t ht g h3)
        · exact .inr ⟨h3, (own_block_lt hu hg).1⟩
      · rw [updF_other e] at hg; exact .inl (h.fr t ht g hg)
    · intro t ht v hv g hg
      by_cases e : t = s
      · subst e; rw [updF_same] at hv
        rcases hrb v hv g hg with h3 | h3
        · exact .inl h3
        · obtain ⟨i, hi⟩ := List.mem_iff_getElem?.1 hv
          obtain ⟨c, hcc⟩ : ∃ c, l[i]? = some c := ⟨_, List.getElem?_eq_getElem (by have := (List.getElem?_eq_some_iff.1 hi).1; rw [← hlo.1]; exact this)⟩
          exact .inr ⟨h3, (own_block_lt (hlo.2 i v c hi hcc) hg).1⟩
      · rw [updF_other e] at hv; exact .inl (h.fb t ht v hv g hg)
  · rcases hk with hk | hk
    · exact .inl hk
    · exact .inr hk.1
  · exact (hc.mono fun k _ e => h.fr s hs k e.symm).thenS hcJ fun k _ e => by subst e; exact h.fj
end
end Go.Proofs.YtgapkphkcncgeaaDoor
