/-
  What a call may turn, told by the types of the blocks: from a base on, blocks of these types alone, and what is new. No program text.
-/
import Derived.Test.YtffcepaegcllmaaDoorApp
import Derived.Laws.CopyOwn
namespace Go.Proofs.YtffcepaegcllmaaDoor
open Go.RowKit

def IsT (w : World) (t : TypeId) (k : Nat) : Prop := ∃ cs fz, w.heap[k]? = some (.cells cs t fz)
theorem Blk.isT {w : World} {g : Nat} {t : TypeId} {cs : Array Value} (h : Blk w g t cs) : IsT w t g := ⟨cs, _, h⟩
theorem IsT.eq_ {w : World} {g : Nat} {t t' : TypeId} (h : IsT w t g) (h' : IsT w t' g) : t = t' := by
  obtain ⟨c, f, e⟩ := h
  obtain ⟨c', f', e'⟩ := h'
  rw [e] at e'
  injection e' with e'
  injection e' with _ e' _
theorem IsT.lt {w : World} {g : Nat} {t : TypeId} (h : IsT w t g) : g < w.heap.size := by
  obtain ⟨c, f, e⟩ := h
  rcases Nat.lt_or_ge g w.heap.size with hlt | hge
  · exact hlt
  · rw [Array.getElem?_eq_none hge] at e; cases e
theorem own_isT {w : World} {base : Nat} {e : TypeId} {size : Nat} {v : Value} {n : Nat} {xs : List Value} (h : w.ownsRow base e size v n xs) {g : Nat} (hg : v.ownBlock = some g) : IsT w e g := by
  obtain ⟨_, _, c, hB⟩ := own_block_lt h hg
  exact hB.isT
def TyS (ts : List TypeId) (base : Nat) (w : World) (k : Nat) : Prop := base ≤ k ∧ ∃ t, t ∈ ts ∧ IsT w t k
def ChT (ts : List TypeId) (base : Nat) (w w' : World) : Prop := Chg (TyS ts base w) w w'
section
variable {ts ts' : List TypeId} {base base' B sz n : Nat} {a w w' : World} {S : Nat → Prop} {k g : Nat} {t e : TypeId} {cs : Array Value} {v : Value} {xs : List Value} {A : Option Addr} {esz b : Nat}
theorem IsT.back (h : Chg S w w') (hk : k < w.heap.size) (hs : ¬ S k) (ht : IsT w' t k) : IsT w t k := by
  obtain ⟨c, f, e⟩ := ht
  exact ⟨c, f, (h.block k hk hs).symm.trans e⟩
theorem ChT.chg (h : ChT ts base w w') : Chg (TyS ts base w) w w' := h
theorem ChT.refl (ts : List TypeId) (base : Nat) (w : World) : ChT ts base w w := Chg.refl _ _
theorem ChT.size (h : ChT ts base w w') : w.heap.size ≤ w'.heap.size := Chg.size h
theorem ChT.trans (h : ChT ts base a w) (k : ChT ts base w w') : ChT ts base a w' := Chg.thenS h k fun i hi hs => by
  by_cases hc : TyS ts base a i
  · exact hc
  · obtain ⟨hb, t, ht, hi'⟩ := hs
    exact ⟨hb, t, ht, IsT.back h hi hc hi'⟩
theorem ChT.of_below (h : Below w.heap.size w w') : ChT ts base w w' := Chg.of_below h _
theorem ChT.mono (h : ChT ts base w w') (hts : ∀ t, t ∈ ts → t ∈ ts') (hb : base' ≤ base) : ChT ts' base' w w' :=
  Chg.mono h fun _ _ ⟨h1, t, h2, h3⟩ => ⟨by omega, t, hts t h2, h3⟩
theorem ChT.below (h : ChT ts base w w') (hb : base ≤ w.heap.size) : Below base w w' := Chg.to_below h hb fun _ hs => hs.1
theorem ChT.drew (h : ChT ts base a w) : ChT ts base a w.drew := Chg.drew h
theorem ChT.drewN (h : ChT ts base a w) (d : Nat) : ChT ts base a (w.drewN d) := Chg.drewN h d
theorem ChT.alloc (h : ChT ts base a w) (o : Obj) : ChT ts base a (w.alloc o) := Chg.alloc h o
theorem ChT.set (h : ChT ts base a w) (hB : Blk w g t cs) (ht : t ∈ ts) (hb : base ≤ g) (i : Nat) (u : Value) : ChT ts base a (w.setCell ⟨g, i, none⟩ u) :=
  h.trans ((Chg.refl _ w).setCell (p := ⟨g, i, none⟩) (.inl ⟨hb, t, ht, hB.isT⟩) u)
theorem ChT.app (hown : w.ownsRow base e esz v n xs) (hg : w.grownBy w' v.ownBlock) (he : e ∈ ts) : ChT ts base w w' :=
  (Chg.of_grown hg).mono fun _ _ hk => ⟨(own_block_lt hown hk.symm).2.1, e, he, own_isT hown hk.symm⟩
theorem Blk.cht (h : Blk w g t cs) (hc : ChT ts base w w') (hn : t ∉ ts ∨ g < base) : Blk w' g t cs := h.chg hc fun ⟨h1, t', h2, h3⟩ => by
  rcases hn with hn | hn
  · rw [h.isT.eq_ h3] at hn; exact hn h2
  · omega
theorem own_cht (h : w.ownsRow b e esz v n xs) (hc : ChT ts base w w') (hn : e ∉ ts ∨ ∀ g, v.ownBlock = some g → g < base) : w'.ownsRow b e esz v n xs :=
  own_chg h hc fun g hg ⟨h1, t', h2, h3⟩ => by
    rcases hn with hn | hn
    · rw [(own_isT h hg).eq_ h3] at hn; exact hn h2
    · have := hn g hg; omega
theorem Rd.cht (h : Rd w B sz A n xs) (hc : ChT ts base w w') (hB : B ≤ base) (hs : base ≤ w.heap.size) : Rd w' B sz A n xs := h.below ((hc.below hs).mono hB)
/-- A list that lies in one known block reads so. -/
theorem Blk.rd (h : Blk w g t cs) (hl : xs.length = n * sz) (hx : ∀ (j : Nat) (u : Value), xs[j]? = some u → cs[j]? = some u) : Rd w w.heap.size sz (some ⟨g, 0, none⟩) n xs :=
  ⟨hl, fun _ => ⟨g, 0, rfl, h.lt, fun j u hu => by rw [Nat.zero_add, h.cell]; exact hx j u hu⟩⟩
end
/-- 'copy(d, s)' into a block that is known, from whatever reads as a list that fits: that block alone has turned. -/
theorem copyC {P : Program} {w : World} {ops : Array Oper} {rest : List Oper} {o : Oper} {a : Act} {Q : Exit → Act → World → Prop} (hgd : o.guard = none) (d s : Operand) (dT sT : TypeId)
    (ho : o.op = .call { callee := .builtin .copy, args := #[d, s], argTypes := #[dT, sT] }) (elem : TypeId) (hu : P.underlying dT = some (.slice elem)) (hsz : (P.info? elem).map (·.size) = some 1)
    (dp : Option Addr) (dLen dCap : Nat) (A : Option Addr) (m sCap : Nat) (hd : a.eval d = .slice dp dLen dCap) (hs : a.eval s = .slice A m sCap) (g off : Nat) (cur : Array Value) (t : TypeId) (hB : Blk w g t cur)
    (B : Nat) (news : List Value) (hr : Rd w B 1 A m news) (hm : m ≤ dLen) (hdp : 0 < m → dp = some ⟨g, off, none⟩) (hfit : off + m ≤ cur.size) (h1 : ∀ v ∈ news, v.oneCell' = true)
    (h : ∀ w', Blk w' g t (Go.splice cur.toList off news).toArray → Chg (fun k => k = g) w w' → wpList P ops Q rest (a.put o.dst (goInt m)) w') : wpList P ops Q (o :: rest) a w := by
  have hl : news.length = m := by have := hr.len; omega
  by_cases h0 : m = 0
  · subst h0
    obtain rfl : news = [] := List.eq_nil_of_length_eq_zero hl
    refine wpList_copy_nothing hgd d s dT sT ho elem hu hsz dp A dLen dCap 0 sCap hd hs (by simp) ?_
    exact h w (by simpa [splice] using hB) (Chg.refl _ _)
  · obtain rfl := hdp (by omega)
    obtain ⟨b, o', rfl, _, hc⟩ := hr.at_ (by omega)
    refine wpList_copy_own hgd d s dT sT ho elem hu hsz g off dLen dCap _ m sCap hd hs cur t hB news (by rw [hl]; exact (Nat.min_eq_left hm).symm) (fun j v hv => by rw [addr_add]; exact hc j v hv) (by rw [hl]; exact hfit) h1 ?_
    rw [hl]
    refine h _ ?_ ⟨rfl, rfl, rfl, by simp [World.setRow], fun k _ hn => setRow_other w g k _ hn⟩
    have := setRow_heap w g _ (splice cur.toList off news).toArray t _ hB
    unfold splice at this ⊢
    rw [hl] at this ⊢
    exact this
theorem Rd.sliceB {w : World} {B n : Nat} {A : Option Addr} {bs : List UInt8} (h : RdB w B A n bs) {lo p : Nat} (hp : lo + p ≤ n) : RdB w B (A.map fun x => x.add lo) p ((bs.drop lo).take p) := by
  have hl := h.lenB
  refine ⟨by rw [bvs_length, List.length_take, List.length_drop]; omega, fun hn => ?_⟩
  obtain ⟨b, off, rfl, hb, hc⟩ := h.at_ (by omega)
  refine ⟨b, off + lo, by simp [addr_add], hb, fun j u hu => ?_⟩
  rw [Nat.add_assoc]
  refine hc _ u ?_
  rw [bvs_take, bvs_drop, List.getElem?_take] at hu
  split at hu
  · rw [List.getElem?_drop] at hu; exact hu
  · cases hu
end Go.Proofs.YtffcepaegcllmaaDoor
