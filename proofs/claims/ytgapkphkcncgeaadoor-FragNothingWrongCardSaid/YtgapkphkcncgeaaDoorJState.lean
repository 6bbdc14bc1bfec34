/-
  The two joiners in memory: what they own (a set F of blocks), what of it is kept over a change elsewhere.
-/
import Derived.Test.YtgapkphkcncgeaaDoorJPure
import Derived.Test.YtgapkphkcncgeaaDoorRSplit
namespace Go.Proofs.YtgapkphkcncgeaaDoor
open Go.RowKit

/-- The reference's joiner in block J, with all it owns in F: its rows vv, the chunks in them. -/
structure RJ (w : World) (F : Nat → Prop) (N J : Nat) (st : JSt) (vv : Nat → Value) (rows : Nat → List Value) (cs : Array Value) : Prop where
  blk : Blk w J 64 cs
  size : cs.size = 17
  num : cs[0]? = some (.int .i64 (N : Int))
  at_ : ∀ s, s < 16 → cs[1 + s]? = some (vv s)
  row : ∀ s, s < 16 → w.ownsRow 0 22 1 (vv s) (st s).length (rows s)
  lo : ∀ s, s < 16 → LO w 0 (rows s) (st s)
  sep : ∀ s t g, s < 16 → t < 16 → (vv s).ownBlock = some g → (vv t).ownBlock = some g → s = t
  fj : F J
  fr : ∀ s, s < 16 → ∀ g, (vv s).ownBlock = some g → F g
  fb : ∀ s, s < 16 → ∀ v ∈ rows s, ∀ g, v.ownBlock = some g → F g
/-- The program's joiner: its list O, of each sender the partial's block and its bytes' block. -/
def openV (st : JSt) (pg : Nat → Nat × Nat) (s : Nat) : Value := if st s = [] then .pointer none else .pointer (some ⟨(pg s).1, 0, none⟩)
structure PJ (w : World) (F : Nat → Prop) (N J O : Nat) (st : JSt) (pg : Nat → Nat × Nat) (cs : Array Value) : Prop where
  blk : Blk w J 61 #[.slice (some ⟨O, 0, none⟩) N N]
  list : Blk w O 69 cs
  size : cs.size = N
  at_ : ∀ s, s < N → cs[s]? = some (openV st pg s)
  part : ∀ s, s < N → st s ≠ [] → Blk w (pg s).1 66 #[.int .i64 (cSize ((st s).headD []) : Int), .int .i64 (cSum ((st s).headD []) : Int), .slice (some ⟨(pg s).2, 0, none⟩) (248 * (st s).length) (cSize ((st s).headD []))]
  bytes : ∀ s, s < N → st s ≠ [] → ∃ cur, Blk w (pg s).2 5 cur ∧ cur.size = cSize ((st s).headD []) ∧ cur.toList.take (248 * (st s).length) = bvs (blobS (st s))
  sep : ∀ s t, s < N → t < N → st s ≠ [] → st t ≠ [] → ((pg s).1 = (pg t).1 ∨ (pg s).2 = (pg t).2) → s = t
  fj : F J ∧ F O
  fp : ∀ s, s < N → st s ≠ [] → F (pg s).1 ∧ F (pg s).2
def RJx (w : World) (F : Nat → Prop) (N J : Nat) (st : JSt) : Prop := (∀ k, F k → k < w.heap.size) ∧ ∃ vv rows cs, RJ w F N J st vv rows cs
def PJx (w : World) (F : Nat → Prop) (N J : Nat) (st : JSt) : Prop := (∀ k, F k → k < w.heap.size) ∧ ∃ O pg cs, PJ w F N J O st pg cs

section
variable {w w' : World} {F F' S : Nat → Prop} {N J O : Nat} {st : JSt} {vv : Nat → Value} {rows : Nat → List Value} {cs : Array Value} {pg : Nat → Nat × Nat}
theorem RJ.chg (h : RJ w F N J st vv rows cs) (hc : Chg S w w') (hS : ∀ k, F k → ¬ S k) : RJ w' F N J st vv rows cs :=
  ⟨h.blk.chg hc (hS _ h.fj), h.size, h.num, h.at_, fun s hs => own_chg (h.row s hs) hc fun g hg => hS g (h.fr s hs g hg),
    fun s hs => ⟨(h.lo s hs).1, fun i v c hv hx => own_chg ((h.lo s hs).2 i v c hv hx) hc fun g hg => hS g (h.fb s hs v (List.mem_of_getElem? hv) g hg)⟩, h.sep, h.fj, h.fr, h.fb⟩
theorem PJ.chg (h : PJ w F N J O st pg cs) (hc : Chg S w w') (hS : ∀ k, F k → ¬ S k) : PJ w' F N J O st pg cs :=
  ⟨h.blk.chg hc (hS _ h.fj.1), h.list.chg hc (hS _ h.fj.2), h.size, h.at_, fun s hs hn => (h.part s hs hn).chg hc (hS _ (h.fp s hs hn).1),
    fun s hs hn => by
      obtain ⟨cur, h1, h2, h3⟩ := h.bytes s hs hn
      exact ⟨cur, h1.chg hc (hS _ (h.fp s hs hn).2), h2, h3⟩, h.sep, h.fj, h.fp⟩
theorem RJx.chg (h : RJx w F N J st) (hc : Chg S w w') (hS : ∀ k, F k → ¬ S k) : RJx w' F N J st := by
  obtain ⟨h0, vv, rows, cs, h⟩ := h
  exact ⟨fun k hk => Nat.lt_of_lt_of_le (h0 k hk) hc.size, vv, rows, cs, h.chg hc hS⟩
theorem PJx.chg (h : PJx w F N J st) (hc : Chg S w w') (hS : ∀ k, F k → ¬ S k) : PJx w' F N J st := by
  obtain ⟨h0, O, pg, cs, h⟩ := h
  exact ⟨fun k hk => Nat.lt_of_lt_of_le (h0 k hk) hc.size, O, pg, cs, h.chg hc hS⟩
theorem RJx.below (h : RJx w F N J st) (hb : Below w.heap.size w w') : RJx w' F N J st := h.chg (Chg.of_below hb fun _ => False) fun _ _ h => h
theorem PJx.below (h : PJx w F N J st) (hb : Below w.heap.size w w') : PJx w' F N J st := h.chg (Chg.of_below hb fun _ => False) fun _ _ h => h
/-- What a call on a joiner turned of it, seen from outside: the new set is the old one and new blocks. -/
def Moved (w w' : World) (F F' : Nat → Prop) : Prop := (∀ k, F' k → F k ∨ w.heap.size ≤ k) ∧ Chg F w w'
theorem Moved.refl (w : World) (F : Nat → Prop) : Moved w w F F := ⟨fun _ h => .inl h, Chg.refl _ _⟩
theorem Moved.of_below (F : Nat → Prop) (hb : Below w.heap.size w w') : Moved w w' F F := ⟨fun _ h => .inl h, Chg.of_below hb _⟩
theorem Moved.trans {a : World} {F'' : Nat → Prop} (h : Moved a w F F') (k : Moved w w' F' F'') : Moved a w' F F'' :=
  ⟨fun i hi => by
    rcases k.1 i hi with h1 | h1
    · exact h.1 i h1
    · exact .inr (Nat.le_trans h.2.size h1), h.2.thenS k.2 fun i hi hs => by
      rcases h.1 i hs with h1 | h1
      · exact h1
      · omega⟩
end
end Go.Proofs.YtgapkphkcncgeaaDoor
