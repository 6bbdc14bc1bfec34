/-
  DetectTurns: the lists that are kept, in memory.
-/
import Derived.Test.YtfjpmoigpnmeoaaDMutM
namespace Go.Proofs.Ytfjpmoigpnmeoaa
open Go.RowKit
/-- A list as it came, and its copy. -/
structure Gt where
  l : List Int
  A : Option Addr
  cap : Nat
  A2 : Option Addr
  cap2 : Nat
def Gt.g (x : Gt) : Value := .slice x.A x.l.length x.cap
def Gt.wv (x : Gt) : Value := .slice x.A2 x.l.length x.cap2
/-- A block of ints is a row of its own. -/
theorem rg_own {w : World} {g : Nat} {hs : List Int} (hm : hs.length ≤ maxLen) (hB : Blk w g 3 (rg hs.length fun j => .int .i64 (hs.getD j 0))) : w.ownsRow g 3 1 (.slice (some ⟨g, 0, none⟩) hs.length hs.length) hs.length (ivs hs) := by
  have e : (rg hs.length fun j => Value.int .i64 (hs.getD j 0)).toList = ivs hs := by
    apply List.ext_getElem?
    intro j
    by_cases hj : j < hs.length
    · rw [Array.getElem?_toList, rg_at _ hj, ivs_at (List.getElem?_eq_getElem hj)]
      simp [List.getD, List.getElem?_eq_getElem hj]
    · rw [List.getElem?_eq_none (by simp [rg]; omega), List.getElem?_eq_none (by rw [ivs_length]; omega)]
  refine ⟨by rw [ivs_length]; omega, .inr ⟨g, hs.length, _, rfl, Nat.le_refl _, hB, Nat.le_refl _, hm, by rw [rg_size]; omega, ?_⟩⟩
  · rw [e, List.take_of_length_le (by rw [ivs_length]; omega)]
def Apart (u v : Value) : Prop := ∀ g, u.ownBlock = some g → v.ownBlock = some g → False
theorem Apart.symm {u v : Value} (h : Apart u v) : Apart v u := fun g h1 h2 => h g h2 h1
/-- What a Held keeps: its block H; its lists; none of it in F. -/
structure HeldW (w : World) (B : Nat) (F : Nat → Prop) (H : Nat) (vG vW vM vR : Value) (K : List Gt) : Prop where
  blk : Blk w H 80 #[vG, vW, vM, vR]
  hB : B ≤ H
  hF : ¬ F H
  got : w.ownsRow B 22 1 vG K.length (K.map Gt.g)
  was : w.ownsRow B 22 1 vW K.length (K.map Gt.wv)
  gwr : Apart vG vW
  eg : ∀ (k : Nat) (x : Gt), K[k]? = some x → w.ownsRow B 3 1 x.g x.l.length (ivs x.l)
  ew : ∀ (k : Nat) (x : Gt), K[k]? = some x → w.ownsRow B 3 1 x.wv x.l.length (ivs x.l)
  room : w.ownsRow B 3 1 vR 0 []
  gg : ∀ (k k' : Nat) (x x' : Gt), K[k]? = some x → K[k']? = some x' → k ≠ k' → Apart x.g x'.g
  rg : ∀ (k : Nat) (x : Gt), K[k]? = some x → Apart vR x.g ∧ Apart vR x.wv
  nF : (∀ g, vG.ownBlock = some g → ¬ F g) ∧ (∀ g, vW.ownBlock = some g → ¬ F g) ∧ (∀ g, vR.ownBlock = some g → ¬ F g)
  nFe : ∀ (k : Nat) (x : Gt), K[k]? = some x → (∀ g, x.g.ownBlock = some g → ¬ F g) ∧ (∀ g, x.wv.ownBlock = some g → ¬ F g)
section
variable {w w' : World} {B : Nat} {F F' : Nat → Prop} {H : Nat} {vG vW vM vR : Value} {K : List Gt}
theorem HeldW.chgF (h : HeldW w B F H vG vW vM vR K) (hc : Chg F w w') : HeldW w' B F H vG vW vM vR K :=
  ⟨h.blk.chg hc h.hF, h.hB, h.hF, own_chg h.got hc h.nF.1, own_chg h.was hc h.nF.2.1, h.gwr, fun k x hk => own_chg (h.eg k x hk) hc (h.nFe k x hk).1, fun k x hk => own_chg (h.ew k x hk) hc (h.nFe k x hk).2,
    own_chg h.room hc h.nF.2.2, h.gg, h.rg, h.nF, h.nFe⟩
theorem HeldW.over (h : HeldW w B F H vG vW vM vR K) (hb : Below w.heap.size w w') : HeldW w' B F H vG vW vM vR K :=
  ⟨h.blk.over hb, h.hB, h.hF, own_over h.got hb, own_over h.was hb, h.gwr, fun k x hk => own_over (h.eg k x hk) hb, fun k x hk => own_over (h.ew k x hk) hb, own_over h.room hb, h.gg, h.rg, h.nF, h.nFe⟩
/-- F has grown by what is new. -/
theorem HeldW.moreF (h : HeldW w B F H vG vW vM vR K) (hc : Chg F w w') (hF : ∀ k, F' k → F k ∨ w.heap.size ≤ k) : HeldW w' B F' H vG vW vM vR K := by
  have n : ∀ {v : Value} {e n sz : Nat} {xs : List Value}, w.ownsRow B e sz v n xs → (∀ g, v.ownBlock = some g → ¬ F g) → ∀ g, v.ownBlock = some g → ¬ F' g := fun ho hn g hg hf => by
    have h1 := (own_block_lt ho hg).1
    rcases hF g hf with e | e
    · exact hn g hg e
    · omega
  have h' := h.chgF hc
  refine ⟨h'.blk, h'.hB, fun hf => ?_, h'.got, h'.was, h'.gwr, h'.eg, h'.ew, h'.room, h'.gg, h'.rg, ⟨n h.got h.nF.1, n h.was h.nF.2.1, n h.room h.nF.2.2⟩, fun k x hk => ⟨n (h.eg k x hk) (h.nFe k x hk).1, n (h.ew k x hk) (h.nFe k x hk).2⟩⟩
  rcases hF H hf with e | e
  · exact h.hF e
  · have := h.blk.lt; omega
end
/-- The same but for the room, which is on its way. -/
structure HeldN (w : World) (B : Nat) (F : Nat → Prop) (H : Nat) (vG vW vM vR : Value) (K : List Gt) : Prop where
  blk : Blk w H 80 #[vG, vW, vM, vR]
  hB : B ≤ H
  hF : ¬ F H
  got : w.ownsRow B 22 1 vG K.length (K.map Gt.g)
  was : w.ownsRow B 22 1 vW K.length (K.map Gt.wv)
  gwr : Apart vG vW
  eg : ∀ (k : Nat) (x : Gt), K[k]? = some x → w.ownsRow B 3 1 x.g x.l.length (ivs x.l)
  ew : ∀ (k : Nat) (x : Gt), K[k]? = some x → w.ownsRow B 3 1 x.wv x.l.length (ivs x.l)
  gg : ∀ (k k' : Nat) (x x' : Gt), K[k]? = some x → K[k']? = some x' → k ≠ k' → Apart x.g x'.g
  nF : (∀ g, vG.ownBlock = some g → ¬ F g) ∧ (∀ g, vW.ownBlock = some g → ¬ F g)
  nFe : ∀ (k : Nat) (x : Gt), K[k]? = some x → (∀ g, x.g.ownBlock = some g → ¬ F g) ∧ (∀ g, x.wv.ownBlock = some g → ¬ F g)
structure RoomS (w : World) (B : Nat) (F : Nat → Prop) (K : List Gt) (v : Value) (n : Nat) (xs : List Value) : Prop where
  own : w.ownsRow B 3 1 v n xs
  nF : ∀ g, v.ownBlock = some g → ¬ F g
  r : ∀ (k : Nat) (x : Gt), K[k]? = some x → Apart v x.g ∧ Apart v x.wv
section
variable {w w' : World} {B : Nat} {F F' : Nat → Prop} {H : Nat} {vG vW vM vR : Value} {K : List Gt} {v : Value} {n : Nat} {xs : List Value}
theorem HeldW.parts (h : HeldW w B F H vG vW vM vR K) : HeldN w B F H vG vW vM vR K ∧ RoomS w B F K vR 0 [] :=
  ⟨⟨h.blk, h.hB, h.hF, h.got, h.was, h.gwr, h.eg, h.ew, h.gg, ⟨h.nF.1, h.nF.2.1⟩, h.nFe⟩, ⟨h.room, h.nF.2.2, h.rg⟩⟩
theorem HeldN.whole (h : HeldN w B F H vG vW vM vR K) (r : RoomS w B F K vR 0 []) : HeldW w B F H vG vW vM vR K :=
  ⟨h.blk, h.hB, h.hF, h.got, h.was, h.gwr, h.eg, h.ew, r.own, h.gg, r.r, ⟨h.nF.1, h.nF.2, r.nF⟩, h.nFe⟩
theorem HeldN.over (h : HeldN w B F H vG vW vM vR K) (hb : Below w.heap.size w w') : HeldN w' B F H vG vW vM vR K :=
  ⟨h.blk.over hb, h.hB, h.hF, own_over h.got hb, own_over h.was hb, h.gwr, fun k x hk => own_over (h.eg k x hk) hb, fun k x hk => own_over (h.ew k x hk) hb, h.gg, h.nF, h.nFe⟩
theorem RoomS.over (h : RoomS w B F K v n xs) (hb : Below w.heap.size w w') : RoomS w' B F K v n xs := ⟨own_over h.own hb, h.nF, h.r⟩
theorem HeldN.chgF (h : HeldN w B F H vG vW vM vR K) (hc : Chg F w w') : HeldN w' B F H vG vW vM vR K :=
  ⟨h.blk.chg hc h.hF, h.hB, h.hF, own_chg h.got hc h.nF.1, own_chg h.was hc h.nF.2, h.gwr, fun k x hk => own_chg (h.eg k x hk) hc (h.nFe k x hk).1, fun k x hk => own_chg (h.ew k x hk) hc (h.nFe k x hk).2, h.gg, h.nF, h.nFe⟩
theorem RoomS.chgF (h : RoomS w B F K v n xs) (hc : Chg F w w') : RoomS w' B F K v n xs := ⟨own_chg h.own hc h.nF, h.nF, h.r⟩
/-- F has grown by what is new since w. -/
theorem HeldN.moreF (h : HeldN w B F H vG vW vM vR K) (hF : ∀ k, F' k → F k ∨ w.heap.size ≤ k) (hc : HeldN w' B F H vG vW vM vR K) : HeldN w' B F' H vG vW vM vR K := by
  have n : ∀ {v : Value} {e n sz : Nat} {xs : List Value}, w.ownsRow B e sz v n xs → (∀ g, v.ownBlock = some g → ¬ F g) → ∀ g, v.ownBlock = some g → ¬ F' g := fun ho hn g hg hf => by
    have h1 := (own_block_lt ho hg).1
    rcases hF g hf with e | e
    · exact hn g hg e
    · omega
  refine ⟨hc.blk, hc.hB, fun hf => ?_, hc.got, hc.was, hc.gwr, hc.eg, hc.ew, hc.gg, ⟨n h.got h.nF.1, n h.was h.nF.2⟩, fun k x hk => ⟨n (h.eg k x hk) (h.nFe k x hk).1, n (h.ew k x hk) (h.nFe k x hk).2⟩⟩
  rcases hF H hf with e | e
  · exact h.hF e
  · have := h.blk.lt; omega
theorem RoomS.moreF (h : RoomS w B F K v n xs) (hF : ∀ k, F' k → F k ∨ w.heap.size ≤ k) {n' : Nat} {xs' : List Value} (hc : RoomS w' B F K v n' xs') : RoomS w' B F' K v n' xs' :=
  ⟨hc.own, fun g hg hf => by
    have h1 := (own_block_lt h.own hg).1
    rcases hF g hf with e | e
    · exact h.nF g hg e
    · omega, hc.r⟩
/-- The room's own block has turned. -/
theorem HeldN.room (h : HeldN w B F H vG vW vM vR K) (r : RoomS w B F K v n xs) (hc : Chg (fun k => some k = v.ownBlock) w w') : HeldN w' B F H vG vW vM vR K := by
  have t : ∀ {g t : Nat} {cs : Array Value}, Blk w g t cs → t ≠ 3 → ¬ some g = v.ownBlock := fun hB ht e => by
    obtain ⟨_, _, cur, hC⟩ := own_block_lt r.own e.symm
    exact hB.ne_ hC ht rfl
  have rw_ : ∀ {u : Value} {m : Nat} {ys : List Value}, w.ownsRow B 22 1 u m ys → w'.ownsRow B 22 1 u m ys := fun ho => own_chg ho hc fun g hg => by
    obtain ⟨_, _, cur, hC⟩ := own_block_lt ho hg
    exact t hC (by decide)
  exact ⟨h.blk.chg hc (t h.blk (by decide)), h.hB, h.hF, rw_ h.got, rw_ h.was, h.gwr, fun k x hk => own_chg (h.eg k x hk) hc fun g hg e => (r.r k x hk).1 g e.symm hg, fun k x hk => own_chg (h.ew k x hk) hc fun g hg e => (r.r k x hk).2 g e.symm hg, h.gg, h.nF, h.nFe⟩
/-- An append to the room. -/
theorem RoomS.app (r : RoomS w B F K v n xs) (h : HeldN w B F H vG vW vM vR K) (hFb : ∀ k, F k → k < w.heap.size) {u : Value} {n' : Nat} {ys : List Value} (ho : w'.ownsRow B 3 1 u n' ys) (hu : ∀ g, u.ownBlock = some g → v.ownBlock = some g ∨ w.heap.size ≤ g) : RoomS w' B F K u n' ys := by
  refine ⟨ho, fun g hg hf => ?_, fun k x hk => ⟨fun g h1 h2 => ?_, fun g h1 h2 => ?_⟩⟩
  · rcases hu g hg with e | e
    · exact r.nF g e hf
    · have := hFb g hf; omega
  · rcases hu g h1 with e | e
    · exact (r.r k x hk).1 g e h2
    · have := (own_block_lt (h.eg k x hk) h2).1; omega
  · rcases hu g h1 with e | e
    · exact (r.r k x hk).2 g e h2
    · have := (own_block_lt (h.ew k x hk) h2).1; omega
/-- The new room is laid into H. -/
theorem HeldN.setR (h : HeldN w B F H vG vW vM vR K) (r : RoomS w B F K v 0 []) : HeldW (w.setCell ⟨H, 3, none⟩ v) B F H vG vW vM v K := by
  have far : ∀ {u : Value} {e m : Nat} {ys : List Value}, w.ownsRow B e 1 u m ys → e ≠ 80 → (w.setCell ⟨H, 3, none⟩ v).ownsRow B e 1 u m ys := fun ho he =>
    own_chg ho ((Chg.refl (fun k => k = H) w).setCell (p := ⟨H, 3, none⟩) (.inl rfl) v) fun g hg e2 => by
      obtain ⟨_, _, cur, hC⟩ := own_block_lt ho hg
      subst e2
      exact hC.ne_ h.blk he rfl
  exact ⟨h.blk.set_ 3 v, h.hB, h.hF, far h.got (by decide), far h.was (by decide), h.gwr, fun k x hk => far (h.eg k x hk) (by decide), fun k x hk => far (h.ew k x hk) (by decide), far r.own (by decide), h.gg, r.r, ⟨h.nF.1, h.nF.2, r.nF⟩, h.nFe⟩
end
end Go.Proofs.Ytfjpmoigpnmeoaa
