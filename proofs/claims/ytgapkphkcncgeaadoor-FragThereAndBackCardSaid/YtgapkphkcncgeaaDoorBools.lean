/-
  A list of bools that came in, opened.
-/
import Derived.Test.YtgapkphkcncgeaaDoorFrame
import Derived.Deep.Grids
namespace Go.Proofs.YtgapkphkcncgeaaDoor
open Go.ChangeShapes Go.WideShapes Go.ChangeAt Go.RowKit Go.Deep
def Bools (w : World) (B : Nat) (A : Option Addr) (n : Nat) (Z : Nat → Bool) : Prop := 0 < n → ∃ b off, A = some ⟨b, off, none⟩ ∧ b < B ∧ ∀ i, i < n → w.cell? ⟨b, off + i, none⟩ = some (.bool (Z i))
theorem Bools.below {w w' : World} {B : Nat} {A : Option Addr} {n : Nat} {Z : Nat → Bool} (h : Bools w B A n Z) (hb : Below B w w') : Bools w' B A n Z := fun hn => by
  obtain ⟨b, off, e, hlt, hc⟩ := h hn
  exact ⟨b, off, e, hlt, fun i hi => (hb.cell (p := ⟨b, _, none⟩) hlt).trans (hc i hi)⟩
theorem Fit.bools {H : Type} {enc : TypeId × Value → H} {P : Program} {W : World} {t e : TypeId} {cs : List Value} {d : DataW H} (ht : P.underlying t = some (.slice e)) (he : P.underlying e = some .bool) (hc : P.cellsOf e = 1) (h : Fit enc P W t cs d) :
    ∃ (A : Option Addr) (n cap : Nat) (Z : Nat → Bool), cs = [.slice A n cap] ∧ n ≤ cap ∧ cap ≤ maxLen ∧ Bools W W.heap.size A n Z := by
  obtain ⟨⟨fuel, ps, hf⟩, _⟩ := h
  have hlt := DataW.trod_lt fuel t cs _ hf
  rcases open_bools ht he hc hf with ⟨rfl, _⟩ | ⟨a, n, cap, Z, rfl, _, hl, hm, hx, hcell⟩
  · exact ⟨none, 0, 0, fun _ => false, rfl, by omega, by simp [maxLen], fun h => absurd h (by omega)⟩
  · simp only [Prod.mk.injEq] at hx
    obtain ⟨rfl, rfl⟩ := hx
    refine ⟨some a, n, cap, Z, rfl, hl, hm, fun hn => ?_⟩
    obtain ⟨b, off, spot⟩ := a
    have h0 := hcell 0 (by omega)
    have hs : spot = none := by simpa [Addr.add] using World.cell?_spot h0
    subst hs
    refine ⟨b, off, rfl, row_lt (b := b) (off := off) (ps := []) (a := ⟨b, off, none⟩) (n := cap) (by simpa using hlt) (by omega), fun i hi => ?_⟩
    have := hcell i (by omega)
    rw [addr_add] at this
    exact this
end Go.Proofs.YtgapkphkcncgeaaDoor
