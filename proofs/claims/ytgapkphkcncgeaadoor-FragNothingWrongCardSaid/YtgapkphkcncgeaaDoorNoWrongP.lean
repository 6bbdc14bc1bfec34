/-
  FragNothingWrong's plain law: what the statement's own lists tell, beside what is held. No program text.
-/
import Derived.Test.YtgapkphkcncgeaaDoorJPure
namespace Go.Proofs.YtgapkphkcncgeaaDoor
open Go.RowKit

/-- What was told of a sender, beside what is held of it. -/
def Tell (l : List (List UInt8)) (t : List UInt8) : Prop := l = [] ∨ t = blobS l
theorem Tell.joined {l : List (List UInt8)} {c t : List UInt8} (h : Tell l t) (hg : Fits l c) : (if cAt c = 0 then [] else t) ++ c.drop 8 = blobS (joined l c) := by
  by_cases hz : cAt c = 0
  · rw [if_pos hz, joined_zero hz, blobS_one]; rfl
  · rw [if_neg hz, joined_more hz, blobS_snoc]
    rcases hg with hg | ⟨hg, _⟩
    · exact absurd hg hz
    · rcases h with h | h
      · exact absurd h hg
      · rw [h]
/-- The ways of a Take of a sender that there is. -/
theorem takeS_ways {N s : Nat} {st : JSt} {c : List UInt8} (hs : s < N) (hp : PartsOk N st) :
    takeS N st s c = (([], false, 91), st) ∨ takeS N st s c = (([], false, 91), upd st s []) ∨
    (Form c ∧ Fits (st s) c ∧ (blobS (joined (st s) c)).length < cSize c ∧ takeS N st s c = (([], false, 0), upd st s (joined (st s) c))) ∨
    (Form c ∧ Fits (st s) c ∧ (blobS (joined (st s) c)).length = cSize c ∧ Crc.crc (blobS (joined (st s) c)) = cSum c ∧ takeS N st s c = ((blobS (joined (st s) c), true, 0), upd st s [])) := by
  by_cases hf : Form c
  · by_cases hg : Fits (st s) c
    · by_cases hl : (blobS (joined (st s) c)).length < cSize c
      · exact .inr (.inr (.inl ⟨hf, hg, hl, takeS_hold hs hf hg hl⟩))
      · have hle := joined_le (hp s hs) hf hg
        by_cases hc : Crc.crc (blobS (joined (st s) c)) = cSum c
        · exact .inr (.inr (.inr ⟨hf, hg, by omega, hc, takeS_good hs hf hg hl hc⟩))
        · exact .inr (.inl (takeS_wrong hs hf hg hl hc))
    · exact .inl (takeS_bad hs hf hg)
  · exact .inl (takeS_form hs hf)
/-- The ways of a Take: refused, held, given. -/
theorem takeS_three {N : Nat} {st : JSt} {c : List UInt8} (hp : PartsOk N st) (sd : Int) :
    (∃ er st', takeS N st sd c = (([], false, er), st') ∧ er ≠ 0 ∧ (∀ k, st' k = st k ∨ st' k = []) ∧ ((er = 1 ∧ (sd < 0 ∨ (N : Int) ≤ sd)) ∨ (0 ≤ sd ∧ sd < (N : Int)))) ∨
    (∃ s : Nat, sd = (s : Int) ∧ s < N ∧ Form c ∧ Fits (st s) c ∧ (blobS (joined (st s) c)).length < cSize c ∧ takeS N st s c = (([], false, 0), upd st s (joined (st s) c))) ∨
    (∃ s : Nat, sd = (s : Int) ∧ s < N ∧ Form c ∧ Fits (st s) c ∧ (blobS (joined (st s) c)).length = cSize c ∧ Crc.crc (blobS (joined (st s) c)) = cSum c ∧ takeS N st s c = ((blobS (joined (st s) c), true, 0), upd st s [])) := by
  by_cases h : sd < 0 ∨ (N : Int) ≤ sd
  · exact .inl ⟨1, st, takeS_arg h, by omega, fun _ => .inl rfl, .inl ⟨rfl, h⟩⟩
  · obtain ⟨s, rfl⟩ := Int.eq_ofNat_of_zero_le (show 0 ≤ sd by omega)
    have hs : s < N := by omega
    rcases takeS_ways (c := c) hs hp with e | e | ⟨h1, h2, h3, e⟩ | ⟨h1, h2, h3, h4, e⟩
    · exact .inl ⟨91, st, e, by omega, fun _ => .inl rfl, .inr ⟨by omega, by omega⟩⟩
    · exact .inl ⟨91, _, e, by omega, fun k => by unfold upd; split; exact .inr rfl; exact .inl rfl, .inr ⟨by omega, by omega⟩⟩
    · exact .inr (.inl ⟨s, rfl, hs, h1, h2, h3, e⟩)
    · exact .inr (.inr ⟨s, rfl, hs, h1, h2, h3, h4, e⟩)
/-- Does a chunk tell the place 0? -/
def first (c : List UInt8) : Bool := decide (by_ c 2 = 0) && decide (by_ c 3 = 0)
theorem first_at (c : List UInt8) : first c = decide (cAt c = 0) := by
  unfold first cAt
  have := by_lt c 3
  rw [Bool.eq_iff_iff]
  simp only [Bool.and_eq_true, decide_eq_true_eq]
  omega
def FL (c : List UInt8) : Prop := 8 ≤ c.length ∧ by_ c 2 = 0 ∧ by_ c 3 = 0
instance (c : List UInt8) : Decidable (FL c) := by unfold FL; infer_instance
theorem check_take (N : Nat) (h : 1 ≤ N) : takeS N (fun _ => []) ((N : Int) - 1) [0, 9, 0, 0, 203, 244, 57, 38, 49, 50, 51, 52, 53, 54, 55, 56, 57] = (([49, 50, 51, 52, 53, 54, 55, 56, 57], true, 0), upd (fun _ => []) (N - 1) []) := by
  have e : ((N : Int) - 1) = ((N - 1 : Nat) : Int) := by omega
  rw [e]
  have hz : cAt [0, 9, 0, 0, 203, 244, 57, 38, 49, 50, 51, 52, 53, 54, 55, 56, 57] = 0 := by decide
  have hj : joined ((fun _ => [] : JSt) (N - 1)) [0, 9, 0, 0, 203, 244, 57, 38, 49, 50, 51, 52, 53, 54, 55, 56, 57] = [[0, 9, 0, 0, 203, 244, 57, 38, 49, 50, 51, 52, 53, 54, 55, 56, 57]] := joined_zero hz
  have hb : blobS [[0, 9, 0, 0, 203, 244, 57, 38, 49, 50, 51, 52, 53, 54, 55, 56, 57]] = [49, 50, 51, 52, 53, 54, 55, 56, 57] := by decide
  rw [takeS_good (by omega) (by decide) (.inl hz) (by rw [hj, hb]; decide) (by rw [hj, hb]; decide +kernel), hj, hb]
theorem upd_nil (s : Nat) : upd (fun _ => []) s [] = fun _ => [] := by funext k; unfold upd; split <;> rfl
end Go.Proofs.YtgapkphkcncgeaaDoor
