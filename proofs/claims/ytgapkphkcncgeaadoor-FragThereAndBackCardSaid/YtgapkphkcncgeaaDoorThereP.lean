/-
  FragThereAndBack's plain law: two lanes of chunks, whose turn it is. No program text.
-/
import Derived.Test.YtgapkphkcncgeaaDoorFBase
namespace Go.Proofs.YtgapkphkcncgeaaDoor
open Go.RowKit

/-- Of a blob in C chunks a have been taken. -/
def Lane (l : List (List UInt8)) (bs : List UInt8) (C a : Nat) : Prop := a = 0 ∨ (a = C ∧ l = []) ∨ (0 < a ∧ a < C ∧ l = splitS bs a)
def laneL (bs : List UInt8) (C a : Nat) : List (List UInt8) := if a = C then [] else splitS bs a
theorem Lane.step {l : List (List UInt8)} {bs : List UInt8} {C a : Nat} (h : a < C) : Lane (laneL bs C (a + 1)) bs C (a + 1) ∧ (Lane l bs C a → a = 0 ∨ l = splitS bs a) := by
  constructor
  · unfold laneL
    by_cases e : a + 1 = C
    · rw [if_pos e]; exact .inr (.inl ⟨e, rfl⟩)
    · rw [if_neg e]; exact .inr (.inr ⟨by omega, by omega, rfl⟩)
  · rintro (h1 | ⟨h1, _⟩ | ⟨_, _, h1⟩)
    · exact .inl h1
    · omega
    · exact .inr h1
/-- Both lanes, on two senders, or the second behind the first on one. -/
def Joint (N : Nat) (st : JSt) (b0 : List UInt8) (C0 a : Nat) (b1 : List UInt8) (C1 b : Nat) : Prop :=
  (N ≠ 1 → Lane (st 0) b0 C0 a ∧ Lane (st (N - 1)) b1 C1 b) ∧ (N = 1 → (a < C0 → b = 0 ∧ Lane (st 0) b0 C0 a) ∧ (a = C0 → 0 < b → Lane (st 0) b1 C1 b) ∧ (a = C0 → b = 0 → st 0 = []))
section
variable {N C0 a C1 b : Nat} {st : JSt} {b0 b1 : List UInt8}
theorem Joint.start (h0 : 0 < C0) : Joint N st b0 C0 0 b1 C1 0 := ⟨fun _ => ⟨.inl rfl, .inl rfl⟩, fun _ => ⟨fun _ => ⟨rfl, .inl rfl⟩, fun h => by omega, fun h => by omega⟩⟩
theorem Joint.one (h : Joint N st b0 C0 a b1 C1 b) (hN : 1 ≤ N) (ha : a < C0) : (a = 0 ∨ st 0 = splitS b0 a) ∧ Joint N (upd st 0 (laneL b0 C0 (a + 1))) b0 C0 (a + 1) b1 C1 b := by
  by_cases e : N = 1
  · obtain ⟨hb, hl⟩ := (h.2 e).1 ha
    refine ⟨(Lane.step ha).2 hl, fun h' => absurd e h', fun _ => ⟨fun _ => ⟨hb, by rw [upd_same]; exact (Lane.step (l := []) ha).1⟩, fun _ h0 => by omega, fun h1 _ => by rw [upd_same]; unfold laneL; rw [if_pos h1]⟩⟩
  · obtain ⟨h1, h2⟩ := h.1 e
    refine ⟨(Lane.step ha).2 h1, fun _ => ⟨by rw [upd_same]; exact (Lane.step (l := []) ha).1, by rw [upd_other (by omega)]; exact h2⟩, fun h' => absurd h' e⟩
theorem Joint.two (h : Joint N st b0 C0 a b1 C1 b) (hN : 1 ≤ N) (hb : b < C1) (h1 : N = 1 → a = C0) : (b = 0 ∨ st (N - 1) = splitS b1 b) ∧ Joint N (upd st (N - 1) (laneL b1 C1 (b + 1))) b0 C0 a b1 C1 (b + 1) := by
  by_cases e : N = 1
  · subst e
    have hac := h1 rfl
    refine ⟨?_, fun h' => absurd rfl h', fun _ => ⟨fun h2 => by omega, fun _ _ => by rw [upd_same]; exact (Lane.step (l := []) hb).1, fun _ h2 => by omega⟩⟩
    by_cases h0 : b = 0
    · exact .inl h0
    · exact (Lane.step hb).2 ((h.2 rfl).2.1 hac (by omega))
  · obtain ⟨h2, h3⟩ := h.1 e
    refine ⟨(Lane.step hb).2 h3, fun _ => ⟨by rw [upd_other (by omega)]; exact h2, by rw [upd_same]; exact (Lane.step (l := []) hb).1⟩, fun h' => absurd h' e⟩
theorem Lane.full {l : List (List UInt8)} {bs : List UInt8} {C : Nat} (h : Lane l bs C C) (hC : 0 < C) : l = [] := by
  rcases h with h | ⟨_, h⟩ | ⟨_, h, _⟩
  · omega
  · exact h
  · omega
theorem Joint.full (h : Joint N st b0 C0 C0 b1 C1 C1) (h0 : 0 < C0) (h1 : 0 < C1) : st 0 = [] ∧ st (N - 1) = [] := by
  by_cases e : N = 1
  · subst e
    have := ((h.2 rfl).2.1 rfl h1).full h1
    exact ⟨this, this⟩
  · exact ⟨(h.1 e).1.full h0, (h.1 e).2.full h1⟩
/-- A blob's next chunk, as the lane wants it. -/
theorem feed_lane {bs : List UInt8} {C k s : Nat} (hs : s < N) (hn : bs.length ≤ 4000) (c1 : bs.length ≤ 248 * C) (c2 : bs.length = 0 → C = 1) (c3 : 0 < bs.length → 248 * C < bs.length + 248) (hk : k < C) (hst : k = 0 ∨ st s = splitS bs k) :
    takeS N st s (chunkS bs k) = ((if k + 1 = C then bs else [], decide (k + 1 = C), 0), upd st s (laneL bs C (k + 1))) := by
  unfold laneL
  by_cases e : k + 1 = C
  · rw [if_pos e, if_pos e, decide_eq_true e]
    refine feed_last hs hn ?_ (by rw [e]; exact c1) hst
    rcases Nat.eq_zero_or_pos bs.length with h0 | h0
    · have := c2 h0; exact .inr (by omega)
    · have := c3 h0; exact .inl (by omega)
  · rw [if_neg e, if_neg e, decide_eq_false e]
    refine feed_hold hs hn ?_ hst
    rcases Nat.eq_zero_or_pos bs.length with h0 | h0
    · have := c2 h0; omega
    · have := c3 h0; omega
end
end Go.Proofs.YtgapkphkcncgeaaDoor
