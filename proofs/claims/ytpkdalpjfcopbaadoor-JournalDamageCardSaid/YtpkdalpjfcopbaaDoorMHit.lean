/-
  JournalDamage: the frame that is hit; the count's bytes; a bit turned. No program text.
-/
import Derived.Test.YtpkdalpjfcopbaaDoorMHurt
namespace Go.Proofs.YtpkdalpjfcopbaaDoor
theorem bodies_mono (l : List Rc) {i k : Nat} (h : i ≤ k) : bodies (l.take i) ≤ bodies (l.take k) := by
  have := bodies_take_le (l.take k) i
  rwa [List.take_take, Nat.min_eq_left h] at this
/-- Where the search for the frame that is hit has ended. -/
theorem hit_law {f : Fls} {j : JP} {b' : List UInt8} {m i : Nat} (hG : Good f j) (hm : m < j.text.length) (h : Hurt j.text b' m) (hi : i ≤ j.recs.length) (h1 : i = 0 ∨ 18 + bodies (j.recs.take (i - 1)) ≤ m) (h2 : m < 18 + bodies (j.recs.take i)) :
    ((i : Int) - 1 < (j.count : Int) → giveR (f.withN j.file b') = giveR (f.withN j.file [])) ∧ (¬ (i : Int) - 1 < (j.count : Int) → 1 ≤ i ∧ giveR (f.withN j.file b') = j.recs.take (i - 1)) := by
  rcases give_hurt hG hm h with ⟨h18, hs⟩ | ⟨i', r, e1, e2, e3, e4, e5⟩
  · refine ⟨fun _ => hs, fun hn => ?_⟩
    rcases h1 with rfl | h1
    · omega
    · omega
  · have hb := bodies_take e1
    have hi' : i = i' + 1 := by
      rcases Nat.lt_or_ge i (i' + 1) with hl | hl
      · have := bodies_mono j.recs (show i ≤ i' by omega)
        omega
      · rcases Nat.lt_or_ge (i' + 1) i with hg | hg
        · have := bodies_mono j.recs (show i' + 1 ≤ i - 1 by omega)
          rcases h1 with h1 | h1 <;> omega
        · omega
    subst hi'
    rw [Nat.add_sub_cancel]
    exact ⟨fun hlt => e4 (by omega), fun hn => ⟨by omega, e5 (by omega)⟩⟩
theorem low_two {a b x y c : Nat} (h : (((0 * 256 + a) * 256 + b) * 256 + x) * 256 + y = c) (hc : c < 65536) : x * 256 + y = c := by
  have h1 : a = 0 := by
    rcases Nat.eq_zero_or_pos a with h0 | h0
    · exact h0
    · exfalso; omega
  have h2 : b = 0 := by
    rcases Nat.eq_zero_or_pos b with h0 | h0
    · exact h0
    · exfalso; omega
  rw [h1, h2] at h
  simpa using h
/-- The count, out of its two low bytes. -/
theorem count_low {l : List UInt8} {g c : Nat} {x y : UInt8} (h : headR l = some (g, c)) (hc : c < 65536) (hx : l[12]? = some x) (hy : l[13]? = some y) : x.toNat * 256 + y.toNat = c := by
  unfold headR at h
  split at h
  · rename_i hh
    have h : numB (part l 10 4) = c := (Prod.mk.injEq _ _ _ _ ▸ Option.some.inj h).2
    have hQ : (part l 10 4).length = 4 := part_length (by omega)
    obtain ⟨q0, q1, q2, q3, hq⟩ := list4t hQ
    have g2 := part_get (l := l) (p := 10) (n := 4) (k := 12) (by omega) (by omega)
    have g3 := part_get (l := l) (p := 10) (n := 4) (k := 13) (by omega) (by omega)
    rw [hq, hx] at g2
    rw [hq, hy] at g3
    injection g2 with g2
    injection g3 with g3
    subst g2 g3
    rw [hq] at h
    clear hh hq hQ
    simp only [numB, List.foldl_cons, List.foldl_nil] at h
    exact low_two h hc
  · cases h
theorem Good.head {f : Fls} {j : JP} (h : Good f j) : headR j.text = some (j.gen, j.count) := by
  have hr := h.half.rd
  rw [h.text] at hr
  unfold readR at hr
  split at hr
  · cases hr
  · rename_i g c hh
    injection hr with hr
    injection hr with e1 e2
    subst e1 e2
    exact hh
theorem Good.count_le {f : Fls} {j : JP} (h : Good f j) : j.count < 65536 := by
  have h1 := h.half.snd
  have h2 := bodies_le j.recs
  have h3 := h.fine.len
  rw [JP.text, textB_length] at h3
  dsimp only [JP.fi] at h1
  omega
/-- One bit turned is a damage. -/
theorem turned {b : List UInt8} {m k : Nat} {c : UInt8} (hc : b[m]? = some c) (hk : k < 8) : Hurt b (b.set m (c ^^^ UInt8.ofNat (2 ^ k))) m := by
  refine .inr ⟨c, _, hc, fun e => ?_, rfl⟩
  have h0 : UInt8.ofNat (2 ^ k) = 0 := by
    have h1 : c ^^^ (c ^^^ UInt8.ofNat (2 ^ k)) = c ^^^ c := by rw [e]
    simpa [← UInt8.xor_assoc] using h1
  have h2 := congrArg UInt8.toNat h0
  rcases (by omega : k = 0 ∨ k = 1 ∨ k = 2 ∨ k = 3 ∨ k = 4 ∨ k = 5 ∨ k = 6 ∨ k = 7) with rfl | rfl | rfl | rfl | rfl | rfl | rfl | rfl <;> revert h2 <;> decide
end Go.Proofs.YtpkdalpjfcopbaaDoor
