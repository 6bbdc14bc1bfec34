/-
  Items: what is encoded is decoded, what is decoded is encoded: the plain law.
-/
import Derived.Test.YtjafmcahlmopiaaDecR
import Derived.Test.YtjafmcahlmopiaaRow
namespace Go.Proofs.Ytjafmcahlmopiaa
open Go.RowKit

theorem tk_rev (bs : List UInt8) (p : Nat) : ∀ (f i acc v nx : Nat), tk bs p f i acc = (v, nx, 0) → ∃ u f', f = f' + 1 ∧ v = acc + u * 2 ^ (7 * i) ∧ (0 < i → 0 < u) ∧ bs.drop (p + i) = putL f' u ++ bs.drop nx := by
  intro f
  induction f with
  | zero => intro i acc v nx h; simp [tk] at h
  | succ f ih =>
    intro i acc v nx h
    unfold tk at h
    cases hb : bs[p + i]? with
    | none => rw [hb] at h; simp at h
    | some c =>
      rw [hb] at h
      simp only at h
      obtain ⟨hlt, hce⟩ := List.getElem?_eq_some_iff.1 hb
      have hd : bs.drop (p + i) = c :: bs.drop (p + i + 1) := by rw [List.drop_eq_getElem_cons hlt, hce]
      by_cases hc : c.toNat < 128
      · rw [if_pos hc] at h
        split at h
        · simp at h
        · rename_i hbad
          simp only [Prod.mk.injEq] at h
          obtain ⟨rfl, rfl, -⟩ := h
          refine ⟨c.toNat, f, rfl, by rw [Nat.mod_eq_of_lt hc], fun hi => by omega, ?_⟩
          rw [hd, putL_small f _ hc, show UInt8.ofNat c.toNat = c by simp]
          rfl
      · rw [if_neg hc] at h
        obtain ⟨u, f', rfl, hv, hu, hdr⟩ := ih _ _ _ _ h
        have hu := hu (by omega)
        have hcl := c.toNat_lt
        refine ⟨c.toNat % 128 + 128 * u, f' + 1, rfl, ?_, fun _ => by omega, ?_⟩
        · rw [hv, pow7_succ, Nat.add_mul, Nat.add_assoc]
          congr 2
          rw [Nat.mul_comm 128 u, Nat.mul_assoc]
        · rw [hd, putL_more f' _ (by omega), show (c.toNat % 128 + 128 * u) % 128 + 128 = c.toNat by omega, show (c.toNat % 128 + 128 * u) / 128 = u by omega, show UInt8.ofNat c.toNat = c by simp, Nat.add_assoc p i 1, hdr]
          rfl
theorem numP_rev {bs : List UInt8} {p v nx : Nat} {lo hi : Int} (h : numP bs p lo hi = .inr (v, nx)) : bs.drop p = putB v ++ bs.drop nx := by
  unfold numP at h
  split at h
  · cases h
  · rename_i h0
    split at h
    · cases h
    · simp only [Sum.inr.injEq, Prod.mk.injEq] at h
      obtain ⟨h1, h2⟩ := h
      have ht : tk bs p 9 0 0 = (v, nx, 0) := by rw [← h1, ← h2]; exact Prod.ext rfl (Prod.ext rfl (show (tk bs p 9 0 0).2.2 = 0 by omega))
      obtain ⟨u, f', hf, hv, -, hd⟩ := tk_rev bs p 9 0 0 v nx ht
      obtain rfl : f' = 8 := by omega
      simp only [Nat.mul_zero, Nat.pow_zero, Nat.mul_one, Nat.zero_add] at hv
      subst hv
      exact hd
theorem textP_rev {bs : List UInt8} {p nx : Nat} {lo hi : Int} {l : List UInt8} (h : textP bs p lo hi = .inr (l, nx)) : bs.drop p = packB l ++ bs.drop nx ∧ (l.length : Int) ≤ hi ∧ nx ≤ bs.length := by
  unfold textP at h
  cases h4 : numP bs p lo hi with
  | inl er => rw [h4] at h; simp at h
  | inr x =>
    obtain ⟨m, q⟩ := x
    rw [h4] at h
    simp only at h
    split at h
    · simp at h
    · simp only [Sum.inr.injEq, Prod.mk.injEq] at h
      obtain ⟨rfl, rfl⟩ := h
      have hk := numP_ok h4
      have hlen : ((bs.drop q).take m).length = m := by rw [List.length_take, List.length_drop]; omega
      refine ⟨?_, by rw [hlen]; omega, by omega⟩
      unfold packB
      rw [hlen, numP_rev h4, List.append_assoc, ← List.drop_drop, List.take_append_drop]
theorem dataP_rev {bs : List UInt8} {p nx a b c : Nat} {l : List UInt8} (h : dataP bs p = .inr ((a, b, c, l), nx)) :
    bs.drop p = packD a b c l ++ bs.drop nx ∧ a ≤ 15 ∧ 1 ≤ b ∧ b ≤ 4611686018427387904 ∧ c ≤ 4611686018427387904 ∧ l.length ≤ 256 ∧ nx ≤ bs.length := by
  unfold dataP at h
  cases h0 : numP bs p 0 15 with
  | inl er => rw [h0] at h; simp at h
  | inr x =>
    obtain ⟨a', p1⟩ := x
    rw [h0] at h
    simp only at h
    cases h1 : numP bs p1 1 4611686018427387904 with
    | inl er => rw [h1] at h; simp at h
    | inr x =>
      obtain ⟨b', p2⟩ := x
      rw [h1] at h
      simp only at h
      cases h2 : numP bs p2 0 4611686018427387904 with
      | inl er => rw [h2] at h; simp at h
      | inr x =>
        obtain ⟨c', p3⟩ := x
        rw [h2] at h
        simp only at h
        cases h3 : textP bs p3 0 256 with
        | inl er => rw [h3] at h; simp at h
        | inr x =>
          obtain ⟨l', p4⟩ := x
          rw [h3] at h
          simp only [Sum.inr.injEq, Prod.mk.injEq] at h
          obtain ⟨⟨rfl, rfl, rfl, rfl⟩, rfl⟩ := h
          have e0 := numP_ok h0
          have e1 := numP_ok h1
          have e2 := numP_ok h2
          obtain ⟨e3, e4, e5⟩ := textP_rev h3
          refine ⟨?_, by omega, by omega, by omega, by omega, by omega, e5⟩
          rw [numP_rev h0, numP_rev h1, numP_rev h2, e3]
          simp [packD, pack, List.append_assoc]
theorem drop_len {bs : List UInt8} {nx : Nat} (h : ¬ nx < bs.length) : bs.drop nx = [] := List.drop_eq_nil_of_le (by omega)
theorem decItem_rev (bs : List UInt8) : ((decItem bs).2 ≠ 0 → (decItem bs).1 = .zero) ∧
    ((decItem bs).2 = 0 → encItem (decItem bs).1.k (decItem bs).1.s (decItem bs).1.q (decItem bs).1.t (decItem bs).1.l (decItem bs).1.p (decItem bs).1.st (decItem bs).1.a (decItem bs).1.c = (bs, 0)) := by
  have bad : ∀ er : Int, er ≠ 0 → ((((ItemD.zero, er) : ItemD × Int).2 ≠ 0 → ((ItemD.zero, er) : ItemD × Int).1 = .zero) ∧
      (((ItemD.zero, er) : ItemD × Int).2 = 0 → encItem ((ItemD.zero, er) : ItemD × Int).1.k ((ItemD.zero, er) : ItemD × Int).1.s ((ItemD.zero, er) : ItemD × Int).1.q ((ItemD.zero, er) : ItemD × Int).1.t ((ItemD.zero, er) : ItemD × Int).1.l ((ItemD.zero, er) : ItemD × Int).1.p ((ItemD.zero, er) : ItemD × Int).1.st ((ItemD.zero, er) : ItemD × Int).1.a ((ItemD.zero, er) : ItemD × Int).1.c = (bs, 0))) :=
    fun er h => ⟨fun _ => rfl, fun h' => absurd h' h⟩
  unfold decItem
  split
  · exact bad _ (by decide)
  · rename_i hlen
    split
    · exact bad _ (by decide)
    · rename_i b bs
      by_cases hb1 : b = 1
      · subst hb1
        rw [if_pos rfl]
        cases h : dataP (1 :: bs) 1 with
        | inl er => exact bad _ (by have := (dataP_bd _ _).1 _ h; omega)
        | inr x =>
          obtain ⟨⟨s, q, t, l⟩, nx⟩ := x
          obtain ⟨e, h1, h2, h3, h4, h5, h6⟩ := dataP_rev h
          simp only
          split
          · exact bad _ (by decide)
          · rename_i hnx
            rw [drop_len hnx, List.append_nil] at e
            refine ⟨fun h => absurd rfl h, fun _ => ?_⟩
            simp only
            unfold encItem
            rw [if_pos (by simp [itemB, datB, slotB, cntB]; omega)]
            simp only [if_true]
            rw [← e]
            rfl
      · rw [if_neg hb1]
        by_cases hb2 : b = 2
        · subst hb2
          rw [if_pos rfl]
          cases h0 : numP (2 :: bs) 1 1 4611686018427387904 with
          | inl er => exact bad _ (by have := numP_bad h0; omega)
          | inr x =>
            obtain ⟨p, p1⟩ := x
            simp only
            cases h1 : numP (2 :: bs) p1 0 ((p : Int) - 1) with
            | inl er => exact bad _ (by have := numP_bad h1; omega)
            | inr x =>
              obtain ⟨st, p2⟩ := x
              simp only
              cases h2 : numP (2 :: bs) p2 0 15 with
              | inl er => exact bad _ (by have := numP_bad h2; omega)
              | inr x =>
                obtain ⟨a, p3⟩ := x
                simp only
                cases h3 : numP (2 :: bs) p3 1 4611686018427387904 with
                | inl er => exact bad _ (by have := numP_bad h3; omega)
                | inr x =>
                  obtain ⟨c, p4⟩ := x
                  simp only
                  split
                  · exact bad _ (by decide)
                  · rename_i hnx
                    have e0 := numP_ok h0
                    have e1 := numP_ok h1
                    have e2 := numP_ok h2
                    have e3 := numP_ok h3
                    have e : (2 :: bs : List UInt8).drop 1 = pack [(p : Int), st, a, c] := by
                      rw [numP_rev h0, numP_rev h1, numP_rev h2, numP_rev h3, drop_len hnx]
                      simp [pack]
                    refine ⟨fun h => absurd rfl h, fun _ => ?_⟩
                    simp only
                    unfold encItem
                    rw [if_pos (by simp [itemB, datB, slotB, cntB, zdatB]; omega)]
                    simp only [show ¬ ((2 : Int) = 1) by decide, if_false]
                    rw [← e]
                    rfl
        · rw [if_neg hb2]
          exact bad _ (by decide)
end Go.Proofs.Ytjafmcahlmopiaa
