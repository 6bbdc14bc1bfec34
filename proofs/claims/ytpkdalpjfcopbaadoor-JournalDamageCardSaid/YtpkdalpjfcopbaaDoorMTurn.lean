/-
  One byte of a journal's file turned: the head's sum, or the frame's, does not agree any more. No program text.
-/
import Derived.Test.YtpkdalpjfcopbaaDoorMTorn
namespace Go.Proofs.YtpkdalpjfcopbaaDoor
namespace Crc
theorem xor_z {a b : Nat} (h : a ^^^ b = 0) : a = b := by
  have h1 : a ^^^ (a ^^^ b) = a ^^^ 0 := by rw [h]
  rw [← Nat.xor_assoc, Nat.xor_self, Nat.zero_xor, Nat.xor_zero] at h1
  exact h1.symm
theorem bitStep_z {x : Nat} (hx : x < 4294967296) (h : bitStep x = 0) : x = 0 := by
  unfold bitStep at h
  split at h
  · have := xor_z h
    omega
  · omega
theorem steps_z (n : Nat) : ∀ {x : Nat}, x < 4294967296 → steps n x = 0 → x = 0 := by
  induction n with
  | zero => intro x _ h; exact h
  | succ n ih => intro x hx h; exact bitStep_z hx (ih (bitStep_lt hx) h)
theorem steps_inj (n : Nat) {a b : Nat} (ha : a < 4294967296) (hb : b < 4294967296) (h : steps n a = steps n b) : a = b := by
  refine xor_z (steps_z n (Nat.xor_lt_two_pow (n := 32) ha hb) ?_)
  rw [steps_xor, h, Nat.xor_self]
theorem xor_r {a b c : Nat} (h : a ^^^ c = b ^^^ c) : a = b := by
  have h1 : a ^^^ c ^^^ c = b ^^^ c ^^^ c := by rw [h]
  rwa [Nat.xor_assoc, Nat.xor_assoc, Nat.xor_self, Nat.xor_zero, Nat.xor_zero] at h1
theorem u8_lt (c : UInt8) : c.toNat < 4294967296 := by have := c.toNat_lt; omega
theorem byteStep_inj {a b : Nat} {c : UInt8} (ha : a < 4294967296) (hb : b < 4294967296) (h : byteStep a c.toNat = byteStep b c.toNat) : a = b :=
  xor_r (steps_inj 8 (Nat.xor_lt_two_pow (n := 32) ha (u8_lt c)) (Nat.xor_lt_two_pow (n := 32) hb (u8_lt c)) h)
theorem byteStep_inj' {a : Nat} {c d : UInt8} (ha : a < 4294967296) (h : byteStep a c.toNat = byteStep a d.toNat) : c = d := by
  have := steps_inj 8 (Nat.xor_lt_two_pow (n := 32) ha (u8_lt c)) (Nat.xor_lt_two_pow (n := 32) ha (u8_lt d)) h
  rw [Nat.xor_comm a, Nat.xor_comm a] at this
  exact UInt8.toNat_inj.1 (xor_r this)
theorem st_inj (l : List UInt8) : ∀ {a b : Nat}, a < 4294967296 → b < 4294967296 → st a l = st b l → a = b := by
  induction l with
  | nil => intro a b _ _ h; exact h
  | cons c l ih =>
    intro a b ha hb h
    exact byteStep_inj ha hb (ih (byteStep_lt ha c) (byteStep_lt hb c) h)
theorem crc_one {p q : List UInt8} {c d : UInt8} (h : crc (p ++ c :: q) = crc (p ++ d :: q)) : c = d := by
  have h1 := xor_r h
  rw [st_append, st_append, st_cons, st_cons] at h1
  have hp : st 4294967295 p < 4294967296 := st_lt p (by omega)
  exact byteStep_inj' hp (st_inj q (byteStep_lt hp c) (byteStep_lt hp d) h1)
/-- Another byte at one place: another sum. -/
theorem crc_set {l : List UInt8} {k : Nat} {c d : UInt8} (hk : l[k]? = some c) (hd : d ≠ c) : crc (l.set k d) ≠ crc l := fun h => by
  have hlt := (List.getElem?_eq_some_iff.1 hk).1
  have e : l = l.take k ++ c :: l.drop (k + 1) := by
    conv => lhs; rw [← List.take_append_drop k l]
    rw [List.drop_eq_getElem_cons hlt, (List.getElem?_eq_some_iff.1 hk).2]
  rw [List.set_eq_take_append_cons_drop, if_pos hlt] at h
  conv at h => rhs; rw [e]
  exact hd (crc_one h)
end Crc
theorem part_set_out {l : List UInt8} {p n k : Nat} {d : UInt8} (h : k < p ∨ p + n ≤ k) : part (l.set k d) p n = part l p n := by
  unfold part
  rw [List.drop_set]
  split
  · rfl
  · rw [List.take_set, List.set_eq_of_length_le]
    rw [List.length_take]
    omega
theorem part_set_in {l : List UInt8} {p n k : Nat} {d : UInt8} (h : p ≤ k) : part (l.set k d) p n = (part l p n).set (k - p) d := by
  unfold part
  rw [List.drop_set, if_neg (by omega), List.take_set]
theorem part_get {l : List UInt8} {p n k : Nat} (h : p ≤ k) (h2 : k < p + n) : (part l p n)[k - p]? = l[k]? := by
  unfold part
  rw [List.getElem?_take, if_pos (by omega), List.getElem?_drop]
  congr 1
  omega
theorem set_ne {l : List UInt8} {k : Nat} {c d : UInt8} (hk : l[k]? = some c) (hd : d ≠ c) : l.set k d ≠ l := fun h => by
  have hlt := (List.getElem?_eq_some_iff.1 hk).1
  have h1 : (l.set k d)[k]? = some d := by rw [List.getElem?_set_self hlt]
  rw [h, hk] at h1
  injection h1 with h1
  exact hd h1.symm
theorem numB_inj {l m : List UInt8} (h : l.length = m.length) (e : numB l = numB m) : l = m := by
  rw [← beN_numB l, ← beN_numB m, e, h]
/-- A byte of the head turned: the file does not count. -/
theorem headR_set {l : List UInt8} {k : Nat} {c d : UInt8} {x : Nat × Nat} (h : headR l = some x) (hk : l[k]? = some c) (hd : d ≠ c) (h18 : k < 18) : headR (l.set k d) = none := by
  have hs : numB (part l 14 4) = Crc.crc (part l 0 14) ∧ 18 ≤ l.length := by
    unfold headR at h
    split at h
    · rename_i hh
      exact ⟨hh.2.2.2.2.2, hh.1⟩
    · cases h
  unfold headR
  rw [if_neg]
  rintro ⟨_, _, _, _, _, h6⟩
  rcases Nat.lt_or_ge k 14 with h14 | h14
  · rw [part_set_out (.inl h14), part_set_in (Nat.zero_le _), hs.1] at h6
    exact Crc.crc_set (by rw [part_get (Nat.zero_le _) (by omega)]; exact hk) hd h6.symm
  · rw [part_set_out (p := 0) (.inr (by omega)), part_set_in h14, ← hs.1] at h6
    exact set_ne (by rw [part_get h14 (by omega)]; exact hk) hd (numB_inj (by simp) h6)
theorem list4t {Q : List UInt8} (h : Q.length = 4) : ∃ a b c e, Q = [a, b, c, e] := by
  match Q, h with
  | [a, b, c, e], _ => exact ⟨a, b, c, e, rfl⟩
theorem four_sum {a b c e : UInt8} (h : [a, b, c, e] = four (numB [a]) (numB [b, c])) : e = 165 ^^^ a ^^^ b ^^^ c := by
  have hb := b.toNat_lt
  have hc := c.toNat_lt
  have e2 : numB [b, c] / 256 = b.toNat := by
    simp only [numB, List.foldl_cons, List.foldl_nil]
    omega
  have e1 : numB [a] = a.toNat := by simp [numB]
  have e3 : UInt8.ofNat (numB [b, c]) = c := by
    apply UInt8.toNat_inj.1
    rw [UInt8.toNat_ofNat']
    simp only [numB, List.foldl_cons, List.foldl_nil]
    omega
  unfold four at h
  rw [e1, e2, e3, UInt8.ofNat_toNat, UInt8.ofNat_toNat] at h
  injection h with _ h
  injection h with _ h
  injection h with _ h
  injection h with h _
/-- The four bytes ahead of a body: one turned, they do not agree. -/
theorem four_set {Q : List UInt8} {j : Nat} {c d : UInt8} (hl : Q.length = 4) (h : Q = four (numB (part Q 0 1)) (numB (part Q 1 2))) (hj : Q[j]? = some c) (hd : d ≠ c) : Q.set j d ≠ four (numB (part (Q.set j d) 0 1)) (numB (part (Q.set j d) 1 2)) := fun h' => by
  obtain ⟨q0, q1, q2, q3, rfl⟩ := list4t hl
  have h0 := four_sum h
  have hj4 : j < 4 := (List.getElem?_eq_some_iff.1 hj).1
  rcases (by omega : j = 0 ∨ j = 1 ∨ j = 2 ∨ j = 3) with rfl | rfl | rfl | rfl
  · injection hj with hj
    have h1 := four_sum (a := d) (b := q1) (c := q2) (e := q3) h'
    rw [h0] at h1
    subst hj
    exact hd (by simpa using h1.symm)
  · injection hj with hj
    have h1 := four_sum (a := q0) (b := d) (c := q2) (e := q3) h'
    rw [h0] at h1
    subst hj
    exact hd (by simpa using h1.symm)
  · injection hj with hj
    have h1 := four_sum (a := q0) (b := q1) (c := d) (e := q3) h'
    rw [h0] at h1
    subst hj
    exact hd (by simpa using h1.symm)
  · injection hj with hj
    have h1 := four_sum (a := q0) (b := q1) (c := q2) (e := d) h'
    subst hj
    exact hd (h1.trans h0.symm)
/-- A byte of a frame turned: no record begins there. -/
theorem nextR_set {l : List UInt8} {p k : Nat} {c d : UInt8} {r : Rc} (h4 : 4 ≤ p) (h : nextR l p = some r) (hk : l[k]? = some c) (hd : d ≠ c) (h1 : p ≤ k) (h2 : k < p + 8 + r.body.length) : nextR (l.set k d) p = none := by
  have hs : r.body.length = bodyLen l p ∧ p + 8 + bodyLen l p ≤ l.length ∧ part l p 4 = four (numB (part l p 1)) (bodyLen l p) ∧ numB (part l (p + 4 + bodyLen l p) 4) = Crc.crc (part l (p - 4) 4 ++ part l p (4 + bodyLen l p)) := by
    unfold nextR at h
    split at h
    · rename_i hh
      injection h with h
      subst h
      exact ⟨part_length (by omega), hh.1, hh.2.2.1, hh.2.2.2.2.2⟩
    · cases h
  obtain ⟨hb, hlen, hf, hc⟩ := hs
  rw [hb] at h2
  unfold nextR
  rw [if_neg]
  rintro ⟨_, _, g3, _, _, g6⟩
  have ea : ∀ m : List UInt8, part m p 1 = part (part m p 4) 0 1 := fun m => (part_part' (l := m) (p := p) (n := 4) (a := 0) (b := 1) (by omega)).symm
  have eb : ∀ m : List UInt8, bodyLen m p = numB (part (part m p 4) 1 2) := fun m => by rw [part_part' (l := m) (p := p) (n := 4) (a := 1) (b := 2) (by omega)]; rfl
  rcases Nat.lt_or_ge k (p + 4) with hk4 | hk4
  · rw [ea, eb] at hf g3
    rw [part_set_in h1] at g3
    exact four_set (part_length (by omega)) hf (by rw [part_get h1 hk4]; exact hk) hd g3
  · have eL : bodyLen (l.set k d) p = bodyLen l p := by rw [eb, eb, part_set_out (.inr hk4)]
    rw [eL, part_set_out (p := p - 4) (.inr (by omega))] at g6
    rcases Nat.lt_or_ge k (p + 4 + bodyLen l p) with hk5 | hk5
    · rw [part_set_out (.inl hk5), part_set_in h1, hc] at g6
      have e : part l (p - 4) 4 ++ (part l p (4 + bodyLen l p)).set (k - p) d = (part l (p - 4) 4 ++ part l p (4 + bodyLen l p)).set (4 + (k - p)) d := by
        rw [List.set_append_right _ _ (by rw [part_length (by omega)]; omega), part_length (by omega), Nat.add_sub_cancel_left]
      rw [e] at g6
      refine Crc.crc_set ?_ hd g6.symm
      rw [List.getElem?_append_right (by rw [part_length (by omega)]; omega), part_length (by omega), Nat.add_sub_cancel_left, part_get h1 (by omega)]
      exact hk
    · rw [part_set_in hk5, part_set_out (p := p) (.inr (by omega)), ← hc] at g6
      exact set_ne (by rw [part_get hk5 (by omega)]; exact hk) hd (numB_inj (by simp) g6)
end Go.Proofs.YtpkdalpjfcopbaaDoor
