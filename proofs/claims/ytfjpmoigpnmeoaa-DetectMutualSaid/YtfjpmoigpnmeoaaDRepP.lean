/-
  DetectReplay, plainly.
-/
import Derived.Test.YtfjpmoigpnmeoaaDSilP
import Derived.Test.YtfjpmoigpnmeoaaDRepA
namespace Go.Proofs.Ytfjpmoigpnmeoaa

variable {c : Cfg} {d : DSt} {j : Nat} {q inc tk : Int}
/-- A beat that was taken once. -/
structure Kept (c : Cfg) (d : DSt) (q inc tk : Int) : Prop where
  other : otherB c q = true
  i1 : 1 ≤ inc
  i2 : inc ≤ 4611686018427387904
  age : inc < (d.pr q.toNat).known ∨ ((d.pr q.toNat).known = inc ∧ tk ≤ (d.pr q.toNat).last)
theorem tickP_known (p : Pr) : (tickP p).known = p.known ∧ (tickP p).last = p.last := by
  unfold tickP
  split <;> exact ⟨rfl, rfl⟩
theorem Kept.tick (h : Kept c d q inc tk) : Kept c (tickD d) q inc tk := by
  refine ⟨h.other, h.i1, h.i2, ?_⟩
  have hp : (tickD d).pr q.toNat = tickP (d.pr q.toNat) := rfl
  rw [hp, (tickP_known _).1, (tickP_known _).2]
  exact h.age
theorem hearE_zero' {hs : List Int} (h : hearE c d q inc tk hs = 0) : fits c q inc tk hs = true ∧ ¬ inc < (d.pr q.toNat).known ∧ ¬ (inc = (d.pr q.toNat).known ∧ tk ≤ (d.pr q.toNat).last) := by
  unfold hearE at h
  split at h
  · omega
  · rename_i hf
    split at h
    · omega
    · split at h
      · omega
      · rename_i h1 h2
        exact ⟨by simpa using hf, h1, h2⟩
theorem otherB_cast (h : otherB c q = true) : ((q.toNat : Nat) : Int) = q := by
  simp [otherB] at h
  omega
theorem hearD_at {hs : List Int} (h0 : hearE c d q inc tk hs = 0) (hq : ((q.toNat : Nat) : Int) = q) :
    ((hearD c d q inc tk hs).pr q.toNat).known = inc ∧ ((hearD c d q inc tk hs).pr q.toNat).last = tk := by
  have h1 : (hearD c d q inc tk hs).pr q.toNat = beatP c d.left (d.pr q.toNat) inc tk (hs.getD c.self 0 == c.inc) := by
    rw [hearD, if_pos h0]
    simp [beatD, hq]
  rw [h1]
  have := (hearE_zero' h0).2.1
  refine ⟨?_, rfl⟩
  simp only [beatP]
  split <;> omega
theorem hearD_off {hs : List Int} {k : Nat} (hk : (k : Int) ≠ q) : (hearD c d q inc tk hs).pr k = d.pr k := by
  unfold hearD
  split
  · simp [beatD, hk]
  · rfl
theorem Kept.heard (h : Kept c d q inc tk) (q' inc' tick' : Int) (hs : List Int) : Kept c (hearD c d q' inc' tick' hs) q inc tk := by
  refine ⟨h.other, h.i1, h.i2, ?_⟩
  have hq := otherB_cast h.other
  by_cases h0 : hearE c d q' inc' tick' hs = 0
  · by_cases he : q' = q
    · subst he
      obtain ⟨h1, h2⟩ := hearD_at h0 hq
      obtain ⟨_, h3, h4⟩ := hearE_zero' h0
      rw [h1, h2]
      have := h.age
      omega
    · rw [hearD_off (by omega)]
      exact h.age
  · rw [hearD, if_neg h0]
    exact h.age
theorem kept_new {hs : List Int} (h0 : hearE c d q inc tk hs = 0) : Kept c (hearD c d q inc tk hs) q inc tk := by
  obtain ⟨h1, h2, _, _⟩ := hearE_zero h0
  have hf := (hearE_zero' h0).1
  have ho : otherB c q = true := by
    rw [fits_eq] at hf
    simp at hf
    exact hf.1.1
  obtain ⟨e1, e2⟩ := hearD_at h0 (otherB_cast ho)
  exact ⟨ho, h1, h2, .inr ⟨e1, by rw [e2]; exact Int.le_refl _⟩⟩
theorem Kept.refused (hc : c.Ok) (h : Kept c d q inc tk) (ht : 0 ≤ tk) (ht2 : tk ≤ 4611686018427387904) :
    (hearE c d q inc tk (hearsZ c.n c.self c.inc) = 50 ∨ hearE c d q inc tk (hearsZ c.n c.self c.inc) = 51) ∧ hearD c d q inc tk (hearsZ c.n c.self c.inc) = d := by
  have hq := otherB_cast h.other
  have ho := h.other
  simp [otherB] at ho
  have hcc := hc
  obtain ⟨_, _, h3, h4, h5, _⟩ := hcc
  have hf := fits_hz (j := q.toNat) (inc := inc) hc (by omega) (by omega) c.inc tk h.i1 h.i2 ht ht2 (by omega) h5
  rw [hq] at hf
  have hE : hearE c d q inc tk (hearsZ c.n c.self c.inc) = 50 ∨ hearE c d q inc tk (hearsZ c.n c.self c.inc) = 51 := by
    unfold hearE
    rw [if_neg (by rw [hf]; simp)]
    rcases h.age with h1 | h1
    · exact .inl (if_pos h1)
    · right
      rw [if_neg (by omega), if_pos ⟨h1.1.symm, h1.2⟩]
  exact ⟨hE, by rw [hearD, if_neg (by omega)]⟩
theorem first_ok (hc : c.Ok) (h : otherB c q = true) (hk : 0 ≤ (d.pr q.toNat).known) (hi : (d.pr q.toNat).known < inc) (hm : inc ≤ 4611686018427387904) (v : Int) (hv : 0 ≤ v) (hv2 : v ≤ 1) (ht : 0 ≤ tk) (ht2 : tk ≤ 50) :
    hearE c d q inc tk (hearsZ c.n c.self v) = 0 := by
  have hq := otherB_cast h
  have ho := h
  simp [otherB] at ho
  have hf := fits_hz (j := q.toNat) (inc := inc) hc (by omega) (by omega) v tk (by omega) hm ht (by omega) hv (by omega)
  rw [hq] at hf
  rw [hearE, if_neg (by rw [hf]; simp), if_neg (by omega), if_neg (by omega)]
theorem and1_bd (E : Int) : 0 ≤ Go.bits .and .i64 E 1 ∧ Go.bits .and .i64 E 1 ≤ 1 := by
  have hx : (BitVec.ofInt 64 E &&& BitVec.ofInt 64 1).toNat ≤ 1 := by
    rw [BitVec.toNat_and]
    exact Nat.le_trans Nat.and_le_right (by decide)
  have e : Go.bits .and .i64 E 1 = IntKind.i64.wrap ((BitVec.ofInt 64 E &&& BitVec.ofInt 64 1).toNat : Int) := rfl
  rw [e]
  generalize (BitVec.ofInt 64 E &&& BitVec.ofInt 64 1).toNat = x at hx
  have : x = 0 ∨ x = 1 := by omega
  rcases this with rfl | rfl <;> decide
end Go.Proofs.Ytfjpmoigpnmeoaa
