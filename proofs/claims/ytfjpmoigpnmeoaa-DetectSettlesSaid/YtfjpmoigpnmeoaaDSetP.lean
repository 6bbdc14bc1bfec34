/-
  DetectSettles, plainly.
-/
import Derived.Test.YtfjpmoigpnmeoaaDSilP
namespace Go.Proofs.Ytfjpmoigpnmeoaa

variable {c : Cfg} {d : DSt} {j : Nat} {inc last t wg : Int} {i : Nat}
/-- Node j, i ticks behind its last beat. -/
structure SetL (d : DSt) (j : Nat) (inc last t wg : Int) (i : Nat) : Prop where
  known : (d.pr j).known = inc
  last : (d.pr j).last = last
  tmo : (d.pr j).tmo = t
  wrong : (d.pr j).wrong = wg
  mutl : (d.pr j).mutl = true
  heard : (d.pr j).heard = decide ((i : Int) ≤ t)
  age : (d.pr j).heard = true → (d.pr j).age = (i : Int)
  left : d.left = false
theorem SetL.tick (h : SetL d j inc last t wg i) : SetL (tickD d) j inc last t wg (i + 1) := by
  obtain ⟨h1, h2, h3, h4, h5, h6, h7, h8⟩ := h
  have hp : (tickD d).pr j = tickP (d.pr j) := rfl
  cases hh : (d.pr j).heard with
  | false =>
    have e : tickP (d.pr j) = d.pr j := by simp [tickP, hh]
    rw [hh] at h6
    have h9 : ¬ ((i : Int) ≤ t) := of_decide_eq_false h6.symm
    exact ⟨by rw [hp, e, h1], by rw [hp, e, h2], by rw [hp, e, h3], by rw [hp, e, h4], by rw [hp, e, h5], by rw [hp, e, hh]; exact (decide_eq_false (by omega)).symm, fun h => (by rw [hp, e, hh] at h; cases h), h8⟩
  | true =>
    have e : tickP (d.pr j) = { d.pr j with age := (d.pr j).age + 1, heard := decide ((d.pr j).age + 1 ≤ (d.pr j).tmo) } := by simp [tickP, hh]
    have h9 := h7 hh
    refine ⟨by rw [hp, e]; exact h1, by rw [hp, e]; exact h2, by rw [hp, e]; exact h3, by rw [hp, e]; exact h4, by rw [hp, e]; exact h5, ?_, fun _ => ?_, h8⟩
    · rw [hp, e]
      simp only [h9, h3]
      rfl
    · rw [hp, e]
      simp only [h9]
      rfl
theorem set_hears (hs : j ≠ c.self) (h : SetL d j inc last t wg i) : hearsAt c d j = (if (i : Int) ≤ t then inc else 0) ∧ estAt c d j = (if (i : Int) ≤ t then inc else 0) := by
  constructor
  · rw [hearsAt, if_neg hs, h.heard, h.known]
    by_cases hi : (i : Int) ≤ t
    · rw [decide_eq_true hi, if_pos rfl, if_pos hi]
    · rw [decide_eq_false hi, if_neg (by simp), if_neg hi]
  · rw [estAt, if_neg hs, h.heard, h.known, h.mutl]
    by_cases hi : (i : Int) ≤ t
    · rw [decide_eq_true hi, if_pos ⟨rfl, rfl⟩, if_pos hi]
    · rw [decide_eq_false hi, if_neg (by simp), if_neg hi]
theorem set_start (hc : c.Ok) (hj : j < c.n) (hs : j ≠ c.self) (hi : 1 ≤ inc) (hm : inc ≤ 4611686018427387904) (ht : 0 ≤ last) (ht2 : last ≤ 4611686018427387904) :
    hearE c (DSt.new c) (j : Int) inc last (hearsZ c.n c.self c.inc) = 0 ∧ SetL (hearD c (DSt.new c) (j : Int) inc last (hearsZ c.n c.self c.inc)) j inc last c.base 0 0 := by
  have hcc := hc
  obtain ⟨_, _, h3, h4, h5, h6, h7, h8, h9, _⟩ := hcc
  have hf := fits_hz (inc := inc) hc hj hs c.inc last hi hm ht ht2 (by omega) h5
  have hk : ((DSt.new c).pr j).known = 0 := rfl
  have h0 : hearE c (DSt.new c) (j : Int) inc last (hearsZ c.n c.self c.inc) = 0 := by
    rw [hearE, if_neg (by rw [hf]; simp), Int.toNat_natCast, hk, if_neg (by omega), if_neg (by omega)]
  have h1 : (hearD c (DSt.new c) (j : Int) inc last (hearsZ c.n c.self c.inc)).pr j = beatP c false (Pr.new c) inc last true := by
    rw [hearD, if_pos h0, hearsZ_at _ h3]
    simp [beatD, DSt.new]
  have hkk : (Pr.new c).known < inc := by show (0 : Int) < inc; omega
  refine ⟨h0, ⟨?_, ?_, ?_, ?_, ?_, ?_, fun _ => ?_, ?_⟩⟩
  · rw [h1]; simp only [beatP]; rw [if_pos hkk]
  · rw [h1]; rfl
  · rw [h1]; simp only [beatP]; rw [if_pos hkk]; rfl
  · rw [h1]; simp only [beatP]; rw [if_pos hkk]; rfl
  · rw [h1]; rfl
  · rw [h1, decide_eq_true (by omega)]; rfl
  · rw [h1]; rfl
  · rw [hearD_left]; rfl
theorem set_beat (hc : c.Ok) (hj : j < c.n) (hs : j ≠ c.self) (h : SetL d j inc last t wg i) (hi : 1 ≤ inc) (hm : inc ≤ 4611686018427387904) (ht : 0 ≤ last) (ht2 : last + 1 ≤ 4611686018427387904) (ht1 : 0 ≤ t) :
    hearE c d (j : Int) inc (last + 1) (hearsZ c.n c.self c.inc) = 0 ∧
    (t < (i : Int) → SetL (hearD c d (j : Int) inc (last + 1) (hearsZ c.n c.self c.inc)) j inc (last + 1) (min c.lim (t + c.step)) (wg + 1) 0) ∧
    (¬ t < (i : Int) → SetL (hearD c d (j : Int) inc (last + 1) (hearsZ c.n c.self c.inc)) j inc (last + 1) t wg 0) := by
  have hcc := hc
  obtain ⟨_, _, h3, h4, h5, h6, h7, h8, h9, ha, hb⟩ := hcc
  have hf := fits_hz (inc := inc) hc hj hs c.inc (last + 1) hi hm (by omega) ht2 (by omega) h5
  have h0 : hearE c d (j : Int) inc (last + 1) (hearsZ c.n c.self c.inc) = 0 := by
    rw [hearE, if_neg (by rw [hf]; simp), Int.toNat_natCast, h.known, if_neg (by omega), h.last, if_neg (by omega)]
  have h1 : (hearD c d (j : Int) inc (last + 1) (hearsZ c.n c.self c.inc)).pr j = beatP c false (d.pr j) inc (last + 1) true := by
    rw [hearD, if_pos h0, hearsZ_at _ h3]
    simp [beatD, h.left]
  have hkk : ¬ (d.pr j).known < inc := by rw [h.known]; omega
  refine ⟨h0, fun hg => ?_, fun hg => ?_⟩
  · have hh : (d.pr j).heard = false := by rw [h.heard]; exact decide_eq_false (by omega)
    refine ⟨?_, ?_, ?_, ?_, ?_, ?_, fun _ => ?_, ?_⟩
    · rw [h1]; simp only [beatP]; rw [if_neg hkk, h.known]
    · rw [h1]; rfl
    · rw [h1]; simp only [beatP]; rw [if_neg hkk, if_pos ⟨hh, trivial⟩, h.tmo]
    · rw [h1]; simp only [beatP]; rw [if_neg hkk, if_pos ⟨hh, trivial⟩, h.wrong]
    · rw [h1]; rfl
    · rw [h1, decide_eq_true (by omega)]; rfl
    · rw [h1]; rfl
    · rw [hearD_left]; exact h.left
  · have hh : (d.pr j).heard = true := by rw [h.heard]; exact decide_eq_true (by omega)
    have hn : ¬ ((d.pr j).heard = false ∧ True) := by rw [hh]; simp
    refine ⟨?_, ?_, ?_, ?_, ?_, ?_, fun _ => ?_, ?_⟩
    · rw [h1]; simp only [beatP]; rw [if_neg hkk, h.known]
    · rw [h1]; rfl
    · rw [h1]; simp only [beatP]; rw [if_neg hkk, if_neg hn, h.tmo]
    · rw [h1]; simp only [beatP]; rw [if_neg hkk, if_neg hn, h.wrong]
    · rw [h1]; rfl
    · rw [h1, decide_eq_true (by omega)]; rfl
    · rw [h1]; rfl
    · rw [hearD_left]; exact h.left
/-- How the timeout and the count of the wrong suspicions go together. -/
def SInv (c : Cfg) (t wg : Int) : Prop := 0 ≤ wg ∧ 1 ≤ t ∧ t ≤ c.lim ∧ t = min c.lim (c.base + wg * c.step) ∧ (wg = 0 ∨ wg * c.step < c.lim - c.base + c.step)
theorem sinv_start (hc : c.Ok) : SInv c c.base 0 := by
  obtain ⟨_, _, h3, h4, h5, h6, h7, h8, h9, ha, hb⟩ := hc
  refine ⟨by omega, h8, h9, ?_, .inl rfl⟩
  rw [Int.zero_mul]; omega
theorem sinv_next (hc : c.Ok) (h : SInv c t wg) (hl : t < c.lim) : SInv c (min c.lim (t + c.step)) (wg + 1) := by
  obtain ⟨_, _, h3, h4, h5, h6, h7, h8, h9, ha, hb⟩ := hc
  obtain ⟨k1, k2, k3, k4, k5⟩ := h
  have e : (wg + 1) * c.step = wg * c.step + c.step := by rw [Int.add_mul, Int.one_mul]
  refine ⟨by omega, by omega, by omega, ?_, .inr ?_⟩
  · rw [e]; omega
  · rw [e]; omega
theorem sinv_end (hc : c.Ok) (h : SInv c t wg) : 0 ≤ wg * c.step ∧ wg * c.step < c.lim - c.base + c.step ∧ wg ≤ 128 := by
  obtain ⟨_, _, h3, h4, h5, h6, h7, h8, h9, ha, hb⟩ := hc
  obtain ⟨k1, k2, k3, k4, k5⟩ := h
  have hw : wg ≤ wg * c.step := by
    have := Int.mul_le_mul_of_nonneg_left ha k1
    omega
  rcases k5 with rfl | k5
  · rw [Int.zero_mul] at *
    exact ⟨by omega, by omega, by omega⟩
  · exact ⟨by omega, k5, by omega⟩
end Go.Proofs.Ytfjpmoigpnmeoaa
