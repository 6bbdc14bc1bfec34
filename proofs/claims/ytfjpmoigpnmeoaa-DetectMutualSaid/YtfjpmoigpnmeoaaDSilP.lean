/-
  DetectSilent, plainly.
-/
import Derived.Test.YtfjpmoigpnmeoaaDOut3
namespace Go.Proofs.Ytfjpmoigpnmeoaa

variable {c : Cfg} {d : DSt} {j : Nat} {inc t wg : Int} {i : Nat}
/-- Node j, i ticks behind the last beat that was taken. -/
structure Sil (d : DSt) (j : Nat) (inc t wg : Int) (i : Nat) : Prop where
  known : (d.pr j).known = inc
  last : (d.pr j).last = 5
  tmo : (d.pr j).tmo = t
  wrong : (d.pr j).wrong = wg
  mutl : (d.pr j).mutl = true
  age : (d.pr j).heard = true → (d.pr j).age = (i : Int) ∧ (i : Int) ≤ t
  left : d.left = false
theorem Sil.tick (h : Sil d j inc t wg i) : Sil (tickD d) j inc t wg (i + 1) := by
  obtain ⟨h1, h2, h3, h4, h5, h6, h7⟩ := h
  have hp : (tickD d).pr j = tickP (d.pr j) := rfl
  cases hh : (d.pr j).heard with
  | false =>
    have e : tickP (d.pr j) = d.pr j := by simp [tickP, hh]
    exact ⟨by rw [hp, e, h1], by rw [hp, e, h2], by rw [hp, e, h3], by rw [hp, e, h4], by rw [hp, e, h5], fun h => (by rw [hp, e, hh] at h; cases h), h7⟩
  | true =>
    have e : tickP (d.pr j) = { d.pr j with age := (d.pr j).age + 1, heard := decide ((d.pr j).age + 1 ≤ (d.pr j).tmo) } := by simp [tickP, hh]
    obtain ⟨h8, h9⟩ := h6 hh
    refine ⟨by rw [hp, e]; exact h1, by rw [hp, e]; exact h2, by rw [hp, e]; exact h3, by rw [hp, e]; exact h4, by rw [hp, e]; exact h5, fun h => ?_, h7⟩
    rw [hp, e] at h ⊢
    simp only [decide_eq_true_eq] at h ⊢
    omega
theorem fits_hz (_hc : c.Ok) (hj : j < c.n) (hs : j ≠ c.self) (v tick : Int) (hi : 1 ≤ inc) (hi2 : inc ≤ 4611686018427387904) (ht : 0 ≤ tick) (ht2 : tick ≤ 4611686018427387904) (hv : 0 ≤ v) (hv2 : v ≤ 4611686018427387904) : fits c (j : Int) inc tick (hearsZ c.n c.self v) = true := by
  rw [fits_eq, validB, hearsZ_len, hearsZ_all _ _ _ hv hv2]
  have ho : otherB c (j : Int) = true := by simp [otherB]; omega
  rw [ho, decide_eq_true (show 1 ≤ inc ∧ inc ≤ 4611686018427387904 from ⟨hi, hi2⟩), decide_eq_true (show 0 ≤ tick ∧ tick ≤ 4611686018427387904 from ⟨ht, ht2⟩)]
  simp
theorem sil_start (hc : c.Ok) (hj : j < c.n) (hs : j ≠ c.self) (hl : d.left = false) (hk : 0 ≤ (d.pr j).known) (hm : (d.pr j).known + 1 ≤ 4611686018427387904) (ht : 1 ≤ (d.pr j).tmo) :
    hearE c d (j : Int) ((d.pr j).known + 1) 5 (hearsZ c.n c.self c.inc) = 0 ∧ Sil (hearD c d (j : Int) ((d.pr j).known + 1) 5 (hearsZ c.n c.self c.inc)) j ((d.pr j).known + 1) (d.pr j).tmo (d.pr j).wrong 0 ∧
    (hearD c d (j : Int) ((d.pr j).known + 1) 5 (hearsZ c.n c.self c.inc)).pr j = beatP c false (d.pr j) ((d.pr j).known + 1) 5 true := by
  have hcc := hc
  obtain ⟨_, _, h3, h4, h5, _⟩ := hcc
  have hf := fits_hz (inc := (d.pr j).known + 1) hc hj hs c.inc 5 (by omega) hm (by omega) (by omega) (by omega) h5
  have h0 : hearE c d (j : Int) ((d.pr j).known + 1) 5 (hearsZ c.n c.self c.inc) = 0 := by
    rw [hearE, if_neg (by rw [hf]; simp), Int.toNat_natCast, if_neg (by omega), if_neg (by omega)]
  have h1 : (hearD c d (j : Int) ((d.pr j).known + 1) 5 (hearsZ c.n c.self c.inc)).pr j = beatP c false (d.pr j) ((d.pr j).known + 1) 5 true := by
    rw [hearD, if_pos h0, hearsZ_at _ h3]
    simp [beatD, hl]
  refine ⟨h0, ⟨?_, ?_, ?_, ?_, ?_, fun _ => ⟨?_, ?_⟩, ?_⟩, h1⟩
  · rw [h1]; simp only [beatP]; rw [if_pos (by omega)]
  · rw [h1]; rfl
  · rw [h1]; simp only [beatP]; rw [if_pos (by omega)]
  · rw [h1]; simp only [beatP]; rw [if_pos (by omega)]
  · rw [h1]; rfl
  · rw [h1]; rfl
  · simp only [Int.natCast_zero]; omega
  · rw [hearD_left]; exact hl
theorem sil_first (hs : j ≠ c.self) {kn : Int} (_hk : 0 ≤ kn) {p : Pr} (hp : p.known = kn) (h : d.pr j = beatP c false p (kn + 1) 5 true) : hearsAt c d j = kn + 1 ∧ estAt c d j = kn + 1 ∧ susp c d j = false := by
  have h1 : (d.pr j).heard = true := by rw [h]; rfl
  have h2 : (d.pr j).mutl = true := by rw [h]; rfl
  have h3 : (d.pr j).known = kn + 1 := by rw [h]; simp only [beatP]; rw [if_pos (by omega)]
  refine ⟨?_, ?_, ?_⟩
  · rw [hearsAt, if_neg hs, if_pos h1, h3]
  · rw [estAt, if_neg hs, if_pos ⟨h1, h2⟩, h3]
  · simp [susp, h1]
theorem sil_stale (hc : c.Ok) (hj : j < c.n) (hs : j ≠ c.self) (h : Sil d j inc t wg i) (hi : 1 ≤ inc) (hi2 : inc ≤ 4611686018427387904) (tk : Int) (h0 : 0 ≤ tk) (h5 : tk ≤ 5) :
    hearE c d (j : Int) inc tk (hearsZ c.n c.self c.inc) = 51 ∧ hearD c d (j : Int) inc tk (hearsZ c.n c.self c.inc) = d := by
  have hcc := hc
  obtain ⟨_, _, h3, h4, h5', _⟩ := hcc
  have hf := fits_hz (inc := inc) hc hj hs c.inc tk hi hi2 h0 (by omega) (by omega) h5'
  have h51 : hearE c d (j : Int) inc tk (hearsZ c.n c.self c.inc) = 51 := by
    rw [hearE, if_neg (by rw [hf]; simp), Int.toNat_natCast, h.known, if_neg (by omega), h.last, if_pos ⟨rfl, by omega⟩]
  exact ⟨h51, by rw [hearD, h51, if_neg (by omega)]⟩
theorem sil_unheard (h : Sil d j inc t wg i) (hi : t < (i : Int)) : (d.pr j).heard = false := by
  cases hh : (d.pr j).heard with
  | false => rfl
  | true => have := (h.age hh).2; omega
theorem sil_gone (hs : j ≠ c.self) (h : Sil d j inc t wg i) (hi : t < (i : Int)) (hk : 1 ≤ inc) : hearsAt c d j = 0 ∧ estAt c d j = 0 ∧ susp c d j = true := by
  have hh := sil_unheard h hi
  refine ⟨?_, ?_, ?_⟩
  · rw [hearsAt, if_neg hs, if_neg (by rw [hh]; simp)]
  · rw [estAt, if_neg hs, if_neg (by rw [hh]; simp)]
  · simp [susp, hs, hh, h.known]; omega
theorem sil_last (hc : c.Ok) (hj : j < c.n) (hs : j ≠ c.self) (h : Sil d j inc t wg i) (ht : t < (i : Int)) (hi : 1 ≤ inc) (hi2 : inc ≤ 4611686018427387904) :
    hearE c d (j : Int) inc 6 (hearsZ c.n c.self 0) = 0 ∧ hearsAt c (hearD c d (j : Int) inc 6 (hearsZ c.n c.self 0)) j = inc ∧ estAt c (hearD c d (j : Int) inc 6 (hearsZ c.n c.self 0)) j = 0 ∧ susp c (hearD c d (j : Int) inc 6 (hearsZ c.n c.self 0)) j = false ∧
    ((hearD c d (j : Int) inc 6 (hearsZ c.n c.self 0)).pr j).wrong = wg + 1 := by
  have hcc := hc
  obtain ⟨_, _, h3, h4, h5', _⟩ := hcc
  have hh := sil_unheard h ht
  have hf := fits_hz (inc := inc) hc hj hs 0 6 hi hi2 (by omega) (by omega) (by omega) (by omega)
  have h0 : hearE c d (j : Int) inc 6 (hearsZ c.n c.self 0) = 0 := by
    rw [hearE, if_neg (by rw [hf]; simp), Int.toNat_natCast, h.known, if_neg (by omega), h.last, if_neg (by omega)]
  have hb : ((0 : Int) == c.inc) = false := by simp; omega
  have hp : (hearD c d (j : Int) inc 6 (hearsZ c.n c.self 0)).pr j = beatP c false (d.pr j) inc 6 false := by
    rw [hearD, if_pos h0, hearsZ_at _ h3, hb]
    simp [beatD, h.left]
  have hkk : ¬ (d.pr j).known < inc := by rw [h.known]; omega
  refine ⟨h0, ?_, ?_, ?_, ?_⟩
  · rw [hearsAt, if_neg hs, hp, if_pos (show (beatP c false (d.pr j) inc 6 false).heard = true from rfl)]
    simp only [beatP]; rw [if_neg hkk, h.known]
  · rw [estAt, if_neg hs, hp, if_neg (by rintro ⟨_, h⟩; cases h)]
  · simp [susp, hp, beatP]
  · rw [hp]; simp only [beatP]; rw [if_neg hkk, if_pos ⟨hh, trivial⟩, h.wrong]
end Go.Proofs.Ytfjpmoigpnmeoaa
