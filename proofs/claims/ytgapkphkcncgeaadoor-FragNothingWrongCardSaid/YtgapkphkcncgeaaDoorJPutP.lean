/-
  The program's joiner behind a change of what is held of one sender.
-/
import Derived.Test.YtgapkphkcncgeaaDoorJPutR
namespace Go.Proofs.YtgapkphkcncgeaaDoor
open Go.RowKit
section
variable {w w3 : World} {F : Nat → Prop} {N J O : Nat} {st : JSt} {pg : Nat → Nat × Nat} {cs : Array Value}
def TurnP (O : Nat) (st : JSt) (pg : Nat → Nat × Nat) (s : Nat) (k : Nat) : Prop := k = O ∨ (st s ≠ [] ∧ (k = (pg s).1 ∨ k = (pg s).2))
/-- What of another sender is held stays. -/
theorem PJ.apart (h : PJ w F N J O st pg cs) {s : Nat} (hs : s < N) : ¬ TurnP O st pg s J ∧ ∀ t, t < N → t ≠ s → st t ≠ [] → ¬ TurnP O st pg s (pg t).1 ∧ ¬ TurnP O st pg s (pg t).2 := by
  have hJ := h.blk.isT
  have hO := h.list.isT
  refine ⟨?_, fun t ht hne hn => ⟨?_, ?_⟩⟩
  · rintro (e | ⟨hn, e | e⟩)
    · rw [e] at hJ; exact absurd (hJ.eq_ hO) (by decide)
    · rw [e] at hJ; exact absurd (hJ.eq_ (h.part s hs hn).isT) (by decide)
    · obtain ⟨c, hc, _⟩ := h.bytes s hs hn
      rw [e] at hJ; exact absurd (hJ.eq_ hc.isT) (by decide)
  · have hP := (h.part t ht hn).isT
    rintro (e | ⟨hn', e | e⟩)
    · rw [e] at hP; exact absurd (hP.eq_ hO) (by decide)
    · exact hne (h.sep t s ht hs hn hn' (.inl e))
    · obtain ⟨c, hc, _⟩ := h.bytes s hs hn'
      rw [e] at hP; exact absurd (hP.eq_ hc.isT) (by decide)
  · obtain ⟨c, hc, _⟩ := h.bytes t ht hn
    have hG := hc.isT
    rintro (e | ⟨hn', e | e⟩)
    · rw [e] at hG; exact absurd (hG.eq_ hO) (by decide)
    · rw [e] at hG; exact absurd (hG.eq_ (h.part s hs hn').isT) (by decide)
    · exact hne (h.sep t s ht hs hn hn' (.inr e))
def FOut (F : Nat → Prop) (w w' : World) (g k : Nat) : Prop := FNew F w w' k ∧ k ≠ g
theorem PJ.put (h : PJ w F N J O st pg cs) (hF : ∀ k, F k → k < w.heap.size) {s : Nat} (hs : s < N) {l : List (List UInt8)} {P G g : Nat} (hc : Chg (TurnP O st pg s) w w3)
    (hO : Blk w3 O 69 (cs.setIfInBounds s (if l = [] then .pointer none else .pointer (some ⟨P, 0, none⟩))))
    (hp : l ≠ [] → Blk w3 P 66 #[.int .i64 (cSize (l.headD []) : Int), .int .i64 (cSum (l.headD []) : Int), .slice (some ⟨G, 0, none⟩) (248 * l.length) (cSize (l.headD []))])
    (hb : l ≠ [] → ∃ cur, Blk w3 G 5 cur ∧ cur.size = cSize (l.headD []) ∧ cur.toList.take (248 * l.length) = bvs (blobS l))
    (hPG : l ≠ [] → ((st s ≠ [] ∧ P = (pg s).1) ∨ w.heap.size ≤ P) ∧ ((st s ≠ [] ∧ G = (pg s).2) ∨ w.heap.size ≤ G))
    (hg : g = w3.heap.size ∨ (l = [] ∧ IsT w3 5 g ∧ ((st s ≠ [] ∧ g = (pg s).2) ∨ w.heap.size ≤ g))) :
    PJx w3 (FOut F w w3 g) N J (upd st s l) ∧ Moved w w3 F (FOut F w w3 g) := by
  obtain ⟨aJ, aT⟩ := h.apart hs
  have hsz := hc.size
  have hJ3 := h.blk.chg hc aJ
  have hold : ∀ t, t < N → t ≠ s → st t ≠ [] → (pg t).1 < w.heap.size ∧ (pg t).2 < w.heap.size := fun t ht _ hn => by
    obtain ⟨c, hc, _⟩ := h.bytes t ht hn
    exact ⟨(h.part t ht hn).lt, hc.lt⟩
  have gne : ∀ k, k < w3.heap.size → (∀ t, IsT w3 t k → t ≠ 5) → (∃ t, IsT w3 t k) → k ≠ g := by
    intro k hk ht hx e
    subst e
    rcases hg with hg | ⟨_, hg, _⟩
    · omega
    · exact ht _ hg rfl
  have hlt3 : ∀ k, F k → k < w3.heap.size := fun k hk => Nat.lt_of_lt_of_le (hF k hk) hsz
  refine ⟨⟨fun k hk => ?_, O, updF pg s (P, G), cs.setIfInBounds s (if l = [] then .pointer none else .pointer (some ⟨P, 0, none⟩)), ?_⟩, ⟨fun k hk => ?_, ?_⟩⟩
  · rcases hk.1 with hk | hk
    · exact hlt3 k hk
    · exact hk.2
  · refine ⟨hJ3, hO, by rw [Array.size_setIfInBounds]; exact h.size, ?_, ?_, ?_, ?_, ⟨⟨.inl h.fj.1, ?_⟩, ⟨.inl h.fj.2, ?_⟩⟩, ?_⟩
    · intro t ht
      by_cases e : t = s
      · subst e
        rw [Array.getElem?_setIfInBounds_self_of_lt (by rw [h.size]; exact ht)]
        unfold openV
        rw [upd_same, updF_same]
      · rw [Array.getElem?_setIfInBounds_ne (by omega), h.at_ t ht]
        unfold openV
        rw [upd_other e, updF_other e]
    · intro t ht hn
      by_cases e : t = s
      · subst e
        rw [upd_same] at hn
        rw [updF_same, upd_same]
        exact hp hn
      · rw [upd_other e] at hn
        rw [updF_other e, upd_other e]
        exact (h.part t ht hn).chg hc (aT t ht e hn).1
    · intro t ht hn
      by_cases e : t = s
      · subst e
        rw [upd_same] at hn
        rw [updF_same, upd_same]
        exact hb hn
      · rw [upd_other e] at hn
        rw [updF_other e, upd_other e]
        obtain ⟨c, h1, h2, h3⟩ := h.bytes t ht hn
        exact ⟨c, h1.chg hc (aT t ht e hn).2, h2, h3⟩
    · intro t t' ht ht' hn hn' hor
      by_cases e : t = s
      · by_cases e' : t' = s
        · omega
        · subst e
          rw [upd_same] at hn
          rw [upd_other e'] at hn'
          rw [updF_same, updF_other e'] at hor
          have hl := hold t' ht' e' hn'
          obtain ⟨q1, q2⟩ := hPG hn
          rcases hor with hor | hor
          · rcases q1 with ⟨q, q1⟩ | q1
            · exact h.sep t t' ht ht' q hn' (.inl (q1.symm.trans hor))
            · simp only at hor; omega
          · rcases q2 with ⟨q, q2⟩ | q2
            · exact h.sep t t' ht ht' q hn' (.inr (q2.symm.trans hor))
            · simp only at hor; omega
      · by_cases e' : t' = s
        · subst e'
          rw [upd_same] at hn'
          rw [upd_other e] at hn
          rw [updF_same, updF_other e] at hor
          have hl := hold t ht e hn
          obtain ⟨q1, q2⟩ := hPG hn'
          rcases hor with hor | hor
          · rcases q1 with ⟨q, q1⟩ | q1
            · exact h.sep t t' ht ht' hn q (.inl (hor.trans q1))
            · simp only at hor; omega
          · rcases q2 with ⟨q, q2⟩ | q2
            · exact h.sep t t' ht ht' hn q (.inr (hor.trans q2))
            · simp only at hor; omega
        · rw [upd_other e] at hn
          rw [upd_other e'] at hn'
          rw [updF_other e, updF_other e'] at hor
          exact h.sep t t' ht ht' hn hn' hor
    · exact gne J hJ3.lt (fun t ht e => absurd ((ht.eq_ hJ3.isT).symm.trans e) (by decide)) ⟨_, hJ3.isT⟩
    · exact gne O hO.lt (fun t ht e => absurd ((ht.eq_ hO.isT).symm.trans e) (by decide)) ⟨_, hO.isT⟩
    · intro t ht hn
      by_cases e : t = s
      · subst e
        rw [upd_same] at hn
        rw [updF_same]
        obtain ⟨q1, q2⟩ := hPG hn
        obtain ⟨c, hcB, _⟩ := hb hn
        have hg' : g = w3.heap.size := by
          rcases hg with hg | ⟨hg, _⟩
          · exact hg
          · exact absurd hg hn
        have hP3 := (hp hn).lt
        have hG3 := hcB.lt
        refine ⟨⟨?_, by simp only; omega⟩, ⟨?_, by simp only; omega⟩⟩
        · rcases q1 with ⟨q, q1⟩ | q1
          · exact .inl (by simp only; rw [q1]; exact (h.fp t ht q).1)
          · exact .inr ⟨q1, hP3⟩
        · rcases q2 with ⟨q, q2⟩ | q2
          · exact .inl (by simp only; rw [q2]; exact (h.fp t ht q).2)
          · exact .inr ⟨q2, hG3⟩
      · rw [upd_other e] at hn
        rw [updF_other e]
        have hl := hold t ht e hn
        refine ⟨⟨.inl (h.fp t ht hn).1, ?_⟩, ⟨.inl (h.fp t ht hn).2, ?_⟩⟩
        · have hP3 := (h.part t ht hn).chg hc (aT t ht e hn).1
          exact gne _ hP3.lt (fun t ht e => absurd ((ht.eq_ hP3.isT).symm.trans e) (by decide)) ⟨_, hP3.isT⟩
        · intro eg
          rcases hg with hg | ⟨_, _, hg | hg⟩
          · omega
          · exact e (h.sep t s ht hs hn hg.1 (.inr (eg.trans hg.2)))
          · omega
  · rcases hk.1 with hk | hk
    · exact .inl hk
    · exact .inr hk.1
  · exact hc.mono fun k _ e => by
      rcases e with e | ⟨hn, e | e⟩
      · rw [e]; exact h.fj.2
      · rw [e]; exact (h.fp s hs hn).1
      · rw [e]; exact (h.fp s hs hn).2
end
end Go.Proofs.YtgapkphkcncgeaaDoor
