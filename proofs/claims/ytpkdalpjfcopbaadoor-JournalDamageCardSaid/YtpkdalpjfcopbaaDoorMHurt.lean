/-
  A journal's file damaged: one byte turned or its end cut off: what is told of it; what is given of such a disk. No program text.
-/
import Derived.Test.YtpkdalpjfcopbaaDoorMTurn
import Derived.Test.YtpkdalpjfcopbaaDoorMBook
import Derived.Test.YtpkdalpjfcopbaaDoorMEach
namespace Go.Proofs.YtpkdalpjfcopbaaDoor
/-- Damaged at a place. -/
def Hurt (b b' : List UInt8) (m : Nat) : Prop := b' = b.take m ∨ ∃ c d, b[m]? = some c ∧ d ≠ c ∧ b' = b.set m d
theorem addB_app (l m : List Rc) : ∀ b, addB b (l ++ m) = addB (addB b l) m := by
  induction l with
  | nil => intro b; rfl
  | cons r l ih => intro b; exact ih _
theorem readR_hurt {g c m : Nat} {l : List Rc} {b' : List UInt8} (hg : 1 ≤ g ∧ g ≤ 4611686018427387904) (hc : c < 4294967296) (hl : ∀ r ∈ l, r.ok = true) (h2 : (textB g c l).length ≤ 65536) (hm : m < (textB g c l).length) (h : Hurt (textB g c l) b' m) :
    (m < 18 ∧ readR b' = none) ∨ (∃ i r, l[i]? = some r ∧ 18 + bodies (l.take i) ≤ m ∧ m < 18 + bodies (l.take i) + (8 + r.body.length) ∧ readR b' = some ⟨g, c, l.take i, 18 + bodies (l.take i)⟩) := by
  have hlen : (textB g c l).length = 18 + bodies l := textB_length _ _ _
  rcases Nat.lt_or_ge m 18 with h18 | h18
  · refine .inl ⟨h18, ?_⟩
    rcases h with rfl | ⟨x, d, hx, hd, rfl⟩
    · exact readR_low (by rw [List.length_take]; omega)
    · have hh : headR (textB g c l) = some (g, c) := by
        obtain ⟨t, ht⟩ := addB_front l (headB g c)
        refine headR_of ?_ (by omega) h2 hg hc
        rw [textB, ht, List.take_left' (headB_length g c)]
      unfold readR
      rw [headR_set hh hx hd h18]
  · obtain ⟨i, r, k, e1, e2, e3, e4⟩ := take_text g c m l hm h18
    have hr := hl r (List.mem_of_getElem? e1)
    have hli : ∀ x ∈ l.take i, x.ok = true := fun x hx => hl x (List.mem_of_mem_take hx)
    have hT : (textB g c (l.take i)).length = 18 + bodies (l.take i) := textB_length _ _ _
    refine .inr ⟨i, r, e1, by omega, by omega, ?_⟩
    rw [← hT]
    rcases h with rfl | ⟨x, d, hx, hd, rfl⟩
    · rw [e3]
      exact readR_frame hg hc hli hr e2 (by omega)
    · have hi := (List.getElem?_eq_some_iff.1 e1).1
      have hdr : l.drop i = r :: l.drop (i + 1) := by rw [List.drop_eq_getElem_cons hi, (List.getElem?_eq_some_iff.1 e1).2]
      have hb : ∃ t, textB g c l = textB g c (l.take i) ++ (frameB (last4 (textB g c (l.take i))) r ++ t) := by
        obtain ⟨t, ht⟩ := addB_front (l.drop (i + 1)) (textB g c (l.take i) ++ frameB (last4 (textB g c (l.take i))) r)
        refine ⟨t, ?_⟩
        conv => lhs; rw [textB, ← List.take_append_drop i l, addB_app, hdr]
        show addB (textB g c (l.take i) ++ frameB (last4 (textB g c (l.take i))) r) (l.drop (i + 1)) = _
        rw [ht, List.append_assoc]
      obtain ⟨t, ht⟩ := hb
      have hnx : nextR (textB g c l) (textB g c (l.take i)).length = some r := by
        refine nextR_of (by omega) ?_ ?_ hr
        · rw [ht, List.length_append, List.length_append, frameB_length]
          omega
        · rw [ht, part_at (Nat.le_refl _), Nat.sub_self, List.take_left' rfl]
          exact part_whole (by rw [frameB_length])
      have hns := nextR_set (by omega) hnx hx hd (by omega) (by omega)
      have es : (textB g c l).set m d = textB g c (l.take i) ++ (frameB (last4 (textB g c (l.take i))) r ++ t).set (m - (textB g c (l.take i)).length) d := by
        rw [ht, List.set_append_right _ _ (by omega)]
      rw [es] at hns ⊢
      refine readR_torn hg hc hli hns ?_
      rw [← es, List.length_set]
      exact h2
/-- A disk with other bytes in one of its files. -/
def Fls.withN (f : Fls) (k : Nat) (b : List UInt8) : Fls := if k = 0 then { f with a := b } else { f with b := b }
theorem soundR_none {b : List UInt8} (h : readR b = none) : soundR b = none := by unfold soundR; rw [h]; rfl
theorem pick_with {f : Fls} {k : Nat} {b : List UInt8} (h : soundR b = none) : pickR (f.withN k b) = pickR (f.withN k []) := by
  have h0 : soundR [] = none := soundR_none (readR_low (by simp))
  by_cases hk : k = 0
  · simp only [Fls.withN, pickR, if_pos hk, h, h0]
  · simp only [Fls.withN, pickR, if_neg hk, h, h0]
theorem pick_take {f : Fls} {j : JP} {b : List UInt8} {x : Fi} (hG : Good f j) (h : soundR b = some x) (hx : x.gen = j.gen) : ∃ k, pickR (f.withN j.file b) = some (k, x) := by
  have ho := hG.half.oth
  have hk := hG.half.k1
  unfold Fls.withN pickR
  rcases (by omega : j.file = 0 ∨ j.file = 1) with e | e
  · rw [e] at ho ⊢
    simp only [if_true, h]
    cases hb : soundR f.b with
    | none => exact ⟨_, rfl⟩
    | some y =>
      have := ho y hb
      dsimp only [JP.fi] at this
      dsimp only
      rw [if_neg (by omega)]
      exact ⟨_, rfl⟩
  · rw [e] at ho ⊢
    simp only [Nat.one_ne_zero, if_false, h]
    cases ha : soundR f.a with
    | none => exact ⟨_, rfl⟩
    | some y =>
      have := ho y ha
      dsimp only [JP.fi] at this
      dsimp only
      rw [if_pos (by omega)]
      exact ⟨_, rfl⟩
/-- THE PLAIN LAW: what is given behind a damage. -/
theorem give_hurt {f : Fls} {j : JP} {b' : List UInt8} {m : Nat} (hG : Good f j) (hm : m < j.text.length) (h : Hurt j.text b' m) :
    (m < 18 ∧ giveR (f.withN j.file b') = giveR (f.withN j.file [])) ∨ (∃ i r, j.recs[i]? = some r ∧ 18 + bodies (j.recs.take i) ≤ m ∧ m < 18 + bodies (j.recs.take i) + (8 + r.body.length) ∧ (i < j.count → giveR (f.withN j.file b') = giveR (f.withN j.file [])) ∧ (j.count ≤ i → giveR (f.withN j.file b') = j.recs.take i)) := by
  have same : soundR b' = none → giveR (f.withN j.file b') = giveR (f.withN j.file []) := fun h => by
    unfold giveR
    rw [pick_with h]
  rcases readR_hurt hG.fine.gen hG.fine.count hG.fine.ok hG.fine.len hm h with ⟨h18, hr⟩ | ⟨i, r, e1, e2, e3, hr⟩
  · exact .inl ⟨h18, same (soundR_none hr)⟩
  · have hi := (List.getElem?_eq_some_iff.1 e1).1
    have hlt : (j.recs.take i).length = i := by rw [List.length_take]; omega
    refine .inr ⟨i, r, e1, e2, e3, fun hlo => same ?_, fun hhi => ?_⟩
    · unfold soundR
      rw [hr]
      simp only [Option.filter, Fi.sound, hlt]
      rw [if_neg]
      simp
      omega
    · have hs : soundR b' = some ⟨j.gen, j.count, j.recs.take i, 18 + bodies (j.recs.take i)⟩ := by
        unfold soundR
        rw [hr]
        simp only [Option.filter, Fi.sound, hlt]
        rw [if_pos]
        simpa using hhi
      obtain ⟨k, hp⟩ := pick_take hG hs rfl
      unfold giveR
      rw [hp]
end Go.Proofs.YtpkdalpjfcopbaaDoor
