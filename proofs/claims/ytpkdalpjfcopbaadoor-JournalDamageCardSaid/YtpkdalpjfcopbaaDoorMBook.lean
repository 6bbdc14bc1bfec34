/-
  The journal's disk between two commits: plain law. No program text.
-/
import Derived.Test.YtpkdalpjfcopbaaDoorMTorn
namespace Go.Proofs.YtpkdalpjfcopbaaDoor
/-- One file counts; the other, if it is sound, is older. -/
structure Half (f : Fls) (k : Nat) (x : Fi) : Prop where
  k1 : k ≤ 1
  rd : readR (f.nth k) = some x
  snd : x.count ≤ x.recs.length
  oth : ∀ y, soundR (f.nth (1 - k)) = some y → y.gen < x.gen
  la : f.a.length ≤ 65536 ∧ f.b.length ≤ 65536
  od : 18 ≤ (f.nth (1 - k)).length → numB (part (f.nth (1 - k)) 3 7) ≠ x.gen
/-- What the present file tells. -/
def JP.fi (j : JP) : Fi := ⟨j.gen, j.count, j.recs, j.text.length⟩
/-- The journal's disk when all its writes are made. -/
structure Good (f : Fls) (j : JP) : Prop where
  half : Half f j.file j.fi
  text : f.nth j.file = j.text
  fine : j.Fine
theorem Half.sound {f : Fls} {k : Nat} {x : Fi} (h : Half f k x) : soundR (f.nth k) = some x := by
  unfold soundR
  rw [h.rd]
  simp [Option.filter, Fi.sound, h.snd]
theorem nth_0 (f : Fls) : f.nth 0 = f.a := rfl
theorem nth_1 (f : Fls) : f.nth 1 = f.b := rfl
theorem Half.pick {f : Fls} {k : Nat} {x : Fi} (h : Half f k x) : pickR f = some (k, x) := by
  have h1 := h.sound
  have h2 := h.oth
  rcases Nat.lt_or_ge k 1 with hk | hk
  · obtain rfl : k = 0 := by omega
    rw [nth_0] at h1
    rw [Nat.sub_zero, nth_1] at h2
    unfold pickR
    rw [h1]
    cases hb : soundR f.b with
    | none => rfl
    | some y =>
      have := h2 y hb
      dsimp only
      rw [if_neg (by omega)]
  · obtain rfl : k = 1 := by have := h.k1; omega
    rw [nth_1] at h1
    rw [Nat.sub_self, nth_0] at h2
    unfold pickR
    rw [h1]
    cases ha : soundR f.a with
    | none => rfl
    | some y =>
      have := h2 y ha
      dsimp only
      rw [if_pos (by omega)]
theorem put_nth {f : Fls} {i : Nat} (hi : i ≤ 1) (l : List UInt8) : (f.put (i : Int) l).nth i = l ∧ (f.put (i : Int) l).nth (1 - i) = f.nth (1 - i) := by
  rcases Nat.lt_or_ge i 1 with h | h
  · obtain rfl : i = 0 := by omega
    exact ⟨rfl, rfl⟩
  · obtain rfl : i = 1 := by omega
    exact ⟨rfl, rfl⟩
theorem put_la {f : Fls} (h : f.a.length ≤ 65536 ∧ f.b.length ≤ 65536) (i : Int) {l : List UInt8} (hl : l.length ≤ 65536) : (f.put i l).a.length ≤ 65536 ∧ (f.put i l).b.length ≤ 65536 := by
  unfold Fls.put
  split
  · exact ⟨hl, h.2⟩
  · exact ⟨h.1, hl⟩
theorem get_nth (f : Fls) {i : Nat} (hi : i ≤ 1) : f.get (i : Int) = f.nth i := by
  rcases Nat.lt_or_ge i 1 with h | h
  · obtain rfl : i = 0 := by omega
    rfl
  · obtain rfl : i = 1 := by omega
    rfl
theorem ok_nat {i : Nat} (hi : i ≤ 1) (b : Bool) (l : List UInt8) : (⟨(i : Int), b, l⟩ : Wr).ok = true := by
  simp only [Wr.ok, decide_eq_true_eq]
  omega
theorem cost_start {i : Nat} (hi : i ≤ 1) (l : List UInt8) : costW [⟨(i : Int), true, l⟩] = 1 + l.length := by
  simp [costW, Wr.cost, ok_nat hi]
theorem cost_more {i : Nat} (hi : i ≤ 1) (l : List UInt8) : costW [⟨(i : Int), false, l⟩] = l.length := by
  simp [costW, Wr.cost, ok_nat hi]
/-- A file begun, of its units m. -/
theorem ap_start {i : Nat} (hi : i ≤ 1) (l : List UInt8) (f : Fls) (m : Nat) : apR [⟨(i : Int), true, l⟩] m f = if m = 0 then f else f.put (i : Int) (l.take (m - 1)) := by
  unfold apR
  rw [if_pos (ok_nat hi _ _)]
  by_cases h : m = 0
  · rw [if_pos ⟨rfl, h⟩, if_pos h]
  · rw [if_neg (fun e => h e.2), if_neg h]
    have e : (f.put (i : Int) []).get (i : Int) = [] := Fls.get_put _ _ _
    simp only [if_true, e, List.nil_append, Fls.put_put, apR]
    split <;> rfl
theorem ap_more {i : Nat} (hi : i ≤ 1) (l : List UInt8) (f : Fls) (m : Nat) : apR [⟨(i : Int), false, l⟩] m f = f.put (i : Int) (f.get (i : Int) ++ l.take m) := by
  unfold apR
  rw [if_pos (ok_nat hi _ _), if_neg (fun e => by simp at e)]
  simp [apR]
theorem apD_torn (ws : List Wr) (f : Fls) {m : Int} (h : 0 ≤ m) : apD ws m f = apR ws m.toNat f := by
  unfold apD
  rw [if_neg (by omega)]
theorem apD_full (ws : List Wr) (f : Fls) {m : Int} (h : m < 0 ∨ (costW ws : Int) ≤ m) : apD ws m f = apR ws (costW ws) f := by
  unfold apD
  rw [apR_all ws (costW ws) f (Nat.le_refl _)]
  split
  · rfl
  · exact apR_all ws _ f (by omega)
theorem take_all' (l : List UInt8) (n : Nat) (h : l.length ≤ n) : l.take n = l := List.take_of_length_le h
/-- The other file's beginning, torn. -/
theorem text_gen {g c m : Nat} {l : List Rc} (hg : g < 72057594037927936) (h : 18 ≤ m) : numB (part ((textB g c l).take m) 3 7) = g := by
  obtain ⟨t, ht⟩ := addB_front l (headB g c)
  have hh := headB_length g c
  rw [part_take (by omega), textB, ht, part_left (by omega)]
  exact gen7 hg
theorem Half.torn {f : Fls} {k : Nat} {x : Fi} (h : Half f k x) {g : Nat} {l : List Rc} (hf : (JP.mk (1 - k) g l.length l).Fine) (hg : x.gen < g) (hg2 : g < 72057594037927936) {m : Int} (h0 : 0 ≤ m) (h1 : m < (costW [⟨((1 - k : Nat) : Int), true, (JP.mk (1 - k) g l.length l).text⟩] : Nat)) :
    Half (apD [⟨((1 - k : Nat) : Int), true, (JP.mk (1 - k) g l.length l).text⟩] m f) k x := by
  have hk := h.k1
  have hi : 1 - k ≤ 1 := by omega
  rw [cost_start hi] at h1
  rw [apD_torn _ _ h0, ap_start hi]
  split
  · exact h
  · rename_i hm
    obtain ⟨p1, p2⟩ := put_nth (f := f) hi ((JP.mk (1 - k) g l.length l).text.take (m.toNat - 1))
    rw [show 1 - (1 - k) = k by omega] at p2
    refine ⟨hk, by rw [p2]; exact h.rd, h.snd, fun y hy => ?_, put_la h.la _ (by rw [List.length_take]; have := hf.len; omega), fun h18 => ?_⟩
    rotate_left
    · rw [p1] at h18 ⊢
      rw [List.length_take] at h18
      have e := text_gen (g := g) (c := l.length) (m := m.toNat - 1) (l := l) hg2 (by omega)
      intro e2
      rw [show (JP.mk (1 - k) g l.length l).text = textB g l.length l from rfl, e] at e2
      omega
    rw [p1] at hy
    have := sound_torn (g := g) (m := m.toNat - 1) (l := l) hf.gen hf.ok hf.len (by have : (JP.mk (1 - k) g l.length l).text = textB g l.length l := rfl; rw [this] at h1; omega)
    rw [show (JP.mk (1 - k) g l.length l).text = textB g l.length l from rfl, this] at hy
    cases hy
/-- The other file's beginning, whole. -/
theorem Half.begun {f : Fls} {k : Nat} {x : Fi} (h : Half f k x) {g : Nat} {l : List Rc} (hf : (JP.mk (1 - k) g l.length l).Fine) (hg : x.gen < g) (hg2 : g < 72057594037927936) {m : Int} (hm : m < 0 ∨ ((costW [⟨((1 - k : Nat) : Int), true, (JP.mk (1 - k) g l.length l).text⟩] : Nat) : Int) ≤ m) :
    Good (apD [⟨((1 - k : Nat) : Int), true, (JP.mk (1 - k) g l.length l).text⟩] m f) (JP.mk (1 - k) g l.length l) := by
  have hk := h.k1
  have hi : 1 - k ≤ 1 := by omega
  rw [apD_full _ _ hm, cost_start hi, ap_start hi, if_neg (by omega), take_all' _ _ (by omega)]
  obtain ⟨p1, p2⟩ := put_nth (f := f) hi ((JP.mk (1 - k) g l.length l).text)
  refine ⟨⟨hi, ?_, Nat.le_refl _, fun y hy => ?_, put_la h.la _ hf.len, fun h18 => ?_⟩, p1, hf⟩
  rotate_left 2
  · rw [show (JP.mk (1 - k) g l.length l).file = 1 - k from rfl, p2, show 1 - (1 - k) = k by omega]
    have ht := readR_told h.rd
    have e : part (f.nth k) 3 7 = part (textB x.gen x.count x.recs) 3 7 := by
      rw [← ht.text, part_take (by have := ht.lo; omega)]
    have e2 := text_gen (g := x.gen) (c := x.count) (m := (textB x.gen x.count x.recs).length) (l := x.recs) (by omega) (by rw [textB_length]; omega)
    rw [List.take_length] at e2
    rw [e, e2]
    show x.gen ≠ g
    omega
  · rw [p1]
    exact readR_text hf.gen hf.count hf.ok hf.len
  · rw [p2, show 1 - (1 - k) = k by omega, h.sound] at hy
    injection hy with hy
    rw [← hy]
    exact hg
theorem JP.append_textP {j : JP} {r : Rc} : ({ j with recs := j.recs ++ [r] } : JP).text = j.text ++ frameB (last4 j.text) r := textB_snoc _ _ _ _
/-- One record more, torn. -/
theorem Good.torn {f : Fls} {j : JP} (h : Good f j) {r : Rc} (hr : r.ok = true) (hl : j.text.length + 8 + r.body.length ≤ 65536) {m : Int} (h0 : 0 ≤ m) (h1 : m < (costW [⟨(j.file : Int), false, frameB (last4 j.text) r⟩] : Nat)) :
    Half (apD [⟨(j.file : Int), false, frameB (last4 j.text) r⟩] m f) j.file j.fi := by
  have hi := h.fine.file
  rw [cost_more hi, frameB_length] at h1
  rw [apD_torn _ _ h0, ap_more hi, get_nth f hi, h.text]
  obtain ⟨p1, p2⟩ := put_nth (f := f) hi (j.text ++ (frameB (last4 j.text) r).take m.toNat)
  refine ⟨hi, ?_, h.half.snd, fun y hy => h.half.oth y (p2 ▸ hy), put_la h.half.la _ (by rw [List.length_append, List.length_take]; omega), fun h18 => by rw [p2] at h18 ⊢; exact h.half.od h18⟩
  rw [p1]
  exact readR_frame h.fine.gen h.fine.count h.fine.ok hr (by omega) (by show j.text.length + _ ≤ _; omega)
/-- One record more. -/
theorem Good.more {f : Fls} {j : JP} (h : Good f j) {r : Rc} (hr : r.ok = true) (hl : j.text.length + 8 + r.body.length ≤ 65536) {m : Int} (hm : m < 0 ∨ ((costW [⟨(j.file : Int), false, frameB (last4 j.text) r⟩] : Nat) : Int) ≤ m) :
    Good (apD [⟨(j.file : Int), false, frameB (last4 j.text) r⟩] m f) { j with recs := j.recs ++ [r] } := by
  have hi := h.fine.file
  have hlen : ({ j with recs := j.recs ++ [r] } : JP).text.length ≤ 65536 := by rw [JP.append_textP, List.length_append, frameB_length]; omega
  have hok : ∀ x ∈ j.recs ++ [r], x.ok = true := fun x hx => by
    rcases List.mem_append.1 hx with h1 | h1
    · exact h.fine.ok x h1
    · simp at h1
      rw [h1]
      exact hr
  rw [apD_full _ _ hm, cost_more hi, ap_more hi, get_nth f hi, h.text, List.take_length, ← JP.append_textP]
  obtain ⟨p1, p2⟩ := put_nth (f := f) hi (({ j with recs := j.recs ++ [r] } : JP).text)
  refine ⟨⟨hi, ?_, by have := h.half.snd; show j.count ≤ (j.recs ++ [r]).length; rw [List.length_append]; exact Nat.le_trans this (Nat.le_add_right _ _), fun y hy => h.half.oth y (p2 ▸ hy), put_la h.half.la _ hlen, fun h18 => by rw [p2] at h18 ⊢; exact h.half.od h18⟩, p1, ⟨h.fine.file, h.fine.gen, h.fine.count, hlen, hok⟩⟩
  rw [p1]
  exact readR_text h.fine.gen h.fine.count hok hlen
/-- What opening such a disk comes to. -/
theorem Half.opened {f : Fls} {k : Nat} {x : Fi} (h : Half f k x) (hg : x.gen < 4611686018427387904) :
    (openR f = .ok ⟨k, x.gen, x.count, x.recs⟩ x.recs [] ∧ Good f ⟨k, x.gen, x.count, x.recs⟩) ∨
    (openR f = .ok ⟨1 - k, x.gen + 1, x.recs.length, x.recs⟩ x.recs [⟨((1 - k : Nat) : Int), true, (JP.mk (1 - k) (x.gen + 1) x.recs.length x.recs).text⟩] ∧ (JP.mk (1 - k) (x.gen + 1) x.recs.length x.recs).Fine) := by
  have hp := h.pick
  obtain ⟨_, ht, _⟩ := pickR_told hp
  by_cases hc : x.fin = (f.nth k).length
  · refine .inl ?_
    have ho : openR f = .ok ⟨k, x.gen, x.count, x.recs⟩ x.recs [] := by
      unfold openR
      rw [hp]
      dsimp only
      rw [if_pos hc]
    have htx : f.nth k = (JP.mk k x.gen x.count x.recs).text := by
      have := ht.text
      rw [hc, List.take_length] at this
      exact this
    refine ⟨ho, ⟨?_, htx, (openR_fine ho).1⟩⟩
    have e : (JP.mk k x.gen x.count x.recs).fi = x := by
      unfold JP.fi
      rw [← htx, ← hc]
    rw [e]
    exact h
  · refine .inr ?_
    have ho : openR f = .ok ⟨1 - k, x.gen + 1, x.recs.length, x.recs⟩ x.recs [⟨((1 - k : Nat) : Int), true, (JP.mk (1 - k) (x.gen + 1) x.recs.length x.recs).text⟩] := by
      unfold openR
      rw [hp]
      dsimp only
      rw [if_neg hc, if_neg (by omega)]
      rfl
    exact ⟨ho, (openR_fine ho).1⟩
/-- The empty disk's first writes. -/
theorem good_new : Good (apD [⟨0, true, headB 1 0⟩] (-1) ⟨[], []⟩) newJ := by
  have hh := headB_length 1 0
  have e : apD [⟨0, true, headB 1 0⟩] (-1) ⟨[], []⟩ = ⟨headB 1 0, []⟩ := by
    have h1 := apD_full [⟨((0 : Nat) : Int), true, headB 1 0⟩] ⟨[], []⟩ (m := -1) (.inl (by omega))
    rw [cost_start (by omega), ap_start (by omega), if_neg (by omega), take_all' _ _ (by omega)] at h1
    exact h1
  rw [e]
  refine ⟨⟨by decide, ?_, by decide, fun y hy => ?_, by simp [hh], fun h18 => by exact absurd h18 (by show ¬ 18 ≤ ([] : List UInt8).length; simp)⟩, rfl, newJ_fine⟩
  · exact readR_text (g := 1) (c := 0) (l := []) (by decide) (by decide) (by simp) (by rw [textB_length]; simp [bodies])
  · have : soundR ((⟨headB 1 0, []⟩ : Fls).nth (1 - newJ.file)) = none := by
      show soundR [] = none
      unfold soundR
      rw [readR_low (by simp)]
      rfl
    rw [this] at hy
    cases hy
end Go.Proofs.YtpkdalpjfcopbaaDoor
