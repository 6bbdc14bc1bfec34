/-
  JournalApplies: the plain law. No program text.
-/
import Derived.Test.YtpkdalpjfcopbaaDoorMem
namespace Go.Proofs.YtpkdalpjfcopbaaDoor
/-- A write. -/
structure Wr where
  file : Int
  start : Bool
  bs : List UInt8
/-- The two files. -/
structure Fls where
  a : List UInt8
  b : List UInt8
def Wr.ok (w : Wr) : Bool := decide (w.file = 0 ∨ w.file = 1)
def Wr.cost (w : Wr) : Nat := if w.ok = true then (if w.start = true then 1 else 0) + w.bs.length else 0
def costW (ws : List Wr) : Nat := (ws.map Wr.cost).sum
def Fls.get (f : Fls) (i : Int) : List UInt8 := if i = 0 then f.a else f.b
def Fls.put (f : Fls) (i : Int) (l : List UInt8) : Fls := if i = 0 then { f with a := l } else { f with b := l }
theorem Fls.put_get (f : Fls) (i : Int) : f.put i (f.get i) = f := by
  unfold Fls.put Fls.get
  split <;> rfl
theorem Fls.get_put (f : Fls) (i : Int) (l : List UInt8) : (f.put i l).get i = l := by
  unfold Fls.put Fls.get
  split <;> rfl
/-- The program's way, of k steps. -/
def apP : List Wr → Nat → Fls → Fls
  | [], _, f => f
  | w :: ws, k, f =>
    if w.ok = true then
      let f1 := if w.start = true ∧ 0 < k then f.put w.file [] else f
      let k1 := if w.start = true ∧ 0 < k then k - 1 else k
      let f2 := f1.put w.file (f1.get w.file ++ w.bs.take (min k1 w.bs.length))
      if k1 - min k1 w.bs.length = 0 then f2 else apP ws (k1 - min k1 w.bs.length) f2
    else apP ws k f
theorem apP_skip {w : Wr} (ws : List Wr) (k : Nat) (f : Fls) (h : ¬ w.ok = true) : apP (w :: ws) k f = apP ws k f := by
  conv => lhs; unfold apP
  rw [if_neg h]
theorem apP_ok {w : Wr} (ws : List Wr) (k : Nat) (f : Fls) (h : w.ok = true) {f1 f2 : Fls} {k1 nn : Nat} (hf1 : f1 = (if w.start = true ∧ 0 < k then f.put w.file [] else f)) (hk1 : k1 = (if w.start = true ∧ 0 < k then k - 1 else k))
    (hn : nn = min k1 w.bs.length) (hf2 : f2 = f1.put w.file (f1.get w.file ++ w.bs.take nn)) : apP (w :: ws) k f = if k1 - nn = 0 then f2 else apP ws (k1 - nn) f2 := by
  conv => lhs; unfold apP
  rw [if_pos h]
  dsimp only
  rw [← hf1, ← hk1, ← hn, ← hf2]
/-- The document's way, with 'left' steps left. -/
def apR : List Wr → Nat → Fls → Fls
  | [], _, f => f
  | w :: ws, k, f =>
    if w.ok = true then
      if w.start = true ∧ k = 0 then f
      else
        let f1 := if w.start = true then f.put w.file [] else f
        let k1 := if w.start = true then k - 1 else k
        let f2 := f1.put w.file (f1.get w.file ++ w.bs.take k1)
        if k1 < w.bs.length then f2 else apR ws (k1 - w.bs.length) f2
    else apR ws k f
/-- All steps. -/
def apA : List Wr → Fls → Fls
  | [], f => f
  | w :: ws, f =>
    if w.ok = true then
      let f1 := if w.start = true then f.put w.file [] else f
      apA ws (f1.put w.file (f1.get w.file ++ w.bs))
    else apA ws f
theorem apR_zero (ws : List Wr) (f : Fls) : apR ws 0 f = f := by
  induction ws with
  | nil => rfl
  | cons w ws ih =>
    unfold apR
    split
    · split
      · rfl
      · rename_i h
        have hs : ¬ w.start = true := fun e => h ⟨e, rfl⟩
        simp only [if_neg hs, List.take_zero, List.append_nil, Fls.put_get]
        split
        · rfl
        · rw [Nat.zero_sub]; exact ih
    · exact ih
theorem apP_apR (ws : List Wr) : ∀ (k : Nat) (f : Fls), apP ws k f = apR ws k f := by
  induction ws with
  | nil => intros; rfl
  | cons w ws ih =>
    intro k f
    by_cases hk0 : k = 0
    · subst hk0
      rw [apR_zero]
      unfold apP
      split
      · simp [Fls.put_get]
      · rw [ih, apR_zero]
    · have hk : 0 < k := by omega
      unfold apP apR
      split
      · rw [if_neg (show ¬ (w.start = true ∧ k = 0) from fun h => hk0 h.2)]
        have e : (w.start = true ∧ 0 < k) = (w.start = true) := by simp [hk]
        simp only [e]
        generalize (if w.start = true then f.put w.file [] else f) = f1
        generalize (if w.start = true then k - 1 else k) = k1
        by_cases h1 : k1 < w.bs.length
        · rw [if_pos h1, Nat.min_eq_left (by omega), if_pos (by omega)]
        · rw [if_neg h1, Nat.min_eq_right (by omega), List.take_of_length_le (Nat.le_refl _), List.take_of_length_le (by omega)]
          split
          · rename_i h2; rw [h2, apR_zero]
          · exact ih _ _
      · exact ih k f
theorem costW_cons (w : Wr) (ws : List Wr) : costW (w :: ws) = w.cost + costW ws := by simp [costW]
theorem apR_all (ws : List Wr) : ∀ (k : Nat) (f : Fls), costW ws ≤ k → apR ws k f = apA ws f := by
  induction ws with
  | nil => intros; rfl
  | cons w ws ih =>
    intro k f h
    rw [costW_cons] at h
    unfold apR apA
    split
    · rename_i ho
      unfold Wr.cost at h
      rw [if_pos ho] at h
      by_cases hs : w.start = true
      · simp only [if_pos hs] at h ⊢
        rw [if_neg (by omega), if_neg (by omega), List.take_of_length_le (by omega)]
        exact ih _ _ (by omega)
      · simp only [if_neg hs] at h ⊢
        rw [if_neg (fun h => hs h.1), if_neg (by omega), List.take_of_length_le (by omega)]
        exact ih _ _ (by omega)
    · rename_i ho
      unfold Wr.cost at h
      rw [if_neg ho] at h
      exact ih _ _ (by omega)
/-- Both ways of the document: b tells whether all steps are made. -/
def apG (b : Bool) (ws : List Wr) (m : Nat) (f : Fls) : Fls := if b = true then apA ws f else apR ws m f
def Wr.first (w : Wr) (f : Fls) : Fls := if w.start = true then f.put w.file [] else f
def Wr.left (w : Wr) (m : Nat) : Nat := if w.start = true then m - 1 else m
theorem Fls.put_put (f : Fls) (i : Int) (l m : List UInt8) : (f.put i l).put i m = f.put i m := by
  unfold Fls.put
  split <;> rfl
theorem apG_nil (b : Bool) (m : Nat) (f : Fls) : apG b [] m f = f := by unfold apG; split <;> rfl
theorem apG_skip {b : Bool} {w : Wr} (ws : List Wr) (m : Nat) (f : Fls) (h : w.ok = false) : apG b (w :: ws) m f = apG b ws m f := by
  unfold apG
  cases b with
  | true =>
    rw [if_pos rfl, if_pos rfl]
    conv => lhs; unfold apA
    rw [if_neg (by simp [h])]
  | false =>
    rw [if_neg (by simp), if_neg (by simp)]
    conv => lhs; unfold apR
    rw [if_neg (by simp [h])]
theorem apG_stop {w : Wr} (ws : List Wr) (f : Fls) (h : w.ok = true) (hs : w.start = true) : apG false (w :: ws) 0 f = f := by
  unfold apG apR
  rw [if_neg (by simp), if_pos h, if_pos ⟨hs, rfl⟩]
theorem apG_end {w : Wr} (ws : List Wr) (m : Nat) (f : Fls) (h : w.ok = true) (hs : w.start = true → 0 < m) (hl : w.left m < w.bs.length) :
    apG false (w :: ws) m f = (w.first f).put w.file ((w.first f).get w.file ++ w.bs.take (w.left m)) := by
  unfold apG apR
  rw [if_neg (by simp), if_pos h, if_neg (fun e => by have := hs e.1; omega)]
  unfold Wr.left at hl
  dsimp only
  rw [if_pos hl]
  rfl
theorem apG_go {b : Bool} {w : Wr} (ws : List Wr) (m : Nat) (f : Fls) (h : w.ok = true) (hb : b = false → (w.start = true → 0 < m) ∧ w.bs.length ≤ w.left m) :
    apG b (w :: ws) m f = apG b ws (w.left m - w.bs.length) ((w.first f).put w.file ((w.first f).get w.file ++ w.bs)) := by
  unfold apG
  cases b with
  | true =>
    rw [if_pos rfl, if_pos rfl]
    conv => lhs; unfold apA
    rw [if_pos h]
    rfl
  | false =>
    obtain ⟨h1, h2⟩ := hb rfl
    rw [if_neg (by simp), if_neg (by simp)]
    conv => lhs; unfold apR
    rw [if_pos h, if_neg (fun e => by have := h1 e.1; omega)]
    unfold Wr.left at h2 ⊢
    dsimp only
    rw [if_neg (by omega), List.take_of_length_le h2]
    rfl
/-- How many steps the program makes. -/
def stepsP (ws : List Wr) (k : Int) : Nat := if k < 0 ∨ (costW ws : Int) < k then costW ws else k.toNat
/-- What the document makes of k. -/
def apD (ws : List Wr) (k : Int) (f : Fls) : Fls := if k < 0 then apA ws f else apR ws k.toNat f
theorem apD_apG (ws : List Wr) (k : Int) (f : Fls) : apD ws k f = apG (decide (k < 0)) ws k.toNat f := by simp [apD, apG]
theorem Wr.first_len (w : Wr) (f : Fls) : (w.first f).a.length + (w.first f).b.length ≤ f.a.length + f.b.length := by
  unfold Wr.first Fls.put
  repeat' split
  all_goals simp
theorem Fls.put_len (f : Fls) (i : Int) (l : List UInt8) : (f.put i (f.get i ++ l)).a.length + (f.put i (f.get i ++ l)).b.length = f.a.length + f.b.length + l.length := by
  unfold Fls.put Fls.get
  split <;> simp <;> omega
theorem Fls.get_len (f : Fls) (i : Int) : (f.get i).length ≤ f.a.length + f.b.length := by
  unfold Fls.get
  split <;> omega
theorem apply_same (ws : List Wr) (k : Int) (f : Fls) : apP ws (stepsP ws k) f = apD ws k f := by
  rw [apP_apR]
  unfold stepsP apD
  split
  · rename_i h
    rw [apR_all _ _ _ (Nat.le_refl _)]
    split
    · rfl
    · rw [apR_all _ _ _ (by omega)]
  · rename_i h
    rw [if_neg (by omega)]
theorem apR_len (ws : List Wr) : ∀ (k : Nat) (f : Fls), (apR ws k f).a.length + (apR ws k f).b.length ≤ f.a.length + f.b.length + costW ws := by
  induction ws with
  | nil => intro k f; simp [apR, costW]
  | cons w ws ih =>
    intro k f
    rw [costW_cons]
    unfold apR
    split
    · rename_i ho
      have hc : w.bs.length ≤ w.cost := by unfold Wr.cost; rw [if_pos ho]; omega
      split
      · omega
      · have key : ∀ f1 : Fls, f1.a.length + f1.b.length ≤ f.a.length + f.b.length → ∀ l : List UInt8, l.length ≤ w.bs.length → (f1.put w.file (f1.get w.file ++ l)).a.length + (f1.put w.file (f1.get w.file ++ l)).b.length ≤ f.a.length + f.b.length + w.cost := fun f1 h1 l hl => by
          unfold Fls.put Fls.get
          split <;> simp <;> omega
        have h1 : (if w.start = true then f.put w.file [] else f).a.length + (if w.start = true then f.put w.file [] else f).b.length ≤ f.a.length + f.b.length := by
          split
          · unfold Fls.put; split <;> simp
          · omega
        dsimp only
        generalize (if w.start = true then f.put w.file [] else f) = f1 at h1 ⊢
        generalize (if w.start = true then k - 1 else k) = k1
        have h2 := key f1 h1 (w.bs.take k1) (by rw [List.length_take]; omega)
        split
        · omega
        · have := ih (k1 - w.bs.length) (f1.put w.file (f1.get w.file ++ w.bs.take k1))
          omega
    · have := ih k f
      omega
end Go.Proofs.YtpkdalpjfcopbaaDoor
