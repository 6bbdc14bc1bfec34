/-
  What a file's bytes tell is what was written: plain lemmas. No program text. And: The journal's files, in plain Lean: numbers with the highest byte first, heads, frames, texts; what a file's bytes tell. No program text.
-/
import Derived.Test.YtpkdalpjfcopbaaDoorCrc
import Derived.Test.YtpkdalpjfcopbaaDoorAPure
namespace Go.Proofs.YtpkdalpjfcopbaaDoor
def beN (v b : Nat) : List UInt8 := (List.range b).map fun j => UInt8.ofNat (v / 256 ^ (b - 1 - j))
theorem beN_length (v b : Nat) : (beN v b).length = b := by simp [beN]
theorem beN_take (v b j : Nat) (h : j < b) : (beN v b).take (j + 1) = (beN v b).take j ++ [UInt8.ofNat (v / 256 ^ (b - 1 - j))] := by
  rw [List.take_succ_eq_append_getElem (by rw [beN_length]; exact h)]
  simp [beN]
theorem snoc_rec {α : Type} {P : List α → Prop} (h0 : P []) (h1 : ∀ l c, P l → P (l ++ [c])) (l : List α) : P l := by
  have : ∀ n (l : List α), l.length = n → P l := by
    intro n
    induction n with
    | zero => intro l hl; rw [List.length_eq_zero_iff.mp hl]; exact h0
    | succ n ih =>
      intro l hl
      have hne : l ≠ [] := by intro e; subst e; simp at hl
      rw [← List.dropLast_concat_getLast hne]
      exact h1 _ _ (ih _ (by simp [hl]))
  exact this _ l rfl
/-- The number that bytes write, the highest first. -/
def numB (l : List UInt8) : Nat := l.foldl (fun v c => v * 256 + c.toNat) 0
theorem numB_snoc (l : List UInt8) (c : UInt8) : numB (l ++ [c]) = numB l * 256 + c.toNat := by simp [numB]
theorem numB_lt (l : List UInt8) : numB l < 256 ^ l.length := by
  induction l using snoc_rec with
  | h0 => simp [numB]
  | h1 l c ih =>
    rw [numB_snoc, List.length_append, List.length_singleton, Nat.pow_succ]
    have := c.toNat_lt
    have h2 : (numB l + 1) * 256 ≤ 256 ^ l.length * 256 := Nat.mul_le_mul_right _ ih
    omega
theorem beN_succ (v b : Nat) : beN v (b + 1) = beN (v / 256) b ++ [UInt8.ofNat v] := by
  unfold beN
  rw [List.range_succ, List.map_append, List.map_singleton]
  congr 1
  · apply List.map_congr_left
    intro j hj
    rw [List.mem_range] at hj
    have e : b + 1 - 1 - j = (b - 1 - j) + 1 := by omega
    rw [e, Nat.pow_succ, Nat.mul_comm, Nat.div_div_eq_div_mul]
  · simp
theorem numB_beN (b : Nat) : ∀ v, numB (beN v b) = v % 256 ^ b := by
  induction b with
  | zero => intro v; simp [numB, beN, Nat.mod_one]
  | succ b ih =>
    intro v
    rw [beN_succ, numB_snoc, ih, Nat.pow_succ, Nat.mul_comm (256 ^ b) 256, Nat.mod_mul, UInt8.toNat_ofNat']
    omega
theorem beN_numB (l : List UInt8) : beN (numB l) l.length = l := by
  induction l using snoc_rec with
  | h0 => rfl
  | h1 l c ih =>
    have hc := c.toNat_lt
    rw [List.length_append, List.length_singleton, beN_succ, numB_snoc]
    have e1 : (numB l * 256 + c.toNat) / 256 = numB l := by omega
    have e2 : UInt8.ofNat (numB l * 256 + c.toNat) = c := by
      apply UInt8.toNat_inj.mp
      rw [UInt8.toNat_ofNat']
      omega
    rw [e1, e2, ih]
theorem beN_inj {l : List UInt8} {v b : Nat} (hl : l.length = b) (hv : v < 256 ^ b) : beN v b = l ↔ numB l = v := by
  constructor
  · intro h; rw [← h, numB_beN, Nat.mod_eq_of_lt hv]
  · intro h; rw [← h, ← hl]; exact beN_numB l
/-- A record. -/
structure Rc where
  kind : Int
  body : List UInt8
def Rc.ok (r : Rc) : Bool := decide (1 ≤ r.kind ∧ r.kind ≤ 4 ∧ r.body.length ≤ 4200)
def hdr (g c : Nat) : List UInt8 := [113, 106] ++ beN g 8 ++ beN c 4
def headB (g c : Nat) : List UInt8 := hdr g c ++ beN (Crc.crc (hdr g c)) 4
theorem hdr_length (g c : Nat) : (hdr g c).length = 14 := by simp [hdr, beN_length]
theorem headB_length (g c : Nat) : (headB g c).length = 18 := by simp [headB, hdr_length, beN_length]
/-- The first four bytes of a frame. -/
def four (k n : Nat) : List UInt8 := [UInt8.ofNat k, UInt8.ofNat (n / 256), UInt8.ofNat n, 165 ^^^ UInt8.ofNat k ^^^ UInt8.ofNat (n / 256) ^^^ UInt8.ofNat n]
def frameH (r : Rc) : List UInt8 := four r.kind.toNat r.body.length ++ r.body
def frameB (sum : List UInt8) (r : Rc) : List UInt8 := frameH r ++ beN (Crc.crc (sum ++ frameH r)) 4
theorem frameH_length (r : Rc) : (frameH r).length = 4 + r.body.length := by simp [frameH, four]; omega
theorem frameB_length (sum : List UInt8) (r : Rc) : (frameB sum r).length = 8 + r.body.length := by simp [frameB, frameH_length, beN_length]; omega
def last4 (l : List UInt8) : List UInt8 := l.drop (l.length - 4)
theorem last4_length {l : List UInt8} (h : 4 ≤ l.length) : (last4 l).length = 4 := by simp [last4]; omega
theorem last4_append {l m : List UInt8} (h : m.length = 4) : last4 (l ++ m) = m := by
  unfold last4
  rw [List.length_append, h, Nat.add_sub_cancel, List.drop_left]
/-- A text, record by record. -/
def addB (b : List UInt8) : List Rc → List UInt8
  | [] => b
  | r :: l => addB (b ++ frameB (last4 b) r) l
def textB (g c : Nat) (l : List Rc) : List UInt8 := addB (headB g c) l
theorem addB_snoc (r : Rc) : ∀ (l : List Rc) (b : List UInt8), addB b (l ++ [r]) = addB b l ++ frameB (last4 (addB b l)) r
  | [], b => rfl
  | x :: l, b => by
    show addB (b ++ frameB (last4 b) x) (l ++ [r]) = _
    rw [addB_snoc r l]
    rfl
def bodies (l : List Rc) : Nat := (l.map fun r => 8 + r.body.length).sum
theorem addB_length : ∀ (l : List Rc) (b : List UInt8), (addB b l).length = b.length + bodies l
  | [], b => by simp [addB, bodies]
  | x :: l, b => by
    show (addB (b ++ frameB (last4 b) x) l).length = _
    rw [addB_length l, List.length_append, frameB_length]
    simp [bodies]
    omega
theorem textB_length (g c : Nat) (l : List Rc) : (textB g c l).length = 18 + bodies l := by rw [textB, addB_length, headB_length]
theorem textB_snoc (g c : Nat) (l : List Rc) (r : Rc) : textB g c (l ++ [r]) = textB g c l ++ frameB (last4 (textB g c l)) r := addB_snoc r l _
/-- So many bytes from a place on. -/
def part (l : List UInt8) (p n : Nat) : List UInt8 := (l.drop p).take n
theorem part_length {l : List UInt8} {p n : Nat} (h : p + n ≤ l.length) : (part l p n).length = n := by simp [part]; omega
theorem part_split {l : List UInt8} {p a b : Nat} : part l p (a + b) = part l p a ++ part l (p + a) b := by
  unfold part
  rw [List.take_add, List.drop_drop]
/-- What a head tells: generation and count. -/
def headR (l : List UInt8) : Option (Nat × Nat) :=
  if 18 ≤ l.length ∧ l.length ≤ 65536 ∧ part l 0 2 = [113, 106] ∧ 1 ≤ numB (part l 2 8) ∧ numB (part l 2 8) ≤ 4611686018427387904 ∧ numB (part l 14 4) = Crc.crc (part l 0 14) then some (numB (part l 2 8), numB (part l 10 4)) else none
/-- The record whose frame begins at a place. -/
def bodyLen (l : List UInt8) (p : Nat) : Nat := numB (part l (p + 1) 2)
def nextR (l : List UInt8) (p : Nat) : Option Rc :=
  if p + 8 + bodyLen l p ≤ l.length ∧ bodyLen l p ≤ 4200 ∧ part l p 4 = four (numB (part l p 1)) (bodyLen l p) ∧ 1 ≤ numB (part l p 1) ∧ numB (part l p 1) ≤ 4 ∧ numB (part l (p + 4 + bodyLen l p) 4) = Crc.crc (part l (p - 4) 4 ++ part l p (4 + bodyLen l p)) then some ⟨(numB (part l p 1) : Int), part l (p + 4) (bodyLen l p)⟩ else none
theorem nextR_len {l : List UInt8} {p : Nat} {r : Rc} (h : nextR l p = some r) : p + 8 + r.body.length ≤ l.length := by
  unfold nextR at h
  split at h
  · rename_i hh
    injection h with h
    subst h
    show p + 8 + (part l (p + 4) (bodyLen l p)).length ≤ _
    rw [part_length (by omega)]
    omega
  · cases h
/-- The records from a place on, and where they end. -/
def framesR (l : List UInt8) : Nat → Nat → List Rc × Nat
  | 0, p => ([], p)
  | f + 1, p => match nextR l p with
    | none => ([], p)
    | some r => let (m, q) := framesR l f (p + 8 + r.body.length); (r :: m, q)
/-- What a file tells. -/
structure Fi where
  gen : Nat
  count : Nat
  recs : List Rc
  fin : Nat
def readR (l : List UInt8) : Option Fi :=
  match headR l with
  | none => none
  | some (g, c) => let (m, q) := framesR l l.length 18; some ⟨g, c, m, q⟩
def Fi.sound (f : Fi) : Bool := decide (f.count ≤ f.recs.length)
end Go.Proofs.YtpkdalpjfcopbaaDoor
namespace Go.Proofs.YtpkdalpjfcopbaaDoor
theorem part_take {l : List UInt8} {p n k : Nat} (h : p + n ≤ k) : part (l.take k) p n = part l p n := by
  unfold part
  rw [List.drop_take, List.take_take, Nat.min_eq_left (by omega)]
theorem part_left {a b : List UInt8} {p n : Nat} (h : p + n ≤ a.length) : part (a ++ b) p n = part a p n := by
  unfold part
  rw [List.drop_append_of_le_length (by omega), List.take_append_of_le_length (by rw [List.length_drop]; omega)]
theorem part_right {a b : List UInt8} {p n : Nat} (h : p = a.length) : part (a ++ b) p n = b.take n := by
  unfold part
  rw [h, List.drop_left]
theorem take_part {l : List UInt8} {p n : Nat} : l.take (p + n) = l.take p ++ part l p n := by
  rw [List.take_add]; rfl
theorem part_last {l : List UInt8} {p : Nat} (h4 : 4 ≤ p) (h : p ≤ l.length) : part l (p - 4) 4 = last4 (l.take p) := by
  unfold last4 part
  rw [List.length_take, Nat.min_eq_left h, List.drop_take, show p - (p - 4) = 4 by omega]
theorem part_all {l : List UInt8} {n : Nat} (h : l.length = n) : part l 0 n = l := by
  unfold part
  rw [List.drop_zero, List.take_of_length_le (by omega)]
theorem beN_part {l : List UInt8} {p n : Nat} (h : p + n ≤ l.length) : beN (numB (part l p n)) n = part l p n := by
  have := beN_numB (part l p n)
  rwa [part_length h] at this
theorem headR_text {l : List UInt8} {g c : Nat} (h : headR l = some (g, c)) : l.take 18 = headB g c ∧ 18 ≤ l.length ∧ l.length ≤ 65536 ∧ 1 ≤ g ∧ g ≤ 4611686018427387904 ∧ c < 4294967296 := by
  unfold headR at h
  split at h
  · rename_i hh
    obtain ⟨h1, h2, h3, h4, h5, h6⟩ := hh
    injection h with h
    injection h with e1 e2
    have hg : part l 0 14 = hdr g c := by
      have e : part l 0 14 = part l 0 2 ++ part l 2 8 ++ part l 10 4 := by
        rw [show (14 : Nat) = 2 + (8 + 4) from rfl, part_split, part_split, List.append_assoc]
      rw [e, h3, ← e1, ← e2, hdr, beN_part (by omega), beN_part (by omega)]
    refine ⟨?_, h1, h2, by omega, by omega, ?_⟩
    · rw [show (18 : Nat) = 14 + 4 from rfl, take_part, headB, ← hg, ← h6, beN_part (by omega)]
      rfl
    · have := numB_lt (part l 10 4)
      rw [part_length (by omega)] at this
      omega
  · cases h
theorem nextR_text {l : List UInt8} {p : Nat} {r : Rc} (h : nextR l p = some r) (h4 : 4 ≤ p) : part l p (8 + r.body.length) = frameB (last4 (l.take p)) r ∧ r.ok = true ∧ p + 8 + r.body.length ≤ l.length := by
  have hl := nextR_len h
  unfold nextR at h
  split at h
  · rename_i hh
    obtain ⟨h1, h2, h3, h5, h6, h7⟩ := hh
    injection h with h
    subst h
    have hn : (part l (p + 4) (bodyLen l p)).length = bodyLen l p := part_length (by omega)
    simp only [hn] at hl ⊢
    refine ⟨?_, ?_, hl⟩
    · have e : part l p (8 + bodyLen l p) = part l p 4 ++ part l (p + 4) (bodyLen l p) ++ part l (p + 4 + bodyLen l p) 4 := by
        rw [show 8 + bodyLen l p = 4 + (bodyLen l p + 4) by omega, part_split, part_split, List.append_assoc]
      have e2 : part l p (4 + bodyLen l p) = part l p 4 ++ part l (p + 4) (bodyLen l p) := part_split
      have hf : frameH ⟨(numB (part l p 1) : Int), part l (p + 4) (bodyLen l p)⟩ = part l p (4 + bodyLen l p) := by
        rw [frameH, hn, e2, h3]
        simp
      rw [frameB, hf, ← part_last h4 (by omega), ← h7, beN_part (by omega), e, e2]
    · simp only [Rc.ok, hn, decide_eq_true_eq]
      omega
  · cases h
theorem framesR_text {l : List UInt8} : ∀ (f p : Nat), 4 ≤ p → p ≤ l.length → l.take (framesR l f p).2 = addB (l.take p) (framesR l f p).1 ∧ (∀ r ∈ (framesR l f p).1, r.ok = true) ∧ p ≤ (framesR l f p).2 ∧ (framesR l f p).2 ≤ l.length
  | 0, p, h4, hp => by simp [framesR, addB, hp]
  | f + 1, p, h4, hp => by
    unfold framesR
    cases hn : nextR l p with
    | none => simp [addB, hp]
    | some r =>
      obtain ⟨h1, h2, h3⟩ := nextR_text hn h4
      obtain ⟨i1, i2, i3, i4⟩ := framesR_text f (p + 8 + r.body.length) (by omega) h3
      dsimp only
      refine ⟨?_, ?_, by omega, i4⟩
      · rw [i1]
        show _ = addB (l.take p ++ frameB (last4 (l.take p)) r) _
        rw [← h1, Nat.add_assoc, take_part]
      · intro x hx
        rcases List.mem_cons.1 hx with rfl | hx
        · exact h2
        · exact i2 x hx
/-- A file that is read as far as it is whole: its bytes up to there are the text of what it tells. -/
structure Told (l : List UInt8) (f : Fi) : Prop where
  text : l.take f.fin = textB f.gen f.count f.recs
  ok : ∀ r ∈ f.recs, r.ok = true
  lo : 18 ≤ f.fin
  hi : f.fin ≤ l.length
  len : l.length ≤ 65536
  gen : 1 ≤ f.gen ∧ f.gen ≤ 4611686018427387904
  count : f.count < 4294967296
theorem readR_told {l : List UInt8} {f : Fi} (h : readR l = some f) : Told l f := by
  unfold readR at h
  split at h
  · cases h
  · rename_i g c hh
    obtain ⟨h1, h2, h3, h4, h5, h6⟩ := headR_text hh
    obtain ⟨i1, i2, i3, i4⟩ := framesR_text (l := l) l.length 18 (by omega) h2
    injection h with h
    subst h
    refine ⟨?_, i2, i3, i4, h3, ⟨h4, h5⟩, h6⟩
    dsimp only
    rw [i1, h1]
    rfl
theorem Told.len18 {l : List UInt8} {f : Fi} (h : Told l f) : f.fin = 18 + bodies f.recs := by
  have := congrArg List.length h.text
  rw [textB_length, List.length_take, Nat.min_eq_left h.hi] at this
  exact this
/-- A loop over the frames under way. -/
structure Going (l : List UInt8) (ms : List Rc) (p : Nat) : Prop where
  rest : ∃ f, l.length ≤ p + f ∧ framesR l l.length 18 = (ms ++ (framesR l f p).1, (framesR l f p).2)
  lo : 18 ≤ p
  hi : p ≤ l.length
theorem Going.start {l : List UInt8} (h : 18 ≤ l.length) : Going l [] 18 := ⟨⟨l.length, by omega, by simp⟩, by omega, h⟩
theorem Going.step {l : List UInt8} {ms : List Rc} {p : Nat} {r : Rc} (h : Going l ms p) (hp : p < l.length) (hn : nextR l p = some r) : Going l (ms ++ [r]) (p + 8 + r.body.length) := by
  obtain ⟨⟨f, h1, h2⟩, h3, h4⟩ := h
  obtain ⟨_, _, h5⟩ := nextR_text hn (by omega)
  cases f with
  | zero => omega
  | succ f =>
    refine ⟨⟨f, by omega, ?_⟩, by omega, h5⟩
    rw [h2]
    conv => lhs; unfold framesR
    rw [hn]
    simp
theorem Going.stop {l : List UInt8} {ms : List Rc} {p : Nat} (h : Going l ms p) (hp : p < l.length) (hn : nextR l p = none) : framesR l l.length 18 = (ms, p) := by
  obtain ⟨⟨f, h1, h2⟩, h3, h4⟩ := h
  cases f with
  | zero => omega
  | succ f =>
    rw [h2]
    conv => lhs; unfold framesR
    rw [hn]
    simp
theorem Going.done {l : List UInt8} {ms : List Rc} {p : Nat} (h : Going l ms p) (hp : l.length ≤ p) : framesR l l.length 18 = (ms, p) := by
  obtain ⟨⟨f, h1, h2⟩, h3, h4⟩ := h
  have hn : nextR l p = none := by
    unfold nextR
    rw [if_neg (by omega)]
  rw [h2]
  cases f with
  | zero => simp [framesR]
  | succ f =>
    conv => lhs; unfold framesR
    rw [hn]
    simp
theorem bodies_snoc (l : List Rc) (r : Rc) : bodies (l ++ [r]) = bodies l + (8 + r.body.length) := by simp [bodies]
theorem Going.bd {l : List UInt8} {ms : List Rc} {p : Nat} (h : Going l ms p) (hh : 18 ≤ l.length) : p = 18 + bodies ms ∧ (∀ r ∈ ms, r.ok = true) := by
  obtain ⟨⟨f, h1, h2⟩, h3, h4⟩ := h
  obtain ⟨i1, i2, i3, i4⟩ := framesR_text (l := l) l.length 18 (by omega) hh
  obtain ⟨j1, j2, j3, j4⟩ := framesR_text (l := l) f p (by omega) h4
  rw [h2] at i1 i2 i3 i4
  dsimp only at i1 i2 i3 i4
  have e1 := congrArg List.length i1
  have e2 := congrArg List.length j1
  rw [addB_length, List.length_take, List.length_take, Nat.min_eq_left hh, Nat.min_eq_left i4] at e1
  rw [addB_length, List.length_take, List.length_take, Nat.min_eq_left h4, Nat.min_eq_left i4] at e2
  have e3 : bodies (ms ++ (framesR l f p).1) = bodies ms + bodies (framesR l f p).1 := by simp [bodies]
  refine ⟨by omega, fun r hr => i2 r (by simp [hr])⟩
/-! The document's journal, and what opening a disk comes to. -/
structure JP where
  file : Nat
  gen : Nat
  count : Nat
  recs : List Rc
def JP.text (j : JP) : List UInt8 := textB j.gen j.count j.recs
def newJ : JP := ⟨0, 1, 0, []⟩
def Fls.nth (f : Fls) (k : Nat) : List UInt8 := if k = 0 then f.a else f.b
def soundR (l : List UInt8) : Option Fi := (readR l).filter Fi.sound
/-- The file that counts. -/
def pickR (f : Fls) : Option (Nat × Fi) :=
  match soundR f.a, soundR f.b with
  | none, none => none
  | some a, none => some (0, a)
  | none, some b => some (1, b)
  | some a, some b => if a.gen < b.gen then some (1, b) else some (0, a)
inductive OR where
  | bad
  | spent
  | ok (j : JP) (recs : List Rc) (ws : List Wr)
def unbornR (f : Fls) : Bool := decide (f.b = [] ∧ f.a.length < 18 ∧ f.a = (headB 1 0).take f.a.length)
def openR (f : Fls) : OR :=
  match pickR f with
  | none => if unbornR f = true then .ok newJ [] [⟨0, true, headB 1 0⟩] else .bad
  | some (k, x) =>
    if x.fin = (f.nth k).length then .ok ⟨k, x.gen, x.count, x.recs⟩ x.recs []
    else if x.gen = 4611686018427387904 then .spent
    else .ok ⟨1 - k, x.gen + 1, x.recs.length, x.recs⟩ x.recs [⟨((1 - k : Nat) : Int), true, textB (x.gen + 1) x.recs.length x.recs⟩]
theorem soundR_told {l : List UInt8} {x : Fi} (h : soundR l = some x) : Told l x ∧ x.count ≤ x.recs.length ∧ readR l = some x := by
  unfold soundR at h
  rw [Option.filter_eq_some_iff] at h
  exact ⟨readR_told h.1, by simpa [Fi.sound] using h.2, h.1⟩
theorem pickR_told {f : Fls} {k : Nat} {x : Fi} (h : pickR f = some (k, x)) : k ≤ 1 ∧ Told (f.nth k) x ∧ x.count ≤ x.recs.length := by
  unfold pickR at h
  cases ha : soundR f.a with
  | none =>
    cases hb : soundR f.b with
    | none => rw [ha, hb] at h; cases h
    | some b =>
      rw [ha, hb] at h
      injection h with h
      injection h with h1 h2
      subst h1 h2
      have := soundR_told hb
      exact ⟨by omega, this.1, this.2.1⟩
  | some a =>
    have h3 := soundR_told ha
    cases hb : soundR f.b with
    | none =>
      rw [ha, hb] at h
      injection h with h
      injection h with h1 h2
      subst h1 h2
      exact ⟨by omega, h3.1, h3.2.1⟩
    | some b =>
      have h4 := soundR_told hb
      rw [ha, hb] at h
      dsimp only at h
      split at h
      · injection h with h
        injection h with h1 h2
        subst h1 h2
        exact ⟨by omega, h4.1, h4.2.1⟩
      · injection h with h
        injection h with h1 h2
        subst h1 h2
        exact ⟨by omega, h3.1, h3.2.1⟩
/-- A journal within bounds. -/
structure JP.Fine (j : JP) : Prop where
  file : j.file ≤ 1
  gen : 1 ≤ j.gen ∧ j.gen ≤ 4611686018427387904
  count : j.count < 4294967296
  len : j.text.length ≤ 65536
  ok : ∀ r ∈ j.recs, r.ok = true
theorem newJ_fine : newJ.Fine := ⟨by decide, by decide, by decide, by simp [JP.text, newJ, textB_length, bodies], by simp [newJ]⟩
theorem bodies_le (l : List Rc) : 8 * l.length ≤ bodies l := by
  induction l with
  | nil => simp [bodies]
  | cons r l ih =>
    have e : bodies (r :: l) = 8 + r.body.length + bodies l := by simp [bodies]
    rw [e, List.length_cons]
    omega
theorem openR_fine {f : Fls} {j : JP} {l : List Rc} {ws : List Wr} (h : openR f = .ok j l ws) : j.Fine ∧ l = j.recs := by
  unfold openR at h
  cases hp : pickR f with
  | none =>
    rw [hp] at h
    dsimp only at h
    split at h
    · injection h with h1 h2 h3
      subst h1 h2
      exact ⟨newJ_fine, rfl⟩
    · cases h
  | some kx =>
    obtain ⟨k, x⟩ := kx
    obtain ⟨hk, ht, hc⟩ := pickR_told hp
    rw [hp] at h
    dsimp only at h
    have hl := ht.len18
    have h1 := ht.hi
    have h2 := ht.len
    split at h
    · injection h with h1 h2 h3
      subst h1 h2
      exact ⟨⟨hk, ht.gen, ht.count, by show (textB x.gen x.count x.recs).length ≤ _; rw [textB_length]; omega, ht.ok⟩, rfl⟩
    · split at h
      · cases h
      · rename_i hne
        injection h with h1 h2 h3
        subst h1 h2
        have hb := bodies_le x.recs
        have := ht.gen
        exact ⟨⟨by show 1 - k ≤ 1; omega, ⟨by show 1 ≤ x.gen + 1; omega, by show x.gen + 1 ≤ _; omega⟩, by show x.recs.length < _; omega, by show (textB (x.gen + 1) x.recs.length x.recs).length ≤ _; rw [textB_length]; omega, ht.ok⟩, rfl⟩
end Go.Proofs.YtpkdalpjfcopbaaDoor
