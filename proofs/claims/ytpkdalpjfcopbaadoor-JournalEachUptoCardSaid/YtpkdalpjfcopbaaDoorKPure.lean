/-
  The journal's files, in plain Lean: numbers with the highest byte first, heads, frames, texts; what a file's bytes tell. No program text.
-/
import Derived.Test.YtpkdalpjfcopbaaDoorCrc
import Derived.Test.YtpkdalpjfcopbaaDoorAPure
namespace Go.Proofs.YtpkdalpjfcopbaaDoor
def beN (v b : Nat) : List UInt8 := (List.range b).map fun j => UInt8.ofNat (v / 256 ^ (b - 1 - j))
theorem beN_length (v b : Nat) : (beN v b).length = b := by simp [beN]
theorem beN_take (v b j : Nat) (h : j < b) : (beN v b).take (j + 1) = (beN v b).take j ++ [UInt8.ofNat (v / 256 ^ (b - 1 - j))] := by
  rw [List.take_succ_eq_append_getElem (by rw [beN_length]; exact h)]
  simp [beN]
theorem snoc_rec {α : Type} {P : List α → Prop} (h0 : P []) (h1 : ∀ l c, P l → P (l ++ [c])) (l : List α) : P l := by
  have : ∀ n (l : List α), l.length = n → P l := by
    intro n
    induction n with
    | zero => intro l hl; rw [List.length_eq_zero_iff.mp hl]; exact h0
    | succ n ih =>
      intro l hl
      have hne : l ≠ [] := by intro e; subst e; simp at hl
      rw [← List.dropLast_concat_getLast hne]
      exact h1 _ _ (ih _ (by simp [hl]))
  exact this _ l rfl
/-- The number that bytes write, the highest first. -/
def numB (l : List UInt8) : Nat := l.foldl (fun v c => v * 256 + c.toNat) 0
theorem numB_snoc (l : List UInt8) (c : UInt8) : numB (l ++ [c]) = numB l * 256 + c.toNat := by simp [numB]
theorem numB_lt (l : List UInt8) : numB l < 256 ^ l.length := by
  induction l using snoc_rec with
  | h0 => simp [numB]
  | h1 l c ih =>
    rw [numB_snoc, List.length_append, List.length_singleton, Nat.pow_succ]
    have := c.toNat_lt
    have h2 : (numB l + 1) * 256 ≤ 256 ^ l.length * 256 := Nat.mul_le_mul_right _ ih
    omega
theorem beN_succ (v b : Nat) : beN v (b + 1) = beN (v / 256) b ++ [UInt8.ofNat v] := by
  unfold beN
  rw [List.range_succ, List.map_append, List.map_singleton]
  congr 1
  · apply List.map_congr_left
    intro j hj
    rw [List.mem_range] at hj
    have e : b + 1 - 1 - j = (b - 1 - j) + 1 := by omega
    rw [e, Nat.pow_succ, Nat.mul_comm, Nat.div_div_eq_div_mul]
  · simp
theorem numB_beN (b : Nat) : ∀ v, numB (beN v b) = v % 256 ^ b := by
  induction b with
  | zero => intro v; simp [numB, beN, Nat.mod_one]
  | succ b ih =>
    intro v
    rw [beN_succ, numB_snoc, ih, Nat.pow_succ, Nat.mul_comm (256 ^ b) 256, Nat.mod_mul, UInt8.toNat_ofNat']
    omega
theorem beN_numB (l : List UInt8) : beN (numB l) l.length = l := by
  induction l using snoc_rec with
  | h0 => rfl
  | h1 l c ih =>
    have hc := c.toNat_lt
    rw [List.length_append, List.length_singleton, beN_succ, numB_snoc]
    have e1 : (numB l * 256 + c.toNat) / 256 = numB l := by omega
    have e2 : UInt8.ofNat (numB l * 256 + c.toNat) = c := by
      apply UInt8.toNat_inj.mp
      rw [UInt8.toNat_ofNat']
      omega
    rw [e1, e2, ih]
theorem beN_inj {l : List UInt8} {v b : Nat} (hl : l.length = b) (hv : v < 256 ^ b) : beN v b = l ↔ numB l = v := by
  constructor
  · intro h; rw [← h, numB_beN, Nat.mod_eq_of_lt hv]
  · intro h; rw [← h, ← hl]; exact beN_numB l
/-- A record. -/
structure Rc where
  kind : Int
  body : List UInt8
def Rc.ok (r : Rc) : Bool := decide (1 ≤ r.kind ∧ r.kind ≤ 4 ∧ r.body.length ≤ 4200)
def hdr (g c : Nat) : List UInt8 := [113, 106] ++ beN g 8 ++ beN c 4
def headB (g c : Nat) : List UInt8 := hdr g c ++ beN (Crc.crc (hdr g c)) 4
theorem hdr_length (g c : Nat) : (hdr g c).length = 14 := by simp [hdr, beN_length]
theorem headB_length (g c : Nat) : (headB g c).length = 18 := by simp [headB, hdr_length, beN_length]
/-- The first four bytes of a frame. -/
def four (k n : Nat) : List UInt8 := [UInt8.ofNat k, UInt8.ofNat (n / 256), UInt8.ofNat n, 165 ^^^ UInt8.ofNat k ^^^ UInt8.ofNat (n / 256) ^^^ UInt8.ofNat n]
def frameH (r : Rc) : List UInt8 := four r.kind.toNat r.body.length ++ r.body
def frameB (sum : List UInt8) (r : Rc) : List UInt8 := frameH r ++ beN (Crc.crc (sum ++ frameH r)) 4
theorem frameH_length (r : Rc) : (frameH r).length = 4 + r.body.length := by simp [frameH, four]; omega
theorem frameB_length (sum : List UInt8) (r : Rc) : (frameB sum r).length = 8 + r.body.length := by simp [frameB, frameH_length, beN_length]; omega
def last4 (l : List UInt8) : List UInt8 := l.drop (l.length - 4)
theorem last4_length {l : List UInt8} (h : 4 ≤ l.length) : (last4 l).length = 4 := by simp [last4]; omega
theorem last4_append {l m : List UInt8} (h : m.length = 4) : last4 (l ++ m) = m := by
  unfold last4
  rw [List.length_append, h, Nat.add_sub_cancel, List.drop_left]
/-- A text, record by record. -/
def addB (b : List UInt8) : List Rc → List UInt8
  | [] => b
  | r :: l => addB (b ++ frameB (last4 b) r) l
def textB (g c : Nat) (l : List Rc) : List UInt8 := addB (headB g c) l
theorem addB_snoc (r : Rc) : ∀ (l : List Rc) (b : List UInt8), addB b (l ++ [r]) = addB b l ++ frameB (last4 (addB b l)) r
  | [], b => rfl
  | x :: l, b => by
    show addB (b ++ frameB (last4 b) x) (l ++ [r]) = _
    rw [addB_snoc r l]
    rfl
def bodies (l : List Rc) : Nat := (l.map fun r => 8 + r.body.length).sum
theorem addB_length : ∀ (l : List Rc) (b : List UInt8), (addB b l).length = b.length + bodies l
  | [], b => by simp [addB, bodies]
  | x :: l, b => by
    show (addB (b ++ frameB (last4 b) x) l).length = _
    rw [addB_length l, List.length_append, frameB_length]
    simp [bodies]
    omega
theorem textB_length (g c : Nat) (l : List Rc) : (textB g c l).length = 18 + bodies l := by rw [textB, addB_length, headB_length]
theorem textB_snoc (g c : Nat) (l : List Rc) (r : Rc) : textB g c (l ++ [r]) = textB g c l ++ frameB (last4 (textB g c l)) r := addB_snoc r l _
/-- So many bytes from a place on. -/
def part (l : List UInt8) (p n : Nat) : List UInt8 := (l.drop p).take n
theorem part_length {l : List UInt8} {p n : Nat} (h : p + n ≤ l.length) : (part l p n).length = n := by simp [part]; omega
theorem part_split {l : List UInt8} {p a b : Nat} : part l p (a + b) = part l p a ++ part l (p + a) b := by
  unfold part
  rw [List.take_add, List.drop_drop]
/-- What a head tells: generation and count. -/
def headR (l : List UInt8) : Option (Nat × Nat) :=
  if 18 ≤ l.length ∧ l.length ≤ 65536 ∧ part l 0 2 = [113, 106] ∧ 1 ≤ numB (part l 2 8) ∧ numB (part l 2 8) ≤ 4611686018427387904 ∧ numB (part l 14 4) = Crc.crc (part l 0 14) then some (numB (part l 2 8), numB (part l 10 4)) else none
/-- The record whose frame begins at a place. -/
def bodyLen (l : List UInt8) (p : Nat) : Nat := numB (part l (p + 1) 2)
def nextR (l : List UInt8) (p : Nat) : Option Rc :=
  if p + 8 + bodyLen l p ≤ l.length ∧ bodyLen l p ≤ 4200 ∧ part l p 4 = four (numB (part l p 1)) (bodyLen l p) ∧ 1 ≤ numB (part l p 1) ∧ numB (part l p 1) ≤ 4 ∧ numB (part l (p + 4 + bodyLen l p) 4) = Crc.crc (part l (p - 4) 4 ++ part l p (4 + bodyLen l p)) then some ⟨(numB (part l p 1) : Int), part l (p + 4) (bodyLen l p)⟩ else none
theorem nextR_len {l : List UInt8} {p : Nat} {r : Rc} (h : nextR l p = some r) : p + 8 + r.body.length ≤ l.length := by
  unfold nextR at h
  split at h
  · rename_i hh
    injection h with h
    subst h
    show p + 8 + (part l (p + 4) (bodyLen l p)).length ≤ _
    rw [part_length (by omega)]
    omega
  · cases h
/-- The records from a place on, and where they end. -/
def framesR (l : List UInt8) : Nat → Nat → List Rc × Nat
  | 0, p => ([], p)
  | f + 1, p => match nextR l p with
    | none => ([], p)
    | some r => let (m, q) := framesR l f (p + 8 + r.body.length); (r :: m, q)
/-- What a file tells. -/
structure Fi where
  gen : Nat
  count : Nat
  recs : List Rc
  fin : Nat
def readR (l : List UInt8) : Option Fi :=
  match headR l with
  | none => none
  | some (g, c) => let (m, q) := framesR l l.length 18; some ⟨g, c, m, q⟩
def Fi.sound (f : Fi) : Bool := decide (f.count ≤ f.recs.length)
end Go.Proofs.YtpkdalpjfcopbaaDoor
