/-
  The 32-bit sum in plain mathematics, on natural numbers: one bit's step, four bits at once, linearity, what a sum behind its own text gives. No program text.
-/
namespace Go.Proofs.YtffcepaegcllmaaDoor.Crc

def poly : Nat := 3988292384
def bitStep (w : Nat) : Nat := if w % 2 = 1 then (w / 2) ^^^ 3988292384 else w / 2
def nibs : List Nat := [0x00000000, 0x1DB71064, 0x3B6E20C8, 0x26D930AC, 0x76DC4190, 0x6B6B51F4, 0x4DB26158, 0x5005713C, 0xEDB88320, 0xF00F9344, 0xD6D6A3E8, 0xCB61B38C, 0x9B64C2B0, 0x86D3D2D4, 0xA00AE278, 0xBDBDF21C]
def nib (k : Nat) : Nat := nibs.getD k 0
def steps : Nat → Nat → Nat
  | 0, w => w
  | n + 1, w => steps n (bitStep w)
def byteStep (w c : Nat) : Nat := steps 8 (w ^^^ c)
def st (w : Nat) (l : List UInt8) : Nat := l.foldl (fun w c => byteStep w c.toNat) w
theorem st_nil (w : Nat) : st w [] = w := rfl
theorem st_cons (w : Nat) (c : UInt8) (l : List UInt8) : st w (c :: l) = st (byteStep w c.toNat) l := rfl
def full : Nat := 4294967295
def crc (l : List UInt8) : Nat := st 4294967295 l ^^^ 4294967295

theorem xor_half (a b : Nat) : (a ^^^ b) / 2 = a / 2 ^^^ b / 2 := by
  have := Nat.shiftRight_xor_distrib (a := a) (b := b) (i := 1)
  simpa [Nat.shiftRight_succ] using this
theorem xor_low (a b : Nat) : (a ^^^ b) % 2 = (a % 2 + b % 2) % 2 := by
  have h : (a ^^^ b).testBit 0 = (a.testBit 0 ^^ b.testBit 0) := Nat.testBit_xor a b 0
  simp only [Nat.testBit_zero] at h
  rcases Nat.mod_two_eq_zero_or_one a with ha | ha <;> rcases Nat.mod_two_eq_zero_or_one b with hb | hb <;>
    rcases Nat.mod_two_eq_zero_or_one (a ^^^ b) with hc | hc <;> simp [ha, hb, hc] at h ⊢

theorem bitStep_xor (a b : Nat) : bitStep (a ^^^ b) = bitStep a ^^^ bitStep b := by
  unfold bitStep
  rw [xor_low, xor_half]
  rcases Nat.mod_two_eq_zero_or_one a with ha | ha <;> rcases Nat.mod_two_eq_zero_or_one b with hb | hb <;> simp [ha, hb]
  · rw [Nat.xor_assoc]
  · rw [Nat.xor_assoc, Nat.xor_assoc, Nat.xor_comm (b / 2)]
  · rw [Nat.xor_assoc, ← Nat.xor_assoc 3988292384, Nat.xor_comm 3988292384, Nat.xor_assoc, Nat.xor_self, Nat.xor_zero]
theorem bitStep_lt {w : Nat} (h : w < 4294967296) : bitStep w < 4294967296 := by
  unfold bitStep
  split
  · exact Nat.xor_lt_two_pow (n := 32) (by omega) (by decide)
  · omega
theorem bitStep_zero : bitStep 0 = 0 := rfl
theorem steps_xor (n : Nat) : ∀ a b, steps n (a ^^^ b) = steps n a ^^^ steps n b := by
  induction n with
  | zero => intro a b; rfl
  | succ n ih => intro a b; simp only [steps, bitStep_xor, ih]
theorem steps_lt (n : Nat) : ∀ {w : Nat}, w < 4294967296 → steps n w < 4294967296 := by
  induction n with
  | zero => intro w h; exact h
  | succ n ih => intro w h; exact ih (bitStep_lt h)
theorem steps_zero (n : Nat) : steps n 0 = 0 := by
  induction n with
  | zero => rfl
  | succ n ih => exact ih
theorem steps_add (m n : Nat) : ∀ w, steps (m + n) w = steps n (steps m w) := by
  induction m with
  | zero => intro w; simp [steps]
  | succ m ih => intro w; rw [Nat.succ_add]; exact ih _
theorem steps_succ (n w : Nat) : steps (n + 1) w = bitStep (steps n w) := by
  rw [steps_add n 1]; rfl
theorem bitStep_even (q : Nat) : bitStep (2 * q) = q := by unfold bitStep; rw [if_neg (by omega)]; omega
/-- n low bits that are all clear only move the word. -/
theorem steps_shift (n : Nat) : ∀ q, steps n (2 ^ n * q) = q := by
  induction n with
  | zero => intro q; simp [steps]
  | succ n ih =>
    intro q
    have e : 2 ^ (n + 1) * q = 2 * (2 ^ n * q) := by rw [Nat.pow_succ, Nat.mul_comm (2 ^ n) 2, Nat.mul_assoc]
    rw [steps, e, bitStep_even, ih]
theorem split_xor (n w : Nat) : w = (2 ^ n * (w / 2 ^ n)) ^^^ (w % 2 ^ n) := by
  apply Nat.eq_of_testBit_eq
  intro i
  rw [Nat.testBit_xor, Nat.testBit_two_pow_mul, Nat.testBit_mod_two_pow]
  by_cases h : i < n
  · simp [h, Nat.not_le.2 h]
  · have h' : n ≤ i := Nat.le_of_not_lt h
    simp [h, h', Nat.testBit_div_two_pow]
theorem nib_eq (k : Nat) (h : k < 16) : nib k = steps 4 k := by
  have : ∀ k : Fin 16, nib k.val = steps 4 k.val := by decide
  exact this ⟨k, h⟩
/-- Four steps at once, by the table. -/
theorem nibStep_eq (w : Nat) : w / 16 ^^^ nib (w % 16) = steps 4 w := by
  rw [nib_eq _ (Nat.mod_lt _ (by omega))]
  conv => rhs; rw [split_xor 4 w, steps_xor, steps_shift]
theorem nib_lt (k : Nat) : nib k < 4294967296 := by
  by_cases h : k < 16
  · rw [nib_eq k h]; exact steps_lt 4 (by omega)
  · unfold nib
    rw [List.getD_eq_getElem?_getD, List.getElem?_eq_none (by simp [nibs]; omega)]
    decide
theorem byteStep_nib (w c : Nat) : steps 4 (steps 4 (w ^^^ c)) = byteStep w c := by
  unfold byteStep; rw [← steps_add]
theorem byteStep_lt {w : Nat} (h : w < 4294967296) (c : UInt8) : byteStep w c.toNat < 4294967296 :=
  steps_lt 8 (Nat.xor_lt_two_pow (n := 32) h (by have := c.toNat_lt; omega))
theorem st_lt (l : List UInt8) : ∀ {w : Nat}, w < 4294967296 → st w l < 4294967296 := by
  induction l with
  | nil => intro w h; exact h
  | cons c l ih => intro w h; exact ih (byteStep_lt h c)
theorem st_append (l m : List UInt8) : ∀ w, st w (l ++ m) = st (st w l) m := by
  induction l with
  | nil => intro w; rfl
  | cons c l ih => intro w; exact ih _
theorem st_snoc (w : Nat) (l : List UInt8) (c : UInt8) : st w (l ++ [c]) = byteStep (st w l) c.toNat := by
  rw [st_append, st_cons, st_nil]
theorem crc_lt (l : List UInt8) : crc l < 4294967296 := Nat.xor_lt_two_pow (n := 32) (st_lt l (by omega)) (by decide)
theorem st_take_succ {w k : Nat} {l : List UInt8} {c : UInt8} (h : l[k]? = some c) : st w (l.take (k + 1)) = byteStep (st w (l.take k)) c.toNat := by
  obtain ⟨hk, rfl⟩ := List.getElem?_eq_some_iff.1 h
  rw [List.take_succ_eq_append_getElem hk, st_snoc]

theorem steps_full : steps 32 4294967295 = 3736805603 := by decide
attribute [local irreducible] steps st
/-! ### Linearity -/
theorem byteStep_xor (a b c d : Nat) : byteStep (a ^^^ b) (c ^^^ d) = byteStep a c ^^^ byteStep b d := by
  unfold byteStep
  rw [← steps_xor]
  congr 1
  simp only [Nat.xor_assoc]
  congr 1
  rw [← Nat.xor_assoc, ← Nat.xor_assoc, Nat.xor_comm b c]
def zipx : List UInt8 → List UInt8 → List UInt8 := List.zipWith (· ^^^ ·)
theorem zipx_cons (c d : UInt8) (l m : List UInt8) : zipx (c :: l) (d :: m) = (c ^^^ d) :: zipx l m := rfl
theorem zipx_nil : zipx [] [] = [] := rfl
theorem st_zip (l : List UInt8) : ∀ (m : List UInt8), l.length = m.length → ∀ a b, st (a ^^^ b) (zipx l m) = st a l ^^^ st b m := by
  induction l with
  | nil =>
    intro m h a b
    obtain rfl : m = [] := List.eq_nil_of_length_eq_zero (by simpa using h.symm)
    rw [zipx_nil, st_nil, st_nil, st_nil]
  | cons c l ih =>
    intro m h a b
    cases m with
    | nil => simp at h
    | cons d m =>
      rw [zipx_cons, st_cons, st_cons, st_cons, UInt8.toNat_xor, byteStep_xor, ih m (by simpa using h)]
theorem zipx_length (l m : List UInt8) : (zipx l m).length = min l.length m.length := by simp [zipx]
theorem three (f : Nat) (a b c : List UInt8) (h1 : a.length = b.length) (h2 : b.length = c.length) :
    st f (zipx (zipx a b) c) ^^^ f = (st f a ^^^ f) ^^^ (st f b ^^^ f) ^^^ (st f c ^^^ f) := by
  have e : st f (zipx (zipx a b) c) = st ((f ^^^ f) ^^^ f) (zipx (zipx a b) c) := by rw [Nat.xor_self, Nat.zero_xor]
  rw [e, st_zip _ _ (by rw [zipx_length]; omega), st_zip _ _ h1]
  generalize st f a = x
  generalize st f b = y
  generalize st f c = z
  rw [Nat.xor_assoc x f, Nat.xor_comm f, Nat.xor_assoc y f f, Nat.xor_self, Nat.xor_zero, Nat.xor_assoc (x ^^^ y)]
theorem crc_three (a b c : List UInt8) (h1 : a.length = b.length) (h2 : b.length = c.length) : crc (zipx (zipx a b) c) = crc a ^^^ crc b ^^^ crc c :=
  three 4294967295 a b c h1 h2

/-! ### A sum behind its own text -/
def le4 (s : Nat) : List UInt8 := [UInt8.ofNat s, UInt8.ofNat (s / 256), UInt8.ofNat (s / 65536), UInt8.ofNat (s / 16777216)]
theorem byteStep_word (w s : Nat) : byteStep w (s % 256) = steps 8 (w ^^^ s) ^^^ s / 256 := by
  have h := split_xor 8 s
  have e : w ^^^ s = (w ^^^ s % 2 ^ 8) ^^^ (2 ^ 8 * (s / 2 ^ 8)) := by
    conv => lhs; rw [h]
    rw [Nat.xor_comm (2 ^ 8 * _), Nat.xor_assoc]
  rw [e, steps_xor, steps_shift, Nat.xor_assoc, Nat.xor_self, Nat.xor_zero]
  rfl
theorem st_le4 (w s : Nat) (hs : s < 4294967296) : st w (le4 s) = steps 32 (w ^^^ s) := by
  simp only [le4, st_cons, st_nil, UInt8.toNat_ofNat']
  rw [show (2 : Nat) ^ 8 = 256 from rfl, byteStep_word, byteStep_word, byteStep_word, byteStep_word]
  have e1 : s / 256 / 256 = s / 65536 := by omega
  have e2 : s / 65536 / 256 = s / 16777216 := by omega
  have e3 : s / 16777216 / 256 = 0 := by omega
  rw [e1, e2, e3, Nat.xor_zero]
  simp only [Nat.xor_assoc, Nat.xor_self, Nat.xor_zero]
  rw [← steps_add, ← steps_add, ← steps_add]
theorem st_own (l : List UInt8) : st 4294967295 (l ++ le4 (crc l)) = 3736805603 := by
  rw [st_append, st_le4 _ _ (crc_lt l)]
  unfold crc
  rw [← Nat.xor_assoc, Nat.xor_self, Nat.zero_xor, steps_full]
theorem crc_own (l : List UInt8) : crc (l ++ le4 (crc l)) = 558161692 := by
  unfold crc
  have := st_own l
  unfold crc at this
  rw [this]
  decide
end Go.Proofs.YtffcepaegcllmaaDoor.Crc
