/-
  What a frame's four bytes tell: plain. No program text.
-/
import Derived.Test.YtpkdalpjfcopbaaDoorKRead
namespace Go.Proofs.YtpkdalpjfcopbaaDoor
theorem list4 {l : List UInt8} (h : l.length = 4) : ∃ a b c d, l = [a, b, c, d] := by
  match l, h with
  | [a, b, c, d], _ => exact ⟨a, b, c, d, rfl⟩
theorem part_sub {l : List UInt8} {p n a b : Nat} (h : a + b ≤ n) : part (part l p n) a b = part l (p + a) b := by
  unfold part
  rw [List.drop_take, List.take_take, List.drop_drop, Nat.min_eq_left (by omega)]
theorem numB_one (a : UInt8) : numB [a] = a.toNat := by simp [numB]
theorem numB_two (a b : UInt8) : numB [a, b] = a.toNat * 256 + b.toNat := by simp [numB]
theorem nextR_four {l : List UInt8} {p : Nat} {y0 y1 y2 y3 : UInt8} (h : part l p 4 = [y0, y1, y2, y3]) {bl : Nat} (hbl : bl = y1.toNat * 256 + y2.toNat) :
    nextR l p = if p + 8 + bl ≤ l.length ∧ bl ≤ 4200 ∧ 165 ^^^ y0 ^^^ y1 ^^^ y2 = y3 ∧ 1 ≤ y0.toNat ∧ y0.toNat ≤ 4 ∧ numB (part l (p + 4 + bl) 4) = Crc.crc (part l (p - 4) 4 ++ part l p (4 + bl)) then some ⟨(y0.toNat : Int), part l (p + 4) bl⟩ else none := by
  have e1 : part l p 1 = [y0] := by
    have := part_sub (l := l) (p := p) (n := 4) (a := 0) (b := 1) (by omega)
    rw [h, Nat.add_zero] at this
    exact this.symm
  have e2 : part l (p + 1) 2 = [y1, y2] := by
    have := part_sub (l := l) (p := p) (n := 4) (a := 1) (b := 2) (by omega)
    rw [h] at this
    exact this.symm
  have eb : bodyLen l p = bl := by rw [bodyLen, e2, numB_two, hbl]
  have h1 := y1.toNat_lt
  have h2 := y2.toNat_lt
  have ef : (part l p 4 = four (numB (part l p 1)) (bodyLen l p)) ↔ 165 ^^^ y0 ^^^ y1 ^^^ y2 = y3 := by
    rw [h, e1, eb, numB_one, four]
    have a1 : UInt8.ofNat y0.toNat = y0 := UInt8.ofNat_toNat
    have a2 : UInt8.ofNat (bl / 256) = y1 := by
      rw [show bl / 256 = y1.toNat by omega]
      exact UInt8.ofNat_toNat
    have a3 : UInt8.ofNat bl = y2 := by
      apply UInt8.toNat_inj.mp
      rw [UInt8.toNat_ofNat']
      omega
    rw [a1, a2, a3]
    constructor
    · intro e
      injection e with _ e
      injection e with _ e
      injection e with _ e
      injection e with e
      exact e.symm
    · intro e
      rw [e]
  unfold nextR
  simp only [ef]
  rw [eb, e1, numB_one]
end Go.Proofs.YtpkdalpjfcopbaaDoor
