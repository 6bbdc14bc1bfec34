/-
  The document's frame beside what stands in the file: plain. No program text.
-/
import Derived.Test.YtpkdalpjfcopbaaDoorKRecP
namespace Go.Proofs.YtpkdalpjfcopbaaDoor
theorem frame_iff {l : List UInt8} {p : Nat} {y0 y1 y2 y3 : UInt8} (h : part l p 4 = [y0, y1, y2, y3]) {bl : Nat} (hbl : bl = y1.toNat * 256 + y2.toNat) (hp : p + 8 + bl ≤ l.length) :
    frameB (part l (p - 4) 4) ⟨(y0.toNat : Int), part l (p + 4) bl⟩ = part l p (8 + bl) ↔ (165 ^^^ y0 ^^^ y1 ^^^ y2 = y3 ∧ numB (part l (p + 4 + bl) 4) = Crc.crc (part l (p - 4) 4 ++ part l p (4 + bl))) := by
  have h1 := y1.toNat_lt
  have h2 := y2.toNat_lt
  have a1 : UInt8.ofNat y0.toNat = y0 := UInt8.ofNat_toNat
  have a2 : UInt8.ofNat (bl / 256) = y1 := by
    rw [show bl / 256 = y1.toNat by omega]
    exact UInt8.ofNat_toNat
  have a3 : UInt8.ofNat bl = y2 := by
    apply UInt8.toNat_inj.mp
    rw [UInt8.toNat_ofNat']
    omega
  have hlb : (part l (p + 4) bl).length = bl := part_length (by omega)
  have ef : four y0.toNat bl = [y0, y1, y2, 165 ^^^ y0 ^^^ y1 ^^^ y2] := by rw [four, a1, a2, a3]
  have eh : frameH ⟨(y0.toNat : Int), part l (p + 4) bl⟩ = [y0, y1, y2, 165 ^^^ y0 ^^^ y1 ^^^ y2] ++ part l (p + 4) bl := by
    rw [frameH]
    dsimp only
    rw [hlb, Int.toNat_natCast, ef]
  have es : part l p (8 + bl) = ([y0, y1, y2, y3] ++ part l (p + 4) bl) ++ part l (p + 4 + bl) 4 := by
    rw [show 8 + bl = 4 + (bl + 4) by omega, part_split, part_split, h, List.append_assoc]
  have e4 : part l p (4 + bl) = [y0, y1, y2, y3] ++ part l (p + 4) bl := by rw [part_split, h]
  rw [frameB, eh, es, e4]
  have hl4 : (part l (p + 4 + bl) 4).length = 4 := part_length (by omega)
  constructor
  · intro e
    have e1 := List.append_inj e (by simp)
    have e2 := List.append_inj e1.1 (by simp)
    have e3 : 165 ^^^ y0 ^^^ y1 ^^^ y2 = y3 := by
      have := e2.1
      injection this with _ this
      injection this with _ this
      injection this with _ this
      injection this
    refine ⟨e3, ?_⟩
    have e5 := e1.2
    rw [e3] at e5
    exact (beN_inj hl4 (Crc.crc_lt _)).1 e5
  · rintro ⟨e3, e5⟩
    rw [e3]
    congr 1
    exact (beN_inj hl4 (Crc.crc_lt _)).2 e5
end Go.Proofs.YtpkdalpjfcopbaaDoor
