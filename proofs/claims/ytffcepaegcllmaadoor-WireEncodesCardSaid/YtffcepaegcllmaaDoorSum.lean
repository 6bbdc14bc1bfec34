/-
  wire.Sum and the reference's Sum: each returns the plain sum of the bytes that its slice reads as, and leaves the world alone.
-/
import Derived.Test.YtffcepaegcllmaaDoorProg
import Derived.Test.YtffcepaegcllmaaDoorCrc
import Derived.Test.YtffcepaegcllmaaDoorMem
import Derived.WalkSpells
import Derived.WalkLawsBesides
namespace Go.Proofs.YtffcepaegcllmaaDoor
open Go.RowKit

theorem xor_u32 (a b : Nat) (ha : a < 4294967296) (hb : b < 4294967296) : bits .xor .u32 (a : Int) (b : Int) = ((a ^^^ b : Nat) : Int) := by
  have hx : a ^^^ b < 2 ^ 32 := Nat.xor_lt_two_pow ha hb
  show IntKind.u32.wrap ((BitVec.ofInt 32 (a : Int) ^^^ BitVec.ofInt 32 (b : Int)).toNat : Int) = _
  rw [BitVec.toNat_xor, BitVec.ofInt_natCast, BitVec.ofInt_natCast, BitVec.toNat_ofNat, BitVec.toNat_ofNat, Nat.mod_eq_of_lt ha, Nat.mod_eq_of_lt hb]
  simp only [IntKind.wrap, IntKind.signed, IntKind.bits, Bool.false_and, Bool.false_eq_true, if_false]
  omega
theorem and15_u32 (a : Nat) (ha : a < 4294967296) : bits .and .u32 (a : Int) 15 = ((a % 16 : Nat) : Int) := by
  have hx : a &&& 15 = a % 16 := Nat.and_two_pow_sub_one_eq_mod a 4
  show IntKind.u32.wrap ((BitVec.ofInt 32 (a : Int) &&& BitVec.ofInt 32 ((15 : Nat) : Int)).toNat : Int) = _
  rw [BitVec.toNat_and, BitVec.ofInt_natCast, BitVec.ofInt_natCast, BitVec.toNat_ofNat, BitVec.toNat_ofNat, Nat.mod_eq_of_lt ha, show 15 % 2 ^ 32 = 15 from rfl, hx]
  simp only [IntKind.wrap, IntKind.signed, IntKind.bits, Bool.false_and, Bool.false_eq_true, if_false]
  omega
theorem nibStep_u32 (y : Nat) (h : y < 4294967296) : bits .xor .u32 ((y : Int) / 16) (Crc.nib (y % 16) : Int) = (Crc.steps 4 y : Int) := by
  have := xor_u32 (y / 16) (Crc.nib (y % 16)) (by omega) (Crc.nib_lt _)
  rw [Crc.nibStep_eq] at this
  exact this
theorem not_u32 (s : Nat) (h : s < 4294967296) : bits .xor .u32 IntKind.u32.max (s : Int) = ((s ^^^ 4294967295 : Nat) : Int) := by
  have := xor_u32 4294967295 s (by omega) h
  rw [Nat.xor_comm] at this
  exact this
theorem xor_i64 (a b : Nat) (ha : a < 9223372036854775808) (hb : b < 9223372036854775808) : bits .xor .i64 (a : Int) (b : Int) = ((a ^^^ b : Nat) : Int) := by
  have hx : a ^^^ b < 2 ^ 63 := Nat.xor_lt_two_pow ha hb
  show IntKind.i64.wrap ((BitVec.ofInt 64 (a : Int) ^^^ BitVec.ofInt 64 (b : Int)).toNat : Int) = _
  rw [BitVec.toNat_xor, BitVec.ofInt_natCast, BitVec.ofInt_natCast, BitVec.toNat_ofNat, BitVec.toNat_ofNat, Nat.mod_eq_of_lt (by omega), Nat.mod_eq_of_lt (by omega), IntKind.wrap_i64]
  omega

/-- The table of four bits, as the program's text lays it. -/
def Nibs (w : World) : Prop := ∀ k, k < 16 → w.cell? ⟨0, k, none⟩ = some (.int .u32 (Crc.nib k : Int))

set_option maxHeartbeats 400000 in
theorem Sum_any (A : Option Addr) (n cap B : Nat) (bs : List UInt8) (w : World) (hr : RdB w B A n bs) (hn : n ≤ 9223372036854775807) (ht : Nibs w) :
    Calls Tryd.prog 41 #[.slice A n cap] w fun e w' => e = .returned (.int .i64 (Crc.crc bs : Int)) ∧ w = w' := by
  have hl := hr.lenB
  have HT := Lib.hid ht
  clear ht
  go_enter Tryd.func41, Tryd.ntmps41
  go_wp2
  go_loop [3, 5, 8] (fun x c i => ∃ (k : Nat), k ≤ n ∧ i = .int .i64 k ∧ x = .int .u32 (Crc.st 4294967295 (bs.take k) : Nat)) (fun _ _ i => n - (intOf i).toNat)
  case atStart => exact ⟨0, by omega, rfl, rfl⟩
  case round =>
    obtain ⟨k, hk, rfl, rfl⟩ := hrel
    have hs : Crc.st 4294967295 (bs.take k) < 4294967296 := Crc.st_lt _ (by omega)
    by_cases hlt : k < n
    · obtain ⟨b, off, c, rfl, hb, hck, hcell⟩ := hr.byte hlt
      have HC := Lib.hid hck
      have hcb := c.toNat_lt
      have HN := Lib.hid (Crc.st_take_succ (w := 4294967295) hck)
      clear hck
      generalize hg : Crc.st 4294967295 (bs.take k) = s at *
      have HG := Lib.hid hg
      clear hg
      have hx := xor_u32 s c.toNat hs (by omega)
      have hx1 : s ^^^ c.toNat < 4294967296 := Nat.xor_lt_two_pow (n := 32) hs (by omega)
      have HD := Lib.hid (Crc.byteStep_nib s c.toNat)
      generalize s ^^^ c.toNat = y at *
      have ha := and15_u32 y hx1
      have hc1 := HT.out (y % 16) (Nat.mod_lt _ (by omega))
      have hx2 := nibStep_u32 y hx1
      have hx3 : Crc.steps 4 y < 4294967296 := Crc.steps_lt 4 hx1
      generalize Crc.steps 4 y = z at *
      have ha2 := and15_u32 z hx3
      have hc2 := HT.out (z % 16) (Nat.mod_lt _ (by omega))
      have hx4 := nibStep_u32 z hx3
      go_wp2
      go_round
      case rel => exact ⟨k + 1, by omega, by go_num, by rw [HN.out, ← HD.out]⟩
      case measure => simp [intOf]; omega
    · go_wp2
      go_ret
      obtain rfl : k = n := by omega
      exact ⟨ret_int (by rw [List.take_of_length_le (by omega), not_u32 _ (Crc.st_lt _ (by omega))]; exact IntWalk.wrap64_in _ ⟨by omega, by have := Crc.crc_lt bs; unfold Crc.crc at this; omega⟩), rfl⟩

theorem refStep_i64 (s : Nat) (hs : s < 4294967296) (h1 : s % 2 = 1) : bits .xor .i64 ((s : Int) / 2) 3988292384 = (Crc.bitStep s : Int) := by
  have := xor_i64 (s / 2) 3988292384 (by omega) (by omega)
  unfold Crc.bitStep
  rw [if_pos h1]
  exact this
theorem end_i64 (s : Nat) (hs : s < 4294967296) : bits .xor .i64 (s : Int) 4294967295 = ((s ^^^ 4294967295 : Nat) : Int) :=
  xor_i64 s 4294967295 (by omega) (by omega)

set_option maxHeartbeats 800000 in
theorem RSum_any (A : Option Addr) (n cap B : Nat) (bs : List UInt8) (w : World) (hr : RdB w B A n bs) (hn : n ≤ 9223372036854775807) :
    Calls Tryd.prog 86 #[.slice A n cap] w fun e w' => e = .returned (.int .i64 (Crc.crc bs : Int)) ∧ w = w' := by
  have hl := hr.lenB
  go_enter Tryd.func86, Tryd.ntmps86
  go_wp2
  go_loop [3, 4, 5, 6] (fun x i _ _ => ∃ (k : Nat), k ≤ n ∧ i = .int .i64 k ∧ x = .int .i64 (Crc.st 4294967295 (bs.take k) : Nat)) (fun _ i _ _ => n - (intOf i).toNat)
  case atStart => exact ⟨0, by omega, rfl, rfl⟩
  case round =>
    obtain ⟨k, hk, rfl, rfl⟩ := hrel
    have hs : Crc.st 4294967295 (bs.take k) < 4294967296 := Crc.st_lt _ (by omega)
    by_cases hlt : k < n
    · obtain ⟨b, off, c, rfl, hb, hck, hcell⟩ := hr.byte hlt
      have hcb := c.toNat_lt
      have HN := Lib.hid (Crc.st_take_succ (w := 4294967295) hck)
      clear hck
      generalize Crc.st 4294967295 (bs.take k) = s at *
      have hx := xor_i64 s c.toNat (by omega) (by omega)
      have hx1 : s ^^^ c.toNat < 4294967296 := Nat.xor_lt_two_pow (n := 32) hs (by omega)
      have HD := Lib.hid (show Crc.byteStep s c.toNat = Crc.steps 8 (s ^^^ c.toNat) from rfl)
      generalize s ^^^ c.toNat = y at *
      go_wp2
      go_loop [3, 5, 6] (fun x j _ => ∃ (m : Nat), m ≤ 8 ∧ j = .int .i64 m ∧ x = .int .i64 (Crc.steps m y : Nat)) (fun _ j _ => 8 - (intOf j).toNat)
      case atStart => exact ⟨0, by omega, rfl, rfl⟩
      case round =>
        obtain ⟨m, hm, rfl, rfl⟩ := hrel
        have ht : Crc.steps m y < 4294967296 := Crc.steps_lt m hx1
        have HS := Lib.hid (Crc.steps_succ m y)
        by_cases hm8 : m < 8
        · generalize Crc.steps m y = t at *
          by_cases h1 : t % 2 = 1
          · have H1 := Lib.hid h1
            have hp : ((t : Int) % 2 == 1) = true := by simp; omega
            have hz := refStep_i64 t ht h1
            clear h1
            go_wp2
            go_round
            case rel => exact ⟨m + 1, by omega, by go_num, by rw [HS.out]⟩
            case measure => simp [intOf]; omega
          · have hp : ((t : Int) % 2 == 1) = false := by simp; omega
            have HZ := Lib.hid (show Crc.bitStep t = t / 2 from if_neg h1)
            clear h1
            go_wp2
            go_round
            case rel => exact ⟨m + 1, by omega, by go_num, by rw [HS.out, HZ.out]; go_num⟩
            case measure => simp [intOf]; omega
        · obtain rfl : m = 8 := by omega
          go_wp2
          go_round
          case rel => exact ⟨k + 1, by omega, by go_num, by rw [HN.out, HD.out]⟩
          case measure => simp [intOf]; omega
    · have he := end_i64 _ hs
      go_wp2
      go_ret
      obtain rfl : k = n := by omega
      exact ⟨ret_int (by rw [List.take_of_length_le (by omega)]; rfl), rfl⟩
theorem Nibs.below {w w' : World} (h : Nibs w) (hb : Below w.heap.size w w') : Nibs w' := fun k hk => by
  have h0 := h k hk
  have hlt : 0 < w.heap.size := by
    rcases Nat.lt_or_ge 0 w.heap.size with h1 | h1
    · exact h1
    · unfold World.cell? at h0
      rw [Array.getElem?_eq_none h1] at h0
      cases h0
  exact (hb.cell (p := ⟨0, k, none⟩) hlt).trans h0

end Go.Proofs.YtffcepaegcllmaaDoor
