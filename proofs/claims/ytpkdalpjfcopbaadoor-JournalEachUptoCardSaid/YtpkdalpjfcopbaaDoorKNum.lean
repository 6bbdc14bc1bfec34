/-
  The document's number, and the program's big: so many bytes, the highest first.
-/
import Derived.Test.YtpkdalpjfcopbaaDoorKPure
import Derived.Test.YtpkdalpjfcopbaaDoorAFil
import Derived.Test.YtpkdalpjfcopbaaDoorSum
namespace Go.Proofs.YtpkdalpjfcopbaaDoor
open Go.RowKit

theorem bvs_one_nat (x : Nat) : bvs [UInt8.ofNat x] = [.int .u8 ((x : Int) % 256)] := by
  simp only [bvs, List.map_cons, List.map_nil, UInt8.toNat_ofNat', List.cons.injEq, Value.int.injEq, true_and, and_true]
  omega
set_option maxRecDepth 100000 in
set_option maxHeartbeats 800000 in
theorem number_any (v b : Nat) (w : World) (hv : v < 9223372036854775808) (hb1 : 1 ≤ b) (hb : b ≤ 8) :
    Calls Tryd.prog 76 #[.int .i64 v, .int .i64 b] w fun e w' => ∃ u, e = .returned u ∧ w'.ownsRow w.heap.size 5 1 u b (bvs (beN v b)) ∧ Below w.heap.size w w' := by
  obtain ⟨i0, hi0, hz0, hz1, hz2⟩ := info_parts info_u8
  go_enter Tryd.func76, Tryd.ntmps76
  go_wp2_with fail
  go_loopw [5, 6, 7, 8] (fun l i _ _ wr => ∃ j : Nat, j ≤ b ∧ i = .int .i64 ((b : Int) - 1 - (j : Int)) ∧ wr.ownsRow w.heap.size 5 1 l j (bvs ((beN v b).take j)) ∧ Below w.heap.size w wr) (fun _ i _ _ _ => ((intOf i) + 1).toNat)
  case atStart => exact ⟨0, by omega, by simp, ⟨by simp [bvs], .inl ⟨rfl, rfl⟩⟩, Below.refl _ _⟩
  case round =>
    obtain ⟨j, hj, rfl, ho, hbw⟩ := hrel
    obtain ⟨Al, capl, rfl, _, _⟩ := own_shape ho
    by_cases hlt : j < b
    · have HT := Lib.hid (beN_take v b j hlt)
      obtain ⟨d, hd⟩ : ∃ d : Nat, (b : Int) - 1 - (j : Int) = (d : Int) := ⟨b - 1 - j, by omega⟩
      have hd2 : b - 1 - j = d := by omega
      rw [hd2] at HT
      have hd3 : d ≤ 7 := by omega
      rw [hd]
      have HD := Lib.hid hd
      clear hd hd2
      go_wp2_with fail
      go_loop [7, 8] (fun x k => ∃ m : Nat, m ≤ d ∧ k = .int .i64 m ∧ x = .int .i64 ((v / 256 ^ m : Nat) : Int)) (fun _ k => d - (intOf k).toNat)
      case atStart => exact ⟨0, by omega, rfl, by simp⟩
      case round =>
        obtain ⟨m, hm, rfl, rfl⟩ := hrel
        have hX : v / 256 ^ m < 9223372036854775808 := Nat.lt_of_le_of_lt (Nat.div_le_self _ _) hv
        have hS : v / 256 ^ (m + 1) = v / 256 ^ m / 256 := by rw [Nat.pow_succ, Nat.div_div_eq_div_mul]
        have HS := Lib.hid hS
        clear hS
        by_cases hlt2 : m < d
        · generalize v / 256 ^ m = X at *
          go_wp2
          go_round
          case rel => exact ⟨m + 1, by omega, by go_num, by rw [HS.out]; first | rfl | go_num⟩
          case measure => simp [intOf] <;> omega
        · obtain rfl : d = m := by omega
          generalize hX : v / 256 ^ d = X at *
          have HX := Lib.hid (bvs_one_nat X)
          clear hX
          go_wp2_with (
             at_builtin
             refine app1 wr (by rfl) _ _ 22 (by rfl) w.heap.size 5 i0 _ 1 u_bytes hi0 hz0 hz1 hz2 rfl _ _ _ (by rfl) ho _ (by rfl) (by rfl) (by simp only [maxLen]; omega) (by omega) hbw.size ?_
             intro v2 w2 hown2 hb2 _)
          go_roundw
          case rel =>
            refine ⟨j + 1, by omega, ?_, ?_, hbw.trans hb2⟩
            · have := HD.out
              exact congrArg (Value.int .i64) (by omega)
            · rw [HT.out, bvs_append, HX.out]; exact hown2
          case measure => simp [intOf] <;> omega
    · obtain rfl : b = j := by omega
      have hneg : (b : Int) - 1 - (b : Int) < 0 := by omega
      rw [List.take_of_length_le (by rw [beN_length]; omega)] at ho
      go_wp2
      go_ret
      exact ⟨_, rfl, ho, hbw⟩
theorem big_byte (v d : Nat) : bvs [UInt8.ofNat (v / 256 ^ d)] = [.int .u8 ((v : Int) / 2 ^ (8 * d) % 256)] := by
  have e : 256 ^ d = 2 ^ (8 * d) := by rw [Nat.pow_mul]
  rw [bvs_one_nat, e]
  push_cast
  rfl
set_option maxRecDepth 100000 in
set_option maxHeartbeats 800000 in
theorem big_any (base : Nat) (A : Option Addr) (n cap v b : Nat) (bs : List UInt8) (w : World) (ho : w.ownsRow base 5 1 (.slice A n cap) n (bvs bs)) (hn : n ≤ 140737488351232) (hbase : base ≤ w.heap.size) (_hv : v < 9223372036854775808) (hb1 : 1 ≤ b) (hb : b ≤ 8) :
    Calls Tryd.prog 71 #[.slice A n cap, .int .i64 v, .int .i64 b] w fun e w' => ∃ A' cap', e = .returned (.slice A' (n + b) cap') ∧ w'.ownsRow base 5 1 (.slice A' (n + b) cap') (n + b) (bvs (bs ++ beN v b)) ∧ Below base w w' := by
  obtain ⟨i0, hi0, hz0, hz1, hz2⟩ := info_parts info_u8
  have HO := Lib.hid ho
  clear ho
  go_enter Tryd.func71, Tryd.ntmps71
  go_wp2_with fail
  go_loopw [0, 7] (fun l i wr => ∃ j : Nat, j ≤ b ∧ i = .int .i64 (8 * ((b : Int) - 1 - (j : Int))) ∧ wr.ownsRow base 5 1 l (n + j) (bvs (bs ++ (beN v b).take j)) ∧ Below base w wr) (fun _ i _ => ((intOf i) + 8).toNat)
  case atStart => exact ⟨0, by omega, by simp, by rw [List.take_zero, List.append_nil]; exact HO.out, Below.refl _ _⟩
  case round =>
    obtain ⟨j, hj, rfl, ho, hbw⟩ := hrel
    obtain ⟨Al, capl, rfl, _, _⟩ := own_shape ho
    by_cases hlt : j < b
    · have HT := Lib.hid (beN_take v b j hlt)
      obtain ⟨d, hd⟩ : ∃ d : Nat, (b : Int) - 1 - (j : Int) = (d : Int) := ⟨b - 1 - j, by omega⟩
      have hd2 : b - 1 - j = d := by omega
      rw [hd2] at HT
      have hd3 : d ≤ 7 := by omega
      rw [hd]
      have HD := Lib.hid hd
      clear hd hd2
      have h0 : (0 : Int) ≤ 8 * (d : Int) := by omega
      have HX := Lib.hid (big_byte v d)
      go_wp2_with (
         at_builtin
         refine app1 wr (by rfl) _ _ 22 (by rfl) base 5 i0 _ 1 u_bytes hi0 hz0 hz1 hz2 rfl _ _ _ (by rfl) ho _ (by rfl) (by rfl) (by simp only [maxLen]; omega) (by omega) (by have := hbw.size; omega) ?_
         intro v2 w2 hown2 hb2 _)
      go_roundw
      case rel =>
        refine ⟨j + 1, by omega, ?_, ?_, hbw.trans hb2⟩
        · have := HD.out
          exact congrArg (Value.int .i64) (by omega)
        · rw [HT.out, ← List.append_assoc, bvs_append, HX.out]; exact hown2
      case measure => simp [intOf] <;> omega
    · obtain rfl : b = j := by omega
      have hneg : 8 * ((b : Int) - 1 - (b : Int)) < 0 := by omega
      rw [List.take_of_length_le (by rw [beN_length]; omega)] at ho
      go_wp2
      go_ret
      exact ⟨_, _, rfl, ho, hbw⟩
end Go.Proofs.YtpkdalpjfcopbaaDoor
