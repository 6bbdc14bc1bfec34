/-
  The reference's number: so many bytes, the highest first.
-/
import Derived.Test.YtgapkphkcncgeaaDoorHelp
namespace Go.Proofs.YtgapkphkcncgeaaDoor
open Go.RowKit

def beN (v b : Nat) : List UInt8 := (List.range b).map fun j => UInt8.ofNat (v / 256 ^ (b - 1 - j))
theorem beN_length (v b : Nat) : (beN v b).length = b := by simp [beN]
theorem beN_take (v b j : Nat) (h : j < b) : (beN v b).take (j + 1) = (beN v b).take j ++ [UInt8.ofNat (v / 256 ^ (b - 1 - j))] := by
  rw [List.take_succ_eq_append_getElem (by rw [beN_length]; exact h)]
  simp [beN]
theorem bvs_one_nat (x : Nat) : bvs [UInt8.ofNat x] = [.int .u8 ((x : Int) % 256)] := by
  simp only [bvs, List.map_cons, List.map_nil, UInt8.toNat_ofNat', List.cons.injEq, Value.int.injEq, true_and, and_true]
  omega
set_option maxRecDepth 100000 in
set_option maxHeartbeats 800000 in
theorem number_any (v b : Nat) (w : World) (hv : v < 9223372036854775808) (hb1 : 1 ≤ b) (hb : b ≤ 8) :
    Calls Tryd.prog 36 #[.int .i64 v, .int .i64 b] w fun e w' => ∃ u, e = .returned u ∧ w'.ownsRow w.heap.size 5 1 u b (bvs (beN v b)) ∧ Below w.heap.size w w' := by
  obtain ⟨i0, hi0, hz0, hz1, hz2⟩ := info_parts info_u8
  go_enter Tryd.func36, Tryd.ntmps36
  go_wp2_with fail
  go_loopw [5, 6, 7, 8] (fun l i _ _ wr => ∃ j : Nat, j ≤ b ∧ i = .int .i64 ((b : Int) - 1 - (j : Int)) ∧ wr.ownsRow w.heap.size 5 1 l j (bvs ((beN v b).take j)) ∧ Below w.heap.size w wr) (fun _ i _ _ _ => ((intOf i) + 1).toNat)
  case atStart => exact ⟨0, by omega, by simp, ⟨by simp [bvs], .inl ⟨rfl, rfl⟩⟩, Below.refl _ _⟩
  case round =>
    obtain ⟨j, hj, rfl, ho, hbw⟩ := hrel
    obtain ⟨Al, capl, rfl, _, _⟩ := own_shape ho
    by_cases hlt : j < b
    · have HT := Lib.hid (beN_take v b j hlt)
      obtain ⟨d, hd⟩ : ∃ d : Nat, (b : Int) - 1 - (j : Int) = (d : Int) := ⟨b - 1 - j, by omega⟩
      have hd2 : b - 1 - j = d := by omega
      rw [hd2] at HT
      have hd3 : d ≤ 7 := by omega
      rw [hd]
      have HD := Lib.hid hd
      clear hd hd2
      go_wp2_with fail
      go_loop [7, 8] (fun x k => ∃ m : Nat, m ≤ d ∧ k = .int .i64 m ∧ x = .int .i64 ((v / 256 ^ m : Nat) : Int)) (fun _ k => d - (intOf k).toNat)
      case atStart => exact ⟨0, by omega, rfl, by simp⟩
      case round =>
        obtain ⟨m, hm, rfl, rfl⟩ := hrel
        have hX : v / 256 ^ m < 9223372036854775808 := Nat.lt_of_le_of_lt (Nat.div_le_self _ _) hv
        have hS : v / 256 ^ (m + 1) = v / 256 ^ m / 256 := by rw [Nat.pow_succ, Nat.div_div_eq_div_mul]
        have HS := Lib.hid hS
        clear hS
        by_cases hlt2 : m < d
        · generalize v / 256 ^ m = X at *
          go_wp2
          go_round
          case rel => exact ⟨m + 1, by omega, by go_num, by rw [HS.out]; first | rfl | go_num⟩
          case measure => simp [intOf] <;> omega
        · obtain rfl : d = m := by omega
          generalize hX : v / 256 ^ d = X at *
          have HX := Lib.hid (bvs_one_nat X)
          clear hX
          go_wp2_with (
             at_builtin
             refine app1 wr (by rfl) _ _ 22 (by rfl) w.heap.size 5 i0 _ 1 u_bytes hi0 hz0 hz1 hz2 rfl _ _ _ (by rfl) ho _ (by rfl) (by rfl) (by simp only [maxLen]; omega) (by omega) hbw.size ?_
             intro v2 w2 hown2 hb2 _)
          go_roundw
          case rel =>
            refine ⟨j + 1, by omega, ?_, ?_, hbw.trans hb2⟩
            · have := HD.out
              exact congrArg (Value.int .i64) (by omega)
            · rw [HT.out, bvs_append, HX.out]; exact hown2
          case measure => simp [intOf] <;> omega
    · obtain rfl : b = j := by omega
      have hneg : (b : Int) - 1 - (b : Int) < 0 := by omega
      rw [List.take_of_length_le (by rw [beN_length]; omega)] at ho
      go_wp2
      go_ret
      exact ⟨_, rfl, ho, hbw⟩
end Go.Proofs.YtgapkphkcncgeaaDoor
