/-
  frag.Count and the reference's Count: both return the plain count; FragCounts walked (where the statement lies in this seat).
-/
import Derived.Test.YtgapkphkcncgeaaDoorProg
import Derived.Test.YtgapkphkcncgeaaDoorMem
import Derived.WalkSpells
import Derived.WalkLawsBesides
namespace Go.Proofs.YtgapkphkcncgeaaDoor
open Go.RowKit

def cnt (x : Int) : Int := if x < 0 ∨ 4000 < x then 0 else if x = 0 then 1 else (x + 247) / 248

set_option maxHeartbeats 400000 in
theorem FCount_any (x : Int) (w : World) (h0 : -9223372036854775808 ≤ x) (h1 : x ≤ 9223372036854775807) :
    Calls Tryd.prog 28 #[.int .i64 x] w fun e w' => e = .returned (.int .i64 (cnt x)) ∧ w = w' := by
  by_cases hn : x < 0
  · have HC := Lib.hid (show cnt x = 0 by unfold cnt; rw [if_pos (.inl hn)])
    go_enter Tryd.func28, Tryd.ntmps28
    go_wp2
    go_ret
    exact ⟨ret_int HC.out.symm, rfl⟩
  · by_cases hb : 4000 < x
    · have HC := Lib.hid (show cnt x = 0 by unfold cnt; rw [if_pos (.inr hb)])
      go_enter Tryd.func28, Tryd.ntmps28
      go_wp2
      go_ret
      exact ⟨ret_int HC.out.symm, rfl⟩
    · by_cases hz : x = 0
      · subst hz
        go_enter Tryd.func28, Tryd.ntmps28
        go_wp2
        go_ret
        exact ⟨rfl, rfl⟩
      · have HC := Lib.hid (show cnt x = (x + 247) / 248 by unfold cnt; rw [if_neg (by omega), if_neg hz])
        have hz' : (x == 0) = false := by simpa using hz
        have e1 : 0 ≤ x + 248 - 1 := by omega
        go_enter Tryd.func28, Tryd.ntmps28
        go_wp2
        go_ret
        exact ⟨ret_int (by rw [HC.out]; omega), rfl⟩

set_option maxHeartbeats 400000 in
theorem RCount_any (x : Int) (w : World) (h0 : -9223372036854775808 ≤ x) (h1 : x ≤ 9223372036854775807) :
    Calls Tryd.prog 29 #[.int .i64 x] w fun e w' => e = .returned (.int .i64 (cnt x)) ∧ w = w' := by
  by_cases hn : x < 0
  · have HC := Lib.hid (show cnt x = 0 by unfold cnt; rw [if_pos (.inl hn)])
    go_enter Tryd.func29, Tryd.ntmps29
    go_wp2
    go_ret
    exact ⟨ret_int HC.out.symm, rfl⟩
  · by_cases hb : 4000 < x
    · have HC := Lib.hid (show cnt x = 0 by unfold cnt; rw [if_pos (.inr hb)])
      go_enter Tryd.func29, Tryd.ntmps29
      go_wp2
      go_ret
      exact ⟨ret_int HC.out.symm, rfl⟩
    · go_enter Tryd.func29, Tryd.ntmps29
      go_wp2
      go_loop [3] (fun t => ∃ n : Int, 1 ≤ n ∧ n ≤ 17 ∧ (1 < n → (n - 1) * 248 < x) ∧ t = .int .i64 n) (fun t => (18 - intOf t).toNat)
      case atStart => exact ⟨1, by omega, by omega, fun h => by omega, rfl⟩
      case round =>
        obtain ⟨n, hn1, hn2, hn3, rfl⟩ := hrel
        by_cases hlt : n * 248 < x
        · have hn17 : n < 17 := by omega
          go_wp2
          go_round
          case rel => exact ⟨n + 1, by omega, by omega, fun _ => by omega, rfl⟩
          case measure => simp [intOf]; omega
        · have HC : Hid (cnt x = n) := by
            show cnt x = n
            unfold cnt
            rw [if_neg (by omega)]
            split
            · rcases Int.lt_or_le 1 n with h | h
              · have := hn3 h; omega
              · omega
            · rcases Int.lt_or_le 1 n with h | h
              · have := hn3 h; omega
              · omega
          clear hn3
          go_wp2
          go_ret
          exact ⟨ret_int HC.out.symm, rfl⟩
end Go.Proofs.YtgapkphkcncgeaaDoor
