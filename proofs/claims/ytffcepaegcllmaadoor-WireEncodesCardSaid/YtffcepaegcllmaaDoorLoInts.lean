/-
  LooseInts: a copy of a list of numbers, with marks behind it.
-/
import Derived.Test.YtffcepaegcllmaaDoorInts
namespace Go.Proofs.YtffcepaegcllmaaDoor
open Go.RowKit
set_option maxRecDepth 100000 in
set_option maxHeartbeats 800000 in
theorem LooseInts_any (A : Option Addr) (n cap : Nat) (is : List Int) (w : World) (hr : RdI w w.heap.size A n is) (hn : n * 8 ≤ 140737488351232) :
    Calls Tryd.prog 87 #[.slice A n cap] w fun e w' => ∃ v, e = .returned v ∧ w'.ownsRow w.heap.size 3 1 v (n + 64) (ivs (is ++ patIs 7000000 64)) ∧ Below w.heap.size w w' := by
  obtain ⟨i0, hi0, hz0, hz1, hz2⟩ := info_parts info_i64
  go_enter Tryd.func87, Tryd.ntmps87
  go_wp2_with (first
    | (at_builtin
       refine wpList_append_any _ rfl (.tmp 5) (.tmp 6) _ rfl w.heap.size 3 i0 _ 1 8 u_ints hi0 hz0 hz1 hz2 rfl (by omega) _ 0 [] rfl
         (ownsRow_empty w w.heap.size 3 1 (Nat.le_refl _)) w.heap.size A n cap (ivs is) rfl (hr.below ((Below.refl _ _).alloc (Nat.le_refl _) _)) (ivs_one is) (by simp only [maxLen]; omega) (by omega) (by simp) ?_
       intro v1 w1 hown1 hg1 hat1))
  have hb1 : Below w.heap.size w w1 := ((Below.refl _ _).alloc (Nat.le_refl _) _).trans (below_app (ownsRow_empty w w.heap.size 3 1 (Nat.le_refl _)) hg1 (by simp))
  rw [Nat.zero_add, List.nil_append] at hown1
  clear hg1 hat1
  go_loopw [3, 4] (fun x i wr => ∃ k : Nat, k ≤ 64 ∧ i = .int .i64 k ∧ wr.ownsRow w.heap.size 3 1 x (n + k) (ivs (is ++ patIs 7000000 k)) ∧ Below w.heap.size w wr) (fun _ i _ => 64 - (intOf i).toNat)
  case atStart => exact ⟨0, by omega, rfl, by simpa [patIs] using hown1, hb1⟩
  case round =>
    obtain ⟨k, hk, rfl, hown, hb⟩ := hrel
    by_cases hlt : k < 64
    · go_wp2_with (first
        | (go_at_call 103; refine (patInt_any _ _ _ (by omega) (by omega) (by omega) (by omega)).mono ?_; rintro e w' ⟨⟨c, hc, rfl⟩, rfl⟩; have HC := Lib.hid hc; clear hc)
        | (at_builtin
           refine app1 wr (by rfl) _ _ 24 (by rfl) w.heap.size 3 i0 _ 8 u_ints hi0 hz0 hz1 hz2 rfl _ _ _ (by rfl) hown _ (by rfl) (by rfl) (by simp only [maxLen]; omega) (by omega) hb.size ?_
           intro v2 w2 hown2 hb2 _))
      go_roundw
      case rel => exact ⟨k + 1, by omega, by go_num, by rw [patIs_succ, ← HC.out, ← List.append_assoc, ivs_append]; exact hown2, hb.trans hb2⟩
      case measure => simp [intOf]; omega
    · go_wp2
      go_ret
      obtain rfl : k = 64 := by omega
      exact ⟨_, rfl, hown, hb⟩
end Go.Proofs.YtffcepaegcllmaaDoor
