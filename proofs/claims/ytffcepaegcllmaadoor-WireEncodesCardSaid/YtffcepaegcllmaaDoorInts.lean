/-
  The marks of a list of ints.
-/
import Derived.Test.YtffcepaegcllmaaDoorLoose
namespace Go.Proofs.YtffcepaegcllmaaDoor
open Go.RowKit

theorem info_i64 : (Tryd.prog.info? 3).map (fun i => (i.zero, i.size, i.bytes)) = some (some (.int .i64 0), 1, 8) := by kernel_rfl
theorem u_ints : Tryd.prog.underlying 24 = some (.slice 3) := Tryd.underlying24
def patI (id k : Int) : Int := -1000000 * (id + 1) - k
def patIs (id : Int) (n : Nat) : List Int := (List.range n).map fun (k : Nat) => patI id k
theorem patIs_length (id : Int) (n : Nat) : (patIs id n).length = n := by simp [patIs]
theorem patIs_succ (id : Int) (n : Nat) : patIs id (n + 1) = patIs id n ++ [patI id n] := by simp [patIs, List.range_succ]
theorem patIs_at (id : Int) (n k : Nat) (h : k < n) : (patIs id n)[k]? = some (patI id k) := by simp [patIs, h]
theorem ivs_inj {l m : List Int} (h : ivs l = ivs m) : l = m := by
  induction l generalizing m with
  | nil => cases m with
    | nil => rfl
    | cons d m => simp [ivs] at h
  | cons c l ih => cases m with
    | nil => simp [ivs] at h
    | cons d m =>
      simp only [ivs, List.map_cons, List.cons.injEq, Value.int.injEq, true_and] at h
      rw [h.1, ih h.2]

set_option maxHeartbeats 400000 in
theorem patInt_any (id k : Int) (w : World) (h0 : 0 ≤ k) (h1 : k ≤ 4611686018427387904) (h2 : -1000000 ≤ id) (h3 : id ≤ 1000000000) :
    Calls Tryd.prog 103 #[.int .i64 id, .int .i64 k] w fun e w' => (∃ c, c = patI id k ∧ e = .returned (.int .i64 c)) ∧ w = w' := by
  have b1 : -4611686018427387904 ≤ -1000000 * (id + 1) := by omega
  have b2 : -1000000 * (id + 1) ≤ 4611686018427387904 := by omega
  go_enter Tryd.func103, Tryd.ntmps103
  go_wp2
  go_ret
  exact ⟨⟨_, rfl, ret_int (by unfold patI; omega)⟩, rfl⟩
theorem patInt_c (id k : Int) (c : Int) (hc : c = patI id k) (w : World) (h0 : 0 ≤ k) (h1 : k ≤ 4611686018427387904) (h2 : -1000000 ≤ id) (h3 : id ≤ 1000000000) :
    Calls Tryd.prog 103 #[.int .i64 id, .int .i64 k] w fun e w' => e = .returned (.int .i64 c) ∧ w' = w :=
  (patInt_any id k w h0 h1 h2 h3).mono fun e w' ⟨⟨c', hc', he⟩, hw⟩ => ⟨by rw [he, hc', hc], hw.symm⟩
end Go.Proofs.YtffcepaegcllmaaDoor
