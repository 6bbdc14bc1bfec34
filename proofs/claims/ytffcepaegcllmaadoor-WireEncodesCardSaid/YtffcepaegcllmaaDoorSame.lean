/-
  SameBytes of two slices that read as one list: true.
-/
import Derived.Test.YtffcepaegcllmaaDoorLoose
import Derived.Test.YtffcepaegcllmaaDoorValid
namespace Go.Proofs.YtffcepaegcllmaaDoor
open Go.RowKit

set_option maxRecDepth 100000 in
set_option maxHeartbeats 800000 in
theorem SameBytes_any (A A' : Option Addr) (n n' cap cap' B B' : Nat) (bs bs' : List UInt8) (w : World) (hr : RdB w B A n bs) (hr' : RdB w B' A' n' bs') (he : bs = bs') (hn : n ≤ 9223372036854775807) :
    Calls Tryd.prog 14 #[.slice A n cap, .slice A' n' cap'] w fun e w' => e = .returned (.bool true) ∧ ∃ d, w' = w.drewN d := by
  subst he
  obtain rfl : n = n' := by rw [← hr.lenB, ← hr'.lenB]
  have hm2 : ((n : Int) != (n : Int)) = false := by simp
  go_enter Tryd.func14, Tryd.ntmps14
  go_wp2
  go_loopw [5] (fun i wr => ∃ k : Nat, k ≤ n ∧ i = .int .i64 k ∧ ∃ d, wr = w.drewN d) (fun i _ => n - (intOf i).toNat)
  case atStart => exact ⟨0, by omega, rfl, 0, rfl⟩
  case round =>
    obtain ⟨k, hk, rfl, d, hd⟩ := hrel
    have hq := hr.eqd hd
    have hq' := hr'.eqd hd
    have HD := Lib.hid hd
    clear hd
    by_cases hlt : k < n
    · obtain ⟨b', off', c, rfl, hb', hck, hcell'⟩ := hq'.byte hlt
      obtain ⟨b, off, c1, rfl, hb, hck1, hcell⟩ := hq.byte hlt
      obtain rfl : c1 = c := by
        rw [hck] at hck1
        exact (Option.some.inj hck1).symm
      clear hck hck1
      have hlt1 : (k : Int) < (n : Int) := by omega
      go_wp2
      go_quiet (fail)
      go_wp2
      go_roundw
      case rel => exact ⟨k + 1, by omega, by go_num, _, by rw [HD.out, World.drewN_drewN]⟩
      case measure => simp [intOf]; omega
    · go_wp2
      go_ret
      exact ⟨rfl, _, HD.out⟩
theorem SameBytes_b (A A' : Option Addr) (n n' cap cap' B B' : Nat) (bs : List UInt8) (w : World) (hr : RdB w B A n bs) (hr' : RdB w B' A' n' bs) (hn : n ≤ 9223372036854775807) :
    Calls Tryd.prog 14 #[.slice A n cap, .slice A' n' cap'] w fun e w' => e = .returned (.bool true) ∧ Below w.heap.size w w' :=
  (SameBytes_any A A' n n' cap cap' B B' bs bs w hr hr' rfl hn).mono fun _ _ ⟨h, d, hd⟩ => ⟨h, by rw [hd]; exact below_drewN (Below.refl _ _) d⟩
theorem Unspoilt_b (A A' : Option Addr) (m n cap cap' B B' : Nat) (bs : List UInt8) (w : World) (hr : RdB w B A m (bs ++ marks)) (hr' : RdB w B' A' n bs) (hn : n ≤ 9223372036854775000) :
    Calls Tryd.prog 25 #[.slice A m cap, .slice A' n cap'] w fun e w' => e = .returned (.bool true) ∧ Below w.heap.size w w' :=
  (Unspoilt_any A A' m n cap cap' B B' (bs ++ marks) bs w hr hr' rfl hn).mono fun _ _ ⟨h, d, hd⟩ => ⟨h, by rw [hd]; exact below_drewN (Below.refl _ _) d⟩
set_option maxRecDepth 100000 in
set_option maxHeartbeats 800000 in
theorem SameData_yes (s q t : Int) (A A' : Option Addr) (n cap n' cap' B B' : Nat) (bs : List UInt8) (w : World) (hr : RdB w B A n bs) (hr' : RdB w B' A' n' bs) (hB : B ≤ w.heap.size) (hB' : B' ≤ w.heap.size) (hn : n ≤ 9223372036854775807) :
    Calls Tryd.prog 102 #[.agg #[.int .i64 s, .int .i64 q, .int .i64 t, .slice A n cap], .agg #[.int .i64 s, .int .i64 q, .int .i64 t, .slice A' n' cap']] w fun e w' => e = .returned (.bool true) ∧ Below w.heap.size w w' := by
  go_enter Tryd.func102, Tryd.ntmps102
  go_wp2_with fail
  have h1 := one_box w (.cells #[.int .i64 s, .int .i64 q, .int .i64 t, .slice A n cap] 82)
  have h2 := Below.then h1 (one_box (w.alloc (.cells #[.int .i64 s, .int .i64 q, .int .i64 t, .slice A n cap] 82)) (.cells #[.int .i64 s, .int .i64 q, .int .i64 t, .slice A' n' cap'] 82))
  refine (SameBytes_b A A' n n' cap cap' B B' bs _ (hr.below (h2.mono hB)) (hr'.below (h2.mono hB')) hn).mono ?_
  rintro _ w1 ⟨rfl, hb1⟩
  go_wp2
  go_ret
  exact ⟨rfl, Below.then h2 hb1⟩
end Go.Proofs.YtffcepaegcllmaaDoor
