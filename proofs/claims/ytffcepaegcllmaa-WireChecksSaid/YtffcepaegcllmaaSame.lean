/-
  SameBytes of two slices that read as one list: true.
-/
import Derived.Test.YtffcepaegcllmaaLoose
namespace Go.Proofs.Ytffcepaegcllmaa
open Go.RowKit

set_option maxRecDepth 100000 in
set_option maxHeartbeats 800000 in
theorem SameBytes_any (A A' : Option Addr) (n n' cap cap' B B' : Nat) (bs bs' : List UInt8) (w : World) (hr : RdB w B A n bs) (hr' : RdB w B' A' n' bs') (he : bs = bs') (hn : n ≤ 9223372036854775807) :
    Calls Try.prog 9 #[.slice A n cap, .slice A' n' cap'] w fun e w' => e = .returned (.bool true) ∧ ∃ d, w' = w.drewN d := by
  subst he
  obtain rfl : n = n' := by rw [← hr.lenB, ← hr'.lenB]
  have hm2 : ((n : Int) != (n : Int)) = false := by simp
  go_enter Try.func9, Try.ntmps9
  go_wp2
  go_loopw [5] (fun i wr => ∃ k : Nat, k ≤ n ∧ i = .int .i64 k ∧ ∃ d, wr = w.drewN d) (fun i _ => n - (intOf i).toNat)
  case atStart => exact ⟨0, by omega, rfl, 0, rfl⟩
  case round =>
    obtain ⟨k, hk, rfl, d, hd⟩ := hrel
    have hq := hr.eqd hd
    have hq' := hr'.eqd hd
    have HD := Lib.hid hd
    clear hd
    by_cases hlt : k < n
    · obtain ⟨b', off', c, rfl, hb', hck, hcell'⟩ := hq'.byte hlt
      obtain ⟨b, off, c1, rfl, hb, hck1, hcell⟩ := hq.byte hlt
      obtain rfl : c1 = c := by
        rw [hck] at hck1
        exact (Option.some.inj hck1).symm
      clear hck hck1
      have hlt1 : (k : Int) < (n : Int) := by omega
      go_wp2
      go_quiet (fail)
      go_wp2
      go_roundw
      case rel => exact ⟨k + 1, by omega, by go_num, _, by rw [HD.out, World.drewN_drewN]⟩
      case measure => simp [intOf]; omega
    · go_wp2
      go_ret
      exact ⟨rfl, _, HD.out⟩
theorem SameBytes_b (A A' : Option Addr) (n n' cap cap' B B' : Nat) (bs : List UInt8) (w : World) (hr : RdB w B A n bs) (hr' : RdB w B' A' n' bs) (hn : n ≤ 9223372036854775807) :
    Calls Try.prog 9 #[.slice A n cap, .slice A' n' cap'] w fun e w' => e = .returned (.bool true) ∧ Below w.heap.size w w' :=
  (SameBytes_any A A' n n' cap cap' B B' bs bs w hr hr' rfl hn).mono fun _ _ ⟨h, d, hd⟩ => ⟨h, by rw [hd]; exact below_drewN (Below.refl _ _) d⟩
theorem Unspoilt_b (A A' : Option Addr) (m n cap cap' B B' : Nat) (bs : List UInt8) (w : World) (hr : RdB w B A m (bs ++ marks)) (hr' : RdB w B' A' n bs) (hn : n ≤ 9223372036854775000) :
    Calls Try.prog 11 #[.slice A m cap, .slice A' n cap'] w fun e w' => e = .returned (.bool true) ∧ Below w.heap.size w w' :=
  (Unspoilt_any A A' m n cap cap' B B' (bs ++ marks) bs w hr hr' rfl hn).mono fun _ _ ⟨h, d, hd⟩ => ⟨h, by rw [hd]; exact below_drewN (Below.refl _ _) d⟩
end Go.Proofs.Ytffcepaegcllmaa
