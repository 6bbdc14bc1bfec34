/-
  The statements' own helpers: Copied, Pat, Loose, Unspoilt, turn: what each call does.
-/
import Derived.Test.YtffcepaegcllmaaDoorProg
import Derived.Test.YtffcepaegcllmaaDoorApp
import Derived.WalkSpells
import Derived.WalkLawsBesides
import Derived.Deep.QuietTactic
import Derived.BigQuiet
namespace Go.Proofs.YtffcepaegcllmaaDoor
open Go.RowKit

theorem info_u8 : (Tryd.prog.info? 5).map (fun i => (i.zero, i.size, i.bytes)) = some (some (.int .u8 0), 1, 1) := by kernel_rfl
theorem u_bytes : Tryd.prog.underlying 36 = some (.slice 5) := Tryd.underlying36

theorem xor_u8_bd (a b : Int) : 0 ≤ bits .xor .u8 a b ∧ bits .xor .u8 a b ≤ 255 := by
  show 0 ≤ IntKind.u8.wrap _ ∧ IntKind.u8.wrap _ ≤ 255
  simp only [IntKind.wrap, IntKind.signed, IntKind.bits, Bool.false_and, Bool.false_eq_true, if_false]
  omega
/-- The mark, as the program reckons it. -/
def patZ (id k : Int) : Int := bits BinOp.xor IntKind.u8 ((id + 1) % 4294967296 * 2654435761 % 4294967296 / 2 ^ (8 * (k % 4)).toNat % 256) (k / 4 % 256)
def pat (id k : Int) : UInt8 := UInt8.ofNat (patZ id k).toNat
theorem pat_eq (id k : Int) : ((pat id k).toNat : Int) = patZ id k := by
  have := xor_u8_bd ((id + 1) % 4294967296 * 2654435761 % 4294967296 / 2 ^ (8 * (k % 4)).toNat % 256) (k / 4 % 256)
  unfold pat patZ
  rw [UInt8.toNat_ofNat', Nat.mod_eq_of_lt (by omega)]
  omega
def pats (id : Int) (n : Nat) : List UInt8 := (List.range n).map fun (k : Nat) => pat id k
theorem pats_length (id : Int) (n : Nat) : (pats id n).length = n := by simp [pats]
theorem pats_succ (id : Int) (n : Nat) : pats id (n + 1) = pats id n ++ [pat id n] := by simp [pats, List.range_succ]
theorem pats_at (id : Int) (n k : Nat) (h : k < n) : (pats id n)[k]? = some (pat id k) := by simp [pats, h]

set_option maxHeartbeats 400000 in
theorem Pat_any (id k : Int) (w : World) (h0 : 0 ≤ k) (h1 : k ≤ 9223372036854775807) (h2 : -4611686018427387904 ≤ id) (h3 : id ≤ 4611686018427387904) :
    Calls Tryd.prog 63 #[.int .i64 id, .int .i64 k] w fun e w' => (∃ c, c = pat id k ∧ e = .returned (.int .u8 (c.toNat : Int))) ∧ w = w' := by
  have b1 : 0 ≤ 8 * (k % 4) := by omega
  have b2 : 8 * (k % 4) ≤ 24 := by omega
  go_enter Tryd.func63, Tryd.ntmps63
  go_wp2
  go_ret
  exact ⟨⟨_, rfl, ret_int (by rw [pat_eq]; rfl)⟩, rfl⟩

set_option maxHeartbeats 400000 in
theorem Copied_any (A : Option Addr) (n cap : Nat) (bs : List UInt8) (w : World) (hr : RdB w w.heap.size A n bs) (hn : n ≤ 140737488355328) :
    Calls Tryd.prog 31 #[.slice A n cap] w fun e w' => ∃ v, e = .returned v ∧ w'.ownsRow w.heap.size 5 1 v n (bvs bs) ∧ Below w.heap.size w w' := by
  obtain ⟨i0, hi0, hz0, hz1, hz2⟩ := info_parts info_u8
  go_enter Tryd.func31, Tryd.ntmps31
  go_wp2_with (first
    | (at_builtin
       refine wpList_append_any _ rfl (.tmp 3) (.tmp 4) _ rfl w.heap.size 5 i0 _ 1 1 u_bytes hi0 hz0 hz1 hz2 rfl (by omega) _ 0 [] rfl
         (ownsRow_empty w w.heap.size 5 1 (Nat.le_refl _)) w.heap.size A n cap (bvs bs) rfl (hr.below ((Below.refl _ _).alloc (Nat.le_refl _) _)) (bvs_one bs) (by simp only [maxLen]; omega) (by omega) (by simp) ?_
       intro v1 w1 hown1 hg1 hat1))
  go_ret
  exact ⟨v1, rfl, by simpa using hown1, ((Below.refl _ _).alloc (Nat.le_refl _) _).trans (below_app (ownsRow_empty w w.heap.size 5 1 (Nat.le_refl _)) hg1 (by simp))⟩

def marks : List UInt8 := pats 7000000 64
set_option maxRecDepth 100000 in
set_option maxHeartbeats 800000 in
theorem Loose_any (A : Option Addr) (n cap : Nat) (bs : List UInt8) (w : World) (hr : RdB w w.heap.size A n bs) (hn : n ≤ 140737488351232) :
    Calls Tryd.prog 53 #[.slice A n cap] w fun e w' => ∃ v, e = .returned v ∧ w'.ownsRow w.heap.size 5 1 v (n + 64) (bvs (bs ++ marks)) ∧ Below w.heap.size w w' := by
  obtain ⟨i0, hi0, hz0, hz1, hz2⟩ := info_parts info_u8
  go_enter Tryd.func53, Tryd.ntmps53
  go_wp2_with (first
    | (at_builtin
       refine wpList_append_any _ rfl (.tmp 5) (.tmp 6) _ rfl w.heap.size 5 i0 _ 1 1 u_bytes hi0 hz0 hz1 hz2 rfl (by omega) _ 0 [] rfl
         (ownsRow_empty w w.heap.size 5 1 (Nat.le_refl _)) w.heap.size A n cap (bvs bs) rfl (hr.below ((Below.refl _ _).alloc (Nat.le_refl _) _)) (bvs_one bs) (by simp only [maxLen]; omega) (by omega) (by simp) ?_
       intro v1 w1 hown1 hg1 hat1))
  have hb1 : Below w.heap.size w w1 := ((Below.refl _ _).alloc (Nat.le_refl _) _).trans (below_app (ownsRow_empty w w.heap.size 5 1 (Nat.le_refl _)) hg1 (by simp))
  rw [Nat.zero_add, List.nil_append] at hown1
  clear hg1 hat1
  go_loopw [3, 4] (fun x i wr => ∃ k : Nat, k ≤ 64 ∧ i = .int .i64 k ∧ wr.ownsRow w.heap.size 5 1 x (n + k) (bvs (bs ++ pats 7000000 k)) ∧ Below w.heap.size w wr) (fun _ i _ => 64 - (intOf i).toNat)
  case atStart => exact ⟨0, by omega, rfl, by simpa [pats] using hown1, hb1⟩
  case round =>
    obtain ⟨k, hk, rfl, hown, hb⟩ := hrel
    by_cases hlt : k < 64
    · go_wp2_with (first
        | (go_at_call 63; refine (Pat_any _ _ _ (by omega) (by omega) (by omega) (by omega)).mono ?_; rintro e w' ⟨⟨c, hc, rfl⟩, rfl⟩; have HC := Lib.hid hc; clear hc)
        | (at_builtin
           refine app1 wr (by rfl) _ _ 36 (by rfl) w.heap.size 5 i0 _ 1 u_bytes hi0 hz0 hz1 hz2 rfl _ _ _ (by rfl) hown _ (by rfl) (by rfl) (by simp only [maxLen]; omega) (by omega) hb.size ?_
           intro v2 w2 hown2 hb2 _))
      go_roundw
      case rel => exact ⟨k + 1, by omega, by go_num, by rw [pats_succ, ← HC.out, ← List.append_assoc, bvs_append]; exact hown2, hb.trans hb2⟩
      case measure => simp [intOf]; omega
    · go_wp2
      go_ret
      obtain rfl : k = 64 := by omega
      exact ⟨_, rfl, hown, hb⟩
theorem Pat_c (id k : Int) (c : UInt8) (hc : c = pat id k) (w : World) (h0 : 0 ≤ k) (h1 : k ≤ 9223372036854775807) (h2 : -4611686018427387904 ≤ id) (h3 : id ≤ 4611686018427387904) :
    Calls Tryd.prog 63 #[.int .i64 id, .int .i64 k] w fun e w' => e = .returned (.int .u8 (c.toNat : Int)) ∧ w' = w :=
  (Pat_any id k w h0 h1 h2 h3).mono fun e w' ⟨⟨c', hc', he⟩, hw⟩ => ⟨by rw [he, hc', hc], hw.symm⟩

set_option maxRecDepth 100000 in
set_option maxHeartbeats 1000000 in
theorem Unspoilt_any (A A' : Option Addr) (m n cap cap' B B' : Nat) (ls bs : List UInt8) (w : World) (hr : RdB w B A m ls) (hr' : RdB w B' A' n bs) (hls : ls = bs ++ marks) (hn : n ≤ 9223372036854775000) :
    Calls Tryd.prog 25 #[.slice A m cap, .slice A' n cap'] w fun e w' => e = .returned (.bool true) ∧ ∃ d, w' = w.drewN d := by
  have hl := hr.lenB
  have hl' := hr'.lenB
  have hmk : marks.length = 64 := pats_length _ _
  obtain rfl : m = n + 64 := by rw [hls, List.length_append, hl', hmk] at hl; exact hl.symm
  have hm2 : ((n : Int) + 64 != (n : Int) + 64) = false := by simp
  have HL := Lib.hid hls
  clear hls hl hl' hmk
  go_enter Tryd.func25, Tryd.ntmps25
  go_wp2
  go_loopw [5] (fun i wr => ∃ k : Nat, k ≤ n ∧ i = .int .i64 k ∧ ∃ d, wr = w.drewN d) (fun i _ => n - (intOf i).toNat)
  case atStart => exact ⟨0, by omega, rfl, 0, rfl⟩
  case round =>
    obtain ⟨k, hk, rfl, d, rfl⟩ := hrel
    by_cases hlt : k < n
    · obtain ⟨b', off', c, rfl, hb', hck, hcell'⟩ := hr'.byte hlt
      obtain ⟨b, off, c1, rfl, hb, hck1, hcell⟩ := hr.byte (k := k) (by omega)
      obtain rfl : c1 = c := by
        rw [HL.out, List.getElem?_append_left (by have := hr'.lenB; omega), hck] at hck1
        exact (Option.some.inj hck1).symm
      clear hck hck1
      have hlt1 : (k : Int) < (n : Int) := by omega
      have hlt2 : (k : Int) < (n : Int) + 64 := by omega
      go_wp2
      go_quiet (fail)
      go_wp2
      go_roundw
      case rel => exact ⟨k + 1, by omega, by go_num, _, rfl⟩
      case measure => simp [intOf]; omega
    · obtain rfl : k = n := by omega
      clear hlt hk
      go_wp2
      go_loopw [6] (fun i wr => ∃ j : Nat, j ≤ 64 ∧ i = .int .i64 j ∧ ∃ d, wr = w.drewN d) (fun i _ => 64 - (intOf i).toNat)
      case atStart => exact ⟨0, by omega, rfl, _, rfl⟩
      case round =>
        obtain ⟨j, hj, rfl, d, hd⟩ := hrel
        have hq := hr.eqd hd
        by_cases hlt : j < 64
        · obtain ⟨b, off, c, rfl, hb, hck, hcell⟩ := hq.byte (k := k + j) (by omega)
          have hc : c = pat 7000000 j := by
            rw [HL.out, List.getElem?_append_right (by have := hr'.lenB; omega), hr'.lenB, show k + j - k = j from by omega, marks, pats_at _ _ _ hlt] at hck
            exact (Option.some.inj hck).symm
          have HC := Lib.hid hc
          have HD := Lib.hid hd
          clear hck hc hd
          have hlt1 : (k : Int) + (j : Int) < (k : Int) + 64 := by omega
          have e2 : 0 ≤ (k : Int) + (j : Int) := by omega
          have e1 : IntKind.i64.wrap ((k : Int) + (j : Int)) = (k : Int) + (j : Int) := IntWalk.i64_in _ (by omega)
          have e3 : ((k : Int) + (j : Int)).toNat = k + j := by omega
          go_wp2
          go_quiet ((go_at_call 63; exact Calls.quiet_of_same (Pat_c _ _ c HC.out _ (by omega) (by omega) (by omega) (by omega))))
          go_wp2
          go_roundw
          case rel => exact ⟨j + 1, by omega, by go_num, _, by rw [HD.out, World.drewN_drewN]⟩
          case measure => simp [intOf]; omega
        · have HD := Lib.hid hd
          clear hd
          go_wp2
          go_ret
          exact ⟨rfl, _, HD.out⟩
end Go.Proofs.YtffcepaegcllmaaDoor
