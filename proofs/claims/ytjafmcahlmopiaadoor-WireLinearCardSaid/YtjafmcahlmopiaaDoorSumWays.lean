/-
  WireResidue, WireLinear, walked: the sum behind its own text; the sums of texts turned by one another.
-/
import Derived.Test.YtjafmcahlmopiaaDoorSumLaw
import Derived.Deep.RegionLaw
import Derived.BigRegion
import Derived.Lib.SlBytesConst
namespace Go.Proofs.YtjafmcahlmopiaaDoor
open Go.RowKit

def byteAt (s k : Nat) : UInt8 := UInt8.ofNat (s / 2 ^ (8 * k))
theorem byteAt_int (s k : Nat) : ((byteAt s k).toNat : Int) = (s : Int) / 2 ^ (8 * k) % 256 := by
  unfold byteAt
  rw [UInt8.toNat_ofNat']
  simp
theorem le4_at (s k : Nat) (h : k < 4) : (Crc.le4 s)[k]? = some (byteAt s k) := by
  match k, h with
  | 0, _ => simp [Crc.le4, byteAt]
  | 1, _ => simp [Crc.le4, byteAt]
  | 2, _ => simp [Crc.le4, byteAt]
  | 3, _ => simp [Crc.le4, byteAt]
theorem le4_take_succ (s k : Nat) (h : k < 4) : (Crc.le4 s).take (k + 1) = (Crc.le4 s).take k ++ [byteAt s k] := by
  have h1 := le4_at s k h
  obtain ⟨hk, e⟩ := List.getElem?_eq_some_iff.1 h1
  rw [List.take_succ_eq_append_getElem hk, e]
theorem le4_length (s : Nat) : (Crc.le4 s).length = 4 := rfl

set_option maxRecDepth 100000 in
set_option maxHeartbeats 800000 in
theorem WireResidue_walk (A : Option Addr) (n cap : Nat) (bs : List UInt8) (w : World) (hcap : n ≤ cap) (hn0 : cap ≤ 140737488351232) (hr : RdB w w.heap.size A n bs) (ht : Nibs w) :
    Calls Tryd.prog 4 #[.slice A n cap] w fun e w' => e = .returned (.bool true) ∧ Below w.heap.size w w' := by
  obtain ⟨i0, hi0, hz0, hz1, hz2⟩ := info_parts info_u8
  have hn : n ≤ 140737488351232 := by omega
  have hs := Crc.crc_lt bs
  have HO := Lib.hid (Crc.crc_own bs)
  have HT := Lib.hid ht
  clear ht
  go_enter Tryd.func4, Tryd.ntmps4
  go_wp2_with fail
  refine (Sum_any _ _ _ _ _ _ hr (by omega) HT.out).mono ?_
  rintro _ _ ⟨rfl, rfl⟩
  generalize Crc.crc bs = s at *
  go_wp2_with fail
  refine (Copied_any _ _ _ _ _ hr (by omega)).mono ?_
  rintro _ w1 ⟨v1, rfl, hown1, hb1⟩
  go_wp2_with fail
  go_loopw [4, 5] (fun x i wr => ∃ k : Nat, k ≤ 4 ∧ i = .int .i64 k ∧ wr.ownsRow w.heap.size 5 1 x (n + k) (bvs (bs ++ (Crc.le4 s).take k)) ∧ Below w.heap.size w wr) (fun _ i _ => 4 - (intOf i).toNat)
  case atStart => exact ⟨0, by omega, rfl, by simpa using hown1, hb1⟩
  case round =>
    obtain ⟨k, hk, rfl, hown, hb⟩ := hrel
    by_cases hlt : k < 4
    · have HV := Lib.hid (byteAt_int s k)
      have HL := Lib.hid (le4_take_succ s k hlt)
      have hcb := (byteAt s k).toNat_lt
      generalize byteAt s k = c at *
      have e1 : (8 * (k : Int)).toNat = 8 * k := by omega
      go_wp2_with (
           at_builtin
           refine app1 wr (by rfl) _ _ 22 (by rfl) w.heap.size 5 i0 _ 1 u_bytes hi0 hz0 hz1 hz2 rfl _ _ _ (by rfl) hown _ (by rfl) (by rfl) (by simp only [maxLen]; omega) (by omega) hb.size ?_
           intro v2 w2 hown2 hb2 _)
      go_roundw
      case rel => exact ⟨k + 1, by omega, by go_num, by rw [HL.out, ← List.append_assoc, bvs_append]; rw [← HV.out] at hown2; exact hown2, hb.trans hb2⟩
      case measure => simp [intOf]; omega
    · obtain rfl : k = 4 := by omega
      rw [show (Crc.le4 s).take 4 = Crc.le4 s from rfl] at hown
      obtain ⟨A1, cap1, rfl, hc1, hc1'⟩ := own_shape hown
      go_wp2_with fail
      refine (Sum_any _ _ _ _ _ _ (Rd.of_own hown) (by omega) (HT.out.below hb)).mono ?_
      rintro _ _ ⟨rfl, rfl⟩
      rw [HO.out]
      go_wp2
      go_ret
      exact ⟨rfl, hb⟩

theorem check_sum : Crc.crc [49, 50, 51, 52, 53, 54, 55, 56, 57] = 3421780262 := by decide +kernel
theorem xor_u8 (a b : UInt8) : bits .xor .u8 (a.toNat : Int) (b.toNat : Int) = ((a ^^^ b).toNat : Int) := by
  have ha := a.toNat_lt
  have hb := b.toNat_lt
  have hx : a.toNat ^^^ b.toNat < 2 ^ 8 := Nat.xor_lt_two_pow ha hb
  show IntKind.u8.wrap ((BitVec.ofInt 8 (a.toNat : Int) ^^^ BitVec.ofInt 8 (b.toNat : Int)).toNat : Int) = _
  rw [BitVec.toNat_xor, BitVec.ofInt_natCast, BitVec.ofInt_natCast, BitVec.toNat_ofNat, BitVec.toNat_ofNat, Nat.mod_eq_of_lt ha, Nat.mod_eq_of_lt hb, UInt8.toNat_xor]
  simp only [IntKind.wrap, IntKind.signed, IntKind.bits, Bool.false_and, Bool.false_eq_true, if_false]
  omega
def z3 (a b c : List UInt8) (k : Nat) : List UInt8 := Crc.zipx (Crc.zipx (a.take k) (b.take k)) (c.take k)
theorem zipx_snoc (a b : List UInt8) (x y : UInt8) (h : a.length = b.length) : Crc.zipx (a ++ [x]) (b ++ [y]) = Crc.zipx a b ++ [x ^^^ y] := by
  unfold Crc.zipx
  rw [List.zipWith_append h]
  rfl
theorem z3_succ {a b c : List UInt8} {k : Nat} {x y z : UInt8} (ha : a[k]? = some x) (hb : b[k]? = some y) (hc : c[k]? = some z) : z3 a b c (k + 1) = z3 a b c k ++ [x ^^^ y ^^^ z] := by
  obtain ⟨h1, rfl⟩ := List.getElem?_eq_some_iff.1 ha
  obtain ⟨h2, rfl⟩ := List.getElem?_eq_some_iff.1 hb
  obtain ⟨h3, rfl⟩ := List.getElem?_eq_some_iff.1 hc
  unfold z3
  rw [List.take_succ_eq_append_getElem h1, List.take_succ_eq_append_getElem h2, List.take_succ_eq_append_getElem h3, zipx_snoc _ _ _ _ (by simp; omega), zipx_snoc _ _ _ _ (by rw [Crc.zipx_length]; simp; omega)]
theorem Sum_q (A : Option Addr) (n cap B : Nat) (bs : List UInt8) (w : World) (hr : RdB w B A n bs) (hn : n ≤ 9223372036854775807) (ht : Nibs w) :
    Calls Tryd.prog 12 #[.slice A n cap] w fun e w' => e = .returned (.int .i64 (Crc.crc bs : Int)) ∧ w' = w :=
  (Sum_any A n cap B bs w hr hn ht).mono fun _ _ ⟨h, h'⟩ => ⟨h, h'.symm⟩

theorem rd_new {w : World} {n : Nat} {t : TypeId} {fz : Nat × Nat} {cur : Array Value} {bs : List UInt8} (hc : cur.toList = bvs bs) (hl : bs.length = n) :
    RdB (w.alloc (.cells cur t fz)) (w.alloc (.cells cur t fz)).heap.size (some ⟨w.heap.size, 0, none⟩) n bs :=
  ⟨by simp [bvs_length, hl], fun _ => ⟨w.heap.size, 0, rfl, by simp, fun j u hu => by
    have e : (w.alloc (.cells cur t fz)).heap[w.heap.size]? = some (.cells cur t fz) := heap_alloc_new w _
    unfold World.cell?
    rw [e, Nat.zero_add]
    rw [← hc, Array.getElem?_toList] at hu
    simpa using hu⟩⟩

theorem min3_run (a b c : Nat) : ∃ m : Nat, m ≤ a ∧ m ≤ b ∧ m ≤ c ∧ ∀ (ts : Array TypeId) (t : TypeId) (W : World),
    (Builtin.min_ ts t #[.int .i64 (a : Int), .int .i64 (b : Int), .int .i64 (c : Int)]).run Tryd.prog W = .ok (.int .i64 (m : Int)) W := by
  by_cases h1 : b < a
  · by_cases h2 : c < b
    · exact ⟨c, by omega, by omega, by omega, fun ts t W => by rw [run_min_int3]; rw [if_pos (show (b : Int) < a from by omega), if_pos (show (c : Int) < b from by omega)]⟩
    · exact ⟨b, by omega, by omega, by omega, fun ts t W => by rw [run_min_int3]; rw [if_pos (show (b : Int) < a from by omega), if_neg (show ¬ (c : Int) < b from by omega)]⟩
  · by_cases h2 : c < a
    · exact ⟨c, by omega, by omega, by omega, fun ts t W => by rw [run_min_int3]; rw [if_neg (show ¬ (b : Int) < a from by omega), if_pos (show (c : Int) < a from by omega)]⟩
    · exact ⟨a, by omega, by omega, by omega, fun ts t W => by rw [run_min_int3]; rw [if_neg (show ¬ (b : Int) < a from by omega), if_neg (show ¬ (c : Int) < a from by omega)]⟩

set_option maxRecDepth 100000 in
set_option maxHeartbeats 800000 in
theorem WireLinear_walk (A : Option Addr) (n cap : Nat) (xs : List UInt8) (A' : Option Addr) (n' cap' : Nat) (bs : List UInt8) (A2 : Option Addr) (n2 cap2 : Nat) (cs : List UInt8) (w : World)
    (hcap : n ≤ cap) (hn0 : cap ≤ 140737488351232) (hr : RdB w w.heap.size A n xs) (hcap' : n' ≤ cap') (hn0' : cap' ≤ 140737488351232) (hr' : RdB w w.heap.size A' n' bs) (hcap2 : n2 ≤ cap2) (hn2 : cap2 ≤ 140737488351232) (hr2 : RdB w w.heap.size A2 n2 cs) (ht : Nibs w) :
    Calls Tryd.prog 5 #[.slice A n cap, .slice A' n' cap', .slice A2 n2 cap2] w fun e w' => e = .returned (.bool true) ∧ Below w.heap.size w w' := by
  obtain ⟨i0, hi0, hz0, hz1, hz2⟩ := info_parts info_u8
  have HT := Lib.hid ht
  clear ht
  have kc := fun (w : World) (C : Array Value) (n c : Nat) => Lib.run_convert_bytes_const (P := Tryd.prog) w 22 5 C n c Tryd.underlying22 Tryd.underlying5
  obtain ⟨m, hm1, hm2, hm3, hmin⟩ := min3_run n n' n2
  go_enter Tryd.func5, Tryd.ntmps5
  go_wp2_with fail
  have hb1 : Below w.heap.size w (w.alloc (.cells #[.int .u8 49, .int .u8 50, .int .u8 51, .int .u8 52, .int .u8 53, .int .u8 54, .int .u8 55, .int .u8 56, .int .u8 57] 5 (9, 10))) := (Below.refl _ _).alloc (Nat.le_refl _) _
  refine (Sum_any _ _ _ _ [49, 50, 51, 52, 53, 54, 55, 56, 57] _ (rd_new (n := 9) (by simp [bvs]) rfl) (by decide) (HT.out.below hb1)).mono ?_
  rintro _ _ ⟨rfl, rfl⟩
  rw [check_sum]
  go_wp2_with fail
  clear hmin kc
  go_loopw [8, 9] (fun x i wr => ∃ k : Nat, k ≤ m ∧ i = .int .i64 k ∧ wr.ownsRow w.heap.size 5 1 x k (bvs (z3 xs bs cs k)) ∧ Below w.heap.size w wr) (fun _ i _ => m - (intOf i).toNat)
  case atStart => exact ⟨0, by omega, rfl, ⟨by simp [z3, Crc.zipx, bvs], .inl ⟨rfl, rfl⟩⟩, hb1⟩
  case round =>
    obtain ⟨k, hk, rfl, hown, hb⟩ := hrel
    by_cases hlt : k < m
    · obtain ⟨b1, o1, c1, rfl, _, hk1, hc1⟩ := (hr.below hb).byte (k := k) (by omega)
      obtain ⟨b2, o2, c2, rfl, _, hk2, hc2⟩ := (hr'.below hb).byte (k := k) (by omega)
      obtain ⟨b3, o3, c3, rfl, _, hk3, hc3⟩ := (hr2.below hb).byte (k := k) (by omega)
      have HZ := Lib.hid (z3_succ hk1 hk2 hk3)
      clear hk1 hk2 hk3
      have hx1 := xor_u8 c1 c2
      have hx2 := xor_u8 (c1 ^^^ c2) c3
      generalize c1 ^^^ c2 = d at *
      generalize d ^^^ c3 = f at *
      have i1 : (k : Int) < (n : Int) := by omega
      have i2 : (k : Int) < (n' : Int) := by omega
      have i3 : (k : Int) < (n2 : Int) := by omega
      go_wp2_with fail
      go_region_law ((refine step_app1 wr.drew (by rfl) _ _ 22 (by rfl) w.heap.size 5 i0 _ 1 u_bytes hi0 hz0 hz1 hz2 rfl _ _ _ (by rfl) hown _ (by rfl) (by rfl) (by simp only [maxLen]; omega) (by omega) hb.size ?_; intro v2 w2 hown2 hb2 _))
      all_goals
        go_wp2
        go_roundw
        case rel => exact ⟨k + 1, by omega, by go_num, by rw [HZ.out, bvs_append]; exact hown2, hb.drew.trans hb2⟩
        case measure => simp [intOf]; omega
    · obtain rfl : k = m := by omega
      obtain ⟨A1, cap1, rfl, hc1, hc1'⟩ := own_shape hown
      have hv := Rd.of_own hown
      have h1 := (hr.below hb).takeB hm1
      have h2 := (hr'.below hb).takeB hm2
      have h3 := (hr2.below hb).takeB hm3
      have hN := Lib.hid (HT.out.below hb)
      have HX := Lib.hid (Crc.crc_three (xs.take k) (bs.take k) (cs.take k) (by rw [h1.lenB, h2.lenB]) (by rw [h2.lenB, h3.lenB]))
      have b1 := Crc.crc_lt (xs.take k)
      have b2 := Crc.crc_lt (bs.take k)
      have b3 := Crc.crc_lt (cs.take k)
      have e0 : (k : Int) ≤ (cap : Int) := by omega
      have e1 : (k : Int) ≤ (cap' : Int) := by omega
      have e2 : (k : Int) ≤ (cap2 : Int) := by omega
      go_wp2
      go_quiet ((go_at_call 12; exact Calls.quiet_of_same (Sum_q _ _ _ _ _ _ (Rd.dn (by assumption) _) (by omega) hN.out)))
      go_wp2
      go_ret
      refine ⟨ret_bool ?_, below_drewN hb _⟩
      have hx := Nat.xor_lt_two_pow (n := 32) b1 b2
      rw [xor_i64 _ _ (by omega) (by omega), xor_i64 _ _ (by omega) (by omega), show z3 xs bs cs k = Crc.zipx (Crc.zipx (xs.take k) (bs.take k)) (cs.take k) from rfl, HX.out]
      exact beq_self_eq_true _
end Go.Proofs.YtjafmcahlmopiaaDoor
