/-
  The reference's joiner: value, Form, blob.
-/
import Derived.Test.YtgapkphkcncgeaaDoorJPure
import Derived.Test.YtgapkphkcncgeaaDoorRSplit
namespace Go.Proofs.YtgapkphkcncgeaaDoor
open Go.RowKit

def beV (c : List UInt8) (i : Nat) : Nat → Nat
  | 0 => 0
  | k + 1 => beV c i k * 256 + by_ c (i + k)
theorem beV_size (c : List UInt8) : beV c 0 2 = cSize c := by simp [beV, cSize]
theorem beV_at (c : List UInt8) : beV c 2 2 = cAt c := by simp [beV, cAt]
theorem beV_sum (c : List UInt8) : beV c 4 4 = cSum c := by
  show (((0 * 256 + by_ c 4) * 256 + by_ c 5) * 256 + by_ c 6) * 256 + by_ c 7 = cSum c
  unfold cSum; omega
theorem beV_lt (c : List UInt8) (i k : Nat) : beV c i k < 256 ^ k := by
  induction k with
  | zero => simp [beV]
  | succ k ih => have := by_lt c (i + k); simp only [beV, Nat.pow_succ]; omega
theorem by_at {c : List UInt8} {k : Nat} {x : UInt8} (h : c[k]? = some x) : by_ c k = x.toNat := by
  unfold by_; rw [List.getD_eq_getElem?_getD, h]; rfl

set_option maxHeartbeats 800000 in
theorem value_any (A : Option Addr) (n cap B : Nat) (bs : List UInt8) (i m : Nat) (w : World) (hr : RdB w B A n bs) (hm : i + m ≤ n) (hm4 : m ≤ 4) (hn : n ≤ 9223372036854775807) :
    Calls Tryd.prog 38 #[.slice A n cap, .int .i64 (i : Int), .int .i64 ((i + m : Nat) : Int)] w fun e w' => e = .returned (.int .i64 (beV bs i m : Int)) ∧ w = w' := by
  go_enter Tryd.func38, Tryd.ntmps38
  go_wp2
  go_loop [7, 8] (fun v j => ∃ k : Nat, k ≤ m ∧ j = .int .i64 ((i + k : Nat) : Int) ∧ v = .int .i64 (beV bs i k : Int)) (fun _ j => i + m - (intOf j).toNat)
  case atStart => exact ⟨0, by omega, by simp, rfl⟩
  case round =>
    obtain ⟨k, hk, rfl, rfl⟩ := hrel
    by_cases hlt : k < m
    · obtain ⟨b, off, c, rfl, hb, hck, hcell⟩ := hr.byte (k := i + k) (by omega)
      have hv := beV_lt bs i k
      have hp : 256 ^ k ≤ 256 ^ 3 := Nat.pow_le_pow_right (by omega) (by omega)
      have hc := c.toNat_lt
      have hS : beV bs i (k + 1) = beV bs i k * 256 + c.toNat := by simp only [beV]; rw [by_at hck]
      have hv2 : beV bs i k < 16777216 := by omega
      have HS := Lib.hid hS
      have hltN : i + k < i + m := by omega
      have hlt1 : ((i + k : Nat) : Int) < ((i + m : Nat) : Int) := by omega
      have hlt2 : ((i + k : Nat) : Int) < (n : Int) := by omega
      clear hck hS hv hp
      generalize beV bs i k = V at *
      generalize hQ : i + k = q at *
      have HQ := Lib.hid hQ
      clear hQ
      go_wp2
      go_round
      case rel => exact ⟨k + 1, by omega, by rw [← Nat.add_assoc, HQ.out]; go_num, by rw [HS.out]; go_num⟩
      case measure => simp [intOf] <;> omega
    · obtain rfl : k = m := by omega
      go_wp2
      go_ret
      exact ⟨rfl, rfl⟩
section
variable (A : Option Addr) (n cap B : Nat) (bs : List UInt8) (w : World) (hr : RdB w B A n bs) (hm : 8 ≤ n) (hn : n ≤ 9223372036854775807)
theorem value_size (hr : RdB w B A n bs) (hm : 8 ≤ n) (hn : n ≤ 9223372036854775807) : Calls Tryd.prog 38 #[.slice A n cap, .int .i64 0, .int .i64 2] w fun e w' => e = .returned (.int .i64 (cSize bs : Int)) ∧ w = w' := by
  have := value_any A n cap B bs 0 2 w hr (by omega) (by omega) hn
  rw [beV_size] at this; exact this
theorem value_at (hr : RdB w B A n bs) (hm : 8 ≤ n) (hn : n ≤ 9223372036854775807) : Calls Tryd.prog 38 #[.slice A n cap, .int .i64 2, .int .i64 4] w fun e w' => e = .returned (.int .i64 (cAt bs : Int)) ∧ w = w' := by
  have := value_any A n cap B bs 2 2 w hr (by omega) (by omega) hn
  rw [beV_at] at this; exact this
theorem value_sum (hr : RdB w B A n bs) (hm : 8 ≤ n) (hn : n ≤ 9223372036854775807) : Calls Tryd.prog 38 #[.slice A n cap, .int .i64 4, .int .i64 8] w fun e w' => e = .returned (.int .i64 (cSum bs : Int)) ∧ w = w' := by
  have := value_any A n cap B bs 4 4 w hr (by omega) (by omega) hn
  rw [beV_sum] at this; exact this
end

def formB (c : List UInt8) : Bool := decide (Form c)
set_option maxHeartbeats 800000 in
theorem Form_any (A : Option Addr) (n cap B : Nat) (bs : List UInt8) (w : World) (hr : RdB w B A n bs) (hn : n ≤ 140737488355328) :
    Calls Tryd.prog 37 #[.slice A n cap] w fun e w' => e = .returned (.bool (formB bs)) ∧ w = w' := by
  have HL := Lib.hid hr.lenB
  have hs := cSize_lt bs
  have ha := cAt_lt bs
  have hF : formB bs = decide (8 ≤ n ∧ cSize bs ≤ 4000 ∧ cAt bs % 248 = 0 ∧ (cAt bs < cSize bs ∨ cAt bs = 0) ∧ n = 8 + min 248 (cSize bs - cAt bs)) := by
    unfold formB Form
    have e := HL.out
    subst e
    rfl
  have HF := Lib.hid hF
  clear hF
  generalize hS : cSize bs = S at *
  generalize hT : cAt bs = T at *
  have HS := Lib.hid hS
  have HT := Lib.hid hT
  clear hS hT
  by_cases h8 : 8 ≤ n
  · have hv1 := value_size A n cap B bs w hr h8 (by omega)
    have hv2 := value_at A n cap B bs w hr h8 (by omega)
    rw [HS.out] at hv1
    rw [HT.out] at hv2
    have HV1 := Lib.hid hv1
    have HV2 := Lib.hid hv2
    clear hv1 hv2
    have h8' : ¬ (n : Int) < 8 := by omega
    go_enter Tryd.func37, Tryd.ntmps37
    go_wp2_with fail
    refine HV1.out.mono ?_
    rintro _ _ ⟨rfl, rfl⟩
    go_wp2_with fail
    refine HV2.out.mono ?_
    rintro _ _ ⟨rfl, rfl⟩
    go_wp2
    all_goals
      go_ret
      refine ⟨ret_bool ?_, rfl⟩
      rw [HF.out, Bool.eq_iff_iff]
      clear HV1 HV2 HF HS HT HL
      (try simp only [bne_iff_ne, ne_eq, bne_eq_false_iff_eq, Bool.not_eq_true, beq_iff_eq] at *)
      simp only [beq_iff_eq, decide_eq_true_eq, Bool.false_eq_true, false_iff]
      omega
  · have h8' : (n : Int) < 8 := by omega
    go_enter Tryd.func37, Tryd.ntmps37
    go_wp2
    go_ret
    refine ⟨ret_bool ?_, rfl⟩
    rw [HF.out, Bool.eq_iff_iff]
    simp <;> omega
end Go.Proofs.YtgapkphkcncgeaaDoor
