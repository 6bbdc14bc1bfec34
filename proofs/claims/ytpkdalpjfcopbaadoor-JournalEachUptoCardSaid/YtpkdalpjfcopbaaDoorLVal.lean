/-
  The document's value, Valid, bitwise, head.
-/
import Derived.Test.YtpkdalpjfcopbaaDoorKOpen
namespace Go.Proofs.YtpkdalpjfcopbaaDoor
open Go.RowKit
def valR (x : Nat) : Int := if x ≤ 4611686018427387904 then (x : Int) else -1
theorem part_succ {l : List UInt8} {p k : Nat} {c : UInt8} (h : l[p + k]? = some c) : part l p (k + 1) = part l p k ++ [c] := by
  unfold part
  rw [List.take_add_one, List.getElem?_drop, h]
  rfl
theorem num_grow {l : List UInt8} {p k : Nat} : ∀ d, p + k + d ≤ l.length → numB (part l p k) * 256 ^ d ≤ numB (part l p (k + d))
  | 0, _ => by simp
  | d + 1, h => by
    obtain ⟨c, hc⟩ : ∃ c, l[p + (k + d)]? = some c := ⟨l[p + (k + d)]'(by omega), List.getElem?_eq_getElem _⟩
    have h1 := num_grow (l := l) (p := p) (k := k) d (by omega)
    rw [← Nat.add_assoc, part_succ hc, numB_snoc, Nat.pow_succ, ← Nat.mul_assoc]
    exact Nat.le_trans (Nat.mul_le_mul_right 256 h1) (Nat.le_add_right _ _)
theorem valR_big {l : List UInt8} {p k m : Nat} (hk : k < m) (hm : p + m ≤ l.length) (h : 18014398509481984 < numB (part l p k)) : valR (numB (part l p m)) = -1 := by
  have h1 := num_grow (l := l) (p := p) (k := k) (m - k) (by omega)
  rw [show k + (m - k) = m by omega] at h1
  have h2 : 256 ≤ 256 ^ (m - k) := by
    obtain ⟨d, hd⟩ : ∃ d, m - k = d + 1 := ⟨m - k - 1, by omega⟩
    rw [hd, Nat.pow_succ]
    exact Nat.le_mul_of_pos_left 256 (Nat.pow_pos (by omega))
  have h3 : numB (part l p k) * 256 ≤ numB (part l p m) := Nat.le_trans (Nat.mul_le_mul_left _ h2) h1
  unfold valR
  rw [if_neg (by omega)]
set_option maxRecDepth 100000 in
set_option maxHeartbeats 800000 in
theorem value_any {w : World} {B n cap : Nat} {A : Option Addr} {bs : List UInt8} (hr : RdB w B A n bs) (hn : n ≤ 140737488355328) (p m : Nat) (hp : p + m ≤ n) :
    Calls Tryd.prog 67 #[.slice A n cap, .int .i64 (p : Int), .int .i64 ((p + m : Nat) : Int)] w fun e w' => e = .returned (.int .i64 (valR (numB (part bs p m)))) ∧ w = w' := by
  have hl := hr.lenB
  have HR := Lib.hid hr
  have HL := Lib.hid hl
  obtain ⟨q, hq⟩ : ∃ q, q = p + m := ⟨_, rfl⟩
  rw [← hq] at hp ⊢
  have HQ := Lib.hid hq
  obtain ⟨V, hV⟩ : ∃ V, V = valR (numB (part bs p m)) := ⟨_, rfl⟩
  rw [← hV]
  have HV := Lib.hid hV
  clear hr hl hq hV
  go_enter Tryd.func67, Tryd.ntmps67
  go_wp2_with fail
  go_loop [7, 8] (fun v i => ∃ k : Nat, p + k ≤ q ∧ i = .int .i64 ((p : Int) + (k : Int)) ∧ v = .int .i64 (numB (part bs p k) : Int) ∧ numB (part bs p k) ≤ 4611686018427388159) (fun _ i => q - (intOf i).toNat)
  case atStart => exact ⟨0, by have := HQ.out; omega, by simp, by simp [part, numB], by simp [part, numB]⟩
  case round =>
    obtain ⟨k, hk, rfl, rfl, hb⟩ := hrel
    by_cases hlt : p + k < q
    · have hI : (p : Int) + (k : Int) < (q : Int) := by omega
      by_cases hbig : 18014398509481984 < numB (part bs p k)
      · have dbig : (18014398509481984 : Int) < ((numB (part bs p k) : Nat) : Int) := by omega
        have hv := valR_big (l := bs) (p := p) (k := k) (m := m) (by have := HQ.out; omega) (by have := HQ.out; have := HL.out; omega) hbig
        rw [← HV.out] at hv
        have HV2 := Lib.hid hv
        clear hv hbig
        generalize numB (part bs p k) = x at hb dbig ⊢
        go_wp2
        go_ret
        exact ⟨ret_int HV2.out.symm, rfl⟩
      · obtain ⟨b, off, c, rfl, hbb, hcx, hcell⟩ := HR.out.byte (k := p + k) (by omega)
        have hnx := numB_snoc (part bs p k) c
        rw [← part_succ hcx] at hnx
        have HNX := Lib.hid hnx
        have dbig : ¬ (18014398509481984 : Int) < ((numB (part bs p k) : Nat) : Int) := by omega
        have hc8 := c.toNat_lt
        have hcell' : w.cell? ⟨b, off + (p + k), none⟩ = some (.int .u8 (c.toNat : Int)) := hcell
        have e0 : ((p : Int) + (k : Int)).toNat = p + k := by omega
        clear hnx hcx hcell
        generalize numB (part bs p k) = x at hb dbig hbig HNX ⊢
        have hbig2 : x ≤ 18014398509481984 := by omega
        clear hbig
        go_wp2
        go_round
        case rel => exact ⟨k + 1, by omega, congrArg (Value.int .i64) (by omega), by rw [HNX.out]; exact congrArg (Value.int .i64) (by omega), by rw [HNX.out]; omega⟩
        case measure => simp [intOf] <;> omega
    · have hI : ¬ (p : Int) + (k : Int) < (q : Int) := by omega
      have hkm : k = m := by have := HQ.out; omega
      have hv : V = if numB (part bs p k) ≤ 4611686018427387904 then ((numB (part bs p k) : Nat) : Int) else -1 := by rw [HV.out, hkm]; rfl
      clear hkm
      generalize numB (part bs p k) = x at hb hv ⊢
      by_cases hx : x ≤ 4611686018427387904
      · rw [if_pos hx] at hv
        have HV2 := Lib.hid hv
        have dx : ¬ (4611686018427387904 : Int) < (x : Int) := by omega
        clear hv
        go_wp2
        go_ret
        exact ⟨ret_int HV2.out.symm, rfl⟩
      · rw [if_neg hx] at hv
        have HV2 := Lib.hid hv
        have dx : (4611686018427387904 : Int) < (x : Int) := by omega
        clear hv
        go_wp2
        go_ret
        exact ⟨ret_int HV2.out.symm, rfl⟩
end Go.Proofs.YtpkdalpjfcopbaaDoor
