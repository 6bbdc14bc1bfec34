/-
  TakeInt of the program and of the reference: both return the plain reading of one count.
-/
import Derived.Test.YtjafmcahlmopiaaProg
import Derived.Test.YtjafmcahlmopiaaMem
import Derived.WalkSpells
import Derived.WalkLawsBesides
namespace Go.Proofs.Ytjafmcahlmopiaa
open Go.RowKit

/-- One count read from place p on: so many bytes may still come, i have been read, v is their value. -/
def tk (bs : List UInt8) (p : Nat) : Nat → Nat → Nat → Nat × Nat × Nat
  | 0, _, _ => (0, 0, 14)
  | f + 1, i, v => match bs[p + i]? with
    | none => (0, 0, 10)
    | some c =>
      if c.toNat < 128 then
        if c.toNat = 0 ∧ 0 < i ∨ 4611686018427387904 < v + c.toNat % 128 * 2 ^ (7 * i) then (0, 0, 14) else (v + c.toNat % 128 * 2 ^ (7 * i), p + i + 1, 0)
      else tk bs p f (i + 1) (v + c.toNat % 128 * 2 ^ (7 * i))
def takeInt (bs : List UInt8) (at_ : Int) : Nat × Nat × Nat := if at_ < 0 ∨ (bs.length : Int) < at_ then (0, 0, 1) else tk bs at_.toNat 9 0 0

theorem tk_none {bs : List UInt8} {p k v : Nat} (hk : k < 9) (h : bs[p + k]? = none) : tk bs p (9 - k) k v = (0, 0, 10) := by
  obtain ⟨f, hf⟩ : ∃ f, 9 - k = f + 1 := ⟨8 - k, by omega⟩
  rw [hf, tk, h]
theorem tk_more {bs : List UInt8} {p k v : Nat} {c : UInt8} (hk : k < 9) (h : bs[p + k]? = some c) (hc : ¬ c.toNat < 128) : tk bs p (9 - k) k v = tk bs p (9 - (k + 1)) (k + 1) (v + c.toNat % 128 * 2 ^ (7 * k)) := by
  obtain ⟨f, hf⟩ : ∃ f, 9 - k = f + 1 := ⟨8 - k, by omega⟩
  rw [hf, tk, h, show 9 - (k + 1) = f from by omega]
  simp only [hc, if_false]
theorem tk_bad {bs : List UInt8} {p k v : Nat} {c : UInt8} (hk : k < 9) (h : bs[p + k]? = some c) (hc : c.toNat < 128) (hb : c.toNat = 0 ∧ 0 < k ∨ 4611686018427387904 < v + c.toNat % 128 * 2 ^ (7 * k)) : tk bs p (9 - k) k v = (0, 0, 14) := by
  obtain ⟨f, hf⟩ : ∃ f, 9 - k = f + 1 := ⟨8 - k, by omega⟩
  rw [hf, tk, h]
  simp only [hc, if_true]
  rw [if_pos hb]
theorem tk_good {bs : List UInt8} {p k v : Nat} {c : UInt8} (hk : k < 9) (h : bs[p + k]? = some c) (hc : c.toNat < 128) (hb : ¬ (c.toNat = 0 ∧ 0 < k ∨ 4611686018427387904 < v + c.toNat % 128 * 2 ^ (7 * k))) : tk bs p (9 - k) k v = (v + c.toNat % 128 * 2 ^ (7 * k), p + k + 1, 0) := by
  obtain ⟨f, hf⟩ : ∃ f, 9 - k = f + 1 := ⟨8 - k, by omega⟩
  rw [hf, tk, h]
  simp only [hc, if_true]
  rw [if_neg hb]

theorem and127_u8 (a : Nat) (ha : a < 256) : bits .and .u8 (a : Int) 127 = ((a % 128 : Nat) : Int) := by
  have hx : a &&& 127 = a % 128 := Nat.and_two_pow_sub_one_eq_mod a 7
  show IntKind.u8.wrap ((BitVec.ofInt 8 (a : Int) &&& BitVec.ofInt 8 ((127 : Nat) : Int)).toNat : Int) = _
  rw [BitVec.toNat_and, BitVec.ofInt_natCast, BitVec.ofInt_natCast, BitVec.toNat_ofNat, BitVec.toNat_ofNat, Nat.mod_eq_of_lt ha, show 127 % 2 ^ 8 = 127 from rfl, hx]
  simp only [IntKind.wrap, IntKind.signed, IntKind.bits, Bool.false_and, Bool.false_eq_true, if_false]
  omega
theorem or_i64 (a b : Nat) (ha : a < 9223372036854775808) (hb : b < 9223372036854775808) : bits .or .i64 (a : Int) (b : Int) = ((a ||| b : Nat) : Int) := by
  have hx : a ||| b < 2 ^ 63 := Nat.or_lt_two_pow ha hb
  show IntKind.i64.wrap ((BitVec.ofInt 64 (a : Int) ||| BitVec.ofInt 64 (b : Int)).toNat : Int) = _
  rw [BitVec.toNat_or, BitVec.ofInt_natCast, BitVec.ofInt_natCast, BitVec.toNat_ofNat, BitVec.toNat_ofNat, Nat.mod_eq_of_lt (by omega), Nat.mod_eq_of_lt (by omega), IntKind.wrap_i64]
  omega
theorem or_shift (v c m : Nat) (hv : v < 2 ^ m) : v ||| c * 2 ^ m = v + c * 2 ^ m := by
  rw [← Nat.shiftLeft_eq, Nat.or_comm, ← Nat.shiftLeft_add_eq_or_of_lt hv, Nat.add_comm]
theorem pow7 (k : Nat) (h : k ≤ 8) : 1 ≤ 2 ^ (7 * k) ∧ 2 ^ (7 * k) ≤ 72057594037927936 := by
  have : ∀ k : Fin 9, 1 ≤ 2 ^ (7 * k.val) ∧ 2 ^ (7 * k.val) ≤ 72057594037927936 := by decide
  exact this ⟨k, by omega⟩
theorem pow7_succ (k : Nat) : 2 ^ (7 * (k + 1)) = 128 * 2 ^ (7 * k) := by rw [show 7 * (k + 1) = 7 * k + 7 from by omega, Nat.pow_add]; omega

theorem wrap64_zero : wrap64 0 = 0 := IntWalk.wrap64_in 0 ⟨by omega, by omega⟩
theorem wrap64_nat (a : Nat) (h : a < 9223372036854775808) : wrap64 (a : Int) = (a : Int) := IntWalk.wrap64_in _ ⟨by omega, by omega⟩
theorem join_i64 (v c k : Nat) (hk : k ≤ 8) (hv : v < 2 ^ (7 * k)) : bits .or .i64 (v : Int) (wrap64 ((c : Int) % 128 * 2 ^ (7 * k))) = ((v + c % 128 * 2 ^ (7 * k) : Nat) : Int) ∧ v + c % 128 * 2 ^ (7 * k) < 2 ^ (7 * (k + 1)) ∧ v + c % 128 * 2 ^ (7 * k) < 9223372036854775808 := by
  have hp := pow7 k hk
  have hs := pow7_succ k
  have hc : c % 128 < 128 := Nat.mod_lt _ (by omega)
  have h1 : c % 128 * 2 ^ (7 * k) ≤ 127 * 2 ^ (7 * k) := Nat.mul_le_mul_right _ (by omega)
  have e : (c : Int) % 128 * 2 ^ (7 * k) = ((c % 128 * 2 ^ (7 * k) : Nat) : Int) := by simp
  rw [e, wrap64_nat _ (by omega), or_i64 _ _ (by omega) (by omega), or_shift _ _ _ hv]
  refine ⟨rfl, by omega, by omega⟩

set_option maxHeartbeats 1000000 in
theorem TakeInt_any (A : Option Addr) (n cap B : Nat) (bs : List UInt8) (x : Int) (w : World) (hr : RdB w B A n bs) (hn : n ≤ 140737488355328) (h0 : -9223372036854775808 ≤ x) (h1 : x ≤ 9223372036854775807) :
    Calls Try.prog 22 #[.slice A n cap, .int .i64 x] w fun e w' => (∃ v nx er : Nat, (v, nx, er) = takeInt bs x ∧ e = .returned (.tuple #[.int .i64 v, .int .i64 nx, .int .i64 er])) ∧ w = w' := by
  have hl := hr.lenB
  by_cases hx : x < 0 ∨ (n : Int) < x
  · have HR := Lib.hid (show takeInt bs x = (0, 0, 1) by unfold takeInt; rw [hl, if_pos hx])
    clear hl
    by_cases hx0 : x < 0
    · clear hx
      go_enter Try.func22, Try.ntmps22
      go_wp2
      go_ret3
      exact ⟨⟨0, 0, 1, HR.out.symm, rfl⟩, rfl⟩
    · have hx1 : (n : Int) < x := by omega
      clear hx
      go_enter Try.func22, Try.ntmps22
      go_wp2
      go_ret3
      exact ⟨⟨0, 0, 1, HR.out.symm, rfl⟩, rfl⟩
  · have HR0 := Lib.hid (show takeInt bs x = tk bs x.toNat 9 0 0 by unfold takeInt; rw [hl, if_neg hx])
    obtain ⟨p, rfl⟩ := Int.eq_ofNat_of_zero_le (show 0 ≤ x by omega)
    have hp : p ≤ n := by omega
    clear hx h0 h1 hl
    go_enter Try.func22, Try.ntmps22
    go_wp2
    go_loop [7, 8, 9, 18] (fun t _ _ i => ∃ k v : Nat, k ≤ 9 ∧ i = .int .i64 k ∧ v < 2 ^ (7 * k) ∧ t = .int .i64 v ∧ Hid (takeInt bs p = tk bs p (9 - k) k v)) (fun _ _ _ i => 9 - (intOf i).toNat)
    case atStart => exact ⟨0, 0, by omega, rfl, by omega, rfl, HR0⟩
    case round =>
      obtain ⟨k, v, hk, rfl, hv, rfl, HR⟩ := hrel
      by_cases hlt : k < 9
      · by_cases hin : p + k < n
        · obtain ⟨b, off, c, rfl, hb, hck, hcell⟩ := hr.byte hin
          have hcb := c.toNat_lt
          have hand := and127_u8 c.toNat (by omega)
          have hs0 : 0 ≤ 7 * (k : Int) := by omega
          have hs1 : 7 * (k : Int) ≤ 56 := by omega
          have HCK := Lib.hid hck
          have i1 : (p : Int) + (k : Int) < (n : Int) := by omega
          obtain ⟨hj, hu1, hu2⟩ := join_i64 v c.toNat k (by omega) hv
          clear hck
          by_cases hm : c.toNat < 128
          · by_cases hz : c.toNat = 0
            · by_cases hk0 : k = 0
              · subst hk0
                have HF := Lib.hid (tk_good (p := p) (v := v) (by omega) HCK.out hm (by omega))
                clear hj
                rw [hz] at hcell HF
                replace hcell : w.cell? ⟨b, off + p, none⟩ = some (.int .u8 0) := hcell
                replace i1 : (p : Int) < (n : Int) := by omega
                have hand : bits .and .u8 0 127 = 0 := by decide
                simp only [Nat.zero_mod, Nat.zero_mul, Nat.add_zero] at HF
                obtain rfl : v = 0 := by omega
                have hw := wrap64_zero
                have ho : bits BinOp.or .i64 0 0 = 0 := by decide
                clear hz hm hu1 hu2
                go_wp2
                go_ret3
                exact ⟨⟨0, p + 1, 0, (HR.out.trans HF.out).symm, rfl⟩, rfl⟩
              · have HF := Lib.hid (tk_bad (v := v) hlt HCK.out hm (.inl ⟨hz, by omega⟩))
                have hk0' : 0 < (k : Int) := by omega
                clear hj
                rw [hz] at hcell
                replace hcell : w.cell? ⟨b, off + (p + k), none⟩ = some (.int .u8 0) := hcell
                have hand : bits .and .u8 0 127 = 0 := by decide
                clear hz hm hu1 hu2 hk0
                go_wp2
                go_ret3
                exact ⟨⟨0, 0, 14, (HR.out.trans HF.out).symm, rfl⟩, rfl⟩
            · have hz' : ((c.toNat : Int) == 0) = false := by simp; omega
              have hm' : ¬ (127 : Int) < (c.toNat : Int) := by omega
              by_cases hu : 4611686018427387904 < v + c.toNat % 128 * 2 ^ (7 * k)
              · have HF := Lib.hid (tk_bad hlt HCK.out hm (.inr hu))
                generalize v + c.toNat % 128 * 2 ^ (7 * k) = u at *
                have hu' : (4611686018427387904 : Int) < (u : Int) := by omega
                clear hz hm hu
                go_wp2
                go_ret3
                exact ⟨⟨0, 0, 14, (HR.out.trans HF.out).symm, rfl⟩, rfl⟩
              · have HF := Lib.hid (tk_good (p := p) (v := v) hlt HCK.out hm (by omega))
                generalize v + c.toNat % 128 * 2 ^ (7 * k) = u at *
                have hu' : ¬ (4611686018427387904 : Int) < (u : Int) := by omega
                clear hz hm hu
                go_wp2
                go_ret3
                exact ⟨⟨u, p + k + 1, 0, (HR.out.trans HF.out).symm, rfl⟩, rfl⟩
          · have HF := Lib.hid (tk_more (v := v) hlt HCK.out hm)
            have hm' : (127 : Int) < (c.toNat : Int) := by omega
            generalize v + c.toNat % 128 * 2 ^ (7 * k) = u at *
            clear hm
            go_wp2
            go_round
            case rel => exact ⟨k + 1, u, by omega, by go_num, hu1, rfl, Lib.hid (HR.out.trans HF.out)⟩
            case measure => simp [intOf]; omega
        · have HF := Lib.hid (tk_none (bs := bs) (p := p) (v := v) hlt (List.getElem?_eq_none (by have := hr.lenB; omega)))
          have i1 : (n : Int) ≤ (p : Int) + (k : Int) := by omega
          go_wp2
          go_ret3
          exact ⟨⟨0, 0, 10, (HR.out.trans HF.out).symm, rfl⟩, rfl⟩
      · obtain rfl : k = 9 := by omega
        go_wp2
        go_ret3
        exact ⟨⟨0, 0, 14, HR.out.symm, rfl⟩, rfl⟩

theorem prod_i64 (c m : Nat) (hm : m ≤ 72057594037927936) : wrap64 ((c : Int) % 128 * (m : Int)) = ((c % 128 * m : Nat) : Int) ∧ c % 128 * m ≤ 127 * m := by
  have hc : c % 128 < 128 := Nat.mod_lt _ (by omega)
  have h1 : c % 128 * m ≤ 127 * m := Nat.mul_le_mul_right _ (by omega)
  have e : (c : Int) % 128 * (m : Int) = ((c % 128 * m : Nat) : Int) := by simp
  rw [e, wrap64_nat _ (by omega)]
  exact ⟨rfl, h1⟩

set_option maxRecDepth 100000 in
set_option maxHeartbeats 2000000 in
theorem RTakeInt_any (A : Option Addr) (n cap B : Nat) (bs : List UInt8) (x : Int) (w : World) (hr : RdB w B A n bs) (hn : n ≤ 140737488355328) (h0 : -9223372036854775808 ≤ x) (h1 : x ≤ 9223372036854775807) :
    Calls Try.prog 23 #[.slice A n cap, .int .i64 x] w fun e w' => (∃ v nx er : Nat, (v, nx, er) = takeInt bs x ∧ e = .returned (.tuple #[.int .i64 v, .int .i64 nx, .int .i64 er])) ∧ w = w' := by
  have hl := hr.lenB
  by_cases hx : x < 0 ∨ (n : Int) < x
  · have HR := Lib.hid (show takeInt bs x = (0, 0, 1) by unfold takeInt; rw [hl, if_pos hx])
    clear hl
    by_cases hx0 : x < 0
    · clear hx
      go_enter Try.func23, Try.ntmps23
      go_wp2
      go_ret3
      exact ⟨⟨0, 0, 1, HR.out.symm, rfl⟩, rfl⟩
    · have hx1 : (n : Int) < x := by omega
      clear hx
      go_enter Try.func23, Try.ntmps23
      go_wp2
      go_ret3
      exact ⟨⟨0, 0, 1, HR.out.symm, rfl⟩, rfl⟩
  · have HR0 := Lib.hid (show takeInt bs x = tk bs x.toNat 9 0 0 by unfold takeInt; rw [hl, if_neg hx])
    obtain ⟨p, rfl⟩ := Int.eq_ofNat_of_zero_le (show 0 ≤ x by omega)
    have hp : p ≤ n := by omega
    clear hx h0 h1 hl
    go_enter Try.func23, Try.ntmps23
    go_wp2
    go_loop [7, 8, 9, 10] (fun t m i _ => ∃ k v y : Nat, k ≤ 9 ∧ i = .int .i64 k ∧ m = .int .i64 y ∧ Hid (k < 9 → y = 2 ^ (7 * k)) ∧ Hid (k < 9 → v < 2 ^ (7 * k)) ∧ t = .int .i64 v ∧ Hid (takeInt bs p = tk bs p (9 - k) k v)) (fun _ _ i _ => 9 - (intOf i).toNat)
    case atStart => exact ⟨0, 0, 1, by omega, rfl, rfl, fun _ => rfl, fun _ => by show 0 < 2 ^ 0; omega, rfl, HR0⟩
    case round =>
      obtain ⟨k, v, y, hk, rfl, rfl, hy, hv, rfl, HR⟩ := hrel
      by_cases hlt : k < 9
      · by_cases hin : p + k < n
        · obtain ⟨b, off, c, rfl, hb, hck, hcell⟩ := hr.byte hin
          have hcb := c.toNat_lt
          have hpw := pow7 k (by omega)
          have hye := hy.out hlt
          have hve := hv.out hlt
          have HYE := Lib.hid hye
          rw [← hye] at hpw hve
          obtain ⟨hpr, hpr2⟩ := prod_i64 c.toNat y hpw.2
          have HCK := Lib.hid hck
          have hy2 : k < 8 → y ≤ 562949953421312 := fun h => by
            rw [hye]
            have : ∀ k : Fin 8, 2 ^ (7 * k.val) ≤ 562949953421312 := by decide
            exact this ⟨k, h⟩
          have HY2 := Lib.hid hy2
          have i1 : (p : Int) + (k : Int) < (n : Int) := by omega
          clear hck hye hy2
          by_cases hm : c.toNat < 128
          · have hm' : (c.toNat : Int) < 128 := by omega
            by_cases hz : c.toNat = 0
            · by_cases hk0 : k = 0
              · subst hk0
                have HF := Lib.hid (tk_good (p := p) (v := v) (by omega) HCK.out hm (by omega))
                rw [hz] at hcell HF
                replace hcell : w.cell? ⟨b, off + p, none⟩ = some (.int .u8 0) := hcell
                replace i1 : (p : Int) < (n : Int) := by omega
                simp only [Nat.zero_mod, Nat.zero_mul, Nat.add_zero] at HF
                have hv0 : v = 0 := by have := HYE.out; simp at this; omega
                subst hv0
                clear hz hm hm' hpr hpr2 hve hcb
                go_wp2
                go_ret3
                exact ⟨⟨0, p + 1, 0, (HR.out.trans HF.out).symm, rfl⟩, rfl⟩
              · have HF := Lib.hid (tk_bad (v := v) hlt HCK.out hm (.inl ⟨hz, by omega⟩))
                have hk0' : 0 < (k : Int) := by omega
                rw [hz] at hcell
                replace hcell : w.cell? ⟨b, off + (p + k), none⟩ = some (.int .u8 0) := hcell
                clear hz hm hm' hpr hpr2 hk0 hcb
                go_wp2
                go_ret3
                exact ⟨⟨0, 0, 14, (HR.out.trans HF.out).symm, rfl⟩, rfl⟩
            · have hz' : ((c.toNat : Int) == 0) = false := by simp; omega
              by_cases hu : 4611686018427387904 < v + c.toNat % 128 * y
              · have HF := Lib.hid (tk_bad (v := v) hlt HCK.out hm (.inr (by rw [← HYE.out]; exact hu)))
                generalize c.toNat % 128 * y = u at *
                have hu' : (4611686018427387904 : Int) < (v : Int) + (u : Int) := by omega
                clear hz hm hu
                go_wp2
                go_ret3
                exact ⟨⟨0, 0, 14, (HR.out.trans HF.out).symm, rfl⟩, rfl⟩
              · have HF := Lib.hid (tk_good (p := p) (v := v) hlt HCK.out hm (by rw [← HYE.out]; omega))
                rw [← HYE.out] at HF
                generalize c.toNat % 128 * y = u at *
                have hu' : ¬ (4611686018427387904 : Int) < (v : Int) + (u : Int) := by omega
                clear hz hm hu
                go_wp2
                go_ret3
                exact ⟨⟨v + u, p + k + 1, 0, (HR.out.trans HF.out).symm, rfl⟩, rfl⟩
          · have HF := Lib.hid (tk_more (v := v) hlt HCK.out hm)
            rw [← HYE.out] at HF
            have hm' : ¬ (c.toNat : Int) < 128 := by omega
            generalize c.toNat % 128 * y = u at *
            have HU := Lib.hid hpr2
            by_cases hk8 : k < 8
            · have hy3 := HY2.out hk8
              clear hm
              go_wp2
              go_round
              case rel => exact ⟨k + 1, v + u, y * 128, by omega, by go_num, by go_num, fun _ => by rw [pow7_succ, ← HYE.out]; omega, fun _ => by rw [pow7_succ, ← HYE.out]; have := HU.out; omega, by go_num, Lib.hid (HR.out.trans HF.out)⟩
              case measure => simp [intOf]; omega
            · clear hm
              go_wp2
              go_round
              case rel => exact ⟨k + 1, v + u, y, by omega, by go_num, rfl, fun h => by omega, fun h => by omega, by go_num, Lib.hid (HR.out.trans HF.out)⟩
              case measure => simp [intOf]; omega
        · have HF := Lib.hid (tk_none (bs := bs) (p := p) (v := v) hlt (List.getElem?_eq_none (by have := hr.lenB; omega)))
          have i1 : (n : Int) ≤ (p : Int) + (k : Int) := by omega
          go_wp2
          go_ret3
          exact ⟨⟨0, 0, 10, (HR.out.trans HF.out).symm, rfl⟩, rfl⟩
      · obtain rfl : k = 9 := by omega
        go_wp2
        go_ret3
        exact ⟨⟨0, 0, 14, HR.out.symm, rfl⟩, rfl⟩
end Go.Proofs.Ytjafmcahlmopiaa
