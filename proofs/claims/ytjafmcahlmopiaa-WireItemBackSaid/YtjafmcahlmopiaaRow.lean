/-
  WireInARow: counts put one behind the other are taken back one behind the other.
-/
import Derived.Test.YtjafmcahlmopiaaPutInt
import Derived.Test.YtjafmcahlmopiaaTakeLaw
namespace Go.Proofs.Ytjafmcahlmopiaa
open Go.RowKit

/-! ### The plain law -/
theorem tk_putL (f : Nat) : ∀ (v i p acc : Nat) (pre rest : List UInt8), pre.length = p + i → v < 2 ^ (7 * (f + 1)) → i + f ≤ 8 → (0 < i → 0 < v) → acc + v * 2 ^ (7 * i) ≤ 4611686018427387904 →
    tk (pre ++ (putL f v ++ rest)) p (9 - i) i acc = (acc + v * 2 ^ (7 * i), p + i + (putL f v).length, 0) := by
  have small : ∀ (f v i p acc : Nat) (pre rest : List UInt8), pre.length = p + i → v < 128 → i ≤ 8 → (0 < i → 0 < v) → acc + v * 2 ^ (7 * i) ≤ 4611686018427387904 →
      tk (pre ++ (putL f v ++ rest)) p (9 - i) i acc = (acc + v * 2 ^ (7 * i), p + i + (putL f v).length, 0) := by
    intro f v i p acc pre rest hp hv hi h0 hm
    have hg : (pre ++ (putL f v ++ rest))[p + i]? = some (UInt8.ofNat v) := by
      rw [List.getElem?_append_right (by omega), hp, Nat.sub_self, putL_small f v hv]
      rfl
    have hc : (UInt8.ofNat v).toNat = v := by rw [UInt8.toNat_ofNat']; omega
    have hm' : v % 128 = v := Nat.mod_eq_of_lt hv
    rw [tk_good (by omega) hg (by rw [hc]; exact hv) (by rw [hc, hm']; intro h; rcases h with h | h <;> omega), hc, hm', putL_small f v hv]
    rfl
  induction f with
  | zero => intro v i p acc pre rest hp hv hi h0 hm; exact small 0 v i p acc pre rest hp (by simpa using hv) (by omega) h0 hm
  | succ f ih =>
    intro v i p acc pre rest hp hv hi h0 hm
    by_cases hs : v < 128
    · exact small (f + 1) v i p acc pre rest hp hs (by omega) h0 hm
    · have e : pre ++ (putL (f + 1) v ++ rest) = (pre ++ [UInt8.ofNat (v % 128 + 128)]) ++ (putL f (v / 128) ++ rest) := by
        rw [putL_more f v hs]; simp
      have hc : (UInt8.ofNat (v % 128 + 128)).toNat = v % 128 + 128 := by rw [UInt8.toNat_ofNat']; omega
      have hg : (pre ++ (putL (f + 1) v ++ rest))[p + i]? = some (UInt8.ofNat (v % 128 + 128)) := by
        rw [List.getElem?_append_right (by omega), hp, Nat.sub_self, putL_more f v hs]
        rfl
      have hpw := pow7_succ i
      have hv' : v / 128 < 2 ^ (7 * (f + 1)) := by
        rw [show 7 * (f + 1 + 1) = 7 * (f + 1) + 7 from by omega, Nat.pow_add] at hv
        omega
      have hsum : acc + v % 128 * 2 ^ (7 * i) + v / 128 * 2 ^ (7 * (i + 1)) = acc + v * 2 ^ (7 * i) := by
        rw [hpw]
        have hd : v = 128 * (v / 128) + v % 128 := by omega
        conv => rhs; rw [hd, Nat.add_mul]
        rw [Nat.mul_assoc, Nat.mul_comm (v / 128), Nat.mul_comm 128 (v / 128 * 2 ^ (7 * i)), Nat.mul_assoc, Nat.mul_comm (v / 128)]
        omega
      rw [tk_more (by omega) hg (by rw [hc]; omega), hc, show (v % 128 + 128) % 128 = v % 128 from by omega, e,
        ih (v / 128) (i + 1) p _ _ rest (by simp; omega) hv' (by omega) (fun _ => by omega) (by rw [hsum]; exact hm), hsum, putL_more f v hs]
      simp only [List.length_cons]
      congr 2
      omega
theorem take_put (pre rest : List UInt8) (v : Nat) (hv : v ≤ 4611686018427387904) : takeInt (pre ++ (putB v ++ rest)) pre.length = (v, pre.length + (putB v).length, 0) := by
  unfold takeInt
  rw [if_neg (by simp; omega)]
  have := tk_putL 8 v 0 pre.length 0 pre rest rfl (by omega) (by omega) (fun h => by omega) (by omega)
  unfold putB
  simpa using this
theorem take_end (bs : List UInt8) : takeInt bs bs.length = (0, 0, 10) := by
  unfold takeInt
  rw [if_neg (by omega)]
  exact tk_none (k := 0) (v := 0) (by omega) (by simp)

def clamp (v lo hi : Int) : Int := if v < lo then lo else if hi < v then hi else v
def allPut (vs : List Nat) : List UInt8 := vs.flatMap putB
theorem allPut_snoc (vs : List Nat) (v : Nat) : allPut (vs ++ [v]) = allPut vs ++ putB v := by simp [allPut]
theorem allPut_length (vs : List Nat) : (allPut vs).length ≤ 9 * vs.length := by
  induction vs with
  | nil => simp [allPut]
  | cons v vs ih =>
    have := putB_length v
    simp only [allPut, List.flatMap_cons, List.length_append, List.length_cons] at ih ⊢
    omega
theorem allPut_split {vs : List Nat} {k v : Nat} (h : vs[k]? = some v) : allPut vs = allPut (vs.take k) ++ (putB v ++ allPut (vs.drop (k + 1))) ∧ allPut (vs.take (k + 1)) = allPut (vs.take k) ++ putB v := by
  obtain ⟨hk, rfl⟩ := List.getElem?_eq_some_iff.1 h
  refine ⟨?_, by rw [List.take_succ_eq_append_getElem hk, allPut_snoc]⟩
  have e : vs = vs.take k ++ (vs[k] :: vs.drop (k + 1)) := by rw [← List.drop_eq_getElem_cons hk, List.take_append_drop]
  have e2 : allPut vs = allPut (vs.take k ++ (vs[k] :: vs.drop (k + 1))) := congrArg allPut e
  refine e2.trans ?_
  unfold allPut
  rw [List.flatMap_append, List.flatMap_cons]

set_option maxHeartbeats 400000 in
theorem into_any (v lo hi : Int) (w : World) : Calls Try.prog 24 #[.int .i64 v, .int .i64 lo, .int .i64 hi] w fun e w' => e = .returned (.int .i64 (clamp v lo hi)) ∧ w = w' := by
  by_cases h1 : v < lo
  · have H := Lib.hid (show clamp v lo hi = lo by unfold clamp; rw [if_pos h1])
    go_enter Try.func24, Try.ntmps24
    go_wp2
    go_ret
    exact ⟨ret_int H.out.symm, rfl⟩
  · by_cases h2 : hi < v
    · have H := Lib.hid (show clamp v lo hi = hi by unfold clamp; rw [if_neg h1, if_pos h2])
      go_enter Try.func24, Try.ntmps24
      go_wp2
      go_ret
      exact ⟨ret_int H.out.symm, rfl⟩
    · have H := Lib.hid (show clamp v lo hi = v by unfold clamp; rw [if_neg h1, if_neg h2])
      go_enter Try.func24, Try.ntmps24
      go_wp2
      go_ret
      exact ⟨ret_int H.out.symm, rfl⟩

theorem info_int : (Try.prog.info? 3).map (fun i => (i.zero, i.size, i.bytes)) = some (some (.int .i64 0), 1, 8) := by kernel_rfl
theorem u_ints : Try.prog.underlying 44 = some (.slice 3) := Try.underlying44
def natI (vs : List Nat) : List Int := vs.map fun (v : Nat) => (v : Int)
theorem natI_snoc (vs : List Nat) (v : Nat) : natI (vs ++ [v]) = natI vs ++ [(v : Int)] := by simp [natI]
theorem own_ne {w : World} {base base' sz sz' n n' : Nat} {e e' : TypeId} {v v' : Value} {xs xs' : List Value} (h : w.ownsRow base e sz v n xs) (h' : w.ownsRow base' e' sz' v' n' xs') (he : e ≠ e') : ∀ g, v.ownBlock = some g → ¬ some g = v'.ownBlock := by
  intro g hg hg'
  obtain ⟨_, _, c1, b1⟩ := own_block_lt h hg
  obtain ⟨_, _, c2, b2⟩ := own_block_lt h' hg'.symm
  exact b1.ne_ b2 he rfl
theorem clamp_nat (x : Int) : ∃ v : Nat, v ≤ 4611686018427387904 ∧ clamp x 0 4611686018427387904 = (v : Int) := by
  unfold clamp
  split
  · exact ⟨0, by omega, rfl⟩
  · split
    · exact ⟨4611686018427387904, by omega, rfl⟩
    · exact ⟨x.toNat, by omega, by omega⟩

set_option maxRecDepth 100000 in
set_option maxHeartbeats 1600000 in
theorem WireInARow_walk (A : Option Addr) (n cap : Nat) (xs : List Int) (w : World) (hcap : n ≤ cap) (hn0 : cap * 8 ≤ 140737488351232) (hr : RdI w w.heap.size A n xs) (hbd : ∀ x ∈ xs, -9223372036854775808 ≤ x ∧ x ≤ 9223372036854775807) :
    Calls Try.prog 6 #[.slice A n cap] w fun e w' => e = .returned (.bool true) ∧ Below w.heap.size w w' := by
  obtain ⟨i0, hi0, hz0, hz1, hz2⟩ := info_parts info_int
  have HBD := Lib.hid hbd
  clear hbd
  go_enter Try.func6, Try.ntmps6
  go_wp2_with fail
  go_loopw [3, 4, 5, 6, 7, 8] (fun b u i _ _ _ wr => ∃ (k : Nat) (vs : List Nat), k ≤ n ∧ k ≤ 64 ∧ i = .int .i64 k ∧ vs.length = k ∧ Hid (∀ v ∈ vs, v ≤ 4611686018427387904) ∧
      wr.ownsRow w.heap.size 5 1 b (allPut vs).length (bvs (allPut vs)) ∧ wr.ownsRow w.heap.size 3 1 u k (ivs (natI vs)) ∧ Below w.heap.size w wr) (fun _ _ i _ _ _ _ => n - (intOf i).toNat)
  case atStart => exact ⟨0, [], by omega, by omega, rfl, rfl, fun v hv => by simp at hv, ⟨by simp [allPut, bvs], .inl ⟨rfl, rfl⟩⟩, ⟨by simp [natI, ivs], .inl ⟨rfl, rfl⟩⟩, Below.refl _ _⟩
  case round =>
    obtain ⟨k, vs, hk, hk64, rfl, hvl, HV, hob, hou, hb⟩ := hrel
    have HVL := Lib.hid hvl
    have hal := allPut_length vs
    rw [hvl] at hal
    clear hvl
    by_cases hlt : k < n ∧ k < 64
    · obtain ⟨hlt, hlt64⟩ := hlt
      obtain ⟨b0, o0, x, rfl, _, hxk, hcx⟩ := (hr.below hb).int hlt
      have hx := HBD.out x (List.mem_of_getElem? hxk)
      clear hxk
      obtain ⟨v, hv, hcl⟩ := clamp_nat x
      have HCL := Lib.hid hcl
      clear hcl
      obtain ⟨Ab, capb, rfl, hcb, _⟩ := own_shape hob
      have hrb := Rd.of_own hob
      go_wp2_with fail
      refine (into_any _ _ _ _).mono ?_
      rintro _ _ ⟨rfl, rfl⟩
      rw [HCL.out]
      go_wp2_with fail
      refine (PutInt_yes _ _ _ _ v _ hrb (by omega) hv).mono ?_
      rintro _ w2 ⟨c, rfl, hoc, hb2⟩
      have hpl := putB_length v
      obtain ⟨Ac, capc, rfl, hcc, _⟩ := own_shape hoc
      go_wp2_with fail
      refine (num_any _ _ (by omega) (by omega)).mono ?_
      rintro _ _ ⟨rfl, rfl⟩
      have hou2 := own_over hou hb2
      have hbs2 := (hb.trans (hb2.mono hb.size)).size
      go_wp2_with (
         at_builtin
         refine app1 w2 (by rfl) _ _ 44 (by rfl) w.heap.size 3 i0 _ 8 u_ints hi0 hz0 hz1 hz2 rfl _ _ _ (by rfl) hou2 _ (by rfl) (by rfl) (by simp only [maxLen]; omega) (by omega) hbs2 ?_
         intro v2 w3 hown2 hb3 hg3)
      go_roundw
      case rel =>
        refine ⟨k + 1, vs ++ [v], by omega, by omega, by go_num, by rw [List.length_append, HVL.out]; rfl, fun y hy => ?_, ?_, by rw [natI_snoc, ivs_append]; exact hown2, (hb.trans (hb2.mono hb.size)).trans hb3⟩
        · rcases List.mem_append.1 hy with h | h
          · exact HV.out y h
          · simp only [List.mem_singleton] at h; omega
        · rw [allPut_snoc, List.length_append]
          exact own_base (own_chg hoc (Chg.of_grown hg3) (own_ne hoc hou2 (by decide))) hb.size
      case measure => simp [intOf]; omega
    · obtain ⟨Ab, capb, rfl, hcb, _⟩ := own_shape hob
      obtain ⟨Au, capu, rfl, hcu, _⟩ := own_shape hou
      have hrb := Rd.of_own hob
      have hru := Rd.of_own hou
      have hx64 : k < n → k = 64 := fun h => by omega
      clear hlt
      by_cases hkn : k < n
      all_goals
        try have h64 : ¬ (k : Int) < 64 := by have := hx64 hkn; omega
        clear hx64
        go_wp2_with fail
        go_loop [9, 10, 11, 12, 13] (fun t i _ _ _ => ∃ m : Nat, m ≤ k ∧ i = .int .i64 m ∧ t = .int .i64 ((allPut (vs.take m)).length : Nat)) (fun _ i _ _ _ => k - (intOf i).toNat)
        case atStart => exact ⟨0, by omega, rfl, rfl⟩
        case round =>
          obtain ⟨m, hm, rfl, rfl⟩ := hrel
          by_cases hmk : m < k
          · obtain ⟨b1, o1, z, rfl, _, hzk, hcz⟩ := hru.int hmk
            have hvm : vs[m]? = some (vs[m]'(by have := HVL.out; omega)) := List.getElem?_eq_getElem _
            generalize vs[m]'(by have := HVL.out; omega) = v at hvm
            obtain rfl : z = (v : Int) := by
              simp only [natI, List.getElem?_map, hvm, Option.map_some, Option.some.injEq] at hzk
              exact hzk.symm
            have hv := HV.out v (List.mem_of_getElem? hvm)
            obtain ⟨s1, s2⟩ := allPut_split hvm
            have hL := Lib.hid (show (allPut (vs.take (m + 1))).length = (allPut (vs.take m)).length + (putB v).length by rw [s2, List.length_append])
            have hT := Lib.hid (show takeInt (allPut vs) ((allPut (vs.take m)).length : Nat) = (v, (allPut (vs.take m)).length + (putB v).length, 0) by rw [s1]; exact take_put _ _ v hv)
            have hpl := putB_length v
            have hle : (allPut (vs.take m)).length + (putB v).length ≤ (allPut vs).length := by rw [s1]; simp only [List.length_append]; omega
            clear hzk hvm s1 s2
            generalize (allPut (vs.take m)).length = q at *
            generalize (putB v).length = pl at *
            go_wp2_with fail
            refine (TakeInt_any _ _ _ _ _ _ _ hrb (by omega) (by omega) (by omega)).mono ?_
            rintro _ _ ⟨⟨v1, nx, er, ht, rfl⟩, rfl⟩
            rw [hT.out, Prod.mk.injEq, Prod.mk.injEq] at ht
            obtain ⟨rfl, rfl, rfl⟩ := ht
            go_wp2_with fail
            refine (num_any _ _ (by omega) (by omega)).mono ?_
            rintro _ _ ⟨rfl, rfl⟩
            go_wp2
            go_round
            case rel => exact ⟨m + 1, by omega, by go_num, by rw [hL.out]; go_num⟩
            case measure => simp [intOf]; omega
          · obtain rfl : m = k := by omega
            have hT := Lib.hid (take_end (allPut vs))
            have hQ := Lib.hid (show (allPut (vs.take m)).length = (allPut vs).length by rw [List.take_of_length_le (by rw [HVL.out]; omega)])
            rw [hQ.out]
            generalize (allPut vs).length = q at *
            go_wp2_with fail
            refine (TakeInt_any _ _ _ _ _ _ _ hrb (by omega) (by omega) (by omega)).mono ?_
            rintro _ _ ⟨⟨v1, nx, er, ht, rfl⟩, rfl⟩
            rw [hT.out, Prod.mk.injEq, Prod.mk.injEq] at ht
            obtain ⟨rfl, rfl, rfl⟩ := ht
            go_wp2_with fail
            refine (num_any _ _ (by omega) (by omega)).mono ?_
            rintro _ _ ⟨rfl, rfl⟩
            go_wp2
            go_ret
            exact ⟨rfl, hb⟩
end Go.Proofs.Ytjafmcahlmopiaa
