/-
  put and PutInt of the program and of the reference: both append the plain groups of a count.
-/
import Derived.Test.YtffcepaegcllmaaDoorLoose
import Derived.Test.YtffcepaegcllmaaDoorTy
namespace Go.Proofs.YtffcepaegcllmaaDoor
open Go.RowKit

/-- The groups of a count, so many more at the most behind the first. -/
def putL : Nat → Nat → List UInt8
  | 0, v => [UInt8.ofNat v]
  | f + 1, v => if v < 128 then [UInt8.ofNat v] else UInt8.ofNat (v % 128 + 128) :: putL f (v / 128)
def putB (v : Nat) : List UInt8 := putL 8 v
theorem putL_small (f v : Nat) (h : v < 128) : putL f v = [UInt8.ofNat v] := by
  cases f with
  | zero => rfl
  | succ f => simp [putL, h]
theorem putL_more (f v : Nat) (h : ¬ v < 128) : putL (f + 1) v = UInt8.ofNat (v % 128 + 128) :: putL f (v / 128) := by simp [putL, h]
theorem putL_length (f : Nat) : ∀ v, 1 ≤ (putL f v).length ∧ (putL f v).length ≤ f + 1 := by
  induction f with
  | zero => intro v; simp [putL]
  | succ f ih =>
    intro v
    unfold putL
    split
    · simp
    · have := ih (v / 128)
      simp only [List.length_cons]
      omega
theorem putB_length (v : Nat) : 1 ≤ (putB v).length ∧ (putB v).length ≤ 9 := putL_length 8 v
theorem bvs_cons (c : UInt8) (l : List UInt8) : bvs (c :: l) = .int .u8 (c.toNat : Int) :: bvs l := rfl
theorem bvs_sing (c : UInt8) : bvs [c] = [.int .u8 (c.toNat : Int)] := rfl
theorem ofNat_int (k : Nat) (h : k < 256) : ((UInt8.ofNat k).toNat : Int) = (k : Int) := by
  rw [UInt8.toNat_ofNat', Nat.mod_eq_of_lt (by omega)]

theorem and127_i64 (a : Nat) (ha : a < 9223372036854775808) : bits .and .i64 (a : Int) 127 = (a : Int) % 128 := by
  have hx : a &&& 127 = a % 128 := Nat.and_two_pow_sub_one_eq_mod a 7
  show IntKind.i64.wrap ((BitVec.ofInt 64 (a : Int) &&& BitVec.ofInt 64 ((127 : Nat) : Int)).toNat : Int) = _
  rw [BitVec.toNat_and, BitVec.ofInt_natCast, BitVec.ofInt_natCast, BitVec.toNat_ofNat, BitVec.toNat_ofNat, Nat.mod_eq_of_lt (show a < 2 ^ 64 by omega), show 127 % 2 ^ 64 = 127 from rfl, hx, IntKind.wrap_i64]
  omega
theorem or128_i64 (a : Nat) : bits .or .i64 ((a : Int) % 128) 128 = (a : Int) % 128 + 128 := by
  have ha : a % 128 < 2 ^ 7 := Nat.mod_lt _ (by omega)
  have hx : a % 128 ||| 1 * 2 ^ 7 = a % 128 + 1 * 2 ^ 7 := by
    rw [← Nat.shiftLeft_eq, Nat.or_comm, ← Nat.shiftLeft_add_eq_or_of_lt ha, Nat.add_comm]
  have e : (a : Int) % 128 = ((a % 128 : Nat) : Int) := by simp
  rw [e]
  show IntKind.i64.wrap ((BitVec.ofInt 64 ((a % 128 : Nat) : Int) ||| BitVec.ofInt 64 ((128 : Nat) : Int)).toNat : Int) = _
  rw [BitVec.toNat_or, BitVec.ofInt_natCast, BitVec.ofInt_natCast, BitVec.toNat_ofNat, BitVec.toNat_ofNat, Nat.mod_eq_of_lt (show a % 128 < 2 ^ 64 by omega), show 128 % 2 ^ 64 = 1 * 2 ^ 7 from rfl, hx, IntKind.wrap_i64]
  omega

set_option maxRecDepth 100000 in
set_option maxHeartbeats 800000 in
theorem put_cht (base : Nat) (v : Value) (n : Nat) (xs : List Value) (x : Nat) (w : World) (hown : w.ownsRow base 5 1 v n xs) (hb0 : base ≤ w.heap.size) (hn : n + 9 ≤ 140737488355328) (hx : x < 9223372036854775808) :
    Calls Tryd.prog 96 #[v, .int .i64 x] w fun e w' => ∃ v', e = .returned v' ∧ w'.ownsRow base 5 1 v' (n + (putB x).length) (xs ++ bvs (putB x)) ∧ ChT [5] base w w' := by
  obtain ⟨i0, hi0, hz0, hz1, hz2⟩ := info_parts info_u8
  go_enter Tryd.func96, Tryd.ntmps96
  go_wp2_with fail
  go_loopw [0, 1] (fun u i wr => ∃ (y f : Nat) (done : List UInt8), i = .int .i64 y ∧ y < 9223372036854775808 ∧ y < 2 ^ (7 * (f + 1)) ∧ done.length + f ≤ 8 ∧ Hid (putB x = done ++ putL f y) ∧ wr.ownsRow base 5 1 u (n + done.length) (xs ++ bvs done) ∧ ChT [5] base w wr) (fun _ i _ => (intOf i).toNat)
  case atStart => exact ⟨x, 8, [], rfl, hx, hx, by simp, rfl, by simpa [bvs] using hown, ChT.refl _ _ _⟩
  case round =>
    obtain ⟨y, f, done, rfl, hy, hyf, hdf, HP, hown, hb⟩ := hrel
    have hbs := ChT.size hb
    by_cases hlt : y < 128
    · have HF := Lib.hid (HP.out.trans (by rw [putL_small f y hlt]))
      have hlen := Lib.hid (congrArg List.length HF.out)
      have HV := Lib.hid (ofNat_int y (by omega))
      have hlt' : ¬ (127 : Int) < (y : Int) := by omega
      clear hyf
      go_wp2_with (
         at_builtin
         refine app1 wr (by rfl) _ _ 36 (by rfl) base 5 i0 _ 1 u_bytes hi0 hz0 hz1 hz2 rfl _ _ _ (by rfl) hown _ (by rfl) (by rfl) (by simp only [maxLen]; omega) (by omega) (by omega) ?_
         intro v2 w2 hown2 _ hg2)
      have hb2 : ChT [5] base wr w2 := ChT.app hown hg2 (by simp)
      go_ret
      refine ⟨_, rfl, ?_, ChT.trans hb hb2⟩
      rw [HF.out, bvs_append, bvs_sing, HV.out, ← List.append_assoc, List.length_append, ← Nat.add_assoc]
      have e : (y : Int) % 256 = (y : Int) := by omega
      first | exact hown2 | (rw [e] at hown2; exact hown2)
    · obtain ⟨f', rfl⟩ : ∃ f', f = f' + 1 := ⟨f - 1, by
        rcases Nat.eq_zero_or_pos f with h | h
        · subst h; simp at hyf; omega
        · omega⟩
      have HF := Lib.hid (HP.out.trans (by rw [putL_more f' y hlt]))
      have HV := Lib.hid (ofNat_int (y % 128 + 128) (by omega))
      have hlt' : (127 : Int) < (y : Int) := by omega
      have ha := and127_i64 y hy
      have ho := or128_i64 y
      have hyf' : y / 128 < 2 ^ (7 * (f' + 1)) := by
        rw [show 7 * (f' + 1 + 1) = 7 * (f' + 1) + 7 from by omega, Nat.pow_add] at hyf
        omega
      have HY := Lib.hid hyf'
      clear hyf hyf'
      go_wp2_with (
         at_builtin
         refine app1 wr (by rfl) _ _ 36 (by rfl) base 5 i0 _ 1 u_bytes hi0 hz0 hz1 hz2 rfl _ _ _ (by rfl) hown _ (by rfl) (by rfl) (by simp only [maxLen]; omega) (by omega) (by omega) ?_
         intro v2 w2 hown2 _ hg2)
      have hb2 : ChT [5] base wr w2 := ChT.app hown hg2 (by simp)
      go_roundw
      case rel =>
        refine ⟨y / 128, f', done ++ [UInt8.ofNat (y % 128 + 128)], by go_num, by omega, HY.out, by rw [List.length_append]; simp only [List.length_cons, List.length_nil]; omega, Lib.hid (by rw [HF.out, List.append_assoc]; rfl), ?_, ChT.trans hb hb2⟩
        rw [bvs_append, bvs_sing, HV.out, ← List.append_assoc, List.length_append, ← Nat.add_assoc]
        exact hown2
      case measure => simp [intOf]; omega

/-- The reference's: the same. -/
def isCount (x : Int) : Prop := 0 ≤ x ∧ x ≤ 4611686018427387904
set_option maxRecDepth 100000 in
set_option maxHeartbeats 800000 in
theorem Rput_cht (base : Nat) (v : Value) (n : Nat) (xs : List Value) (x : Nat) (w : World) (hown : w.ownsRow base 5 1 v n xs) (hb0 : base ≤ w.heap.size) (hn : n + 9 ≤ 140737488355328) (hx : x < 9223372036854775808) :
    Calls Tryd.prog 33 #[v, .int .i64 x] w fun e w' => ∃ v', e = .returned v' ∧ w'.ownsRow base 5 1 v' (n + (putB x).length) (xs ++ bvs (putB x)) ∧ ChT [5] base w w' := by
  obtain ⟨i0, hi0, hz0, hz1, hz2⟩ := info_parts info_u8
  go_enter Tryd.func33, Tryd.ntmps33
  go_wp2_with fail
  go_loopw [0, 1] (fun u i wr => ∃ (y f : Nat) (done : List UInt8), i = .int .i64 y ∧ y < 9223372036854775808 ∧ y < 2 ^ (7 * (f + 1)) ∧ done.length + f ≤ 8 ∧ Hid (putB x = done ++ putL f y) ∧ wr.ownsRow base 5 1 u (n + done.length) (xs ++ bvs done) ∧ ChT [5] base w wr) (fun _ i _ => (intOf i).toNat)
  case atStart => exact ⟨x, 8, [], rfl, hx, hx, by simp, rfl, by simpa [bvs] using hown, ChT.refl _ _ _⟩
  case round =>
    obtain ⟨y, f, done, rfl, hy, hyf, hdf, HP, hown, hb⟩ := hrel
    have hbs := ChT.size hb
    by_cases hlt : y < 128
    · have HF := Lib.hid (HP.out.trans (by rw [putL_small f y hlt]))
      have HV := Lib.hid (ofNat_int y (by omega))
      have hlt' : ¬ (128 : Int) ≤ (y : Int) := by omega
      clear hyf
      go_wp2_with (
         at_builtin
         refine app1 wr (by rfl) _ _ 36 (by rfl) base 5 i0 _ 1 u_bytes hi0 hz0 hz1 hz2 rfl _ _ _ (by rfl) hown _ (by rfl) (by rfl) (by simp only [maxLen]; omega) (by omega) (by omega) ?_
         intro v2 w2 hown2 _ hg2)
      have hb2 : ChT [5] base wr w2 := ChT.app hown hg2 (by simp)
      go_ret
      refine ⟨_, rfl, ?_, ChT.trans hb hb2⟩
      rw [HF.out, bvs_append, bvs_sing, HV.out, ← List.append_assoc, List.length_append, ← Nat.add_assoc]
      have e : (y : Int) % 256 = (y : Int) := by omega
      first | exact hown2 | (rw [e] at hown2; exact hown2)
    · obtain ⟨f', rfl⟩ : ∃ f', f = f' + 1 := ⟨f - 1, by
        rcases Nat.eq_zero_or_pos f with h | h
        · subst h; simp at hyf; omega
        · omega⟩
      have HF := Lib.hid (HP.out.trans (by rw [putL_more f' y hlt]))
      have HV := Lib.hid (ofNat_int (y % 128 + 128) (by omega))
      have hlt' : (128 : Int) ≤ (y : Int) := by omega
      have hyf' : y / 128 < 2 ^ (7 * (f' + 1)) := by
        rw [show 7 * (f' + 1 + 1) = 7 * (f' + 1) + 7 from by omega, Nat.pow_add] at hyf
        omega
      have HY := Lib.hid hyf'
      clear hyf hyf'
      go_wp2_with (
         at_builtin
         refine app1 wr (by rfl) _ _ 36 (by rfl) base 5 i0 _ 1 u_bytes hi0 hz0 hz1 hz2 rfl _ _ _ (by rfl) hown _ (by rfl) (by rfl) (by simp only [maxLen]; omega) (by omega) (by omega) ?_
         intro v2 w2 hown2 _ hg2)
      have hb2 : ChT [5] base wr w2 := ChT.app hown hg2 (by simp)
      go_roundw
      case rel =>
        refine ⟨y / 128, f', done ++ [UInt8.ofNat (y % 128 + 128)], by go_num, by omega, HY.out, by rw [List.length_append]; simp only [List.length_cons, List.length_nil]; omega, Lib.hid (by rw [HF.out, List.append_assoc]; rfl), ?_, ChT.trans hb hb2⟩
        rw [bvs_append, bvs_sing, HV.out, ← List.append_assoc, List.length_append, ← Nat.add_assoc]
        exact hown2
      case measure => simp [intOf]; omega

theorem put_any (base : Nat) (v : Value) (n : Nat) (xs : List Value) (x : Nat) (w : World) (hown : w.ownsRow base 5 1 v n xs) (hb0 : base ≤ w.heap.size) (hn : n + 9 ≤ 140737488355328) (hx : x < 9223372036854775808) :
    Calls Tryd.prog 96 #[v, .int .i64 x] w fun e w' => ∃ v', e = .returned v' ∧ w'.ownsRow base 5 1 v' (n + (putB x).length) (xs ++ bvs (putB x)) ∧ Below base w w' :=
  (put_cht base v n xs x w hown hb0 hn hx).mono fun _ _ ⟨v', h1, h2, h3⟩ => ⟨v', h1, h2, ChT.below h3 hb0⟩
theorem Rput_any (base : Nat) (v : Value) (n : Nat) (xs : List Value) (x : Nat) (w : World) (hown : w.ownsRow base 5 1 v n xs) (hb0 : base ≤ w.heap.size) (hn : n + 9 ≤ 140737488355328) (hx : x < 9223372036854775808) :
    Calls Tryd.prog 33 #[v, .int .i64 x] w fun e w' => ∃ v', e = .returned v' ∧ w'.ownsRow base 5 1 v' (n + (putB x).length) (xs ++ bvs (putB x)) ∧ Below base w w' :=
  (Rput_cht base v n xs x w hown hb0 hn hx).mono fun _ _ ⟨v', h1, h2, h3⟩ => ⟨v', h1, h2, ChT.below h3 hb0⟩

/-- Within: one contract for yes, one for no. -/
theorem Within_yes (v lo hi : Int) (w : World) (h1 : lo ≤ v) (h2 : v ≤ hi) : Calls Tryd.prog 73 #[.int .i64 v, .int .i64 lo, .int .i64 hi] w fun e w' => e = .returned (.bool true) ∧ w = w' := by
  go_enter Tryd.func73, Tryd.ntmps73
  go_wp2
  go_ret
  exact ⟨rfl, rfl⟩
theorem Within_no (v lo hi : Int) (w : World) (h1 : v < lo ∨ hi < v) : Calls Tryd.prog 73 #[.int .i64 v, .int .i64 lo, .int .i64 hi] w fun e w' => e = .returned (.bool false) ∧ w = w' := by
  by_cases h : v < lo
  · clear h1
    go_enter Tryd.func73, Tryd.ntmps73
    go_wp2
    go_ret
    first | exact ⟨rfl, rfl⟩ | exact ⟨ret_bool (by simp; omega), rfl⟩
  · have h2 : hi < v := by omega
    clear h1
    go_enter Tryd.func73, Tryd.ntmps73
    go_wp2
    go_ret
    first | exact ⟨rfl, rfl⟩ | exact ⟨ret_bool (by simp; omega), rfl⟩

end Go.Proofs.YtffcepaegcllmaaDoor
