/-
  The helpers of the statements that stand without the document's detector: pos, another, hears, at, holds.
-/
import Derived.Test.YtfjpmoigpnmeoaaDOps
namespace Go.Proofs.Ytfjpmoigpnmeoaa
open Go.RowKit
variable {w : World}

def posZ (v n : Int) : Int := if n < 1 then 0 else v % n
theorem posZ_bd {v n : Int} (hn : 1 ≤ n) : 0 ≤ posZ v n ∧ posZ v n < n := by
  unfold posZ
  rw [if_neg (by omega)]
  exact ⟨Int.emod_nonneg _ (by omega), Int.emod_lt_of_pos _ (by omega)⟩
theorem tmod_emod {v n : Int} (hn : 1 ≤ n) : (if v.tmod n < 0 then v.tmod n + n else v.tmod n) = v % n := by
  have h := Int.tmod_eq_emod (a := v) (b := n)
  have h1 := Int.emod_nonneg v (show n ≠ 0 by omega)
  have h2 := Int.emod_lt_of_pos v (show 0 < n by omega)
  have hnn : (n.natAbs : Int) = n := by omega
  by_cases hv : 0 ≤ v ∨ n ∣ v
  · rw [if_pos hv] at h
    rw [h]
    simp only [Int.natCast_zero, Int.sub_zero]
    rw [if_neg (by omega)]
  · rw [if_neg hv] at h
    rw [h, hnn, if_pos (by omega)]
    omega
set_option maxRecDepth 100000 in
set_option maxHeartbeats 1600000 in
theorem pos_any (v n : Int) (w : World) (_h0 : -9223372036854775808 ≤ v) (_h1 : v ≤ 9223372036854775807) (hn : n ≤ 9223372036854775807) :
    Calls Try.prog 12 #[.int .i64 v, .int .i64 n] w fun e w' => e = .returned (.int .i64 (posZ v n)) ∧ w = w' := by
  by_cases hlt : n < 1
  · have HP : Hid (posZ v n = 0) := Lib.hid (by rw [posZ, if_pos hlt])
    go_enter Try.func12, Try.ntmps12
    go_wp2
    go_ret
    exact ⟨ret_int HP.out.symm, rfl⟩
  · have HP : Hid (posZ v n = if v.tmod n < 0 then v.tmod n + n else v.tmod n) := Lib.hid (by rw [posZ, if_neg hlt, tmod_emod (by omega)])
    have hz : (n == 0) = false := by simp; omega
    have hz2 : n ≠ 0 := by omega
    have hz3 : ¬ n = 0 := by omega
    have hb := Int.tmod_lt_of_pos v (show 0 < n by omega)
    have hb2 := Int.lt_tmod_of_pos v (show 0 < n by omega)
    go_enter Try.func12, Try.ntmps12
    go_wp2
    all_goals
      go_ret
      refine ⟨ret_int ?_, rfl⟩
      rw [HP.out]
      split <;> omega
/-- Another node, out of any number. -/
def anoZ (v n s : Int) : Int := if n < 2 then -1 else if posZ v (n - 1) ≥ s then posZ v (n - 1) + 1 else posZ v (n - 1)
set_option maxRecDepth 100000 in
set_option maxHeartbeats 1600000 in
theorem another_any (v n s : Int) (w : World) (h0 : -9223372036854775808 ≤ v) (h1 : v ≤ 9223372036854775807) (hn0 : -9223372036854775808 ≤ n) (hn : n ≤ 9223372036854775807) :
    Calls Try.prog 11 #[.int .i64 v, .int .i64 n, .int .i64 s] w fun e w' => e = .returned (.int .i64 (anoZ v n s)) ∧ w = w' := by
  by_cases hlt : n < 2
  · have HP : Hid (anoZ v n s = -1) := Lib.hid (by rw [anoZ, if_pos hlt])
    go_enter Try.func11, Try.ntmps11
    go_wp2
    go_ret
    exact ⟨ret_int HP.out.symm, rfl⟩
  · have HP : Hid (anoZ v n s = if posZ v (n - 1) ≥ s then posZ v (n - 1) + 1 else posZ v (n - 1)) := Lib.hid (by rw [anoZ, if_neg hlt])
    have hb := posZ_bd (v := v) (n := n - 1) (by omega)
    have HC := Lib.hid (pos_any v (n - 1) w h0 h1 (by omega))
    generalize posZ v (n - 1) = x at *
    obtain ⟨hb1, hb2⟩ := hb
    by_cases hs : s ≤ x
    · have hs' : x ≥ s := hs
      have HQ : Hid (anoZ v n s = x + 1) := Lib.hid (by rw [HP.out, if_pos hs])
      go_enter Try.func11, Try.ntmps11
      go_wp2_with fail
      refine HC.out.mono ?_
      rintro _ _ ⟨rfl, rfl⟩
      go_wp2
      go_ret
      exact ⟨ret_int HQ.out.symm, rfl⟩
    · have HQ : Hid (anoZ v n s = x) := Lib.hid (by rw [HP.out, if_neg hs])
      go_enter Try.func11, Try.ntmps11
      go_wp2_with fail
      refine HC.out.mono ?_
      rintro _ _ ⟨rfl, rfl⟩
      go_wp2
      go_ret
      exact ⟨ret_int HQ.out.symm, rfl⟩
/-- Within a detector's limits: there is none, or it is another one. -/
theorem anoZ_of {c : Cfg} (hc : c.Ok) (v : Int) : (c.n = 1 ∧ anoZ v (c.n : Int) (c.self : Int) = -1) ∨ ∃ j : Nat, anoZ v (c.n : Int) (c.self : Int) = (j : Int) ∧ j < c.n ∧ j ≠ c.self := by
  obtain ⟨h1, h2, h3, _⟩ := hc
  by_cases hn : c.n = 1
  · exact .inl ⟨hn, by rw [anoZ, if_pos (by omega)]⟩
  · right
    have hb := posZ_bd (v := v) (n := (c.n : Int) - 1) (by omega)
    unfold anoZ
    rw [if_neg (by omega)]
    split
    · exact ⟨(posZ v ((c.n : Int) - 1) + 1).toNat, by omega, by omega, by omega⟩
    · exact ⟨(posZ v ((c.n : Int) - 1)).toNat, by omega, by omega, by omega⟩
def hearsZ (n a : Nat) (v : Int) : List Int := (List.range n).map fun j => if j = a then v else 0
theorem hearsZ_len (n a : Nat) (v : Int) : (hearsZ n a v).length = n := by simp [hearsZ]
theorem hearsZ_at {n a : Nat} (v : Int) (h : a < n) : (hearsZ n a v).getD a 0 = v := by simp [hearsZ, List.getD, h]
theorem hearsZ_all (n a : Nat) (v : Int) (h : 0 ≤ v) (h2 : v ≤ 4611686018427387904) : (hearsZ n a v).all okV = true := by
  rw [List.all_eq_true]
  intro x hx
  simp only [hearsZ, List.mem_map] at hx
  obtain ⟨j, _, rfl⟩ := hx
  unfold okV
  split
  · simp [h, h2]
  · simp
/-- A list of the call's own in a block of its own. -/
def FreshP (w : World) (hs : List Int) (e : Ending) (w' : World) : Prop := ∃ g, e = .returned (.slice (some ⟨g, 0, none⟩) hs.length hs.length) ∧ w.heap.size ≤ g ∧ Blk w' g 3 (rg hs.length fun j => .int .i64 (hs.getD j 0)) ∧ Below w.heap.size w w'
set_option maxRecDepth 100000 in
set_option maxHeartbeats 1600000 in
theorem hears_any (n a : Nat) (v : Int) (w : World) (hn : n ≤ 16) (ha : a < n) :
    Calls Try.prog 14 #[.int .i64 (n : Int), .int .i64 (a : Int), .int .i64 v] w (FreshP w (hearsZ n a v)) := by
  have hmk := make_ints n (by omega) w
  have hb0 := one_box' w (.cells (rg n fun _ => .int .i64 0) 3)
  have hB := Blk.new w 3 (rg n fun _ => .int .i64 0)
  have haI : (a : Int) < (n : Int) := by omega
  obtain ⟨w0, hw0⟩ : ∃ w0, w0 = w.alloc (.cells (rg n fun _ => .int .i64 0) 3) := ⟨_, rfl⟩
  rw [← hw0] at hB hb0
  have HW := Lib.hid hw0
  have l0 : w0.cell? ⟨w.heap.size, a, none⟩ = some (.int .i64 0) := by rw [hB.cell, rg_at _ ha]
  have lf : w0.frozen? ⟨w.heap.size, a, none⟩ = false := hB.frozen _
  have HE : Hid (FreshP w (hearsZ n a v) (.returned (.slice (some ⟨w.heap.size, 0, none⟩) n n)) (w0.setCell ⟨w.heap.size, a, none⟩ (.int .i64 v))) := by
    refine Lib.hid ⟨w.heap.size, by rw [hearsZ_len], Nat.le_refl _, ?_, hb0.setCell (by simp) _⟩
    have h1 := hB.set_ a (.int .i64 v)
    rw [rg_set] at h1
    rw [hearsZ_len]
    have e : (rg n fun j => if j = a then Value.int .i64 v else .int .i64 0) = rg n fun j => .int .i64 ((hearsZ n a v).getD j 0) := rg_congr fun j hj => by
      simp only [hearsZ, List.getD, List.getElem?_map, List.getElem?_range hj, Option.map_some, Option.getD_some]
      split <;> rfl
    rw [← e]; exact h1
  clear hw0 hB
  go_enter Try.func14, Try.ntmps14
  go_upto_region 2 with fail
  rw [← HW.out]
  clear hmk
  go_wp2
  go_ret
  exact HE.out
def atZ (l : List Int) (i : Int) : Int := if i < 0 then -1 else if (l.length : Int) ≤ i then -1 else l.getD i.toNat 0
set_option maxRecDepth 100000 in
set_option maxHeartbeats 1600000 in
theorem at_any (A : Option Addr) (n cap : Nat) (hs : List Int) (i : Int) (w : World) (hr : RdI w w.heap.size A n hs) :
    Calls Try.prog 17 #[.slice A n cap, .int .i64 i] w fun e w' => e = .returned (.int .i64 (atZ hs i)) ∧ w = w' := by
  have HL := Lib.hid hr.lenI
  by_cases h0 : i < 0
  · have HP : Hid (atZ hs i = -1) := Lib.hid (by rw [atZ, if_pos h0])
    go_enter Try.func17, Try.ntmps17
    go_wp2
    go_ret
    exact ⟨ret_int HP.out.symm, rfl⟩
  · by_cases h1 : (n : Int) ≤ i
    · have HP : Hid (atZ hs i = -1) := Lib.hid (by rw [atZ, if_neg h0, HL.out, if_pos h1])
      go_enter Try.func17, Try.ntmps17
      go_wp2
      go_ret
      exact ⟨ret_int HP.out.symm, rfl⟩
    · obtain ⟨k, rfl⟩ := Int.eq_ofNat_of_zero_le (show 0 ≤ i by omega)
      obtain ⟨b, off, x, rfl, hbl, hx, hc⟩ := hr.int (k := k) (by omega)
      have HP : Hid (atZ hs (k : Int) = x) := Lib.hid (by rw [atZ, if_neg h0, HL.out, if_neg h1, Int.toNat_natCast]; simp [List.getD, hx])
      have hI : (k : Int) < (n : Int) := by omega
      clear hx
      go_enter Try.func17, Try.ntmps17
      go_wp2
      go_ret
      exact ⟨ret_int HP.out.symm, rfl⟩
def holdsB (l : List Int) (v : Int) : Bool := l.any fun x => x == v
set_option maxRecDepth 100000 in
set_option maxHeartbeats 1600000 in
theorem holds_any (A : Option Addr) (n cap : Nat) (hs : List Int) (v : Int) (w : World) (hr : RdI w w.heap.size A n hs) (hm : n ≤ 140737488351232) :
    Calls Try.prog 27 #[.slice A n cap, .int .i64 v] w fun e w' => e = .returned (.bool (holdsB hs v)) ∧ w = w' := by
  have HL := Lib.hid hr.lenI
  go_enter Try.func27, Try.ntmps27
  go_wp2_with fail
  go_loop [5] (fun i => ∃ k : Nat, k ≤ n ∧ i = .int .i64 (k : Int) ∧ Hid (holdsB (hs.take k) v = false)) (fun i => n - (intOf i).toNat)
  case atStart => exact ⟨0, by omega, rfl, Lib.hid (by simp [holdsB])⟩
  case round =>
    obtain ⟨k, hk, rfl, HN⟩ := hrel
    by_cases hlt : k < n
    · have hI : (k : Int) < (n : Int) := by omega
      obtain ⟨b, off, x, rfl, hbl, hx, hc⟩ := hr.int hlt
      by_cases he : x = v
      · have e1 : (x == v) = true := by simpa using he
        have HP : Hid (holdsB hs v = true) := Lib.hid (by
          unfold holdsB
          rw [List.any_eq_true]
          exact ⟨x, List.mem_of_getElem? hx, e1⟩)
        clear hx he
        go_wp2
        go_ret
        exact ⟨ret_bool HP.out.symm, rfl⟩
      · have e1 : (x == v) = false := by simpa using he
        have HP : Hid (holdsB (hs.take (k + 1)) v = false) := Lib.hid (by
          have := HN.out
          unfold holdsB at *
          rw [List.take_add_one, hx, List.any_append, this]
          simp [he])
        clear hx he
        go_wp2
        go_round
        case rel => exact ⟨k + 1, by omega, by go_num, HP⟩
        case measure => simp [intOf] <;> omega
    · obtain rfl : k = n := by omega
      have HP : Hid (holdsB hs v = false) := Lib.hid (by
        have := HN.out
        rw [List.take_of_length_le (by rw [HL.out]; exact Nat.le_refl _)] at this
        exact this)
      go_wp2
      go_ret
      exact ⟨ret_bool HP.out.symm, rfl⟩
end Go.Proofs.Ytfjpmoigpnmeoaa
