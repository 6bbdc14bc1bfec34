/-
  turn: other bytes come to stand in the same list; the answer is a copy of them.
-/
import Derived.Test.YtffcepaegcllmaaDoorLoose
namespace Go.Proofs.YtffcepaegcllmaaDoor
open Go.RowKit

def turnZ (i : Nat) (c : UInt8) : Int := bits BinOp.xor IntKind.u8 (c.toNat : Int) (17 + (i : Int) % 3)
def turn1 (i : Nat) (c : UInt8) : UInt8 := UInt8.ofNat (turnZ i c).toNat
theorem turn1_eq (i : Nat) (c : UInt8) : ((turn1 i c).toNat : Int) = turnZ i c := by
  have := xor_u8_bd (c.toNat : Int) (17 + (i : Int) % 3)
  unfold turn1 turnZ
  rw [UInt8.toNat_ofNat', Nat.mod_eq_of_lt (by omega)]
  omega
def turnTo (k : Nat) (bs : List UInt8) : List UInt8 := bs.mapIdx fun j c => if j < k then turn1 j c else c
def turned (bs : List UInt8) : List UInt8 := turnTo bs.length bs
theorem turnTo_length (k : Nat) (bs : List UInt8) : (turnTo k bs).length = bs.length := by simp [turnTo]
theorem turned_length (bs : List UInt8) : (turned bs).length = bs.length := turnTo_length _ _
theorem turnTo_zero (bs : List UInt8) : turnTo 0 bs = bs := by
  apply List.ext_getElem? ; intro j
  simp [turnTo, List.getElem?_mapIdx]
theorem turnTo_succ {k : Nat} {bs : List UInt8} {c : UInt8} (h : bs[k]? = some c) : turnTo (k + 1) bs = (turnTo k bs).set k (turn1 k c) := by
  obtain ⟨hk, _⟩ := List.getElem?_eq_some_iff.1 h
  apply List.ext_getElem? ; intro j
  rw [List.getElem?_set]
  simp only [turnTo, List.getElem?_mapIdx, List.length_mapIdx]
  by_cases hj : k = j
  · subst hj
    have e : bs[k] = c := by rw [List.getElem?_eq_getElem hk] at h; exact Option.some.inj h
    simp [hk, e]
  · rw [if_neg hj]
    have e : (j < k + 1) ↔ (j < k) := by omega
    simp only [e]

theorem bvs_set (l : List UInt8) (k : Nat) (c : UInt8) : bvs (l.set k c) = (bvs l).set k (.int .u8 (c.toNat : Int)) := by simp [bvs, List.map_set]
theorem grown_setCell {a w : World} {g : Nat} (h : a.grownBy w (some g)) (i : Nat) (u : Value) : a.grownBy (w.setCell ⟨g, i, none⟩ u) (some g) :=
  ⟨h.os, h.tape, h.output, by simpa [World.setCell] using h.size, fun j hj hne => (Below.heap_setCell w ⟨g, i, none⟩ u j (by rintro rfl; exact hne rfl)).trans (h.block j hj hne)⟩
theorem grown_below {a w w' : World} {row : Option Nat} (h : a.grownBy w row) (hb : Below w.heap.size w w') : a.grownBy w' row :=
  ⟨hb.os.trans h.os, hb.tape.trans h.tape, hb.output.trans h.output, Nat.le_trans h.size hb.size, fun j hj hne => (hb.block j (Nat.lt_of_lt_of_le hj h.size)).trans (h.block j hj hne)⟩
theorem rd_block {w : World} {g : Nat} {t : TypeId} {cur : Array Value} {bs : List UInt8} {rest : List Value} (hB : Blk w g t cur) (hc : cur.toList = bvs bs ++ rest) : RdB w w.heap.size (some ⟨g, 0, none⟩) bs.length bs :=
  ⟨by simp [bvs_length], fun _ => ⟨g, 0, rfl, hB.lt, fun j u hu => by
    rw [Nat.zero_add, hB.cell, ← Array.getElem?_toList, hc, List.getElem?_append_left]
    · exact hu
    · exact (List.getElem?_eq_some_iff.1 hu).1⟩⟩

theorem rd_blk {w : World} {g n : Nat} {t : TypeId} {cur : Array Value} {bs : List UInt8} {rest : List Value} (hB : Blk w g t cur) (hc : cur.toList = bvs bs ++ rest) (hl : bs.length = n) : RdB w w.heap.size (some ⟨g, 0, none⟩) n bs := by
  subst hl; exact rd_block hB hc

set_option maxHeartbeats 800000 in
theorem turn_any (g cap : Nat) (cur : Array Value) (bs : List UInt8) (rest : List Value) (w : World) (hB : Blk w g 5 cur) (hc : cur.toList = bvs bs ++ rest) (hn : bs.length ≤ 140737488351232) :
    Calls Tryd.prog 27 #[.slice (some ⟨g, 0, none⟩) bs.length cap] w fun e w' => ∃ v, e = .returned v ∧ w'.ownsRow w.heap.size 5 1 v bs.length (bvs (turned bs)) ∧ w.grownBy w' (some g) ∧
      ∃ cur', Blk w' g 5 cur' ∧ cur'.toList = bvs (turned bs) ++ rest := by
  generalize hn' : bs.length = n at *
  have HN := Lib.hid hn'
  clear hn'
  go_enter Tryd.func27, Tryd.ntmps27
  go_wp2
  go_loopw [3] (fun i wr => ∃ k : Nat, k ≤ n ∧ i = .int .i64 k ∧ w.grownBy wr (some g) ∧ wr.heap.size = w.heap.size ∧ ∃ cur', Blk wr g 5 cur' ∧ cur'.toList = bvs (turnTo k bs) ++ rest) (fun i _ => n - (intOf i).toNat)
  case atStart => exact ⟨0, by omega, rfl, World.grownBy.refl _ _, rfl, cur, hB, by rw [turnTo_zero]; exact hc⟩
  case round =>
    obtain ⟨k, hk, rfl, hg, hz, cur', hB', hc'⟩ := hrel
    have HZ := Lib.hid hz
    have HC := Lib.hid hc'
    clear hz hc'
    by_cases hlt : k < n
    · have hbk : bs[k]? = some (bs[k]'(by have := HN.out; omega)) := List.getElem?_eq_getElem _
      generalize bs[k]'(by have := HN.out; omega) = c at hbk
      have HK := Lib.hid hbk
      have hcell : wr.cell? ⟨g, k, none⟩ = some (.int .u8 (c.toNat : Int)) := by
        rw [hB'.cell, ← Array.getElem?_toList, HC.out, List.getElem?_append_left (by rw [bvs_length, turnTo_length, HN.out]; exact hlt)]
        apply bvs_at
        simp [turnTo, List.getElem?_mapIdx, hbk]
      have hfr := hB'.frozen k
      clear hbk
      have hcb := c.toNat_lt
      have hv : Value.int .u8 (bits BinOp.xor IntKind.u8 (c.toNat : Int) (17 + (k : Int) % 3)) = .int .u8 ((turn1 k c).toNat : Int) := by rw [turn1_eq]; rfl
      have HV := Lib.hid hv
      clear hv
      go_wp2
      go_roundw
      case rel =>
        refine ⟨k + 1, by omega, by go_num, grown_setCell hg _ _, HZ.out ▸ by simp [World.setCell], _, hB'.set_ k _, ?_⟩
        rw [Array.toList_setIfInBounds, HC.out, HV.out, turnTo_succ HK.out, bvs_set, List.set_append_left _ _ (by rw [bvs_length, turnTo_length, HN.out]; exact hlt)]
      case measure => simp [intOf]; omega
    · obtain rfl : k = n := by omega
      clear hlt hk
      go_wp2_with fail
      have e : turnTo k bs = turned bs := by unfold turned; rw [HN.out]
      have hrd := rd_block hB' HC.out
      rw [turnTo_length, HN.out, e] at hrd
      refine (Copied_any _ _ cap _ _ hrd (by omega)).mono ?_
      rintro _ w2 ⟨v, rfl, hown, hb⟩
      go_wp2
      go_ret
      exact ⟨_, rfl, HZ.out ▸ hown, grown_below hg hb, cur', hB'.over hb, by rw [HC.out, e]⟩

set_option maxHeartbeats 400000 in
theorem L_any (A : Option Addr) (n cap : Nat) (bs : List UInt8) (w : World) (hr : RdB w w.heap.size A n bs) (hn : n ≤ 140737488351232) :
    Calls Tryd.prog 21 #[.slice A n cap] w fun e w' => ∃ g cap' cur rest, e = .returned (.slice (some ⟨g, 0, none⟩) (n + 64) cap') ∧ w.heap.size ≤ g ∧ n + 64 ≤ cap' ∧ cap' ≤ maxLen ∧ Blk w' g 5 cur ∧
      cur.toList = bvs (bs ++ marks) ++ rest ∧ Below w.heap.size w w' := by
  go_enter Tryd.func21, Tryd.ntmps21
  go_wp2_with fail
  refine (Loose_any _ _ _ _ _ hr hn).mono ?_
  rintro e w1 ⟨v, rfl, hown, hb⟩
  obtain ⟨g, cap', cur, rfl, hg, hB, h1, h2, h3, h4⟩ := own_parts hown (by omega)
  go_wp2
  go_ret
  exact ⟨g, cap', cur, cur.toList.drop ((n + 64) * 1), rfl, hg, h1, h2, hB, by rw [← h4, List.take_append_drop], hb⟩

set_option maxHeartbeats 400000 in
theorem num_any (x : Int) (w : World) (_h0 : -9223372036854775808 ≤ x) (_h1 : x ≤ 9223372036854775807) : Calls Tryd.prog 13 #[.int .i64 x] w fun e w' => e = .returned (.int .i64 x) ∧ w = w' := by
  go_enter Tryd.func13, Tryd.ntmps13
  go_wp2
  go_ret
  exact ⟨rfl, rfl⟩
end Go.Proofs.YtffcepaegcllmaaDoor
