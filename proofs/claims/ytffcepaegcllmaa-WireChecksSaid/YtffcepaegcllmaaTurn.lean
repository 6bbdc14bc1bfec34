/-
  turn: other bytes come to stand in the same list; the answer is a copy of them.
-/
import Derived.Test.YtffcepaegcllmaaLoose
namespace Go.Proofs.Ytffcepaegcllmaa
open Go.RowKit

def turnZ (i : Nat) (c : UInt8) : Int := bits BinOp.xor IntKind.u8 (c.toNat : Int) (17 + (i : Int) % 3)
def turn1 (i : Nat) (c : UInt8) : UInt8 := UInt8.ofNat (turnZ i c).toNat
theorem turn1_eq (i : Nat) (c : UInt8) : ((turn1 i c).toNat : Int) = turnZ i c := by
  have := xor_u8_bd (c.toNat : Int) (17 + (i : Int) % 3)
  unfold turn1 turnZ
  rw [UInt8.toNat_ofNat', Nat.mod_eq_of_lt (by omega)]
  omega
def turnTo (k : Nat) (bs : List UInt8) : List UInt8 := bs.mapIdx fun j c => if j < k then turn1 j c else c
def turned (bs : List UInt8) : List UInt8 := turnTo bs.length bs
theorem turnTo_length (k : Nat) (bs : List UInt8) : (turnTo k bs).length = bs.length := by simp [turnTo]
theorem turned_length (bs : List UInt8) : (turned bs).length = bs.length := turnTo_length _ _
theorem turnTo_zero (bs : List UInt8) : turnTo 0 bs = bs := by
  apply List.ext_getElem? ; intro j
  simp [turnTo, List.getElem?_mapIdx]
theorem turnTo_succ {k : Nat} {bs : List UInt8} {c : UInt8} (h : bs[k]? = some c) : turnTo (k + 1) bs = (turnTo k bs).set k (turn1 k c) := by
  obtain ⟨hk, _⟩ := List.getElem?_eq_some_iff.1 h
  apply List.ext_getElem? ; intro j
  rw [List.getElem?_set]
  simp only [turnTo, List.getElem?_mapIdx, List.length_mapIdx]
  by_cases hj : k = j
  · subst hj
    have e : bs[k] = c := by rw [List.getElem?_eq_getElem hk] at h; exact Option.some.inj h
    simp [hk, e]
  · rw [if_neg hj]
    have e : (j < k + 1) ↔ (j < k) := by omega
    simp only [e]

theorem bvs_set (l : List UInt8) (k : Nat) (c : UInt8) : bvs (l.set k c) = (bvs l).set k (.int .u8 (c.toNat : Int)) := by simp [bvs, List.map_set]
theorem grown_setCell {a w : World} {g : Nat} (h : a.grownBy w (some g)) (i : Nat) (u : Value) : a.grownBy (w.setCell ⟨g, i, none⟩ u) (some g) :=
  ⟨h.os, h.tape, h.output, by simpa [World.setCell] using h.size, fun j hj hne => (Below.heap_setCell w ⟨g, i, none⟩ u j (by rintro rfl; exact hne rfl)).trans (h.block j hj hne)⟩
theorem grown_below {a w w' : World} {row : Option Nat} (h : a.grownBy w row) (hb : Below w.heap.size w w') : a.grownBy w' row :=
  ⟨hb.os.trans h.os, hb.tape.trans h.tape, hb.output.trans h.output, Nat.le_trans h.size hb.size, fun j hj hne => (hb.block j (Nat.lt_of_lt_of_le hj h.size)).trans (h.block j hj hne)⟩
theorem rd_block {w : World} {g : Nat} {t : TypeId} {cur : Array Value} {bs : List UInt8} {rest : List Value} (hB : Blk w g t cur) (hc : cur.toList = bvs bs ++ rest) : RdB w w.heap.size (some ⟨g, 0, none⟩) bs.length bs :=
  ⟨by simp [bvs_length], fun _ => ⟨g, 0, rfl, hB.lt, fun j u hu => by
    rw [Nat.zero_add, hB.cell, ← Array.getElem?_toList, hc, List.getElem?_append_left]
    · exact hu
    · exact (List.getElem?_eq_some_iff.1 hu).1⟩⟩

theorem rd_blk {w : World} {g n : Nat} {t : TypeId} {cur : Array Value} {bs : List UInt8} {rest : List Value} (hB : Blk w g t cur) (hc : cur.toList = bvs bs ++ rest) (hl : bs.length = n) : RdB w w.heap.size (some ⟨g, 0, none⟩) n bs := by
  subst hl; exact rd_block hB hc

set_option maxHeartbeats 400000 in
theorem L_any (A : Option Addr) (n cap : Nat) (bs : List UInt8) (w : World) (hr : RdB w w.heap.size A n bs) (hn : n ≤ 140737488351232) :
    Calls Try.prog 6 #[.slice A n cap] w fun e w' => ∃ g cap' cur rest, e = .returned (.slice (some ⟨g, 0, none⟩) (n + 64) cap') ∧ w.heap.size ≤ g ∧ n + 64 ≤ cap' ∧ cap' ≤ maxLen ∧ Blk w' g 5 cur ∧
      cur.toList = bvs (bs ++ marks) ++ rest ∧ Below w.heap.size w w' := by
  go_enter Try.func6, Try.ntmps6
  go_wp2_with fail
  refine (Loose_any _ _ _ _ _ hr hn).mono ?_
  rintro e w1 ⟨v, rfl, hown, hb⟩
  obtain ⟨g, cap', cur, rfl, hg, hB, h1, h2, h3, h4⟩ := own_parts hown (by omega)
  go_wp2
  go_ret
  exact ⟨g, cap', cur, cur.toList.drop ((n + 64) * 1), rfl, hg, h1, h2, hB, by rw [← h4, List.take_append_drop], hb⟩

set_option maxHeartbeats 400000 in
theorem num_any (x : Int) (w : World) (_h0 : -9223372036854775808 ≤ x) (_h1 : x ≤ 9223372036854775807) : Calls Try.prog 8 #[.int .i64 x] w fun e w' => e = .returned (.int .i64 x) ∧ w = w' := by
  go_enter Try.func8, Try.ntmps8
  go_wp2
  go_ret
  exact ⟨rfl, rfl⟩
end Go.Proofs.Ytffcepaegcllmaa
