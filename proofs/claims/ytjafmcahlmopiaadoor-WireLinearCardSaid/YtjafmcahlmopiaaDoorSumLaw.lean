/-
  WireSums, walked: whatever the bytes, the call answers true and leaves old memory as it was.
-/
import Derived.Test.YtjafmcahlmopiaaDoorSum
import Derived.Test.YtjafmcahlmopiaaDoorTurn
namespace Go.Proofs.YtjafmcahlmopiaaDoor
open Go.RowKit

theorem Nibs.below {w w' : World} (h : Nibs w) (hb : Below w.heap.size w w') : Nibs w' := fun k hk => by
  have h0 := h k hk
  have hlt : 0 < w.heap.size := by
    rcases Nat.lt_or_ge 0 w.heap.size with h1 | h1
    · exact h1
    · unfold World.cell? at h0
      rw [Array.getElem?_eq_none h1] at h0
      cases h0
  exact (hb.cell (p := ⟨0, k, none⟩) hlt).trans h0

set_option maxHeartbeats 400000 in
theorem L_any (A : Option Addr) (n cap : Nat) (bs : List UInt8) (w : World) (hr : RdB w w.heap.size A n bs) (hn : n ≤ 140737488351232) :
    Calls Tryd.prog 11 #[.slice A n cap] w fun e w' => ∃ g cap' cur rest, e = .returned (.slice (some ⟨g, 0, none⟩) (n + 64) cap') ∧ w.heap.size ≤ g ∧ n + 64 ≤ cap' ∧ cap' ≤ maxLen ∧ Blk w' g 5 cur ∧
      cur.toList = bvs (bs ++ marks) ++ rest ∧ Below w.heap.size w w' := by
  go_enter Tryd.func11, Tryd.ntmps11
  go_wp2_with fail
  refine (Loose_any _ _ _ _ _ hr hn).mono ?_
  rintro e w1 ⟨v, rfl, hown, hb⟩
  obtain ⟨g, cap', cur, rfl, hg, hB, h1, h2, h3, h4⟩ := own_parts hown (by omega)
  go_wp2
  go_ret
  exact ⟨g, cap', cur, cur.toList.drop ((n + 64) * 1), rfl, hg, h1, h2, hB, by rw [← h4, List.take_append_drop], hb⟩

set_option maxHeartbeats 800000 in
theorem WireSums_walk (A : Option Addr) (n cap : Nat) (bs : List UInt8) (w : World) (hcap : n ≤ cap) (hn0 : cap ≤ 140737488351232) (hr : RdB w w.heap.size A n bs) (ht : Nibs w) :
    Calls Tryd.prog 3 #[.slice A n cap] w fun e w' => e = .returned (.bool true) ∧ Below w.heap.size w w' := by
  have hn : n ≤ 140737488351232 := by omega
  have hl := hr.lenB
  have HL := Lib.hid hl
  clear hl
  have HT := Lib.hid ht
  clear ht
  go_enter Tryd.func3, Tryd.ntmps3
  go_wp2_with fail
  refine (L_any _ _ _ _ _ hr hn).mono ?_
  rintro e w1 ⟨g, cap1, cur, rest, rfl, hg, h1, h2, hB, hc, hb⟩
  have HC := Lib.hid hc
  clear hc
  have hlm : (bs ++ marks).length = n + 64 := by rw [List.length_append, HL.out, show marks.length = 64 from pats_length _ _]
  have hrd := rd_blk hB HC.out hlm
  have hrg := rd_blk (bs := bs) (rest := bvs marks ++ rest) hB (by rw [HC.out, bvs_append, List.append_assoc]) HL.out
  clear hlm
  have hm : cap1 ≤ 9223372036854775807 := by simp only [maxLen] at h2; omega
  go_wp2_with fail
  refine (Sum_any _ _ _ _ _ _ hrg (by omega) (HT.out.below hb)).mono ?_
  rintro _ _ ⟨rfl, rfl⟩
  go_wp2_with fail
  refine (RSum_any _ _ _ _ _ _ (hr.below hb) (by omega)).mono ?_
  rintro _ _ ⟨rfl, rfl⟩
  go_wp2_with fail
  refine (Unspoilt_any _ _ _ _ _ _ _ _ _ _ _ hrd (hr.below hb) rfl (by omega)).mono ?_
  rintro _ w2 ⟨rfl, d, hd⟩
  have hb2 : Below w.heap.size w w2 := by rw [hd]; exact below_drewN hb d
  have hB2 : Blk w2 g 5 cur := by rw [hd]; exact hB.drewN d
  clear hd
  go_wp2_with fail
  rw [← HL.out]
  refine (turn_any g cap1 cur bs (bvs marks ++ rest) _ hB2 (by rw [HC.out, bvs_append, List.append_assoc]) (by rw [HL.out]; omega)).mono ?_
  rintro _ w3 ⟨v, rfl, hown, hgr, cur', hB3, hc3⟩
  rw [HL.out] at hown ⊢
  obtain ⟨A3, cap3, rfl, hcap3, hcap3'⟩ := own_shape hown
  have HC3 := Lib.hid hc3
  clear hc3
  have hb3 : Below w.heap.size w w3 := hb2.grown hgr hb2.size (fun k hk => by simp only [Option.some.injEq] at hk; omega)
  have hLt : (turned bs).length = n := by rw [turned_length, HL.out]
  have hrd3 := rd_blk (bs := turned bs ++ marks) (n := n + 64) hB3 (by rw [HC3.out, bvs_append, List.append_assoc]) (by rw [List.length_append, hLt, show marks.length = 64 from pats_length _ _])
  have hrg3 := rd_blk hB3 HC3.out hLt
  have hv3 := Rd.of_own hown
  clear hLt
  go_wp2_with fail
  refine (Sum_any _ _ _ _ _ _ hrg3 (by omega) (HT.out.below hb3)).mono ?_
  rintro _ _ ⟨rfl, rfl⟩
  go_wp2_with fail
  refine (RSum_any _ _ _ _ _ _ hv3 (by omega)).mono ?_
  rintro _ _ ⟨rfl, rfl⟩
  go_wp2_with fail
  refine (Unspoilt_any _ _ _ _ _ _ _ _ _ _ _ hrd3 hv3 rfl (by omega)).mono ?_
  rintro _ w4 ⟨rfl, d4, hd4⟩
  have hb4 : Below w.heap.size w w4 := by rw [hd4]; exact below_drewN hb3 d4
  clear hd4
  go_wp2
  go_ret
  exact ⟨rfl, hb4⟩
end Go.Proofs.YtjafmcahlmopiaaDoor
