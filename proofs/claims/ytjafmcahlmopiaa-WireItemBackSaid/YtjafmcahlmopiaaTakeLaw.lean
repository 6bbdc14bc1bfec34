/-
  WireTakes, walked.
-/
import Derived.Test.YtjafmcahlmopiaaTake
import Derived.Test.YtjafmcahlmopiaaTurn
namespace Go.Proofs.Ytjafmcahlmopiaa
open Go.RowKit

theorem tk_bd (bs : List UInt8) (p : Nat) (hp : p + 10 ≤ 9223372036854775807) : ∀ (f i v : Nat), i + f ≤ 9 → (tk bs p f i v).1 ≤ 4611686018427387904 ∧ (tk bs p f i v).2.1 ≤ 9223372036854775807 ∧ (tk bs p f i v).2.2 ≤ 17 := by
  intro f
  induction f with
  | zero => intro i v _; simp [tk]
  | succ f ih =>
    intro i v hi
    unfold tk
    split
    · simp
    · split
      · split
        · simp
        · rename_i h
          simp only
          omega
      · exact ih _ _ (by omega)
theorem takeInt_bd (bs : List UInt8) (x : Int) (hl : bs.length ≤ 140737488355328) : (takeInt bs x).1 ≤ 4611686018427387904 ∧ (takeInt bs x).2.1 ≤ 9223372036854775807 ∧ (takeInt bs x).2.2 ≤ 17 := by
  unfold takeInt
  split
  · simp
  · exact tk_bd _ _ (by omega) _ _ _ (by omega)

set_option maxRecDepth 100000 in
set_option maxHeartbeats 1600000 in
theorem WireTakes_walk (A : Option Addr) (n cap : Nat) (bs : List UInt8) (x : Int) (w : World) (hcap : n ≤ cap) (hn0 : cap ≤ 140737488351232) (hr : RdB w w.heap.size A n bs) (hx0 : -9223372036854775808 ≤ x) (hx1 : x ≤ 9223372036854775807) :
    Calls Try.prog 5 #[.slice A n cap, .int .i64 x] w fun e w' => e = .returned (.bool true) ∧ Below w.heap.size w w' := by
  have hn : n ≤ 140737488351232 := by omega
  have hl := hr.lenB
  have HL := Lib.hid hl
  clear hl
  go_enter Try.func5, Try.ntmps5
  go_wp2_with fail
  refine (L_any _ _ _ _ _ hr hn).mono ?_
  rintro e w1 ⟨g, cap1, cur, rest, rfl, hg, h1, h2, hB, hc, hb⟩
  have HC := Lib.hid hc
  clear hc
  have hlm : (bs ++ marks).length = n + 64 := by rw [List.length_append, HL.out, show marks.length = 64 from pats_length _ _]
  have hrd := rd_blk hB HC.out hlm
  have hrg := rd_blk (bs := bs) (rest := bvs marks ++ rest) hB (by rw [HC.out, bvs_append, List.append_assoc]) HL.out
  clear hlm
  have hm : cap1 ≤ 9223372036854775807 := by simp only [maxLen] at h2; omega
  go_wp2_with fail
  refine (TakeInt_any _ _ _ _ _ x _ hrg (by omega) hx0 hx1).mono ?_
  rintro _ _ ⟨⟨v, nx, er, ht, rfl⟩, rfl⟩
  have hbd := takeInt_bd bs x (by rw [HL.out]; omega)
  rw [← ht] at hbd
  have HT := Lib.hid ht
  simp only at hbd
  clear ht
  go_wp2_with fail
  refine (RTakeInt_any _ _ _ _ _ x _ (hr.below hb) (by omega) hx0 hx1).mono ?_
  rintro _ _ ⟨⟨v', nx', er', ht', rfl⟩, rfl⟩
  rw [← HT.out, Prod.mk.injEq, Prod.mk.injEq] at ht'
  obtain ⟨rfl, rfl, rfl⟩ := ht'
  go_wp2_with fail
  refine (num_any _ _ (by omega) (by omega)).mono ?_
  rintro _ _ ⟨rfl, rfl⟩
  go_wp2_with fail
  refine (Unspoilt_any _ _ _ _ _ _ _ _ _ _ _ hrd (hr.below hb) rfl (by omega)).mono ?_
  rintro _ w2 ⟨rfl, d, hd⟩
  have hb2 : Below w.heap.size w w2 := by rw [hd]; exact below_drewN hb d
  have hB2 : Blk w2 g 5 cur := by rw [hd]; exact hB.drewN d
  clear hd
  go_wp2_with fail
  rw [← HL.out]
  refine (turn_any g cap1 cur bs (bvs marks ++ rest) _ hB2 (by rw [HC.out, bvs_append, List.append_assoc]) (by rw [HL.out]; omega)).mono ?_
  rintro _ w3 ⟨vt, rfl, hown, hgr, cur', hB3, hc3⟩
  rw [HL.out] at hown ⊢
  obtain ⟨A3, cap3, rfl, hcap3, hcap3'⟩ := own_shape hown
  have HC3 := Lib.hid hc3
  clear hc3
  have hb3 : Below w.heap.size w w3 := hb2.grown hgr hb2.size (fun k hk => by simp only [Option.some.injEq] at hk; omega)
  have hLt : (turned bs).length = n := by rw [turned_length, HL.out]
  have hrd3 := rd_blk (bs := turned bs ++ marks) (n := n + 64) hB3 (by rw [HC3.out, bvs_append, List.append_assoc]) (by rw [List.length_append, hLt, show marks.length = 64 from pats_length _ _])
  have hrg3 := rd_blk hB3 HC3.out hLt
  have hv3 := Rd.of_own hown
  have HLT := Lib.hid hLt
  clear hLt
  go_wp2_with fail
  refine (TakeInt_any _ _ _ _ _ x _ hrg3 (by omega) hx0 hx1).mono ?_
  rintro _ _ ⟨⟨v2, nx2, er2, ht2, rfl⟩, rfl⟩
  have hbd2 := takeInt_bd (turned bs) x (by rw [HLT.out]; omega)
  rw [← ht2] at hbd2
  have HT2 := Lib.hid ht2
  simp only at hbd2
  clear ht2
  go_wp2_with fail
  refine (RTakeInt_any _ _ _ _ _ x _ hv3 (by omega) hx0 hx1).mono ?_
  rintro _ _ ⟨⟨v3, nx3, er3, ht3, rfl⟩, rfl⟩
  rw [← HT2.out, Prod.mk.injEq, Prod.mk.injEq] at ht3
  obtain ⟨rfl, rfl, rfl⟩ := ht3
  go_wp2_with fail
  refine (num_any _ _ (by omega) (by omega)).mono ?_
  rintro _ _ ⟨rfl, rfl⟩
  go_wp2_with fail
  refine (Unspoilt_any _ _ _ _ _ _ _ _ _ _ _ hrd3 hv3 rfl (by omega)).mono ?_
  rintro _ w4 ⟨rfl, d4, hd4⟩
  have hb4 : Below w.heap.size w w4 := by rw [hd4]; exact below_drewN hb3 d4
  clear hd4
  go_wp2
  go_ret
  exact ⟨rfl, hb4⟩
end Go.Proofs.Ytjafmcahlmopiaa
