/-
  WireItems, walked.
-/
import Derived.Test.YtffcepaegcllmaaEncItem
import Derived.Test.YtffcepaegcllmaaSettle
import Derived.Test.YtffcepaegcllmaaKeepB
import Derived.Test.YtffcepaegcllmaaWriteB
import Derived.Test.YtffcepaegcllmaaSame
import Derived.Test.YtffcepaegcllmaaTurn
import Derived.Test.YtffcepaegcllmaaFitItem
namespace Go.Proofs.Ytffcepaegcllmaa
open Go.RowKit

set_option maxRecDepth 100000 in
set_option maxHeartbeats 800000 in
theorem SameData_yes (s q t : Int) (A A' : Option Addr) (n cap n' cap' B B' : Nat) (bs : List UInt8) (w : World) (hr : RdB w B A n bs) (hr' : RdB w B' A' n' bs) (hB : B ≤ w.heap.size) (hB' : B' ≤ w.heap.size) (hn : n ≤ 9223372036854775807) :
    Calls Try.prog 27 #[.agg #[.int .i64 s, .int .i64 q, .int .i64 t, .slice A n cap], .agg #[.int .i64 s, .int .i64 q, .int .i64 t, .slice A' n' cap']] w fun e w' => e = .returned (.bool true) ∧ Below w.heap.size w w' := by
  go_enter Try.func27, Try.ntmps27
  go_wp2_with fail
  have h1 := one_box w (.cells #[.int .i64 s, .int .i64 q, .int .i64 t, .slice A n cap] 24)
  have h2 := Below.then h1 (one_box (w.alloc (.cells #[.int .i64 s, .int .i64 q, .int .i64 t, .slice A n cap] 24)) (.cells #[.int .i64 s, .int .i64 q, .int .i64 t, .slice A' n' cap'] 24))
  refine (SameBytes_b A A' n n' cap cap' B B' bs _ (hr.below (h2.mono hB)) (hr'.below (h2.mono hB')) hn).mono ?_
  rintro _ w1 ⟨rfl, hb1⟩
  go_wp2
  go_ret
  exact ⟨rfl, Below.then h2 hb1⟩
set_option maxRecDepth 100000 in
set_option maxHeartbeats 800000 in
theorem SameItem_yes (k s q t : Int) (A A' : Option Addr) (n cap n' cap' B B' : Nat) (bs : List UInt8) (p st a c : Int) (w : World) (hr : RdB w B A n bs) (hr' : RdB w B' A' n' bs) (hB : B ≤ w.heap.size) (hB' : B' ≤ w.heap.size) (hn : n ≤ 9223372036854775807) :
    Calls Try.prog 10 #[.agg #[.int .i64 k, .int .i64 s, .int .i64 q, .int .i64 t, .slice A n cap, .int .i64 p, .int .i64 st, .int .i64 a, .int .i64 c], .agg #[.int .i64 k, .int .i64 s, .int .i64 q, .int .i64 t, .slice A' n' cap', .int .i64 p, .int .i64 st, .int .i64 a, .int .i64 c]] w fun e w' => e = .returned (.bool true) ∧ Below w.heap.size w w' := by
  go_enter Try.func10, Try.ntmps10
  go_wp2_with fail
  have h1 := one_box w (.cells #[.int .i64 k, .int .i64 s, .int .i64 q, .int .i64 t, .slice A n cap, .int .i64 p, .int .i64 st, .int .i64 a, .int .i64 c] 28)
  have h2 := Below.then h1 (one_box (w.alloc (.cells #[.int .i64 k, .int .i64 s, .int .i64 q, .int .i64 t, .slice A n cap, .int .i64 p, .int .i64 st, .int .i64 a, .int .i64 c] 28)) (.cells #[.int .i64 k, .int .i64 s, .int .i64 q, .int .i64 t, .slice A' n' cap', .int .i64 p, .int .i64 st, .int .i64 a, .int .i64 c] 28))
  refine (SameData_yes s q t A A' n cap n' cap' B B' bs _ (hr.below (h2.mono hB)) (hr'.below (h2.mono hB')) (Nat.le_trans hB h2.size) (Nat.le_trans hB' h2.size) hn).mono ?_
  rintro _ w1 ⟨rfl, hb1⟩
  obtain ⟨hc1, hf1⟩ := bcell hb1
  go_wp2
  go_ret
  exact ⟨rfl, Below.then h2 hb1⟩

set_option maxRecDepth 100000 in
set_option maxHeartbeats 6400000 in
theorem WireItems_walk (k s q t : Int) (A : Option Addr) (n cap : Nat) (bs : List UInt8) (p st a c : Int) (w : World) (_ : -9223372036854775808 ≤ k) (_ : k ≤ 9223372036854775807) (_ : -9223372036854775808 ≤ s) (_ : s ≤ 9223372036854775807) (_ : -9223372036854775808 ≤ q) (_ : q ≤ 9223372036854775807)
    (_ : -9223372036854775808 ≤ t) (_ : t ≤ 9223372036854775807) (hcap : n ≤ cap) (hn0 : cap ≤ 140737488351232) (hr : RdB w w.heap.size A n bs) (hp0 : -9223372036854775808 ≤ p) (hp1 : p ≤ 9223372036854775807) (_ : -9223372036854775808 ≤ st) (_ : st ≤ 9223372036854775807)
    (_ : -9223372036854775808 ≤ a) (_ : a ≤ 9223372036854775807) (_ : -9223372036854775808 ≤ c) (_ : c ≤ 9223372036854775807) :
    Calls Try.prog 3 #[.agg #[.int .i64 k, .int .i64 s, .int .i64 q, .int .i64 t, .slice A n cap, .int .i64 p, .int .i64 st, .int .i64 a, .int .i64 c]] w fun e w' => e = .returned (.bool true) ∧ Below w.heap.size w w' := by
  have hn : n ≤ 140737488351232 := by omega
  obtain ⟨ps, er, hE⟩ : ∃ ps er, encItem k s q t bs p st a c = (ps, er) := ⟨_, _, rfl⟩
  have hle := encItem_le k s q t bs p st a c
  rw [hE, hr.lenB] at hle
  simp only at hle
  obtain ⟨hl1, hl2, hl3⟩ := hle
  have HE := Lib.hid hE
  clear hE
  go_enter Try.func3, Try.ntmps3
  go_wp2_with fail
  have hbx := one_box w (.cells #[.int .i64 k, .int .i64 s, .int .i64 q, .int .i64 t, .slice A n cap, .int .i64 p, .int .i64 st, .int .i64 a, .int .i64 c] 28)
  have hX := Blk.new w 28 #[.int .i64 k, .int .i64 s, .int .i64 q, .int .i64 t, .slice A n cap, .int .i64 p, .int .i64 st, .int .i64 a, .int .i64 c]
  refine (REncodeItem_r k s q t A n cap bs p st a c _ (hr.over hbx) hp0 hp1 ps er HE.out).mono ?_
  rintro _ w1 ⟨want, rfl, how, hb1⟩
  obtain ⟨Aw, capw, rfl, hcw, _⟩ := own_shape how
  replace hX := hX.over hb1
  replace hbx := Below.then hbx hb1
  have x0 : w1.cell? ⟨w.heap.size, 0, none⟩ = some (.int .i64 k) := by rw [hX.cell]; rfl
  have x1 : w1.cell? ⟨w.heap.size, 1, none⟩ = some (.int .i64 s) := by rw [hX.cell]; rfl
  have x2 : w1.cell? ⟨w.heap.size, 2, none⟩ = some (.int .i64 q) := by rw [hX.cell]; rfl
  have x3 : w1.cell? ⟨w.heap.size, 3, none⟩ = some (.int .i64 t) := by rw [hX.cell]; rfl
  have x4 : w1.cell? ⟨w.heap.size, 4, none⟩ = some (.slice A n cap) := by rw [hX.cell]; rfl
  have x5 : w1.cell? ⟨w.heap.size, 5, none⟩ = some (.int .i64 p) := by rw [hX.cell]; rfl
  have x6 : w1.cell? ⟨w.heap.size, 6, none⟩ = some (.int .i64 st) := by rw [hX.cell]; rfl
  have x7 : w1.cell? ⟨w.heap.size, 7, none⟩ = some (.int .i64 a) := by rw [hX.cell]; rfl
  have x8 : w1.cell? ⟨w.heap.size, 8, none⟩ = some (.int .i64 c) := by rw [hX.cell]; rfl
  have hs0 : w.heap.size < w1.heap.size := hX.lt
  go_wp2_with fail
  clear x0 x1 x2 x3 x4 x5 x6 x7 x8
  have hbx1 := one_box w1 (.cells #[.int .i64 k, .int .i64 s, .int .i64 q, .int .i64 t, .slice A n cap, .int .i64 p, .int .i64 st, .int .i64 a, .int .i64 c] 28)
  have hY := Blk.new w1 28 #[.int .i64 k, .int .i64 s, .int .i64 q, .int .i64 t, .slice A n cap, .int .i64 p, .int .i64 st, .int .i64 a, .int .i64 c]
  replace hX := hX.over hbx1
  replace hbx := Below.then hbx hbx1
  replace how := own_over how hbx1
  refine (L_any _ _ _ _ _ ((hr.below hbx).more hbx.size) hn).mono ?_
  rintro _ w2 ⟨g, cap1, cur, rest, rfl, hg, h1, h2, hB, hc, hb2⟩
  have HC := Lib.hid hc
  clear hc
  have hg' : w1.heap.size < g := by simp at hg; omega
  replace hX := hX.over hb2
  replace hY := hY.over hb2
  replace hbx := Below.then hbx hb2
  replace how := own_over how hb2
  have hs2 : w1.heap.size < w2.heap.size := hY.lt
  have HNW : Hid (∀ x, (Value.slice Aw ps.length capw).ownBlock = some x → x < w2.heap.size) := fun x hx => (own_block_lt how hx).1
  have hg2 : g < w2.heap.size := hB.lt
  have y0 : w2.cell? ⟨w1.heap.size, 0, none⟩ = some (.int .i64 k) := by rw [hY.cell]; rfl
  have y1 : w2.cell? ⟨w1.heap.size, 1, none⟩ = some (.int .i64 s) := by rw [hY.cell]; rfl
  have y2 : w2.cell? ⟨w1.heap.size, 2, none⟩ = some (.int .i64 q) := by rw [hY.cell]; rfl
  have y3 : w2.cell? ⟨w1.heap.size, 3, none⟩ = some (.int .i64 t) := by rw [hY.cell]; rfl
  have y4 : w2.cell? ⟨w1.heap.size, 4, none⟩ = some (.slice A n cap) := by rw [hY.cell]; rfl
  have y5 : w2.cell? ⟨w1.heap.size, 5, none⟩ = some (.int .i64 p) := by rw [hY.cell]; rfl
  have y6 : w2.cell? ⟨w1.heap.size, 6, none⟩ = some (.int .i64 st) := by rw [hY.cell]; rfl
  have y7 : w2.cell? ⟨w1.heap.size, 7, none⟩ = some (.int .i64 a) := by rw [hY.cell]; rfl
  have y8 : w2.cell? ⟨w1.heap.size, 8, none⟩ = some (.int .i64 c) := by rw [hY.cell]; rfl
  have f4 := hY.frozen 4
  have x4 : w2.cell? ⟨w.heap.size, 4, none⟩ = some (.slice A n cap) := by rw [hX.cell]; rfl
  have hm : cap1 ≤ 9223372036854775807 := by simp only [maxLen] at h2; omega
  go_wp2_with fail
  clear y0 y1 y2 y3 y4 y5 y6 y7 y8
  clear x4
  obtain ⟨w3, hw3⟩ : ∃ w3, w3 = w2.setCell ⟨w1.heap.size, 4, none⟩ (.slice (some ⟨g, 0, none⟩) n cap1) := ⟨_, rfl⟩
  rw [← hw3]
  have hz3 : w3.heap.size = w2.heap.size := by rw [hw3]; simp [World.setCell]
  have hch : Chg (fun x => x = w1.heap.size) w2 w3 := by rw [hw3]; exact (Chg.refl (fun x => x = w1.heap.size) w2).setCell (p := ⟨w1.heap.size, 4, none⟩) (.inl rfl) _
  have hYold := hY
  have hY : Blk w3 w1.heap.size 28 #[.int .i64 k, .int .i64 s, .int .i64 q, .int .i64 t, .slice (some ⟨g, 0, none⟩) n cap1, .int .i64 p, .int .i64 st, .int .i64 a, .int .i64 c] := by rw [hw3]; exact hY.set_ 4 _
  have hX := hX.chg hch (by omega)
  have hB := hB.chg hch (by omega)
  have how := own_chg how hch (fun x hx => by
    have ht := own_isT how hx
    rintro rfl
    exact absurd (ht.eq_ hYold.isT) (by decide))
  have hl := hr.lenB
  have HL := Lib.hid hl
  clear hl hYold
  have hlm : (bs ++ marks).length = n + 64 := by rw [List.length_append, HL.out, show marks.length = 64 from pats_length _ _]
  have hrd := rd_blk hB HC.out hlm
  have hrg := rd_blk (bs := bs) (rest := bvs marks ++ rest) hB (by rw [HC.out, bvs_append, List.append_assoc]) HL.out
  clear hlm
  have hb3 : Below w.heap.size w w3 := hbx.trans (hch.to_below hbx.size (fun x hx => by omega))
  have hr3 := (hr.below hb3).more hb3.size
  have HW3 := Lib.hid hw3
  have HZ3 := Lib.hid hz3
  have hs3 : w2.heap.size ≤ w3.heap.size := by omega
  clear hw3 hch hbx hbx1 hb1 hb2 hz3
  -- b
  refine (EncodeItem_r k s q t (some ⟨g, 0, none⟩) n cap1 bs p st a c w3 hrg ps er HE.out).mono ?_
  rintro _ w4 ⟨b, rfl, hob, hb4⟩
  obtain ⟨Ab, capb, rfl, hcb, _⟩ := own_shape hob
  have HBB : Hid (∀ x, (Value.slice Ab ps.length capb).ownBlock = some x → w3.heap.size ≤ x ∧ x < w4.heap.size) := fun x hx => ⟨(own_block_lt hob hx).2.1, (own_block_lt hob hx).1⟩
  have hs4 := hb4.size
  replace hX := hX.over hb4
  replace hY := hY.over hb4
  replace hB := hB.over hb4
  replace hrd := hrd.over hb4
  replace hrg := hrg.over hb4
  replace hr3 := hr3.over hb4
  replace hb3 := Below.then hb3 hb4
  replace how := own_over how hb4
  go_wp2_with fail
  -- o
  refine (EncodeItem_r 2 0 0 0 none 0 0 [] 9 1 3 4 w4 (Rd.nil_ _) (UInt8.ofNat 2 :: pack [9, 1, 3, 4]) 0 (by decide)).mono ?_
  rintro _ w5 ⟨o, rfl, hoo, hb5⟩
  generalize hO : (UInt8.ofNat 2 :: pack [9, 1, 3, 4]) = os at hoo
  have hol : os.length ≤ 37 := by rw [← hO]; have := pack_le [9, 1, 3, 4]; simp only [List.length_cons, List.length_nil] at *; omega
  clear hO
  obtain ⟨Ao, capo, rfl, hco, _⟩ := own_shape hoo
  have HBO : Hid (∀ x, (Value.slice Ao os.length capo).ownBlock = some x → w4.heap.size ≤ x ∧ x < w5.heap.size) := fun x hx => ⟨(own_block_lt hoo hx).2.1, (own_block_lt hoo hx).1⟩
  have hs5 := hb5.size
  replace hX := hX.over hb5
  replace hY := hY.over hb5
  replace hB := hB.over hb5
  replace hrd := hrd.over hb5
  replace hrg := hrg.over hb5
  replace hr3 := hr3.over hb5
  replace hb3 := Below.then hb3 hb5
  replace how := own_over how hb5
  replace hob := own_over hob hb5
  have y0 : w5.cell? ⟨w1.heap.size, 0, none⟩ = some (.int .i64 k) := by rw [hY.cell]; rfl
  have y1 : w5.cell? ⟨w1.heap.size, 1, none⟩ = some (.int .i64 s) := by rw [hY.cell]; rfl
  have y2 : w5.cell? ⟨w1.heap.size, 2, none⟩ = some (.int .i64 q) := by rw [hY.cell]; rfl
  have y3 : w5.cell? ⟨w1.heap.size, 3, none⟩ = some (.int .i64 t) := by rw [hY.cell]; rfl
  have y4 : w5.cell? ⟨w1.heap.size, 4, none⟩ = some (.slice (some ⟨g, 0, none⟩) n cap1) := by rw [hY.cell]; rfl
  have y5 : w5.cell? ⟨w1.heap.size, 5, none⟩ = some (.int .i64 p) := by rw [hY.cell]; rfl
  have y6 : w5.cell? ⟨w1.heap.size, 6, none⟩ = some (.int .i64 st) := by rw [hY.cell]; rfl
  have y7 : w5.cell? ⟨w1.heap.size, 7, none⟩ = some (.int .i64 a) := by rw [hY.cell]; rfl
  have y8 : w5.cell? ⟨w1.heap.size, 8, none⟩ = some (.int .i64 c) := by rw [hY.cell]; rfl
  go_wp2_with fail
  clear y0 y1 y2 y3 y4 y5 y6 y7 y8
  -- c
  refine (EncodeItem_r k s q t (some ⟨g, 0, none⟩) n cap1 bs p st a c w5 hrg ps er HE.out).mono ?_
  rintro _ w6 ⟨cc, rfl, hocc, hb6⟩
  obtain ⟨Ac, capc, rfl, hcc, _⟩ := own_shape hocc
  have HBC : Hid (∀ x, (Value.slice Ac ps.length capc).ownBlock = some x → w5.heap.size ≤ x ∧ x < w6.heap.size) := fun x hx => ⟨(own_block_lt hocc hx).2.1, (own_block_lt hocc hx).1⟩
  have hs6 := hb6.size
  replace hX := hX.over hb6
  replace hY := hY.over hb6
  replace hB := hB.over hb6
  replace hrd := hrd.over hb6
  replace hrg := hrg.over hb6
  replace hr3 := hr3.over hb6
  replace hb3 := Below.then hb3 hb6
  replace how := own_over how hb6
  replace hob := own_over hob hb6
  replace hoo := own_over hoo hb6
  go_wp2_with fail
  refine (num_any _ _ (by omega) (by omega)).mono ?_
  rintro _ _ ⟨rfl, rfl⟩
  go_wp2_with fail
  refine (num_any _ _ (by omega) (by omega)).mono ?_
  rintro _ _ ⟨rfl, rfl⟩
  go_wp2_with fail
  refine (num_any _ _ (by omega) (by omega)).mono ?_
  rintro _ _ ⟨rfl, rfl⟩
  go_wp2_with fail
  refine (SameBytes_b _ _ _ _ _ _ _ _ _ _ (Rd.of_own hob) (Rd.of_own how) (by omega)).mono ?_
  rintro _ w7 ⟨rfl, hb7⟩
  have hs7 := hb7.size
  replace hX := hX.over hb7
  replace hY := hY.over hb7
  replace hB := hB.over hb7
  replace hrd := hrd.over hb7
  replace hrg := hrg.over hb7
  replace hr3 := hr3.over hb7
  replace hb3 := Below.then hb3 hb7
  replace how := own_over how hb7
  replace hob := own_over hob hb7
  replace hoo := own_over hoo hb7
  replace hocc := own_over hocc hb7
  go_wp2_with fail
  refine (SameBytes_b _ _ _ _ _ _ _ _ _ _ (Rd.of_own hocc) (Rd.of_own how) (by omega)).mono ?_
  rintro _ w8 ⟨rfl, hb8⟩
  have hs8 := hb8.size
  replace hX := hX.over hb8
  replace hY := hY.over hb8
  replace hB := hB.over hb8
  replace hrd := hrd.over hb8
  replace hrg := hrg.over hb8
  replace hr3 := hr3.over hb8
  replace hb3 := Below.then hb3 hb8
  replace how := own_over how hb8
  replace hob := own_over hob hb8
  replace hoo := own_over hoo hb8
  replace hocc := own_over hocc hb8
  have y0 : w8.cell? ⟨w1.heap.size, 0, none⟩ = some (.int .i64 k) := by rw [hY.cell]; rfl
  have y1 : w8.cell? ⟨w1.heap.size, 1, none⟩ = some (.int .i64 s) := by rw [hY.cell]; rfl
  have y2 : w8.cell? ⟨w1.heap.size, 2, none⟩ = some (.int .i64 q) := by rw [hY.cell]; rfl
  have y3 : w8.cell? ⟨w1.heap.size, 3, none⟩ = some (.int .i64 t) := by rw [hY.cell]; rfl
  have y4 : w8.cell? ⟨w1.heap.size, 4, none⟩ = some (.slice (some ⟨g, 0, none⟩) n cap1) := by rw [hY.cell]; rfl
  have y5 : w8.cell? ⟨w1.heap.size, 5, none⟩ = some (.int .i64 p) := by rw [hY.cell]; rfl
  have y6 : w8.cell? ⟨w1.heap.size, 6, none⟩ = some (.int .i64 st) := by rw [hY.cell]; rfl
  have y7 : w8.cell? ⟨w1.heap.size, 7, none⟩ = some (.int .i64 a) := by rw [hY.cell]; rfl
  have y8 : w8.cell? ⟨w1.heap.size, 8, none⟩ = some (.int .i64 c) := by rw [hY.cell]; rfl
  have x0 : w8.cell? ⟨w.heap.size, 0, none⟩ = some (.int .i64 k) := by rw [hX.cell]; rfl
  have x1 : w8.cell? ⟨w.heap.size, 1, none⟩ = some (.int .i64 s) := by rw [hX.cell]; rfl
  have x2 : w8.cell? ⟨w.heap.size, 2, none⟩ = some (.int .i64 q) := by rw [hX.cell]; rfl
  have x3 : w8.cell? ⟨w.heap.size, 3, none⟩ = some (.int .i64 t) := by rw [hX.cell]; rfl
  have x4 : w8.cell? ⟨w.heap.size, 4, none⟩ = some (.slice A n cap) := by rw [hX.cell]; rfl
  have x5 : w8.cell? ⟨w.heap.size, 5, none⟩ = some (.int .i64 p) := by rw [hX.cell]; rfl
  have x6 : w8.cell? ⟨w.heap.size, 6, none⟩ = some (.int .i64 st) := by rw [hX.cell]; rfl
  have x7 : w8.cell? ⟨w.heap.size, 7, none⟩ = some (.int .i64 a) := by rw [hX.cell]; rfl
  have x8 : w8.cell? ⟨w.heap.size, 8, none⟩ = some (.int .i64 c) := by rw [hX.cell]; rfl
  go_wp2_with fail
  clear y0 y1 y2 y3 y4 y5 y6 y7 y8
  clear x0 x1 x2 x3 x4 x5 x6 x7 x8
  refine (SameItem_yes k s q t (some ⟨g, 0, none⟩) A n cap1 n cap w8.heap.size w8.heap.size bs p st a c w8 hrg hr3 (Nat.le_refl _) (Nat.le_refl _) (by omega)).mono ?_
  rintro _ w9 ⟨rfl, hb9⟩
  have hs9 := hb9.size
  replace hX := hX.over hb9
  replace hY := hY.over hb9
  replace hB := hB.over hb9
  replace hrd := hrd.over hb9
  replace hrg := hrg.over hb9
  replace hr3 := hr3.over hb9
  replace hb3 := Below.then hb3 hb9
  replace how := own_over how hb9
  replace hob := own_over hob hb9
  replace hoo := own_over hoo hb9
  replace hocc := own_over hocc hb9
  have x4 : w9.cell? ⟨w.heap.size, 4, none⟩ = some (.slice A n cap) := by rw [hX.cell]; rfl
  go_wp2_with fail
  clear x4
  refine (Unspoilt_b _ _ _ _ _ _ _ _ _ _ hrd hr3 (by omega)).mono ?_
  rintro _ wA ⟨rfl, hbA⟩
  have hsA := hbA.size
  replace hX := hX.over hbA
  replace hY := hY.over hbA
  replace hB := hB.over hbA
  replace hrd := hrd.over hbA
  replace hrg := hrg.over hbA
  replace hr3 := hr3.over hbA
  replace hb3 := Below.then hb3 hbA
  replace how := own_over how hbA
  replace hob := own_over hob hbA
  replace hoo := own_over hoo hbA
  replace hocc := own_over hocc hbA
  -- the book
  obtain ⟨FP, hFP⟩ : ∃ FP : Nat → Prop, FP = fun k => wA.heap.size ≤ k ∨ (Value.slice Ab ps.length capb).ownBlock = some k ∨ (Value.slice Ac ps.length capc).ownBlock = some k ∨ (Value.slice Ao os.length capo).ownBlock = some k := ⟨_, rfl⟩
  have hF1 : ∀ k, FP k → w2.heap.size ≤ k := by
    rw [hFP]
    rintro k (h | h | h | h)
    · omega
    · have := (HBB.out k h).1; omega
    · have := (HBC.out k h).1; omega
    · have := (HBO.out k h).1; omega
  have hFb : ∀ k, (Value.slice Ab ps.length capb).ownBlock = some k → FP k := by rw [hFP]; exact fun k h => .inr (.inl h)
  have hFc : ∀ k, (Value.slice Ac ps.length capc).ownBlock = some k → FP k := by rw [hFP]; exact fun k h => .inr (.inr (.inl h))
  have hFo : ∀ k, (Value.slice Ao os.length capo).ownBlock = some k → FP k := by rw [hFP]; exact fun k h => .inr (.inr (.inr h))
  have hnew : ∀ k, wA.heap.size ≤ k → FP k := by rw [hFP]; exact fun k h => .inl h
  clear hFP
  obtain ⟨wB, hwB⟩ : ∃ wB, wB = wA.alloc (.cells #[.slice none 0 0, .slice none 0 0, .int .i64 0] 42) := ⟨_, rfl⟩
  have hk0 : BookIs wB FP wA.heap.size [] [] 0 (.slice none 0 0) (.slice none 0 0) := by rw [hwB]; exact BookIs.empty wA FP hnew
  have hbB : Below wA.heap.size wA wB := by rw [hwB]; exact one_box _ _
  have hsB : wA.heap.size < wB.heap.size := hk0.blk.lt
  have HWB := Lib.hid hwB
  clear hwB
  replace hX := hX.over hbB
  replace hY := hY.over hbB
  replace hB := hB.over hbB
  replace hrd := hrd.over hbB
  replace hrg := hrg.over hbB
  replace hr3 := hr3.over hbB
  replace hb3 := Below.then hb3 hbB
  replace how := own_over how hbB
  replace hob := own_over hob hbB
  replace hoo := own_over hoo hbB
  replace hocc := own_over hocc hbB
  have hob := own_base hob (Nat.zero_le _)
  have hoo := own_base hoo (Nat.zero_le _)
  have hocc := own_base hocc (Nat.zero_le _)
  clear hrd hrg hr3 hbB
  go_wp2_with fail
  rw [← HWB.out]
  -- Keep(b)
  refine (Keep_any FP wA.heap.size [] [] 0 _ _ _ ps.length _ _ hk0 (by simp) hob hFb (by omega) (by omega) (by omega) (fun _ _ p hp => by simp at hp)).mono ?_
  rintro _ wC ⟨rfl, pv1, q1, hk1, hq1, hqb1, hc1⟩
  rw [List.nil_append] at hk1
  have hocc := hk0.ownK hc1 hocc
  have hoo := hk0.ownK hc1 hoo
  have hcF := hk0.toFP hc1
  have hsC := hc1.size
  clear hc1 hk0
  -- Write(c)
  go_wp2_with fail
  refine (Write_any FP wA.heap.size [q1] [] _ _ _ _ ps.length _ _ hk1 (by simp) hocc hFc (by omega) (by omega) (by omega) (fun x hx p hp hpg => ?_)).mono ?_
  · simp only [List.mem_singleton] at hp
    subst hp
    have h1 := HBC.out x hx
    rcases hqb1 x hpg with h | h
    · have := HBB.out x h; omega
    · omega
  rintro _ wD ⟨rfl, pv2, q2, hk2, hq2, hqb2, hc2⟩
  have hoo := hk1.ownW hc2 hoo (fun x hx h => by have h1 := HBO.out x hx; have h2 := HBC.out x h; omega)
  have hcF2 := hk1.toFPW hFc hc2
  have hcF := hcF.trans hcF2
  have hsD := hc2.size
  clear hc2 hk1 hcF2
  -- Keep(o)
  go_wp2_with fail
  refine (Keep_any FP wA.heap.size ([q1] ++ [q2]) [] _ _ _ _ os.length _ _ hk2 (by simp) hoo hFo (by omega) (by omega) (by omega) (fun x hx p hp hpg => ?_)).mono ?_
  · have h1 := HBO.out x hx
    simp only [List.cons_append, List.nil_append, List.mem_cons, List.not_mem_nil, or_false] at hp
    rcases hp with rfl | rfl
    · rcases hqb1 x hpg with h | h
      · have := HBB.out x h; omega
      · omega
    · rcases hqb2 x hpg with h | h
      · have := HBC.out x h; omega
      · omega
  rintro _ wE ⟨rfl, pv3, q3, hk3, hq3, hqb3, hc3⟩
  have hcF3 := hk2.toFP hc3
  have hcF := hcF.trans hcF3
  clear hc3 hk2 hcF3
  -- Settle
  go_wp2_with fail
  refine (Settle_any FP wA.heap.size ([q1] ++ [q2] ++ [q3]) [] _ _ _ _ hk3 (fun p hp => ?_) (by simp) (by simp) (by simp)).mono ?_
  · simp only [List.cons_append, List.nil_append, List.mem_cons, List.not_mem_nil, or_false] at hp
    rcases hp with rfl | rfl | rfl <;> assumption
  rintro _ wF ⟨rfl, hcS, ps', qs', hl', hlq', hst', _, hkS⟩
  obtain rfl : qs' = [] := List.eq_nil_of_length_eq_zero (by simpa using hlq')
  have hcF := hcF.trans hcS
  have hbF : Below w2.heap.size wB wF := hcF.belowF hF1 (by omega)
  have hsF := hcF.size
  have hX := hX.below hbF (by omega)
  have hY := hY.below hbF (by omega)
  have hB := hB.below hbF (by omega)
  have how : wF.ownsRow 0 5 1 (.slice Aw ps.length capw) ps.length (bvs ps) := own_base (own_chg (S := fun x => w2.heap.size ≤ x) how (hcF.mono fun x _ hx => hF1 x hx) (fun x hx => by have := HNW.out x hx; omega)) (Nat.zero_le _)
  have hb3 := hb3.trans (hbF.mono (by omega))
  have HL' : Hid (ps'.length = 3) := by simpa [Hid] using hl'
  clear hcS hcF hk3 hl' hlq' hbF hob hoo hocc
  have hr3 := (hr.below hb3).more hb3.size
  have hlm : (bs ++ marks).length = n + 64 := by rw [List.length_append, HL.out, show marks.length = 64 from pats_length _ _]
  have hrd := rd_blk hB HC.out hlm
  have hrg := rd_blk (bs := bs) (rest := bvs marks ++ rest) hB (by rw [HC.out, bvs_append, List.append_assoc]) HL.out
  clear hlm
  have x4 : wF.cell? ⟨w.heap.size, 4, none⟩ = some (.slice A n cap) := by rw [hX.cell]; rfl
  go_wp2_with fail
  clear x4
  refine (Unspoilt_b _ _ _ _ _ _ _ _ _ _ hrd hr3 (by omega)).mono ?_
  rintro _ wG ⟨rfl, hbG⟩
  have hsG := hbG.size
  have hkG := hkS.below hbG
  replace hY := hY.over hbG
  replace hrg := hrg.over hbG
  replace hb3 := Below.then hb3 hbG
  replace how := own_over how hbG
  have y0 : wG.cell? ⟨w1.heap.size, 0, none⟩ = some (.int .i64 k) := by rw [hY.cell]; rfl
  have y1 : wG.cell? ⟨w1.heap.size, 1, none⟩ = some (.int .i64 s) := by rw [hY.cell]; rfl
  have y2 : wG.cell? ⟨w1.heap.size, 2, none⟩ = some (.int .i64 q) := by rw [hY.cell]; rfl
  have y3 : wG.cell? ⟨w1.heap.size, 3, none⟩ = some (.int .i64 t) := by rw [hY.cell]; rfl
  have y4 : wG.cell? ⟨w1.heap.size, 4, none⟩ = some (.slice (some ⟨g, 0, none⟩) n cap1) := by rw [hY.cell]; rfl
  have y5 : wG.cell? ⟨w1.heap.size, 5, none⟩ = some (.int .i64 p) := by rw [hY.cell]; rfl
  have y6 : wG.cell? ⟨w1.heap.size, 6, none⟩ = some (.int .i64 st) := by rw [hY.cell]; rfl
  have y7 : wG.cell? ⟨w1.heap.size, 7, none⟩ = some (.int .i64 a) := by rw [hY.cell]; rfl
  have y8 : wG.cell? ⟨w1.heap.size, 8, none⟩ = some (.int .i64 c) := by rw [hY.cell]; rfl
  go_wp2_with fail
  clear y0 y1 y2 y3 y4 y5 y6 y7 y8
  refine (EncodeItem_r k s q t (some ⟨g, 0, none⟩) n cap1 bs p st a c wG hrg ps er HE.out).mono ?_
  rintro _ wH ⟨la, rfl, hol, hbH⟩
  obtain ⟨Al, capl, rfl, hcl, _⟩ := own_shape hol
  have hsH := hbH.size
  have hkH := hkG.below hbH
  replace hb3 := Below.then hb3 hbH
  replace how := own_over how hbH
  go_wp2_with fail
  refine (num_any _ _ (by omega) (by omega)).mono ?_
  rintro _ _ ⟨rfl, rfl⟩
  go_wp2_with fail
  refine (SameBytes_b _ _ _ _ _ _ _ _ _ _ (Rd.of_own hol) (Rd.of_own how) (by omega)).mono ?_
  rintro _ wI ⟨rfl, hbI⟩
  have hkI := hkH.below hbI
  replace hb3 := Below.then hb3 hbI
  go_wp2_with fail
  refine (Intact_any FP wA.heap.size ps' [] _ _ _ _ hkI (fun p hp h => by rw [hst' p hp] at h; omega) (by simp) (by rw [HL'.out]; omega) (by simp)).mono ?_
  rintro _ wJ ⟨rfl, hbJ⟩
  go_wp2
  go_ret
  exact ⟨rfl, Below.then hb3 hbJ⟩
end Go.Proofs.Ytffcepaegcllmaa
