/-
  WireItemBack, walked.
-/
import Derived.Test.YtjafmcahlmopiaaMendItem2
import Derived.Test.YtjafmcahlmopiaaItemTexts
namespace Go.Proofs.Ytjafmcahlmopiaa
open Go.RowKit

theorem MendItem_any (k s q t : Int) (A : Option Addr) (n cap : Nat) (bs : List UInt8) (p st a c : Int) (w : World) (hr : RdB w w.heap.size A n bs) (hn : n ≤ cap) (hc : n ≤ 140737488351232) :
    Calls Try.prog 35 #[.agg #[.int .i64 k, .int .i64 s, .int .i64 q, .int .i64 t, .slice A n cap, .int .i64 p, .int .i64 st, .int .i64 a, .int .i64 c]] w (MendPost w) := by
  by_cases hk : k = 2
  · subst hk; exact MendItem_slot s q t A n cap p st a c w
  · exact MendItem_data k s q t A n cap bs p st a c w hk hr hn hc
set_option maxRecDepth 100000 in
set_option maxHeartbeats 6400000 in
theorem WireItemBack_walk (k s q t : Int) (A : Option Addr) (n cap : Nat) (bs : List UInt8) (p st a c : Int) (B : Option Addr) (m capb : Nat) (cs : List UInt8) (w : World) (_ : -9223372036854775808 ≤ k) (_ : k ≤ 9223372036854775807) (_ : -9223372036854775808 ≤ s) (_ : s ≤ 9223372036854775807) (_ : -9223372036854775808 ≤ q) (_ : q ≤ 9223372036854775807)
    (_ : -9223372036854775808 ≤ t) (_ : t ≤ 9223372036854775807) (hcap : n ≤ cap) (hn0 : cap ≤ 140737488351232) (hr : RdB w w.heap.size A n bs) (hp0 : -9223372036854775808 ≤ p) (hp1 : p ≤ 9223372036854775807) (_ : -9223372036854775808 ≤ st) (_ : st ≤ 9223372036854775807)
    (_ : -9223372036854775808 ≤ a) (_ : a ≤ 9223372036854775807) (_ : -9223372036854775808 ≤ c) (_ : c ≤ 9223372036854775807) (hcapb : m ≤ capb) (hm0 : capb ≤ 140737488351232) (hrb : RdB w w.heap.size B m cs) :
    Calls Try.prog 10 #[.agg #[.int .i64 k, .int .i64 s, .int .i64 q, .int .i64 t, .slice A n cap, .int .i64 p, .int .i64 st, .int .i64 a, .int .i64 c], .slice B m capb] w fun e w' => e = .returned (.bool true) ∧ Below w.heap.size w w' := by
  obtain ⟨⟨k2, s2, q2, t2, l2, p2, st2, a2, c2⟩, er, hE2⟩ : ∃ d er, decItem cs = (d, er) := ⟨_, _, rfl⟩
  have hbd := decItem_bd cs
  have hrev := decItem_rev cs
  rw [hE2] at hbd hrev
  simp only at hbd hrev
  obtain ⟨hd1, hd2, hd3⟩ := hbd
  have HE2 := Lib.hid hE2
  have HRV := Lib.hid hrev
  clear hE2 hrev
  go_enter Try.func10, Try.ntmps10
  go_wp2_with fail
  have hbx := one_box w (.cells #[.int .i64 k, .int .i64 s, .int .i64 q, .int .i64 t, .slice A n cap, .int .i64 p, .int .i64 st, .int .i64 a, .int .i64 c] 52)
  refine (MendItem_any k s q t A n cap bs p st a c _ ((hr.below hbx).more hbx.size) hcap (by omega)).mono ?_
  rintro _ w1 ⟨k', s', q', t', ls', p', st', a', c', AT, capT, hv, rfl, hoq, hb1⟩
  have hb3 := Below.then hbx hb1
  clear hbx hb1
  obtain ⟨ps, hE, hD, hl1, hl2⟩ := decItem_fwd hv
  have HE := Lib.hid hE
  have HD := Lib.hid hD
  clear hE hD hv
  go_wp2_with fail
  obtain ⟨w2, hw2⟩ : ∃ w2, w2 = w1.alloc (.cells #[.int .i64 k', .int .i64 s', .int .i64 q', .int .i64 t', .slice AT ls'.length capT, .int .i64 p', .int .i64 st', .int .i64 a', .int .i64 c'] 52) := ⟨_, rfl⟩
  rw [← hw2]
  have hU : Blk w2 w1.heap.size 52 #[.int .i64 k', .int .i64 s', .int .i64 q', .int .i64 t', .slice AT ls'.length capT, .int .i64 p', .int .i64 st', .int .i64 a', .int .i64 c'] := by rw [hw2]; exact Blk.new _ _ _
  have hbq : Below w1.heap.size w1 w2 := by rw [hw2]; exact one_box _ _
  have hsw2 : w1.heap.size < w2.heap.size := hU.lt
  clear hw2
  replace hb3 := Below.then hb3 hbq
  replace hoq := own_over hoq hbq
  clear hbq
  refine (EncodeItem_r k' s' q' t' AT ls'.length capT ls' p' st' a' c' w2 (Rd.of_own hoq) ps 0 HE.out).mono ?_
  rintro _ w3 ⟨vc, rfl, hoc, hb⟩
  obtain ⟨AC, capC, rfl, hcC, _⟩ := own_shape hoc
  replace hU := hU.over hb
  replace hb3 := Below.then hb3 hb
  replace hoq := own_over hoq hb
  clear hb
  have i5 : (5 : Int) ≤ (ps.length : Int) := by omega
  have i300 : (ps.length : Int) ≤ 300 := by omega
  go_wp2_with fail
  refine (num_any _ _ (by omega) (by omega)).mono ?_
  rintro _ _ ⟨rfl, rfl⟩
  go_wp2_with fail
  refine (DecodeItem_r AC ps.length capC ps w3 (Rd.of_own hoc) hcC (by omega) _ _ HD.out).mono ?_
  rintro _ w4 ⟨AV, capV, rfl, hov, hb⟩
  simp only at hov
  replace hU := hU.over hb
  replace hb3 := Below.then hb3 hb
  replace hoq := own_over hoq hb
  clear hb hoc
  go_wp2_with fail
  obtain ⟨w5, hw5⟩ : ∃ w5, w5 = w4.alloc (.cells #[.int .i64 k', .int .i64 s', .int .i64 q', .int .i64 t', .slice AV ls'.length capV, .int .i64 p', .int .i64 st', .int .i64 a', .int .i64 c'] 52) := ⟨_, rfl⟩
  rw [← hw5]
  have hV : Blk w5 w4.heap.size 52 #[.int .i64 k', .int .i64 s', .int .i64 q', .int .i64 t', .slice AV ls'.length capV, .int .i64 p', .int .i64 st', .int .i64 a', .int .i64 c'] := by rw [hw5]; exact Blk.new _ _ _
  have hbq : Below w4.heap.size w4 w5 := by rw [hw5]; exact one_box _ _
  have hsw5 : w4.heap.size < w5.heap.size := hV.lt
  clear hw5
  replace hU := hU.over hbq
  replace hb3 := Below.then hb3 hbq
  replace hoq := own_over hoq hbq
  replace hov := own_over hov hbq
  clear hbq
  refine (num_any _ _ (by omega) (by omega)).mono ?_
  rintro _ _ ⟨rfl, rfl⟩
  have u0 : w5.cell? ⟨w1.heap.size, 0, none⟩ = some (.int .i64 k') := by rw [hU.cell]; rfl
  have u1 : w5.cell? ⟨w1.heap.size, 1, none⟩ = some (.int .i64 s') := by rw [hU.cell]; rfl
  have u2 : w5.cell? ⟨w1.heap.size, 2, none⟩ = some (.int .i64 q') := by rw [hU.cell]; rfl
  have u3 : w5.cell? ⟨w1.heap.size, 3, none⟩ = some (.int .i64 t') := by rw [hU.cell]; rfl
  have u4 : w5.cell? ⟨w1.heap.size, 4, none⟩ = some (.slice AT ls'.length capT) := by rw [hU.cell]; rfl
  have u5 : w5.cell? ⟨w1.heap.size, 5, none⟩ = some (.int .i64 p') := by rw [hU.cell]; rfl
  have u6 : w5.cell? ⟨w1.heap.size, 6, none⟩ = some (.int .i64 st') := by rw [hU.cell]; rfl
  have u7 : w5.cell? ⟨w1.heap.size, 7, none⟩ = some (.int .i64 a') := by rw [hU.cell]; rfl
  have u8 : w5.cell? ⟨w1.heap.size, 8, none⟩ = some (.int .i64 c') := by rw [hU.cell]; rfl
  have v0 : w5.cell? ⟨w4.heap.size, 0, none⟩ = some (.int .i64 k') := by rw [hV.cell]; rfl
  have v1 : w5.cell? ⟨w4.heap.size, 1, none⟩ = some (.int .i64 s') := by rw [hV.cell]; rfl
  have v2 : w5.cell? ⟨w4.heap.size, 2, none⟩ = some (.int .i64 q') := by rw [hV.cell]; rfl
  have v3 : w5.cell? ⟨w4.heap.size, 3, none⟩ = some (.int .i64 t') := by rw [hV.cell]; rfl
  have v4 : w5.cell? ⟨w4.heap.size, 4, none⟩ = some (.slice AV ls'.length capV) := by rw [hV.cell]; rfl
  have v5 : w5.cell? ⟨w4.heap.size, 5, none⟩ = some (.int .i64 p') := by rw [hV.cell]; rfl
  have v6 : w5.cell? ⟨w4.heap.size, 6, none⟩ = some (.int .i64 st') := by rw [hV.cell]; rfl
  have v7 : w5.cell? ⟨w4.heap.size, 7, none⟩ = some (.int .i64 a') := by rw [hV.cell]; rfl
  have v8 : w5.cell? ⟨w4.heap.size, 8, none⟩ = some (.int .i64 c') := by rw [hV.cell]; rfl
  have hlq : ls'.length ≤ 9223372036854775807 := by obtain ⟨_, _, h, h', h2⟩ := own_shape hoq; simp only [Value.slice.injEq] at h; simp only [maxLen] at h2; omega
  go_wp2_with fail
  clear u0 u1 u2 u3 u4 u5 u6 u7 u8
  clear v0 v1 v2 v3 v4 v5 v6 v7 v8
  refine (SameItem_yes k' s' q' t' AV AT ls'.length capV ls'.length capT w5.heap.size w5.heap.size ls' p' st' a' c' w5 (Rd.of_own hov) (Rd.of_own hoq) (Nat.le_refl _) (Nat.le_refl _) hlq).mono ?_
  rintro _ w6 ⟨rfl, hb⟩
  replace hb3 := Below.then hb3 hb
  clear hb hov hoq hU hV
  go_wp2_with fail
  refine (Copied_any B m capb cs w6 ((hrb.below hb3).more hb3.size) (by omega)).mono ?_
  rintro _ w7 ⟨vk, rfl, hok, hb⟩
  obtain ⟨AK, capK, rfl, _, _⟩ := own_shape hok
  replace hb3 := Below.then hb3 hb
  clear hb
  go_wp2_with fail
  refine (DecodeItem_r B m capb cs w7 ((hrb.below hb3).more hb3.size) hcapb (by omega) _ _ HE2.out).mono ?_
  rintro _ w8 ⟨AX, capX, rfl, hox, hb⟩
  simp only at hox
  replace hb3 := Below.then hb3 hb
  replace hok := own_over hok hb
  clear hb
  go_wp2_with fail
  obtain ⟨w9, hw9⟩ : ∃ w9, w9 = w8.alloc (.cells #[.int .i64 k2, .int .i64 s2, .int .i64 q2, .int .i64 t2, .slice AX l2.length capX, .int .i64 p2, .int .i64 st2, .int .i64 a2, .int .i64 c2] 52) := ⟨_, rfl⟩
  rw [← hw9]
  have hX : Blk w9 w8.heap.size 52 #[.int .i64 k2, .int .i64 s2, .int .i64 q2, .int .i64 t2, .slice AX l2.length capX, .int .i64 p2, .int .i64 st2, .int .i64 a2, .int .i64 c2] := by rw [hw9]; exact Blk.new _ _ _
  have hbq : Below w8.heap.size w8 w9 := by rw [hw9]; exact one_box _ _
  have hsw9 : w8.heap.size < w9.heap.size := hX.lt
  clear hw9
  replace hb3 := Below.then hb3 hbq
  replace hok := own_over hok hbq
  replace hox := own_over hox hbq
  clear hbq
  refine (num_any _ _ (by omega) (by omega)).mono ?_
  rintro _ _ ⟨rfl, rfl⟩
  have x0 : w9.cell? ⟨w8.heap.size, 0, none⟩ = some (.int .i64 k2) := by rw [hX.cell]; rfl
  have x1 : w9.cell? ⟨w8.heap.size, 1, none⟩ = some (.int .i64 s2) := by rw [hX.cell]; rfl
  have x2 : w9.cell? ⟨w8.heap.size, 2, none⟩ = some (.int .i64 q2) := by rw [hX.cell]; rfl
  have x3 : w9.cell? ⟨w8.heap.size, 3, none⟩ = some (.int .i64 t2) := by rw [hX.cell]; rfl
  have x4 : w9.cell? ⟨w8.heap.size, 4, none⟩ = some (.slice AX l2.length capX) := by rw [hX.cell]; rfl
  have x5 : w9.cell? ⟨w8.heap.size, 5, none⟩ = some (.int .i64 p2) := by rw [hX.cell]; rfl
  have x6 : w9.cell? ⟨w8.heap.size, 6, none⟩ = some (.int .i64 st2) := by rw [hX.cell]; rfl
  have x7 : w9.cell? ⟨w8.heap.size, 7, none⟩ = some (.int .i64 a2) := by rw [hX.cell]; rfl
  have x8 : w9.cell? ⟨w8.heap.size, 8, none⟩ = some (.int .i64 c2) := by rw [hX.cell]; rfl
  by_cases her : er = 0
  · have hE3 := Lib.hid (HRV.out.2 her)
    subst her
    clear hd2 hd3
    go_wp2_with fail
    clear x0 x1 x2 x3 x4 x5 x6 x7 x8
    refine (EncodeItem_r k2 s2 q2 t2 AX l2.length capX l2 p2 st2 a2 c2 w9 (Rd.of_own hox) cs 0 hE3.out).mono ?_
    rintro _ wa ⟨vd, rfl, hod, hb⟩
    obtain ⟨AD, capD, rfl, _, _⟩ := own_shape hod
    replace hb3 := Below.then hb3 hb
    replace hok := own_over hok hb
    clear hb
    go_wp2_with fail
    refine (num_any _ _ (by omega) (by omega)).mono ?_
    rintro _ _ ⟨rfl, rfl⟩
    go_wp2_with fail
    refine (SameBytes_b _ _ _ _ _ _ _ _ cs _ (Rd.of_own hod) (Rd.of_own hok) (by have := hrb.lenB; omega)).mono ?_
    rintro _ wb ⟨rfl, hb⟩
    go_wp2
    go_ret
    exact ⟨rfl, Below.then hb3 hb⟩
  · have hz := HRV.out.1 her
    simp only [ItemD.zero, ItemD.mk.injEq] at hz
    obtain ⟨rfl, rfl, rfl, rfl, rfl, rfl, rfl, rfl, rfl⟩ := hz
    have hbe : (er != 0) = true := by simp [her]
    clear her
    go_wp2_with fail
    clear x0 x1 x2 x3 x4 x5 x6 x7 x8
    refine (SameItem_yes 0 0 0 0 AX none 0 capX 0 0 w9.heap.size w9.heap.size [] 0 0 0 0 w9 (Rd.nil_ _) (Rd.nil_ _) (Nat.le_refl _) (Nat.le_refl _) (by omega)).mono ?_
    rintro _ wb ⟨rfl, hb⟩
    go_wp2
    go_ret
    exact ⟨rfl, Below.then hb3 hb⟩
end Go.Proofs.Ytjafmcahlmopiaa
