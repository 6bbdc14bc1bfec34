/-
  The document's bitwise, Valid, head, frame.
-/
import Derived.Test.YtpkdalpjfcopbaaDoorLVal
namespace Go.Proofs.YtpkdalpjfcopbaaDoor
open Go.RowKit
theorem bitwise_any (a b : UInt8) (w : World) : Calls Tryd.prog 74 #[.int .u8 (a.toNat : Int), .int .u8 (b.toNat : Int)] w fun e w' => e = .returned (.int .u8 ((a ^^^ b).toNat : Int)) ∧ w = w' := by
  have HX := Lib.hid (xor_u8 a b)
  go_enter Tryd.func74, Tryd.ntmps74
  go_wp2
  go_ret
  exact ⟨congrArg (fun x => Ending.returned (Value.int .u8 x)) HX.out, rfl⟩
set_option maxRecDepth 100000 in
theorem Valid_any (kd : Int) (A : Option Addr) (n cap : Nat) (w : World) (hn : n ≤ 9223372036854775807) : Calls Tryd.prog 57 #[.agg #[.int .i64 kd, .slice A n cap]] w fun e w' => e = .returned (.bool (okB kd n)) ∧ Below w.heap.size w w' := by
  have hb := one_box' w (.cells #[.int .i64 kd, .slice A n cap] 34)
  have HB := Lib.hid hb
  clear hb
  obtain ⟨b, hb⟩ : ∃ b, b = okB kd n := ⟨_, rfl⟩
  have hb2 := hb
  unfold okB at hb2
  rw [← hb]
  by_cases h1 : 1 ≤ kd
  · have d1 : decide (1 ≤ kd) = true := by simpa using h1
    by_cases h2 : kd ≤ 4
    · have d2 : decide (kd ≤ 4) = true := by simpa using h2
      by_cases h3 : n ≤ 4200
      · have e : b = true := by rw [hb2]; simp [h1, h2, h3]
        have h3i : (n : Int) ≤ 4200 := by omega
        rw [e]
        clear hb hb2 e
        go_enter Tryd.func57, Tryd.ntmps57
        go_wp2
        go_ret
        exact ⟨rfl, HB.out⟩
      · have e : b = false := by rw [hb2]; simp [h3]
        have h3i : ¬ (n : Int) ≤ 4200 := by omega
        have d3 : decide ((n : Int) ≤ 4200) = false := by simpa using h3i
        rw [e]
        clear hb hb2 e
        go_enter Tryd.func57, Tryd.ntmps57
        go_wp2
        go_ret
        exact ⟨rfl, HB.out⟩
    · have e : b = false := by rw [hb2]; simp [h2]
      have d2 : decide (kd ≤ 4) = false := by simpa using h2
      rw [e]
      clear hb hb2 e
      go_enter Tryd.func57, Tryd.ntmps57
      go_wp2
      go_ret
      exact ⟨rfl, HB.out⟩
  · have e : b = false := by rw [hb2]; simp [h1]
    have d1 : decide (1 ≤ kd) = false := by simpa using h1
    rw [e]
    clear hb hb2 e
    go_enter Tryd.func57, Tryd.ntmps57
    go_wp2
    go_ret
    exact ⟨rfl, HB.out⟩
set_option maxRecDepth 100000 in
set_option maxHeartbeats 1600000 in
theorem Rhead_any {w : World} (g c : Nat) (hg : g < 9223372036854775808) (hc : c < 9223372036854775808) :
    Calls Tryd.prog 68 #[.int .i64 (g : Int), .int .i64 (c : Int)] w fun e w' => ∃ A' cap, e = .returned (.slice A' 18 cap) ∧ w'.ownsRow w.heap.size 5 1 (.slice A' 18 cap) 18 (bvs (headB g c)) ∧ Below w.heap.size w w' := by
  obtain ⟨i0, hi0, hz0, hz1, hz2⟩ := info_parts info_u8
  obtain ⟨w1, hw1⟩ : ∃ w1, w1 = w.alloc (.cells #[.int .u8 113, .int .u8 106] 5) := ⟨_, rfl⟩
  have hb1 : Below w.heap.size w w1 := by rw [hw1]; exact one_box' _ _
  have ho1 : w1.ownsRow w.heap.size 5 1 (.slice (some ⟨w.heap.size, 0, none⟩) 2 2) 2 (bvs [113, 106]) := by rw [hw1]; exact own_lit (Nat.le_refl _)
  have HW1 := Lib.hid hw1
  have H1 := Lib.hid (And.intro hb1 ho1)
  have hcr := Crc.crc_lt (hdr g c)
  obtain ⟨cr, hcr0⟩ : ∃ cr, cr = Crc.crc (hdr g c) := ⟨_, rfl⟩
  rw [← hcr0] at hcr
  have HCR := Lib.hid hcr0
  clear hw1 hb1 ho1 hcr0
  go_enter Tryd.func68, Tryd.ntmps68
  go_upto_region 2 with fail
  rw [← HW1.out]
  go_upto_region 3 with (go_at_call 76; refine (number_any g 8 w1 hg (by omega) (by omega)).mono ?_; rintro _ w2 ⟨u2, rfl, ho2, hb2⟩; obtain ⟨A2, c2, rfl, _, _⟩ := own_shape ho2; have H2 := Lib.hid (And.intro ho2 hb2); clear ho2 hb2)
  go_upto_region 4 with (go_at_call 76; refine (number_any c 4 w2 hc (by omega) (by omega)).mono ?_; rintro _ w3 ⟨u3, rfl, ho3, hb3⟩; obtain ⟨A3, c3, rfl, _, _⟩ := own_shape ho3; have H3 := Lib.hid (And.intro ho3 hb3); clear ho3 hb3)
  have hb13 := Below.then H2.out.2 H3.out.2
  have HO3 := Lib.hid (own_over H1.out.2 hb13)
  have HB3 : Hid (Below w.heap.size w w3) := Lib.hid (H1.out.1.trans (hb13.mono H1.out.1.size))
  have HR3 := Lib.hid (Rd.of_own (own_over H2.out.1 H3.out.2))
  clear hb13
  go_upto_region 5 with (
     at_builtin
     refine wpList_append_any _ (by rfl) _ _ 22 (by rfl) w.heap.size 5 i0 _ 1 1 u_bytes hi0 hz0 hz1 hz2 rfl (by omega) _ 2 (bvs [113, 106]) (by rfl) HO3.out w3.heap.size A2 8 c2 (bvs (beN g 8)) (by rfl) HR3.out (bvs_one _) (by simp only [maxLen]; omega) (by omega) HB3.out.size ?_
     intro v4 w4 ho4 hg4 hat4
     obtain ⟨A4, c4, rfl, _, _⟩ := own_shape ho4
     have H4 := Lib.hid (And.intro ho4 (And.intro hg4 hat4))
     clear ho4 hg4 hat4)
  have hb4 := below_app HO3.out H4.out.2.1 HB3.out.size
  have hB4 : Below w.heap.size w w4 := HB3.out.trans hb4
  have hr4 : RdB w4 w4.heap.size A3 4 (beN c 4) := by
    have hne : ∀ g', (Value.slice A3 4 c3).ownBlock = some g' → ¬ some g' = (Value.slice (some ⟨w.heap.size, 0, none⟩) 2 2).ownBlock := fun g' h1 h2 => by
      have e1 := (own_block_lt H3.out.1 h1).2.1
      have e2 := (own_block_lt H1.out.2 h2.symm).1
      have := H2.out.2.size
      omega
    exact Rd.of_own (own_chg H3.out.1 (Chg.of_grown H4.out.2.1) hne)
  have HB4 := Lib.hid (And.intro hB4 hr4)
  clear hb4 hB4 hr4
  go_upto_region 6 with (
     at_builtin
     refine wpList_append_any _ (by rfl) _ _ 22 (by rfl) w.heap.size 5 i0 _ 1 1 u_bytes hi0 hz0 hz1 hz2 rfl (by omega) _ (2 + 8) _ (by rfl) H4.out.1 w4.heap.size A3 4 c3 (bvs (beN c 4)) (by rfl) HB4.out.2 (bvs_one _) (by simp only [maxLen]; omega) (by omega) HB4.out.1.size ?_
     intro v5 w5 ho5 hg5 _
     obtain ⟨A5, c5, rfl, _, _⟩ := own_shape ho5
     have H5 := Lib.hid (And.intro ho5 hg5)
     clear ho5 hg5)
  have ho5 : w5.ownsRow w.heap.size 5 1 (.slice A5 (2 + 8 + 4) c5) (2 + 8 + 4) (bvs (hdr g c)) := by
    have h := H5.out.1
    rw [← bvs_append, ← bvs_append] at h
    exact h
  have hB5 : Below w.heap.size w w5 := HB4.out.1.trans (below_app H4.out.1 H5.out.2 HB4.out.1.size)
  have HSM := Lib.hid (RSum_any A5 (2 + 8 + 4) c5 w5.heap.size (hdr g c) w5 (Rd.of_own ho5) (by omega))
  rw [← HCR.out] at HSM
  have H5' := Lib.hid (And.intro ho5 hB5)
  clear ho5 hB5
  go_upto_region 8 with (first | (go_at_call 75; refine HSM.out.mono ?_; rintro _ w5' ⟨rfl, rfl⟩) | (go_at_call 76; refine (number_any cr 4 w5 (by omega) (by omega) (by omega)).mono ?_; rintro _ w6 ⟨u6, rfl, ho6, hb6⟩; obtain ⟨A6, c6, rfl, _, _⟩ := own_shape ho6; have H6 := Lib.hid (And.intro ho6 hb6); clear ho6 hb6))
  have HO6 := Lib.hid (own_over H5'.out.1 H6.out.2)
  have HB6 : Hid (Below w.heap.size w w6) := Lib.hid (H5'.out.2.trans (H6.out.2.mono H5'.out.2.size))
  have HR6 := Lib.hid (Rd.of_own H6.out.1)
  go_wp2_with (
     at_builtin
     refine wpList_append_any _ (by rfl) _ _ 22 (by rfl) w.heap.size 5 i0 _ 1 1 u_bytes hi0 hz0 hz1 hz2 rfl (by omega) _ 14 _ (by rfl) HO6.out w6.heap.size A6 4 c6 (bvs (beN cr 4)) (by rfl) HR6.out (bvs_one _) (by simp only [maxLen]; omega) (by omega) HB6.out.size ?_
     intro v7 w7 ho7 hg7 _
     obtain ⟨A7, c7, rfl, _, _⟩ := own_shape ho7
     have H7 := Lib.hid (And.intro ho7 hg7)
     clear ho7 hg7)
  go_ret
  refine ⟨A7, c7, rfl, ?_, HB6.out.trans (below_app HO6.out H7.out.2 HB6.out.size)⟩
  have h := H7.out.1
  rw [← bvs_append, HCR.out] at h
  exact h
theorem last4_own {w : World} {base n c : Nat} {A : Option Addr} {t : List UInt8} (h : w.ownsRow base 5 1 (.slice A n c) n (bvs t)) (hn : 4 ≤ n) : ∃ g, A = some ⟨g, 0, none⟩ ∧ RdB w w.heap.size (some ⟨g, n - 4, none⟩) 4 (last4 t) ∧ n ≤ c := by
  obtain ⟨g, rfl, _, hle, _⟩ := own_open h (by omega)
  refine ⟨g, rfl, ?_, hle⟩
  have hl : t.length = n := by have := h.1; rw [bvs_length] at this; omega
  obtain ⟨m, hm⟩ : ∃ m, n = m + 4 := ⟨n - 4, by omega⟩
  rw [hm] at h ⊢
  have h2 := own_from h (by omega)
  rw [Nat.add_sub_cancel, last4, hl, hm, Nat.add_sub_cancel]
  rw [← bvs_drop] at h2
  exact h2
set_option maxRecDepth 100000 in
set_option maxHeartbeats 1600000 in
theorem Rframe_any {w : World} (As : Option Addr) (cs : Nat) (sm : List UInt8) (k : Nat) (A : Option Addr) (n cap : Nat) (body : List UInt8) (hs : RdB w w.heap.size As 4 sm) (hr : RdB w w.heap.size A n body) (hn : n ≤ 4200) (hk : k ≤ 4) :
    Calls Tryd.prog 58 #[.slice As 4 cs, .agg #[.int .i64 (k : Int), .slice A n cap]] w fun e w' => ∃ A' c', e = .returned (.slice A' (8 + n) c') ∧ w'.ownsRow w.heap.size 5 1 (.slice A' (8 + n) c') (8 + n) (bvs (frameB sm ⟨(k : Int), body⟩)) ∧ Below w.heap.size w w' := by
  obtain ⟨i0, hi0, hz0, hz1, hz2⟩ := info_parts info_u8
  obtain ⟨w1, hw1⟩ : ∃ w1, w1 = w.alloc (.cells #[.int .i64 (k : Int), .slice A n cap] 34) := ⟨_, rfl⟩
  have hb1 : Below w.heap.size w w1 := by rw [hw1]; exact one_box' _ _
  have hR1 : Blk w1 w.heap.size 34 #[.int .i64 (k : Int), .slice A n cap] := by rw [hw1]; exact Blk.new _ _ _
  have c0 : w1.cell? ⟨w.heap.size, 0, none⟩ = some (.int .i64 (k : Int)) := hR1.cell 0
  have c1 : w1.cell? ⟨w.heap.size, 1, none⟩ = some (.slice A n cap) := hR1.cell 1
  have hlb := hr.lenB
  have hls := hs.lenB
  have HW1 := Lib.hid hw1
  have H1 := Lib.hid (And.intro hb1 hR1)
  have HS := Lib.hid hs
  have HR := Lib.hid hr
  have HL := Lib.hid (And.intro hlb hls)
  clear hw1 hb1 hR1 hs hr hlb hls
  go_enter Tryd.func58, Tryd.ntmps58
  go_upto_region 1 with fail
  rw [← HW1.out]
  go_upto_region 4 with fail
  obtain ⟨y0, hy0⟩ : ∃ y, y = UInt8.ofNat k := ⟨_, rfl⟩
  obtain ⟨y1, hy1⟩ : ∃ y, y = UInt8.ofNat (n / 256) := ⟨_, rfl⟩
  obtain ⟨y2, hy2⟩ : ∃ y, y = UInt8.ofNat n := ⟨_, rfl⟩
  have e0 : (k : Int) = (y0.toNat : Int) := by rw [hy0, UInt8.toNat_ofNat']; omega
  have e1 : (n : Int) / 256 = (y1.toNat : Int) := by rw [hy1, UInt8.toNat_ofNat']; omega
  have e2 : (n : Int) % 256 = (y2.toNat : Int) := by rw [hy2, UInt8.toNat_ofNat']; omega
  rw [e1, e2, e0]
  have HB1 : Hid (∀ W, Calls Tryd.prog 74 #[.int .u8 165, .int .u8 (y0.toNat : Int)] W fun e w' => e = .returned (.int .u8 ((165 ^^^ y0).toNat : Int)) ∧ W = w') := Lib.hid fun W => bitwise_any 165 y0 W
  have HB2 := Lib.hid (fun W => bitwise_any (165 ^^^ y0) y1 W)
  have HB3 := Lib.hid (fun W => bitwise_any (165 ^^^ y0 ^^^ y1) y2 W)
  have HY : Hid (four k n = [y0, y1, y2, 165 ^^^ y0 ^^^ y1 ^^^ y2]) := Lib.hid (by rw [hy0, hy1, hy2]; rfl)
  obtain ⟨y3, hy3⟩ : ∃ y, y = 165 ^^^ y0 ^^^ y1 ^^^ y2 := ⟨_, rfl⟩
  rw [← hy3] at HB3 HY
  clear hy0 hy1 hy2 hy3 e0 e1 e2 c0
  obtain ⟨w2, hw2⟩ : ∃ x, x = w1.alloc (.cells #[.int .u8 (y0.toNat : Int), .int .u8 (y1.toNat : Int), .int .u8 (y2.toNat : Int), .int .u8 (y3.toNat : Int)] 5) := ⟨_, rfl⟩
  have hb2 : Below w1.heap.size w1 w2 := by rw [hw2]; exact one_box' _ _
  have ho2 : w2.ownsRow w.heap.size 5 1 (.slice (some ⟨w1.heap.size, 0, none⟩) 4 4) 4 (bvs (four k n)) := by
    rw [hw2, HY.out]
    exact ⟨by simp [bvs], .inr ⟨w1.heap.size, 4, _, rfl, H1.out.1.size, heap_alloc_new w1 _, by omega, by simp [maxLen], by simp, by simp [bvs]⟩⟩
  have HW2 := Lib.hid hw2
  have HB0 : Hid (Below w.heap.size w w2) := Lib.hid (Below.then H1.out.1 hb2)
  have HO2 := Lib.hid ho2
  have hX2 := H1.out.2.over hb2
  have c1' : w2.cell? ⟨w.heap.size, 1, none⟩ = some (.slice A n cap) := hX2.cell 1
  have HR2 := Lib.hid ((HR.out.below HB0.out).more HB0.out.size)
  clear hw2 hb2 ho2 hX2 c1
  go_upto_region 5 with (first | (go_at_call 74; refine (HB1.out _).mono ?_; rintro _ w2' ⟨rfl, rfl⟩) | (go_at_call 74; refine (HB2.out _).mono ?_; rintro _ w2' ⟨rfl, rfl⟩) | (go_at_call 74; refine (HB3.out _).mono ?_; rintro _ w2' ⟨rfl, rfl⟩))
  rw [← HW2.out]
  go_upto_region 6 with (
     at_builtin
     refine wpList_append_any _ (by rfl) _ _ 22 (by rfl) w.heap.size 5 i0 _ 1 1 u_bytes hi0 hz0 hz1 hz2 rfl (by omega) _ 4 _ (by rfl) HO2.out w2.heap.size A n cap (bvs body) (by rfl) HR2.out (bvs_one _) (by simp only [maxLen]; omega) (by omega) HB0.out.size ?_
     intro v3 w3 ho3 hg3 _
     obtain ⟨A3, c3, rfl, _, _⟩ := own_shape ho3
     have H3 := Lib.hid (And.intro ho3 hg3)
     clear ho3 hg3)
  have ho3 : w3.ownsRow w.heap.size 5 1 (.slice A3 (4 + n) c3) (4 + n) (bvs (frameH ⟨(k : Int), body⟩)) := by
    have h := H3.out.1
    rw [← bvs_append] at h
    have e : frameH ⟨(k : Int), body⟩ = four k n ++ body := by
      unfold frameH
      simp only [Int.toNat_natCast, HL.out.1]
    rw [e]
    exact h
  have hB3 : Below w.heap.size w w3 := HB0.out.trans (below_app HO2.out H3.out.2 HB0.out.size)
  have H3' := Lib.hid (And.intro ho3 hB3)
  have HS3 := Lib.hid ((HS.out.below hB3).more hB3.size)
  have hnil : w3.ownsRow w.heap.size 5 1 (.slice none 0 0) 0 [] := ⟨by simp, .inl ⟨rfl, rfl⟩⟩
  have HNIL := Lib.hid hnil
  clear ho3 hB3 c1' hnil
  go_upto_region 8 with (
     at_builtin
     refine wpList_append_any _ (by rfl) _ _ 22 (by rfl) w.heap.size 5 i0 _ 1 1 u_bytes hi0 hz0 hz1 hz2 rfl (by omega) _ 0 [] (by rfl) HNIL.out w3.heap.size As 4 cs (bvs sm) (by rfl) HS3.out (bvs_one _) (by simp only [maxLen]; omega) (by omega) H3'.out.2.size ?_
     intro v4 w4 ho4 hg4 hat4
     obtain ⟨A4, c4, rfl, _, _⟩ := own_shape ho4
     have H4 := Lib.hid (And.intro ho4 (And.intro (nil_app hg4) hat4))
     clear ho4 hg4 hat4)
  have HO4 := Lib.hid (own_over H3'.out.1 H4.out.2.1)
  have HB4 : Hid (Below w.heap.size w w4) := Lib.hid (H3'.out.2.trans (H4.out.2.1.mono H3'.out.2.size))
  have HR4 := Lib.hid (Rd.of_own HO4.out)
  go_upto_region 9 with (
     at_builtin
     refine wpList_append_any _ (by rfl) _ _ 22 (by rfl) w.heap.size 5 i0 _ 1 1 u_bytes hi0 hz0 hz1 hz2 rfl (by omega) _ (0 + 4) _ (by rfl) H4.out.1 w4.heap.size A3 (4 + n) c3 (bvs (frameH ⟨(k : Int), body⟩)) (by rfl) HR4.out (bvs_one _) (by simp only [maxLen]; omega) (by omega) HB4.out.size ?_
     intro v5 w5 ho5 hg5 _
     obtain ⟨A5, c5, rfl, _, _⟩ := own_shape ho5
     have H5 := Lib.hid (And.intro ho5 hg5)
     clear ho5 hg5)
  have ho5 : w5.ownsRow w.heap.size 5 1 (.slice A5 (4 + (4 + n)) c5) (4 + (4 + n)) (bvs (sm ++ frameH ⟨(k : Int), body⟩)) := by
    have h := H5.out.1
    rw [List.nil_append, ← bvs_append, Nat.zero_add] at h
    exact h
  have hB5 : Below w.heap.size w w5 := HB4.out.trans (below_app H4.out.1 H5.out.2 HB4.out.size)
  have ho35 : w5.ownsRow w.heap.size 5 1 (.slice A3 (4 + n) c3) (4 + n) (bvs (frameH ⟨(k : Int), body⟩)) := own_chg HO4.out (Chg.of_grown H5.out.2) fun g' h1 h2 => by
    have e1 := (own_block_lt H3'.out.1 h1).1
    rcases H4.out.2.2 with h3 | h3
    · rw [h3] at h2
      simp [Value.ownBlock] at h2
    · rw [h3] at h2
      injection h2 with h2
      omega
  have hcr := Crc.crc_lt (sm ++ frameH ⟨(k : Int), body⟩)
  have HSM := Lib.hid (RSum_any A5 (4 + (4 + n)) c5 w5.heap.size (sm ++ frameH ⟨(k : Int), body⟩) w5 (Rd.of_own ho5) (by omega))
  obtain ⟨cr, hcr0⟩ : ∃ cr, cr = Crc.crc (sm ++ frameH ⟨(k : Int), body⟩) := ⟨_, rfl⟩
  rw [← hcr0] at HSM hcr
  have HCR := Lib.hid hcr0
  have H5' := Lib.hid (And.intro ho35 hB5)
  clear ho5 hB5 ho35 hcr0
  go_upto_region 11 with (first | (go_at_call 75; refine HSM.out.mono ?_; rintro _ w5' ⟨rfl, rfl⟩) | (go_at_call 76; refine (number_any cr 4 w5 (by omega) (by omega) (by omega)).mono ?_; rintro _ w6 ⟨u6, rfl, ho6, hb6⟩; obtain ⟨A6, c6, rfl, _, _⟩ := own_shape ho6; have H6 := Lib.hid (And.intro ho6 hb6); clear ho6 hb6))
  have HO6 := Lib.hid (own_over H5'.out.1 H6.out.2)
  have HB6 : Hid (Below w.heap.size w w6) := Lib.hid (H5'.out.2.trans (H6.out.2.mono H5'.out.2.size))
  have HR6 := Lib.hid (Rd.of_own H6.out.1)
  go_wp2_with (
     at_builtin
     refine wpList_append_any _ (by rfl) _ _ 22 (by rfl) w.heap.size 5 i0 _ 1 1 u_bytes hi0 hz0 hz1 hz2 rfl (by omega) _ (4 + n) _ (by rfl) HO6.out w6.heap.size A6 4 c6 (bvs (beN cr 4)) (by rfl) HR6.out (bvs_one _) (by simp only [maxLen]; omega) (by omega) HB6.out.size ?_
     intro v7 w7 ho7 hg7 _
     obtain ⟨A7, c7, rfl, _, _⟩ := own_shape ho7
     have H7 := Lib.hid (And.intro ho7 hg7)
     clear ho7 hg7)
  go_ret
  have e8 : 4 + n + 4 = 8 + n := by omega
  have h := H7.out.1
  rw [e8, ← bvs_append, HCR.out] at h
  refine ⟨A7, c7, by rw [← e8]; rfl, h, HB6.out.trans (below_app HO6.out H7.out.2 HB6.out.size)⟩
end Go.Proofs.YtpkdalpjfcopbaaDoor
