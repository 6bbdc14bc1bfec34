/-
  The outright laws' helpers: copied, reads, good, sound.
-/
import Derived.Test.YtpkdalpjfcopbaaDoorMDesk
namespace Go.Proofs.YtpkdalpjfcopbaaDoor
open Go.RowKit
theorem own_bare {w : World} {base : Nat} (e : TypeId) (size : Nat) (hb : base ≤ w.heap.size) : (w.alloc (.cells #[] e)).ownsRow base e size (.slice (some ⟨w.heap.size, 0, none⟩) 0 0) 0 [] :=
  ⟨by simp, .inr ⟨w.heap.size, 0, #[], rfl, hb, Blk.new _ _ _, by omega, by simp [maxLen], by simp, by simp⟩⟩
set_option maxRecDepth 100000 in
set_option maxHeartbeats 1600000 in
theorem copied_any {w : World} (kd : Int) (A : Option Addr) (n cap : Nat) (body : List UInt8) (hr : RdB w w.heap.size A n body) (hn : n ≤ 140737488355328) :
    Calls Tryd.prog 34 #[.agg #[.int .i64 kd, .slice A n cap]] w fun e w' => ∃ A' c', e = .returned (.agg #[.int .i64 kd, .slice A' n c']) ∧ w'.ownsRow w.heap.size 5 1 (.slice A' n c') n (bvs body) ∧ Below w.heap.size w w' := by
  obtain ⟨i0, hi0, hz0, hz1, hz2⟩ := info_parts info_u8
  obtain ⟨w1, hw1⟩ : ∃ w1, w1 = w.alloc (.cells #[.int .i64 kd, .slice A n cap] 34) := ⟨_, rfl⟩
  have hb1 : Below w.heap.size w w1 := by rw [hw1]; exact one_box' _ _
  have hR1 : Blk w1 w.heap.size 34 #[.int .i64 kd, .slice A n cap] := by rw [hw1]; exact Blk.new _ _ _
  have hz1' : w1.heap.size = w.heap.size + 1 := by rw [hw1]; simp
  obtain ⟨w2, hw2⟩ : ∃ x, x = w1.alloc (.cells #[.int .i64 0, .slice none 0 0] 34) := ⟨_, rfl⟩
  have hb2 : Below w1.heap.size w1 w2 := by rw [hw2]; exact one_box' _ _
  have hR2 : Blk w2 (w.heap.size + 1) 34 #[.int .i64 0, .slice none 0 0] := by rw [hw2, ← hz1']; exact Blk.new _ _ _
  obtain ⟨wd, hwd⟩ : ∃ x, x = w2.drew := ⟨_, rfl⟩
  have hbd : Below w2.heap.size w2 wd := by rw [hwd]; exact below_drewN (Below.refl _ _) 1
  have hbD := Below.then (Below.then hb1 hb2) hbd
  have HX := Lib.hid ((hR1.over hb2).over hbd)
  have HR := Lib.hid (hR2.over hbd)
  have HRR : Hid (∀ W, Below w.heap.size w W → RdB W w.heap.size A n body) := Lib.hid fun W hW => hr.below hW
  have HB := Lib.hid hbD
  have HW := Lib.hid (And.intro hw1 (And.intro hw2 hz1'))
  have HWD := Lib.hid hwd
  have HSB : Hid (∀ W, Below wd.heap.size wd W → W.cell? ⟨w.heap.size, 0, none⟩ = some (.int .i64 kd) ∧ W.cell? ⟨w.heap.size, 1, none⟩ = some (.slice A n cap)) := Lib.hid fun W hW => ⟨(HX.out.over hW).cell 0, (HX.out.over hW).cell 1⟩
  clear hw1 hb1 hR1 hz1' hw2 hb2 hR2 hwd hbd hbD hr
  go_enter Tryd.func34, Tryd.ntmps34
  go_upto_region 1 with fail
  rw [← HW.out.1, ← HW.out.2.1]
  try rw [HW.out.2.2]
  refine wp_region_held_drew (S := fun W => W.cell? ⟨w.heap.size, 0, none⟩ = some (.int .i64 kd) ∧ W.cell? ⟨w.heap.size, 1, none⟩ = some (.slice A n cap)) (by kernel_rfl) (by rw [← HWD.out]; exact HSB.out _ (Below.refl _ _)) (fun hsw => ?_)
  rw [← HWD.out] at hsw ⊢
  refine wpAnyH_take (i := 0) (oi := ?oi0a) (v := ?v0a) ?hi0a (by kernel_rfl) (by kernel_rfl) (by kernel_rfl) ?hq0a ?hy0a (by assumption) ?rest0a
  case hi0a => (simp only [List.getElem?_toArray, List.getElem?_cons_zero]; rfl)
  case hy0a => (refine Or.inl ⟨by rfl, ?_⟩; intro w hSw; (try dsimp only at hSw); go_simp; try with_reducible rfl)
  case hq0a => exact fun _ _ _ h => h
  try simp only [Act.put, List.setIfInBounds_toArray, List.set_cons_zero, List.set_cons_succ]
  refine wpAnyH_take (i := 1) (oi := ?oi1a) (v := ?v1a) ?hi1a (by kernel_rfl) (by kernel_rfl) (by kernel_rfl) ?hq1a ?hy1a (by assumption) ?rest1a
  case hi1a => (simp only [List.getElem?_toArray, List.getElem?_cons_zero, List.getElem?_cons_succ]; rfl)
  case hy1a => (refine Or.inl ⟨by rfl, ?_⟩; intro w hSw; (try dsimp only at hSw); go_simp; try with_reducible rfl)
  case hq1a => exact fun _ _ _ h => h
  try simp only [Act.put, List.setIfInBounds_toArray, List.set_cons_zero, List.set_cons_succ]
  refine wpAnyH_take (i := 3) (oi := ?oi3a) (v := ?v3a) ?hi3a (by kernel_rfl) (by kernel_rfl) (by kernel_rfl) ?hq3a ?hy3a (by assumption) ?rest3a
  case hi3a => (simp only [List.getElem?_toArray, List.getElem?_cons_zero, List.getElem?_cons_succ]; rfl)
  case hy3a => (refine Or.inl ⟨by rfl, ?_⟩; intro w hSw; (try dsimp only at hSw); go_simp; try with_reducible rfl)
  case hq3a => exact fun _ _ _ h => h
  try simp only [Act.put, List.setIfInBounds_toArray, List.set_cons_zero, List.set_cons_succ]
  refine wpAnyH_take (i := 4) (oi := ?oi4a) (v := ?v4a) ?hi4a (by kernel_rfl) (by kernel_rfl) (by kernel_rfl) ?hq4a ?hy4a (by assumption) ?rest4a
  case hi4a => (simp only [List.getElem?_toArray, List.getElem?_cons_zero, List.getElem?_cons_succ]; rfl)
  case hy4a => (refine Or.inl ⟨by rfl, ?_⟩; intro w hSw; (try dsimp only at hSw); go_simp; try with_reducible rfl)
  case hq4a => exact fun _ _ _ h => h
  try simp only [Act.put, List.setIfInBounds_toArray, List.set_cons_zero, List.set_cons_succ]
  refine wpAnyH_ready (rs := [2]) (by kernel_rfl) (by simp) ?_
  refine AllReadyH.cons (o := ?o2b) ?ho2b (fun K hK => ?st2b) ?mo2b
  case ho2b => (simp only [List.getElem?_toArray, List.getElem?_cons_zero, List.getElem?_cons_succ]; rfl)
  · skip
    obtain ⟨w4, hw4⟩ : ∃ x, x = wd.alloc (.cells #[] 5) := ⟨_, rfl⟩
    have hb4 : Below wd.heap.size wd w4 := by rw [hw4]; exact one_box' _ _
    have ho4 : w4.ownsRow wd.heap.size 5 1 (.slice (some ⟨wd.heap.size, 0, none⟩) 0 0) 0 [] := by rw [hw4]; exact own_bare _ _ (Nat.le_refl _)
    have H4 := Lib.hid (And.intro hb4 ho4)
    go_simp
    rw [← hw4]
    clear hw4 hb4 ho4
    refine hK.out _ _ (HSB.out _ H4.out.1) (fun _ => ?_)
    clear hK K
    try simp only [Act.put, List.setIfInBounds_toArray, List.set_cons_zero, List.set_cons_succ]
    refine wpAnyH_ready (rs := [5]) (by kernel_rfl) (by simp) ?_
    refine AllReadyH.cons (o := ?o5c) ?ho5c (fun K hK => ?st5c) ?mo5c
    case ho5c => (simp only [List.getElem?_toArray, List.getElem?_cons_zero, List.getElem?_cons_succ]; rfl)
    · skip
      refine step_append_any _ (by rfl) _ _ 22 (by rfl) wd.heap.size 5 i0 _ 1 1 u_bytes hi0 hz0 hz1 hz2 rfl (by omega) _ 0 [] (by rfl) H4.out.2 w.heap.size A n cap (bvs body) (by rfl) (HRR.out _ (HB.out.trans (H4.out.1.mono HB.out.size))) (bvs_one _) (by simp only [maxLen]; omega) (by omega) H4.out.1.size ?_
      intro v5 w5 ho5 hg5 _
      rw [Nat.zero_add, List.nil_append] at ho5
      obtain ⟨A5, c5, rfl, _, _⟩ := own_shape ho5
      have hb5 : Below wd.heap.size wd w5 := H4.out.1.trans (below_app H4.out.2 hg5 H4.out.1.size)
      have H5 := Lib.hid (And.intro ho5 hb5)
      clear ho5 hg5 hb5
      refine hK.out _ _ (HSB.out _ H5.out.2) (fun _ => ?_)
      clear hK K
      try simp only [Act.put, List.setIfInBounds_toArray, List.set_cons_zero, List.set_cons_succ]
      refine wpAnyH_take (i := 6) (oi := ?oi6d) (v := ?v6d) ?hi6d (by kernel_rfl) (by kernel_rfl) (by kernel_rfl) ?hq6d ?hy6d (by assumption) ?rest6d
      case hi6d => (simp only [List.getElem?_toArray, List.getElem?_cons_zero, List.getElem?_cons_succ]; rfl)
      case hy6d => (refine Or.inl ⟨by rfl, ?_⟩; intro w hSw; (try dsimp only at hSw); go_simp; try with_reducible rfl)
      case hq6d => exact fun _ _ _ h => h
      try simp only [Act.put, List.setIfInBounds_toArray, List.set_cons_zero, List.set_cons_succ]
      refine wpAnyH_ready (rs := [7]) (by kernel_rfl) (by simp) ?_
      refine AllReadyH.cons (o := ?o7e) ?ho7e (fun K hK => ?st7e) ?mo7e
      case ho7e => (simp only [List.getElem?_toArray, List.getElem?_cons_zero, List.getElem?_cons_succ]; rfl)
      · skip
        have hR5 := HR.out.over H5.out.2
        have r0 := hR5.cell 0
        have r1 := hR5.cell 1
        have q0 := hR5.frozen 0
        have q1 := hR5.frozen 1
        have hcs := two_sets' w5 (w.heap.size + 1) (.int .i64 kd) (.slice A5 n c5)
        have HX6 := Lib.hid ((HX.out.over H5.out.2).chg hcs (by omega))
        have HR6 := Lib.hid ((hR5.set_ 0 (.int .i64 kd)).set_ 1 (.slice A5 n c5))
        have ho6 := own_chg H5.out.1 hcs fun g hg e => by
          subst e
          exact absurd ((own_isT H5.out.1 hg).eq_ hR5.isT) (by decide)
        have hb6 := (HB.out.trans (H5.out.2.mono HB.out.size)).trans (hcs.to_below (Nat.le_trans HB.out.size H5.out.2.size) fun k e => by omega)
        have H6 := Lib.hid (And.intro (own_base ho6 HB.out.size) hb6)
        have hS6 := And.intro (HX6.out.cell 0) (HX6.out.cell 1)
        clear hR5 hcs ho6 hb6
        go_simp
        refine hK.out _ _ hS6 (fun _ => ?_)
        clear hK K
        refine wpAnyH_done (by kernel_rfl) ?_ _
        generalize (w5.setCell ⟨w.heap.size + 1, 0, none⟩ (.int .i64 kd)).setCell ⟨w.heap.size + 1, 1, none⟩ (.slice A5 n c5) = w6 at HX6 HR6 H6 hS6 ⊢
        have y0 : w6.cell? ⟨w.heap.size + 1, 0, none⟩ = some (.int .i64 kd) := HR6.out.cell 0
        have y1 : w6.cell? ⟨w.heap.size + 1, 1, none⟩ = some (.slice A5 n c5) := HR6.out.cell 1
        clear r0 r1 q0 q1
        go_wp2_with fail
        exact bodyPost_ret (v := .agg #[.int .i64 kd, .slice A5 n c5]) (by simp [results, Tryd.results34, y0, y1, go_sem]) rfl ⟨A5, c5, rfl, H6.out.1, H6.out.2⟩
      exact AllReadyH.nil
    exact AllReadyH.nil
  exact AllReadyH.nil
set_option maxRecDepth 100000 in
set_option maxHeartbeats 800000 in
theorem reads_any {w : World} {f : Fls} {A0 A1 Ab : Option Addr} {c0 c1 cb : Nat} {j : JP} {recs : List Rc} {ws : List Wr} (h0 : RdB w w.heap.size A0 f.a.length f.a) (h1 : RdB w w.heap.size A1 f.b.length f.b) (n0 : f.a.length ≤ c0) (n1 : f.b.length ≤ c1) (m0 : c0 ≤ 9223372036854775807) (m1 : c1 ≤ 9223372036854775807)
    (hb : RcRd w (fun _ => False) Ab recs.length recs) (ho : openR f = .ok j recs ws) (ht : Nibs w) :
    Calls Tryd.prog 32 #[.agg #[.slice A0 f.a.length c0, .slice A1 f.b.length c1], .slice Ab recs.length cb] w fun e w' => e = .returned (.bool true) ∧ Below w.heap.size w w' := by
  obtain ⟨w1, hw1⟩ : ∃ w1, w1 = w.alloc (.cells #[.slice A0 f.a.length c0, .slice A1 f.b.length c1] 24) := ⟨_, rfl⟩
  have hb1 : Below w.heap.size w w1 := by rw [hw1]; exact one_box' _ _
  have hX1 : Blk w1 w.heap.size 24 #[.slice A0 f.a.length c0, .slice A1 f.b.length c1] := by rw [hw1]; exact Blk.new _ _ _
  have HOP := Lib.hid (Open_any (w := w1) (f := f) (c0 := c0) (c1 := c1) ((h0.below hb1).more hb1.size) ((h1.below hb1).more hb1.size) n0 n1 m0 m1 (ht.below hb1))
  rw [ho] at HOP
  have x0 : w1.cell? ⟨w.heap.size, 0, none⟩ = some (.slice A0 f.a.length c0) := hX1.cell 0
  have x1 : w1.cell? ⟨w.heap.size, 1, none⟩ = some (.slice A1 f.b.length c1) := hX1.cell 1
  have hlen : recs.length ≤ 65536 := by
    obtain ⟨hf, he⟩ := openR_fine ho
    have h2 := hf.len
    have h3 : j.text.length = 18 + bodies j.recs := textB_length _ _ _
    have h4 := bodies_le recs
    rw [← he] at h3
    omega
  have HW := Lib.hid hw1
  have HB := Lib.hid hb1
  have HBK := Lib.hid (hb.below hb1)
  clear hw1 hb1 hX1 h0 h1 ho ht hb
  go_enter Tryd.func32, Tryd.ntmps32
  go_upto_region 1 with fail
  rw [← HW.out]
  go_upto_region 2 with (go_at_call 17; refine HOP.out.mono ?_; rintro _ w2 ⟨hb2, jg, vl, vw, Kp, rfl, hj1, hj2, hj3, hj4, hj5⟩; obtain ⟨Al, cl, rfl⟩ := hj4.shapeN hj3; have H2 := Lib.hid hb2; have HR2 := Lib.hid (hj4.rdN hj3); clear hb2 hj1 hj2 hj3 hj4 hj5)
  have HRY := Lib.hid (records_yes (c1 := cl) (c2 := cb) HR2.out (HBK.out.below H2.out) (by omega))
  go_wp2_with (go_at_call 14; refine HRY.out.mono ?_; rintro _ w3 ⟨rfl, hb3⟩; have H3 := Lib.hid hb3; clear hb3)
  go_ret
  exact ⟨rfl, Below.then (Below.then HB.out H2.out) H3.out⟩
set_option maxRecDepth 100000 in
theorem good_any (kd : Int) (A : Option Addr) (n cap : Nat) (w : World) (hn : n ≤ 9223372036854775807) : Calls Tryd.prog 64 #[.agg #[.int .i64 kd, .slice A n cap]] w fun e w' => e = .returned (.bool (okB kd n)) ∧ Below w.heap.size w w' := by
  have hb := one_box' w (.cells #[.int .i64 kd, .slice A n cap] 34)
  have HB := Lib.hid hb
  clear hb
  obtain ⟨b, hb⟩ : ∃ b, b = okB kd n := ⟨_, rfl⟩
  have hb2 := hb
  unfold okB at hb2
  rw [← hb]
  by_cases h1 : 1 ≤ kd
  · have d1 : decide (1 ≤ kd) = true := by simpa using h1
    by_cases h2 : kd ≤ 4
    · have d2 : decide (kd ≤ 4) = true := by simpa using h2
      by_cases h3 : n ≤ 4200
      · have e : b = true := by rw [hb2]; simp [h1, h2, h3]
        have h3i : (n : Int) ≤ 4200 := by omega
        rw [e]
        clear hb hb2 e
        go_enter Tryd.func64, Tryd.ntmps64
        go_wp2
        go_ret
        exact ⟨rfl, HB.out⟩
      · have e : b = false := by rw [hb2]; simp [h3]
        have h3i : ¬ (n : Int) ≤ 4200 := by omega
        have d3 : decide ((n : Int) ≤ 4200) = false := by simpa using h3i
        rw [e]
        clear hb hb2 e
        go_enter Tryd.func64, Tryd.ntmps64
        go_wp2
        go_ret
        exact ⟨rfl, HB.out⟩
    · have e : b = false := by rw [hb2]; simp [h2]
      have d2 : decide (kd ≤ 4) = false := by simpa using h2
      rw [e]
      clear hb hb2 e
      go_enter Tryd.func64, Tryd.ntmps64
      go_wp2
      go_ret
      exact ⟨rfl, HB.out⟩
  · have e : b = false := by rw [hb2]; simp [h1]
    have d1 : decide (1 ≤ kd) = false := by simpa using h1
    rw [e]
    clear hb hb2 e
    go_enter Tryd.func64, Tryd.ntmps64
    go_wp2
    go_ret
    exact ⟨rfl, HB.out⟩
/-- Is this the journal's file, by its size and generation? -/
def soundB (b : List UInt8) (j : JP) : Bool := decide (b.length = j.text.length ∧ 18 ≤ b.length ∧ numB (part b 3 7) = j.gen)
theorem part_next {l : List UInt8} {p k : Nat} {c : UInt8} (h : l[p + k]? = some c) : part l p (k + 1) = part l p k ++ [c] := by
  unfold part
  rw [List.take_add_one, List.getElem?_drop, h]
  rfl
theorem numB_bd (l : List UInt8) (p k : Nat) (hk : k ≤ 6) : numB (part l p k) < 281474976710656 := by
  have h := numB_lt (part l p k)
  have hl : (part l p k).length ≤ 6 := by unfold part; rw [List.length_take]; omega
  exact Nat.lt_of_lt_of_le h (Nat.le_trans (Nat.pow_le_pow_right (by omega) hl) (by omega))
set_option maxRecDepth 100000 in
set_option maxHeartbeats 800000 in
theorem sound_any {w : World} {jg : Nat} {j : JP} {A : Option Addr} {n cap : Nat} {b : List UInt8} (hj : PJAt w jg j) (hr : RdB w w.heap.size A n b) (hn : n ≤ 140737488355328) :
    Calls Tryd.prog 78 #[.slice A n cap, .pointer (some ⟨jg, 0, none⟩)] w fun e w' => e = .returned (.bool (soundB b j)) ∧ w = w' := by
  have hlb := hr.lenB
  obtain ⟨t, ht⟩ : ∃ t, t = soundB b j := ⟨_, rfl⟩
  rw [← ht]
  have HTT := Lib.hid ht
  have HSZ := Lib.hid (Size_c hj)
  have HGE := Lib.hid (Generation_c hj)
  have HR := Lib.hid hr
  have HLB := Lib.hid hlb
  clear ht hj hr hlb
  by_cases h1 : n = j.text.length
  · by_cases h2 : 18 ≤ n
    · have b1 : ((n : Int) == ((j.text.length : Nat) : Int)) = true := by rw [h1]; simp
      have b1' : ((n : Int) != ((j.text.length : Nat) : Int)) = false := by rw [h1]; simp
      have H1 := Lib.hid h1
      clear h1
      go_enter Tryd.func78, Tryd.ntmps78
      go_wp2_with (go_at_call 22; refine HSZ.out.mono ?_; rintro _ _ ⟨rfl, rfl⟩)
      go_loop [5, 6] (fun g i => ∃ k : Nat, k ≤ 7 ∧ i = .int .i64 ((3 + k : Nat) : Int) ∧ g = .int .i64 ((numB (part b 3 k) : Nat) : Int)) (fun _ i => 10 - (intOf i).toNat)
      case atStart => exact ⟨0, by omega, rfl, by simp [part, numB]⟩
      case round =>
        obtain ⟨k, hk, rfl, rfl⟩ := hrel
        by_cases hlt : k < 7
        · obtain ⟨g, off, c, rfl, hbb, hcx, hcell⟩ := HR.out.byte (k := 3 + k) (by omega)
          have hnx := numB_snoc (part b 3 k) c
          rw [← part_next hcx] at hnx
          have HNX := Lib.hid hnx
          have hc8 := c.toNat_lt
          have hbd := numB_bd b 3 k (by omega)
          have hcell' : w.cell? ⟨g, off + (3 + k), none⟩ = some (.int .u8 (c.toNat : Int)) := hcell
          have hI : ((3 + k : Nat) : Int) < 10 := by omega
          have hI2 : ((3 + k : Nat) : Int) < (n : Int) := by omega
          clear hnx hcx hcell
          generalize numB (part b 3 k) = x at HNX hbd ⊢
          go_wp2
          go_round
          case rel => exact ⟨k + 1, by omega, congrArg (Value.int .i64) (by omega), by rw [HNX.out]; exact congrArg (Value.int .i64) (by omega)⟩
          case measure => simp [intOf] <;> omega
        · obtain rfl : k = 7 := by omega
          by_cases hg : numB (part b 3 7) = j.gen
          · have b3 : (((numB (part b 3 7) : Nat) : Int) == ((j.gen : Nat) : Int)) = true := by rw [hg]; simp
            have ht : t = true := by rw [HTT.out]; unfold soundB; rw [HLB.out]; simp [H1.out, hg]; rw [← H1.out]; exact h2
            subst ht
            clear hg
            go_wp2_with (go_at_call 24; refine HGE.out.mono ?_; rintro _ _ ⟨rfl, rfl⟩)
            go_ret
            exact ⟨rfl, rfl⟩
          · have b3 : (((numB (part b 3 7) : Nat) : Int) == ((j.gen : Nat) : Int)) = false := by simp only [beq_eq_false_iff_ne, ne_eq]; omega
            have ht : t = false := by rw [HTT.out]; unfold soundB; simp [hg]
            subst ht
            clear hg
            go_wp2_with (go_at_call 24; refine HGE.out.mono ?_; rintro _ _ ⟨rfl, rfl⟩)
            go_ret
            exact ⟨rfl, rfl⟩
    · have b1 : ((n : Int) == ((j.text.length : Nat) : Int)) = true := by rw [h1]; simp
      have b1' : ((n : Int) != ((j.text.length : Nat) : Int)) = false := by rw [h1]; simp
      have d2 : (n : Int) < 18 := by omega
      have htf : t = false := by rw [HTT.out]; unfold soundB; rw [HLB.out]; simp; omega
      rw [htf]
      clear htf h1 HTT
      go_enter Tryd.func78, Tryd.ntmps78
      go_wp2_with (go_at_call 22; refine HSZ.out.mono ?_; rintro _ _ ⟨rfl, rfl⟩)
      go_ret
      exact ⟨rfl, rfl⟩
  · have b1' : ((n : Int) != ((j.text.length : Nat) : Int)) = true := by simp only [bne_iff_ne, ne_eq]; omega
    have htf : t = false := by rw [HTT.out]; unfold soundB; rw [HLB.out]; simp [h1]
    rw [htf]
    clear htf h1 HTT
    go_enter Tryd.func78, Tryd.ntmps78
    go_wp2_with (go_at_call 22; refine HSZ.out.mono ?_; rintro _ _ ⟨rfl, rfl⟩)
    go_ret
    exact ⟨rfl, rfl⟩
end Go.Proofs.YtpkdalpjfcopbaaDoor
