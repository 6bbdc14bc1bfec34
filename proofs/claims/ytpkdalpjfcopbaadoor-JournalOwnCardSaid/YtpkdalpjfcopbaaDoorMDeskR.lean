/-
  The outright laws' desk: reopened. And: The outright laws' desk: makes, fresh, reopened. And: The outright laws' helpers: copied, reads, good, sound.
-/
import Derived.Test.YtpkdalpjfcopbaaDoorMDesk
namespace Go.Proofs.YtpkdalpjfcopbaaDoor
open Go.RowKit
theorem own_bare {w : World} {base : Nat} (e : TypeId) (size : Nat) (hb : base ≤ w.heap.size) : (w.alloc (.cells #[] e)).ownsRow base e size (.slice (some ⟨w.heap.size, 0, none⟩) 0 0) 0 [] :=
  ⟨by simp, .inr ⟨w.heap.size, 0, #[], rfl, hb, Blk.new _ _ _, by omega, by simp [maxLen], by simp, by simp⟩⟩
set_option maxRecDepth 100000 in
set_option maxHeartbeats 1600000 in
theorem copied_any {w : World} (kd : Int) (A : Option Addr) (n cap : Nat) (body : List UInt8) (hr : RdB w w.heap.size A n body) (hn : n ≤ 140737488355328) :
    Calls Tryd.prog 34 #[.agg #[.int .i64 kd, .slice A n cap]] w fun e w' => ∃ A' c', e = .returned (.agg #[.int .i64 kd, .slice A' n c']) ∧ w'.ownsRow w.heap.size 5 1 (.slice A' n c') n (bvs body) ∧ Below w.heap.size w w' := by
  obtain ⟨i0, hi0, hz0, hz1, hz2⟩ := info_parts info_u8
  obtain ⟨w1, hw1⟩ : ∃ w1, w1 = w.alloc (.cells #[.int .i64 kd, .slice A n cap] 34) := ⟨_, rfl⟩
  have hb1 : Below w.heap.size w w1 := by rw [hw1]; exact one_box' _ _
  have hR1 : Blk w1 w.heap.size 34 #[.int .i64 kd, .slice A n cap] := by rw [hw1]; exact Blk.new _ _ _
  have hz1' : w1.heap.size = w.heap.size + 1 := by rw [hw1]; simp
  obtain ⟨w2, hw2⟩ : ∃ x, x = w1.alloc (.cells #[.int .i64 0, .slice none 0 0] 34) := ⟨_, rfl⟩
  have hb2 : Below w1.heap.size w1 w2 := by rw [hw2]; exact one_box' _ _
  have hR2 : Blk w2 (w.heap.size + 1) 34 #[.int .i64 0, .slice none 0 0] := by rw [hw2, ← hz1']; exact Blk.new _ _ _
  obtain ⟨wd, hwd⟩ : ∃ x, x = w2.drew := ⟨_, rfl⟩
  have hbd : Below w2.heap.size w2 wd := by rw [hwd]; exact below_drewN (Below.refl _ _) 1
  have hbD := Below.then (Below.then hb1 hb2) hbd
  have HX := Lib.hid ((hR1.over hb2).over hbd)
  have HR := Lib.hid (hR2.over hbd)
  have HRR : Hid (∀ W, Below w.heap.size w W → RdB W w.heap.size A n body) := Lib.hid fun W hW => hr.below hW
  have HB := Lib.hid hbD
  have HW := Lib.hid (And.intro hw1 (And.intro hw2 hz1'))
  have HWD := Lib.hid hwd
  have HSB : Hid (∀ W, Below wd.heap.size wd W → W.cell? ⟨w.heap.size, 0, none⟩ = some (.int .i64 kd) ∧ W.cell? ⟨w.heap.size, 1, none⟩ = some (.slice A n cap)) := Lib.hid fun W hW => ⟨(HX.out.over hW).cell 0, (HX.out.over hW).cell 1⟩
  clear hw1 hb1 hR1 hz1' hw2 hb2 hR2 hwd hbd hbD hr
  go_enter Tryd.func34, Tryd.ntmps34
  go_upto_region 1 with fail
  rw [← HW.out.1, ← HW.out.2.1]
  try rw [HW.out.2.2]
  refine wp_region_held_drew (S := fun W => W.cell? ⟨w.heap.size, 0, none⟩ = some (.int .i64 kd) ∧ W.cell? ⟨w.heap.size, 1, none⟩ = some (.slice A n cap)) (by kernel_rfl) (by rw [← HWD.out]; exact HSB.out _ (Below.refl _ _)) (fun hsw => ?_)
  rw [← HWD.out] at hsw ⊢
  refine wpAnyH_take (i := 0) (oi := ?oi0a) (v := ?v0a) ?hi0a (by kernel_rfl) (by kernel_rfl) (by kernel_rfl) ?hq0a ?hy0a (by assumption) ?rest0a
  case hi0a => (simp only [List.getElem?_toArray, List.getElem?_cons_zero]; rfl)
  case hy0a => (refine Or.inl ⟨by rfl, ?_⟩; intro w hSw; (try dsimp only at hSw); go_simp; try with_reducible rfl)
  case hq0a => exact fun _ _ _ h => h
  try simp only [Act.put, List.setIfInBounds_toArray, List.set_cons_zero, List.set_cons_succ]
  refine wpAnyH_take (i := 1) (oi := ?oi1a) (v := ?v1a) ?hi1a (by kernel_rfl) (by kernel_rfl) (by kernel_rfl) ?hq1a ?hy1a (by assumption) ?rest1a
  case hi1a => (simp only [List.getElem?_toArray, List.getElem?_cons_zero, List.getElem?_cons_succ]; rfl)
  case hy1a => (refine Or.inl ⟨by rfl, ?_⟩; intro w hSw; (try dsimp only at hSw); go_simp; try with_reducible rfl)
  case hq1a => exact fun _ _ _ h => h
  try simp only [Act.put, List.setIfInBounds_toArray, List.set_cons_zero, List.set_cons_succ]
  refine wpAnyH_take (i := 3) (oi := ?oi3a) (v := ?v3a) ?hi3a (by kernel_rfl) (by kernel_rfl) (by kernel_rfl) ?hq3a ?hy3a (by assumption) ?rest3a
  case hi3a => (simp only [List.getElem?_toArray, List.getElem?_cons_zero, List.getElem?_cons_succ]; rfl)
  case hy3a => (refine Or.inl ⟨by rfl, ?_⟩; intro w hSw; (try dsimp only at hSw); go_simp; try with_reducible rfl)
  case hq3a => exact fun _ _ _ h => h
  try simp only [Act.put, List.setIfInBounds_toArray, List.set_cons_zero, List.set_cons_succ]
  refine wpAnyH_take (i := 4) (oi := ?oi4a) (v := ?v4a) ?hi4a (by kernel_rfl) (by kernel_rfl) (by kernel_rfl) ?hq4a ?hy4a (by assumption) ?rest4a
  case hi4a => (simp only [List.getElem?_toArray, List.getElem?_cons_zero, List.getElem?_cons_succ]; rfl)
  case hy4a => (refine Or.inl ⟨by rfl, ?_⟩; intro w hSw; (try dsimp only at hSw); go_simp; try with_reducible rfl)
  case hq4a => exact fun _ _ _ h => h
  try simp only [Act.put, List.setIfInBounds_toArray, List.set_cons_zero, List.set_cons_succ]
  refine wpAnyH_ready (rs := [2]) (by kernel_rfl) (by simp) ?_
  refine AllReadyH.cons (o := ?o2b) ?ho2b (fun K hK => ?st2b) ?mo2b
  case ho2b => (simp only [List.getElem?_toArray, List.getElem?_cons_zero, List.getElem?_cons_succ]; rfl)
  · skip
    obtain ⟨w4, hw4⟩ : ∃ x, x = wd.alloc (.cells #[] 5) := ⟨_, rfl⟩
    have hb4 : Below wd.heap.size wd w4 := by rw [hw4]; exact one_box' _ _
    have ho4 : w4.ownsRow wd.heap.size 5 1 (.slice (some ⟨wd.heap.size, 0, none⟩) 0 0) 0 [] := by rw [hw4]; exact own_bare _ _ (Nat.le_refl _)
    have H4 := Lib.hid (And.intro hb4 ho4)
    go_simp
    rw [← hw4]
    clear hw4 hb4 ho4
    refine hK.out _ _ (HSB.out _ H4.out.1) (fun _ => ?_)
    clear hK K
    try simp only [Act.put, List.setIfInBounds_toArray, List.set_cons_zero, List.set_cons_succ]
    refine wpAnyH_ready (rs := [5]) (by kernel_rfl) (by simp) ?_
    refine AllReadyH.cons (o := ?o5c) ?ho5c (fun K hK => ?st5c) ?mo5c
    case ho5c => (simp only [List.getElem?_toArray, List.getElem?_cons_zero, List.getElem?_cons_succ]; rfl)
    · skip
      refine step_append_any _ (by rfl) _ _ 22 (by rfl) wd.heap.size 5 i0 _ 1 1 u_bytes hi0 hz0 hz1 hz2 rfl (by omega) _ 0 [] (by rfl) H4.out.2 w.heap.size A n cap (bvs body) (by rfl) (HRR.out _ (HB.out.trans (H4.out.1.mono HB.out.size))) (bvs_one _) (by simp only [maxLen]; omega) (by omega) H4.out.1.size ?_
      intro v5 w5 ho5 hg5 _
      rw [Nat.zero_add, List.nil_append] at ho5
      obtain ⟨A5, c5, rfl, _, _⟩ := own_shape ho5
      have hb5 : Below wd.heap.size wd w5 := H4.out.1.trans (below_app H4.out.2 hg5 H4.out.1.size)
      have H5 := Lib.hid (And.intro ho5 hb5)
      clear ho5 hg5 hb5
      refine hK.out _ _ (HSB.out _ H5.out.2) (fun _ => ?_)
      clear hK K
      try simp only [Act.put, List.setIfInBounds_toArray, List.set_cons_zero, List.set_cons_succ]
      refine wpAnyH_take (i := 6) (oi := ?oi6d) (v := ?v6d) ?hi6d (by kernel_rfl) (by kernel_rfl) (by kernel_rfl) ?hq6d ?hy6d (by assumption) ?rest6d
      case hi6d => (simp only [List.getElem?_toArray, List.getElem?_cons_zero, List.getElem?_cons_succ]; rfl)
      case hy6d => (refine Or.inl ⟨by rfl, ?_⟩; intro w hSw; (try dsimp only at hSw); go_simp; try with_reducible rfl)
      case hq6d => exact fun _ _ _ h => h
      try simp only [Act.put, List.setIfInBounds_toArray, List.set_cons_zero, List.set_cons_succ]
      refine wpAnyH_ready (rs := [7]) (by kernel_rfl) (by simp) ?_
      refine AllReadyH.cons (o := ?o7e) ?ho7e (fun K hK => ?st7e) ?mo7e
      case ho7e => (simp only [List.getElem?_toArray, List.getElem?_cons_zero, List.getElem?_cons_succ]; rfl)
      · skip
        have hR5 := HR.out.over H5.out.2
        have r0 := hR5.cell 0
        have r1 := hR5.cell 1
        have q0 := hR5.frozen 0
        have q1 := hR5.frozen 1
        have hcs := two_sets' w5 (w.heap.size + 1) (.int .i64 kd) (.slice A5 n c5)
        have HX6 := Lib.hid ((HX.out.over H5.out.2).chg hcs (by omega))
        have HR6 := Lib.hid ((hR5.set_ 0 (.int .i64 kd)).set_ 1 (.slice A5 n c5))
        have ho6 := own_chg H5.out.1 hcs fun g hg e => by
          subst e
          exact absurd ((own_isT H5.out.1 hg).eq_ hR5.isT) (by decide)
        have hb6 := (HB.out.trans (H5.out.2.mono HB.out.size)).trans (hcs.to_below (Nat.le_trans HB.out.size H5.out.2.size) fun k e => by omega)
        have H6 := Lib.hid (And.intro (own_base ho6 HB.out.size) hb6)
        have hS6 := And.intro (HX6.out.cell 0) (HX6.out.cell 1)
        clear hR5 hcs ho6 hb6
        go_simp
        refine hK.out _ _ hS6 (fun _ => ?_)
        clear hK K
        refine wpAnyH_done (by kernel_rfl) ?_ _
        generalize (w5.setCell ⟨w.heap.size + 1, 0, none⟩ (.int .i64 kd)).setCell ⟨w.heap.size + 1, 1, none⟩ (.slice A5 n c5) = w6 at HX6 HR6 H6 hS6 ⊢
        have y0 : w6.cell? ⟨w.heap.size + 1, 0, none⟩ = some (.int .i64 kd) := HR6.out.cell 0
        have y1 : w6.cell? ⟨w.heap.size + 1, 1, none⟩ = some (.slice A5 n c5) := HR6.out.cell 1
        clear r0 r1 q0 q1
        go_wp2_with fail
        exact bodyPost_ret (v := .agg #[.int .i64 kd, .slice A5 n c5]) (by simp [results, Tryd.results34, y0, y1, go_sem]) rfl ⟨A5, c5, rfl, H6.out.1, H6.out.2⟩
      exact AllReadyH.nil
    exact AllReadyH.nil
  exact AllReadyH.nil
set_option maxRecDepth 100000 in
set_option maxHeartbeats 800000 in
theorem reads_any {w : World} {f : Fls} {A0 A1 Ab : Option Addr} {c0 c1 cb : Nat} {j : JP} {recs : List Rc} {ws : List Wr} (h0 : RdB w w.heap.size A0 f.a.length f.a) (h1 : RdB w w.heap.size A1 f.b.length f.b) (n0 : f.a.length ≤ c0) (n1 : f.b.length ≤ c1) (m0 : c0 ≤ 9223372036854775807) (m1 : c1 ≤ 9223372036854775807)
    (hb : RcRd w (fun _ => False) Ab recs.length recs) (ho : openR f = .ok j recs ws) (ht : Nibs w) :
    Calls Tryd.prog 32 #[.agg #[.slice A0 f.a.length c0, .slice A1 f.b.length c1], .slice Ab recs.length cb] w fun e w' => e = .returned (.bool true) ∧ Below w.heap.size w w' := by
  obtain ⟨w1, hw1⟩ : ∃ w1, w1 = w.alloc (.cells #[.slice A0 f.a.length c0, .slice A1 f.b.length c1] 24) := ⟨_, rfl⟩
  have hb1 : Below w.heap.size w w1 := by rw [hw1]; exact one_box' _ _
  have hX1 : Blk w1 w.heap.size 24 #[.slice A0 f.a.length c0, .slice A1 f.b.length c1] := by rw [hw1]; exact Blk.new _ _ _
  have HOP := Lib.hid (Open_any (w := w1) (f := f) (c0 := c0) (c1 := c1) ((h0.below hb1).more hb1.size) ((h1.below hb1).more hb1.size) n0 n1 m0 m1 (ht.below hb1))
  rw [ho] at HOP
  have x0 : w1.cell? ⟨w.heap.size, 0, none⟩ = some (.slice A0 f.a.length c0) := hX1.cell 0
  have x1 : w1.cell? ⟨w.heap.size, 1, none⟩ = some (.slice A1 f.b.length c1) := hX1.cell 1
  have hlen : recs.length ≤ 65536 := by
    obtain ⟨hf, he⟩ := openR_fine ho
    have h2 := hf.len
    have h3 : j.text.length = 18 + bodies j.recs := textB_length _ _ _
    have h4 := bodies_le recs
    rw [← he] at h3
    omega
  have HW := Lib.hid hw1
  have HB := Lib.hid hb1
  have HBK := Lib.hid (hb.below hb1)
  clear hw1 hb1 hX1 h0 h1 ho ht hb
  go_enter Tryd.func32, Tryd.ntmps32
  go_upto_region 1 with fail
  rw [← HW.out]
  go_upto_region 2 with (go_at_call 17; refine HOP.out.mono ?_; rintro _ w2 ⟨hb2, jg, vl, vw, Kp, rfl, hj1, hj2, hj3, hj4, hj5⟩; obtain ⟨Al, cl, rfl⟩ := hj4.shapeN hj3; have H2 := Lib.hid hb2; have HR2 := Lib.hid (hj4.rdN hj3); clear hb2 hj1 hj2 hj3 hj4 hj5)
  have HRY := Lib.hid (records_yes (c1 := cl) (c2 := cb) HR2.out (HBK.out.below H2.out) (by omega))
  go_wp2_with (go_at_call 14; refine HRY.out.mono ?_; rintro _ w3 ⟨rfl, hb3⟩; have H3 := Lib.hid hb3; clear hb3)
  go_ret
  exact ⟨rfl, Below.then (Below.then HB.out H2.out) H3.out⟩
set_option maxRecDepth 100000 in
theorem good_any (kd : Int) (A : Option Addr) (n cap : Nat) (w : World) (hn : n ≤ 9223372036854775807) : Calls Tryd.prog 64 #[.agg #[.int .i64 kd, .slice A n cap]] w fun e w' => e = .returned (.bool (okB kd n)) ∧ Below w.heap.size w w' := by
  have hb := one_box' w (.cells #[.int .i64 kd, .slice A n cap] 34)
  have HB := Lib.hid hb
  clear hb
  obtain ⟨b, hb⟩ : ∃ b, b = okB kd n := ⟨_, rfl⟩
  have hb2 := hb
  unfold okB at hb2
  rw [← hb]
  by_cases h1 : 1 ≤ kd
  · have d1 : decide (1 ≤ kd) = true := by simpa using h1
    by_cases h2 : kd ≤ 4
    · have d2 : decide (kd ≤ 4) = true := by simpa using h2
      by_cases h3 : n ≤ 4200
      · have e : b = true := by rw [hb2]; simp [h1, h2, h3]
        have h3i : (n : Int) ≤ 4200 := by omega
        rw [e]
        clear hb hb2 e
        go_enter Tryd.func64, Tryd.ntmps64
        go_wp2
        go_ret
        exact ⟨rfl, HB.out⟩
      · have e : b = false := by rw [hb2]; simp [h3]
        have h3i : ¬ (n : Int) ≤ 4200 := by omega
        have d3 : decide ((n : Int) ≤ 4200) = false := by simpa using h3i
        rw [e]
        clear hb hb2 e
        go_enter Tryd.func64, Tryd.ntmps64
        go_wp2
        go_ret
        exact ⟨rfl, HB.out⟩
    · have e : b = false := by rw [hb2]; simp [h2]
      have d2 : decide (kd ≤ 4) = false := by simpa using h2
      rw [e]
      clear hb hb2 e
      go_enter Tryd.func64, Tryd.ntmps64
      go_wp2
      go_ret
      exact ⟨rfl, HB.out⟩
  · have e : b = false := by rw [hb2]; simp [h1]
    have d1 : decide (1 ≤ kd) = false := by simpa using h1
    rw [e]
    clear hb hb2 e
    go_enter Tryd.func64, Tryd.ntmps64
    go_wp2
    go_ret
    exact ⟨rfl, HB.out⟩
/-- Is this the journal's file, by its size and generation? -/
def soundB (b : List UInt8) (j : JP) : Bool := decide (b.length = j.text.length ∧ 18 ≤ b.length ∧ numB (part b 3 7) = j.gen)
theorem part_next {l : List UInt8} {p k : Nat} {c : UInt8} (h : l[p + k]? = some c) : part l p (k + 1) = part l p k ++ [c] := by
  unfold part
  rw [List.take_add_one, List.getElem?_drop, h]
  rfl
theorem numB_bd (l : List UInt8) (p k : Nat) (hk : k ≤ 6) : numB (part l p k) < 281474976710656 := by
  have h := numB_lt (part l p k)
  have hl : (part l p k).length ≤ 6 := by unfold part; rw [List.length_take]; omega
  exact Nat.lt_of_lt_of_le h (Nat.le_trans (Nat.pow_le_pow_right (by omega) hl) (by omega))
set_option maxRecDepth 100000 in
set_option maxHeartbeats 800000 in
theorem sound_any {w : World} {jg : Nat} {j : JP} {A : Option Addr} {n cap : Nat} {b : List UInt8} (hj : PJAt w jg j) (hr : RdB w w.heap.size A n b) (hn : n ≤ 140737488355328) :
    Calls Tryd.prog 78 #[.slice A n cap, .pointer (some ⟨jg, 0, none⟩)] w fun e w' => e = .returned (.bool (soundB b j)) ∧ w = w' := by
  have hlb := hr.lenB
  obtain ⟨t, ht⟩ : ∃ t, t = soundB b j := ⟨_, rfl⟩
  rw [← ht]
  have HTT := Lib.hid ht
  have HSZ := Lib.hid (Size_c hj)
  have HGE := Lib.hid (Generation_c hj)
  have HR := Lib.hid hr
  have HLB := Lib.hid hlb
  clear ht hj hr hlb
  by_cases h1 : n = j.text.length
  · by_cases h2 : 18 ≤ n
    · have b1 : ((n : Int) == ((j.text.length : Nat) : Int)) = true := by rw [h1]; simp
      have b1' : ((n : Int) != ((j.text.length : Nat) : Int)) = false := by rw [h1]; simp
      have H1 := Lib.hid h1
      clear h1
      go_enter Tryd.func78, Tryd.ntmps78
      go_wp2_with (go_at_call 22; refine HSZ.out.mono ?_; rintro _ _ ⟨rfl, rfl⟩)
      go_loop [5, 6] (fun g i => ∃ k : Nat, k ≤ 7 ∧ i = .int .i64 ((3 + k : Nat) : Int) ∧ g = .int .i64 ((numB (part b 3 k) : Nat) : Int)) (fun _ i => 10 - (intOf i).toNat)
      case atStart => exact ⟨0, by omega, rfl, by simp [part, numB]⟩
      case round =>
        obtain ⟨k, hk, rfl, rfl⟩ := hrel
        by_cases hlt : k < 7
        · obtain ⟨g, off, c, rfl, hbb, hcx, hcell⟩ := HR.out.byte (k := 3 + k) (by omega)
          have hnx := numB_snoc (part b 3 k) c
          rw [← part_next hcx] at hnx
          have HNX := Lib.hid hnx
          have hc8 := c.toNat_lt
          have hbd := numB_bd b 3 k (by omega)
          have hcell' : w.cell? ⟨g, off + (3 + k), none⟩ = some (.int .u8 (c.toNat : Int)) := hcell
          have hI : ((3 + k : Nat) : Int) < 10 := by omega
          have hI2 : ((3 + k : Nat) : Int) < (n : Int) := by omega
          clear hnx hcx hcell
          generalize numB (part b 3 k) = x at HNX hbd ⊢
          go_wp2
          go_round
          case rel => exact ⟨k + 1, by omega, congrArg (Value.int .i64) (by omega), by rw [HNX.out]; exact congrArg (Value.int .i64) (by omega)⟩
          case measure => simp [intOf] <;> omega
        · obtain rfl : k = 7 := by omega
          by_cases hg : numB (part b 3 7) = j.gen
          · have b3 : (((numB (part b 3 7) : Nat) : Int) == ((j.gen : Nat) : Int)) = true := by rw [hg]; simp
            have ht : t = true := by rw [HTT.out]; unfold soundB; rw [HLB.out]; simp [H1.out, hg]; rw [← H1.out]; exact h2
            subst ht
            clear hg
            go_wp2_with (go_at_call 24; refine HGE.out.mono ?_; rintro _ _ ⟨rfl, rfl⟩)
            go_ret
            exact ⟨rfl, rfl⟩
          · have b3 : (((numB (part b 3 7) : Nat) : Int) == ((j.gen : Nat) : Int)) = false := by simp only [beq_eq_false_iff_ne, ne_eq]; omega
            have ht : t = false := by rw [HTT.out]; unfold soundB; simp [hg]
            subst ht
            clear hg
            go_wp2_with (go_at_call 24; refine HGE.out.mono ?_; rintro _ _ ⟨rfl, rfl⟩)
            go_ret
            exact ⟨rfl, rfl⟩
    · have b1 : ((n : Int) == ((j.text.length : Nat) : Int)) = true := by rw [h1]; simp
      have b1' : ((n : Int) != ((j.text.length : Nat) : Int)) = false := by rw [h1]; simp
      have d2 : (n : Int) < 18 := by omega
      have htf : t = false := by rw [HTT.out]; unfold soundB; rw [HLB.out]; simp; omega
      rw [htf]
      clear htf h1 HTT
      go_enter Tryd.func78, Tryd.ntmps78
      go_wp2_with (go_at_call 22; refine HSZ.out.mono ?_; rintro _ _ ⟨rfl, rfl⟩)
      go_ret
      exact ⟨rfl, rfl⟩
  · have b1' : ((n : Int) != ((j.text.length : Nat) : Int)) = true := by simp only [bne_iff_ne, ne_eq]; omega
    have htf : t = false := by rw [HTT.out]; unfold soundB; rw [HLB.out]; simp [h1]
    rw [htf]
    clear htf h1 HTT
    go_enter Tryd.func78, Tryd.ntmps78
    go_wp2_with (go_at_call 22; refine HSZ.out.mono ?_; rintro _ _ ⟨rfl, rfl⟩)
    go_ret
    exact ⟨rfl, rfl⟩
end Go.Proofs.YtpkdalpjfcopbaaDoor
namespace Go.Proofs.YtpkdalpjfcopbaaDoor
open Go.RowKit
theorem WOut.desk {w w' : World} {base tg t : Nat} {v : Value} {ws : List Wr} {cs : Array Value} (h : WOut w base v ws) (hB : Blk w tg t cs) (h1 : t ≠ 94) (h2 : t ≠ 5) (hc : Chg (fun k => k = tg) w w') : WOut w' base v ws := by
  rcases h with h | ⟨x, g1, A, cap, e1, e2, h3, hW, h4⟩
  · exact .inl h
  · refine .inr ⟨x, g1, A, cap, e1, e2, h3, hW.chg hc fun e => hW.ne_ hB h1.symm e, h4.chg hc fun g o e e2 => ?_⟩
    obtain ⟨g', o', cur, e3, _, hB'⟩ := h4.lt
    rw [e] at e3
    injection e3 with e3
    injection e3 with e3 _
    subst e3
    exact hB'.ne_ hB h2.symm e2
theorem open_costD {f : Fls} {j : JP} {recs : List Rc} {ws : List Wr} (h : openR f = .ok j recs ws) : costW ws ≤ 65537 := by
  have hf := (openR_fine h).1
  unfold openR at h
  have one : ∀ x : Wr, x.bs.length ≤ 65536 → costW [x] ≤ 65537 := fun x hx => by
    unfold costW Wr.cost
    simp only [List.map_cons, List.map_nil, List.sum_cons, List.sum_nil]
    repeat' split
    all_goals omega
  split at h
  · split at h
    · injection h with h1 h2 h3
      subst h3
      exact one _ (by simp [headB_length])
    · cases h
  · split at h
    · injection h with h1 h2 h3
      subst h3
      simp [costW]
    · split at h
      · cases h
      · injection h with h1 h2 h3
        subst h1 h2 h3
        exact one _ hf.len
theorem Desk.of_good {f : Fls} {j : JP} (h : Good f j) : openR f = .ok j j.recs [] := by
  have hp := h.half.pick
  unfold openR
  rw [hp]
  dsimp only
  rw [if_pos (by show j.fi.fin = (f.nth j.file).length; rw [h.text]; rfl)]
  rfl
theorem lastF_take {ws : List Wr} {k : Nat} {x : Wr} (h : ws[k]? = some x) (a : Int) : lastF (ws.take (k + 1)) a = if x.start = true then x.file else lastF (ws.take k) a := by
  rw [List.take_add_one, h]
  simp [lastF, List.foldl_append]
set_option maxRecDepth 100000 in
set_option maxHeartbeats 1600000 in
theorem dmakes_any {w : World} {tg jg : Nat} {A0 A1 : Option Addr} {c0 c1 : Nat} {vb : Value} {K : List Rk} {j : JP} {f : Fls} {file : Int} (h : DAt w tg jg A0 c0 A1 c1 vb K j f file) {Aw : Option Addr} {n cap base : Nat} {ws : List Wr} (hw : WOut w base (.slice Aw n cap) ws) (hc : costW ws ≤ 4398046511104)
    (hl : f.a.length + f.b.length ≤ 4398046511104) (k : Int) :
    Calls Tryd.prog 63 #[.pointer (some ⟨tg, 0, none⟩), .slice Aw n cap, .int .i64 k] w fun e w' => e = .returned (.tuple #[]) ∧ (∃ B0 e0 B1 e1, DAt w' tg jg B0 e0 B1 e1 vb K j (apD ws k f) (lastF ws file)) ∧ Chg (fun i => i = tg) w w' := by
  have hnl := hw.wsN.len
  have hn1 := hw.few
  have p1 : w.cell? ⟨tg, 1, none⟩ = some (.slice A0 f.a.length c0) := h.blk.cell 1
  have p2 : w.cell? ⟨tg, 2, none⟩ = some (.slice A1 f.b.length c1) := h.blk.cell 2
  have HAP := Lib.hid (PApply_any (w := w) Aw n cap ws A0 A1 c0 c1 f k hw.wsN hc (by omega) (Rd.of_own h.o0) (Rd.of_own h.o1) (by omega) (by omega))
  rw [apply_same] at HAP
  have H := Lib.hid h
  have HW := Lib.hid hw
  have HNL := Lib.hid hnl
  have hn2 : n ≤ 1 := by omega
  clear h hw hnl hn1
  go_enter Tryd.func63, Tryd.ntmps63
  go_upto_region 1 with (go_at_call 37; refine HAP.out.mono ?_; rintro _ w2 ⟨B0, e0, B1, e1, rfl, o0, o1, hap, hb⟩; have H2 := Lib.hid (And.intro o0 (And.intro o1 hb)); have q1 := ((H.out.over hb).blk.frozen 1); have q2 := ((H.out.over hb).blk.frozen 2); have r1 : w2.cell? ⟨tg, 1, none⟩ = some (.slice A0 f.a.length c0) := (H.out.over hb).blk.cell 1; have r2 : w2.cell? ⟨tg, 2, none⟩ = some (.slice A1 f.b.length c1) := (H.out.over hb).blk.cell 2; clear o0 o1 hap hb)
  have HD := Lib.hid (H.out.disk H2.out.2.2 H2.out.1 H2.out.2.1)
  generalize (w2.setCell ⟨tg, 1, none⟩ (.slice B0 (apD ws k f).a.length e0)).setCell ⟨tg, 2, none⟩ (.slice B1 (apD ws k f).b.length e1) = w3 at HD ⊢
  have HW3 := Lib.hid (HW.out.desk H.out.blk (by decide) (by decide) HD.out.2)
  have HT : Hid (DAt w3 tg jg B0 e0 B1 e1 vb K j (apD ws k f) (lastF (ws.take 0) file)) := Lib.hid HD.out.1
  have HC : Hid (Chg (fun i => i = tg) w3 w3) := Lib.hid (Chg.refl _ _)
  clear p1 p2 q1 q2 r1 r2
  go_wp2_with fail
  go_loopw [6] (fun i wr => ∃ m : Nat, m ≤ n ∧ i = .int .i64 (m : Int) ∧ Hid (DAt wr tg jg B0 e0 B1 e1 vb K j (apD ws k f) (lastF (ws.take m) file)) ∧ Hid (Chg (fun i => i = tg) w3 wr)) (fun i _ => n - (intOf i).toNat)
  case atStart => exact ⟨0, by omega, rfl, HT, HC⟩
  case round =>
    clear HT HC
    obtain ⟨m, hm, rfl, HT, HC⟩ := hrel
    by_cases hlt : m < n
    · have hI : (m : Int) < (n : Int) := by omega
      obtain ⟨x, hx⟩ : ∃ x, ws[m]? = some x := ⟨ws[m]'(by rw [← HNL.out]; exact hlt), List.getElem?_eq_getElem _⟩
      obtain ⟨g, o, bA, bc, rfl, hg, x0, x1, x2, _⟩ := (HW3.out.desk HD.out.1.blk (by decide) (by decide) HC.out).wsN.at_ m x hx
      have HL := Lib.hid (lastF_take hx file)
      have z4 : wr.cell? ⟨tg, 4, none⟩ = some (.int .i64 (lastF (ws.take m) file)) := HT.out.blk.cell 4
      have zf := HT.out.blk.frozen 4
      clear hx x2
      by_cases hs : x.start = true
      · rw [hs] at x1
        have HF := Lib.hid (HT.out.filed x.file)
        have HS := Lib.hid hs
        clear hs
        go_wp2_with fail
        go_roundw
        case rel =>
          refine ⟨m + 1, by omega, by go_num, Lib.hid ?_, Lib.hid (HC.out.trans HF.out.2)⟩
          rw [HL.out, if_pos HS.out]
          exact HF.out.1
        case measure => simp [intOf] <;> omega
      · have hs2 : x.start = false := by simpa using hs
        rw [hs2] at x1
        have HS := Lib.hid hs
        clear hs hs2
        go_wp2_with fail
        go_roundw
        case rel =>
          refine ⟨m + 1, by omega, by go_num, Lib.hid ?_, HC⟩
          rw [HL.out, if_neg HS.out]
          exact HT.out
        case measure => simp [intOf] <;> omega
    · obtain rfl : m = n := by omega
      have dli : decide ((m : Int) < (m : Int)) = false := by simp
      go_wp2_with fail
      go_end0
      refine ⟨rfl, ⟨B0, e0, B1, e1, ?_⟩, HD.out.2.trans HC.out⟩
      have h1 := HT.out
      rw [List.take_of_length_le (by rw [← HNL.out]; exact Nat.le_refl _)] at h1
      exact h1
set_option maxRecDepth 100000 in
set_option maxHeartbeats 1600000 in
theorem fresh_any {w : World} (ht : Nibs w) :
    Calls Tryd.prog 30 #[] w fun e w' => ∃ tg jg f, e = .returned (.pointer (some ⟨tg, 0, none⟩)) ∧ Desk w' tg jg newJ f ∧ w.heap.size ≤ tg ∧ w.heap.size ≤ jg ∧ Below w.heap.size w w' := by
  have HN := Lib.hid (New_any ht)
  have HT := Lib.hid ht
  clear ht
  go_enter Tryd.func30, Tryd.ntmps30
  go_upto_region 2 with (go_at_call 49; refine HN.out.mono ?_; rintro _ w1 ⟨jg, v1, rfl, hjg, hp1, ho1, hb1⟩; obtain ⟨Aw, cw, rfl⟩ := ho1.shapeN; have H1 := Lib.hid (And.intro hjg (And.intro hp1 (And.intro ho1 hb1))); clear hjg hp1 ho1 hb1)
  have hcost : costW [⟨0, true, headB 1 0⟩] = 19 := by
    have := cost_start (i := 0) (by omega) (headB 1 0)
    rw [headB_length] at this
    exact this
  have HCO := Lib.hid (PCost_any (w := w1) Aw _ cw _ H1.out.2.2.1.wsN (by rw [hcost]; omega) (by simp))
  rw [hcost] at HCO
  clear hcost
  go_upto_region 5 with (go_at_call 36; refine HCO.out.mono ?_; rintro _ w3 ⟨rfl, hb3⟩; have H3 := Lib.hid hb3; clear hb3)
  obtain ⟨w4, hw4⟩ : ∃ w4, w4 = w3.alloc (.cells #[.pointer (some ⟨jg, 0, none⟩), .slice none 0 0, .slice none 0 0, .slice none 0 0, .int .i64 0] 63) := ⟨_, rfl⟩
  rw [← hw4]
  have hb4 : Below w3.heap.size w3 w4 := by rw [hw4]; exact one_box' _ _
  have hB4 : Blk w4 w3.heap.size 63 #[.pointer (some ⟨jg, 0, none⟩), .slice none 0 0, .slice none 0 0, .slice none 0 0, .int .i64 0] := by rw [hw4]; exact Blk.new _ _ _
  have hb14 := Below.then H3.out hb4
  have hD4 : DAt w4 w3.heap.size jg none 0 none 0 (.slice none 0 0) [] newJ ⟨[], []⟩ 0 :=
    ⟨hB4, H1.out.2.1.below hb14, ⟨by simp [bvs], .inl ⟨rfl, rfl⟩⟩, ⟨by simp [bvs], .inl ⟨rfl, rfl⟩⟩, RcB.nil _ _⟩
  have HMK := Lib.hid (dmakes_any (cap := cw) hD4 (H1.out.2.2.1.below hb14) (by have := cost_start (i := 0) (by omega) (headB 1 0); rw [headB_length] at this; exact Nat.le_trans (Nat.le_of_eq this) (by omega)) (by simp) (-1))
  have HB4 : Hid (Below w.heap.size w w4) := Lib.hid (Below.then H1.out.2.2.2 hb14)
  have HS3 : Hid (w.heap.size ≤ w3.heap.size) := Lib.hid (Nat.le_trans H1.out.2.2.2.size H3.out.size)
  have HLF : Hid (lastF [⟨0, true, headB 1 0⟩] 0 = 0) := Lib.hid rfl
  clear hw4 hb4 hB4 hb14 hD4
  go_upto_region 6 with (go_at_call 63; refine HMK.out.mono ?_; rintro _ w5 ⟨rfl, ⟨B0, e0, B1, e1, hp5⟩, hc5⟩; have H5 := Lib.hid (And.intro hp5 hc5); clear hp5 hc5)
  have HG := Lib.hid good_new
  obtain ⟨f, HF⟩ : ∃ f, Hid (apD [⟨0, true, headB 1 0⟩] (-1) ⟨[], []⟩ = f) := ⟨_, Lib.hid rfl⟩
  rw [HF.out] at HG H5
  obtain ⟨l0, l1, m0, m1⟩ := H5.out.1.lens
  simp only [maxLen] at m0 m1
  have HB5 : Hid (Below w.heap.size w w5) := Lib.hid (HB4.out.trans (H5.out.2.to_below HB4.out.size fun k e => by have := HS3.out; omega))
  have HRE := Lib.hid (reads_any (w := w5) (f := f) (Ab := none) (cb := 0) (Rd.of_own H5.out.1.o0) (Rd.of_own H5.out.1.o1) l0 l1 m0 m1 (RcRd.nil none) (Desk.of_good HG.out) (HT.out.below HB5.out))
  have p1 : w5.cell? ⟨w3.heap.size, 1, none⟩ = some (.slice B0 f.a.length e0) := H5.out.1.blk.cell 1
  have p2 : w5.cell? ⟨w3.heap.size, 2, none⟩ = some (.slice B1 f.b.length e1) := H5.out.1.blk.cell 2
  go_wp2_with (go_at_call 32; refine HRE.out.mono ?_; rintro _ w6 ⟨rfl, hb6⟩; have H6 := Lib.hid hb6; clear hb6)
  go_ret
  refine ⟨_, jg, f, rfl, ⟨B0, e0, B1, e1, _, [], H5.out.1.over H6.out, rfl, HG.out⟩, HS3.out, H1.out.1, HB5.out.trans (H6.out.mono HB5.out.size)⟩
end Go.Proofs.YtpkdalpjfcopbaaDoor
namespace Go.Proofs.YtpkdalpjfcopbaaDoor
open Go.RowKit
/-- What opening a disk that stands between two commits comes to. -/
theorem Half.opens {f : Fls} {k : Nat} {x : Fi} (h : Half f k x) (hg : x.gen ≤ 1125899906842624) : ∃ j ws, openR f = .ok j x.recs ws ∧ j.recs = x.recs ∧ j.gen ≤ x.gen + 1 ∧ ((ws = [] ∧ Good f j ∧ j.file = k) ∨
    (ws ≠ [] ∧ (∀ m : Int, 0 ≤ m → m < (costW ws : Nat) → Half (apD ws m f) k x) ∧ Good (apD ws (-1) f) j ∧ ∀ a, lastF ws a = (j.file : Int))) := by
  rcases h.opened (by omega) with ⟨h1, h2⟩ | ⟨h1, h2⟩
  · exact ⟨_, _, h1, rfl, by show x.gen ≤ _; omega, .inl ⟨rfl, h2, rfl⟩⟩
  · refine ⟨_, _, h1, rfl, Nat.le_refl _, .inr ⟨by simp, fun m h0 hm => ?_, ?_, fun a => rfl⟩⟩
    · exact h.torn (g := x.gen + 1) (l := x.recs) h2 (by omega) (by omega) h0 hm
    · exact h.begun (g := x.gen + 1) (l := x.recs) h2 (by omega) (by omega) (.inl (by omega))
theorem good_sound {f : Fls} {j : JP} (h : Good f j) (hg : j.gen ≤ 2251799813685248) : soundB (f.nth j.file) j = true ∧ soundB (f.nth (1 - j.file)) j = false := by
  have hl : j.text.length = 18 + bodies j.recs := textB_length _ _ _
  constructor
  · unfold soundB
    rw [h.text]
    have e := text_gen (g := j.gen) (c := j.count) (m := j.text.length) (l := j.recs) (by omega) (by omega)
    have e2 : (textB j.gen j.count j.recs).take j.text.length = j.text := List.take_of_length_le (Nat.le_refl _)
    rw [e2] at e
    simp [e]
    omega
  · unfold soundB
    rw [decide_eq_false_iff_not]
    rintro ⟨_, h2, h3⟩
    exact h.half.od h2 h3
theorem recs_few {l : List UInt8} {x : Fi} (h : readR l = some x) : x.recs.length ≤ 65536 := by
  have ht := readR_told h
  have h1 := ht.len18
  have h2 := ht.hi
  have h3 := ht.len
  have h4 := bodies_le x.recs
  omega
/-- What reopened leaves. -/
def Reop (w : World) (tg : Nat) (x : Fi) (e : Ending) (w' : World) : Prop := e = .returned (.bool true) ∧ ∃ jg' j' f', Desk w' tg jg' j' f' ∧ j'.recs = x.recs ∧ j'.gen ≤ x.gen + 1 ∧ w.heap.size ≤ jg' ∧ Chg (fun i => i = tg) w w'
set_option maxRecDepth 100000 in
set_option maxHeartbeats 3200000 in
theorem reopened_any {w : World} {tg jg kk : Nat} {A0 A1 : Option Addr} {c0 c1 : Nat} {vb : Value} {K : List Rk} {j : JP} {f : Fls} {file : Int} {x : Fi} (k : Int) (h : DAt w tg jg A0 c0 A1 c1 vb K j f file) (hh : Half f kk x) (hk : K.map Rk.rc = x.recs) (hg : x.gen ≤ 1125899906842624)
    (hfile : file = (kk : Int) ∨ file = ((1 - kk : Nat) : Int)) (ht : Nibs w) :
    Calls Tryd.prog 65 #[.pointer (some ⟨tg, 0, none⟩), .int .i64 k] w (Reop w tg x) := by
  obtain ⟨Ab, cb, rfl, hb1, hb2⟩ := h.bk.shape hk
  obtain ⟨l0, l1, m0, m1⟩ := h.lens
  simp only [maxLen] at m0 m1
  obtain ⟨j1, ws1, ho1, _, _, hway1⟩ := hh.opens hg
  have HRF := Lib.hid (recs_few hh.rd)
  have HOP := Lib.hid (Open_any (w := w) (f := f) (c0 := c0) (c1 := c1) (Rd.of_own h.o0) (Rd.of_own h.o1) l0 l1 m0 m1 ht)
  rw [ho1] at HOP
  have HC1 := Lib.hid (open_costD ho1)
  have p1 : w.cell? ⟨tg, 1, none⟩ = some (.slice A0 f.a.length c0) := h.blk.cell 1
  have p2 : w.cell? ⟨tg, 2, none⟩ = some (.slice A1 f.b.length c1) := h.blk.cell 2
  have hnib : 0 ≠ tg := fun e => by
    have h0 := ht 0 (by omega)
    subst e
    rw [h.blk.cell 0] at h0
    cases h0
  have HNB := Lib.hid hnib
  have H := Lib.hid h
  have HH := Lib.hid hh
  have HT := Lib.hid ht
  have HK := Lib.hid hk
  have HG := Lib.hid hg
  have HFI := Lib.hid hfile
  have HW1 := Lib.hid hway1
  have HLA := Lib.hid hh.la
  clear h hh ht hk hg hfile hway1 ho1 hnib hb1 hb2
  go_enter Tryd.func65, Tryd.ntmps65
  go_upto_region 2 with (go_at_call 17; refine HOP.out.mono ?_; rintro _ w2 ⟨hb2, jg1, vl, vw, Kp, rfl, hj1, hj2, hj3, hj4, hj5⟩; obtain ⟨Al, cl, rfl⟩ := hj4.shapeN hj3; obtain ⟨Aw, cw, rfl⟩ := hj5.shapeN; have H2 := Lib.hid hb2; have HR2 := Lib.hid (And.intro (hj4.rdN hj3) (hj5.mono (Nat.zero_le _))); clear hb2 hj1 hj2 hj3 hj4 hj5)
  have p3 : w2.cell? ⟨tg, 3, none⟩ = some (.slice Ab x.recs.length cb) := (H.out.over H2.out).blk.cell 3
  have HRY := Lib.hid (records_yes (w := w2) (c1 := cl) (c2 := cb) HR2.out.1 (((H.out.over H2.out).bk.rdN HK.out).mono fun _ _ h => h.elim) (by have := HRF.out; omega))
  go_upto_region 4 with (go_at_call 14; refine HRY.out.mono ?_; rintro _ w3 ⟨rfl, hb3⟩; have H3 := Lib.hid hb3; clear hb3)
  have HB3 : Hid (Below w.heap.size w w3) := Lib.hid (Below.then H2.out H3.out)
  have HW3 : Hid (WOut w3 0 (.slice Aw ws1.length cw) ws1) := Lib.hid (HR2.out.2.below H3.out)
  have HD3 := Lib.hid (H.out.over HB3.out)
  have HCO := Lib.hid (PCost_any (w := w3) Aw _ cw _ HW3.out.wsN (by have := HC1.out; omega) (by have := HW3.out.few; omega))
  clear p1 p2 p3 HRY HOP
  have hbr : (∃ d : decide (0 ≤ k) = true, decide (k < ((costW ws1 : Nat) : Int)) = true) ∨ decide (0 ≤ k) = false ∨ (∃ d : decide (0 ≤ k) = true, decide (k < ((costW ws1 : Nat) : Int)) = false) := by
    by_cases h1 : 0 ≤ k
    · by_cases h2 : k < ((costW ws1 : Nat) : Int)
      · exact .inl ⟨by simpa using h1, by simpa using h2⟩
      · exact .inr (.inr ⟨by simpa using h1, by simpa using h2⟩)
    · exact .inr (.inl (by simpa using h1))
  have HBR := Lib.hid hbr
  clear hbr
  go_upto_region 4 with fail
  go_cut [38] from 10 to 123 (fun d wc => ∃ b, d = .bool b ∧ Hid ((b = true → 0 ≤ k ∧ k < ((costW ws1 : Nat) : Int)) ∧ Below w3.heap.size w3 wc))
  case first =>
    rcases HBR.out with ⟨d1, d2⟩ | d1 | ⟨d1, d2⟩
    · have HX := Lib.hid (And.intro (of_decide_eq_true d1) (of_decide_eq_true d2))
      go_wp2_with (go_at_call 36; refine HCO.out.mono ?_; rintro _ w4 ⟨rfl, hb4⟩; have H4 := Lib.hid hb4; clear hb4)
      go_meet
      exact ⟨_, rfl, Lib.hid ⟨fun _ => HX.out, H4.out⟩⟩
    · go_wp2_with fail
      go_meet
      exact ⟨_, rfl, Lib.hid ⟨fun h => absurd h (by simp), Below.refl _ _⟩⟩
    · go_wp2_with (go_at_call 36; refine HCO.out.mono ?_; rintro _ w4 ⟨rfl, hb4⟩; have H4 := Lib.hid hb4; clear hb4)
      go_meet
      exact ⟨_, rfl, Lib.hid ⟨fun h => absurd h (by simp), H4.out⟩⟩
  case rest =>
    obtain ⟨b, rfl, HBC⟩ := hcut
    obtain ⟨w4, HWY⟩ : ∃ wp, Hid (wc = wp) := ⟨_, Lib.hid rfl⟩
    rw [HWY.out] at HBC ⊢
    clear HWY HBR HCO
    have HD4 := Lib.hid (HD3.out.over HBC.out.2)
    have HW4 := Lib.hid (HW3.out.below HBC.out.2)
    have HB4 : Hid (Below w.heap.size w w4) := Lib.hid (Below.then HB3.out HBC.out.2)
    have HAP := Lib.hid (PApply_any (w := w4) Aw _ cw ws1 A0 A1 c0 c1 f k HW4.out.wsN (by have := HC1.out; omega) (by have := HW4.out.few; omega) (Rd.of_own HD4.out.o0) (Rd.of_own HD4.out.o1) (by have := HLA.out; omega) (by have := HLA.out; omega))
    rw [apply_same] at HAP
    have p1 : w4.cell? ⟨tg, 1, none⟩ = some (.slice A0 f.a.length c0) := HD4.out.blk.cell 1
    have p2 : w4.cell? ⟨tg, 2, none⟩ = some (.slice A1 f.b.length c1) := HD4.out.blk.cell 2
    go_upto_if 38 with fail
    go_cut [7] from 10 to 123 (fun d7 wc => ∃ f1 B0 e0 B1 e1, Hid (DAt wc tg jg B0 e0 B1 e1 (.slice Ab x.recs.length cb) K j f1 file ∧ Half f1 kk x ∧ Chg (fun i => i = tg) w wc))
    case first =>
      cases b with
      | true =>
        have HK0 := Lib.hid (HBC.out.1 rfl)
        go_wp2_with (go_at_call 37; refine HAP.out.mono ?_; rintro _ w5 ⟨B0, e0, B1, e1, rfl, o0, o1, hap, hb⟩; have H5 := Lib.hid (And.intro o0 (And.intro o1 hb)); have q1 := ((HD4.out.over hb).blk.frozen 1); have q2 := ((HD4.out.over hb).blk.frozen 2); have r1 : w5.cell? ⟨tg, 1, none⟩ = some (.slice A0 f.a.length c0) := (HD4.out.over hb).blk.cell 1; have r2 : w5.cell? ⟨tg, 2, none⟩ = some (.slice A1 f.b.length c1) := (HD4.out.over hb).blk.cell 2; clear o0 o1 hap hb)
        go_meet
        obtain ⟨h1, h2⟩ := HD4.out.disk H5.out.2.2 H5.out.1 H5.out.2.1
        refine ⟨_, _, _, _, _, Lib.hid ⟨h1, ?_, (Chg.of_below HB4.out _).trans h2⟩⟩
        rcases HW1.out with ⟨e1, _⟩ | ⟨_, h3, _⟩
        · have h4 := HK0.out
          rw [e1] at h4
          simp [costW] at h4
          omega
        · exact h3 k HK0.out.1 HK0.out.2
      | false =>
        go_wp2_with fail
        go_meet
        exact ⟨_, _, _, _, _, Lib.hid ⟨HD4.out, HH.out, Chg.of_below HB4.out _⟩⟩
    case rest =>
      obtain ⟨f1, B0, e0, B1, e1, HX⟩ := hcut
      obtain ⟨w6, HWY⟩ : ∃ wp, Hid (wc = wp) := ⟨_, Lib.hid rfl⟩
      rw [HWY.out] at HX ⊢
      clear HWY HAP p1 p2 HD4 HW4 HB4 HBC HD3 HW3 HB3 H3 H2 HR2 HC1 HLA HW1
      obtain ⟨l0, l1, m0, m1⟩ := HX.out.1.lens
      simp only [maxLen] at m0 m1
      obtain ⟨j2, ws2, ho2, hrec2, hgen2, hway2⟩ := HX.out.2.1.opens HG.out
      have HNW : Hid (Nibs w6) := Lib.hid (HT.out.chg HX.out.2.2 HNB.out)
      have HOP := Lib.hid (Open_any (w := w6) (f := f1) (c0 := e0) (c1 := e1) (Rd.of_own HX.out.1.o0) (Rd.of_own HX.out.1.o1) l0 l1 m0 m1 HNW.out)
      rw [ho2] at HOP
      have HC2 := Lib.hid (open_costD ho2)
      have HJ2 := Lib.hid (And.intro hrec2 (And.intro hgen2 hway2))
      have p1 : w6.cell? ⟨tg, 1, none⟩ = some (.slice B0 f1.a.length e0) := HX.out.1.blk.cell 1
      have p2 : w6.cell? ⟨tg, 2, none⟩ = some (.slice B1 f1.b.length e1) := HX.out.1.blk.cell 2
      clear ho2 hrec2 hgen2 hway2
      go_upto_region 7 with (go_at_call 17; refine HOP.out.mono ?_; rintro _ w7 ⟨hb7, jg2, vl, vw, Kp, rfl, hj1, hj2, hj3, hj4, hj5⟩; obtain ⟨Ac, cc, rfl⟩ := hj4.shapeN hj3; obtain ⟨Ax, cx, rfl⟩ := hj5.shapeN; have H7 := Lib.hid hb7; have HR7 := Lib.hid (And.intro (hj4.rdN hj3) (And.intro (hj5.mono (Nat.zero_le _)) (And.intro hj1 hj2))); clear hb7 hj1 hj2 hj3 hj4 hj5)
      have p3 : w7.cell? ⟨tg, 3, none⟩ = some (.slice Ab x.recs.length cb) := (HX.out.1.over H7.out).blk.cell 3
      have HRY := Lib.hid (records_yes (w := w7) (c1 := cc) (c2 := cb) HR7.out.1 (((HX.out.1.over H7.out).bk.rdN HK.out).mono fun _ _ h => h.elim) (by have := HRF.out; omega))
      go_upto_region 9 with (go_at_call 14; refine HRY.out.mono ?_; rintro _ w8 ⟨rfl, hb8⟩; have H8 := Lib.hid hb8; clear hb8)
      have H68 : Hid (Below w6.heap.size w6 w8) := Lib.hid (Below.then H7.out H8.out)
      have HDN := Lib.hid (HX.out.1.opened H68.out (HR7.out.2.2.2.below H8.out) HR7.out.2.2.1)
      have z0 : w8.cell? ⟨tg, 0, none⟩ = some (.pointer (some ⟨jg, 0, none⟩)) := (HX.out.1.over H68.out).blk.cell 0
      have zf := (HX.out.1.over H68.out).blk.frozen 0
      clear p1 p2 p3 HRY HOP
      go_upto_region 10 with fail
      have HWO : Hid (WOut (w8.setCell ⟨tg, 0, none⟩ (.pointer (some ⟨jg2, 0, none⟩))) 0 (.slice Ax ws2.length cx) ws2) := Lib.hid ((HR7.out.2.1.below H8.out).desk (HX.out.1.over H68.out).blk (by decide) (by decide) ((Chg.refl (fun k => k = tg) w8).setCell (p := ⟨tg, 0, none⟩) (.inl rfl) _))
      generalize w8.setCell ⟨tg, 0, none⟩ (.pointer (some ⟨jg2, 0, none⟩)) = w9 at HDN HWO ⊢
      have HC9 : Hid (Chg (fun i => i = tg) w w9) := Lib.hid (HX.out.2.2.trans HDN.out.2)
      have HJG : Hid (w.heap.size ≤ jg2) := Lib.hid (Nat.le_trans HX.out.2.2.size HR7.out.2.2.1)
      clear z0 zf
      rcases HJ2.out.2.2 with ⟨rfl, hgood, hfl⟩ | ⟨hne, _, hgood, hlf⟩
      · have HGD := Lib.hid hgood
        have HFL := Lib.hid hfl
        clear hgood hfl
        have hk1 := HX.out.2.1.k1
        rcases (by omega : kk = 0 ∨ kk = 1) with rfl | rfl <;> rcases HFI.out with rfl | rfl
        · skip
          have hs : soundB f1.a j2 = true := by
            have h := good_sound HGD.out (by have := HJ2.out.2.1; have := HG.out; omega)
            rw [HFL.out] at h
            exact h.1
          have HS := Lib.hid (sound_any (cap := e0) HDN.out.1.pj (Rd.of_own HDN.out.1.o0) (by have := HX.out.2.1.la; omega))
          rw [hs] at HS
          have z4 : w9.cell? ⟨tg, 4, none⟩ = some (.int .i64 0) := HDN.out.1.blk.cell 4
          have z1 : w9.cell? ⟨tg, 1, none⟩ = some (.slice B0 f1.a.length e0) := HDN.out.1.blk.cell 1
          have z2 : w9.cell? ⟨tg, 2, none⟩ = some (.slice B1 f1.b.length e1) := HDN.out.1.blk.cell 2
          have zf := HDN.out.1.blk.frozen 4
          clear hs
          go_wp2_with (go_at_call 78; refine HS.out.mono ?_; rintro _ _ ⟨rfl, rfl⟩)
          go_ret
          exact ⟨rfl, jg2, j2, f1, ⟨B0, e0, B1, e1, _, K, by rw [HFL.out]; exact HDN.out.1, HK.out.trans HJ2.out.1.symm, HGD.out⟩, HJ2.out.1, HJ2.out.2.1, HJG.out, HC9.out⟩
        · skip
          have hs : soundB f1.b j2 = false := by
            have h := good_sound HGD.out (by have := HJ2.out.2.1; have := HG.out; omega)
            rw [HFL.out] at h
            exact h.2
          have HS := Lib.hid (sound_any (cap := e1) HDN.out.1.pj (Rd.of_own HDN.out.1.o1) (by have := HX.out.2.1.la; omega))
          rw [hs] at HS
          have z4 : w9.cell? ⟨tg, 4, none⟩ = some (.int .i64 1) := HDN.out.1.blk.cell 4
          have z1 : w9.cell? ⟨tg, 1, none⟩ = some (.slice B0 f1.a.length e0) := HDN.out.1.blk.cell 1
          have z2 : w9.cell? ⟨tg, 2, none⟩ = some (.slice B1 f1.b.length e1) := HDN.out.1.blk.cell 2
          have zf := HDN.out.1.blk.frozen 4
          clear hs
          go_wp2_with (go_at_call 78; refine HS.out.mono ?_; rintro _ _ ⟨rfl, rfl⟩)
          go_ret
          have HF := HDN.out.1.filed 0
          exact ⟨rfl, jg2, j2, f1, ⟨B0, e0, B1, e1, _, K, by rw [HFL.out]; exact HF.1, HK.out.trans HJ2.out.1.symm, HGD.out⟩, HJ2.out.1, HJ2.out.2.1, HJG.out, HC9.out.trans HF.2⟩
        · skip
          have hs : soundB f1.b j2 = true := by
            have h := good_sound HGD.out (by have := HJ2.out.2.1; have := HG.out; omega)
            rw [HFL.out] at h
            exact h.1
          have HS := Lib.hid (sound_any (cap := e1) HDN.out.1.pj (Rd.of_own HDN.out.1.o1) (by have := HX.out.2.1.la; omega))
          rw [hs] at HS
          have z4 : w9.cell? ⟨tg, 4, none⟩ = some (.int .i64 1) := HDN.out.1.blk.cell 4
          have z1 : w9.cell? ⟨tg, 1, none⟩ = some (.slice B0 f1.a.length e0) := HDN.out.1.blk.cell 1
          have z2 : w9.cell? ⟨tg, 2, none⟩ = some (.slice B1 f1.b.length e1) := HDN.out.1.blk.cell 2
          have zf := HDN.out.1.blk.frozen 4
          clear hs
          go_wp2_with (go_at_call 78; refine HS.out.mono ?_; rintro _ _ ⟨rfl, rfl⟩)
          go_ret
          exact ⟨rfl, jg2, j2, f1, ⟨B0, e0, B1, e1, _, K, by rw [HFL.out]; exact HDN.out.1, HK.out.trans HJ2.out.1.symm, HGD.out⟩, HJ2.out.1, HJ2.out.2.1, HJG.out, HC9.out⟩
        · skip
          have hs : soundB f1.a j2 = false := by
            have h := good_sound HGD.out (by have := HJ2.out.2.1; have := HG.out; omega)
            rw [HFL.out] at h
            exact h.2
          have HS := Lib.hid (sound_any (cap := e0) HDN.out.1.pj (Rd.of_own HDN.out.1.o0) (by have := HX.out.2.1.la; omega))
          rw [hs] at HS
          have z4 : w9.cell? ⟨tg, 4, none⟩ = some (.int .i64 0) := HDN.out.1.blk.cell 4
          have z1 : w9.cell? ⟨tg, 1, none⟩ = some (.slice B0 f1.a.length e0) := HDN.out.1.blk.cell 1
          have z2 : w9.cell? ⟨tg, 2, none⟩ = some (.slice B1 f1.b.length e1) := HDN.out.1.blk.cell 2
          have zf := HDN.out.1.blk.frozen 4
          clear hs
          go_wp2_with (go_at_call 78; refine HS.out.mono ?_; rintro _ _ ⟨rfl, rfl⟩)
          go_ret
          have HF := HDN.out.1.filed 1
          exact ⟨rfl, jg2, j2, f1, ⟨B0, e0, B1, e1, _, K, by rw [HFL.out]; exact HF.1, HK.out.trans HJ2.out.1.symm, HGD.out⟩, HJ2.out.1, HJ2.out.2.1, HJG.out, HC9.out.trans HF.2⟩
      · have hpos : 0 < ws2.length := List.length_pos_iff.2 hne
        have hposI : (0 : Int) < ((ws2.length : Nat) : Int) := by omega
        have hposD : decide (0 < ws2.length) = true := decide_eq_true hpos
        have HGD := Lib.hid hgood
        have HLF := Lib.hid hlf
        have HMK := Lib.hid (dmakes_any (cap := cx) HDN.out.1 HWO.out (by have := HC2.out; omega) (by have := HX.out.2.1.la; omega) (-1))
        clear hne hgood hlf hpos
        go_wp2_with (go_at_call 63; refine HMK.out.mono ?_; rintro _ wa ⟨rfl, ⟨C0, g0, C1, g1, hpa⟩, hca⟩; have HA := Lib.hid (And.intro hpa hca); clear hpa hca)
        go_ret
        have hd := HA.out.1
        rw [HLF.out file] at hd
        exact ⟨rfl, jg2, j2, _, ⟨C0, g0, C1, g1, _, K, hd, HK.out.trans HJ2.out.1.symm, HGD.out⟩, HJ2.out.1, HJ2.out.2.1, HJG.out, HC9.out.trans HA.out.2⟩
end Go.Proofs.YtpkdalpjfcopbaaDoor
