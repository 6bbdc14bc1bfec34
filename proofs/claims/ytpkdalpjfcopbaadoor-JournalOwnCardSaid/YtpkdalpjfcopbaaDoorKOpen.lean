/-
  The program's Open.
-/
import Derived.Test.YtpkdalpjfcopbaaDoorKPick
namespace Go.Proofs.YtpkdalpjfcopbaaDoor
open Go.RowKit
theorem RcOwn.rdT {w : World} {base : Nat} {K : List Rk} {F : Nat → Prop} {A : Option Addr} {cap : Nat} (h : RcOwn w base (.slice A K.length cap) K) (hF : ∀ g, base ≤ g → (IsT w 34 g ∨ IsT w 5 g) → ¬ F g) : RcRd w F A K.length (K.map Rk.rc) := by
  refine RcRd.mono (F := fun g => ¬ (base ≤ g ∧ (IsT w 34 g ∨ IsT w 5 g))) ?_ fun k _ hk hn => hF k hn.1 hn.2 hk
  refine ⟨by simp, fun k r hk => ?_⟩
  rw [List.getElem?_map, Option.map_eq_some_iff] at hk
  obtain ⟨x, hk, rfl⟩ := hk
  have hlt := (List.getElem?_eq_some_iff.1 hk).1
  obtain ⟨q, cap', cur, hv, hb, hB, _, _, h1, h2⟩ := own_parts h.own (by omega)
  simp only [Value.slice.injEq, true_and] at hv
  obtain ⟨rfl, rfl⟩ := hv
  have key : ∀ j, j < 2 → w.cell? ⟨q, k * 2 + j, none⟩ = x.cells[j]? := fun j hj => by
    rw [hB.cell, ← rowsK_at hk j hj, ← h2, List.getElem?_take, if_pos (by omega), Array.getElem?_toList]
  have ho := h.bod k x hk
  obtain ⟨bA, bc, e, hle, _⟩ := own_shape ho
  have hk1 := key 1 (by omega)
  have hk0 := key 0 (by omega)
  simp only [Rk.cells, List.getElem?_cons_zero, List.getElem?_cons_succ] at hk0 hk1
  rw [e] at hk1 ho
  refine ⟨q, 0, bA, bc, rfl, hB.lt, fun hn => hn ⟨hb, .inl hB.isT⟩, by rw [Nat.zero_add]; exact hk0, by rw [Nat.zero_add]; exact hk1, Rd.of_own ho, hle, fun h0 b o s e2 hn => ?_⟩
  obtain ⟨gg, cc, cr, hv2, hb2, hB2, _⟩ := own_parts ho h0
  injection hv2 with hv2
  rw [e2] at hv2
  injection hv2 with hv2
  injection hv2 with e4
  subst e4
  exact hn ⟨hb2, .inr (Blk.isT hB2)⟩
/-- What Open comes to. -/
def Opened (w : World) (o : OR) (e : Ending) (w' : World) : Prop :=
  Below w.heap.size w w' ∧ match o with
    | .bad => e = .returned (.tuple #[.pointer none, .slice none 0 0, .slice none 0 0, .int .i64 122])
    | .spent => e = .returned (.tuple #[.pointer none, .slice none 0 0, .slice none 0 0, .int .i64 3])
    | .ok j recs ws => ∃ jg vl vw K, e = .returned (.tuple #[.pointer (some ⟨jg, 0, none⟩), vl, vw, .int .i64 0]) ∧ w.heap.size ≤ jg ∧ PJAt w' jg j ∧ K.map Rk.rc = recs ∧ RcOwn w' w.heap.size vl K ∧ WOut w' w.heap.size vw ws
set_option maxRecDepth 100000 in
set_option maxHeartbeats 3200000 in
theorem Open_any {w : World} {f : Fls} {A0 A1 : Option Addr} {c0 c1 : Nat} (h0 : RdB w w.heap.size A0 f.a.length f.a) (h1 : RdB w w.heap.size A1 f.b.length f.b) (n0 : f.a.length ≤ c0) (n1 : f.b.length ≤ c1) (m0 : c0 ≤ 9223372036854775807) (m1 : c1 ≤ 9223372036854775807) (ht : Nibs w) :
    Calls Tryd.prog 17 #[.agg #[.slice A0 f.a.length c0, .slice A1 f.b.length c1]] w (Opened w (openR f)) := by
  obtain ⟨w1, hw1⟩ : ∃ x, x = w.alloc (.cells #[.slice A0 f.a.length c0, .slice A1 f.b.length c1] 24) := ⟨_, rfl⟩
  have hb1 : Below w.heap.size w w1 := by rw [hw1]; exact one_box' _ _
  have hB1 : Blk w1 w.heap.size 24 #[.slice A0 f.a.length c0, .slice A1 f.b.length c1] := by rw [hw1]; exact Blk.new _ _ _
  have HPI := Lib.hid (pick_any (w := w1) (f := f) ((h0.below hb1).more hb1.size) ((h1.below hb1).more hb1.size) n0 n1 m0 m1 (ht.below hb1))
  have d0 : w1.cell? ⟨w.heap.size, 0, none⟩ = some (.slice A0 f.a.length c0) := hB1.cell 0
  have d1 : w1.cell? ⟨w.heap.size, 1, none⟩ = some (.slice A1 f.b.length c1) := hB1.cell 1
  have HW1 := Lib.hid hw1
  have HB1 := Lib.hid hb1
  have HX1 := Lib.hid hB1
  have H0 := Lib.hid h0
  have H1 := Lib.hid h1
  have HT := Lib.hid ht
  clear hw1 hb1 hB1 h0 h1 ht
  cases hp : pickR f with
  | none =>
    have HP := Lib.hid hp
    clear hp
    go_enter Tryd.func17, Tryd.ntmps17
    go_upto_region 1 with fail
    rw [← HW1.out]
    go_upto_region 4 with (first | (go_at_call 46; refine HPI.out.mono ?_; rintro e w2 ⟨hb2, hq⟩; rw [HP.out] at hq; subst hq; have HB2 := Lib.hid hb2; unfold LV.val LV.zero; clear hb2))
    have hb3 := one_box' w2 (.cells #[.bool false, .bool false, .int .i64 0, .slice none 0 0, .int .i64 0, .int .u8 0, .int .u8 0, .int .u8 0, .int .u8 0] 87)
    have hbw3 : Below w.heap.size w _ := (Below.then HB1.out HB2.out).trans (hb3.mono (Below.then HB1.out HB2.out).size)
    refine (New_any (HT.out.below hbw3)).mono ?_
    have HBW3 := Lib.hid (And.intro hbw3 (HX1.out.over (HB2.out)).lt)
    have HX3 := Lib.hid ((HX1.out.over HB2.out).over hb3)
    clear hb3 hbw3
    change ∀ e w', _ → _
    generalize w2.alloc _ = w3 at HBW3 HX3 ⊢
    rintro _ w4 ⟨jg, v, rfl, hjg, hpj, hwo, hb4⟩
    have HN := Lib.hid (And.intro hjg (And.intro hpj (And.intro hwo hb4)))
    have HB4 : Hid (Below w.heap.size w w4) := Lib.hid (Below.then HBW3.out.1 hb4)
    have hx4 := HX3.out.over hb4
    have e0 : w4.cell? ⟨w.heap.size, 0, none⟩ = some (.slice A0 f.a.length c0) := hx4.cell 0
    have e1 : w4.cell? ⟨w.heap.size, 1, none⟩ = some (.slice A1 f.b.length c1) := hx4.cell 1
    rcases hwo with ⟨hcon, _⟩ | ⟨x, g1, Ax, capx, hx, rfl, hg1, hBx, hby⟩
    · cases hcon
    · injection hx with hx
      subst hx
      obtain ⟨gx, ox, curx, rfl, _, _⟩ := hby.lt
      have hrx := hby.rd
      dsimp only at hrx hBx
      rw [headB_length] at hBx hrx
      have z2 : w4.cell? ⟨g1, 2, none⟩ = some (.slice (some ⟨gx, ox, none⟩) 18 capx) := hBx.cell 2
      have HRX := Lib.hid hrx
      clear hrx hby hBx hb4 hx4 hjg hpj d0 d1 HPI HX1 HX3
      have HBAD : Hid (unbornR f = false → ∀ w', Below w.heap.size w w' → Opened w (openR f) (.returned (.tuple #[.pointer none, .slice none 0 0, .slice none 0 0, .int .i64 122])) w') := Lib.hid fun hu w' hb => by
        refine ⟨hb, ?_⟩
        unfold openR
        rw [HP.out]
        dsimp only
        rw [if_neg (by rw [hu]; exact Bool.false_ne_true)]
      have HGOOD : Hid (unbornR f = true → ∀ w', Below w.heap.size w w' → PJAt w' jg newJ → WOut w' w.heap.size (.slice (some ⟨g1, 0, none⟩) 1 1) [⟨0, true, headB 1 0⟩] → Opened w (openR f) (.returned (.tuple #[.pointer (some ⟨jg, 0, none⟩), .slice none 0 0, .slice (some ⟨g1, 0, none⟩) 1 1, .int .i64 0])) w') := Lib.hid fun hu w' hb hp hw => by
        refine ⟨hb, ?_⟩
        unfold openR
        rw [HP.out]
        dsimp only
        rw [if_pos hu]
        exact ⟨jg, _, _, [], rfl, by have := HN.out.1; have := HBW3.out.1.size; omega, hp, rfl, RcOwn.nil, hw⟩
      by_cases hb0 : f.b.length = 0
      · have db : decide (0 < f.b.length) = false := decide_eq_false (by omega)
        have HB0 := Lib.hid hb0
        clear hb0
        by_cases ha0 : f.a.length < 18
        · have da : decide (18 ≤ (f.a.length : Int)) = false := decide_eq_false (by omega)
          have hr1 : RdB w4 w4.heap.size (some ⟨gx, ox, none⟩) f.a.length ((headB 1 0).take f.a.length) := HRX.out.1.takeB (by omega)
          have hr2 : RdB w4 w4.heap.size A0 f.a.length f.a := (H0.out.below HB4.out).more HB4.out.size
          have k1 := fun d c => conv_rd (P := Tryd.prog) (cap := c) (hr1.dn d) Tryd.underlying22 Tryd.underlying5 Tryd.underlying9
          have k2 := fun d c => conv_rd (P := Tryd.prog) (cap := c) (hr2.dn d) Tryd.underlying22 Tryd.underlying5 Tryd.underlying9
          have hcx : f.a.length ≤ capx := by have := HRX.out.2; omega
          have hax : (f.a.length : Int) ≤ (capx : Int) := by omega
          have ha00 : (0 : Int) ≤ (f.a.length : Int) := by omega
          clear hr1 hr2
          by_cases heq : List.take f.a.length (headB 1 0) = f.a
          · have hs : (List.take f.a.length (headB 1 0) == f.a) = true := by simpa using heq
            have hu : unbornR f = true := by
              unfold unbornR
              rw [decide_eq_true_eq]
              exact ⟨List.eq_nil_of_length_eq_zero HB0.out, ha0, heq.symm⟩
            have HU := Lib.hid hu
            clear heq hu
            go_upto_region 5 with fail
            go_quiet (fail)
            go_wp2
            refine bodyPost_ret (v := .tuple #[.pointer (some ⟨jg, 0, none⟩), .slice none 0 0, .slice (some ⟨g1, 0, none⟩) 1 1, .int .i64 0]) (by simp [results, Tryd.results17, go_sem]) rfl (HGOOD.out HU.out _ (below_drewN HB4.out nq) ?_ ?_)
            · exact HN.out.2.1.below (below_drewN (Below.refl _ _) nq)
            · exact (HN.out.2.2.1.below (below_drewN (Below.refl _ _) nq)).mono HBW3.out.1.size
          · have hs : (List.take f.a.length (headB 1 0) == f.a) = false := by simpa using heq
            have hu : unbornR f = false := by
              unfold unbornR
              rw [decide_eq_false_iff_not]
              exact fun h => heq h.2.2.symm
            have HU := Lib.hid hu
            clear heq hu
            go_upto_region 5 with fail
            go_quiet (fail)
            go_wp2
            exact bodyPost_ret (v := .tuple #[.pointer none, .slice none 0 0, .slice none 0 0, .int .i64 122]) (by simp [results, Tryd.results17, go_sem]) rfl (HBAD.out HU.out _ (below_drewN HB4.out nq))
        · have da : decide (18 ≤ (f.a.length : Int)) = true := decide_eq_true (by omega)
          have hu : unbornR f = false := by
            unfold unbornR
            rw [decide_eq_false_iff_not]
            exact fun h => ha0 h.2.1
          have HU := Lib.hid hu
          clear hu
          go_upto_region 5 with fail
          go_quiet (fail)
          go_wp2
          exact bodyPost_ret (v := .tuple #[.pointer none, .slice none 0 0, .slice none 0 0, .int .i64 122]) (by simp [results, Tryd.results17, go_sem]) rfl (HBAD.out HU.out _ (below_drewN HB4.out nq))
      · have db : decide (0 < f.b.length) = true := decide_eq_true (by omega)
        have hu : unbornR f = false := by
          unfold unbornR
          rw [decide_eq_false_iff_not]
          exact fun h => hb0 (by rw [h.1]; rfl)
        have HU := Lib.hid hu
        clear hu hb0
        go_upto_region 5 with fail
        go_quiet (fail)
        go_wp2
        exact bodyPost_ret (v := .tuple #[.pointer none, .slice none 0 0, .slice none 0 0, .int .i64 122]) (by simp [results, Tryd.results17, go_sem]) rfl (HBAD.out HU.out _ (below_drewN HB4.out nq))
  | some kx =>
    obtain ⟨k, x⟩ := kx
    have HP := Lib.hid hp
    clear hp
    go_enter Tryd.func17, Tryd.ntmps17
    go_upto_region 1 with fail
    rw [← HW1.out]
    go_upto_region 8 with (first | (go_at_call 46; refine HPI.out.mono ?_; rintro e w2 ⟨hb2, hq⟩; rw [HP.out] at hq; obtain ⟨r, rfl, hv, hrr⟩ := hq; have HB2 := Lib.hid hb2; have HV := Lib.hid (And.intro hv hrr); unfold LV.val; clear hb2 hv hrr))
    obtain ⟨hk1, htd, hcnt⟩ := pickR_told HP.out
    have hki : decide ((k : Int) < 0) = false := decide_eq_false (by omega)
    have hv := HV.out.1
    unfold LkV at hv
    rw [HV.out.2] at hv
    obtain ⟨v1, v2, v3, v4, v5, K, v6, v7, v8⟩ := hv
    have HVV := Lib.hid (And.intro v2 (And.intro v3 (And.intro v4 (And.intro v5 (And.intro v6 (And.intro v7 v8))))))
    have HTD := Lib.hid htd
    clear v1 v2 v3 v4 v5 v6 v7 v8 htd
    obtain ⟨w3, hw3⟩ : ∃ x, x = w2.alloc (.cells #[.bool r.so, .bool r.cl, .int .i64 r.gn, .slice r.A r.m r.c, .int .i64 r.fn, .int .u8 (r.s.1.toNat : Int), .int .u8 (r.s.2.1.toNat : Int), .int .u8 (r.s.2.2.1.toNat : Int), .int .u8 (r.s.2.2.2.toNat : Int)] 87) := ⟨_, rfl⟩
    rw [← hw3]
    have hb3 : Below w2.heap.size w2 w3 := by rw [hw3]; exact one_box' _ _
    have hB3 : Blk w3 w2.heap.size 87 r.cells := by rw [hw3]; exact Blk.new _ _ _
    have HBW : Hid (Below w.heap.size w w3) := Lib.hid (Below.then (Below.then HB1.out HB2.out) hb3)
    have HO3 := Lib.hid (HVV.out.2.2.2.2.2.2.below hb3)
    have hqf : w.heap.size < w2.heap.size := (HX1.out.over HB2.out).lt
    obtain ⟨⟨a0, a1, a2, a3, a4, a5, a6, a7, a8⟩, _⟩ := lv_cells hB3
    have HB3 := Lib.hid hB3
    clear hw3 hb3 hB3 d0 d1 HPI
    have hcl : r.cl = decide (x.fin = (f.nth k).length) := HVV.out.1
    cases hc : decide (x.fin = (f.nth k).length) with
    | true =>
      rw [hc] at hcl
      rw [hcl] at a1
      have hc2 := of_decide_eq_true hc
      have HC := Lib.hid hc2
      clear hc hc2 hcl
      have hlen : (f.nth k).length = 18 + bodies x.recs := by rw [← HC.out]; exact HTD.out.len18
      have hJ : openR f = .ok ⟨k, x.gen, x.count, x.recs⟩ x.recs [] := by
        unfold openR
        rw [HP.out]
        dsimp only
        rw [if_pos HC.out]
      have htx : JP.text ⟨k, x.gen, x.count, x.recs⟩ = f.nth k := by
        have := HTD.out.text
        rw [HC.out, List.take_length] at this
        exact this.symm
      have hsum : last4 (f.nth k) = sl r.s := by
        rw [HVV.out.2.2.2.1, HC.out, part_last (by omega) (Nat.le_refl _), List.take_length]
      have HJ := Lib.hid (And.intro hJ (And.intro htx hsum))
      have hS0 : w3.cell? ⟨w2.heap.size, 2, none⟩ = some (.int .i64 r.gn) ∧ w3.cell? ⟨w2.heap.size, 3, none⟩ = some (.slice r.A r.m r.c) ∧ w3.cell? ⟨w2.heap.size, 4, none⟩ = some (.int .i64 r.fn) ∧ w3.cell? ⟨w2.heap.size, 5, none⟩ = some (.int .u8 (r.s.1.toNat : Int)) ∧ w3.cell? ⟨w2.heap.size, 6, none⟩ = some (.int .u8 (r.s.2.1.toNat : Int)) ∧ w3.cell? ⟨w2.heap.size, 7, none⟩ = some (.int .u8 (r.s.2.2.1.toNat : Int)) ∧ w3.cell? ⟨w2.heap.size, 8, none⟩ = some (.int .u8 (r.s.2.2.2.toNat : Int)) := ⟨a2, a3, a4, a5, a6, a7, a8⟩
      have HSX : Hid (∀ W, Below w3.heap.size w3 W → W.cell? ⟨w2.heap.size, 2, none⟩ = some (.int .i64 r.gn) ∧ W.cell? ⟨w2.heap.size, 3, none⟩ = some (.slice r.A r.m r.c) ∧ W.cell? ⟨w2.heap.size, 4, none⟩ = some (.int .i64 r.fn) ∧ W.cell? ⟨w2.heap.size, 5, none⟩ = some (.int .u8 (r.s.1.toNat : Int)) ∧ W.cell? ⟨w2.heap.size, 6, none⟩ = some (.int .u8 (r.s.2.1.toNat : Int)) ∧ W.cell? ⟨w2.heap.size, 7, none⟩ = some (.int .u8 (r.s.2.2.1.toNat : Int)) ∧ W.cell? ⟨w2.heap.size, 8, none⟩ = some (.int .u8 (r.s.2.2.2.toNat : Int))) := Lib.hid fun W hb => (lv_cells (HB3.out.over hb)).1.2.2
      go_wp2_with fail
      obtain ⟨wd, hwd⟩ : ∃ wd, wd = w3.drew := ⟨_, rfl⟩
      have HBD : Hid (Below w3.heap.size w3 wd) := Lib.hid (by rw [hwd]; exact below_drewN (Below.refl _ w3) 1)
      have HWD := Lib.hid hwd
      clear hwd hJ htx hsum hS0 a0 a1 a2 a3 a4 a5 a6 a7 a8 hlen
      refine wp_region_held_drew (S := fun W => W.cell? ⟨w2.heap.size, 2, none⟩ = some (.int .i64 r.gn) ∧ W.cell? ⟨w2.heap.size, 3, none⟩ = some (.slice r.A r.m r.c) ∧ W.cell? ⟨w2.heap.size, 4, none⟩ = some (.int .i64 r.fn) ∧ W.cell? ⟨w2.heap.size, 5, none⟩ = some (.int .u8 (r.s.1.toNat : Int)) ∧ W.cell? ⟨w2.heap.size, 6, none⟩ = some (.int .u8 (r.s.2.1.toNat : Int)) ∧ W.cell? ⟨w2.heap.size, 7, none⟩ = some (.int .u8 (r.s.2.2.1.toNat : Int)) ∧ W.cell? ⟨w2.heap.size, 8, none⟩ = some (.int .u8 (r.s.2.2.2.toNat : Int))) (by kernel_rfl) (by rw [← HWD.out]; exact HSX.out _ HBD.out) (fun hsw => ?_)
      rw [← HWD.out] at hsw ⊢
      refine wpAnyH_take (i := 0) (oi := ?oi0a) (v := ?v0a) ?hi0a (by kernel_rfl) (by kernel_rfl) (by kernel_rfl) ?hq0a ?hy0a (by assumption) ?rest0a
      case hi0a => (simp only [List.getElem?_toArray, List.getElem?_cons_zero]; rfl)
      case hy0a => (refine Or.inl ⟨by rfl, ?_⟩; intro w hSw; (try dsimp only at hSw); go_simp; try with_reducible rfl)
      case hq0a => exact fun _ _ _ h => h
      try simp only [Act.put, List.setIfInBounds_toArray, List.set_cons_zero, List.set_cons_succ]
      refine wpAnyH_take (i := 1) (oi := ?oi1a) (v := ?v1a) ?hi1a (by kernel_rfl) (by kernel_rfl) (by kernel_rfl) ?hq1a ?hy1a (by assumption) ?rest1a
      case hi1a => (simp only [List.getElem?_toArray, List.getElem?_cons_zero, List.getElem?_cons_succ]; rfl)
      case hy1a => (refine Or.inl ⟨by rfl, ?_⟩; intro w hSw; (try dsimp only at hSw); go_simp; try with_reducible rfl)
      case hq1a => exact fun _ _ _ h => h
      try simp only [Act.put, List.setIfInBounds_toArray, List.set_cons_zero, List.set_cons_succ]
      refine wpAnyH_take (i := 2) (oi := ?oi2a) (v := ?v2a) ?hi2a (by kernel_rfl) (by kernel_rfl) (by kernel_rfl) ?hq2a ?hy2a (by assumption) ?rest2a
      case hi2a => (simp only [List.getElem?_toArray, List.getElem?_cons_zero, List.getElem?_cons_succ]; rfl)
      case hy2a => (refine Or.inl ⟨by rfl, ?_⟩; intro w hSw; (try dsimp only at hSw); go_simp; try with_reducible rfl)
      case hq2a => exact fun _ _ _ h => h
      try simp only [Act.put, List.setIfInBounds_toArray, List.set_cons_zero, List.set_cons_succ]
      refine wpAnyH_take (i := 3) (oi := ?oi3a) (v := ?v3a) ?hi3a (by kernel_rfl) (by kernel_rfl) (by kernel_rfl) ?hq3a ?hy3a (by assumption) ?rest3a
      case hi3a => (simp only [List.getElem?_toArray, List.getElem?_cons_zero, List.getElem?_cons_succ]; rfl)
      case hy3a => (refine Or.inl ⟨by rfl, ?_⟩; intro w hSw; (try dsimp only at hSw); go_simp; try with_reducible rfl)
      case hq3a => exact fun _ _ _ h => h
      try simp only [Act.put, List.setIfInBounds_toArray, List.set_cons_zero, List.set_cons_succ]
      refine wpAnyH_take (i := 4) (oi := ?oi4a) (v := ?v4a) ?hi4a (by kernel_rfl) (by kernel_rfl) (by kernel_rfl) ?hq4a ?hy4a (by assumption) ?rest4a
      case hi4a => (simp only [List.getElem?_toArray, List.getElem?_cons_zero, List.getElem?_cons_succ]; rfl)
      case hy4a => (refine Or.inl ⟨by rfl, ?_⟩; intro w hSw; (try dsimp only at hSw); go_simp; try with_reducible rfl)
      case hq4a => exact fun _ _ _ h => h
      try simp only [Act.put, List.setIfInBounds_toArray, List.set_cons_zero, List.set_cons_succ]
      refine wpAnyH_take (i := 5) (oi := ?oi5a) (v := ?v5a) ?hi5a (by kernel_rfl) (by kernel_rfl) (by kernel_rfl) ?hq5a ?hy5a (by assumption) ?rest5a
      case hi5a => (simp only [List.getElem?_toArray, List.getElem?_cons_zero, List.getElem?_cons_succ]; rfl)
      case hy5a => (refine Or.inl ⟨by rfl, ?_⟩; intro w hSw; (try dsimp only at hSw); go_simp; try with_reducible rfl)
      case hq5a => exact fun _ _ _ h => h
      try simp only [Act.put, List.setIfInBounds_toArray, List.set_cons_zero, List.set_cons_succ]
      refine wpAnyH_take (i := 6) (oi := ?oi6a) (v := ?v6a) ?hi6a (by kernel_rfl) (by kernel_rfl) (by kernel_rfl) ?hq6a ?hy6a (by assumption) ?rest6a
      case hi6a => (simp only [List.getElem?_toArray, List.getElem?_cons_zero, List.getElem?_cons_succ]; rfl)
      case hy6a => (refine Or.inl ⟨by rfl, ?_⟩; intro w hSw; (try dsimp only at hSw); go_simp; try with_reducible rfl)
      case hq6a => exact fun _ _ _ h => h
      try simp only [Act.put, List.setIfInBounds_toArray, List.set_cons_zero, List.set_cons_succ]
      refine wpAnyH_take (i := 7) (oi := ?oi7a) (v := ?v7a) ?hi7a (by kernel_rfl) (by kernel_rfl) (by kernel_rfl) ?hq7a ?hy7a (by assumption) ?rest7a
      case hi7a => (simp only [List.getElem?_toArray, List.getElem?_cons_zero, List.getElem?_cons_succ]; rfl)
      case hy7a => (refine Or.inl ⟨by rfl, ?_⟩; intro w hSw; (try dsimp only at hSw); go_simp; try with_reducible rfl)
      case hq7a => exact fun _ _ _ h => h
      try simp only [Act.put, List.setIfInBounds_toArray, List.set_cons_zero, List.set_cons_succ]
      refine wpAnyH_take (i := 9) (oi := ?oi9a) (v := ?v9a) ?hi9a (by kernel_rfl) (by kernel_rfl) (by kernel_rfl) ?hq9a ?hy9a (by assumption) ?rest9a
      case hi9a => (simp only [List.getElem?_toArray, List.getElem?_cons_zero, List.getElem?_cons_succ]; rfl)
      case hy9a => (refine Or.inl ⟨by rfl, ?_⟩; intro w hSw; (try dsimp only at hSw); go_simp; try with_reducible rfl)
      case hq9a => exact fun _ _ _ h => h
      try simp only [Act.put, List.setIfInBounds_toArray, List.set_cons_zero, List.set_cons_succ]
      refine wpAnyH_take (i := 10) (oi := ?oi10a) (v := ?v10a) ?hi10a (by kernel_rfl) (by kernel_rfl) (by kernel_rfl) ?hq10a ?hy10a (by assumption) ?rest10a
      case hi10a => (simp only [List.getElem?_toArray, List.getElem?_cons_zero, List.getElem?_cons_succ]; rfl)
      case hy10a => (refine Or.inl ⟨by rfl, ?_⟩; intro w hSw; (try dsimp only at hSw); go_simp; try with_reducible rfl)
      case hq10a => exact fun _ _ _ h => h
      try simp only [Act.put, List.setIfInBounds_toArray, List.set_cons_zero, List.set_cons_succ]
      refine wpAnyH_ready (rs := [8]) (by kernel_rfl) (by simp) ?_
      refine AllReadyH.cons (o := ?o8b) ?ho8b (fun K hK => ?st8b) ?mo8b
      case ho8b => (simp only [List.getElem?_toArray, List.getElem?_cons_zero, List.getElem?_cons_succ]; rfl)
      · skip
        go_simp
        obtain ⟨w4, hw4⟩ : ∃ x, x = wd.alloc (.cells #[.int .i64 (k : Int), .int .i64 r.gn, .int .i64 r.fn, .int .u8 (r.s.1.toNat : Int), .int .u8 (r.s.2.1.toNat : Int), .int .u8 (r.s.2.2.1.toNat : Int), .int .u8 (r.s.2.2.2.toNat : Int)] 96) := ⟨_, rfl⟩
        rw [← hw4]
        have hb4 : Below wd.heap.size wd w4 := by rw [hw4]; exact one_box' _ _
        have hB4 : Blk w4 wd.heap.size 96 (jcs (k : Int) r.gn r.fn r.s) := by rw [hw4]; exact Blk.new _ _ _
        have hb34 := Below.then HBD.out hb4
        refine hK.out _ _ (HSX.out _ hb34) (fun _ => ?_)
        have H4 := Lib.hid (And.intro hB4 hb34)
        clear hK K hw4 hb4 hB4 hb34
        try simp only [Act.put, List.setIfInBounds_toArray, List.set_cons_zero, List.set_cons_succ]
        refine wpAnyH_take (i := 11) (oi := ?oi11c) (v := ?v11c) ?hi11c (by kernel_rfl) (by kernel_rfl) (by kernel_rfl) ?hq11c ?hy11c (by assumption) ?rest11c
        case hi11c => (simp only [List.getElem?_toArray, List.getElem?_cons_zero, List.getElem?_cons_succ]; rfl)
        case hy11c => (refine Or.inl ⟨by rfl, ?_⟩; intro w hSw; (try dsimp only at hSw); go_simp; try with_reducible rfl)
        case hq11c => exact fun _ _ _ h => h
        try simp only [Act.put, List.setIfInBounds_toArray, List.set_cons_zero, List.set_cons_succ]
        refine wpAnyH_take (i := 12) (oi := ?oi12c) (v := ?v12c) ?hi12c (by kernel_rfl) (by kernel_rfl) (by kernel_rfl) ?hq12c ?hy12c (by assumption) ?rest12c
        case hi12c => (simp only [List.getElem?_toArray, List.getElem?_cons_zero, List.getElem?_cons_succ]; rfl)
        case hy12c => (refine Or.inl ⟨by rfl, ?_⟩; intro w hSw; (try dsimp only at hSw); go_simp; try with_reducible rfl)
        case hq12c => exact fun _ _ _ h => h
        try simp only [Act.put, List.setIfInBounds_toArray, List.set_cons_zero, List.set_cons_succ]
        refine wpAnyH_take (i := 13) (oi := ?oi13c) (v := ?v13c) ?hi13c (by kernel_rfl) (by kernel_rfl) (by kernel_rfl) ?hq13c ?hy13c (by assumption) ?rest13c
        case hi13c => (simp only [List.getElem?_toArray, List.getElem?_cons_zero, List.getElem?_cons_succ]; rfl)
        case hy13c => (refine Or.inl ⟨by rfl, ?_⟩; intro w hSw; (try dsimp only at hSw); go_simp; try with_reducible rfl)
        case hq13c => exact fun _ _ _ h => h
        try simp only [Act.put, List.setIfInBounds_toArray, List.set_cons_zero, List.set_cons_succ]
        refine wpAnyH_take (i := 14) (oi := ?oi14c) (v := ?v14c) ?hi14c (by kernel_rfl) (by kernel_rfl) (by kernel_rfl) ?hq14c ?hy14c (by assumption) ?rest14c
        case hi14c => (simp only [List.getElem?_toArray, List.getElem?_cons_zero, List.getElem?_cons_succ]; rfl)
        case hy14c => (refine Or.inl ⟨by rfl, ?_⟩; intro w hSw; (try dsimp only at hSw); go_simp; try with_reducible rfl)
        case hq14c => exact fun _ _ _ h => h
        try simp only [Act.put, List.setIfInBounds_toArray, List.set_cons_zero, List.set_cons_succ]
        refine wpAnyH_done (by kernel_rfl) ?_ _
        go_wp2
        refine bodyPost_ret (v := .tuple #[.pointer (some ⟨wd.heap.size, 0, none⟩), .slice r.A r.m r.c, .slice none 0 0, .int .i64 0]) (by simp [results, Tryd.results17, go_sem]) rfl ⟨HBW.out.trans (H4.out.2.mono HBW.out.size), ?_⟩
        rw [HJ.out.1]
        refine ⟨wd.heap.size, _, _, K, rfl, Nat.le_trans HBW.out.size HBD.out.size, ⟨r.s, ?_, ?_⟩, HVV.out.2.2.2.2.1, (HO3.out.below H4.out.2).mono HB1.out.size, WOut.nil⟩
        · rw [HJ.out.2.1, ← HC.out, ← HVV.out.2.2.1, ← HVV.out.2.1]
          exact H4.out.1
        · rw [HJ.out.2.1]
          exact HJ.out.2.2
      exact AllReadyH.nil
    | false =>
      rw [hc] at hcl
      rw [hcl] at a1
      have hc2 := of_decide_eq_false hc
      have HC := Lib.hid hc2
      clear hc hc2 hcl
      by_cases hgm : x.gen = 4611686018427387904
      · have b0 : (r.gn == 4611686018427387904) = true := by rw [HVV.out.2.1, hgm]; rfl
        have HG := Lib.hid hgm
        clear hgm
        go_wp2
        refine bodyPost_ret (v := .tuple #[.pointer none, .slice none 0 0, .slice none 0 0, .int .i64 3]) (by simp [results, Tryd.results17, go_sem]) rfl ⟨HBW.out, ?_⟩
        have hJ : openR f = .spent := by
          unfold openR
          rw [HP.out]
          dsimp only
          rw [if_neg HC.out, if_pos HG.out]
        rw [hJ]
      · have b0 : (r.gn == 4611686018427387904) = false := by rw [HVV.out.2.1]; simp only [beq_eq_false_iff_ne, ne_eq]; omega
        have HG : Hid (¬ x.gen = 4611686018427387904) := Lib.hid hgm
        clear hgm
        have hgx := HTD.out.gen
        have hgn := HVV.out.2.1
        have hg1 : 0 ≤ r.gn := by omega
        have hg2 : r.gn ≤ 4611686018427387904 := by omega
        have hk2 : (k : Int) ≤ 1 := by omega
        have HGN := Lib.hid hgn
        clear hgn
        go_upto_region 13 with fail
        have eF : (1 : Int) - (k : Int) = ((1 - k : Nat) : Int) := by omega
        have eG : r.gn + 1 = ((x.gen + 1 : Nat) : Int) := by have := HGN.out; omega
        rw [eF, eG]
        clear eF eG a0 a1 a2 a4 a5 a6 a7 a8
        obtain ⟨w4, hw4⟩ : ∃ y, y = w3.alloc (.cells #[.int .i64 ((1 - k : Nat) : Int), .int .i64 ((x.gen + 1 : Nat) : Int), .int .i64 0, .int .u8 0, .int .u8 0, .int .u8 0, .int .u8 0] 96) := ⟨_, rfl⟩
        rw [← hw4]
        have hb4 : Below w3.heap.size w3 w4 := by rw [hw4]; exact one_box' _ _
        have hB4 : Blk w4 w3.heap.size 96 (jcs ((1 - k : Nat) : Int) ((x.gen + 1 : Nat) : Int) 0 (0, 0, 0, 0)) := by rw [hw4]; exact Blk.new _ _ _
        obtain ⟨wd, hwd⟩ : ∃ wd, wd = w4.drew := ⟨_, rfl⟩
        have hbd : Below w3.heap.size w3 wd := by rw [hwd]; exact below_drewN hb4 1
        have hBd : Blk wd w3.heap.size 96 (jcs ((1 - k : Nat) : Int) ((x.gen + 1 : Nat) : Int) 0 (0, 0, 0, 0)) := by rw [hwd]; exact hB4.drewN 1
        have hOd := HO3.out.below hbd
        have hq3 : w2.heap.size < w3.heap.size := HB3.out.lt
        have hSd : wd.cell? ⟨w2.heap.size, 3, none⟩ = some (.slice r.A r.m r.c) := (lv_cells (HB3.out.over hbd)).1.2.2.2.1
        have hrk : r.m = K.length := HVV.out.2.2.2.2.2.1
        have hrd : RcRd wd (fun y => y = w3.heap.size) r.A r.m x.recs := by
          rw [← HVV.out.2.2.2.2.1]
          have h2 : RcRd wd (fun y => y = w3.heap.size) r.A K.length (K.map Rk.rc) := by
            have h3 := hOd
            rw [hrk] at h3
            obtain ⟨hown, hbod, hpw⟩ := h3
            have off : ∀ {t g : Nat}, IsT wd t g → t ≠ 96 → g ≠ w3.heap.size := fun ht hne e => by
              subst e
              exact hne (ht.eq_ hBd.isT)
            exact RcOwn.rdT ⟨hown, hbod, hpw⟩ fun g _ ht => ht.elim (fun h => off h (by decide)) (fun h => off h (by decide))
          rw [hrk]
          exact h2
        have hnib : 0 < w.heap.size := cell_lt (HT.out 0 (by omega))
        have hwl := HBW.out.size
        have hbod : bodies x.recs ≤ 65536 := by
          have h1 := HTD.out.len18
          have h2 := HTD.out.hi
          have h3 := HTD.out.len
          omega
        have HBG := Lib.hid (begin_any w3.heap.size _ 0 _ (0, 0, 0, 0) r.A r.m r.c x.recs wd hBd hrd HTD.out.ok (by omega) (by omega) (HT.out.below (HBW.out.trans (hbd.mono hwl))) (by omega))
        have hlx : x.recs.length = r.m := by rw [hrk, ← HVV.out.2.2.2.2.1, List.length_map]
        have HD := Lib.hid (And.intro hbd (And.intro hOd (And.intro (HB3.out.over hbd) hlx)))
        have HWD := Lib.hid hwd
        have HJT := Lib.hid hBd.isT
        clear hw4 hb4 hB4 hwd hbd hBd hOd hrk hrd hnib hbod hlx
        refine wp_region_held_drew (S := fun W => W.cell? ⟨w2.heap.size, 3, none⟩ = some (.slice r.A r.m r.c)) (by kernel_rfl) (by rw [← HWD.out]; exact hSd) (fun hsw => ?_)
        rw [← HWD.out] at hsw ⊢
        refine wpAnyH_take (i := 0) (oi := ?oi0ea) (v := ?v0ea) ?hi0ea (by kernel_rfl) (by kernel_rfl) (by kernel_rfl) ?hq0ea ?hy0ea (by assumption) ?rest0ea
        case hi0ea => (simp only [List.getElem?_toArray, List.getElem?_cons_zero]; rfl)
        case hy0ea => (refine Or.inl ⟨by rfl, ?_⟩; intro w hSw; (try dsimp only at hSw); go_simp; try with_reducible rfl)
        case hq0ea => exact fun _ _ _ h => h
        try simp only [Act.put, List.setIfInBounds_toArray, List.set_cons_zero, List.set_cons_succ]
        refine wpAnyH_take (i := 1) (oi := ?oi1ea) (v := ?v1ea) ?hi1ea (by kernel_rfl) (by kernel_rfl) (by kernel_rfl) ?hq1ea ?hy1ea (by assumption) ?rest1ea
        case hi1ea => (simp only [List.getElem?_toArray, List.getElem?_cons_zero, List.getElem?_cons_succ]; rfl)
        case hy1ea => (refine Or.inl ⟨by rfl, ?_⟩; intro w hSw; (try dsimp only at hSw); go_simp; try with_reducible rfl)
        case hq1ea => exact fun _ _ _ h => h
        try simp only [Act.put, List.setIfInBounds_toArray, List.set_cons_zero, List.set_cons_succ]
        refine wpAnyH_take (i := 2) (oi := ?oi2ea) (v := ?v2ea) ?hi2ea (by kernel_rfl) (by kernel_rfl) (by kernel_rfl) ?hq2ea ?hy2ea (by assumption) ?rest2ea
        case hi2ea => (simp only [List.getElem?_toArray, List.getElem?_cons_zero, List.getElem?_cons_succ]; rfl)
        case hy2ea => (refine Or.inl ⟨by rfl, ?_⟩; intro w hSw; (try dsimp only at hSw); go_simp; try with_reducible rfl)
        case hq2ea => exact fun _ _ _ h => h
        try simp only [Act.put, List.setIfInBounds_toArray, List.set_cons_zero, List.set_cons_succ]
        refine wpAnyH_take (i := 3) (oi := ?oi3ea) (v := ?v3ea) ?hi3ea (by kernel_rfl) (by kernel_rfl) (by kernel_rfl) ?hq3ea ?hy3ea (by assumption) ?rest3ea
        case hi3ea => (simp only [List.getElem?_toArray, List.getElem?_cons_zero, List.getElem?_cons_succ]; rfl)
        case hy3ea => (refine Or.inl ⟨by rfl, ?_⟩; intro w hSw; (try dsimp only at hSw); go_simp; try with_reducible rfl)
        case hq3ea => exact fun _ _ _ h => h
        try simp only [Act.put, List.setIfInBounds_toArray, List.set_cons_zero, List.set_cons_succ]
        refine wpAnyH_take (i := 4) (oi := ?oi4ea) (v := ?v4ea) ?hi4ea (by kernel_rfl) (by kernel_rfl) (by kernel_rfl) ?hq4ea ?hy4ea (by assumption) ?rest4ea
        case hi4ea => (simp only [List.getElem?_toArray, List.getElem?_cons_zero, List.getElem?_cons_succ]; rfl)
        case hy4ea => (refine Or.inl ⟨by rfl, ?_⟩; intro w hSw; (try dsimp only at hSw); go_simp; try with_reducible rfl)
        case hq4ea => exact fun _ _ _ h => h
        try simp only [Act.put, List.setIfInBounds_toArray, List.set_cons_zero, List.set_cons_succ]
        refine wpAnyH_take (i := 5) (oi := ?oi5ea) (v := ?v5ea) ?hi5ea (by kernel_rfl) (by kernel_rfl) (by kernel_rfl) ?hq5ea ?hy5ea (by assumption) ?rest5ea
        case hi5ea => (simp only [List.getElem?_toArray, List.getElem?_cons_zero, List.getElem?_cons_succ]; rfl)
        case hy5ea => (refine Or.inl ⟨by rfl, ?_⟩; intro w hSw; (try dsimp only at hSw); go_simp; try with_reducible rfl)
        case hq5ea => exact fun _ _ _ h => h
        try simp only [Act.put, List.setIfInBounds_toArray, List.set_cons_zero, List.set_cons_succ]
        refine wpAnyH_ready (rs := [6]) (by kernel_rfl) (by simp) ?_
        refine AllReadyH.cons (o := ?o6eb) ?ho6eb (fun K hK => ?st6eb) ?mo6eb
        case ho6eb => (simp only [List.getElem?_toArray, List.getElem?_cons_zero, List.getElem?_cons_succ]; rfl)
        · skip
          go_simp
          refine HBG.out.mono ?_
          rintro _ w5 ⟨g, c, s', rfl, ho5, hl5, hj5, hc5⟩
          have hS5 : w5.cell? ⟨w2.heap.size, 3, none⟩ = some (.slice r.A r.m r.c) := (lv_cells (HD.out.2.2.1.chg hc5 (by omega))).1.2.2.2.1
          have H5 := Lib.hid (And.intro ho5 (And.intro hl5 (And.intro hj5 hc5)))
          have HS5 := Lib.hid hS5
          refine hK.out _ _ HS5.out (fun _ => ?_)
          clear hK K ho5 hl5 hj5 hc5 hS5
          try simp only [Act.put, List.setIfInBounds_toArray, List.set_cons_zero, List.set_cons_succ]
          refine wpAnyH_take (i := 8) (oi := ?oi8ec) (v := ?v8ec) ?hi8ec (by kernel_rfl) (by kernel_rfl) (by kernel_rfl) ?hq8ec ?hy8ec (by assumption) ?rest8ec
          case hi8ec => (simp only [List.getElem?_toArray, List.getElem?_cons_zero, List.getElem?_cons_succ]; rfl)
          case hy8ec => (refine Or.inl ⟨by rfl, ?_⟩; intro w hSw; (try dsimp only at hSw); go_simp; try with_reducible rfl)
          case hq8ec => exact fun _ _ _ h => h
          try simp only [Act.put, List.setIfInBounds_toArray, List.set_cons_zero, List.set_cons_succ]
          refine wpAnyH_take (i := 9) (oi := ?oi9ec) (v := ?v9ec) ?hi9ec (by kernel_rfl) (by kernel_rfl) (by kernel_rfl) ?hq9ec ?hy9ec (by assumption) ?rest9ec
          case hi9ec => (simp only [List.getElem?_toArray, List.getElem?_cons_zero, List.getElem?_cons_succ]; rfl)
          case hy9ec => (refine Or.inl ⟨by rfl, ?_⟩; intro w hSw; (try dsimp only at hSw); go_simp; try with_reducible rfl)
          case hq9ec => exact fun _ _ _ h => h
          try simp only [Act.put, List.setIfInBounds_toArray, List.set_cons_zero, List.set_cons_succ]
          refine wpAnyH_ready (rs := [7]) (by kernel_rfl) (by simp) ?_
          refine AllReadyH.cons (o := ?o7ed) ?ho7ed (fun K hK => ?st7ed) ?mo7ed
          case ho7ed => (simp only [List.getElem?_toArray, List.getElem?_cons_zero, List.getElem?_cons_succ]; rfl)
          · skip
            go_simp
            obtain ⟨w6, hw6⟩ : ∃ y, y = w5.alloc (.cells #[.int .i64 ((1 - k : Nat) : Int), .bool true, .slice (some ⟨g, 0, none⟩) (18 + bodies x.recs) c] 94) := ⟨_, rfl⟩
            have hb6 : Below w5.heap.size w5 w6 := by rw [hw6]; exact one_box' _ _
            have hwo : WOut w6 wd.heap.size (.slice (some ⟨w5.heap.size, 0, none⟩) 1 1) [⟨((1 - k : Nat) : Int), true, textB (x.gen + 1) r.m x.recs⟩] := by
              rw [hw6]
              exact wout_one (x := ⟨((1 - k : Nat) : Int), true, textB (x.gen + 1) r.m x.recs⟩) (textB_length _ _ _) (by omega) H5.out.1 H5.out.2.2.2.size
            rw [← hw6]
            have hS6 := (hb6.cell (p := ⟨w2.heap.size, 3, none⟩) (cell_lt HS5.out)).trans HS5.out
            refine hK.out _ _ hS6 (fun _ => ?_)
            have H6 := Lib.hid (And.intro hb6 hwo)
            clear hK K hw6 hb6 hwo hS6
            try simp only [Act.put, List.setIfInBounds_toArray, List.set_cons_zero, List.set_cons_succ]
            refine wpAnyH_take (i := 10) (oi := ?oi10ef) (v := ?v10ef) ?hi10ef (by kernel_rfl) (by kernel_rfl) (by kernel_rfl) ?hq10ef ?hy10ef (by assumption) ?rest10ef
            case hi10ef => (simp only [List.getElem?_toArray, List.getElem?_cons_zero, List.getElem?_cons_succ]; rfl)
            case hy10ef => (refine Or.inl ⟨by rfl, ?_⟩; intro w hSw; (try dsimp only at hSw); go_simp; try with_reducible rfl)
            case hq10ef => exact fun _ _ _ h => h
            try simp only [Act.put, List.setIfInBounds_toArray, List.set_cons_zero, List.set_cons_succ]
            refine wpAnyH_take (i := 11) (oi := ?oi11ef) (v := ?v11ef) ?hi11ef (by kernel_rfl) (by kernel_rfl) (by kernel_rfl) ?hq11ef ?hy11ef (by assumption) ?rest11ef
            case hi11ef => (simp only [List.getElem?_toArray, List.getElem?_cons_zero, List.getElem?_cons_succ]; rfl)
            case hy11ef => (refine Or.inl ⟨by rfl, ?_⟩; intro w hSw; (try dsimp only at hSw); go_simp; try with_reducible rfl)
            case hq11ef => exact fun _ _ _ h => h
            try simp only [Act.put, List.setIfInBounds_toArray, List.set_cons_zero, List.set_cons_succ]
            refine wpAnyH_done (by kernel_rfl) ?_ _
            go_wp2
            have hch : Chg (fun y => y = w3.heap.size) wd w6 := H5.out.2.2.2.trans (Chg.of_below H6.out.1 _)
            refine bodyPost_ret (v := .tuple #[.pointer (some ⟨w3.heap.size, 0, none⟩), .slice r.A r.m r.c, .slice (some ⟨w5.heap.size, 0, none⟩) 1 1, .int .i64 0]) (by simp [results, Tryd.results17, go_sem]) rfl ⟨(HBW.out.trans (HD.out.1.mono hwl)).trans (hch.to_below (Nat.le_trans hwl HD.out.1.size) fun y e => by omega), ?_⟩
            have hJ : openR f = .ok ⟨1 - k, x.gen + 1, x.recs.length, x.recs⟩ x.recs [⟨((1 - k : Nat) : Int), true, textB (x.gen + 1) x.recs.length x.recs⟩] := by
              unfold openR
              rw [HP.out]
              dsimp only
              rw [if_neg HC.out, if_neg HG.out]
            rw [hJ]
            have hlm := HD.out.2.2.2
            refine ⟨w3.heap.size, _, _, K, rfl, hwl, ⟨s', ?_, ?_⟩, HVV.out.2.2.2.2.1, ((HD.out.2.1.chgT hch fun y _ ht e => ?_).mono HB1.out.size), (by rw [hlm]; exact H6.out.2.mono (Nat.le_trans hwl HD.out.1.size))⟩
            · have e1 : JP.text ⟨1 - k, x.gen + 1, x.recs.length, x.recs⟩ = textB (x.gen + 1) r.m x.recs := by rw [← hlm]; rfl
              rw [e1, textB_length]
              exact H5.out.2.2.1.over H6.out.1
            · have e1 : JP.text ⟨1 - k, x.gen + 1, x.recs.length, x.recs⟩ = textB (x.gen + 1) r.m x.recs := by rw [← hlm]; rfl
              rw [e1]
              exact H5.out.2.1
            · have hT5 : IsT wd 96 w3.heap.size := by
                rcases HJT.out with h
                exact h
              subst e
              exact ht.elim (fun h => absurd (h.eq_ hT5) (by decide)) (fun h => absurd (h.eq_ hT5) (by decide))
          exact AllReadyH.nil
        exact AllReadyH.nil
theorem appN2 {P : Program} {ops : Array Oper} {rest : List Oper} {o : Oper} {a : Act} {Q : Exit → Act → World → Prop} (W : World) (hgd : o.guard = none) (s x : Operand) (t : TypeId)
    (ho : o.op = .call { callee := .builtin .append, args := #[s, x], argTypes := #[t, t] })
    (base : Nat) (e : TypeId) (i : TypeInfo) (z : Value) (size bytes : Nat) (ht : P.underlying t = some (.slice e)) (hi : P.info? e = some i) (hz : i.zero = some z)
    (hsize : i.size = size) (hby : i.bytes = bytes) (hzs : z.cells.size = size) (hsz : 0 < size)
    (v : Value) (n : Nat) (xs : List Value) (hs : a.eval s = v) (hown : W.ownsRow base e size v n xs)
    (us : Array Value) (hu : us.size = size) (hx : a.eval x = .slice (some ⟨W.heap.size, 0, none⟩) 1 1) (h1 : ∀ u ∈ us.toList, u.oneCell' = true)
    (h63 : n + 1 ≤ maxLen) (hbytes : (n + 1) * bytes ≤ 140737488355328) (hbase : base ≤ W.heap.size)
    (h : ∀ v' w', w'.ownsRow base e size v' (n + 1) (xs ++ us.toList) → Below base W w' → W.grownBy w' v.ownBlock → (v'.ownBlock = v.ownBlock ∨ v'.ownBlock = some (W.heap.size + 1)) → wpList P ops Q rest (a.put o.dst v') w') :
    wpList P ops Q (o :: rest) a (W.alloc (.cells us e)) := by
  have hown2 : (W.alloc (.cells us e)).ownsRow base e size v n xs := hown.alloc _
  refine wpList_append_any (P := P) _ hgd s x t ho base e i z size bytes ht hi hz hsize hby hzs hsz v n xs hs hown2 (W.heap.size + 1) (some ⟨W.heap.size, 0, none⟩) 1 1 us.toList hx ?_ h1 h63 hbytes (by simp; omega) ?_
  · refine ⟨by simp [hu], fun _ => ⟨W.heap.size, 0, rfl, by omega, fun j y hj => ?_⟩⟩
    rw [Nat.zero_add, (Blk.new W e us).cell j, ← Array.getElem?_toList]
    exact hj
  · intro v' w' h2 h3 h4
    have hal : W.grownBy (W.alloc (.cells us e)) v.ownBlock := ⟨rfl, rfl, rfl, by simp, fun k hk _ => Below.heap_alloc _ _ _ hk⟩
    exact h v' w' h2 (((Below.refl _ _).alloc hbase _).trans (below_app hown2 h3 (by simp; omega)))
      ⟨h3.os.trans hal.os, h3.tape.trans hal.tape, h3.output.trans hal.output, Nat.le_trans hal.size h3.size, fun k hk hn => (h3.block k (by simp; omega) hn).trans (hal.block k hk hn)⟩ (by simpa using h4)
end Go.Proofs.YtpkdalpjfcopbaaDoor
