/-
  JournalAll: begins, plays.
-/
import Derived.Test.YtpkdalpjfcopbaaDoorMPairW
namespace Go.Proofs.YtpkdalpjfcopbaaDoor
open Go.RowKit
theorem cost_one (x : Wr) : costW [x] ≤ x.bs.length + 1 := by
  unfold costW Wr.cost
  simp only [List.map_cons, List.map_nil, List.sum_cons, List.sum_nil]
  repeat' split
  all_goals omega
theorem append_fine {j : JP} (r : Rc) (hf : j.Fine) : (j.append r).1.Fine ∧ costW (j.append r).2.1 ≤ 65537 := by
  unfold JP.append
  split
  · rename_i hr
    split
    · rename_i hl
      obtain ⟨k, _, _, _, hb⟩ := Rc.ok_k hr
      refine ⟨⟨hf.file, hf.gen, hf.count, ?_, fun x hx => ?_⟩, ?_⟩
      · rw [JP.append_text, List.length_append, frameB_length]
        omega
      · rcases List.mem_append.1 hx with h | h
        · exact hf.ok x h
        · simp at h
          rw [h]
          exact hr
      · have h1 := cost_one ⟨(j.file : Int), false, frameB (last4 j.text) r⟩
        have h2 : (frameB (last4 j.text) r).length = 8 + r.body.length := frameB_length _ _
        dsimp only at h1 ⊢
        omega
    · exact ⟨hf, by simp [costW]⟩
  · exact ⟨hf, by simp [costW]⟩
theorem compact_fine2 {j : JP} (r : Rc) (hf : j.Fine) : (j.compact r).1.Fine ∧ costW (j.compact r).2.1 ≤ 65537 := by
  unfold JP.compact
  split
  · rename_i hr
    split
    · exact ⟨hf, by simp [costW]⟩
    · rename_i hg
      have h := compact_fine hf hr hg
      refine ⟨h, ?_⟩
      have h1 := cost_one ⟨((1 - j.file : Nat) : Int), true, textB (j.gen + 1) 1 [r]⟩
      have h2 : (textB (j.gen + 1) 1 [r]).length ≤ 65536 := h.len
      dsimp only at h1 ⊢
      omega
  · exact ⟨hf, by simp [costW]⟩
theorem PAt.noNib {w : World} {G : Nat → Prop} {pg jg kg : Nat} {Fk : Nat → Prop} {A0 : Option Addr} {c0 : Nat} {A1 : Option Addr} {c1 : Nat} {j : JP} {f : Fls} (h : PAt w G pg jg kg Fk A0 c0 A1 c1 j f) (ht : Nibs w) : 0 ≠ pg := fun e => by
  have h0 := ht 0 (by omega)
  subst e
  rw [h.blk.cell 0] at h0
  cases h0
theorem PAt.noNibJ {w : World} {G : Nat → Prop} {pg jg kg : Nat} {Fk : Nat → Prop} {A0 : Option Addr} {c0 : Nat} {A1 : Option Addr} {c1 : Nat} {j : JP} {f : Fls} (h : PAt w G pg jg kg Fk A0 c0 A1 c1 j f) (ht : Nibs w) : 0 ≠ jg := by
  obtain ⟨s, hB, _⟩ := h.pj.blk
  exact ht.off hB rfl
set_option maxRecDepth 100000 in
set_option maxHeartbeats 800000 in
theorem begins_any {w : World} (ht : Nibs w) :
    Calls Tryd.prog 28 #[] w fun e w' => ∃ pg G f, e = .returned (.pointer (some ⟨pg, 0, none⟩)) ∧ POk w' G pg newJ f ∧ (∀ k, G k → w.heap.size ≤ k) ∧ f.a.length + f.b.length ≤ 65537 ∧ Below w.heap.size w w' := by
  have HN := Lib.hid (New_any ht)
  have HT := Lib.hid ht
  clear ht
  go_enter Tryd.func28, Tryd.ntmps28
  go_upto_region 2 with (go_at_call 49; refine HN.out.mono ?_; rintro _ w1 ⟨jg, v1, rfl, hjg, hp1, ho1, hb1⟩; obtain ⟨Aw, cw, rfl⟩ := ho1.shapeN; have H1 := Lib.hid (And.intro hjg (And.intro hp1 (And.intro ho1 hb1))); clear hjg hp1 ho1 hb1)
  have HR := Lib.hid (RNew_any (w := w1))
  go_upto_region 3 with (go_at_call 52; refine HR.out.mono ?_; rintro _ w2 ⟨kg, v2, F, rfl, hr2, hF2, ho2, hb2⟩; obtain ⟨Av, cv, rfl⟩ := ho2.shapeN; have H2 := Lib.hid (And.intro (rj_cut hr2) (And.intro hF2 (And.intro ho2 hb2))); clear hr2 hF2 ho2 hb2)
  have HWY := Lib.hid (writes_yes (w := w2) (c1 := cw) (c2 := cv) (H1.out.2.2.1.below H2.out.2.2.2).wsN H2.out.2.2.1.wsN (by simp))
  go_upto_region 6 with (go_at_call 21; refine HWY.out.mono ?_; rintro _ w3 ⟨rfl, hb3⟩; have H3 := Lib.hid hb3; clear hb3)
  obtain ⟨w4, hw4⟩ : ∃ w4, w4 = w3.alloc (.cells #[.pointer (some ⟨jg, 0, none⟩), .pointer (some ⟨kg, 0, none⟩), .slice none 0 0, .slice none 0 0] 108) := ⟨_, rfl⟩
  rw [← hw4]
  have hb4 : Below w3.heap.size w3 w4 := by rw [hw4]; exact one_box' _ _
  have hB4 : Blk w4 w3.heap.size 108 #[.pointer (some ⟨jg, 0, none⟩), .pointer (some ⟨kg, 0, none⟩), .slice none 0 0, .slice none 0 0] := by rw [hw4]; exact Blk.new _ _ _
  have hb23 := H3.out
  have hb24 := Below.then H3.out hb4
  have hs1 := H1.out.2.2.2.size
  have hs2 := H2.out.2.2.2.size
  have hs3 := H3.out.size
  have hP4 : PAt w4 (fun k => w.heap.size ≤ k ∧ k < w4.heap.size) w3.heap.size jg kg (fun k => F k ∧ k < w2.heap.size) none 0 none 0 newJ ⟨[], []⟩ :=
    ⟨hB4, (H1.out.2.1.below H2.out.2.2.2).below hb24, H2.out.1.below hb24, fun k hk => ⟨by have := H2.out.2.1 k hk.1; omega, by have := hb24.size; omega⟩, fun hk => by have := H2.out.2.1 _ hk.1; have := H1.out.2.1.lt; omega, fun hk => by omega,
      ⟨H1.out.1, by have := H1.out.2.1.lt; have := hb24.size; omega⟩, ⟨by omega, hB4.lt⟩, fun k hk => hk.2, ⟨by simp [bvs], .inl ⟨rfl, rfl⟩⟩, ⟨by simp [bvs], .inl ⟨rfl, rfl⟩⟩, fun g hg => by simp [Value.ownBlock] at hg, fun g hg => by simp [Value.ownBlock] at hg⟩
  have hcost := cost_one ⟨0, true, headB 1 0⟩
  have hhl : (headB 1 0).length = 18 := headB_length 1 0
  dsimp only at hcost
  have HMK := Lib.hid (makes_any (cap := cv) (n := 1) hP4 (H2.out.2.2.1.below hb24).wsN (by omega) (by omega) (by simp) (-1) (by omega))
  have HP4 := Lib.hid hP4
  have HB24 := Lib.hid hb24
  have HBW4 : Hid (Below w.heap.size w w4) := Lib.hid (Below.then (Below.then H1.out.2.2.2 H2.out.2.2.2) hb24)
  have HC := Lib.hid hcost
  clear hw4 hb4 hB4 hb23 hb24 hP4 hcost hhl
  go_wp2_with (go_at_call 59; refine HMK.out.mono ?_; rintro _ w8 ⟨rfl, ⟨B0, e0, B1, e1, hp8⟩, hc8⟩; have H8 := Lib.hid (And.intro hp8 hc8); clear hp8 hc8)
  go_ret
  have hs8 := H8.out.2.size
  have hs4 := HBW4.out.size
  refine ⟨_, _, _, rfl, ⟨_, _, _, _, _, _, _, H8.out.1⟩, fun k hk => ?_, ?_, HBW4.out.trans (H8.out.2.to_below hs4 fun k e => by omega)⟩
  · rcases hk with hk | hk
    · exact hk.1
    · omega
  · have h := apD_len [⟨0, true, headB 1 0⟩] (-1) ⟨[], []⟩
    have hh := HC.out
    have hhl : (headB 1 0).length = 18 := headB_length 1 0
    simp only [List.length_nil] at h
    omega
/-- The pair behind a step of both its journals. -/
theorem PAt.step {w w2 w3 : World} {G : Nat → Prop} {pg jg kg : Nat} {Fk F' : Nat → Prop} {A0 : Option Addr} {c0 : Nat} {A1 : Option Addr} {c1 : Nat} {j j' : JP} {f : Fls} (h : PAt w G pg jg kg Fk A0 c0 A1 c1 j f) (hc : Chg (fun k => k = jg) w w2) (hp : PJAt w2 jg j') (hr : RJAt w3 F' kg j') (hm : Moved w2 w3 Fk F') :
    PAt w3 (Grow G w w3) pg jg kg (fun k => F' k ∧ k < w3.heap.size) A0 c0 A1 c1 j' f ∧ Chg G w w3 := by
  have hjp : pg ≠ jg := by
    obtain ⟨s, hB, _⟩ := h.pj.blk
    exact h.blk.ne_ hB (by decide)
  have hs := hc.size
  have hs2 := hm.2.size
  have hF : ∀ k, F' k → Fk k ∨ w2.heap.size ≤ k := hm.1
  have hpl := h.gs _ h.gp
  have hjl := h.gs _ h.gj
  have hcc : Chg (fun k => k = jg ∨ Fk k) w w3 := (hc.mono fun k _ e => .inl e).trans (hm.2.mono fun k _ hk => .inr hk)
  have off : ∀ {A : Option Addr} {n c : Nat} {xs : List Value}, w.ownsRow 0 5 1 (.slice A n c) n xs → (∀ g, (Value.slice A n c).ownBlock = some g → G g ∧ ¬ Fk g) → ∀ g, (Value.slice A n c).ownBlock = some g → ¬ (g = jg ∨ Fk g) := fun ho hd g hg e => by
    rcases e with e | e
    · obtain ⟨_, _, cur, hB⟩ := own_block_lt ho hg
      obtain ⟨s, hJ, _⟩ := h.pj.blk
      exact hB.ne_ hJ (by decide) e
    · exact (hd g hg).2 e
  have dn : ∀ g, G g ∧ ¬ Fk g → Grow G w w3 g ∧ ¬ (F' g ∧ g < w3.heap.size) := fun g hg => ⟨.inl hg.1, fun hk => (hF g hk.1).elim hg.2 fun h1 => by have := h.gs g hg.1; omega⟩
  refine ⟨⟨h.blk.chg hcc (fun e => e.elim hjp h.fp), hp.chg hm.2 h.fj, rj_cut hr, fun k hk => (hF k hk.1).elim (fun h1 => .inl (h.fk k h1)) fun h1 => .inr ⟨by omega, hk.2⟩, fun hk => (hF _ hk.1).elim h.fj fun h1 => by omega, fun hk => (hF _ hk.1).elim h.fp fun h1 => by omega, .inl h.gj, .inl h.gp,
    grow_lt h.gs (by omega), own_chg h.o0 hcc (off h.o0 h.d0), own_chg h.o1 hcc (off h.o1 h.d1), fun g hg => dn g (h.d0 g hg), fun g hg => dn g (h.d1 g hg)⟩, hcc.mono fun k _ e => e.elim (fun e => e ▸ h.gj) (h.fk k)⟩
theorem dr_chg {S : Nat → Prop} {w w' : World} (h : Chg S w.drew w') : Chg S w w' := ⟨h.os, h.tape, h.output, h.size, h.block⟩
theorem nibs_B {B : Nat} {w w' : World} (h : Nibs w) (hb : Below B w w') (hn : 0 < B) : Nibs w' := fun k hk => (hb.cell (p := ⟨0, k, none⟩) hn).trans (h k hk)
/-- A record's copy in a box of its own. -/
structure Rbx (w : World) (cs : Array Value) (rk : Int) (body : List UInt8) (C g q : Nat) (wc : World) : Prop where
  bw : Below w.heap.size w wc
  c : Blk wc C 34 #[.int .i64 rk, .slice (some ⟨g, 0, none⟩) body.length q]
  s : SpAt wc g q body
  x : Blk wc w.heap.size 57 cs
  gl : w.heap.size < g ∧ w.heap.size < C
theorem Rbx.fin {w W : World} {cs : Array Value} {rk : Int} {body : List UInt8} {C g q : Nat} (bw : Below w.heap.size w W) (hC : Blk W C 34 #[.int .i64 0, .slice none 0 0]) (hs : SpAt W g q body) (hx : Blk W w.heap.size 57 cs) (hg : w.heap.size < g) (hc : w.heap.size < C) :
    Rbx w cs rk body C g q ((W.setCell ⟨C, 0, none⟩ (.int .i64 rk)).setCell ⟨C, 1, none⟩ (.slice (some ⟨g, 0, none⟩) body.length q)) := by
  have hch := two_sets W C (.int .i64 rk) (.slice (some ⟨g, 0, none⟩) body.length q)
  refine ⟨bw.trans (hch.to_below bw.size fun k e => by omega), (hC.set_ 0 _).set_ 1 _, hs.chg hch fun e => ?_, hx.chg hch fun e => by omega, hg, hc⟩
  obtain ⟨cur, hB⟩ := hs.blk
  exact hB.ne_ hC (by decide) e
set_option maxRecDepth 100000 in
set_option maxHeartbeats 6400000 in
theorem plays_any {w : World} {B0 : Nat} {G : Nat → Prop} {pg : Nat} {j : JP} {f : Fls} (kd on kn L rk : Int) (A : Option Addr) (n cap : Nat) (body : List UInt8) (h : POk w G pg j f) (hf : j.Fine) (hBw : B0 ≤ w.heap.size) (hG : ∀ k, G k → B0 ≤ k) (hr : RdB w B0 A n body) (hnc : n ≤ cap) (hcap : cap ≤ 140737488351232)
    (hkn : kn ≤ 9223372036854775807) (hl : f.a.length + f.b.length ≤ 4398045000000) (ht : Nibs w) (hnb : 0 < B0) :
    Calls Tryd.prog 29 #[.pointer (some ⟨pg, 0, none⟩), .agg #[.int .i64 kd, .int .i64 on, .int .i64 kn, .int .i64 L, .int .i64 rk, .slice A n cap]] w (Stays w G pg f 131074) := by
  obtain rfl := hr.lenB
  obtain ⟨jg, kg, Fk, A0, c0, A1, c1, h⟩ := h
  obtain ⟨w1, hw1⟩ : ∃ w1, w1 = w.alloc (.cells #[.int .i64 kd, .int .i64 on, .int .i64 kn, .int .i64 L, .int .i64 rk, .slice A body.length cap] 57) := ⟨_, rfl⟩
  have hb1 : Below w.heap.size w w1 := by rw [hw1]; exact one_box' _ _
  have hX1 : Blk w1 w.heap.size 57 #[.int .i64 kd, .int .i64 on, .int .i64 kn, .int .i64 L, .int .i64 rk, .slice A body.length cap] := by rw [hw1]; exact Blk.new _ _ _
  have hs1 : w1.heap.size = w.heap.size + 1 := by rw [hw1]; simp
  have HRR : Hid (∀ W, Below B0 w W → RdB W B0 A body.length body) := Lib.hid fun W hW => hr.below hW
  have HSZ : Hid (∀ k, G k → k < w.heap.size) := Lib.hid h.gs
  have HGB := Lib.hid hG
  have H := Lib.hid h
  have HF := Lib.hid hf
  have HT := Lib.hid ht
  have HNB := Lib.hid hnb
  have HW1 := Lib.hid hw1
  have H1 := Lib.hid (And.intro hb1 (And.intro hX1 hs1))
  have k0 : w1.cell? ⟨w.heap.size, 0, none⟩ = some (.int .i64 kd) := hX1.cell 0
  have k2 : w1.cell? ⟨w.heap.size, 2, none⟩ = some (.int .i64 kn) := hX1.cell 2
  have HSAME : Hid (∀ W, Below w.heap.size w W → Stays w G pg f 131074 (.returned (.bool true)) W) := Lib.hid fun W hW => ⟨rfl, j, f, ⟨_, _, _, _, _, _, _, (h.over hW).mono (fun k hk => .inl hk) (grow_lt h.gs hW.size)⟩, hf, by omega, Chg.of_below hW _⟩
  clear h hf hG hr ht hnb hw1 hb1 hX1 hs1
  by_cases h6 : kd = 6
  · have b6 : (kd == 6) = true := by simpa using h6
    have b7 : (kd == 7) = false := by simp [h6]
    have b1 : (kd == 1) = false := by simp [h6]
    have b2 : (kd == 2) = false := by simp [h6]
    clear h6
    go_enter Tryd.func29, Tryd.ntmps29
    go_upto_if 24 with fail
    rw [← HW1.out]
    go_cut [5] from 17 to 150 (fun d5 wc => ∃ kk : Int, d5 = .int .i64 kk ∧ kk ≤ 9223372036854775807 ∧ Hid (wc = w1))
    case first =>
      go_wp2_with fail
      all_goals
        go_meet
        exact ⟨_, rfl, by omega, Lib.hid rfl⟩
    case rest =>
      obtain ⟨kk, rfl, hkk, HWC⟩ := hcut
      rw [HWC.out]
      clear HWC k0 k2 HW1
      go_upto_region 6 with fail
      obtain ⟨wd, hwd⟩ : ∃ wd, wd = w1.drew := ⟨_, rfl⟩
      have hbd : Below w1.heap.size w1 wd := by rw [hwd]; exact below_drewN (Below.refl _ _) 1
      have HSB : Hid (∀ W, Below wd.heap.size wd W → W.cell? ⟨w.heap.size, 4, none⟩ = some (.int .i64 rk) ∧ W.cell? ⟨w.heap.size, 5, none⟩ = some (.slice A body.length cap)) := Lib.hid fun W hW => ⟨((H1.out.2.1.over hbd).over hW).cell 4, ((H1.out.2.1.over hbd).over hW).cell 5⟩
      have HXD := Lib.hid (H1.out.2.1.over hbd)
      have HBD : Hid (Below w.heap.size w wd) := Lib.hid (Below.then H1.out.1 hbd)
      have hsd : w.heap.size < wd.heap.size := HXD.out.lt
      have HWD := Lib.hid hwd
      clear hwd hbd
      go_cut [6] from 17 to 150 (fun d6 wc => ∃ C g q, d6 = .pointer (some ⟨C, 0, none⟩) ∧ Hid (Rbx w #[.int .i64 kd, .int .i64 on, .int .i64 kn, .int .i64 L, .int .i64 rk, .slice A body.length cap] rk body C g q wc))
      case first =>
        refine wp_region_held_drew (S := fun W => W.cell? ⟨w.heap.size, 4, none⟩ = some (.int .i64 rk) ∧ W.cell? ⟨w.heap.size, 5, none⟩ = some (.slice A body.length cap)) (by kernel_rfl) (by rw [← HWD.out]; exact HSB.out _ (Below.refl _ _)) (fun hsw => ?_)
        rw [← HWD.out] at hsw ⊢
        refine wpAnyH_take (i := 0) (oi := ?oi0au) (v := ?v0au) ?hi0au (by kernel_rfl) (by kernel_rfl) (by kernel_rfl) ?hq0au ?hy0au (by assumption) ?rest0au
        case hi0au => (simp only [List.getElem?_toArray, List.getElem?_cons_zero]; rfl)
        case hy0au => (refine Or.inl ⟨by rfl, ?_⟩; intro w hSw; (try dsimp only at hSw); go_simp; try with_reducible rfl)
        case hq0au => exact fun _ _ _ h => h
        try simp only [Act.put, List.setIfInBounds_toArray, List.set_cons_zero, List.set_cons_succ]
        refine wpAnyH_take (i := 1) (oi := ?oi1au) (v := ?v1au) ?hi1au (by kernel_rfl) (by kernel_rfl) (by kernel_rfl) ?hq1au ?hy1au (by assumption) ?rest1au
        case hi1au => (simp only [List.getElem?_toArray, List.getElem?_cons_zero, List.getElem?_cons_succ]; rfl)
        case hy1au => (refine Or.inl ⟨by rfl, ?_⟩; intro w hSw; (try dsimp only at hSw); go_simp; try with_reducible rfl)
        case hq1au => exact fun _ _ _ h => h
        try simp only [Act.put, List.setIfInBounds_toArray, List.set_cons_zero, List.set_cons_succ]
        refine wpAnyH_take (i := 2) (oi := ?oi2au) (v := ?v2au) ?hi2au (by kernel_rfl) (by kernel_rfl) (by kernel_rfl) ?hq2au ?hy2au (by assumption) ?rest2au
        case hi2au => (simp only [List.getElem?_toArray, List.getElem?_cons_zero, List.getElem?_cons_succ]; rfl)
        case hy2au => (refine Or.inl ⟨by rfl, ?_⟩; intro w hSw; (try dsimp only at hSw); go_simp; try with_reducible rfl)
        case hq2au => exact fun _ _ _ h => h
        try simp only [Act.put, List.setIfInBounds_toArray, List.set_cons_zero, List.set_cons_succ]
        refine wpAnyH_take (i := 3) (oi := ?oi3au) (v := ?v3au) ?hi3au (by kernel_rfl) (by kernel_rfl) (by kernel_rfl) ?hq3au ?hy3au (by assumption) ?rest3au
        case hi3au => (simp only [List.getElem?_toArray, List.getElem?_cons_zero, List.getElem?_cons_succ]; rfl)
        case hy3au => (refine Or.inl ⟨by rfl, ?_⟩; intro w hSw; (try dsimp only at hSw); go_simp; try with_reducible rfl)
        case hq3au => exact fun _ _ _ h => h
        try simp only [Act.put, List.setIfInBounds_toArray, List.set_cons_zero, List.set_cons_succ]
        refine wpAnyH_take (i := 4) (oi := ?oi4au) (v := ?v4au) ?hi4au (by kernel_rfl) (by kernel_rfl) (by kernel_rfl) ?hq4au ?hy4au (by assumption) ?rest4au
        case hi4au => (simp only [List.getElem?_toArray, List.getElem?_cons_zero, List.getElem?_cons_succ]; rfl)
        case hy4au => (refine Or.inl ⟨by rfl, ?_⟩; intro w hSw; (try dsimp only at hSw); go_simp; try with_reducible rfl)
        case hq4au => exact fun _ _ _ h => h
        try simp only [Act.put, List.setIfInBounds_toArray, List.set_cons_zero, List.set_cons_succ]
        refine wpAnyH_take (i := 5) (oi := ?oi5au) (v := ?v5au) ?hi5au (by kernel_rfl) (by kernel_rfl) (by kernel_rfl) ?hq5au ?hy5au (by assumption) ?rest5au
        case hi5au => (simp only [List.getElem?_toArray, List.getElem?_cons_zero, List.getElem?_cons_succ]; rfl)
        case hy5au => (refine Or.inl ⟨by rfl, ?_⟩; intro w hSw; (try dsimp only at hSw); go_simp; try with_reducible rfl)
        case hq5au => exact fun _ _ _ h => h
        try simp only [Act.put, List.setIfInBounds_toArray, List.set_cons_zero, List.set_cons_succ]
        refine wpAnyH_ready (rs := [6, 8]) (by kernel_rfl) (by simp) ?_
        refine AllReadyH.cons (o := ?o6p1u) ?ho6p1u (fun K hK => ?st6p1u) ?mo6p1u
        case ho6p1u => (simp only [List.getElem?_toArray, List.getElem?_cons_zero, List.getElem?_cons_succ]; rfl)
        · skip
          have HSP := Lib.hid (spare_sp A cap body wd ((HRR.out _ (HBD.out.mono hBw)).more (by omega)) (by omega))
          go_simp
          refine HSP.out.mono ?_
          rintro _ wp1 ⟨g, q, rfl, hg, hs, hb⟩
          have HA := Lib.hid (And.intro hg (And.intro hs hb))
          clear hg hs hb HSP
          go_simp
          refine hK.out _ _ (HSB.out _ HA.out.2.2) (fun _ => ?_)
          clear hK K
          try simp only [Act.put, List.setIfInBounds_toArray, List.set_cons_zero, List.set_cons_succ]
          refine wpAnyH_take (i := 7) (oi := ?oi7p2u) (v := ?v7p2u) ?hi7p2u (by kernel_rfl) (by kernel_rfl) (by kernel_rfl) ?hq7p2u ?hy7p2u (by assumption) ?rest7p2u
          case hi7p2u => (simp only [List.getElem?_toArray, List.getElem?_cons_zero, List.getElem?_cons_succ]; rfl)
          case hy7p2u => (refine Or.inl ⟨by rfl, ?_⟩; intro w hSw; (try dsimp only at hSw); go_simp; try with_reducible rfl)
          case hq7p2u => exact fun _ _ _ h => h
          try simp only [Act.put, List.setIfInBounds_toArray, List.set_cons_zero, List.set_cons_succ]
          refine wpAnyH_ready (rs := [8]) (by kernel_rfl) (by simp) ?_
          refine AllReadyH.cons (o := ?o8p3u) ?ho8p3u (fun K hK => ?st8p3u) ?mo8p3u
          case ho8p3u => (simp only [List.getElem?_toArray, List.getElem?_cons_zero, List.getElem?_cons_succ]; rfl)
          · skip
            obtain ⟨wp4, hwp4⟩ : ∃ w', w' = wp1.alloc (.cells #[.int .i64 0, .slice none 0 0] 34) := ⟨_, rfl⟩
            have hb4 : Below wp1.heap.size wp1 wp4 := by rw [hwp4]; exact one_box' _ _
            have hB4 : Blk wp4 wp1.heap.size 34 #[.int .i64 0, .slice none 0 0] := by rw [hwp4]; exact Blk.new _ _ _
            have HBB4 := Lib.hid (Below.then HA.out.2.2 hb4)
            have HB4 := Lib.hid hB4
            have HS4 := Lib.hid (HA.out.2.1.over hb4)
            have hsz4 : wd.heap.size ≤ wp1.heap.size := HA.out.2.2.size
            go_simp
            rw [← hwp4]
            clear hwp4 hb4 hB4
            refine hK.out _ _ (HSB.out _ HBB4.out) (fun _ => ?_)
            clear hK K
            try simp only [Act.put, List.setIfInBounds_toArray, List.set_cons_zero, List.set_cons_succ]
            refine wpAnyH_ready (rs := [9]) (by kernel_rfl) (by simp) ?_
            refine AllReadyH.cons (o := ?o9p4u) ?ho9p4u (fun K hK => ?st9p4u) ?mo9p4u
            case ho9p4u => (simp only [List.getElem?_toArray, List.getElem?_cons_zero, List.getElem?_cons_succ]; rfl)
            · skip
              have c0 := HB4.out.cell 0
              have c1 := HB4.out.cell 1
              have q0 := HB4.out.frozen 0
              have q1 := HB4.out.frozen 1
              have HFI : Hid (Rbx w #[.int .i64 kd, .int .i64 on, .int .i64 kn, .int .i64 L, .int .i64 rk, .slice A body.length cap] rk body wp1.heap.size g q _) := Lib.hid (Rbx.fin (HBD.out.trans (HBB4.out.mono (by omega))) HB4.out HS4.out (HXD.out.over HBB4.out) (by have := HA.out.1; omega) (by omega))
              have hS := And.intro (HFI.out.x.cell 4) (HFI.out.x.cell 5)
              go_simp
              refine hK.out _ _ hS (fun _ => ?_)
              clear hK K
              refine wpAnyH_done (by kernel_rfl) ?_ _
              go_wp2_with fail
              go_meet
              exact ⟨_, _, _, rfl, HFI⟩
            exact AllReadyH.nil
          exact AllReadyH.nil
        refine AllReadyH.cons (o := ?o8p5u) ?ho8p5u (fun K hK => ?st8p5u) ?mo8p5u
        case ho8p5u => (simp only [List.getElem?_toArray, List.getElem?_cons_zero, List.getElem?_cons_succ]; rfl)
        · skip
          obtain ⟨wp1, hwp1⟩ : ∃ w', w' = wd.alloc (.cells #[.int .i64 0, .slice none 0 0] 34) := ⟨_, rfl⟩
          have hb4 : Below wd.heap.size wd wp1 := by rw [hwp1]; exact one_box' _ _
          have hB4 : Blk wp1 wd.heap.size 34 #[.int .i64 0, .slice none 0 0] := by rw [hwp1]; exact Blk.new _ _ _
          have HA := Lib.hid (And.intro hB4 hb4)
          go_simp
          rw [← hwp1]
          clear hwp1 hb4 hB4
          refine hK.out _ _ (HSB.out _ HA.out.2) (fun _ => ?_)
          clear hK K
          try simp only [Act.put, List.setIfInBounds_toArray, List.set_cons_zero, List.set_cons_succ]
          refine wpAnyH_ready (rs := [6]) (by kernel_rfl) (by simp) ?_
          refine AllReadyH.cons (o := ?o6p6u) ?ho6p6u (fun K hK => ?st6p6u) ?mo6p6u
          case ho6p6u => (simp only [List.getElem?_toArray, List.getElem?_cons_zero, List.getElem?_cons_succ]; rfl)
          · skip
            have HSP := Lib.hid (spare_sp A cap body wp1 ((HRR.out _ ((HBD.out.trans (HA.out.2.mono (by omega))).mono hBw)).more (by have := HA.out.2.size; omega)) (by omega))
            go_simp
            refine HSP.out.mono ?_
            rintro _ wp4 ⟨g, q, rfl, hg, hs, hb⟩
            have HS4 := Lib.hid (And.intro hg hs)
            have HBB4 := Lib.hid (Below.then HA.out.2 hb)
            have HB4 := Lib.hid (HA.out.1.over hb)
            have hsz4 : wd.heap.size ≤ wp1.heap.size := HA.out.2.size
            clear hg hs hb HSP
            go_simp
            refine hK.out _ _ (HSB.out _ HBB4.out) (fun _ => ?_)
            clear hK K
            try simp only [Act.put, List.setIfInBounds_toArray, List.set_cons_zero, List.set_cons_succ]
            refine wpAnyH_take (i := 7) (oi := ?oi7p7u) (v := ?v7p7u) ?hi7p7u (by kernel_rfl) (by kernel_rfl) (by kernel_rfl) ?hq7p7u ?hy7p7u (by assumption) ?rest7p7u
            case hi7p7u => (simp only [List.getElem?_toArray, List.getElem?_cons_zero, List.getElem?_cons_succ]; rfl)
            case hy7p7u => (refine Or.inl ⟨by rfl, ?_⟩; intro w hSw; (try dsimp only at hSw); go_simp; try with_reducible rfl)
            case hq7p7u => exact fun _ _ _ h => h
            try simp only [Act.put, List.setIfInBounds_toArray, List.set_cons_zero, List.set_cons_succ]
            refine wpAnyH_ready (rs := [9]) (by kernel_rfl) (by simp) ?_
            refine AllReadyH.cons (o := ?o9p8u) ?ho9p8u (fun K hK => ?st9p8u) ?mo9p8u
            case ho9p8u => (simp only [List.getElem?_toArray, List.getElem?_cons_zero, List.getElem?_cons_succ]; rfl)
            · skip
              have c0 := HB4.out.cell 0
              have c1 := HB4.out.cell 1
              have q0 := HB4.out.frozen 0
              have q1 := HB4.out.frozen 1
              have HFI : Hid (Rbx w #[.int .i64 kd, .int .i64 on, .int .i64 kn, .int .i64 L, .int .i64 rk, .slice A body.length cap] rk body wd.heap.size g q _) := Lib.hid (Rbx.fin (HBD.out.trans (HBB4.out.mono (by omega))) HB4.out HS4.out.2 (HXD.out.over HBB4.out) (by have := HS4.out.1; omega) (by omega))
              have hS := And.intro (HFI.out.x.cell 4) (HFI.out.x.cell 5)
              go_simp
              refine hK.out _ _ hS (fun _ => ?_)
              clear hK K
              refine wpAnyH_done (by kernel_rfl) ?_ _
              go_wp2_with fail
              go_meet
              exact ⟨_, _, _, rfl, HFI⟩
            exact AllReadyH.nil
          exact AllReadyH.nil
        exact AllReadyH.nil
      case rest =>
        obtain ⟨C, g, q, rfl, HRB⟩ := hcut
        obtain ⟨wp, HWY⟩ : ∃ wp, Hid (wc = wp) := ⟨_, Lib.hid rfl⟩
        rw [HWY.out] at HRB ⊢
        clear HWY HWD HSB HXD HBD H1 hsd
        have HBW := Lib.hid HRB.out.bw
        have HBB : Hid (Below B0 w wp) := Lib.hid (HRB.out.bw.mono hBw)
        have HPW := Lib.hid (H.out.over HBW.out)
        have HDR : Hid (Below wp.heap.size wp wp.drew) := Lib.hid (below_drewN (Below.refl _ _) 1)
        have HPD := Lib.hid (HPW.out.over HDR.out)
        have HTP : Hid (Nibs wp) := Lib.hid (HT.out.below HBW.out)
        have HX := Lib.hid HRB.out.x
        have HS := Lib.hid HRB.out.s
        have HC := Lib.hid HRB.out.c
        have HSD := Lib.hid (HS.out.over HDR.out)
        have HGL := Lib.hid HRB.out.gl
        have hq : body.length + 64 ≤ q := by
          obtain ⟨_, _, _, _, h1, _⟩ := HS.out
          exact h1
        have HPJ : Hid (pg ≠ jg) := Lib.hid (by
          obtain ⟨s, hB, _⟩ := HPW.out.pj.blk
          exact HPW.out.blk.ne_ hB (by decide))
        have HGJ : Hid (∀ b o s, some (⟨g, 0, none⟩ : Addr) = some ⟨b, o, s⟩ → b ≠ jg) := Lib.hid fun b o s e e2 => by
          injection e with e
          injection e with e1 _
          have := HSZ.out _ HPW.out.gj
          have := HGL.out
          omega
        have s0 : wp.cell? ⟨pg, 0, none⟩ = some (.pointer (some ⟨jg, 0, none⟩)) := HPW.out.blk.cell 0
        have c0' : wp.cell? ⟨C, 0, none⟩ = some (.int .i64 rk) := HC.out.cell 0
        have c1' : wp.cell? ⟨C, 1, none⟩ = some (.slice (some ⟨g, 0, none⟩) body.length q) := HC.out.cell 1
        have k0 : wp.cell? ⟨w.heap.size, 0, none⟩ = some (.int .i64 kd) := HX.out.cell 0
        clear HRB
        obtain ⟨x, HXA⟩ : ∃ x, Hid (j.append ⟨rk, body⟩ = x) := ⟨_, Lib.hid rfl⟩
        have HFX := Lib.hid (append_fine ⟨rk, body⟩ HF.out)
        have HAP := Lib.hid (Append_any (w := wp.drew) rk (some ⟨g, 0, none⟩) body.length q body HPD.out.pj HF.out.len HSD.out.rd (by omega) (HTP.out.below HDR.out))
        rw [HXA.out] at HAP HFX
        go_upto_region 10 with fail
        refine wp_region_held_drew (S := fun W => W.cell? ⟨pg, 0, none⟩ = some (.pointer (some ⟨jg, 0, none⟩)) ∧ W.cell? ⟨C, 0, none⟩ = some (.int .i64 rk) ∧ W.cell? ⟨C, 1, none⟩ = some (.slice (some ⟨g, 0, none⟩) body.length q)) (by kernel_rfl) ⟨s0, c0', c1'⟩ (fun hsw => ?_)
        refine wpAnyH_take (i := 0) (oi := ?oi0za) (v := ?v0za) ?hi0za (by kernel_rfl) (by kernel_rfl) (by kernel_rfl) ?hq0za ?hy0za (by assumption) ?rest0za
        case hi0za => (simp only [List.getElem?_toArray, List.getElem?_cons_zero]; rfl)
        case hy0za => (refine Or.inl ⟨by rfl, ?_⟩; intro w hSw; (try dsimp only at hSw); go_simp; try with_reducible rfl)
        case hq0za => exact fun _ _ _ h => h
        try simp only [Act.put, List.setIfInBounds_toArray, List.set_cons_zero, List.set_cons_succ]
        refine wpAnyH_take (i := 1) (oi := ?oi1za) (v := ?v1za) ?hi1za (by kernel_rfl) (by kernel_rfl) (by kernel_rfl) ?hq1za ?hy1za (by assumption) ?rest1za
        case hi1za => (simp only [List.getElem?_toArray, List.getElem?_cons_zero, List.getElem?_cons_succ]; rfl)
        case hy1za => (refine Or.inl ⟨by rfl, ?_⟩; intro w hSw; (try dsimp only at hSw); go_simp; try with_reducible rfl)
        case hq1za => exact fun _ _ _ h => h
        try simp only [Act.put, List.setIfInBounds_toArray, List.set_cons_zero, List.set_cons_succ]
        refine wpAnyH_take (i := 2) (oi := ?oi2za) (v := ?v2za) ?hi2za (by kernel_rfl) (by kernel_rfl) (by kernel_rfl) ?hq2za ?hy2za (by assumption) ?rest2za
        case hi2za => (simp only [List.getElem?_toArray, List.getElem?_cons_zero, List.getElem?_cons_succ]; rfl)
        case hy2za => (refine Or.inl ⟨by rfl, ?_⟩; intro w hSw; (try dsimp only at hSw); go_simp; try with_reducible rfl)
        case hq2za => exact fun _ _ _ h => h
        try simp only [Act.put, List.setIfInBounds_toArray, List.set_cons_zero, List.set_cons_succ]
        refine wpAnyH_take (i := 3) (oi := ?oi3za) (v := ?v3za) ?hi3za (by kernel_rfl) (by kernel_rfl) (by kernel_rfl) ?hq3za ?hy3za (by assumption) ?rest3za
        case hi3za => (simp only [List.getElem?_toArray, List.getElem?_cons_zero, List.getElem?_cons_succ]; rfl)
        case hy3za => (refine Or.inl ⟨by rfl, ?_⟩; intro w hSw; (try dsimp only at hSw); go_simp; try with_reducible rfl)
        case hq3za => exact fun _ _ _ h => h
        try simp only [Act.put, List.setIfInBounds_toArray, List.set_cons_zero, List.set_cons_succ]
        refine wpAnyH_take (i := 4) (oi := ?oi4za) (v := ?v4za) ?hi4za (by kernel_rfl) (by kernel_rfl) (by kernel_rfl) ?hq4za ?hy4za (by assumption) ?rest4za
        case hi4za => (simp only [List.getElem?_toArray, List.getElem?_cons_zero, List.getElem?_cons_succ]; rfl)
        case hy4za => (refine Or.inl ⟨by rfl, ?_⟩; intro w hSw; (try dsimp only at hSw); go_simp; try with_reducible rfl)
        case hq4za => exact fun _ _ _ h => h
        try simp only [Act.put, List.setIfInBounds_toArray, List.set_cons_zero, List.set_cons_succ]
        refine wpAnyH_ready (rs := [5]) (by kernel_rfl) (by simp) ?_
        refine AllReadyH.cons (o := ?o5zb) ?ho5zb (fun K hK => ?st5zb) ?mo5zb
        case ho5zb => (simp only [List.getElem?_toArray, List.getElem?_cons_zero, List.getElem?_cons_succ]; rfl)
        case mo5zb => exact AllReadyH.nil
        go_simp
        refine HAP.out.mono ?_
        rintro _ w2 ⟨va, rfl, hp2, ho2, hc2⟩
        obtain ⟨Aa, capa, rfl⟩ := ho2.shapeN
        have H2 := Lib.hid (And.intro hp2 (And.intro ho2 (dr_chg hc2)))
        clear hp2 ho2 hc2
        have HC2 : Hid (Blk w2 C 34 #[.int .i64 rk, .slice (some ⟨g, 0, none⟩) body.length q]) := Lib.hid (HC.out.chg H2.out.2.2 fun e => by have := HGL.out; have := HSZ.out _ HPW.out.gj; omega)
        have HPB := Lib.hid (HPW.out.blk.chg H2.out.2.2 HPJ.out)
        go_simp
        refine hK.out _ _ ⟨HPB.out.cell 0, HC2.out.cell 0, HC2.out.cell 1⟩ (fun _ => ?_)
        clear hK K
        try simp only [Act.put, List.setIfInBounds_toArray, List.set_cons_zero, List.set_cons_succ]
        refine wpAnyH_take (i := 6) (oi := ?oi6zc) (v := ?v6zc) ?hi6zc (by kernel_rfl) (by kernel_rfl) (by kernel_rfl) ?hq6zc ?hy6zc (by assumption) ?rest6zc
        case hi6zc => (simp only [List.getElem?_toArray, List.getElem?_cons_zero, List.getElem?_cons_succ]; rfl)
        case hy6zc => (refine Or.inl ⟨by rfl, ?_⟩; intro w hSw; (try dsimp only at hSw); go_simp; try with_reducible rfl)
        case hq6zc => exact fun _ _ _ h => h
        try simp only [Act.put, List.setIfInBounds_toArray, List.set_cons_zero, List.set_cons_succ]
        refine wpAnyH_take (i := 7) (oi := ?oi7zc) (v := ?v7zc) ?hi7zc (by kernel_rfl) (by kernel_rfl) (by kernel_rfl) ?hq7zc ?hy7zc (by assumption) ?rest7zc
        case hi7zc => (simp only [List.getElem?_toArray, List.getElem?_cons_zero, List.getElem?_cons_succ]; rfl)
        case hy7zc => (refine Or.inl ⟨by rfl, ?_⟩; intro w hSw; (try dsimp only at hSw); go_simp; try with_reducible rfl)
        case hq7zc => exact fun _ _ _ h => h
        try simp only [Act.put, List.setIfInBounds_toArray, List.set_cons_zero, List.set_cons_succ]
        refine wpAnyH_take (i := 8) (oi := ?oi8zc) (v := ?v8zc) ?hi8zc (by kernel_rfl) (by kernel_rfl) (by kernel_rfl) ?hq8zc ?hy8zc (by assumption) ?rest8zc
        case hi8zc => (simp only [List.getElem?_toArray, List.getElem?_cons_zero, List.getElem?_cons_succ]; rfl)
        case hy8zc => (refine Or.inl ⟨by rfl, ?_⟩; intro w hSw; (try dsimp only at hSw); go_simp; try with_reducible rfl)
        case hq8zc => exact fun _ _ _ h => h
        try simp only [Act.put, List.setIfInBounds_toArray, List.set_cons_zero, List.set_cons_succ]
        refine wpAnyH_take (i := 9) (oi := ?oi9zc) (v := ?v9zc) ?hi9zc (by kernel_rfl) (by kernel_rfl) (by kernel_rfl) ?hq9zc ?hy9zc (by assumption) ?rest9zc
        case hi9zc => (simp only [List.getElem?_toArray, List.getElem?_cons_zero, List.getElem?_cons_succ]; rfl)
        case hy9zc => (refine Or.inl ⟨by rfl, ?_⟩; intro w hSw; (try dsimp only at hSw); go_simp; try with_reducible rfl)
        case hq9zc => exact fun _ _ _ h => h
        try simp only [Act.put, List.setIfInBounds_toArray, List.set_cons_zero, List.set_cons_succ]
        refine wpAnyH_take (i := 10) (oi := ?oi10zc) (v := ?v10zc) ?hi10zc (by kernel_rfl) (by kernel_rfl) (by kernel_rfl) ?hq10zc ?hy10zc (by assumption) ?rest10zc
        case hi10zc => (simp only [List.getElem?_toArray, List.getElem?_cons_zero, List.getElem?_cons_succ]; rfl)
        case hy10zc => (refine Or.inl ⟨by rfl, ?_⟩; intro w hSw; (try dsimp only at hSw); go_simp; try with_reducible rfl)
        case hq10zc => exact fun _ _ _ h => h
        try simp only [Act.put, List.setIfInBounds_toArray, List.set_cons_zero, List.set_cons_succ]
        refine wpAnyH_done (by kernel_rfl) ?_ _
        go_upto_region 11 with fail
        have HB2 : Hid (Below B0 w w2) := Lib.hid (HBB.out.trans (H2.out.2.2.to_below (Nat.le_trans hBw HBW.out.size) fun k e => e ▸ HGB.out _ HPW.out.gj))
        have HR2 : Hid (RdB w2.drew w2.drew.heap.size A body.length body) := Lib.hid (((HRR.out _ HB2.out).more (Nat.le_trans hBw HB2.out.size)).dn 1)
        have HX2 : Hid (Blk w2 w.heap.size 57 #[.int .i64 kd, .int .i64 on, .int .i64 kn, .int .i64 L, .int .i64 rk, .slice A body.length cap]) := Lib.hid (HX.out.chg H2.out.2.2 fun e => by have := HSZ.out _ HPW.out.gj; omega)
        have HS2 : Hid (SpAt w2 g q body) := Lib.hid (HS.out.chg H2.out.2.2 fun e => by have := HGL.out; have := HSZ.out _ HPW.out.gj; omega)
        have HJ2 : Hid (RJAt w2 Fk kg j) := Lib.hid (HPW.out.rj.chg H2.out.2.2 fun k _ hk e => HPW.out.fj (e ▸ hk))
        have HFK : Hid (∀ k, Fk k → k < w2.drew.heap.size) := Lib.hid fun k hk => by have h1 := HPW.out.gs k (HPW.out.fk k hk); have h3 := H2.out.2.2.size; show k < w2.heap.size; omega
        have t1 : w2.cell? ⟨pg, 1, none⟩ = some (.pointer (some ⟨kg, 0, none⟩)) := HPB.out.cell 1
        have t4 : w2.cell? ⟨w.heap.size, 4, none⟩ = some (.int .i64 rk) := HX2.out.cell 4
        have t5 : w2.cell? ⟨w.heap.size, 5, none⟩ = some (.slice A body.length cap) := HX2.out.cell 5
        have HRA := Lib.hid (RAppend_any (w := w2.drew) (F := Fk) rk A body.length cap body (HJ2.out.below (below_drewN (Below.refl _ _) 1)) (fun k hk => HFK.out k hk) HF.out HR2.out (by omega))
        rw [HXA.out] at HRA
        clear s0 c0' c1'
        refine wp_region_held_drew (S := fun W => W.cell? ⟨pg, 1, none⟩ = some (.pointer (some ⟨kg, 0, none⟩)) ∧ W.cell? ⟨w.heap.size, 4, none⟩ = some (.int .i64 rk) ∧ W.cell? ⟨w.heap.size, 5, none⟩ = some (.slice A body.length cap)) (by kernel_rfl) ⟨t1, t4, t5⟩ (fun hsw => ?_)
        refine wpAnyH_take (i := 0) (oi := ?oi0zd) (v := ?v0zd) ?hi0zd (by kernel_rfl) (by kernel_rfl) (by kernel_rfl) ?hq0zd ?hy0zd (by assumption) ?rest0zd
        case hi0zd => (simp only [List.getElem?_toArray, List.getElem?_cons_zero]; rfl)
        case hy0zd => (refine Or.inl ⟨by rfl, ?_⟩; intro w hSw; (try dsimp only at hSw); go_simp; try with_reducible rfl)
        case hq0zd => exact fun _ _ _ h => h
        try simp only [Act.put, List.setIfInBounds_toArray, List.set_cons_zero, List.set_cons_succ]
        refine wpAnyH_take (i := 1) (oi := ?oi1zd) (v := ?v1zd) ?hi1zd (by kernel_rfl) (by kernel_rfl) (by kernel_rfl) ?hq1zd ?hy1zd (by assumption) ?rest1zd
        case hi1zd => (simp only [List.getElem?_toArray, List.getElem?_cons_zero, List.getElem?_cons_succ]; rfl)
        case hy1zd => (refine Or.inl ⟨by rfl, ?_⟩; intro w hSw; (try dsimp only at hSw); go_simp; try with_reducible rfl)
        case hq1zd => exact fun _ _ _ h => h
        try simp only [Act.put, List.setIfInBounds_toArray, List.set_cons_zero, List.set_cons_succ]
        refine wpAnyH_take (i := 2) (oi := ?oi2zd) (v := ?v2zd) ?hi2zd (by kernel_rfl) (by kernel_rfl) (by kernel_rfl) ?hq2zd ?hy2zd (by assumption) ?rest2zd
        case hi2zd => (simp only [List.getElem?_toArray, List.getElem?_cons_zero, List.getElem?_cons_succ]; rfl)
        case hy2zd => (refine Or.inl ⟨by rfl, ?_⟩; intro w hSw; (try dsimp only at hSw); go_simp; try with_reducible rfl)
        case hq2zd => exact fun _ _ _ h => h
        try simp only [Act.put, List.setIfInBounds_toArray, List.set_cons_zero, List.set_cons_succ]
        refine wpAnyH_take (i := 3) (oi := ?oi3zd) (v := ?v3zd) ?hi3zd (by kernel_rfl) (by kernel_rfl) (by kernel_rfl) ?hq3zd ?hy3zd (by assumption) ?rest3zd
        case hi3zd => (simp only [List.getElem?_toArray, List.getElem?_cons_zero, List.getElem?_cons_succ]; rfl)
        case hy3zd => (refine Or.inl ⟨by rfl, ?_⟩; intro w hSw; (try dsimp only at hSw); go_simp; try with_reducible rfl)
        case hq3zd => exact fun _ _ _ h => h
        try simp only [Act.put, List.setIfInBounds_toArray, List.set_cons_zero, List.set_cons_succ]
        refine wpAnyH_take (i := 4) (oi := ?oi4zd) (v := ?v4zd) ?hi4zd (by kernel_rfl) (by kernel_rfl) (by kernel_rfl) ?hq4zd ?hy4zd (by assumption) ?rest4zd
        case hi4zd => (simp only [List.getElem?_toArray, List.getElem?_cons_zero, List.getElem?_cons_succ]; rfl)
        case hy4zd => (refine Or.inl ⟨by rfl, ?_⟩; intro w hSw; (try dsimp only at hSw); go_simp; try with_reducible rfl)
        case hq4zd => exact fun _ _ _ h => h
        try simp only [Act.put, List.setIfInBounds_toArray, List.set_cons_zero, List.set_cons_succ]
        refine wpAnyH_take (i := 5) (oi := ?oi5zd) (v := ?v5zd) ?hi5zd (by kernel_rfl) (by kernel_rfl) (by kernel_rfl) ?hq5zd ?hy5zd (by assumption) ?rest5zd
        case hi5zd => (simp only [List.getElem?_toArray, List.getElem?_cons_zero, List.getElem?_cons_succ]; rfl)
        case hy5zd => (refine Or.inl ⟨by rfl, ?_⟩; intro w hSw; (try dsimp only at hSw); go_simp; try with_reducible rfl)
        case hq5zd => exact fun _ _ _ h => h
        try simp only [Act.put, List.setIfInBounds_toArray, List.set_cons_zero, List.set_cons_succ]
        refine wpAnyH_ready (rs := [6]) (by kernel_rfl) (by simp) ?_
        refine AllReadyH.cons (o := ?o6ze) ?ho6ze (fun K hK => ?st6ze) ?mo6ze
        case ho6ze => (simp only [List.getElem?_toArray, List.getElem?_cons_zero, List.getElem?_cons_succ]; rfl)
        case mo6ze => exact AllReadyH.nil
        go_simp
        refine HRA.out.mono ?_
        rintro _ w3 ⟨vb, F2, rfl, hp3, ho3, hm3⟩
        obtain ⟨Ab, capb, rfl⟩ := ho3.shapeN
        have H3 := Lib.hid (And.intro hp3 (And.intro ho3 (Moved.trans (Moved.of_below (below_drewN (Below.refl _ w2) 1)) hm3)))
        clear hp3 ho3 hm3
        have HX3 : Hid (Blk w3 w.heap.size 57 #[.int .i64 kd, .int .i64 on, .int .i64 kn, .int .i64 L, .int .i64 rk, .slice A body.length cap]) := Lib.hid (HX2.out.chg H3.out.2.2.2 fun hk => by have := HSZ.out _ (HPW.out.fk _ hk); omega)
        have HPB3 := Lib.hid (HPB.out.chg H3.out.2.2.2 HPW.out.fp)
        go_simp
        refine hK.out _ _ ⟨HPB3.out.cell 1, HX3.out.cell 4, HX3.out.cell 5⟩ (fun _ => ?_)
        clear hK K
        try simp only [Act.put, List.setIfInBounds_toArray, List.set_cons_zero, List.set_cons_succ]
        refine wpAnyH_take (i := 7) (oi := ?oi7zf) (v := ?v7zf) ?hi7zf (by kernel_rfl) (by kernel_rfl) (by kernel_rfl) ?hq7zf ?hy7zf (by assumption) ?rest7zf
        case hi7zf => (simp only [List.getElem?_toArray, List.getElem?_cons_zero, List.getElem?_cons_succ]; rfl)
        case hy7zf => (refine Or.inl ⟨by rfl, ?_⟩; intro w hSw; (try dsimp only at hSw); go_simp; try with_reducible rfl)
        case hq7zf => exact fun _ _ _ h => h
        try simp only [Act.put, List.setIfInBounds_toArray, List.set_cons_zero, List.set_cons_succ]
        refine wpAnyH_take (i := 8) (oi := ?oi8zf) (v := ?v8zf) ?hi8zf (by kernel_rfl) (by kernel_rfl) (by kernel_rfl) ?hq8zf ?hy8zf (by assumption) ?rest8zf
        case hi8zf => (simp only [List.getElem?_toArray, List.getElem?_cons_zero, List.getElem?_cons_succ]; rfl)
        case hy8zf => (refine Or.inl ⟨by rfl, ?_⟩; intro w hSw; (try dsimp only at hSw); go_simp; try with_reducible rfl)
        case hq8zf => exact fun _ _ _ h => h
        try simp only [Act.put, List.setIfInBounds_toArray, List.set_cons_zero, List.set_cons_succ]
        refine wpAnyH_take (i := 9) (oi := ?oi9zf) (v := ?v9zf) ?hi9zf (by kernel_rfl) (by kernel_rfl) (by kernel_rfl) ?hq9zf ?hy9zf (by assumption) ?rest9zf
        case hi9zf => (simp only [List.getElem?_toArray, List.getElem?_cons_zero, List.getElem?_cons_succ]; rfl)
        case hy9zf => (refine Or.inl ⟨by rfl, ?_⟩; intro w hSw; (try dsimp only at hSw); go_simp; try with_reducible rfl)
        case hq9zf => exact fun _ _ _ h => h
        try simp only [Act.put, List.setIfInBounds_toArray, List.set_cons_zero, List.set_cons_succ]
        refine wpAnyH_take (i := 10) (oi := ?oi10zf) (v := ?v10zf) ?hi10zf (by kernel_rfl) (by kernel_rfl) (by kernel_rfl) ?hq10zf ?hy10zf (by assumption) ?rest10zf
        case hi10zf => (simp only [List.getElem?_toArray, List.getElem?_cons_zero, List.getElem?_cons_succ]; rfl)
        case hy10zf => (refine Or.inl ⟨by rfl, ?_⟩; intro w hSw; (try dsimp only at hSw); go_simp; try with_reducible rfl)
        case hq10zf => exact fun _ _ _ h => h
        try simp only [Act.put, List.setIfInBounds_toArray, List.set_cons_zero, List.set_cons_succ]
        refine wpAnyH_take (i := 11) (oi := ?oi11zf) (v := ?v11zf) ?hi11zf (by kernel_rfl) (by kernel_rfl) (by kernel_rfl) ?hq11zf ?hy11zf (by assumption) ?rest11zf
        case hi11zf => (simp only [List.getElem?_toArray, List.getElem?_cons_zero, List.getElem?_cons_succ]; rfl)
        case hy11zf => (refine Or.inl ⟨by rfl, ?_⟩; intro w hSw; (try dsimp only at hSw); go_simp; try with_reducible rfl)
        case hq11zf => exact fun _ _ _ h => h
        try simp only [Act.put, List.setIfInBounds_toArray, List.set_cons_zero, List.set_cons_succ]
        refine wpAnyH_done (by kernel_rfl) ?_ _
        go_upto_region 12 with fail
        have HP3 := Lib.hid (HPW.out.step H2.out.2.2 H2.out.1 H3.out.1 H3.out.2.2)
        have HB3 : Hid (Below B0 w w3) := Lib.hid (HB2.out.trans (H3.out.2.2.2.to_below (Nat.le_trans hBw HB2.out.size) fun k hk => HGB.out _ (HPW.out.fk k hk)))
        have HS3 : Hid (SpAt w3 g q body) := Lib.hid (HS2.out.chg H3.out.2.2.2 fun hk => by have := HGL.out; have := HSZ.out _ (HPW.out.fk _ hk); omega)
        have HC3 : Hid (Blk w3 C 34 #[.int .i64 rk, .slice (some ⟨g, 0, none⟩) body.length q]) := Lib.hid (HC2.out.chg H3.out.2.2.2 fun hk => by have := HGL.out; have := HSZ.out _ (HPW.out.fk _ hk); omega)
        have u1 : w3.cell? ⟨C, 1, none⟩ = some (.slice (some ⟨g, 0, none⟩) body.length q) := HC3.out.cell 1
        have u5 : w3.cell? ⟨w.heap.size, 5, none⟩ = some (.slice A body.length cap) := HX3.out.cell 5
        clear t1 t4 t5
        go_upto_region 13 with (go_at_call 16; refine (intact_sp A cap B0 body w3 HS3.out (HRR.out _ HB3.out)).mono ?_; rintro _ _ ⟨rfl, rfl⟩)
        go_upto_region 14 with (go_at_call 18; refine (full_sp body w3 HS3.out (by omega)).mono ?_; rintro _ w4 ⟨rfl, hf4, hc4⟩; have H4 := Lib.hid hc4; clear hf4 hc4)
        clear u1 u5
        have hgp : g < wp.heap.size := by
          obtain ⟨cur, hBg⟩ := HS.out.blk
          exact hBg.lt
        have HP4 : Hid (PAt w4 (Grow G wp w3) pg jg kg (fun k => F2 k ∧ k < w3.heap.size) A0 c0 A1 c1 x.1 f) := Lib.hid (HP3.out.1.chg H4.out fun k hk e => by
          rcases hk with hk | hk
          · have := HSZ.out k hk; have := HGL.out; omega
          · omega)
        have HB4 : Hid (Below B0 w w4) := Lib.hid (HB3.out.trans (H4.out.to_below (Nat.le_trans hBw HB3.out.size) fun k e => by have := HGL.out; omega))
        have hs3 := H3.out.2.2.2.size
        have hs2 : wp.heap.size ≤ w2.heap.size := H2.out.2.2.size
        have HWA : Hid (WsAt w4 Aa x.2.1.length x.2.1) := Lib.hid ((H2.out.2.1.chg H3.out.2.2.2 fun i hi _ hk => by have := HPW.out.gs _ (HPW.out.fk _ hk); have : wp.drew.heap.size = wp.heap.size := rfl; omega).chg H4.out fun i hi _ e => by have : wp.drew.heap.size = wp.heap.size := rfl; omega).wsN
        have HWB : Hid (WsAt w4 Ab x.2.1.length x.2.1) := Lib.hid (H3.out.2.1.chg H4.out fun i hi _ e => by have : w2.drew.heap.size = w2.heap.size := rfl; omega).wsN
        have hlx := H3.out.2.1.few
        have hcx := HFX.out.2
        have HST := Lib.hid (stands_any (w := w4) (G := Grow G wp w3) (f := f) (e1 := capa) (e2 := capb) ⟨_, _, _, _, _, _, _, HP4.out⟩ HFX.out.1 HWA.out HWB.out (by omega) (by omega) (x.2.2 : Int) kk hkk (by omega) (nibs_B HT.out HB4.out HNB.out))
        have HCG : Hid (Chg (fun k => G k ∨ w.heap.size ≤ k) w w4) := Lib.hid ((((Chg.of_below HBW.out _).trans (HP3.out.2.mono fun k _ h => .inl h)).trans (H4.out.mono fun k _ e => .inr (by have := HGL.out; omega))))
        have HSS : Hid (wp.heap.size ≤ w3.heap.size ∧ w3.heap.size ≤ w4.heap.size ∧ w.heap.size ≤ wp.heap.size ∧ costW x.2.1 ≤ 65537) := Lib.hid ⟨by omega, H4.out.size, HBW.out.size, hcx⟩
        clear hgp hs3 hs2 hlx hcx
        go_wp2_with (go_at_call 60; refine HST.out.mono ?_; rintro _ w5 ⟨rfl, j5, f5, hp5, hf5, hl5, hc5⟩; have H5 := Lib.hid (And.intro hp5 (And.intro hf5 (And.intro hl5 hc5))); clear hp5 hf5 hl5 hc5)
        go_ret
        have hs5 := H5.out.2.2.2.size
        have hss := HSS.out
        refine ⟨rfl, j5, f5, H5.out.1.mono (fun k hk => ?_) (grow_lt HSZ.out (by omega)), H5.out.2.1, Nat.le_trans H5.out.2.2.1 (Nat.add_le_add_left (Nat.add_le_add_right hss.2.2.2 _) _), (HCG.out.thenS (H5.out.2.2.2.mono (S' := fun k => G k ∨ w.heap.size ≤ k) fun k _ hk => hk.elim .inl fun h => .inr (by omega)) (fun _ _ h => h)).mono fun k hk h => h.elim id fun h => by omega⟩
        rcases hk with (hk | hk) | hk
        · exact .inl hk
        · exact .inr ⟨by omega, by omega⟩
        · exact .inr ⟨by omega, hk.2⟩
  · have b6 : (kd == 6) = false := by simpa using h6
    by_cases h7 : kd = 7
    · have b7 : (kd == 7) = true := by simpa using h7
      have b1 : (kd == 1) = false := by simp [h7]
      have b2 : (kd == 2) = false := by simp [h7]
      clear h6 h7
      go_enter Tryd.func29, Tryd.ntmps29
      go_upto_if 24 with fail
      rw [← HW1.out]
      go_cut [5] from 17 to 150 (fun d5 wc => ∃ kk : Int, d5 = .int .i64 kk ∧ kk ≤ 9223372036854775807 ∧ Hid (wc = w1))
      case first =>
        go_wp2_with fail
        all_goals
          go_meet
          exact ⟨_, rfl, by omega, Lib.hid rfl⟩
      case rest =>
        obtain ⟨kk, rfl, hkk, HWC⟩ := hcut
        rw [HWC.out]
        clear HWC k0 k2 HW1
        go_upto_region 6 with fail
        obtain ⟨wd, hwd⟩ : ∃ wd, wd = w1.drew := ⟨_, rfl⟩
        have hbd : Below w1.heap.size w1 wd := by rw [hwd]; exact below_drewN (Below.refl _ _) 1
        have HSB : Hid (∀ W, Below wd.heap.size wd W → W.cell? ⟨w.heap.size, 4, none⟩ = some (.int .i64 rk) ∧ W.cell? ⟨w.heap.size, 5, none⟩ = some (.slice A body.length cap)) := Lib.hid fun W hW => ⟨((H1.out.2.1.over hbd).over hW).cell 4, ((H1.out.2.1.over hbd).over hW).cell 5⟩
        have HXD := Lib.hid (H1.out.2.1.over hbd)
        have HBD : Hid (Below w.heap.size w wd) := Lib.hid (Below.then H1.out.1 hbd)
        have hsd : w.heap.size < wd.heap.size := HXD.out.lt
        have HWD := Lib.hid hwd
        clear hwd hbd
        go_cut [6] from 17 to 150 (fun d6 wc => ∃ C g q, d6 = .pointer (some ⟨C, 0, none⟩) ∧ Hid (Rbx w #[.int .i64 kd, .int .i64 on, .int .i64 kn, .int .i64 L, .int .i64 rk, .slice A body.length cap] rk body C g q wc))
        case first =>
          refine wp_region_held_drew (S := fun W => W.cell? ⟨w.heap.size, 4, none⟩ = some (.int .i64 rk) ∧ W.cell? ⟨w.heap.size, 5, none⟩ = some (.slice A body.length cap)) (by kernel_rfl) (by rw [← HWD.out]; exact HSB.out _ (Below.refl _ _)) (fun hsw => ?_)
          rw [← HWD.out] at hsw ⊢
          refine wpAnyH_take (i := 0) (oi := ?oi0av) (v := ?v0av) ?hi0av (by kernel_rfl) (by kernel_rfl) (by kernel_rfl) ?hq0av ?hy0av (by assumption) ?rest0av
          case hi0av => (simp only [List.getElem?_toArray, List.getElem?_cons_zero]; rfl)
          case hy0av => (refine Or.inl ⟨by rfl, ?_⟩; intro w hSw; (try dsimp only at hSw); go_simp; try with_reducible rfl)
          case hq0av => exact fun _ _ _ h => h
          try simp only [Act.put, List.setIfInBounds_toArray, List.set_cons_zero, List.set_cons_succ]
          refine wpAnyH_take (i := 1) (oi := ?oi1av) (v := ?v1av) ?hi1av (by kernel_rfl) (by kernel_rfl) (by kernel_rfl) ?hq1av ?hy1av (by assumption) ?rest1av
          case hi1av => (simp only [List.getElem?_toArray, List.getElem?_cons_zero, List.getElem?_cons_succ]; rfl)
          case hy1av => (refine Or.inl ⟨by rfl, ?_⟩; intro w hSw; (try dsimp only at hSw); go_simp; try with_reducible rfl)
          case hq1av => exact fun _ _ _ h => h
          try simp only [Act.put, List.setIfInBounds_toArray, List.set_cons_zero, List.set_cons_succ]
          refine wpAnyH_take (i := 2) (oi := ?oi2av) (v := ?v2av) ?hi2av (by kernel_rfl) (by kernel_rfl) (by kernel_rfl) ?hq2av ?hy2av (by assumption) ?rest2av
          case hi2av => (simp only [List.getElem?_toArray, List.getElem?_cons_zero, List.getElem?_cons_succ]; rfl)
          case hy2av => (refine Or.inl ⟨by rfl, ?_⟩; intro w hSw; (try dsimp only at hSw); go_simp; try with_reducible rfl)
          case hq2av => exact fun _ _ _ h => h
          try simp only [Act.put, List.setIfInBounds_toArray, List.set_cons_zero, List.set_cons_succ]
          refine wpAnyH_take (i := 3) (oi := ?oi3av) (v := ?v3av) ?hi3av (by kernel_rfl) (by kernel_rfl) (by kernel_rfl) ?hq3av ?hy3av (by assumption) ?rest3av
          case hi3av => (simp only [List.getElem?_toArray, List.getElem?_cons_zero, List.getElem?_cons_succ]; rfl)
          case hy3av => (refine Or.inl ⟨by rfl, ?_⟩; intro w hSw; (try dsimp only at hSw); go_simp; try with_reducible rfl)
          case hq3av => exact fun _ _ _ h => h
          try simp only [Act.put, List.setIfInBounds_toArray, List.set_cons_zero, List.set_cons_succ]
          refine wpAnyH_take (i := 4) (oi := ?oi4av) (v := ?v4av) ?hi4av (by kernel_rfl) (by kernel_rfl) (by kernel_rfl) ?hq4av ?hy4av (by assumption) ?rest4av
          case hi4av => (simp only [List.getElem?_toArray, List.getElem?_cons_zero, List.getElem?_cons_succ]; rfl)
          case hy4av => (refine Or.inl ⟨by rfl, ?_⟩; intro w hSw; (try dsimp only at hSw); go_simp; try with_reducible rfl)
          case hq4av => exact fun _ _ _ h => h
          try simp only [Act.put, List.setIfInBounds_toArray, List.set_cons_zero, List.set_cons_succ]
          refine wpAnyH_take (i := 5) (oi := ?oi5av) (v := ?v5av) ?hi5av (by kernel_rfl) (by kernel_rfl) (by kernel_rfl) ?hq5av ?hy5av (by assumption) ?rest5av
          case hi5av => (simp only [List.getElem?_toArray, List.getElem?_cons_zero, List.getElem?_cons_succ]; rfl)
          case hy5av => (refine Or.inl ⟨by rfl, ?_⟩; intro w hSw; (try dsimp only at hSw); go_simp; try with_reducible rfl)
          case hq5av => exact fun _ _ _ h => h
          try simp only [Act.put, List.setIfInBounds_toArray, List.set_cons_zero, List.set_cons_succ]
          refine wpAnyH_ready (rs := [6, 8]) (by kernel_rfl) (by simp) ?_
          refine AllReadyH.cons (o := ?o6p1v) ?ho6p1v (fun K hK => ?st6p1v) ?mo6p1v
          case ho6p1v => (simp only [List.getElem?_toArray, List.getElem?_cons_zero, List.getElem?_cons_succ]; rfl)
          · skip
            have HSP := Lib.hid (spare_sp A cap body wd ((HRR.out _ (HBD.out.mono hBw)).more (by omega)) (by omega))
            go_simp
            refine HSP.out.mono ?_
            rintro _ wp1 ⟨g, q, rfl, hg, hs, hb⟩
            have HA := Lib.hid (And.intro hg (And.intro hs hb))
            clear hg hs hb HSP
            go_simp
            refine hK.out _ _ (HSB.out _ HA.out.2.2) (fun _ => ?_)
            clear hK K
            try simp only [Act.put, List.setIfInBounds_toArray, List.set_cons_zero, List.set_cons_succ]
            refine wpAnyH_take (i := 7) (oi := ?oi7p2v) (v := ?v7p2v) ?hi7p2v (by kernel_rfl) (by kernel_rfl) (by kernel_rfl) ?hq7p2v ?hy7p2v (by assumption) ?rest7p2v
            case hi7p2v => (simp only [List.getElem?_toArray, List.getElem?_cons_zero, List.getElem?_cons_succ]; rfl)
            case hy7p2v => (refine Or.inl ⟨by rfl, ?_⟩; intro w hSw; (try dsimp only at hSw); go_simp; try with_reducible rfl)
            case hq7p2v => exact fun _ _ _ h => h
            try simp only [Act.put, List.setIfInBounds_toArray, List.set_cons_zero, List.set_cons_succ]
            refine wpAnyH_ready (rs := [8]) (by kernel_rfl) (by simp) ?_
            refine AllReadyH.cons (o := ?o8p3v) ?ho8p3v (fun K hK => ?st8p3v) ?mo8p3v
            case ho8p3v => (simp only [List.getElem?_toArray, List.getElem?_cons_zero, List.getElem?_cons_succ]; rfl)
            · skip
              obtain ⟨wp4, hwp4⟩ : ∃ w', w' = wp1.alloc (.cells #[.int .i64 0, .slice none 0 0] 34) := ⟨_, rfl⟩
              have hb4 : Below wp1.heap.size wp1 wp4 := by rw [hwp4]; exact one_box' _ _
              have hB4 : Blk wp4 wp1.heap.size 34 #[.int .i64 0, .slice none 0 0] := by rw [hwp4]; exact Blk.new _ _ _
              have HBB4 := Lib.hid (Below.then HA.out.2.2 hb4)
              have HB4 := Lib.hid hB4
              have HS4 := Lib.hid (HA.out.2.1.over hb4)
              have hsz4 : wd.heap.size ≤ wp1.heap.size := HA.out.2.2.size
              go_simp
              rw [← hwp4]
              clear hwp4 hb4 hB4
              refine hK.out _ _ (HSB.out _ HBB4.out) (fun _ => ?_)
              clear hK K
              try simp only [Act.put, List.setIfInBounds_toArray, List.set_cons_zero, List.set_cons_succ]
              refine wpAnyH_ready (rs := [9]) (by kernel_rfl) (by simp) ?_
              refine AllReadyH.cons (o := ?o9p4v) ?ho9p4v (fun K hK => ?st9p4v) ?mo9p4v
              case ho9p4v => (simp only [List.getElem?_toArray, List.getElem?_cons_zero, List.getElem?_cons_succ]; rfl)
              · skip
                have c0 := HB4.out.cell 0
                have c1 := HB4.out.cell 1
                have q0 := HB4.out.frozen 0
                have q1 := HB4.out.frozen 1
                have HFI : Hid (Rbx w #[.int .i64 kd, .int .i64 on, .int .i64 kn, .int .i64 L, .int .i64 rk, .slice A body.length cap] rk body wp1.heap.size g q _) := Lib.hid (Rbx.fin (HBD.out.trans (HBB4.out.mono (by omega))) HB4.out HS4.out (HXD.out.over HBB4.out) (by have := HA.out.1; omega) (by omega))
                have hS := And.intro (HFI.out.x.cell 4) (HFI.out.x.cell 5)
                go_simp
                refine hK.out _ _ hS (fun _ => ?_)
                clear hK K
                refine wpAnyH_done (by kernel_rfl) ?_ _
                go_wp2_with fail
                go_meet
                exact ⟨_, _, _, rfl, HFI⟩
              exact AllReadyH.nil
            exact AllReadyH.nil
          refine AllReadyH.cons (o := ?o8p5v) ?ho8p5v (fun K hK => ?st8p5v) ?mo8p5v
          case ho8p5v => (simp only [List.getElem?_toArray, List.getElem?_cons_zero, List.getElem?_cons_succ]; rfl)
          · skip
            obtain ⟨wp1, hwp1⟩ : ∃ w', w' = wd.alloc (.cells #[.int .i64 0, .slice none 0 0] 34) := ⟨_, rfl⟩
            have hb4 : Below wd.heap.size wd wp1 := by rw [hwp1]; exact one_box' _ _
            have hB4 : Blk wp1 wd.heap.size 34 #[.int .i64 0, .slice none 0 0] := by rw [hwp1]; exact Blk.new _ _ _
            have HA := Lib.hid (And.intro hB4 hb4)
            go_simp
            rw [← hwp1]
            clear hwp1 hb4 hB4
            refine hK.out _ _ (HSB.out _ HA.out.2) (fun _ => ?_)
            clear hK K
            try simp only [Act.put, List.setIfInBounds_toArray, List.set_cons_zero, List.set_cons_succ]
            refine wpAnyH_ready (rs := [6]) (by kernel_rfl) (by simp) ?_
            refine AllReadyH.cons (o := ?o6p6v) ?ho6p6v (fun K hK => ?st6p6v) ?mo6p6v
            case ho6p6v => (simp only [List.getElem?_toArray, List.getElem?_cons_zero, List.getElem?_cons_succ]; rfl)
            · skip
              have HSP := Lib.hid (spare_sp A cap body wp1 ((HRR.out _ ((HBD.out.trans (HA.out.2.mono (by omega))).mono hBw)).more (by have := HA.out.2.size; omega)) (by omega))
              go_simp
              refine HSP.out.mono ?_
              rintro _ wp4 ⟨g, q, rfl, hg, hs, hb⟩
              have HS4 := Lib.hid (And.intro hg hs)
              have HBB4 := Lib.hid (Below.then HA.out.2 hb)
              have HB4 := Lib.hid (HA.out.1.over hb)
              have hsz4 : wd.heap.size ≤ wp1.heap.size := HA.out.2.size
              clear hg hs hb HSP
              go_simp
              refine hK.out _ _ (HSB.out _ HBB4.out) (fun _ => ?_)
              clear hK K
              try simp only [Act.put, List.setIfInBounds_toArray, List.set_cons_zero, List.set_cons_succ]
              refine wpAnyH_take (i := 7) (oi := ?oi7p7v) (v := ?v7p7v) ?hi7p7v (by kernel_rfl) (by kernel_rfl) (by kernel_rfl) ?hq7p7v ?hy7p7v (by assumption) ?rest7p7v
              case hi7p7v => (simp only [List.getElem?_toArray, List.getElem?_cons_zero, List.getElem?_cons_succ]; rfl)
              case hy7p7v => (refine Or.inl ⟨by rfl, ?_⟩; intro w hSw; (try dsimp only at hSw); go_simp; try with_reducible rfl)
              case hq7p7v => exact fun _ _ _ h => h
              try simp only [Act.put, List.setIfInBounds_toArray, List.set_cons_zero, List.set_cons_succ]
              refine wpAnyH_ready (rs := [9]) (by kernel_rfl) (by simp) ?_
              refine AllReadyH.cons (o := ?o9p8v) ?ho9p8v (fun K hK => ?st9p8v) ?mo9p8v
              case ho9p8v => (simp only [List.getElem?_toArray, List.getElem?_cons_zero, List.getElem?_cons_succ]; rfl)
              · skip
                have c0 := HB4.out.cell 0
                have c1 := HB4.out.cell 1
                have q0 := HB4.out.frozen 0
                have q1 := HB4.out.frozen 1
                have HFI : Hid (Rbx w #[.int .i64 kd, .int .i64 on, .int .i64 kn, .int .i64 L, .int .i64 rk, .slice A body.length cap] rk body wd.heap.size g q _) := Lib.hid (Rbx.fin (HBD.out.trans (HBB4.out.mono (by omega))) HB4.out HS4.out.2 (HXD.out.over HBB4.out) (by have := HS4.out.1; omega) (by omega))
                have hS := And.intro (HFI.out.x.cell 4) (HFI.out.x.cell 5)
                go_simp
                refine hK.out _ _ hS (fun _ => ?_)
                clear hK K
                refine wpAnyH_done (by kernel_rfl) ?_ _
                go_wp2_with fail
                go_meet
                exact ⟨_, _, _, rfl, HFI⟩
              exact AllReadyH.nil
            exact AllReadyH.nil
          exact AllReadyH.nil
        case rest =>
          obtain ⟨C, g, q, rfl, HRB⟩ := hcut
          obtain ⟨wp, HWY⟩ : ∃ wp, Hid (wc = wp) := ⟨_, Lib.hid rfl⟩
          rw [HWY.out] at HRB ⊢
          clear HWY HWD HSB HXD HBD H1 hsd
          have HBW := Lib.hid HRB.out.bw
          have HBB : Hid (Below B0 w wp) := Lib.hid (HRB.out.bw.mono hBw)
          have HPW := Lib.hid (H.out.over HBW.out)
          have HDR : Hid (Below wp.heap.size wp wp.drew) := Lib.hid (below_drewN (Below.refl _ _) 1)
          have HPD := Lib.hid (HPW.out.over HDR.out)
          have HTP : Hid (Nibs wp) := Lib.hid (HT.out.below HBW.out)
          have HX := Lib.hid HRB.out.x
          have HS := Lib.hid HRB.out.s
          have HC := Lib.hid HRB.out.c
          have HSD := Lib.hid (HS.out.over HDR.out)
          have HGL := Lib.hid HRB.out.gl
          have hq : body.length + 64 ≤ q := by
            obtain ⟨_, _, _, _, h1, _⟩ := HS.out
            exact h1
          have HPJ : Hid (pg ≠ jg) := Lib.hid (by
            obtain ⟨s, hB, _⟩ := HPW.out.pj.blk
            exact HPW.out.blk.ne_ hB (by decide))
          have HGJ : Hid (∀ b o s, some (⟨g, 0, none⟩ : Addr) = some ⟨b, o, s⟩ → b ≠ jg) := Lib.hid fun b o s e e2 => by
            injection e with e
            injection e with e1 _
            have := HSZ.out _ HPW.out.gj
            have := HGL.out
            omega
          have s0 : wp.cell? ⟨pg, 0, none⟩ = some (.pointer (some ⟨jg, 0, none⟩)) := HPW.out.blk.cell 0
          have c0' : wp.cell? ⟨C, 0, none⟩ = some (.int .i64 rk) := HC.out.cell 0
          have c1' : wp.cell? ⟨C, 1, none⟩ = some (.slice (some ⟨g, 0, none⟩) body.length q) := HC.out.cell 1
          have k0 : wp.cell? ⟨w.heap.size, 0, none⟩ = some (.int .i64 kd) := HX.out.cell 0
          clear HRB
          obtain ⟨x, HXA⟩ : ∃ x, Hid (j.compact ⟨rk, body⟩ = x) := ⟨_, Lib.hid rfl⟩
          have HFX := Lib.hid (compact_fine2 ⟨rk, body⟩ HF.out)
          have HAP := Lib.hid (Compact_any (w := wp.drew) rk (some ⟨g, 0, none⟩) body.length q body HPD.out.pj HF.out.file HF.out.gen.2 (by omega) HSD.out.rd (by omega) (fun _ b o s e => HGJ.out b o s e) (HTP.out.below HDR.out) (HPD.out.noNibJ (HTP.out.below HDR.out)))
          rw [HXA.out] at HAP HFX
          go_upto_region 17 with fail
          refine wp_region_held_drew (S := fun W => W.cell? ⟨pg, 0, none⟩ = some (.pointer (some ⟨jg, 0, none⟩)) ∧ W.cell? ⟨C, 0, none⟩ = some (.int .i64 rk) ∧ W.cell? ⟨C, 1, none⟩ = some (.slice (some ⟨g, 0, none⟩) body.length q)) (by kernel_rfl) ⟨s0, c0', c1'⟩ (fun hsw => ?_)
          refine wpAnyH_take (i := 0) (oi := ?oi0oa) (v := ?v0oa) ?hi0oa (by kernel_rfl) (by kernel_rfl) (by kernel_rfl) ?hq0oa ?hy0oa (by assumption) ?rest0oa
          case hi0oa => (simp only [List.getElem?_toArray, List.getElem?_cons_zero]; rfl)
          case hy0oa => (refine Or.inl ⟨by rfl, ?_⟩; intro w hSw; (try dsimp only at hSw); go_simp; try with_reducible rfl)
          case hq0oa => exact fun _ _ _ h => h
          try simp only [Act.put, List.setIfInBounds_toArray, List.set_cons_zero, List.set_cons_succ]
          refine wpAnyH_take (i := 1) (oi := ?oi1oa) (v := ?v1oa) ?hi1oa (by kernel_rfl) (by kernel_rfl) (by kernel_rfl) ?hq1oa ?hy1oa (by assumption) ?rest1oa
          case hi1oa => (simp only [List.getElem?_toArray, List.getElem?_cons_zero, List.getElem?_cons_succ]; rfl)
          case hy1oa => (refine Or.inl ⟨by rfl, ?_⟩; intro w hSw; (try dsimp only at hSw); go_simp; try with_reducible rfl)
          case hq1oa => exact fun _ _ _ h => h
          try simp only [Act.put, List.setIfInBounds_toArray, List.set_cons_zero, List.set_cons_succ]
          refine wpAnyH_take (i := 2) (oi := ?oi2oa) (v := ?v2oa) ?hi2oa (by kernel_rfl) (by kernel_rfl) (by kernel_rfl) ?hq2oa ?hy2oa (by assumption) ?rest2oa
          case hi2oa => (simp only [List.getElem?_toArray, List.getElem?_cons_zero, List.getElem?_cons_succ]; rfl)
          case hy2oa => (refine Or.inl ⟨by rfl, ?_⟩; intro w hSw; (try dsimp only at hSw); go_simp; try with_reducible rfl)
          case hq2oa => exact fun _ _ _ h => h
          try simp only [Act.put, List.setIfInBounds_toArray, List.set_cons_zero, List.set_cons_succ]
          refine wpAnyH_take (i := 3) (oi := ?oi3oa) (v := ?v3oa) ?hi3oa (by kernel_rfl) (by kernel_rfl) (by kernel_rfl) ?hq3oa ?hy3oa (by assumption) ?rest3oa
          case hi3oa => (simp only [List.getElem?_toArray, List.getElem?_cons_zero, List.getElem?_cons_succ]; rfl)
          case hy3oa => (refine Or.inl ⟨by rfl, ?_⟩; intro w hSw; (try dsimp only at hSw); go_simp; try with_reducible rfl)
          case hq3oa => exact fun _ _ _ h => h
          try simp only [Act.put, List.setIfInBounds_toArray, List.set_cons_zero, List.set_cons_succ]
          refine wpAnyH_take (i := 4) (oi := ?oi4oa) (v := ?v4oa) ?hi4oa (by kernel_rfl) (by kernel_rfl) (by kernel_rfl) ?hq4oa ?hy4oa (by assumption) ?rest4oa
          case hi4oa => (simp only [List.getElem?_toArray, List.getElem?_cons_zero, List.getElem?_cons_succ]; rfl)
          case hy4oa => (refine Or.inl ⟨by rfl, ?_⟩; intro w hSw; (try dsimp only at hSw); go_simp; try with_reducible rfl)
          case hq4oa => exact fun _ _ _ h => h
          try simp only [Act.put, List.setIfInBounds_toArray, List.set_cons_zero, List.set_cons_succ]
          refine wpAnyH_ready (rs := [5]) (by kernel_rfl) (by simp) ?_
          refine AllReadyH.cons (o := ?o5ob) ?ho5ob (fun K hK => ?st5ob) ?mo5ob
          case ho5ob => (simp only [List.getElem?_toArray, List.getElem?_cons_zero, List.getElem?_cons_succ]; rfl)
          case mo5ob => exact AllReadyH.nil
          go_simp
          refine HAP.out.mono ?_
          rintro _ w2 ⟨va, rfl, hp2, ho2, hc2⟩
          obtain ⟨Aa, capa, rfl⟩ := ho2.shapeN
          have H2 := Lib.hid (And.intro hp2 (And.intro ho2 (dr_chg hc2)))
          clear hp2 ho2 hc2
          have HC2 : Hid (Blk w2 C 34 #[.int .i64 rk, .slice (some ⟨g, 0, none⟩) body.length q]) := Lib.hid (HC.out.chg H2.out.2.2 fun e => by have := HGL.out; have := HSZ.out _ HPW.out.gj; omega)
          have HPB := Lib.hid (HPW.out.blk.chg H2.out.2.2 HPJ.out)
          go_simp
          refine hK.out _ _ ⟨HPB.out.cell 0, HC2.out.cell 0, HC2.out.cell 1⟩ (fun _ => ?_)
          clear hK K
          try simp only [Act.put, List.setIfInBounds_toArray, List.set_cons_zero, List.set_cons_succ]
          refine wpAnyH_take (i := 6) (oi := ?oi6oc) (v := ?v6oc) ?hi6oc (by kernel_rfl) (by kernel_rfl) (by kernel_rfl) ?hq6oc ?hy6oc (by assumption) ?rest6oc
          case hi6oc => (simp only [List.getElem?_toArray, List.getElem?_cons_zero, List.getElem?_cons_succ]; rfl)
          case hy6oc => (refine Or.inl ⟨by rfl, ?_⟩; intro w hSw; (try dsimp only at hSw); go_simp; try with_reducible rfl)
          case hq6oc => exact fun _ _ _ h => h
          try simp only [Act.put, List.setIfInBounds_toArray, List.set_cons_zero, List.set_cons_succ]
          refine wpAnyH_take (i := 7) (oi := ?oi7oc) (v := ?v7oc) ?hi7oc (by kernel_rfl) (by kernel_rfl) (by kernel_rfl) ?hq7oc ?hy7oc (by assumption) ?rest7oc
          case hi7oc => (simp only [List.getElem?_toArray, List.getElem?_cons_zero, List.getElem?_cons_succ]; rfl)
          case hy7oc => (refine Or.inl ⟨by rfl, ?_⟩; intro w hSw; (try dsimp only at hSw); go_simp; try with_reducible rfl)
          case hq7oc => exact fun _ _ _ h => h
          try simp only [Act.put, List.setIfInBounds_toArray, List.set_cons_zero, List.set_cons_succ]
          refine wpAnyH_take (i := 8) (oi := ?oi8oc) (v := ?v8oc) ?hi8oc (by kernel_rfl) (by kernel_rfl) (by kernel_rfl) ?hq8oc ?hy8oc (by assumption) ?rest8oc
          case hi8oc => (simp only [List.getElem?_toArray, List.getElem?_cons_zero, List.getElem?_cons_succ]; rfl)
          case hy8oc => (refine Or.inl ⟨by rfl, ?_⟩; intro w hSw; (try dsimp only at hSw); go_simp; try with_reducible rfl)
          case hq8oc => exact fun _ _ _ h => h
          try simp only [Act.put, List.setIfInBounds_toArray, List.set_cons_zero, List.set_cons_succ]
          refine wpAnyH_take (i := 9) (oi := ?oi9oc) (v := ?v9oc) ?hi9oc (by kernel_rfl) (by kernel_rfl) (by kernel_rfl) ?hq9oc ?hy9oc (by assumption) ?rest9oc
          case hi9oc => (simp only [List.getElem?_toArray, List.getElem?_cons_zero, List.getElem?_cons_succ]; rfl)
          case hy9oc => (refine Or.inl ⟨by rfl, ?_⟩; intro w hSw; (try dsimp only at hSw); go_simp; try with_reducible rfl)
          case hq9oc => exact fun _ _ _ h => h
          try simp only [Act.put, List.setIfInBounds_toArray, List.set_cons_zero, List.set_cons_succ]
          refine wpAnyH_take (i := 10) (oi := ?oi10oc) (v := ?v10oc) ?hi10oc (by kernel_rfl) (by kernel_rfl) (by kernel_rfl) ?hq10oc ?hy10oc (by assumption) ?rest10oc
          case hi10oc => (simp only [List.getElem?_toArray, List.getElem?_cons_zero, List.getElem?_cons_succ]; rfl)
          case hy10oc => (refine Or.inl ⟨by rfl, ?_⟩; intro w hSw; (try dsimp only at hSw); go_simp; try with_reducible rfl)
          case hq10oc => exact fun _ _ _ h => h
          try simp only [Act.put, List.setIfInBounds_toArray, List.set_cons_zero, List.set_cons_succ]
          refine wpAnyH_done (by kernel_rfl) ?_ _
          go_upto_region 18 with fail
          have HB2 : Hid (Below B0 w w2) := Lib.hid (HBB.out.trans (H2.out.2.2.to_below (Nat.le_trans hBw HBW.out.size) fun k e => e ▸ HGB.out _ HPW.out.gj))
          have HR2 : Hid (RdB w2.drew w2.drew.heap.size A body.length body) := Lib.hid (((HRR.out _ HB2.out).more (Nat.le_trans hBw HB2.out.size)).dn 1)
          have HX2 : Hid (Blk w2 w.heap.size 57 #[.int .i64 kd, .int .i64 on, .int .i64 kn, .int .i64 L, .int .i64 rk, .slice A body.length cap]) := Lib.hid (HX.out.chg H2.out.2.2 fun e => by have := HSZ.out _ HPW.out.gj; omega)
          have HS2 : Hid (SpAt w2 g q body) := Lib.hid (HS.out.chg H2.out.2.2 fun e => by have := HGL.out; have := HSZ.out _ HPW.out.gj; omega)
          have HJ2 : Hid (RJAt w2 Fk kg j) := Lib.hid (HPW.out.rj.chg H2.out.2.2 fun k _ hk e => HPW.out.fj (e ▸ hk))
          have HFK : Hid (∀ k, Fk k → k < w2.drew.heap.size) := Lib.hid fun k hk => by have h1 := HPW.out.gs k (HPW.out.fk k hk); have h3 := H2.out.2.2.size; show k < w2.heap.size; omega
          have t1 : w2.cell? ⟨pg, 1, none⟩ = some (.pointer (some ⟨kg, 0, none⟩)) := HPB.out.cell 1
          have t4 : w2.cell? ⟨w.heap.size, 4, none⟩ = some (.int .i64 rk) := HX2.out.cell 4
          have t5 : w2.cell? ⟨w.heap.size, 5, none⟩ = some (.slice A body.length cap) := HX2.out.cell 5
          have HRA := Lib.hid (RCompact_any (w := w2.drew) (F := Fk) rk A body.length cap body (HJ2.out.below (below_drewN (Below.refl _ _) 1)) HF.out HR2.out (by omega))
          rw [HXA.out] at HRA
          clear s0 c0' c1'
          refine wp_region_held_drew (S := fun W => W.cell? ⟨pg, 1, none⟩ = some (.pointer (some ⟨kg, 0, none⟩)) ∧ W.cell? ⟨w.heap.size, 4, none⟩ = some (.int .i64 rk) ∧ W.cell? ⟨w.heap.size, 5, none⟩ = some (.slice A body.length cap)) (by kernel_rfl) ⟨t1, t4, t5⟩ (fun hsw => ?_)
          refine wpAnyH_take (i := 0) (oi := ?oi0od) (v := ?v0od) ?hi0od (by kernel_rfl) (by kernel_rfl) (by kernel_rfl) ?hq0od ?hy0od (by assumption) ?rest0od
          case hi0od => (simp only [List.getElem?_toArray, List.getElem?_cons_zero]; rfl)
          case hy0od => (refine Or.inl ⟨by rfl, ?_⟩; intro w hSw; (try dsimp only at hSw); go_simp; try with_reducible rfl)
          case hq0od => exact fun _ _ _ h => h
          try simp only [Act.put, List.setIfInBounds_toArray, List.set_cons_zero, List.set_cons_succ]
          refine wpAnyH_take (i := 1) (oi := ?oi1od) (v := ?v1od) ?hi1od (by kernel_rfl) (by kernel_rfl) (by kernel_rfl) ?hq1od ?hy1od (by assumption) ?rest1od
          case hi1od => (simp only [List.getElem?_toArray, List.getElem?_cons_zero, List.getElem?_cons_succ]; rfl)
          case hy1od => (refine Or.inl ⟨by rfl, ?_⟩; intro w hSw; (try dsimp only at hSw); go_simp; try with_reducible rfl)
          case hq1od => exact fun _ _ _ h => h
          try simp only [Act.put, List.setIfInBounds_toArray, List.set_cons_zero, List.set_cons_succ]
          refine wpAnyH_take (i := 2) (oi := ?oi2od) (v := ?v2od) ?hi2od (by kernel_rfl) (by kernel_rfl) (by kernel_rfl) ?hq2od ?hy2od (by assumption) ?rest2od
          case hi2od => (simp only [List.getElem?_toArray, List.getElem?_cons_zero, List.getElem?_cons_succ]; rfl)
          case hy2od => (refine Or.inl ⟨by rfl, ?_⟩; intro w hSw; (try dsimp only at hSw); go_simp; try with_reducible rfl)
          case hq2od => exact fun _ _ _ h => h
          try simp only [Act.put, List.setIfInBounds_toArray, List.set_cons_zero, List.set_cons_succ]
          refine wpAnyH_take (i := 3) (oi := ?oi3od) (v := ?v3od) ?hi3od (by kernel_rfl) (by kernel_rfl) (by kernel_rfl) ?hq3od ?hy3od (by assumption) ?rest3od
          case hi3od => (simp only [List.getElem?_toArray, List.getElem?_cons_zero, List.getElem?_cons_succ]; rfl)
          case hy3od => (refine Or.inl ⟨by rfl, ?_⟩; intro w hSw; (try dsimp only at hSw); go_simp; try with_reducible rfl)
          case hq3od => exact fun _ _ _ h => h
          try simp only [Act.put, List.setIfInBounds_toArray, List.set_cons_zero, List.set_cons_succ]
          refine wpAnyH_take (i := 4) (oi := ?oi4od) (v := ?v4od) ?hi4od (by kernel_rfl) (by kernel_rfl) (by kernel_rfl) ?hq4od ?hy4od (by assumption) ?rest4od
          case hi4od => (simp only [List.getElem?_toArray, List.getElem?_cons_zero, List.getElem?_cons_succ]; rfl)
          case hy4od => (refine Or.inl ⟨by rfl, ?_⟩; intro w hSw; (try dsimp only at hSw); go_simp; try with_reducible rfl)
          case hq4od => exact fun _ _ _ h => h
          try simp only [Act.put, List.setIfInBounds_toArray, List.set_cons_zero, List.set_cons_succ]
          refine wpAnyH_take (i := 5) (oi := ?oi5od) (v := ?v5od) ?hi5od (by kernel_rfl) (by kernel_rfl) (by kernel_rfl) ?hq5od ?hy5od (by assumption) ?rest5od
          case hi5od => (simp only [List.getElem?_toArray, List.getElem?_cons_zero, List.getElem?_cons_succ]; rfl)
          case hy5od => (refine Or.inl ⟨by rfl, ?_⟩; intro w hSw; (try dsimp only at hSw); go_simp; try with_reducible rfl)
          case hq5od => exact fun _ _ _ h => h
          try simp only [Act.put, List.setIfInBounds_toArray, List.set_cons_zero, List.set_cons_succ]
          refine wpAnyH_ready (rs := [6]) (by kernel_rfl) (by simp) ?_
          refine AllReadyH.cons (o := ?o6oe) ?ho6oe (fun K hK => ?st6oe) ?mo6oe
          case ho6oe => (simp only [List.getElem?_toArray, List.getElem?_cons_zero, List.getElem?_cons_succ]; rfl)
          case mo6oe => exact AllReadyH.nil
          go_simp
          refine HRA.out.mono ?_
          rintro _ w3 ⟨vb, F2, rfl, hp3, ho3, hm3⟩
          obtain ⟨Ab, capb, rfl⟩ := ho3.shapeN
          have H3 := Lib.hid (And.intro hp3 (And.intro ho3 (Moved.trans (Moved.of_below (below_drewN (Below.refl _ w2) 1)) hm3)))
          clear hp3 ho3 hm3
          have HX3 : Hid (Blk w3 w.heap.size 57 #[.int .i64 kd, .int .i64 on, .int .i64 kn, .int .i64 L, .int .i64 rk, .slice A body.length cap]) := Lib.hid (HX2.out.chg H3.out.2.2.2 fun hk => by have := HSZ.out _ (HPW.out.fk _ hk); omega)
          have HPB3 := Lib.hid (HPB.out.chg H3.out.2.2.2 HPW.out.fp)
          go_simp
          refine hK.out _ _ ⟨HPB3.out.cell 1, HX3.out.cell 4, HX3.out.cell 5⟩ (fun _ => ?_)
          clear hK K
          try simp only [Act.put, List.setIfInBounds_toArray, List.set_cons_zero, List.set_cons_succ]
          refine wpAnyH_take (i := 7) (oi := ?oi7of) (v := ?v7of) ?hi7of (by kernel_rfl) (by kernel_rfl) (by kernel_rfl) ?hq7of ?hy7of (by assumption) ?rest7of
          case hi7of => (simp only [List.getElem?_toArray, List.getElem?_cons_zero, List.getElem?_cons_succ]; rfl)
          case hy7of => (refine Or.inl ⟨by rfl, ?_⟩; intro w hSw; (try dsimp only at hSw); go_simp; try with_reducible rfl)
          case hq7of => exact fun _ _ _ h => h
          try simp only [Act.put, List.setIfInBounds_toArray, List.set_cons_zero, List.set_cons_succ]
          refine wpAnyH_take (i := 8) (oi := ?oi8of) (v := ?v8of) ?hi8of (by kernel_rfl) (by kernel_rfl) (by kernel_rfl) ?hq8of ?hy8of (by assumption) ?rest8of
          case hi8of => (simp only [List.getElem?_toArray, List.getElem?_cons_zero, List.getElem?_cons_succ]; rfl)
          case hy8of => (refine Or.inl ⟨by rfl, ?_⟩; intro w hSw; (try dsimp only at hSw); go_simp; try with_reducible rfl)
          case hq8of => exact fun _ _ _ h => h
          try simp only [Act.put, List.setIfInBounds_toArray, List.set_cons_zero, List.set_cons_succ]
          refine wpAnyH_take (i := 9) (oi := ?oi9of) (v := ?v9of) ?hi9of (by kernel_rfl) (by kernel_rfl) (by kernel_rfl) ?hq9of ?hy9of (by assumption) ?rest9of
          case hi9of => (simp only [List.getElem?_toArray, List.getElem?_cons_zero, List.getElem?_cons_succ]; rfl)
          case hy9of => (refine Or.inl ⟨by rfl, ?_⟩; intro w hSw; (try dsimp only at hSw); go_simp; try with_reducible rfl)
          case hq9of => exact fun _ _ _ h => h
          try simp only [Act.put, List.setIfInBounds_toArray, List.set_cons_zero, List.set_cons_succ]
          refine wpAnyH_take (i := 10) (oi := ?oi10of) (v := ?v10of) ?hi10of (by kernel_rfl) (by kernel_rfl) (by kernel_rfl) ?hq10of ?hy10of (by assumption) ?rest10of
          case hi10of => (simp only [List.getElem?_toArray, List.getElem?_cons_zero, List.getElem?_cons_succ]; rfl)
          case hy10of => (refine Or.inl ⟨by rfl, ?_⟩; intro w hSw; (try dsimp only at hSw); go_simp; try with_reducible rfl)
          case hq10of => exact fun _ _ _ h => h
          try simp only [Act.put, List.setIfInBounds_toArray, List.set_cons_zero, List.set_cons_succ]
          refine wpAnyH_take (i := 11) (oi := ?oi11of) (v := ?v11of) ?hi11of (by kernel_rfl) (by kernel_rfl) (by kernel_rfl) ?hq11of ?hy11of (by assumption) ?rest11of
          case hi11of => (simp only [List.getElem?_toArray, List.getElem?_cons_zero, List.getElem?_cons_succ]; rfl)
          case hy11of => (refine Or.inl ⟨by rfl, ?_⟩; intro w hSw; (try dsimp only at hSw); go_simp; try with_reducible rfl)
          case hq11of => exact fun _ _ _ h => h
          try simp only [Act.put, List.setIfInBounds_toArray, List.set_cons_zero, List.set_cons_succ]
          refine wpAnyH_done (by kernel_rfl) ?_ _
          go_upto_region 19 with fail
          have HP3 := Lib.hid (HPW.out.step H2.out.2.2 H2.out.1 H3.out.1 H3.out.2.2)
          have HB3 : Hid (Below B0 w w3) := Lib.hid (HB2.out.trans (H3.out.2.2.2.to_below (Nat.le_trans hBw HB2.out.size) fun k hk => HGB.out _ (HPW.out.fk k hk)))
          have HS3 : Hid (SpAt w3 g q body) := Lib.hid (HS2.out.chg H3.out.2.2.2 fun hk => by have := HGL.out; have := HSZ.out _ (HPW.out.fk _ hk); omega)
          have HC3 : Hid (Blk w3 C 34 #[.int .i64 rk, .slice (some ⟨g, 0, none⟩) body.length q]) := Lib.hid (HC2.out.chg H3.out.2.2.2 fun hk => by have := HGL.out; have := HSZ.out _ (HPW.out.fk _ hk); omega)
          have u1 : w3.cell? ⟨C, 1, none⟩ = some (.slice (some ⟨g, 0, none⟩) body.length q) := HC3.out.cell 1
          have u5 : w3.cell? ⟨w.heap.size, 5, none⟩ = some (.slice A body.length cap) := HX3.out.cell 5
          clear t1 t4 t5
          go_upto_region 20 with (go_at_call 16; refine (intact_sp A cap B0 body w3 HS3.out (HRR.out _ HB3.out)).mono ?_; rintro _ _ ⟨rfl, rfl⟩)
          go_upto_region 21 with (go_at_call 18; refine (full_sp body w3 HS3.out (by omega)).mono ?_; rintro _ w4 ⟨rfl, hf4, hc4⟩; have H4 := Lib.hid hc4; clear hf4 hc4)
          clear u1 u5
          have hgp : g < wp.heap.size := by
            obtain ⟨cur, hBg⟩ := HS.out.blk
            exact hBg.lt
          have HP4 : Hid (PAt w4 (Grow G wp w3) pg jg kg (fun k => F2 k ∧ k < w3.heap.size) A0 c0 A1 c1 x.1 f) := Lib.hid (HP3.out.1.chg H4.out fun k hk e => by
            rcases hk with hk | hk
            · have := HSZ.out k hk; have := HGL.out; omega
            · omega)
          have HB4 : Hid (Below B0 w w4) := Lib.hid (HB3.out.trans (H4.out.to_below (Nat.le_trans hBw HB3.out.size) fun k e => by have := HGL.out; omega))
          have hs3 := H3.out.2.2.2.size
          have hs2 : wp.heap.size ≤ w2.heap.size := H2.out.2.2.size
          have HWA : Hid (WsAt w4 Aa x.2.1.length x.2.1) := Lib.hid ((H2.out.2.1.chg H3.out.2.2.2 fun i hi _ hk => by have := HPW.out.gs _ (HPW.out.fk _ hk); have : wp.drew.heap.size = wp.heap.size := rfl; omega).chg H4.out fun i hi _ e => by have : wp.drew.heap.size = wp.heap.size := rfl; omega).wsN
          have HWB : Hid (WsAt w4 Ab x.2.1.length x.2.1) := Lib.hid (H3.out.2.1.chg H4.out fun i hi _ e => by have : w2.drew.heap.size = w2.heap.size := rfl; omega).wsN
          have hlx := H3.out.2.1.few
          have hcx := HFX.out.2
          have HST := Lib.hid (stands_any (w := w4) (G := Grow G wp w3) (f := f) (e1 := capa) (e2 := capb) ⟨_, _, _, _, _, _, _, HP4.out⟩ HFX.out.1 HWA.out HWB.out (by omega) (by omega) (x.2.2 : Int) kk hkk (by omega) (nibs_B HT.out HB4.out HNB.out))
          have HCG : Hid (Chg (fun k => G k ∨ w.heap.size ≤ k) w w4) := Lib.hid ((((Chg.of_below HBW.out _).trans (HP3.out.2.mono fun k _ h => .inl h)).trans (H4.out.mono fun k _ e => .inr (by have := HGL.out; omega))))
          have HSS : Hid (wp.heap.size ≤ w3.heap.size ∧ w3.heap.size ≤ w4.heap.size ∧ w.heap.size ≤ wp.heap.size ∧ costW x.2.1 ≤ 65537) := Lib.hid ⟨by omega, H4.out.size, HBW.out.size, hcx⟩
          clear hgp hs3 hs2 hlx hcx
          go_wp2_with (go_at_call 60; refine HST.out.mono ?_; rintro _ w5 ⟨rfl, j5, f5, hp5, hf5, hl5, hc5⟩; have H5 := Lib.hid (And.intro hp5 (And.intro hf5 (And.intro hl5 hc5))); clear hp5 hf5 hl5 hc5)
          go_ret
          have hs5 := H5.out.2.2.2.size
          have hss := HSS.out
          refine ⟨rfl, j5, f5, H5.out.1.mono (fun k hk => ?_) (grow_lt HSZ.out (by omega)), H5.out.2.1, Nat.le_trans H5.out.2.2.1 (Nat.add_le_add_left (Nat.add_le_add_right hss.2.2.2 _) _), (HCG.out.thenS (H5.out.2.2.2.mono (S' := fun k => G k ∨ w.heap.size ≤ k) fun k _ hk => hk.elim .inl fun h => .inr (by omega)) (fun _ _ h => h)).mono fun k hk h => h.elim id fun h => by omega⟩
          rcases hk with (hk | hk) | hk
          · exact .inl hk
          · exact .inr ⟨by omega, by omega⟩
          · exact .inr ⟨by omega, hk.2⟩
    · have b7 : (kd == 7) = false := by simpa using h7
      clear h6 h7
      go_enter Tryd.func29, Tryd.ntmps29
      go_upto_if 24 with fail
      rw [← HW1.out]
      go_cut [5] from 17 to 150 (fun d5 wc => ∃ kk : Int, d5 = .int .i64 kk ∧ kk ≤ 9223372036854775807 ∧ Hid (wc = w1))
      case first =>
        go_wp2_with fail
        all_goals
          go_meet
          exact ⟨_, rfl, by omega, Lib.hid rfl⟩
      case rest =>
        obtain ⟨kk, rfl, hkk, HWC⟩ := hcut
        rw [HWC.out]
        clear HWC k0 k2 HW1
        go_upto_region 6 with fail
        obtain ⟨wd, hwd⟩ : ∃ wd, wd = w1.drew := ⟨_, rfl⟩
        have hbd : Below w1.heap.size w1 wd := by rw [hwd]; exact below_drewN (Below.refl _ _) 1
        have HSB : Hid (∀ W, Below wd.heap.size wd W → W.cell? ⟨w.heap.size, 4, none⟩ = some (.int .i64 rk) ∧ W.cell? ⟨w.heap.size, 5, none⟩ = some (.slice A body.length cap)) := Lib.hid fun W hW => ⟨((H1.out.2.1.over hbd).over hW).cell 4, ((H1.out.2.1.over hbd).over hW).cell 5⟩
        have HXD := Lib.hid (H1.out.2.1.over hbd)
        have HBD : Hid (Below w.heap.size w wd) := Lib.hid (Below.then H1.out.1 hbd)
        have hsd : w.heap.size < wd.heap.size := HXD.out.lt
        have HWD := Lib.hid hwd
        clear hwd hbd
        go_cut [6] from 17 to 150 (fun d6 wc => ∃ C g q, d6 = .pointer (some ⟨C, 0, none⟩) ∧ Hid (Rbx w #[.int .i64 kd, .int .i64 on, .int .i64 kn, .int .i64 L, .int .i64 rk, .slice A body.length cap] rk body C g q wc))
        case first =>
          refine wp_region_held_drew (S := fun W => W.cell? ⟨w.heap.size, 4, none⟩ = some (.int .i64 rk) ∧ W.cell? ⟨w.heap.size, 5, none⟩ = some (.slice A body.length cap)) (by kernel_rfl) (by rw [← HWD.out]; exact HSB.out _ (Below.refl _ _)) (fun hsw => ?_)
          rw [← HWD.out] at hsw ⊢
          refine wpAnyH_take (i := 0) (oi := ?oi0ax) (v := ?v0ax) ?hi0ax (by kernel_rfl) (by kernel_rfl) (by kernel_rfl) ?hq0ax ?hy0ax (by assumption) ?rest0ax
          case hi0ax => (simp only [List.getElem?_toArray, List.getElem?_cons_zero]; rfl)
          case hy0ax => (refine Or.inl ⟨by rfl, ?_⟩; intro w hSw; (try dsimp only at hSw); go_simp; try with_reducible rfl)
          case hq0ax => exact fun _ _ _ h => h
          try simp only [Act.put, List.setIfInBounds_toArray, List.set_cons_zero, List.set_cons_succ]
          refine wpAnyH_take (i := 1) (oi := ?oi1ax) (v := ?v1ax) ?hi1ax (by kernel_rfl) (by kernel_rfl) (by kernel_rfl) ?hq1ax ?hy1ax (by assumption) ?rest1ax
          case hi1ax => (simp only [List.getElem?_toArray, List.getElem?_cons_zero, List.getElem?_cons_succ]; rfl)
          case hy1ax => (refine Or.inl ⟨by rfl, ?_⟩; intro w hSw; (try dsimp only at hSw); go_simp; try with_reducible rfl)
          case hq1ax => exact fun _ _ _ h => h
          try simp only [Act.put, List.setIfInBounds_toArray, List.set_cons_zero, List.set_cons_succ]
          refine wpAnyH_take (i := 2) (oi := ?oi2ax) (v := ?v2ax) ?hi2ax (by kernel_rfl) (by kernel_rfl) (by kernel_rfl) ?hq2ax ?hy2ax (by assumption) ?rest2ax
          case hi2ax => (simp only [List.getElem?_toArray, List.getElem?_cons_zero, List.getElem?_cons_succ]; rfl)
          case hy2ax => (refine Or.inl ⟨by rfl, ?_⟩; intro w hSw; (try dsimp only at hSw); go_simp; try with_reducible rfl)
          case hq2ax => exact fun _ _ _ h => h
          try simp only [Act.put, List.setIfInBounds_toArray, List.set_cons_zero, List.set_cons_succ]
          refine wpAnyH_take (i := 3) (oi := ?oi3ax) (v := ?v3ax) ?hi3ax (by kernel_rfl) (by kernel_rfl) (by kernel_rfl) ?hq3ax ?hy3ax (by assumption) ?rest3ax
          case hi3ax => (simp only [List.getElem?_toArray, List.getElem?_cons_zero, List.getElem?_cons_succ]; rfl)
          case hy3ax => (refine Or.inl ⟨by rfl, ?_⟩; intro w hSw; (try dsimp only at hSw); go_simp; try with_reducible rfl)
          case hq3ax => exact fun _ _ _ h => h
          try simp only [Act.put, List.setIfInBounds_toArray, List.set_cons_zero, List.set_cons_succ]
          refine wpAnyH_take (i := 4) (oi := ?oi4ax) (v := ?v4ax) ?hi4ax (by kernel_rfl) (by kernel_rfl) (by kernel_rfl) ?hq4ax ?hy4ax (by assumption) ?rest4ax
          case hi4ax => (simp only [List.getElem?_toArray, List.getElem?_cons_zero, List.getElem?_cons_succ]; rfl)
          case hy4ax => (refine Or.inl ⟨by rfl, ?_⟩; intro w hSw; (try dsimp only at hSw); go_simp; try with_reducible rfl)
          case hq4ax => exact fun _ _ _ h => h
          try simp only [Act.put, List.setIfInBounds_toArray, List.set_cons_zero, List.set_cons_succ]
          refine wpAnyH_take (i := 5) (oi := ?oi5ax) (v := ?v5ax) ?hi5ax (by kernel_rfl) (by kernel_rfl) (by kernel_rfl) ?hq5ax ?hy5ax (by assumption) ?rest5ax
          case hi5ax => (simp only [List.getElem?_toArray, List.getElem?_cons_zero, List.getElem?_cons_succ]; rfl)
          case hy5ax => (refine Or.inl ⟨by rfl, ?_⟩; intro w hSw; (try dsimp only at hSw); go_simp; try with_reducible rfl)
          case hq5ax => exact fun _ _ _ h => h
          try simp only [Act.put, List.setIfInBounds_toArray, List.set_cons_zero, List.set_cons_succ]
          refine wpAnyH_ready (rs := [6, 8]) (by kernel_rfl) (by simp) ?_
          refine AllReadyH.cons (o := ?o6p1x) ?ho6p1x (fun K hK => ?st6p1x) ?mo6p1x
          case ho6p1x => (simp only [List.getElem?_toArray, List.getElem?_cons_zero, List.getElem?_cons_succ]; rfl)
          · skip
            have HSP := Lib.hid (spare_sp A cap body wd ((HRR.out _ (HBD.out.mono hBw)).more (by omega)) (by omega))
            go_simp
            refine HSP.out.mono ?_
            rintro _ wp1 ⟨g, q, rfl, hg, hs, hb⟩
            have HA := Lib.hid (And.intro hg (And.intro hs hb))
            clear hg hs hb HSP
            go_simp
            refine hK.out _ _ (HSB.out _ HA.out.2.2) (fun _ => ?_)
            clear hK K
            try simp only [Act.put, List.setIfInBounds_toArray, List.set_cons_zero, List.set_cons_succ]
            refine wpAnyH_take (i := 7) (oi := ?oi7p2x) (v := ?v7p2x) ?hi7p2x (by kernel_rfl) (by kernel_rfl) (by kernel_rfl) ?hq7p2x ?hy7p2x (by assumption) ?rest7p2x
            case hi7p2x => (simp only [List.getElem?_toArray, List.getElem?_cons_zero, List.getElem?_cons_succ]; rfl)
            case hy7p2x => (refine Or.inl ⟨by rfl, ?_⟩; intro w hSw; (try dsimp only at hSw); go_simp; try with_reducible rfl)
            case hq7p2x => exact fun _ _ _ h => h
            try simp only [Act.put, List.setIfInBounds_toArray, List.set_cons_zero, List.set_cons_succ]
            refine wpAnyH_ready (rs := [8]) (by kernel_rfl) (by simp) ?_
            refine AllReadyH.cons (o := ?o8p3x) ?ho8p3x (fun K hK => ?st8p3x) ?mo8p3x
            case ho8p3x => (simp only [List.getElem?_toArray, List.getElem?_cons_zero, List.getElem?_cons_succ]; rfl)
            · skip
              obtain ⟨wp4, hwp4⟩ : ∃ w', w' = wp1.alloc (.cells #[.int .i64 0, .slice none 0 0] 34) := ⟨_, rfl⟩
              have hb4 : Below wp1.heap.size wp1 wp4 := by rw [hwp4]; exact one_box' _ _
              have hB4 : Blk wp4 wp1.heap.size 34 #[.int .i64 0, .slice none 0 0] := by rw [hwp4]; exact Blk.new _ _ _
              have HBB4 := Lib.hid (Below.then HA.out.2.2 hb4)
              have HB4 := Lib.hid hB4
              have HS4 := Lib.hid (HA.out.2.1.over hb4)
              have hsz4 : wd.heap.size ≤ wp1.heap.size := HA.out.2.2.size
              go_simp
              rw [← hwp4]
              clear hwp4 hb4 hB4
              refine hK.out _ _ (HSB.out _ HBB4.out) (fun _ => ?_)
              clear hK K
              try simp only [Act.put, List.setIfInBounds_toArray, List.set_cons_zero, List.set_cons_succ]
              refine wpAnyH_ready (rs := [9]) (by kernel_rfl) (by simp) ?_
              refine AllReadyH.cons (o := ?o9p4x) ?ho9p4x (fun K hK => ?st9p4x) ?mo9p4x
              case ho9p4x => (simp only [List.getElem?_toArray, List.getElem?_cons_zero, List.getElem?_cons_succ]; rfl)
              · skip
                have c0 := HB4.out.cell 0
                have c1 := HB4.out.cell 1
                have q0 := HB4.out.frozen 0
                have q1 := HB4.out.frozen 1
                have HFI : Hid (Rbx w #[.int .i64 kd, .int .i64 on, .int .i64 kn, .int .i64 L, .int .i64 rk, .slice A body.length cap] rk body wp1.heap.size g q _) := Lib.hid (Rbx.fin (HBD.out.trans (HBB4.out.mono (by omega))) HB4.out HS4.out (HXD.out.over HBB4.out) (by have := HA.out.1; omega) (by omega))
                have hS := And.intro (HFI.out.x.cell 4) (HFI.out.x.cell 5)
                go_simp
                refine hK.out _ _ hS (fun _ => ?_)
                clear hK K
                refine wpAnyH_done (by kernel_rfl) ?_ _
                go_wp2_with fail
                go_meet
                exact ⟨_, _, _, rfl, HFI⟩
              exact AllReadyH.nil
            exact AllReadyH.nil
          refine AllReadyH.cons (o := ?o8p5x) ?ho8p5x (fun K hK => ?st8p5x) ?mo8p5x
          case ho8p5x => (simp only [List.getElem?_toArray, List.getElem?_cons_zero, List.getElem?_cons_succ]; rfl)
          · skip
            obtain ⟨wp1, hwp1⟩ : ∃ w', w' = wd.alloc (.cells #[.int .i64 0, .slice none 0 0] 34) := ⟨_, rfl⟩
            have hb4 : Below wd.heap.size wd wp1 := by rw [hwp1]; exact one_box' _ _
            have hB4 : Blk wp1 wd.heap.size 34 #[.int .i64 0, .slice none 0 0] := by rw [hwp1]; exact Blk.new _ _ _
            have HA := Lib.hid (And.intro hB4 hb4)
            go_simp
            rw [← hwp1]
            clear hwp1 hb4 hB4
            refine hK.out _ _ (HSB.out _ HA.out.2) (fun _ => ?_)
            clear hK K
            try simp only [Act.put, List.setIfInBounds_toArray, List.set_cons_zero, List.set_cons_succ]
            refine wpAnyH_ready (rs := [6]) (by kernel_rfl) (by simp) ?_
            refine AllReadyH.cons (o := ?o6p6x) ?ho6p6x (fun K hK => ?st6p6x) ?mo6p6x
            case ho6p6x => (simp only [List.getElem?_toArray, List.getElem?_cons_zero, List.getElem?_cons_succ]; rfl)
            · skip
              have HSP := Lib.hid (spare_sp A cap body wp1 ((HRR.out _ ((HBD.out.trans (HA.out.2.mono (by omega))).mono hBw)).more (by have := HA.out.2.size; omega)) (by omega))
              go_simp
              refine HSP.out.mono ?_
              rintro _ wp4 ⟨g, q, rfl, hg, hs, hb⟩
              have HS4 := Lib.hid (And.intro hg hs)
              have HBB4 := Lib.hid (Below.then HA.out.2 hb)
              have HB4 := Lib.hid (HA.out.1.over hb)
              have hsz4 : wd.heap.size ≤ wp1.heap.size := HA.out.2.size
              clear hg hs hb HSP
              go_simp
              refine hK.out _ _ (HSB.out _ HBB4.out) (fun _ => ?_)
              clear hK K
              try simp only [Act.put, List.setIfInBounds_toArray, List.set_cons_zero, List.set_cons_succ]
              refine wpAnyH_take (i := 7) (oi := ?oi7p7x) (v := ?v7p7x) ?hi7p7x (by kernel_rfl) (by kernel_rfl) (by kernel_rfl) ?hq7p7x ?hy7p7x (by assumption) ?rest7p7x
              case hi7p7x => (simp only [List.getElem?_toArray, List.getElem?_cons_zero, List.getElem?_cons_succ]; rfl)
              case hy7p7x => (refine Or.inl ⟨by rfl, ?_⟩; intro w hSw; (try dsimp only at hSw); go_simp; try with_reducible rfl)
              case hq7p7x => exact fun _ _ _ h => h
              try simp only [Act.put, List.setIfInBounds_toArray, List.set_cons_zero, List.set_cons_succ]
              refine wpAnyH_ready (rs := [9]) (by kernel_rfl) (by simp) ?_
              refine AllReadyH.cons (o := ?o9p8x) ?ho9p8x (fun K hK => ?st9p8x) ?mo9p8x
              case ho9p8x => (simp only [List.getElem?_toArray, List.getElem?_cons_zero, List.getElem?_cons_succ]; rfl)
              · skip
                have c0 := HB4.out.cell 0
                have c1 := HB4.out.cell 1
                have q0 := HB4.out.frozen 0
                have q1 := HB4.out.frozen 1
                have HFI : Hid (Rbx w #[.int .i64 kd, .int .i64 on, .int .i64 kn, .int .i64 L, .int .i64 rk, .slice A body.length cap] rk body wd.heap.size g q _) := Lib.hid (Rbx.fin (HBD.out.trans (HBB4.out.mono (by omega))) HB4.out HS4.out.2 (HXD.out.over HBB4.out) (by have := HS4.out.1; omega) (by omega))
                have hS := And.intro (HFI.out.x.cell 4) (HFI.out.x.cell 5)
                go_simp
                refine hK.out _ _ hS (fun _ => ?_)
                clear hK K
                refine wpAnyH_done (by kernel_rfl) ?_ _
                go_wp2_with fail
                go_meet
                exact ⟨_, _, _, rfl, HFI⟩
              exact AllReadyH.nil
            exact AllReadyH.nil
          exact AllReadyH.nil
        case rest =>
          obtain ⟨C, g, q, rfl, HRB⟩ := hcut
          obtain ⟨wp, HWY⟩ : ∃ wp, Hid (wc = wp) := ⟨_, Lib.hid rfl⟩
          rw [HWY.out] at HRB ⊢
          clear HWY HWD HSB HXD HBD H1 hsd
          have HBW := Lib.hid HRB.out.bw
          have HBB : Hid (Below B0 w wp) := Lib.hid (HRB.out.bw.mono hBw)
          have HPW := Lib.hid (H.out.over HBW.out)
          have HDR : Hid (Below wp.heap.size wp wp.drew) := Lib.hid (below_drewN (Below.refl _ _) 1)
          have HPD := Lib.hid (HPW.out.over HDR.out)
          have HTP : Hid (Nibs wp) := Lib.hid (HT.out.below HBW.out)
          have HX := Lib.hid HRB.out.x
          have HS := Lib.hid HRB.out.s
          have HC := Lib.hid HRB.out.c
          have HSD := Lib.hid (HS.out.over HDR.out)
          have HGL := Lib.hid HRB.out.gl
          have hq : body.length + 64 ≤ q := by
            obtain ⟨_, _, _, _, h1, _⟩ := HS.out
            exact h1
          have HPJ : Hid (pg ≠ jg) := Lib.hid (by
            obtain ⟨s, hB, _⟩ := HPW.out.pj.blk
            exact HPW.out.blk.ne_ hB (by decide))
          have HGJ : Hid (∀ b o s, some (⟨g, 0, none⟩ : Addr) = some ⟨b, o, s⟩ → b ≠ jg) := Lib.hid fun b o s e e2 => by
            injection e with e
            injection e with e1 _
            have := HSZ.out _ HPW.out.gj
            have := HGL.out
            omega
          have s0 : wp.cell? ⟨pg, 0, none⟩ = some (.pointer (some ⟨jg, 0, none⟩)) := HPW.out.blk.cell 0
          have c0' : wp.cell? ⟨C, 0, none⟩ = some (.int .i64 rk) := HC.out.cell 0
          have c1' : wp.cell? ⟨C, 1, none⟩ = some (.slice (some ⟨g, 0, none⟩) body.length q) := HC.out.cell 1
          have k0 : wp.cell? ⟨w.heap.size, 0, none⟩ = some (.int .i64 kd) := HX.out.cell 0
          clear HRB
          by_cases h1 : kd = 1
          · have b1 : (kd == 1) = true := by simpa using h1
            clear h1
            obtain ⟨x, HXA⟩ : ∃ x, Hid (j.append ⟨rk, body⟩ = x) := ⟨_, Lib.hid rfl⟩
            have HFX := Lib.hid (append_fine ⟨rk, body⟩ HF.out)
            have HAP := Lib.hid (Append_any (w := wp.drew) rk (some ⟨g, 0, none⟩) body.length q body HPD.out.pj HF.out.len HSD.out.rd (by omega) (HTP.out.below HDR.out))
            rw [HXA.out] at HAP HFX
            go_upto_region 10 with fail
            refine wp_region_held_drew (S := fun W => W.cell? ⟨pg, 0, none⟩ = some (.pointer (some ⟨jg, 0, none⟩)) ∧ W.cell? ⟨C, 0, none⟩ = some (.int .i64 rk) ∧ W.cell? ⟨C, 1, none⟩ = some (.slice (some ⟨g, 0, none⟩) body.length q)) (by kernel_rfl) ⟨s0, c0', c1'⟩ (fun hsw => ?_)
            refine wpAnyH_take (i := 0) (oi := ?oi0ya) (v := ?v0ya) ?hi0ya (by kernel_rfl) (by kernel_rfl) (by kernel_rfl) ?hq0ya ?hy0ya (by assumption) ?rest0ya
            case hi0ya => (simp only [List.getElem?_toArray, List.getElem?_cons_zero]; rfl)
            case hy0ya => (refine Or.inl ⟨by rfl, ?_⟩; intro w hSw; (try dsimp only at hSw); go_simp; try with_reducible rfl)
            case hq0ya => exact fun _ _ _ h => h
            try simp only [Act.put, List.setIfInBounds_toArray, List.set_cons_zero, List.set_cons_succ]
            refine wpAnyH_take (i := 1) (oi := ?oi1ya) (v := ?v1ya) ?hi1ya (by kernel_rfl) (by kernel_rfl) (by kernel_rfl) ?hq1ya ?hy1ya (by assumption) ?rest1ya
            case hi1ya => (simp only [List.getElem?_toArray, List.getElem?_cons_zero, List.getElem?_cons_succ]; rfl)
            case hy1ya => (refine Or.inl ⟨by rfl, ?_⟩; intro w hSw; (try dsimp only at hSw); go_simp; try with_reducible rfl)
            case hq1ya => exact fun _ _ _ h => h
            try simp only [Act.put, List.setIfInBounds_toArray, List.set_cons_zero, List.set_cons_succ]
            refine wpAnyH_take (i := 2) (oi := ?oi2ya) (v := ?v2ya) ?hi2ya (by kernel_rfl) (by kernel_rfl) (by kernel_rfl) ?hq2ya ?hy2ya (by assumption) ?rest2ya
            case hi2ya => (simp only [List.getElem?_toArray, List.getElem?_cons_zero, List.getElem?_cons_succ]; rfl)
            case hy2ya => (refine Or.inl ⟨by rfl, ?_⟩; intro w hSw; (try dsimp only at hSw); go_simp; try with_reducible rfl)
            case hq2ya => exact fun _ _ _ h => h
            try simp only [Act.put, List.setIfInBounds_toArray, List.set_cons_zero, List.set_cons_succ]
            refine wpAnyH_take (i := 3) (oi := ?oi3ya) (v := ?v3ya) ?hi3ya (by kernel_rfl) (by kernel_rfl) (by kernel_rfl) ?hq3ya ?hy3ya (by assumption) ?rest3ya
            case hi3ya => (simp only [List.getElem?_toArray, List.getElem?_cons_zero, List.getElem?_cons_succ]; rfl)
            case hy3ya => (refine Or.inl ⟨by rfl, ?_⟩; intro w hSw; (try dsimp only at hSw); go_simp; try with_reducible rfl)
            case hq3ya => exact fun _ _ _ h => h
            try simp only [Act.put, List.setIfInBounds_toArray, List.set_cons_zero, List.set_cons_succ]
            refine wpAnyH_take (i := 4) (oi := ?oi4ya) (v := ?v4ya) ?hi4ya (by kernel_rfl) (by kernel_rfl) (by kernel_rfl) ?hq4ya ?hy4ya (by assumption) ?rest4ya
            case hi4ya => (simp only [List.getElem?_toArray, List.getElem?_cons_zero, List.getElem?_cons_succ]; rfl)
            case hy4ya => (refine Or.inl ⟨by rfl, ?_⟩; intro w hSw; (try dsimp only at hSw); go_simp; try with_reducible rfl)
            case hq4ya => exact fun _ _ _ h => h
            try simp only [Act.put, List.setIfInBounds_toArray, List.set_cons_zero, List.set_cons_succ]
            refine wpAnyH_ready (rs := [5]) (by kernel_rfl) (by simp) ?_
            refine AllReadyH.cons (o := ?o5yb) ?ho5yb (fun K hK => ?st5yb) ?mo5yb
            case ho5yb => (simp only [List.getElem?_toArray, List.getElem?_cons_zero, List.getElem?_cons_succ]; rfl)
            case mo5yb => exact AllReadyH.nil
            go_simp
            refine HAP.out.mono ?_
            rintro _ w2 ⟨va, rfl, hp2, ho2, hc2⟩
            obtain ⟨Aa, capa, rfl⟩ := ho2.shapeN
            have H2 := Lib.hid (And.intro hp2 (And.intro ho2 (dr_chg hc2)))
            clear hp2 ho2 hc2
            have HC2 : Hid (Blk w2 C 34 #[.int .i64 rk, .slice (some ⟨g, 0, none⟩) body.length q]) := Lib.hid (HC.out.chg H2.out.2.2 fun e => by have := HGL.out; have := HSZ.out _ HPW.out.gj; omega)
            have HPB := Lib.hid (HPW.out.blk.chg H2.out.2.2 HPJ.out)
            go_simp
            refine hK.out _ _ ⟨HPB.out.cell 0, HC2.out.cell 0, HC2.out.cell 1⟩ (fun _ => ?_)
            clear hK K
            try simp only [Act.put, List.setIfInBounds_toArray, List.set_cons_zero, List.set_cons_succ]
            refine wpAnyH_take (i := 6) (oi := ?oi6yc) (v := ?v6yc) ?hi6yc (by kernel_rfl) (by kernel_rfl) (by kernel_rfl) ?hq6yc ?hy6yc (by assumption) ?rest6yc
            case hi6yc => (simp only [List.getElem?_toArray, List.getElem?_cons_zero, List.getElem?_cons_succ]; rfl)
            case hy6yc => (refine Or.inl ⟨by rfl, ?_⟩; intro w hSw; (try dsimp only at hSw); go_simp; try with_reducible rfl)
            case hq6yc => exact fun _ _ _ h => h
            try simp only [Act.put, List.setIfInBounds_toArray, List.set_cons_zero, List.set_cons_succ]
            refine wpAnyH_take (i := 7) (oi := ?oi7yc) (v := ?v7yc) ?hi7yc (by kernel_rfl) (by kernel_rfl) (by kernel_rfl) ?hq7yc ?hy7yc (by assumption) ?rest7yc
            case hi7yc => (simp only [List.getElem?_toArray, List.getElem?_cons_zero, List.getElem?_cons_succ]; rfl)
            case hy7yc => (refine Or.inl ⟨by rfl, ?_⟩; intro w hSw; (try dsimp only at hSw); go_simp; try with_reducible rfl)
            case hq7yc => exact fun _ _ _ h => h
            try simp only [Act.put, List.setIfInBounds_toArray, List.set_cons_zero, List.set_cons_succ]
            refine wpAnyH_take (i := 8) (oi := ?oi8yc) (v := ?v8yc) ?hi8yc (by kernel_rfl) (by kernel_rfl) (by kernel_rfl) ?hq8yc ?hy8yc (by assumption) ?rest8yc
            case hi8yc => (simp only [List.getElem?_toArray, List.getElem?_cons_zero, List.getElem?_cons_succ]; rfl)
            case hy8yc => (refine Or.inl ⟨by rfl, ?_⟩; intro w hSw; (try dsimp only at hSw); go_simp; try with_reducible rfl)
            case hq8yc => exact fun _ _ _ h => h
            try simp only [Act.put, List.setIfInBounds_toArray, List.set_cons_zero, List.set_cons_succ]
            refine wpAnyH_take (i := 9) (oi := ?oi9yc) (v := ?v9yc) ?hi9yc (by kernel_rfl) (by kernel_rfl) (by kernel_rfl) ?hq9yc ?hy9yc (by assumption) ?rest9yc
            case hi9yc => (simp only [List.getElem?_toArray, List.getElem?_cons_zero, List.getElem?_cons_succ]; rfl)
            case hy9yc => (refine Or.inl ⟨by rfl, ?_⟩; intro w hSw; (try dsimp only at hSw); go_simp; try with_reducible rfl)
            case hq9yc => exact fun _ _ _ h => h
            try simp only [Act.put, List.setIfInBounds_toArray, List.set_cons_zero, List.set_cons_succ]
            refine wpAnyH_take (i := 10) (oi := ?oi10yc) (v := ?v10yc) ?hi10yc (by kernel_rfl) (by kernel_rfl) (by kernel_rfl) ?hq10yc ?hy10yc (by assumption) ?rest10yc
            case hi10yc => (simp only [List.getElem?_toArray, List.getElem?_cons_zero, List.getElem?_cons_succ]; rfl)
            case hy10yc => (refine Or.inl ⟨by rfl, ?_⟩; intro w hSw; (try dsimp only at hSw); go_simp; try with_reducible rfl)
            case hq10yc => exact fun _ _ _ h => h
            try simp only [Act.put, List.setIfInBounds_toArray, List.set_cons_zero, List.set_cons_succ]
            refine wpAnyH_done (by kernel_rfl) ?_ _
            go_upto_region 11 with fail
            have HB2 : Hid (Below B0 w w2) := Lib.hid (HBB.out.trans (H2.out.2.2.to_below (Nat.le_trans hBw HBW.out.size) fun k e => e ▸ HGB.out _ HPW.out.gj))
            have HR2 : Hid (RdB w2.drew w2.drew.heap.size A body.length body) := Lib.hid (((HRR.out _ HB2.out).more (Nat.le_trans hBw HB2.out.size)).dn 1)
            have HX2 : Hid (Blk w2 w.heap.size 57 #[.int .i64 kd, .int .i64 on, .int .i64 kn, .int .i64 L, .int .i64 rk, .slice A body.length cap]) := Lib.hid (HX.out.chg H2.out.2.2 fun e => by have := HSZ.out _ HPW.out.gj; omega)
            have HS2 : Hid (SpAt w2 g q body) := Lib.hid (HS.out.chg H2.out.2.2 fun e => by have := HGL.out; have := HSZ.out _ HPW.out.gj; omega)
            have HJ2 : Hid (RJAt w2 Fk kg j) := Lib.hid (HPW.out.rj.chg H2.out.2.2 fun k _ hk e => HPW.out.fj (e ▸ hk))
            have HFK : Hid (∀ k, Fk k → k < w2.drew.heap.size) := Lib.hid fun k hk => by have h1 := HPW.out.gs k (HPW.out.fk k hk); have h3 := H2.out.2.2.size; show k < w2.heap.size; omega
            have t1 : w2.cell? ⟨pg, 1, none⟩ = some (.pointer (some ⟨kg, 0, none⟩)) := HPB.out.cell 1
            have t4 : w2.cell? ⟨w.heap.size, 4, none⟩ = some (.int .i64 rk) := HX2.out.cell 4
            have t5 : w2.cell? ⟨w.heap.size, 5, none⟩ = some (.slice A body.length cap) := HX2.out.cell 5
            have HRA := Lib.hid (RAppend_any (w := w2.drew) (F := Fk) rk A body.length cap body (HJ2.out.below (below_drewN (Below.refl _ _) 1)) (fun k hk => HFK.out k hk) HF.out HR2.out (by omega))
            rw [HXA.out] at HRA
            clear s0 c0' c1'
            refine wp_region_held_drew (S := fun W => W.cell? ⟨pg, 1, none⟩ = some (.pointer (some ⟨kg, 0, none⟩)) ∧ W.cell? ⟨w.heap.size, 4, none⟩ = some (.int .i64 rk) ∧ W.cell? ⟨w.heap.size, 5, none⟩ = some (.slice A body.length cap)) (by kernel_rfl) ⟨t1, t4, t5⟩ (fun hsw => ?_)
            refine wpAnyH_take (i := 0) (oi := ?oi0yd) (v := ?v0yd) ?hi0yd (by kernel_rfl) (by kernel_rfl) (by kernel_rfl) ?hq0yd ?hy0yd (by assumption) ?rest0yd
            case hi0yd => (simp only [List.getElem?_toArray, List.getElem?_cons_zero]; rfl)
            case hy0yd => (refine Or.inl ⟨by rfl, ?_⟩; intro w hSw; (try dsimp only at hSw); go_simp; try with_reducible rfl)
            case hq0yd => exact fun _ _ _ h => h
            try simp only [Act.put, List.setIfInBounds_toArray, List.set_cons_zero, List.set_cons_succ]
            refine wpAnyH_take (i := 1) (oi := ?oi1yd) (v := ?v1yd) ?hi1yd (by kernel_rfl) (by kernel_rfl) (by kernel_rfl) ?hq1yd ?hy1yd (by assumption) ?rest1yd
            case hi1yd => (simp only [List.getElem?_toArray, List.getElem?_cons_zero, List.getElem?_cons_succ]; rfl)
            case hy1yd => (refine Or.inl ⟨by rfl, ?_⟩; intro w hSw; (try dsimp only at hSw); go_simp; try with_reducible rfl)
            case hq1yd => exact fun _ _ _ h => h
            try simp only [Act.put, List.setIfInBounds_toArray, List.set_cons_zero, List.set_cons_succ]
            refine wpAnyH_take (i := 2) (oi := ?oi2yd) (v := ?v2yd) ?hi2yd (by kernel_rfl) (by kernel_rfl) (by kernel_rfl) ?hq2yd ?hy2yd (by assumption) ?rest2yd
            case hi2yd => (simp only [List.getElem?_toArray, List.getElem?_cons_zero, List.getElem?_cons_succ]; rfl)
            case hy2yd => (refine Or.inl ⟨by rfl, ?_⟩; intro w hSw; (try dsimp only at hSw); go_simp; try with_reducible rfl)
            case hq2yd => exact fun _ _ _ h => h
            try simp only [Act.put, List.setIfInBounds_toArray, List.set_cons_zero, List.set_cons_succ]
            refine wpAnyH_take (i := 3) (oi := ?oi3yd) (v := ?v3yd) ?hi3yd (by kernel_rfl) (by kernel_rfl) (by kernel_rfl) ?hq3yd ?hy3yd (by assumption) ?rest3yd
            case hi3yd => (simp only [List.getElem?_toArray, List.getElem?_cons_zero, List.getElem?_cons_succ]; rfl)
            case hy3yd => (refine Or.inl ⟨by rfl, ?_⟩; intro w hSw; (try dsimp only at hSw); go_simp; try with_reducible rfl)
            case hq3yd => exact fun _ _ _ h => h
            try simp only [Act.put, List.setIfInBounds_toArray, List.set_cons_zero, List.set_cons_succ]
            refine wpAnyH_take (i := 4) (oi := ?oi4yd) (v := ?v4yd) ?hi4yd (by kernel_rfl) (by kernel_rfl) (by kernel_rfl) ?hq4yd ?hy4yd (by assumption) ?rest4yd
            case hi4yd => (simp only [List.getElem?_toArray, List.getElem?_cons_zero, List.getElem?_cons_succ]; rfl)
            case hy4yd => (refine Or.inl ⟨by rfl, ?_⟩; intro w hSw; (try dsimp only at hSw); go_simp; try with_reducible rfl)
            case hq4yd => exact fun _ _ _ h => h
            try simp only [Act.put, List.setIfInBounds_toArray, List.set_cons_zero, List.set_cons_succ]
            refine wpAnyH_take (i := 5) (oi := ?oi5yd) (v := ?v5yd) ?hi5yd (by kernel_rfl) (by kernel_rfl) (by kernel_rfl) ?hq5yd ?hy5yd (by assumption) ?rest5yd
            case hi5yd => (simp only [List.getElem?_toArray, List.getElem?_cons_zero, List.getElem?_cons_succ]; rfl)
            case hy5yd => (refine Or.inl ⟨by rfl, ?_⟩; intro w hSw; (try dsimp only at hSw); go_simp; try with_reducible rfl)
            case hq5yd => exact fun _ _ _ h => h
            try simp only [Act.put, List.setIfInBounds_toArray, List.set_cons_zero, List.set_cons_succ]
            refine wpAnyH_ready (rs := [6]) (by kernel_rfl) (by simp) ?_
            refine AllReadyH.cons (o := ?o6ye) ?ho6ye (fun K hK => ?st6ye) ?mo6ye
            case ho6ye => (simp only [List.getElem?_toArray, List.getElem?_cons_zero, List.getElem?_cons_succ]; rfl)
            case mo6ye => exact AllReadyH.nil
            go_simp
            refine HRA.out.mono ?_
            rintro _ w3 ⟨vb, F2, rfl, hp3, ho3, hm3⟩
            obtain ⟨Ab, capb, rfl⟩ := ho3.shapeN
            have H3 := Lib.hid (And.intro hp3 (And.intro ho3 (Moved.trans (Moved.of_below (below_drewN (Below.refl _ w2) 1)) hm3)))
            clear hp3 ho3 hm3
            have HX3 : Hid (Blk w3 w.heap.size 57 #[.int .i64 kd, .int .i64 on, .int .i64 kn, .int .i64 L, .int .i64 rk, .slice A body.length cap]) := Lib.hid (HX2.out.chg H3.out.2.2.2 fun hk => by have := HSZ.out _ (HPW.out.fk _ hk); omega)
            have HPB3 := Lib.hid (HPB.out.chg H3.out.2.2.2 HPW.out.fp)
            go_simp
            refine hK.out _ _ ⟨HPB3.out.cell 1, HX3.out.cell 4, HX3.out.cell 5⟩ (fun _ => ?_)
            clear hK K
            try simp only [Act.put, List.setIfInBounds_toArray, List.set_cons_zero, List.set_cons_succ]
            refine wpAnyH_take (i := 7) (oi := ?oi7yf) (v := ?v7yf) ?hi7yf (by kernel_rfl) (by kernel_rfl) (by kernel_rfl) ?hq7yf ?hy7yf (by assumption) ?rest7yf
            case hi7yf => (simp only [List.getElem?_toArray, List.getElem?_cons_zero, List.getElem?_cons_succ]; rfl)
            case hy7yf => (refine Or.inl ⟨by rfl, ?_⟩; intro w hSw; (try dsimp only at hSw); go_simp; try with_reducible rfl)
            case hq7yf => exact fun _ _ _ h => h
            try simp only [Act.put, List.setIfInBounds_toArray, List.set_cons_zero, List.set_cons_succ]
            refine wpAnyH_take (i := 8) (oi := ?oi8yf) (v := ?v8yf) ?hi8yf (by kernel_rfl) (by kernel_rfl) (by kernel_rfl) ?hq8yf ?hy8yf (by assumption) ?rest8yf
            case hi8yf => (simp only [List.getElem?_toArray, List.getElem?_cons_zero, List.getElem?_cons_succ]; rfl)
            case hy8yf => (refine Or.inl ⟨by rfl, ?_⟩; intro w hSw; (try dsimp only at hSw); go_simp; try with_reducible rfl)
            case hq8yf => exact fun _ _ _ h => h
            try simp only [Act.put, List.setIfInBounds_toArray, List.set_cons_zero, List.set_cons_succ]
            refine wpAnyH_take (i := 9) (oi := ?oi9yf) (v := ?v9yf) ?hi9yf (by kernel_rfl) (by kernel_rfl) (by kernel_rfl) ?hq9yf ?hy9yf (by assumption) ?rest9yf
            case hi9yf => (simp only [List.getElem?_toArray, List.getElem?_cons_zero, List.getElem?_cons_succ]; rfl)
            case hy9yf => (refine Or.inl ⟨by rfl, ?_⟩; intro w hSw; (try dsimp only at hSw); go_simp; try with_reducible rfl)
            case hq9yf => exact fun _ _ _ h => h
            try simp only [Act.put, List.setIfInBounds_toArray, List.set_cons_zero, List.set_cons_succ]
            refine wpAnyH_take (i := 10) (oi := ?oi10yf) (v := ?v10yf) ?hi10yf (by kernel_rfl) (by kernel_rfl) (by kernel_rfl) ?hq10yf ?hy10yf (by assumption) ?rest10yf
            case hi10yf => (simp only [List.getElem?_toArray, List.getElem?_cons_zero, List.getElem?_cons_succ]; rfl)
            case hy10yf => (refine Or.inl ⟨by rfl, ?_⟩; intro w hSw; (try dsimp only at hSw); go_simp; try with_reducible rfl)
            case hq10yf => exact fun _ _ _ h => h
            try simp only [Act.put, List.setIfInBounds_toArray, List.set_cons_zero, List.set_cons_succ]
            refine wpAnyH_take (i := 11) (oi := ?oi11yf) (v := ?v11yf) ?hi11yf (by kernel_rfl) (by kernel_rfl) (by kernel_rfl) ?hq11yf ?hy11yf (by assumption) ?rest11yf
            case hi11yf => (simp only [List.getElem?_toArray, List.getElem?_cons_zero, List.getElem?_cons_succ]; rfl)
            case hy11yf => (refine Or.inl ⟨by rfl, ?_⟩; intro w hSw; (try dsimp only at hSw); go_simp; try with_reducible rfl)
            case hq11yf => exact fun _ _ _ h => h
            try simp only [Act.put, List.setIfInBounds_toArray, List.set_cons_zero, List.set_cons_succ]
            refine wpAnyH_done (by kernel_rfl) ?_ _
            go_upto_region 12 with fail
            have HP3 := Lib.hid (HPW.out.step H2.out.2.2 H2.out.1 H3.out.1 H3.out.2.2)
            have HB3 : Hid (Below B0 w w3) := Lib.hid (HB2.out.trans (H3.out.2.2.2.to_below (Nat.le_trans hBw HB2.out.size) fun k hk => HGB.out _ (HPW.out.fk k hk)))
            have HS3 : Hid (SpAt w3 g q body) := Lib.hid (HS2.out.chg H3.out.2.2.2 fun hk => by have := HGL.out; have := HSZ.out _ (HPW.out.fk _ hk); omega)
            have HC3 : Hid (Blk w3 C 34 #[.int .i64 rk, .slice (some ⟨g, 0, none⟩) body.length q]) := Lib.hid (HC2.out.chg H3.out.2.2.2 fun hk => by have := HGL.out; have := HSZ.out _ (HPW.out.fk _ hk); omega)
            have u1 : w3.cell? ⟨C, 1, none⟩ = some (.slice (some ⟨g, 0, none⟩) body.length q) := HC3.out.cell 1
            have u5 : w3.cell? ⟨w.heap.size, 5, none⟩ = some (.slice A body.length cap) := HX3.out.cell 5
            clear t1 t4 t5
            go_upto_region 13 with (go_at_call 16; refine (intact_sp A cap B0 body w3 HS3.out (HRR.out _ HB3.out)).mono ?_; rintro _ _ ⟨rfl, rfl⟩)
            go_upto_region 14 with (go_at_call 18; refine (full_sp body w3 HS3.out (by omega)).mono ?_; rintro _ w4 ⟨rfl, hf4, hc4⟩; have H4 := Lib.hid hc4; clear hf4 hc4)
            clear u1 u5
            have hgp : g < wp.heap.size := by
              obtain ⟨cur, hBg⟩ := HS.out.blk
              exact hBg.lt
            have HP4 : Hid (PAt w4 (Grow G wp w3) pg jg kg (fun k => F2 k ∧ k < w3.heap.size) A0 c0 A1 c1 x.1 f) := Lib.hid (HP3.out.1.chg H4.out fun k hk e => by
              rcases hk with hk | hk
              · have := HSZ.out k hk; have := HGL.out; omega
              · omega)
            have HB4 : Hid (Below B0 w w4) := Lib.hid (HB3.out.trans (H4.out.to_below (Nat.le_trans hBw HB3.out.size) fun k e => by have := HGL.out; omega))
            have hs3 := H3.out.2.2.2.size
            have hs2 : wp.heap.size ≤ w2.heap.size := H2.out.2.2.size
            have HWA : Hid (WsAt w4 Aa x.2.1.length x.2.1) := Lib.hid ((H2.out.2.1.chg H3.out.2.2.2 fun i hi _ hk => by have := HPW.out.gs _ (HPW.out.fk _ hk); have : wp.drew.heap.size = wp.heap.size := rfl; omega).chg H4.out fun i hi _ e => by have : wp.drew.heap.size = wp.heap.size := rfl; omega).wsN
            have HWB : Hid (WsAt w4 Ab x.2.1.length x.2.1) := Lib.hid (H3.out.2.1.chg H4.out fun i hi _ e => by have : w2.drew.heap.size = w2.heap.size := rfl; omega).wsN
            have hlx := H3.out.2.1.few
            have hcx := HFX.out.2
            have HST := Lib.hid (stands_any (w := w4) (G := Grow G wp w3) (f := f) (e1 := capa) (e2 := capb) ⟨_, _, _, _, _, _, _, HP4.out⟩ HFX.out.1 HWA.out HWB.out (by omega) (by omega) (x.2.2 : Int) kk hkk (by omega) (nibs_B HT.out HB4.out HNB.out))
            have HCG : Hid (Chg (fun k => G k ∨ w.heap.size ≤ k) w w4) := Lib.hid ((((Chg.of_below HBW.out _).trans (HP3.out.2.mono fun k _ h => .inl h)).trans (H4.out.mono fun k _ e => .inr (by have := HGL.out; omega))))
            have HSS : Hid (wp.heap.size ≤ w3.heap.size ∧ w3.heap.size ≤ w4.heap.size ∧ w.heap.size ≤ wp.heap.size ∧ costW x.2.1 ≤ 65537) := Lib.hid ⟨by omega, H4.out.size, HBW.out.size, hcx⟩
            clear hgp hs3 hs2 hlx hcx
            go_wp2_with (go_at_call 60; refine HST.out.mono ?_; rintro _ w5 ⟨rfl, j5, f5, hp5, hf5, hl5, hc5⟩; have H5 := Lib.hid (And.intro hp5 (And.intro hf5 (And.intro hl5 hc5))); clear hp5 hf5 hl5 hc5)
            go_ret
            have hs5 := H5.out.2.2.2.size
            have hss := HSS.out
            refine ⟨rfl, j5, f5, H5.out.1.mono (fun k hk => ?_) (grow_lt HSZ.out (by omega)), H5.out.2.1, Nat.le_trans H5.out.2.2.1 (Nat.add_le_add_left (Nat.add_le_add_right hss.2.2.2 _) _), (HCG.out.thenS (H5.out.2.2.2.mono (S' := fun k => G k ∨ w.heap.size ≤ k) fun k _ hk => hk.elim .inl fun h => .inr (by omega)) (fun _ _ h => h)).mono fun k hk h => h.elim id fun h => by omega⟩
            rcases hk with (hk | hk) | hk
            · exact .inl hk
            · exact .inr ⟨by omega, by omega⟩
            · exact .inr ⟨by omega, hk.2⟩
          · have b1 : (kd == 1) = false := by simpa using h1
            clear h1
            by_cases h2 : kd = 2
            · have b2 : (kd == 2) = true := by simpa using h2
              clear h2
              obtain ⟨x, HXA⟩ : ∃ x, Hid (j.compact ⟨rk, body⟩ = x) := ⟨_, Lib.hid rfl⟩
              have HFX := Lib.hid (compact_fine2 ⟨rk, body⟩ HF.out)
              have HAP := Lib.hid (Compact_any (w := wp.drew) rk (some ⟨g, 0, none⟩) body.length q body HPD.out.pj HF.out.file HF.out.gen.2 (by omega) HSD.out.rd (by omega) (fun _ b o s e => HGJ.out b o s e) (HTP.out.below HDR.out) (HPD.out.noNibJ (HTP.out.below HDR.out)))
              rw [HXA.out] at HAP HFX
              go_upto_region 17 with fail
              refine wp_region_held_drew (S := fun W => W.cell? ⟨pg, 0, none⟩ = some (.pointer (some ⟨jg, 0, none⟩)) ∧ W.cell? ⟨C, 0, none⟩ = some (.int .i64 rk) ∧ W.cell? ⟨C, 1, none⟩ = some (.slice (some ⟨g, 0, none⟩) body.length q)) (by kernel_rfl) ⟨s0, c0', c1'⟩ (fun hsw => ?_)
              refine wpAnyH_take (i := 0) (oi := ?oi0ma) (v := ?v0ma) ?hi0ma (by kernel_rfl) (by kernel_rfl) (by kernel_rfl) ?hq0ma ?hy0ma (by assumption) ?rest0ma
              case hi0ma => (simp only [List.getElem?_toArray, List.getElem?_cons_zero]; rfl)
              case hy0ma => (refine Or.inl ⟨by rfl, ?_⟩; intro w hSw; (try dsimp only at hSw); go_simp; try with_reducible rfl)
              case hq0ma => exact fun _ _ _ h => h
              try simp only [Act.put, List.setIfInBounds_toArray, List.set_cons_zero, List.set_cons_succ]
              refine wpAnyH_take (i := 1) (oi := ?oi1ma) (v := ?v1ma) ?hi1ma (by kernel_rfl) (by kernel_rfl) (by kernel_rfl) ?hq1ma ?hy1ma (by assumption) ?rest1ma
              case hi1ma => (simp only [List.getElem?_toArray, List.getElem?_cons_zero, List.getElem?_cons_succ]; rfl)
              case hy1ma => (refine Or.inl ⟨by rfl, ?_⟩; intro w hSw; (try dsimp only at hSw); go_simp; try with_reducible rfl)
              case hq1ma => exact fun _ _ _ h => h
              try simp only [Act.put, List.setIfInBounds_toArray, List.set_cons_zero, List.set_cons_succ]
              refine wpAnyH_take (i := 2) (oi := ?oi2ma) (v := ?v2ma) ?hi2ma (by kernel_rfl) (by kernel_rfl) (by kernel_rfl) ?hq2ma ?hy2ma (by assumption) ?rest2ma
              case hi2ma => (simp only [List.getElem?_toArray, List.getElem?_cons_zero, List.getElem?_cons_succ]; rfl)
              case hy2ma => (refine Or.inl ⟨by rfl, ?_⟩; intro w hSw; (try dsimp only at hSw); go_simp; try with_reducible rfl)
              case hq2ma => exact fun _ _ _ h => h
              try simp only [Act.put, List.setIfInBounds_toArray, List.set_cons_zero, List.set_cons_succ]
              refine wpAnyH_take (i := 3) (oi := ?oi3ma) (v := ?v3ma) ?hi3ma (by kernel_rfl) (by kernel_rfl) (by kernel_rfl) ?hq3ma ?hy3ma (by assumption) ?rest3ma
              case hi3ma => (simp only [List.getElem?_toArray, List.getElem?_cons_zero, List.getElem?_cons_succ]; rfl)
              case hy3ma => (refine Or.inl ⟨by rfl, ?_⟩; intro w hSw; (try dsimp only at hSw); go_simp; try with_reducible rfl)
              case hq3ma => exact fun _ _ _ h => h
              try simp only [Act.put, List.setIfInBounds_toArray, List.set_cons_zero, List.set_cons_succ]
              refine wpAnyH_take (i := 4) (oi := ?oi4ma) (v := ?v4ma) ?hi4ma (by kernel_rfl) (by kernel_rfl) (by kernel_rfl) ?hq4ma ?hy4ma (by assumption) ?rest4ma
              case hi4ma => (simp only [List.getElem?_toArray, List.getElem?_cons_zero, List.getElem?_cons_succ]; rfl)
              case hy4ma => (refine Or.inl ⟨by rfl, ?_⟩; intro w hSw; (try dsimp only at hSw); go_simp; try with_reducible rfl)
              case hq4ma => exact fun _ _ _ h => h
              try simp only [Act.put, List.setIfInBounds_toArray, List.set_cons_zero, List.set_cons_succ]
              refine wpAnyH_ready (rs := [5]) (by kernel_rfl) (by simp) ?_
              refine AllReadyH.cons (o := ?o5mb) ?ho5mb (fun K hK => ?st5mb) ?mo5mb
              case ho5mb => (simp only [List.getElem?_toArray, List.getElem?_cons_zero, List.getElem?_cons_succ]; rfl)
              case mo5mb => exact AllReadyH.nil
              go_simp
              refine HAP.out.mono ?_
              rintro _ w2 ⟨va, rfl, hp2, ho2, hc2⟩
              obtain ⟨Aa, capa, rfl⟩ := ho2.shapeN
              have H2 := Lib.hid (And.intro hp2 (And.intro ho2 (dr_chg hc2)))
              clear hp2 ho2 hc2
              have HC2 : Hid (Blk w2 C 34 #[.int .i64 rk, .slice (some ⟨g, 0, none⟩) body.length q]) := Lib.hid (HC.out.chg H2.out.2.2 fun e => by have := HGL.out; have := HSZ.out _ HPW.out.gj; omega)
              have HPB := Lib.hid (HPW.out.blk.chg H2.out.2.2 HPJ.out)
              go_simp
              refine hK.out _ _ ⟨HPB.out.cell 0, HC2.out.cell 0, HC2.out.cell 1⟩ (fun _ => ?_)
              clear hK K
              try simp only [Act.put, List.setIfInBounds_toArray, List.set_cons_zero, List.set_cons_succ]
              refine wpAnyH_take (i := 6) (oi := ?oi6mc) (v := ?v6mc) ?hi6mc (by kernel_rfl) (by kernel_rfl) (by kernel_rfl) ?hq6mc ?hy6mc (by assumption) ?rest6mc
              case hi6mc => (simp only [List.getElem?_toArray, List.getElem?_cons_zero, List.getElem?_cons_succ]; rfl)
              case hy6mc => (refine Or.inl ⟨by rfl, ?_⟩; intro w hSw; (try dsimp only at hSw); go_simp; try with_reducible rfl)
              case hq6mc => exact fun _ _ _ h => h
              try simp only [Act.put, List.setIfInBounds_toArray, List.set_cons_zero, List.set_cons_succ]
              refine wpAnyH_take (i := 7) (oi := ?oi7mc) (v := ?v7mc) ?hi7mc (by kernel_rfl) (by kernel_rfl) (by kernel_rfl) ?hq7mc ?hy7mc (by assumption) ?rest7mc
              case hi7mc => (simp only [List.getElem?_toArray, List.getElem?_cons_zero, List.getElem?_cons_succ]; rfl)
              case hy7mc => (refine Or.inl ⟨by rfl, ?_⟩; intro w hSw; (try dsimp only at hSw); go_simp; try with_reducible rfl)
              case hq7mc => exact fun _ _ _ h => h
              try simp only [Act.put, List.setIfInBounds_toArray, List.set_cons_zero, List.set_cons_succ]
              refine wpAnyH_take (i := 8) (oi := ?oi8mc) (v := ?v8mc) ?hi8mc (by kernel_rfl) (by kernel_rfl) (by kernel_rfl) ?hq8mc ?hy8mc (by assumption) ?rest8mc
              case hi8mc => (simp only [List.getElem?_toArray, List.getElem?_cons_zero, List.getElem?_cons_succ]; rfl)
              case hy8mc => (refine Or.inl ⟨by rfl, ?_⟩; intro w hSw; (try dsimp only at hSw); go_simp; try with_reducible rfl)
              case hq8mc => exact fun _ _ _ h => h
              try simp only [Act.put, List.setIfInBounds_toArray, List.set_cons_zero, List.set_cons_succ]
              refine wpAnyH_take (i := 9) (oi := ?oi9mc) (v := ?v9mc) ?hi9mc (by kernel_rfl) (by kernel_rfl) (by kernel_rfl) ?hq9mc ?hy9mc (by assumption) ?rest9mc
              case hi9mc => (simp only [List.getElem?_toArray, List.getElem?_cons_zero, List.getElem?_cons_succ]; rfl)
              case hy9mc => (refine Or.inl ⟨by rfl, ?_⟩; intro w hSw; (try dsimp only at hSw); go_simp; try with_reducible rfl)
              case hq9mc => exact fun _ _ _ h => h
              try simp only [Act.put, List.setIfInBounds_toArray, List.set_cons_zero, List.set_cons_succ]
              refine wpAnyH_take (i := 10) (oi := ?oi10mc) (v := ?v10mc) ?hi10mc (by kernel_rfl) (by kernel_rfl) (by kernel_rfl) ?hq10mc ?hy10mc (by assumption) ?rest10mc
              case hi10mc => (simp only [List.getElem?_toArray, List.getElem?_cons_zero, List.getElem?_cons_succ]; rfl)
              case hy10mc => (refine Or.inl ⟨by rfl, ?_⟩; intro w hSw; (try dsimp only at hSw); go_simp; try with_reducible rfl)
              case hq10mc => exact fun _ _ _ h => h
              try simp only [Act.put, List.setIfInBounds_toArray, List.set_cons_zero, List.set_cons_succ]
              refine wpAnyH_done (by kernel_rfl) ?_ _
              go_upto_region 18 with fail
              have HB2 : Hid (Below B0 w w2) := Lib.hid (HBB.out.trans (H2.out.2.2.to_below (Nat.le_trans hBw HBW.out.size) fun k e => e ▸ HGB.out _ HPW.out.gj))
              have HR2 : Hid (RdB w2.drew w2.drew.heap.size A body.length body) := Lib.hid (((HRR.out _ HB2.out).more (Nat.le_trans hBw HB2.out.size)).dn 1)
              have HX2 : Hid (Blk w2 w.heap.size 57 #[.int .i64 kd, .int .i64 on, .int .i64 kn, .int .i64 L, .int .i64 rk, .slice A body.length cap]) := Lib.hid (HX.out.chg H2.out.2.2 fun e => by have := HSZ.out _ HPW.out.gj; omega)
              have HS2 : Hid (SpAt w2 g q body) := Lib.hid (HS.out.chg H2.out.2.2 fun e => by have := HGL.out; have := HSZ.out _ HPW.out.gj; omega)
              have HJ2 : Hid (RJAt w2 Fk kg j) := Lib.hid (HPW.out.rj.chg H2.out.2.2 fun k _ hk e => HPW.out.fj (e ▸ hk))
              have HFK : Hid (∀ k, Fk k → k < w2.drew.heap.size) := Lib.hid fun k hk => by have h1 := HPW.out.gs k (HPW.out.fk k hk); have h3 := H2.out.2.2.size; show k < w2.heap.size; omega
              have t1 : w2.cell? ⟨pg, 1, none⟩ = some (.pointer (some ⟨kg, 0, none⟩)) := HPB.out.cell 1
              have t4 : w2.cell? ⟨w.heap.size, 4, none⟩ = some (.int .i64 rk) := HX2.out.cell 4
              have t5 : w2.cell? ⟨w.heap.size, 5, none⟩ = some (.slice A body.length cap) := HX2.out.cell 5
              have HRA := Lib.hid (RCompact_any (w := w2.drew) (F := Fk) rk A body.length cap body (HJ2.out.below (below_drewN (Below.refl _ _) 1)) HF.out HR2.out (by omega))
              rw [HXA.out] at HRA
              clear s0 c0' c1'
              refine wp_region_held_drew (S := fun W => W.cell? ⟨pg, 1, none⟩ = some (.pointer (some ⟨kg, 0, none⟩)) ∧ W.cell? ⟨w.heap.size, 4, none⟩ = some (.int .i64 rk) ∧ W.cell? ⟨w.heap.size, 5, none⟩ = some (.slice A body.length cap)) (by kernel_rfl) ⟨t1, t4, t5⟩ (fun hsw => ?_)
              refine wpAnyH_take (i := 0) (oi := ?oi0md) (v := ?v0md) ?hi0md (by kernel_rfl) (by kernel_rfl) (by kernel_rfl) ?hq0md ?hy0md (by assumption) ?rest0md
              case hi0md => (simp only [List.getElem?_toArray, List.getElem?_cons_zero]; rfl)
              case hy0md => (refine Or.inl ⟨by rfl, ?_⟩; intro w hSw; (try dsimp only at hSw); go_simp; try with_reducible rfl)
              case hq0md => exact fun _ _ _ h => h
              try simp only [Act.put, List.setIfInBounds_toArray, List.set_cons_zero, List.set_cons_succ]
              refine wpAnyH_take (i := 1) (oi := ?oi1md) (v := ?v1md) ?hi1md (by kernel_rfl) (by kernel_rfl) (by kernel_rfl) ?hq1md ?hy1md (by assumption) ?rest1md
              case hi1md => (simp only [List.getElem?_toArray, List.getElem?_cons_zero, List.getElem?_cons_succ]; rfl)
              case hy1md => (refine Or.inl ⟨by rfl, ?_⟩; intro w hSw; (try dsimp only at hSw); go_simp; try with_reducible rfl)
              case hq1md => exact fun _ _ _ h => h
              try simp only [Act.put, List.setIfInBounds_toArray, List.set_cons_zero, List.set_cons_succ]
              refine wpAnyH_take (i := 2) (oi := ?oi2md) (v := ?v2md) ?hi2md (by kernel_rfl) (by kernel_rfl) (by kernel_rfl) ?hq2md ?hy2md (by assumption) ?rest2md
              case hi2md => (simp only [List.getElem?_toArray, List.getElem?_cons_zero, List.getElem?_cons_succ]; rfl)
              case hy2md => (refine Or.inl ⟨by rfl, ?_⟩; intro w hSw; (try dsimp only at hSw); go_simp; try with_reducible rfl)
              case hq2md => exact fun _ _ _ h => h
              try simp only [Act.put, List.setIfInBounds_toArray, List.set_cons_zero, List.set_cons_succ]
              refine wpAnyH_take (i := 3) (oi := ?oi3md) (v := ?v3md) ?hi3md (by kernel_rfl) (by kernel_rfl) (by kernel_rfl) ?hq3md ?hy3md (by assumption) ?rest3md
              case hi3md => (simp only [List.getElem?_toArray, List.getElem?_cons_zero, List.getElem?_cons_succ]; rfl)
              case hy3md => (refine Or.inl ⟨by rfl, ?_⟩; intro w hSw; (try dsimp only at hSw); go_simp; try with_reducible rfl)
              case hq3md => exact fun _ _ _ h => h
              try simp only [Act.put, List.setIfInBounds_toArray, List.set_cons_zero, List.set_cons_succ]
              refine wpAnyH_take (i := 4) (oi := ?oi4md) (v := ?v4md) ?hi4md (by kernel_rfl) (by kernel_rfl) (by kernel_rfl) ?hq4md ?hy4md (by assumption) ?rest4md
              case hi4md => (simp only [List.getElem?_toArray, List.getElem?_cons_zero, List.getElem?_cons_succ]; rfl)
              case hy4md => (refine Or.inl ⟨by rfl, ?_⟩; intro w hSw; (try dsimp only at hSw); go_simp; try with_reducible rfl)
              case hq4md => exact fun _ _ _ h => h
              try simp only [Act.put, List.setIfInBounds_toArray, List.set_cons_zero, List.set_cons_succ]
              refine wpAnyH_take (i := 5) (oi := ?oi5md) (v := ?v5md) ?hi5md (by kernel_rfl) (by kernel_rfl) (by kernel_rfl) ?hq5md ?hy5md (by assumption) ?rest5md
              case hi5md => (simp only [List.getElem?_toArray, List.getElem?_cons_zero, List.getElem?_cons_succ]; rfl)
              case hy5md => (refine Or.inl ⟨by rfl, ?_⟩; intro w hSw; (try dsimp only at hSw); go_simp; try with_reducible rfl)
              case hq5md => exact fun _ _ _ h => h
              try simp only [Act.put, List.setIfInBounds_toArray, List.set_cons_zero, List.set_cons_succ]
              refine wpAnyH_ready (rs := [6]) (by kernel_rfl) (by simp) ?_
              refine AllReadyH.cons (o := ?o6me) ?ho6me (fun K hK => ?st6me) ?mo6me
              case ho6me => (simp only [List.getElem?_toArray, List.getElem?_cons_zero, List.getElem?_cons_succ]; rfl)
              case mo6me => exact AllReadyH.nil
              go_simp
              refine HRA.out.mono ?_
              rintro _ w3 ⟨vb, F2, rfl, hp3, ho3, hm3⟩
              obtain ⟨Ab, capb, rfl⟩ := ho3.shapeN
              have H3 := Lib.hid (And.intro hp3 (And.intro ho3 (Moved.trans (Moved.of_below (below_drewN (Below.refl _ w2) 1)) hm3)))
              clear hp3 ho3 hm3
              have HX3 : Hid (Blk w3 w.heap.size 57 #[.int .i64 kd, .int .i64 on, .int .i64 kn, .int .i64 L, .int .i64 rk, .slice A body.length cap]) := Lib.hid (HX2.out.chg H3.out.2.2.2 fun hk => by have := HSZ.out _ (HPW.out.fk _ hk); omega)
              have HPB3 := Lib.hid (HPB.out.chg H3.out.2.2.2 HPW.out.fp)
              go_simp
              refine hK.out _ _ ⟨HPB3.out.cell 1, HX3.out.cell 4, HX3.out.cell 5⟩ (fun _ => ?_)
              clear hK K
              try simp only [Act.put, List.setIfInBounds_toArray, List.set_cons_zero, List.set_cons_succ]
              refine wpAnyH_take (i := 7) (oi := ?oi7mf) (v := ?v7mf) ?hi7mf (by kernel_rfl) (by kernel_rfl) (by kernel_rfl) ?hq7mf ?hy7mf (by assumption) ?rest7mf
              case hi7mf => (simp only [List.getElem?_toArray, List.getElem?_cons_zero, List.getElem?_cons_succ]; rfl)
              case hy7mf => (refine Or.inl ⟨by rfl, ?_⟩; intro w hSw; (try dsimp only at hSw); go_simp; try with_reducible rfl)
              case hq7mf => exact fun _ _ _ h => h
              try simp only [Act.put, List.setIfInBounds_toArray, List.set_cons_zero, List.set_cons_succ]
              refine wpAnyH_take (i := 8) (oi := ?oi8mf) (v := ?v8mf) ?hi8mf (by kernel_rfl) (by kernel_rfl) (by kernel_rfl) ?hq8mf ?hy8mf (by assumption) ?rest8mf
              case hi8mf => (simp only [List.getElem?_toArray, List.getElem?_cons_zero, List.getElem?_cons_succ]; rfl)
              case hy8mf => (refine Or.inl ⟨by rfl, ?_⟩; intro w hSw; (try dsimp only at hSw); go_simp; try with_reducible rfl)
              case hq8mf => exact fun _ _ _ h => h
              try simp only [Act.put, List.setIfInBounds_toArray, List.set_cons_zero, List.set_cons_succ]
              refine wpAnyH_take (i := 9) (oi := ?oi9mf) (v := ?v9mf) ?hi9mf (by kernel_rfl) (by kernel_rfl) (by kernel_rfl) ?hq9mf ?hy9mf (by assumption) ?rest9mf
              case hi9mf => (simp only [List.getElem?_toArray, List.getElem?_cons_zero, List.getElem?_cons_succ]; rfl)
              case hy9mf => (refine Or.inl ⟨by rfl, ?_⟩; intro w hSw; (try dsimp only at hSw); go_simp; try with_reducible rfl)
              case hq9mf => exact fun _ _ _ h => h
              try simp only [Act.put, List.setIfInBounds_toArray, List.set_cons_zero, List.set_cons_succ]
              refine wpAnyH_take (i := 10) (oi := ?oi10mf) (v := ?v10mf) ?hi10mf (by kernel_rfl) (by kernel_rfl) (by kernel_rfl) ?hq10mf ?hy10mf (by assumption) ?rest10mf
              case hi10mf => (simp only [List.getElem?_toArray, List.getElem?_cons_zero, List.getElem?_cons_succ]; rfl)
              case hy10mf => (refine Or.inl ⟨by rfl, ?_⟩; intro w hSw; (try dsimp only at hSw); go_simp; try with_reducible rfl)
              case hq10mf => exact fun _ _ _ h => h
              try simp only [Act.put, List.setIfInBounds_toArray, List.set_cons_zero, List.set_cons_succ]
              refine wpAnyH_take (i := 11) (oi := ?oi11mf) (v := ?v11mf) ?hi11mf (by kernel_rfl) (by kernel_rfl) (by kernel_rfl) ?hq11mf ?hy11mf (by assumption) ?rest11mf
              case hi11mf => (simp only [List.getElem?_toArray, List.getElem?_cons_zero, List.getElem?_cons_succ]; rfl)
              case hy11mf => (refine Or.inl ⟨by rfl, ?_⟩; intro w hSw; (try dsimp only at hSw); go_simp; try with_reducible rfl)
              case hq11mf => exact fun _ _ _ h => h
              try simp only [Act.put, List.setIfInBounds_toArray, List.set_cons_zero, List.set_cons_succ]
              refine wpAnyH_done (by kernel_rfl) ?_ _
              go_upto_region 19 with fail
              have HP3 := Lib.hid (HPW.out.step H2.out.2.2 H2.out.1 H3.out.1 H3.out.2.2)
              have HB3 : Hid (Below B0 w w3) := Lib.hid (HB2.out.trans (H3.out.2.2.2.to_below (Nat.le_trans hBw HB2.out.size) fun k hk => HGB.out _ (HPW.out.fk k hk)))
              have HS3 : Hid (SpAt w3 g q body) := Lib.hid (HS2.out.chg H3.out.2.2.2 fun hk => by have := HGL.out; have := HSZ.out _ (HPW.out.fk _ hk); omega)
              have HC3 : Hid (Blk w3 C 34 #[.int .i64 rk, .slice (some ⟨g, 0, none⟩) body.length q]) := Lib.hid (HC2.out.chg H3.out.2.2.2 fun hk => by have := HGL.out; have := HSZ.out _ (HPW.out.fk _ hk); omega)
              have u1 : w3.cell? ⟨C, 1, none⟩ = some (.slice (some ⟨g, 0, none⟩) body.length q) := HC3.out.cell 1
              have u5 : w3.cell? ⟨w.heap.size, 5, none⟩ = some (.slice A body.length cap) := HX3.out.cell 5
              clear t1 t4 t5
              go_upto_region 20 with (go_at_call 16; refine (intact_sp A cap B0 body w3 HS3.out (HRR.out _ HB3.out)).mono ?_; rintro _ _ ⟨rfl, rfl⟩)
              go_upto_region 21 with (go_at_call 18; refine (full_sp body w3 HS3.out (by omega)).mono ?_; rintro _ w4 ⟨rfl, hf4, hc4⟩; have H4 := Lib.hid hc4; clear hf4 hc4)
              clear u1 u5
              have hgp : g < wp.heap.size := by
                obtain ⟨cur, hBg⟩ := HS.out.blk
                exact hBg.lt
              have HP4 : Hid (PAt w4 (Grow G wp w3) pg jg kg (fun k => F2 k ∧ k < w3.heap.size) A0 c0 A1 c1 x.1 f) := Lib.hid (HP3.out.1.chg H4.out fun k hk e => by
                rcases hk with hk | hk
                · have := HSZ.out k hk; have := HGL.out; omega
                · omega)
              have HB4 : Hid (Below B0 w w4) := Lib.hid (HB3.out.trans (H4.out.to_below (Nat.le_trans hBw HB3.out.size) fun k e => by have := HGL.out; omega))
              have hs3 := H3.out.2.2.2.size
              have hs2 : wp.heap.size ≤ w2.heap.size := H2.out.2.2.size
              have HWA : Hid (WsAt w4 Aa x.2.1.length x.2.1) := Lib.hid ((H2.out.2.1.chg H3.out.2.2.2 fun i hi _ hk => by have := HPW.out.gs _ (HPW.out.fk _ hk); have : wp.drew.heap.size = wp.heap.size := rfl; omega).chg H4.out fun i hi _ e => by have : wp.drew.heap.size = wp.heap.size := rfl; omega).wsN
              have HWB : Hid (WsAt w4 Ab x.2.1.length x.2.1) := Lib.hid (H3.out.2.1.chg H4.out fun i hi _ e => by have : w2.drew.heap.size = w2.heap.size := rfl; omega).wsN
              have hlx := H3.out.2.1.few
              have hcx := HFX.out.2
              have HST := Lib.hid (stands_any (w := w4) (G := Grow G wp w3) (f := f) (e1 := capa) (e2 := capb) ⟨_, _, _, _, _, _, _, HP4.out⟩ HFX.out.1 HWA.out HWB.out (by omega) (by omega) (x.2.2 : Int) kk hkk (by omega) (nibs_B HT.out HB4.out HNB.out))
              have HCG : Hid (Chg (fun k => G k ∨ w.heap.size ≤ k) w w4) := Lib.hid ((((Chg.of_below HBW.out _).trans (HP3.out.2.mono fun k _ h => .inl h)).trans (H4.out.mono fun k _ e => .inr (by have := HGL.out; omega))))
              have HSS : Hid (wp.heap.size ≤ w3.heap.size ∧ w3.heap.size ≤ w4.heap.size ∧ w.heap.size ≤ wp.heap.size ∧ costW x.2.1 ≤ 65537) := Lib.hid ⟨by omega, H4.out.size, HBW.out.size, hcx⟩
              clear hgp hs3 hs2 hlx hcx
              go_wp2_with (go_at_call 60; refine HST.out.mono ?_; rintro _ w5 ⟨rfl, j5, f5, hp5, hf5, hl5, hc5⟩; have H5 := Lib.hid (And.intro hp5 (And.intro hf5 (And.intro hl5 hc5))); clear hp5 hf5 hl5 hc5)
              go_ret
              have hs5 := H5.out.2.2.2.size
              have hss := HSS.out
              refine ⟨rfl, j5, f5, H5.out.1.mono (fun k hk => ?_) (grow_lt HSZ.out (by omega)), H5.out.2.1, Nat.le_trans H5.out.2.2.1 (Nat.add_le_add_left (Nat.add_le_add_right hss.2.2.2 _) _), (HCG.out.thenS (H5.out.2.2.2.mono (S' := fun k => G k ∨ w.heap.size ≤ k) fun k _ hk => hk.elim .inl fun h => .inr (by omega)) (fun _ _ h => h)).mono fun k hk h => h.elim id fun h => by omega⟩
              rcases hk with (hk | hk) | hk
              · exact .inl hk
              · exact .inr ⟨by omega, by omega⟩
              · exact .inr ⟨by omega, hk.2⟩
            · have b2 : (kd == 2) = false := by simpa using h2
              clear h2
              by_cases h3 : kd = 3
              · have b3 : (kd == 3) = true := by simpa using h3
                clear h3
                have HRS := Lib.hid (RSize_any HPD.out.rj HF.out)
                go_upto_region 23 with fail
                refine wp_region_held_drew (S := fun W => W.cell? ⟨pg, 0, none⟩ = some (.pointer (some ⟨jg, 0, none⟩)) ∧ W.cell? ⟨pg, 1, none⟩ = some (.pointer (some ⟨kg, 0, none⟩))) (by kernel_rfl) ⟨HPD.out.blk.cell 0, HPD.out.blk.cell 1⟩ (fun hsw => ?_)
                refine wpAnyH_take (i := 0) (oi := ?oi0sa) (v := ?v0sa) ?hi0sa (by kernel_rfl) (by kernel_rfl) (by kernel_rfl) ?hq0sa ?hy0sa (by assumption) ?rest0sa
                case hi0sa => (simp only [List.getElem?_toArray, List.getElem?_cons_zero]; rfl)
                case hy0sa => (refine Or.inl ⟨by rfl, ?_⟩; intro w hSw; (try dsimp only at hSw); go_simp; try with_reducible rfl)
                case hq0sa => exact fun _ _ _ h => h
                try simp only [Act.put, List.setIfInBounds_toArray, List.set_cons_zero, List.set_cons_succ]
                refine wpAnyH_take (i := 1) (oi := ?oi1sa) (v := ?v1sa) ?hi1sa (by kernel_rfl) (by kernel_rfl) (by kernel_rfl) ?hq1sa ?hy1sa (by assumption) ?rest1sa
                case hi1sa => (simp only [List.getElem?_toArray, List.getElem?_cons_zero, List.getElem?_cons_succ]; rfl)
                case hy1sa => (refine Or.inl ⟨by rfl, ?_⟩; intro w hSw; (try dsimp only at hSw); go_simp; try with_reducible rfl)
                case hq1sa => exact fun _ _ _ h => h
                try simp only [Act.put, List.setIfInBounds_toArray, List.set_cons_zero, List.set_cons_succ]
                refine wpAnyH_take (i := 2) (oi := ?oi2sa) (v := ?v2sa) ?hi2sa (by kernel_rfl) (by kernel_rfl) (by kernel_rfl) ?hq2sa ?hy2sa (by assumption) ?rest2sa
                case hi2sa => (simp only [List.getElem?_toArray, List.getElem?_cons_zero, List.getElem?_cons_succ]; rfl)
                case hy2sa => (refine Or.inl ⟨by rfl, ?_⟩; intro w hSw; (try dsimp only at hSw); go_simp; try with_reducible rfl)
                case hq2sa => exact fun _ _ _ h => h
                try simp only [Act.put, List.setIfInBounds_toArray, List.set_cons_zero, List.set_cons_succ]
                refine wpAnyH_take (i := 3) (oi := ?oi3sa) (v := ?v3sa) ?hi3sa (by kernel_rfl) (by kernel_rfl) (by kernel_rfl) ?hq3sa ?hy3sa (by assumption) ?rest3sa
                case hi3sa => (simp only [List.getElem?_toArray, List.getElem?_cons_zero, List.getElem?_cons_succ]; rfl)
                case hy3sa => (refine Or.inl ⟨by rfl, ?_⟩; intro w hSw; (try dsimp only at hSw); go_simp; try with_reducible rfl)
                case hq3sa => exact fun _ _ _ h => h
                try simp only [Act.put, List.setIfInBounds_toArray, List.set_cons_zero, List.set_cons_succ]
                refine wpAnyH_take (i := 5) (oi := ?oi5sa) (v := ?v5sa) ?hi5sa (by kernel_rfl) (by kernel_rfl) (by kernel_rfl) ?hq5sa ?hy5sa (by assumption) ?rest5sa
                case hi5sa => (simp only [List.getElem?_toArray, List.getElem?_cons_zero, List.getElem?_cons_succ]; rfl)
                case hy5sa => (refine Or.inl ⟨by rfl, ?_⟩; intro w hSw; (try dsimp only at hSw); go_simp; try with_reducible rfl)
                case hq5sa => exact fun _ _ _ h => h
                try simp only [Act.put, List.setIfInBounds_toArray, List.set_cons_zero, List.set_cons_succ]
                refine wpAnyH_take (i := 6) (oi := ?oi6sa) (v := ?v6sa) ?hi6sa (by kernel_rfl) (by kernel_rfl) (by kernel_rfl) ?hq6sa ?hy6sa (by assumption) ?rest6sa
                case hi6sa => (simp only [List.getElem?_toArray, List.getElem?_cons_zero, List.getElem?_cons_succ]; rfl)
                case hy6sa => (refine Or.inl ⟨by rfl, ?_⟩; intro w hSw; (try dsimp only at hSw); go_simp; try with_reducible rfl)
                case hq6sa => exact fun _ _ _ h => h
                try simp only [Act.put, List.setIfInBounds_toArray, List.set_cons_zero, List.set_cons_succ]
                refine wpAnyH_take (i := 7) (oi := ?oi7sa) (v := ?v7sa) ?hi7sa (by kernel_rfl) (by kernel_rfl) (by kernel_rfl) ?hq7sa ?hy7sa (by assumption) ?rest7sa
                case hi7sa => (simp only [List.getElem?_toArray, List.getElem?_cons_zero, List.getElem?_cons_succ]; rfl)
                case hy7sa => (refine Or.inl ⟨by rfl, ?_⟩; intro w hSw; (try dsimp only at hSw); go_simp; try with_reducible rfl)
                case hq7sa => exact fun _ _ _ h => h
                try simp only [Act.put, List.setIfInBounds_toArray, List.set_cons_zero, List.set_cons_succ]
                refine wpAnyH_take (i := 8) (oi := ?oi8sa) (v := ?v8sa) ?hi8sa (by kernel_rfl) (by kernel_rfl) (by kernel_rfl) ?hq8sa ?hy8sa (by assumption) ?rest8sa
                case hi8sa => (simp only [List.getElem?_toArray, List.getElem?_cons_zero, List.getElem?_cons_succ]; rfl)
                case hy8sa => (refine Or.inl ⟨by rfl, ?_⟩; intro w hSw; (try dsimp only at hSw); go_simp; try with_reducible rfl)
                case hq8sa => exact fun _ _ _ h => h
                try simp only [Act.put, List.setIfInBounds_toArray, List.set_cons_zero, List.set_cons_succ]
                refine wpAnyH_ready (rs := [4]) (by kernel_rfl) (by simp) ?_
                refine AllReadyH.cons (o := ?o4sb) ?ho4sb (fun K hK => ?st4sb) ?mo4sb
                case ho4sb => (simp only [List.getElem?_toArray, List.getElem?_cons_zero, List.getElem?_cons_succ]; rfl)
                · skip
                  go_simp
                  refine (Size_c HPD.out.pj).mono ?_
                  rintro _ _ ⟨rfl, rfl⟩
                  go_simp
                  refine hK.out _ _ hsw (fun _ => ?_)
                  clear hK K
                  try simp only [Act.put, List.setIfInBounds_toArray, List.set_cons_zero, List.set_cons_succ]
                  refine wpAnyH_ready (rs := [9]) (by kernel_rfl) (by simp) ?_
                  refine AllReadyH.cons (o := ?o9sc) ?ho9sc (fun K hK => ?st9sc) ?mo9sc
                  case ho9sc => (simp only [List.getElem?_toArray, List.getElem?_cons_zero, List.getElem?_cons_succ]; rfl)
                  · skip
                    go_simp
                    refine HRS.out.mono ?_
                    rintro _ w2 ⟨rfl, hb2⟩
                    have HB2 := Lib.hid hb2
                    go_simp
                    refine hK.out _ _ ⟨(HPD.out.over HB2.out).blk.cell 0, (HPD.out.over HB2.out).blk.cell 1⟩ (fun _ => ?_)
                    clear hK K hb2
                    try simp only [Act.put, List.setIfInBounds_toArray, List.set_cons_zero, List.set_cons_succ]
                    refine wpAnyH_take (i := 10) (oi := ?oi10sd) (v := ?v10sd) ?hi10sd (by kernel_rfl) (by kernel_rfl) (by kernel_rfl) ?hq10sd ?hy10sd (by assumption) ?rest10sd
                    case hi10sd => (simp only [List.getElem?_toArray, List.getElem?_cons_zero, List.getElem?_cons_succ]; rfl)
                    case hy10sd => (refine Or.inl ⟨by rfl, ?_⟩; intro w hSw; (try dsimp only at hSw); go_simp; try with_reducible rfl)
                    case hq10sd => exact fun _ _ _ h => h
                    try simp only [Act.put, List.setIfInBounds_toArray, List.set_cons_zero, List.set_cons_succ]
                    refine wpAnyH_take (i := 11) (oi := ?oi11sd) (v := ?v11sd) ?hi11sd (by kernel_rfl) (by kernel_rfl) (by kernel_rfl) ?hq11sd ?hy11sd (by assumption) ?rest11sd
                    case hi11sd => (simp only [List.getElem?_toArray, List.getElem?_cons_zero, List.getElem?_cons_succ]; rfl)
                    case hy11sd => (refine Or.inl ⟨by rfl, ?_⟩; intro w hSw; (try dsimp only at hSw); go_simp; try with_reducible rfl)
                    case hq11sd => exact fun _ _ _ h => h
                    try simp only [Act.put, List.setIfInBounds_toArray, List.set_cons_zero, List.set_cons_succ]
                    refine wpAnyH_done (by kernel_rfl) ?_ _
                    go_wp2_with fail
                    go_ret
                    exact HSAME.out w2 (HBW.out.trans ((HDR.out.trans (HB2.out.mono (Nat.le_refl _))).mono HBW.out.size))
                  exact AllReadyH.nil
                exact AllReadyH.nil
              · have b3 : (kd == 3) = false := by simpa using h3
                clear h3
                by_cases h4 : kd = 4
                · have b4 : (kd == 4) = true := by simpa using h4
                  clear h4
                  go_upto_region 25 with fail
                  refine wp_region_held_drew (S := fun W => W.cell? ⟨pg, 0, none⟩ = some (.pointer (some ⟨jg, 0, none⟩)) ∧ W.cell? ⟨pg, 1, none⟩ = some (.pointer (some ⟨kg, 0, none⟩))) (by kernel_rfl) ⟨HPD.out.blk.cell 0, HPD.out.blk.cell 1⟩ (fun hsw => ?_)
                  refine wpAnyH_take (i := 0) (oi := ?oi0ga) (v := ?v0ga) ?hi0ga (by kernel_rfl) (by kernel_rfl) (by kernel_rfl) ?hq0ga ?hy0ga (by assumption) ?rest0ga
                  case hi0ga => (simp only [List.getElem?_toArray, List.getElem?_cons_zero]; rfl)
                  case hy0ga => (refine Or.inl ⟨by rfl, ?_⟩; intro w hSw; (try dsimp only at hSw); go_simp; try with_reducible rfl)
                  case hq0ga => exact fun _ _ _ h => h
                  try simp only [Act.put, List.setIfInBounds_toArray, List.set_cons_zero, List.set_cons_succ]
                  refine wpAnyH_take (i := 1) (oi := ?oi1ga) (v := ?v1ga) ?hi1ga (by kernel_rfl) (by kernel_rfl) (by kernel_rfl) ?hq1ga ?hy1ga (by assumption) ?rest1ga
                  case hi1ga => (simp only [List.getElem?_toArray, List.getElem?_cons_zero, List.getElem?_cons_succ]; rfl)
                  case hy1ga => (refine Or.inl ⟨by rfl, ?_⟩; intro w hSw; (try dsimp only at hSw); go_simp; try with_reducible rfl)
                  case hq1ga => exact fun _ _ _ h => h
                  try simp only [Act.put, List.setIfInBounds_toArray, List.set_cons_zero, List.set_cons_succ]
                  refine wpAnyH_take (i := 2) (oi := ?oi2ga) (v := ?v2ga) ?hi2ga (by kernel_rfl) (by kernel_rfl) (by kernel_rfl) ?hq2ga ?hy2ga (by assumption) ?rest2ga
                  case hi2ga => (simp only [List.getElem?_toArray, List.getElem?_cons_zero, List.getElem?_cons_succ]; rfl)
                  case hy2ga => (refine Or.inl ⟨by rfl, ?_⟩; intro w hSw; (try dsimp only at hSw); go_simp; try with_reducible rfl)
                  case hq2ga => exact fun _ _ _ h => h
                  try simp only [Act.put, List.setIfInBounds_toArray, List.set_cons_zero, List.set_cons_succ]
                  refine wpAnyH_take (i := 3) (oi := ?oi3ga) (v := ?v3ga) ?hi3ga (by kernel_rfl) (by kernel_rfl) (by kernel_rfl) ?hq3ga ?hy3ga (by assumption) ?rest3ga
                  case hi3ga => (simp only [List.getElem?_toArray, List.getElem?_cons_zero, List.getElem?_cons_succ]; rfl)
                  case hy3ga => (refine Or.inl ⟨by rfl, ?_⟩; intro w hSw; (try dsimp only at hSw); go_simp; try with_reducible rfl)
                  case hq3ga => exact fun _ _ _ h => h
                  try simp only [Act.put, List.setIfInBounds_toArray, List.set_cons_zero, List.set_cons_succ]
                  refine wpAnyH_take (i := 5) (oi := ?oi5ga) (v := ?v5ga) ?hi5ga (by kernel_rfl) (by kernel_rfl) (by kernel_rfl) ?hq5ga ?hy5ga (by assumption) ?rest5ga
                  case hi5ga => (simp only [List.getElem?_toArray, List.getElem?_cons_zero, List.getElem?_cons_succ]; rfl)
                  case hy5ga => (refine Or.inl ⟨by rfl, ?_⟩; intro w hSw; (try dsimp only at hSw); go_simp; try with_reducible rfl)
                  case hq5ga => exact fun _ _ _ h => h
                  try simp only [Act.put, List.setIfInBounds_toArray, List.set_cons_zero, List.set_cons_succ]
                  refine wpAnyH_take (i := 6) (oi := ?oi6ga) (v := ?v6ga) ?hi6ga (by kernel_rfl) (by kernel_rfl) (by kernel_rfl) ?hq6ga ?hy6ga (by assumption) ?rest6ga
                  case hi6ga => (simp only [List.getElem?_toArray, List.getElem?_cons_zero, List.getElem?_cons_succ]; rfl)
                  case hy6ga => (refine Or.inl ⟨by rfl, ?_⟩; intro w hSw; (try dsimp only at hSw); go_simp; try with_reducible rfl)
                  case hq6ga => exact fun _ _ _ h => h
                  try simp only [Act.put, List.setIfInBounds_toArray, List.set_cons_zero, List.set_cons_succ]
                  refine wpAnyH_take (i := 7) (oi := ?oi7ga) (v := ?v7ga) ?hi7ga (by kernel_rfl) (by kernel_rfl) (by kernel_rfl) ?hq7ga ?hy7ga (by assumption) ?rest7ga
                  case hi7ga => (simp only [List.getElem?_toArray, List.getElem?_cons_zero, List.getElem?_cons_succ]; rfl)
                  case hy7ga => (refine Or.inl ⟨by rfl, ?_⟩; intro w hSw; (try dsimp only at hSw); go_simp; try with_reducible rfl)
                  case hq7ga => exact fun _ _ _ h => h
                  try simp only [Act.put, List.setIfInBounds_toArray, List.set_cons_zero, List.set_cons_succ]
                  refine wpAnyH_take (i := 8) (oi := ?oi8ga) (v := ?v8ga) ?hi8ga (by kernel_rfl) (by kernel_rfl) (by kernel_rfl) ?hq8ga ?hy8ga (by assumption) ?rest8ga
                  case hi8ga => (simp only [List.getElem?_toArray, List.getElem?_cons_zero, List.getElem?_cons_succ]; rfl)
                  case hy8ga => (refine Or.inl ⟨by rfl, ?_⟩; intro w hSw; (try dsimp only at hSw); go_simp; try with_reducible rfl)
                  case hq8ga => exact fun _ _ _ h => h
                  try simp only [Act.put, List.setIfInBounds_toArray, List.set_cons_zero, List.set_cons_succ]
                  refine wpAnyH_ready (rs := [4]) (by kernel_rfl) (by simp) ?_
                  refine AllReadyH.cons (o := ?o4gb) ?ho4gb (fun K hK => ?st4gb) ?mo4gb
                  case ho4gb => (simp only [List.getElem?_toArray, List.getElem?_cons_zero, List.getElem?_cons_succ]; rfl)
                  · skip
                    go_simp
                    refine (Generation_c HPD.out.pj).mono ?_
                    rintro _ _ ⟨rfl, rfl⟩
                    go_simp
                    refine hK.out _ _ hsw (fun _ => ?_)
                    clear hK K
                    try simp only [Act.put, List.setIfInBounds_toArray, List.set_cons_zero, List.set_cons_succ]
                    refine wpAnyH_ready (rs := [9]) (by kernel_rfl) (by simp) ?_
                    refine AllReadyH.cons (o := ?o9gc) ?ho9gc (fun K hK => ?st9gc) ?mo9gc
                    case ho9gc => (simp only [List.getElem?_toArray, List.getElem?_cons_zero, List.getElem?_cons_succ]; rfl)
                    · skip
                      go_simp
                      refine (RGeneration_c HPD.out.rj).mono ?_
                      rintro _ w2 ⟨rfl, hw2⟩
                      have hb2 : Below wp.drew.heap.size wp.drew w2 := by rw [← hw2]; exact Below.refl _ _
                      clear hw2
                      have HB2 := Lib.hid hb2
                      go_simp
                      refine hK.out _ _ ⟨(HPD.out.over HB2.out).blk.cell 0, (HPD.out.over HB2.out).blk.cell 1⟩ (fun _ => ?_)
                      clear hK K hb2
                      try simp only [Act.put, List.setIfInBounds_toArray, List.set_cons_zero, List.set_cons_succ]
                      refine wpAnyH_take (i := 10) (oi := ?oi10gd) (v := ?v10gd) ?hi10gd (by kernel_rfl) (by kernel_rfl) (by kernel_rfl) ?hq10gd ?hy10gd (by assumption) ?rest10gd
                      case hi10gd => (simp only [List.getElem?_toArray, List.getElem?_cons_zero, List.getElem?_cons_succ]; rfl)
                      case hy10gd => (refine Or.inl ⟨by rfl, ?_⟩; intro w hSw; (try dsimp only at hSw); go_simp; try with_reducible rfl)
                      case hq10gd => exact fun _ _ _ h => h
                      try simp only [Act.put, List.setIfInBounds_toArray, List.set_cons_zero, List.set_cons_succ]
                      refine wpAnyH_take (i := 11) (oi := ?oi11gd) (v := ?v11gd) ?hi11gd (by kernel_rfl) (by kernel_rfl) (by kernel_rfl) ?hq11gd ?hy11gd (by assumption) ?rest11gd
                      case hi11gd => (simp only [List.getElem?_toArray, List.getElem?_cons_zero, List.getElem?_cons_succ]; rfl)
                      case hy11gd => (refine Or.inl ⟨by rfl, ?_⟩; intro w hSw; (try dsimp only at hSw); go_simp; try with_reducible rfl)
                      case hq11gd => exact fun _ _ _ h => h
                      try simp only [Act.put, List.setIfInBounds_toArray, List.set_cons_zero, List.set_cons_succ]
                      refine wpAnyH_done (by kernel_rfl) ?_ _
                      go_wp2_with fail
                      go_ret
                      exact HSAME.out w2 (HBW.out.trans ((HDR.out.trans (HB2.out.mono (Nat.le_refl _))).mono HBW.out.size))
                    exact AllReadyH.nil
                  exact AllReadyH.nil
                · have b4 : (kd == 4) = false := by simpa using h4
                  clear h4
                  by_cases h5 : kd = 5
                  · have b5 : (kd == 5) = true := by simpa using h5
                    clear h5
                    have HRE := Lib.hid (reopens_any (w := wp) (f := f) ⟨_, _, _, _, _, _, _, HPW.out⟩ HF.out (by omega) HTP.out)
                    go_wp2_with (go_at_call 62; refine HRE.out.mono ?_; rintro _ w5 ⟨rfl, j5, f5, hp5, hf5, hl5, hc5⟩; have H5 := Lib.hid (And.intro hp5 (And.intro hf5 (And.intro hl5 hc5))); clear hp5 hf5 hl5 hc5)
                    go_ret
                    have hs5 := H5.out.2.2.2.size
                    have hsw := HBW.out.size
                    exact ⟨rfl, j5, f5, H5.out.1.mono (fun k hk => hk.elim .inl fun h => .inr ⟨by omega, h.2⟩) (grow_lt HSZ.out (by omega)), H5.out.2.1, by have := H5.out.2.2.1; omega, (Chg.of_below HBW.out _).trans H5.out.2.2.2⟩
                  · have b5 : (kd == 5) = false := by simpa using h5
                    clear h5
                    go_wp2_with fail
                    go_ret
                    exact HSAME.out wp HBW.out
end Go.Proofs.YtpkdalpjfcopbaaDoor
