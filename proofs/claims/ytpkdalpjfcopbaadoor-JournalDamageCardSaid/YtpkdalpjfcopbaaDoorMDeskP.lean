/-
  The outright laws' desk: plays, kind by kind.
-/
import Derived.Test.YtpkdalpjfcopbaaDoorMDeskR
namespace Go.Proofs.YtpkdalpjfcopbaaDoor
open Go.RowKit
/-- What plays leaves. -/
def DPl (w : World) (tg jg : Nat) (j : JP) (kd : Int) (r : Rc) (e : Ending) (w' : World) : Prop := e = .returned (.bool true) ∧ ∃ jg' j' f', Desk w' tg jg' j' f' ∧ j'.gen ≤ j.gen + 2 ∧ (jg' = jg ∨ w.heap.size ≤ jg') ∧ Chg (fun i => i = tg ∨ i = jg) w w' ∧
  (kd = 1 → r.ok = true → j.text.length + 8 + r.body.length ≤ 65536 → j'.recs = j.recs ++ [r]) ∧ bodies j'.recs ≤ bodies j.recs + (8 + r.body.length)
/-- What a call's writes do to the disk. -/
structure Writes (j : JP) (f : Fls) (j' : JP) (ws : List Wr) : Prop where
  full : ∀ m : Int, m < 0 ∨ ((costW ws : Nat) : Int) ≤ m → Good (apD ws m f) j'
  torn : ∀ m : Int, 0 ≤ m → m < ((costW ws : Nat) : Int) → Half (apD ws m f) j.file j.fi
  last : lastF ws (j.file : Int) = (j'.file : Int)
  side : lastF ws (j.file : Int) = (j.file : Int) ∨ lastF ws (j.file : Int) = ((1 - j.file : Nat) : Int)
  gen : j'.gen ≤ j.gen + 1
  cost : costW ws ≤ 65537
theorem append_writes {j : JP} {f : Fls} {r : Rc} (h : Good f j) (hr : r.ok = true) (hl : j.text.length + 8 + r.body.length ≤ 65536) : Writes j f ⟨j.file, j.gen, j.count, j.recs ++ [r]⟩ [⟨(j.file : Int), false, frameB (last4 j.text) r⟩] :=
  ⟨fun _ hm => h.more hr hl hm, fun _ h0 h1 => h.torn hr hl h0 h1, rfl, .inl rfl, Nat.le_add_right _ _, by rw [cost_more h.fine.file, frameB_length]; omega⟩
theorem compact_writes {j : JP} {f : Fls} {r : Rc} (h : Good f j) (hr : r.ok = true) (hg : j.gen ≤ 1125899906842000) : Writes j f ⟨1 - j.file, j.gen + 1, 1, [r]⟩ [⟨((1 - j.file : Nat) : Int), true, textB (j.gen + 1) 1 [r]⟩] := by
  obtain ⟨k, _, _, _, hb⟩ := Rc.ok_k hr
  have hi := h.fine.file
  have hlen : (textB (j.gen + 1) 1 [r]).length ≤ 65536 := by rw [textB_length]; simp [bodies]; omega
  have hfine : (JP.mk (1 - j.file) (j.gen + 1) [r].length [r]).Fine := ⟨by show 1 - j.file ≤ 1; omega, ⟨by show 1 ≤ j.gen + 1; omega, by show j.gen + 1 ≤ _; omega⟩, by show 1 < _; omega, hlen, fun x hx => by simp at hx; rw [hx]; exact hr⟩
  have hgen : j.fi.gen < j.gen + 1 := by show j.gen < _; omega
  refine ⟨fun m hm => h.half.begun (g := j.gen + 1) (l := [r]) hfine hgen (by omega) hm, fun m h0 h1 => h.half.torn (g := j.gen + 1) (l := [r]) hfine hgen (by omega) h0 h1, rfl, .inr rfl, Nat.le_refl _, ?_⟩
  rw [cost_start (by omega)]
  omega
theorem RcB.rowsN {w : World} {F : Nat → Prop} {A : Option Addr} {cap : Nat} {K : List Rk} {recs : List Rc} (h : RcB w F (.slice A recs.length cap) K) (hm : K.map Rk.rc = recs) : Rd w w.heap.size 2 A recs.length (rowsK K) := by
  subst hm
  rw [List.length_map] at h ⊢
  exact h.rows
theorem recs_le {f : Fls} {j : JP} (h : Good f j) : j.recs.length ≤ 65536 := by
  have h1 := h.fine.len
  have h2 : j.text.length = 18 + bodies j.recs := textB_length _ _ _
  have h3 := bodies_le j.recs
  omega
theorem desk_nib {w w' : World} {tg jg : Nat} (h : Nibs w) (hn : 0 ≠ tg ∧ 0 ≠ jg) (hc : Chg (fun i => i = tg ∨ i = jg) w w') : Nibs w' := h.chg hc fun e => e.elim hn.1 hn.2
theorem own_oneB {w : World} {g base : Nat} {a b : Value} (h : Blk w g 34 #[a, b]) (hb : base ≤ g) : w.ownsRow base 34 2 (.slice (some ⟨g, 0, none⟩) 1 1) 1 [a, b] :=
  ⟨by simp, .inr ⟨g, 1, _, rfl, hb, h, by omega, by simp [maxLen], by simp, by simp⟩⟩
set_option maxRecDepth 100000 in
set_option maxHeartbeats 6400000 in
theorem dplays_1 {w : World} {tg jg : Nat} {j : JP} {f : Fls} (kd on kn ln rk : Int) (A : Option Addr) (cap : Nat) (body : List UInt8) (b1 : (kd == 1) = true) (h : Desk w tg jg j f) (hg : j.gen ≤ 1125899906842000) (hr : RdB w w.heap.size A body.length body) (hA : 0 < body.length → ∀ b o s, A = some ⟨b, o, s⟩ → b ≠ tg ∧ b ≠ jg)
    (hn : body.length ≤ 140737488351232) (_hkn : kn ≤ 9223372036854775807) (ht : Nibs w) : Calls Tryd.prog 31 #[.pointer (some ⟨tg, 0, none⟩), .agg #[.int .i64 kd, .int .i64 on, .int .i64 kn, .int .i64 ln, .int .i64 rk, .slice A body.length cap]] w (DPl w tg jg j kd ⟨rk, body⟩) := by
  obtain ⟨A0, c0, A1, c1, vb, Kb, h, hk, hgood⟩ := h
  obtain ⟨Ab, cb, rfl, hcb1, hcb2⟩ := h.bk.shape hk
  obtain ⟨w1, hw1⟩ : ∃ w1, w1 = w.alloc (.cells #[.int .i64 kd, .int .i64 on, .int .i64 kn, .int .i64 ln, .int .i64 rk, .slice A body.length cap] 57) := ⟨_, rfl⟩
  have hb1 : Below w.heap.size w w1 := by rw [hw1]; exact one_box' _ _
  have hX1 : Blk w1 w.heap.size 57 #[.int .i64 kd, .int .i64 on, .int .i64 kn, .int .i64 ln, .int .i64 rk, .slice A body.length cap] := by rw [hw1]; exact Blk.new _ _ _
  have HD := Lib.hid h
  have HD1 := Lib.hid (h.over hb1)
  have HX1 := Lib.hid hX1
  have HB1 := Lib.hid hb1
  have HK := Lib.hid hk
  have HG := Lib.hid hgood
  have HGN := Lib.hid hg
  have HT := Lib.hid ht
  have HRR : Hid (∀ W, Chg (fun i => i = tg ∨ i = jg) w W → RdB W W.heap.size A body.length body) := Lib.hid fun W hW => (hr.chgF hW (Nat.le_refl _) fun h0 b o s e hs => by
    have h1 := hA h0 b o s e
    exact hs.elim h1.1 h1.2).more hW.size
  have HLT : Hid (tg < w.heap.size ∧ jg < w.heap.size ∧ tg ≠ jg) := Lib.hid ⟨h.blk.lt, h.pj.lt, h.ne⟩
  have hnt1 : 0 ≠ tg := fun e => by
    have h0 := ht 0 (by omega)
    subst e
    rw [h.blk.cell 0] at h0
    cases h0
  have hnt2 : 0 ≠ jg := by
    obtain ⟨s, hB, _⟩ := h.pj.blk
    exact ht.off hB rfl
  have HNT := Lib.hid (And.intro hnt1 hnt2)
  have HSAME : Hid (∀ W, Chg (fun i => i = tg ∨ i = jg) w W → DAt W tg jg A0 c0 A1 c1 (.slice Ab j.recs.length cb) Kb j f (j.file : Int) → (kd = 1 → (⟨rk, body⟩ : Rc).ok = true → j.text.length + 8 + body.length ≤ 65536 → False) → DPl w tg jg j kd ⟨rk, body⟩ (.returned (.bool true)) W) := Lib.hid fun W hW hd hno => ⟨rfl, jg, j, f, ⟨A0, c0, A1, c1, _, Kb, hd, hk, hgood⟩, by omega, .inl rfl, hW, fun e e2 e3 => (hno e e2 e3).elim, Nat.le_add_right _ _⟩
  have k0 : w1.cell? ⟨w.heap.size, 0, none⟩ = some (.int .i64 kd) := hX1.cell 0
  have t0 : w1.cell? ⟨tg, 0, none⟩ = some (.pointer (some ⟨jg, 0, none⟩)) := (h.over hb1).blk.cell 0
  have t3 : w1.cell? ⟨tg, 3, none⟩ = some (.slice Ab j.recs.length cb) := (h.over hb1).blk.cell 3
  have HW1 := Lib.hid hw1
  clear h hk hgood hg hr hA ht hw1 hb1 hX1 hcb1 hcb2 hnt1 hnt2
  go_enter Tryd.func31, Tryd.ntmps31
  go_upto_region 3 with fail
  rw [← HW1.out]
  clear HW1
  go_upto_region 10 with (go_at_call 22; refine (Size_c HD1.out.pj).mono ?_; rintro _ _ ⟨rfl, rfl⟩)
  obtain ⟨wd, hwd⟩ : ∃ wd, wd = w1.drew := ⟨_, rfl⟩
  have hbd : Below w1.heap.size w1 wd := by rw [hwd]; exact below_drewN (Below.refl _ _) 1
  have HDD := Lib.hid (HD1.out.over hbd)
  have HXD := Lib.hid (HX1.out.over hbd)
  have HBD : Hid (Below w.heap.size w wd) := Lib.hid (Below.then HB1.out hbd)
  have HSD : Hid (w.heap.size < wd.heap.size) := Lib.hid HXD.out.lt
  have HSB : Hid (∀ W, Below wd.heap.size wd W → W.cell? ⟨tg, 0, none⟩ = some (.pointer (some ⟨jg, 0, none⟩)) ∧ W.cell? ⟨w.heap.size, 4, none⟩ = some (.int .i64 rk) ∧ W.cell? ⟨w.heap.size, 5, none⟩ = some (.slice A body.length cap)) := Lib.hid fun W hW => ⟨(HDD.out.over hW).blk.cell 0, (HXD.out.over hW).cell 4, (HXD.out.over hW).cell 5⟩
  have HWD := Lib.hid hwd
  clear hwd hbd
  refine wp_region_held_drew (S := fun W => W.cell? ⟨tg, 0, none⟩ = some (.pointer (some ⟨jg, 0, none⟩)) ∧ W.cell? ⟨w.heap.size, 4, none⟩ = some (.int .i64 rk) ∧ W.cell? ⟨w.heap.size, 5, none⟩ = some (.slice A body.length cap)) (by kernel_rfl) (by rw [← HWD.out]; exact HSB.out _ (Below.refl _ _)) (fun hsw => ?_)
  rw [← HWD.out] at hsw ⊢
  clear k0 t0 t3
  refine wpAnyH_take (i := 0) (oi := ?oi0wa) (v := ?v0wa) ?hi0wa (by kernel_rfl) (by kernel_rfl) (by kernel_rfl) ?hq0wa ?hy0wa (by assumption) ?rest0wa
  case hi0wa => (simp only [List.getElem?_toArray, List.getElem?_cons_zero]; rfl)
  case hy0wa => (refine Or.inl ⟨by rfl, ?_⟩; intro w hSw; (try dsimp only at hSw); go_simp; try with_reducible rfl)
  case hq0wa => exact fun _ _ _ h => h
  try simp only [Act.put, List.setIfInBounds_toArray, List.set_cons_zero, List.set_cons_succ]
  refine wpAnyH_take (i := 1) (oi := ?oi1wa) (v := ?v1wa) ?hi1wa (by kernel_rfl) (by kernel_rfl) (by kernel_rfl) ?hq1wa ?hy1wa (by assumption) ?rest1wa
  case hi1wa => (simp only [List.getElem?_toArray, List.getElem?_cons_zero, List.getElem?_cons_succ]; rfl)
  case hy1wa => (refine Or.inl ⟨by rfl, ?_⟩; intro w hSw; (try dsimp only at hSw); go_simp; try with_reducible rfl)
  case hq1wa => exact fun _ _ _ h => h
  try simp only [Act.put, List.setIfInBounds_toArray, List.set_cons_zero, List.set_cons_succ]
  refine wpAnyH_take (i := 2) (oi := ?oi2wa) (v := ?v2wa) ?hi2wa (by kernel_rfl) (by kernel_rfl) (by kernel_rfl) ?hq2wa ?hy2wa (by assumption) ?rest2wa
  case hi2wa => (simp only [List.getElem?_toArray, List.getElem?_cons_zero, List.getElem?_cons_succ]; rfl)
  case hy2wa => (refine Or.inl ⟨by rfl, ?_⟩; intro w hSw; (try dsimp only at hSw); go_simp; try with_reducible rfl)
  case hq2wa => exact fun _ _ _ h => h
  try simp only [Act.put, List.setIfInBounds_toArray, List.set_cons_zero, List.set_cons_succ]
  refine wpAnyH_take (i := 3) (oi := ?oi3wa) (v := ?v3wa) ?hi3wa (by kernel_rfl) (by kernel_rfl) (by kernel_rfl) ?hq3wa ?hy3wa (by assumption) ?rest3wa
  case hi3wa => (simp only [List.getElem?_toArray, List.getElem?_cons_zero, List.getElem?_cons_succ]; rfl)
  case hy3wa => (refine Or.inl ⟨by rfl, ?_⟩; intro w hSw; (try dsimp only at hSw); go_simp; try with_reducible rfl)
  case hq3wa => exact fun _ _ _ h => h
  try simp only [Act.put, List.setIfInBounds_toArray, List.set_cons_zero, List.set_cons_succ]
  refine wpAnyH_take (i := 4) (oi := ?oi4wa) (v := ?v4wa) ?hi4wa (by kernel_rfl) (by kernel_rfl) (by kernel_rfl) ?hq4wa ?hy4wa (by assumption) ?rest4wa
  case hi4wa => (simp only [List.getElem?_toArray, List.getElem?_cons_zero, List.getElem?_cons_succ]; rfl)
  case hy4wa => (refine Or.inl ⟨by rfl, ?_⟩; intro w hSw; (try dsimp only at hSw); go_simp; try with_reducible rfl)
  case hq4wa => exact fun _ _ _ h => h
  try simp only [Act.put, List.setIfInBounds_toArray, List.set_cons_zero, List.set_cons_succ]
  refine wpAnyH_take (i := 5) (oi := ?oi5wa) (v := ?v5wa) ?hi5wa (by kernel_rfl) (by kernel_rfl) (by kernel_rfl) ?hq5wa ?hy5wa (by assumption) ?rest5wa
  case hi5wa => (simp only [List.getElem?_toArray, List.getElem?_cons_zero, List.getElem?_cons_succ]; rfl)
  case hy5wa => (refine Or.inl ⟨by rfl, ?_⟩; intro w hSw; (try dsimp only at hSw); go_simp; try with_reducible rfl)
  case hq5wa => exact fun _ _ _ h => h
  try simp only [Act.put, List.setIfInBounds_toArray, List.set_cons_zero, List.set_cons_succ]
  refine wpAnyH_ready (rs := [6]) (by kernel_rfl) (by simp) ?_
  refine AllReadyH.cons (o := ?o6wb) ?ho6wb (fun K hK => ?st6wb) ?mo6wb
  case ho6wb => (simp only [List.getElem?_toArray, List.getElem?_cons_zero, List.getElem?_cons_succ]; rfl)
  case mo6wb => exact AllReadyH.nil
  have HCP := Lib.hid (copied_any rk A body.length cap body (HRR.out _ (Chg.of_below HBD.out _)) (by omega))
  go_simp
  refine HCP.out.mono ?_
  rintro _ w2 ⟨A2, q2, rfl, ho2, hb2⟩
  have H2 := Lib.hid (And.intro ho2 hb2)
  clear ho2 hb2 HCP
  have HD2 := Lib.hid (HDD.out.over H2.out.2)
  have HX2 := Lib.hid (HXD.out.over H2.out.2)
  have HB2 : Hid (Below w.heap.size w w2) := Lib.hid (HBD.out.trans (H2.out.2.mono HBD.out.size))
  have HN2 : Hid (Nibs w2) := Lib.hid (HT.out.below HB2.out)
  have HQ2 : Hid (body.length ≤ q2) := Lib.hid (by obtain ⟨_, _, e, h1, _⟩ := own_shape H2.out.1; injection e with _ _ e; omega)
  go_simp
  refine hK.out _ _ (HSB.out _ H2.out.2) (fun _ => ?_)
  clear hK K
  try simp only [Act.put, List.setIfInBounds_toArray, List.set_cons_zero, List.set_cons_succ]
  obtain ⟨x, HXA⟩ : ∃ x, Hid (j.append ⟨rk, body⟩ = x) := ⟨_, Lib.hid rfl⟩
  have HAP := Lib.hid (Append_any (w := w2) rk A2 body.length q2 body (HD2.out.pj) HG.out.fine.len (Rd.of_own H2.out.1) (by omega) HN2.out)
  rw [HXA.out] at HAP
  refine wpAnyH_ready (rs := [7]) (by kernel_rfl) (by simp) ?_
  refine AllReadyH.cons (o := ?o7wc) ?ho7wc (fun K hK => ?st7wc) ?mo7wc
  case ho7wc => (simp only [List.getElem?_toArray, List.getElem?_cons_zero, List.getElem?_cons_succ]; rfl)
  case mo7wc => exact AllReadyH.nil
  go_simp
  refine HAP.out.mono ?_
  rintro _ w3 ⟨va, rfl, hp3, ho3, hc3⟩
  obtain ⟨Aa, capa, rfl⟩ := ho3.shapeN
  have H3 := Lib.hid (And.intro hp3 (And.intro ho3 hc3))
  clear hp3 ho3 hc3 HAP
  have HD3 := Lib.hid (HD2.out.jour H3.out.2.2 H3.out.1)
  have HX3 : Hid (Blk w3 w.heap.size 57 #[.int .i64 kd, .int .i64 on, .int .i64 kn, .int .i64 ln, .int .i64 rk, .slice A body.length cap]) := Lib.hid (HX2.out.chg H3.out.2.2 fun e => by have := HLT.out; omega)
  have HC3 : Hid (Chg (fun i => i = tg ∨ i = jg) w w3) := Lib.hid ((Chg.of_below HB2.out _).trans (H3.out.2.2.mono fun k _ e => .inr e))
  go_simp
  refine hK.out _ _ ⟨HD3.out.blk.cell 0, HX3.out.cell 4, HX3.out.cell 5⟩ (fun _ => ?_)
  clear hK K hsw
  try simp only [Act.put, List.setIfInBounds_toArray, List.set_cons_zero, List.set_cons_succ]
  refine wpAnyH_take (i := 8) (oi := ?oi8we) (v := ?v8we) ?hi8we (by kernel_rfl) (by kernel_rfl) (by kernel_rfl) ?hq8we ?hy8we (by assumption) ?rest8we
  case hi8we => (simp only [List.getElem?_toArray, List.getElem?_cons_zero, List.getElem?_cons_succ]; rfl)
  case hy8we => (refine Or.inl ⟨by rfl, ?_⟩; intro w hSw; (try dsimp only at hSw); go_simp; try with_reducible rfl)
  case hq8we => exact fun _ _ _ h => h
  try simp only [Act.put, List.setIfInBounds_toArray, List.set_cons_zero, List.set_cons_succ]
  refine wpAnyH_take (i := 9) (oi := ?oi9we) (v := ?v9we) ?hi9we (by kernel_rfl) (by kernel_rfl) (by kernel_rfl) ?hq9we ?hy9we (by assumption) ?rest9we
  case hi9we => (simp only [List.getElem?_toArray, List.getElem?_cons_zero, List.getElem?_cons_succ]; rfl)
  case hy9we => (refine Or.inl ⟨by rfl, ?_⟩; intro w hSw; (try dsimp only at hSw); go_simp; try with_reducible rfl)
  case hq9we => exact fun _ _ _ h => h
  try simp only [Act.put, List.setIfInBounds_toArray, List.set_cons_zero, List.set_cons_succ]
  refine wpAnyH_take (i := 10) (oi := ?oi10we) (v := ?v10we) ?hi10we (by kernel_rfl) (by kernel_rfl) (by kernel_rfl) ?hq10we ?hy10we (by assumption) ?rest10we
  case hi10we => (simp only [List.getElem?_toArray, List.getElem?_cons_zero, List.getElem?_cons_succ]; rfl)
  case hy10we => (refine Or.inl ⟨by rfl, ?_⟩; intro w hSw; (try dsimp only at hSw); go_simp; try with_reducible rfl)
  case hq10we => exact fun _ _ _ h => h
  try simp only [Act.put, List.setIfInBounds_toArray, List.set_cons_zero, List.set_cons_succ]
  refine wpAnyH_take (i := 11) (oi := ?oi11we) (v := ?v11we) ?hi11we (by kernel_rfl) (by kernel_rfl) (by kernel_rfl) ?hq11we ?hy11we (by assumption) ?rest11we
  case hi11we => (simp only [List.getElem?_toArray, List.getElem?_cons_zero, List.getElem?_cons_succ]; rfl)
  case hy11we => (refine Or.inl ⟨by rfl, ?_⟩; intro w hSw; (try dsimp only at hSw); go_simp; try with_reducible rfl)
  case hq11we => exact fun _ _ _ h => h
  try simp only [Act.put, List.setIfInBounds_toArray, List.set_cons_zero, List.set_cons_succ]
  refine wpAnyH_take (i := 12) (oi := ?oi12we) (v := ?v12we) ?hi12we (by kernel_rfl) (by kernel_rfl) (by kernel_rfl) ?hq12we ?hy12we (by assumption) ?rest12we
  case hi12we => (simp only [List.getElem?_toArray, List.getElem?_cons_zero, List.getElem?_cons_succ]; rfl)
  case hy12we => (refine Or.inl ⟨by rfl, ?_⟩; intro w hSw; (try dsimp only at hSw); go_simp; try with_reducible rfl)
  case hq12we => exact fun _ _ _ h => h
  try simp only [Act.put, List.setIfInBounds_toArray, List.set_cons_zero, List.set_cons_succ]
  refine wpAnyH_done (by kernel_rfl) ?_ _
  go_upto_region 11 with fail
  have r4 : w3.cell? ⟨w.heap.size, 4, none⟩ = some (.int .i64 rk) := HX3.out.cell 4
  have r5 : w3.cell? ⟨w.heap.size, 5, none⟩ = some (.slice A body.length cap) := HX3.out.cell 5
  have HGD := Lib.hid (good_any rk A body.length cap w3 (by omega))
  by_cases hok : okB rk body.length = true
  · rw [hok] at HGD
    go_upto_region 13 with (go_at_call 64; refine HGD.out.mono ?_; rintro _ w4 ⟨rfl, hb4⟩; have H4 := Lib.hid hb4; clear hb4)
    have HOK := Lib.hid hok
    have HD4 := Lib.hid (HD3.out.over H4.out)
    have HX4 := Lib.hid (HX3.out.over H4.out)
    have HC4 : Hid (Chg (fun i => i = tg ∨ i = jg) w w4) := Lib.hid (HC3.out.trans (Chg.of_below H4.out _))
    have s5 : w4.cell? ⟨w.heap.size, 5, none⟩ = some (.slice A body.length cap) := HX4.out.cell 5
    have htl : j.text.length ≤ 65536 := HG.out.fine.len
    have hbl : body.length ≤ 4200 := by
      have h := HOK.out
      unfold okB at h
      simp at h
      exact h.2.2
    clear r4 r5 hok
    by_cases hfit : j.text.length + 8 + body.length ≤ 65536
    · have hfI : ¬ (65536 : Int) < ((j.text.length : Nat) : Int) + 8 + ((body.length : Nat) : Int) := by omega
      have HXV : Hid (x = (⟨j.file, j.gen, j.count, j.recs ++ [⟨rk, body⟩]⟩, [⟨(j.file : Int), false, frameB (last4 j.text) ⟨rk, body⟩⟩], 0)) := Lib.hid (by rw [← HXA.out]; unfold JP.append; rw [if_pos (show (⟨rk, body⟩ : Rc).ok = true from HOK.out), if_pos (show j.text.length + 8 + (⟨rk, body⟩ : Rc).body.length ≤ 65536 from hfit)])
      have HFIT := Lib.hid hfit
      clear hfit
      go_upto_region 15 with fail
      clear s5 hfI
      obtain ⟨i1, hi1, hr0, hr1, hr2⟩ := info_parts info_rec
      obtain ⟨we, hwe⟩ : ∃ we, we = w4.drew := ⟨_, rfl⟩
      have hbe : Below w4.heap.size w4 we := by rw [hwe]; exact below_drewN (Below.refl _ _) 1
      have HDE := Lib.hid (HD4.out.over hbe)
      have HXE := Lib.hid (HX4.out.over hbe)
      have HCE : Hid (Chg (fun i => i = tg ∨ i = jg) w we) := Lib.hid (HC4.out.trans (Chg.of_below hbe _))
      have HBE : Hid (Below w3.heap.size w3 we) := Lib.hid (Below.then H4.out hbe)
      have HSC : Hid (∀ W, Below we.heap.size we W → W.cell? ⟨tg, 3, none⟩ = some (.slice Ab j.recs.length cb) ∧ W.cell? ⟨w.heap.size, 4, none⟩ = some (.int .i64 rk) ∧ W.cell? ⟨w.heap.size, 5, none⟩ = some (.slice A body.length cap)) := Lib.hid fun W hW => ⟨(HDE.out.over hW).blk.cell 3, (HXE.out.over hW).cell 4, (HXE.out.over hW).cell 5⟩
      have hrl := recs_le HG.out
      have HLK : Hid (Kb.length = j.recs.length) := Lib.hid (by rw [← HK.out, List.length_map])
      have HWE := Lib.hid hwe
      clear hwe hbe
      refine wp_region_held_drew (S := fun W => W.cell? ⟨tg, 3, none⟩ = some (.slice Ab j.recs.length cb) ∧ W.cell? ⟨w.heap.size, 4, none⟩ = some (.int .i64 rk) ∧ W.cell? ⟨w.heap.size, 5, none⟩ = some (.slice A body.length cap)) (by kernel_rfl) (by rw [← HWE.out]; exact HSC.out _ (Below.refl _ _)) (fun hsw => ?_)
      rw [← HWE.out] at hsw ⊢
      refine wpAnyH_take (i := 1) (oi := ?oi1fa) (v := ?v1fa) ?hi1fa (by kernel_rfl) (by kernel_rfl) (by kernel_rfl) ?hq1fa ?hy1fa (by assumption) ?rest1fa
      case hi1fa => (simp only [List.getElem?_toArray, List.getElem?_cons_zero, List.getElem?_cons_succ]; rfl)
      case hy1fa => (refine Or.inl ⟨by rfl, ?_⟩; intro w hSw; (try dsimp only at hSw); go_simp; try with_reducible rfl)
      case hq1fa => exact fun _ _ _ h => h
      try simp only [Act.put, List.setIfInBounds_toArray, List.set_cons_zero, List.set_cons_succ]
      refine wpAnyH_take (i := 2) (oi := ?oi2fa) (v := ?v2fa) ?hi2fa (by kernel_rfl) (by kernel_rfl) (by kernel_rfl) ?hq2fa ?hy2fa (by assumption) ?rest2fa
      case hi2fa => (simp only [List.getElem?_toArray, List.getElem?_cons_zero, List.getElem?_cons_succ]; rfl)
      case hy2fa => (refine Or.inl ⟨by rfl, ?_⟩; intro w hSw; (try dsimp only at hSw); go_simp; try with_reducible rfl)
      case hq2fa => exact fun _ _ _ h => h
      try simp only [Act.put, List.setIfInBounds_toArray, List.set_cons_zero, List.set_cons_succ]
      refine wpAnyH_take (i := 3) (oi := ?oi3fa) (v := ?v3fa) ?hi3fa (by kernel_rfl) (by kernel_rfl) (by kernel_rfl) ?hq3fa ?hy3fa (by assumption) ?rest3fa
      case hi3fa => (simp only [List.getElem?_toArray, List.getElem?_cons_zero, List.getElem?_cons_succ]; rfl)
      case hy3fa => (refine Or.inl ⟨by rfl, ?_⟩; intro w hSw; (try dsimp only at hSw); go_simp; try with_reducible rfl)
      case hq3fa => exact fun _ _ _ h => h
      try simp only [Act.put, List.setIfInBounds_toArray, List.set_cons_zero, List.set_cons_succ]
      refine wpAnyH_take (i := 4) (oi := ?oi4fa) (v := ?v4fa) ?hi4fa (by kernel_rfl) (by kernel_rfl) (by kernel_rfl) ?hq4fa ?hy4fa (by assumption) ?rest4fa
      case hi4fa => (simp only [List.getElem?_toArray, List.getElem?_cons_zero, List.getElem?_cons_succ]; rfl)
      case hy4fa => (refine Or.inl ⟨by rfl, ?_⟩; intro w hSw; (try dsimp only at hSw); go_simp; try with_reducible rfl)
      case hq4fa => exact fun _ _ _ h => h
      try simp only [Act.put, List.setIfInBounds_toArray, List.set_cons_zero, List.set_cons_succ]
      refine wpAnyH_take (i := 6) (oi := ?oi6fa) (v := ?v6fa) ?hi6fa (by kernel_rfl) (by kernel_rfl) (by kernel_rfl) ?hq6fa ?hy6fa (by assumption) ?rest6fa
      case hi6fa => (simp only [List.getElem?_toArray, List.getElem?_cons_zero, List.getElem?_cons_succ]; rfl)
      case hy6fa => (refine Or.inl ⟨by rfl, ?_⟩; intro w hSw; (try dsimp only at hSw); go_simp; try with_reducible rfl)
      case hq6fa => exact fun _ _ _ h => h
      try simp only [Act.put, List.setIfInBounds_toArray, List.set_cons_zero, List.set_cons_succ]
      refine wpAnyH_take (i := 7) (oi := ?oi7fa) (v := ?v7fa) ?hi7fa (by kernel_rfl) (by kernel_rfl) (by kernel_rfl) ?hq7fa ?hy7fa (by assumption) ?rest7fa
      case hi7fa => (simp only [List.getElem?_toArray, List.getElem?_cons_zero, List.getElem?_cons_succ]; rfl)
      case hy7fa => (refine Or.inl ⟨by rfl, ?_⟩; intro w hSw; (try dsimp only at hSw); go_simp; try with_reducible rfl)
      case hq7fa => exact fun _ _ _ h => h
      try simp only [Act.put, List.setIfInBounds_toArray, List.set_cons_zero, List.set_cons_succ]
      refine wpAnyH_ready (rs := [0]) (by kernel_rfl) (by simp) ?_
      refine AllReadyH.cons (o := ?o0fb) ?ho0fb (fun K hK => ?st0fb) ?mo0fb
      case ho0fb => (simp only [List.getElem?_toArray, List.getElem?_cons_zero]; rfl)
      case mo0fb => exact AllReadyH.nil
      obtain ⟨we1, hw4⟩ : ∃ x, x = we.alloc (.cells #[] 34) := ⟨_, rfl⟩
      have hb4 : Below we.heap.size we we1 := by rw [hw4]; exact one_box' _ _
      have ho4 : we1.ownsRow we.heap.size 34 2 (.slice (some ⟨we.heap.size, 0, none⟩) 0 0) 0 [] := by rw [hw4]; exact own_bare _ _ (Nat.le_refl _)
      have HE1 := Lib.hid (And.intro hb4 ho4)
      have HRD := Lib.hid ((HDE.out.over hb4).bk.rowsN HK.out)
      have HON := Lib.hid HDE.out.bk.one
      go_simp
      rw [← hw4]
      clear hw4 hb4 ho4
      refine hK.out _ _ (HSC.out _ HE1.out.1) (fun _ => ?_)
      clear hK K
      try simp only [Act.put, List.setIfInBounds_toArray, List.set_cons_zero, List.set_cons_succ]
      refine wpAnyH_ready (rs := [5]) (by kernel_rfl) (by simp) ?_
      refine AllReadyH.cons (o := ?o5fc) ?ho5fc (fun K hK => ?st5fc) ?mo5fc
      case ho5fc => (simp only [List.getElem?_toArray, List.getElem?_cons_zero, List.getElem?_cons_succ]; rfl)
      case mo5fc => exact AllReadyH.nil
      refine step_append_any _ (by rfl) _ _ 25 (by rfl) we.heap.size 34 i1 _ 2 32 u_recs hi1 hr0 hr1 hr2 rfl (by omega) _ 0 [] (by rfl) HE1.out.2 we1.heap.size Ab j.recs.length cb (rowsK Kb) (by rfl) HRD.out HON.out (by simp only [maxLen]; omega) (by omega) HE1.out.1.size ?_
      intro v5 we2 ho5 hg5 _
      rw [Nat.zero_add, List.nil_append] at ho5
      obtain ⟨A5, c5, rfl, _, _⟩ := own_shape ho5
      have HE2 := Lib.hid (And.intro ho5 (HE1.out.1.trans (below_app HE1.out.2 hg5 HE1.out.1.size)))
      clear ho5 hg5
      refine hK.out _ _ (HSC.out _ HE2.out.2) (fun _ => ?_)
      clear hK K
      try simp only [Act.put, List.setIfInBounds_toArray, List.set_cons_zero, List.set_cons_succ]
      refine wpAnyH_ready (rs := [8]) (by kernel_rfl) (by simp) ?_
      refine AllReadyH.cons (o := ?o8fd) ?ho8fd (fun K hK => ?st8fd) ?mo8fd
      case ho8fd => (simp only [List.getElem?_toArray, List.getElem?_cons_zero, List.getElem?_cons_succ]; rfl)
      case mo8fd => exact AllReadyH.nil
      have HCP2 := Lib.hid (copied_any rk A body.length cap body (HRR.out _ (HCE.out.trans ((Chg.of_below HE2.out.2 _)))) (by omega))
      go_simp
      refine HCP2.out.mono ?_
      rintro _ we3 ⟨A6, c6, rfl, ho6, hb6⟩
      have HE3 := Lib.hid (And.intro ho6 hb6)
      have HE3B : Hid (Below we.heap.size we we3) := Lib.hid (Below.then HE2.out.2 hb6)
      have HE3O : Hid (we3.ownsRow we.heap.size 34 2 (.slice A5 j.recs.length c5) j.recs.length (rowsK Kb)) := Lib.hid (own_over HE2.out.1 hb6)
      clear ho6 hb6 HCP2
      go_simp
      refine hK.out _ _ (HSC.out _ HE3B.out) (fun _ => ?_)
      clear hK K
      try simp only [Act.put, List.setIfInBounds_toArray, List.set_cons_zero, List.set_cons_succ]
      refine wpAnyH_ready (rs := [9]) (by kernel_rfl) (by simp) ?_
      refine AllReadyH.cons (o := ?o9fe) ?ho9fe (fun K hK => ?st9fe) ?mo9fe
      case ho9fe => (simp only [List.getElem?_toArray, List.getElem?_cons_zero, List.getElem?_cons_succ]; rfl)
      case mo9fe => exact AllReadyH.nil
      have hbA : Below we.heap.size we (we3.alloc (.cells #[.int .i64 rk, .slice A6 body.length c6] 34)) := Below.then HE3B.out (one_box' _ _)
      go_simp
      refine hK.out _ _ (HSC.out _ hbA) (fun _ => ?_)
      clear hK K hbA
      try simp only [Act.put, List.setIfInBounds_toArray, List.set_cons_zero, List.set_cons_succ]
      refine wpAnyH_ready (rs := [10]) (by kernel_rfl) (by simp) ?_
      refine AllReadyH.cons (o := ?o10ff) ?ho10ff (fun K hK => ?st10ff) ?mo10ff
      case ho10ff => (simp only [List.getElem?_toArray, List.getElem?_cons_zero, List.getElem?_cons_succ]; rfl)
      case mo10ff => exact AllReadyH.nil
      refine step_appN we3 (by rfl) _ _ 25 (by rfl) we.heap.size 34 i1 _ 2 32 u_recs hi1 hr0 hr1 hr2 rfl (by omega) _ j.recs.length _ (by rfl) HE3O.out #[.int .i64 rk, .slice A6 body.length c6] rfl (by rfl) (by simp; exact ⟨rfl, rfl⟩) (by simp only [maxLen]; omega) (by omega) HE3B.out.size ?_
      intro v8 w8 ho8 hb8 hg8 _
      obtain ⟨A8, c8, rfl, _, _⟩ := own_shape ho8
      have HB8 : Hid (Below we.heap.size we w8) := Lib.hid (HE3B.out.trans (hb8.mono (Nat.le_refl _)))
      have HR8 : Hid (RcB w8 (fun g => g = tg ∨ g = jg) (.slice A8 (j.recs.length + 1) c8) (Kb ++ [⟨⟨rk, body⟩, .slice A6 body.length c6⟩])) := Lib.hid (by
        have h6 : w8.ownsRow we.heap.size 5 1 (.slice A6 body.length c6) body.length (bvs body) := own_base (own_chg HE3.out.1 (Chg.of_grown hg8) fun g hg e => by
          exact absurd ((own_isT HE3.out.1 hg).eq_ (own_isT HE3O.out e.symm)) (by decide)) HE2.out.2.size
        exact HDE.out.bk.snoc (x := ⟨⟨rk, body⟩, .slice A6 body.length c6⟩) HB8.out (Nat.le_refl _) (fun g hg => by have := HCE.out.size; have := HLT.out; rcases hg with e | e <;> omega) (by rw [HLK.out]; exact ho8) rfl h6)
      clear ho8 hb8 hg8
      refine hK.out _ _ (HSC.out _ HB8.out) (fun _ => ?_)
      clear hK K hsw
      try simp only [Act.put, List.setIfInBounds_toArray, List.set_cons_zero, List.set_cons_succ]
      refine wpAnyH_take (i := 11) (oi := ?oi11fg) (v := ?v11fg) ?hi11fg (by kernel_rfl) (by kernel_rfl) (by kernel_rfl) ?hq11fg ?hy11fg (by assumption) ?rest11fg
      case hi11fg => (simp only [List.getElem?_toArray, List.getElem?_cons_zero, List.getElem?_cons_succ]; rfl)
      case hy11fg => (refine Or.inl ⟨by rfl, ?_⟩; intro w hSw; (try dsimp only at hSw); go_simp; try with_reducible rfl)
      case hq11fg => exact fun _ _ _ h => h
      try simp only [Act.put, List.setIfInBounds_toArray, List.set_cons_zero, List.set_cons_succ]
      refine wpAnyH_done (by kernel_rfl) ?_ _
      have HM8 : Hid ((Kb ++ [(⟨⟨rk, body⟩, .slice A6 body.length c6⟩ : Rk)]).map Rk.rc = x.1.recs) := Lib.hid (by rw [HXV.out, List.map_append, HK.out]; rfl)
      have HWR : Hid (Writes j f x.1 x.2.1) := Lib.hid (by rw [HXV.out]; exact append_writes HG.out HOK.out HFIT.out)
      have HX20 : Hid (x.2.2 = 0) := Lib.hid (by rw [HXV.out])
      have HXR : Hid (x.1.recs = j.recs ++ [⟨rk, body⟩]) := Lib.hid (by rw [HXV.out])
      have HBX : Hid (bodies x.1.recs ≤ bodies j.recs + (8 + body.length)) := Lib.hid (by rw [HXR.out, bodies_snoc]; exact Nat.le_refl _)
      have HB38 : Hid (Below w3.heap.size w3 w8) := Lib.hid (Below.then HBE.out HB8.out)
      clear HXV HXA HE1 HE2 HE3 HE3B HE3O HRD HON HSC HWE hrl
      have HC8 : Hid (Chg (fun i => i = tg ∨ i = jg) w w8) := Lib.hid (HC3.out.trans (Chg.of_below HB38.out _))
      have HD8 := Lib.hid (HD3.out.over HB38.out)
      have HX8 := Lib.hid (HX3.out.over HB38.out)
      have HO8 : Hid (WOut w8 0 (.slice Aa x.2.1.length capa) x.2.1) := Lib.hid ((H3.out.2.1.below HB38.out).mono (Nat.zero_le _))
      rw [HX20.out]
      have HCO := Lib.hid (PCost_any (w := w8) Aa _ capa _ HO8.out.wsN (by have := HWR.out.cost; omega) (by have := HO8.out.few; omega))
      go_upto_region 27 with (go_at_call 36; refine HCO.out.mono ?_; rintro _ w9 ⟨rfl, hb9⟩; have H9 := Lib.hid hb9; clear hb9)
      have HD9 := Lib.hid (HD8.out.over H9.out)
      have HX9 := Lib.hid (HX8.out.over H9.out)
      have HO9 := Lib.hid (HO8.out.below H9.out)
      have HR9 := Lib.hid (HR8.out.over H9.out)
      have HC9 : Hid (Chg (fun i => i = tg ∨ i = jg) w w9) := Lib.hid (HC8.out.trans (Chg.of_below H9.out _))
      have r0 : w9.cell? ⟨w.heap.size, 0, none⟩ = some (.int .i64 kd) := HX9.out.cell 0
      have r2 : w9.cell? ⟨w.heap.size, 2, none⟩ = some (.int .i64 kn) := HX9.out.cell 2
      clear HCO
      have HMK := Lib.hid (dmakes_any (cap := capa) HD9.out HO9.out (by have := HWR.out.cost; omega) (by have := HG.out.half.la; omega) (-1))
      go_upto_region 29 with (go_at_call 63; refine HMK.out.mono ?_; rintro _ wa ⟨rfl, ⟨C0, g0, C1, g1, hpa⟩, hca⟩; have HA := Lib.hid (And.intro hpa hca); clear hpa hca)
      have HXA' : Hid (Blk wa w.heap.size 57 #[.int .i64 kd, .int .i64 on, .int .i64 kn, .int .i64 ln, .int .i64 rk, .slice A body.length cap]) := Lib.hid (HX9.out.chg HA.out.2 fun e => by have := HLT.out; omega)
      have z3 : wa.cell? ⟨tg, 3, none⟩ = some (.slice Ab j.recs.length cb) := HA.out.1.blk.cell 3
      have zf := HA.out.1.blk.frozen 3
      have HBK := Lib.hid (HA.out.1.book (HR9.out.chg HA.out.2 fun k _ e => .inl e))
      go_upto_region 30 with fail
      generalize wa.setCell ⟨tg, 3, none⟩ (.slice A8 (j.recs.length + 1) c8) = wb at HBK ⊢
      clear z3 zf r0 r2
      have HXB : Hid (Blk wb w.heap.size 57 #[.int .i64 kd, .int .i64 on, .int .i64 kn, .int .i64 ln, .int .i64 rk, .slice A body.length cap]) := Lib.hid (HXA'.out.chg HBK.out.2 fun e => by have := HLT.out; omega)
      have HCB : Hid (Chg (fun i => i = tg ∨ i = jg) w wb) := Lib.hid (HC9.out.trans ((HA.out.2.trans HBK.out.2).mono fun k _ e => .inl e))
      have hdk := HBK.out.1
      rw [HWR.out.last] at hdk
      have HDK := Lib.hid hdk
      have HGO := Lib.hid (HWR.out.full (-1) (.inl (by omega)))
      have s0 : wb.cell? ⟨w.heap.size, 0, none⟩ = some (.int .i64 kd) := HXB.out.cell 0
      have s3 : wb.cell? ⟨w.heap.size, 3, none⟩ = some (.int .i64 ln) := HXB.out.cell 3
      clear hdk
      go_wp2_with fail
      go_ret
      exact ⟨rfl, jg, x.1, _, ⟨_, _, _, _, _, _, HDK.out, HM8.out, HGO.out⟩, by have := HWR.out.gen; omega, .inl rfl, HCB.out, (fun _ _ _ => HXR.out), HBX.out⟩
    · have hfI : (65536 : Int) < ((j.text.length : Nat) : Int) + 8 + ((body.length : Nat) : Int) := by omega
      have HXV : Hid (x = (j, [], 17)) := Lib.hid (by rw [← HXA.out]; unfold JP.append; rw [if_pos (show (⟨rk, body⟩ : Rc).ok = true from HOK.out), if_neg (show ¬ j.text.length + 8 + (⟨rk, body⟩ : Rc).body.length ≤ 65536 from hfit)])
      have HNF := Lib.hid hfit
      clear hfit
      rw [HXV.out] at HD4 ⊢
      dsimp only [List.length_nil]
      go_wp2_with fail
      go_ret
      exact HSAME.out _ HC4.out HD4.out (fun _ _ h => HNF.out h)
  · have hok2 : okB rk body.length = false := by simpa using hok
    rw [hok2] at HGD
    have HXV : Hid (x = (j, [], 121)) := Lib.hid (by rw [← HXA.out]; unfold JP.append; rw [if_neg (show ¬ (⟨rk, body⟩ : Rc).ok = true from hok)])
    have HNO := Lib.hid hok2
    clear hok hok2
    rw [HXV.out] at HD3 ⊢
    dsimp only [List.length_nil]
    go_wp2_with (go_at_call 64; refine HGD.out.mono ?_; rintro _ w4 ⟨rfl, hb4⟩; have H4 := Lib.hid hb4; clear hb4)
    go_ret
    exact HSAME.out _ (HC3.out.trans (Chg.of_below H4.out _)) (HD3.out.over H4.out) (fun _ h _ => by have h2 := HNO.out; have h3 : okB rk body.length = true := h; rw [h2] at h3; cases h3)
set_option maxRecDepth 100000 in
set_option maxHeartbeats 6400000 in
theorem dplays_6 {w : World} {tg jg : Nat} {j : JP} {f : Fls} (kd on kn ln rk : Int) (A : Option Addr) (cap : Nat) (body : List UInt8) (b1 : (kd == 1) = false) (b6 : (kd == 6) = true) (b2 : (kd == 2) = false) (h : Desk w tg jg j f) (hg : j.gen ≤ 1125899906842000) (hr : RdB w w.heap.size A body.length body) (hA : 0 < body.length → ∀ b o s, A = some ⟨b, o, s⟩ → b ≠ tg ∧ b ≠ jg)
    (hn : body.length ≤ 140737488351232) (hkn : kn ≤ 9223372036854775807) (ht : Nibs w) : Calls Tryd.prog 31 #[.pointer (some ⟨tg, 0, none⟩), .agg #[.int .i64 kd, .int .i64 on, .int .i64 kn, .int .i64 ln, .int .i64 rk, .slice A body.length cap]] w (DPl w tg jg j kd ⟨rk, body⟩) := by
  obtain ⟨A0, c0, A1, c1, vb, Kb, h, hk, hgood⟩ := h
  obtain ⟨Ab, cb, rfl, hcb1, hcb2⟩ := h.bk.shape hk
  obtain ⟨w1, hw1⟩ : ∃ w1, w1 = w.alloc (.cells #[.int .i64 kd, .int .i64 on, .int .i64 kn, .int .i64 ln, .int .i64 rk, .slice A body.length cap] 57) := ⟨_, rfl⟩
  have hb1 : Below w.heap.size w w1 := by rw [hw1]; exact one_box' _ _
  have hX1 : Blk w1 w.heap.size 57 #[.int .i64 kd, .int .i64 on, .int .i64 kn, .int .i64 ln, .int .i64 rk, .slice A body.length cap] := by rw [hw1]; exact Blk.new _ _ _
  have HD := Lib.hid h
  have HD1 := Lib.hid (h.over hb1)
  have HX1 := Lib.hid hX1
  have HB1 := Lib.hid hb1
  have HK := Lib.hid hk
  have HG := Lib.hid hgood
  have HGN := Lib.hid hg
  have HT := Lib.hid ht
  have HRR : Hid (∀ W, Chg (fun i => i = tg ∨ i = jg) w W → RdB W W.heap.size A body.length body) := Lib.hid fun W hW => (hr.chgF hW (Nat.le_refl _) fun h0 b o s e hs => by
    have h1 := hA h0 b o s e
    exact hs.elim h1.1 h1.2).more hW.size
  have HLT : Hid (tg < w.heap.size ∧ jg < w.heap.size ∧ tg ≠ jg) := Lib.hid ⟨h.blk.lt, h.pj.lt, h.ne⟩
  have hnt1 : 0 ≠ tg := fun e => by
    have h0 := ht 0 (by omega)
    subst e
    rw [h.blk.cell 0] at h0
    cases h0
  have hnt2 : 0 ≠ jg := by
    obtain ⟨s, hB, _⟩ := h.pj.blk
    exact ht.off hB rfl
  have HNT := Lib.hid (And.intro hnt1 hnt2)
  have HSAME : Hid (∀ W, Chg (fun i => i = tg ∨ i = jg) w W → DAt W tg jg A0 c0 A1 c1 (.slice Ab j.recs.length cb) Kb j f (j.file : Int) → (kd = 1 → (⟨rk, body⟩ : Rc).ok = true → j.text.length + 8 + body.length ≤ 65536 → False) → DPl w tg jg j kd ⟨rk, body⟩ (.returned (.bool true)) W) := Lib.hid fun W hW hd hno => ⟨rfl, jg, j, f, ⟨A0, c0, A1, c1, _, Kb, hd, hk, hgood⟩, by omega, .inl rfl, hW, fun e e2 e3 => (hno e e2 e3).elim, Nat.le_add_right _ _⟩
  have k0 : w1.cell? ⟨w.heap.size, 0, none⟩ = some (.int .i64 kd) := hX1.cell 0
  have t0 : w1.cell? ⟨tg, 0, none⟩ = some (.pointer (some ⟨jg, 0, none⟩)) := (h.over hb1).blk.cell 0
  have t3 : w1.cell? ⟨tg, 3, none⟩ = some (.slice Ab j.recs.length cb) := (h.over hb1).blk.cell 3
  have HW1 := Lib.hid hw1
  clear h hk hgood hg hr hA ht hw1 hb1 hX1 hcb1 hcb2 hnt1 hnt2
  go_enter Tryd.func31, Tryd.ntmps31
  go_upto_region 3 with fail
  rw [← HW1.out]
  clear HW1
  go_upto_region 10 with (go_at_call 22; refine (Size_c HD1.out.pj).mono ?_; rintro _ _ ⟨rfl, rfl⟩)
  obtain ⟨wd, hwd⟩ : ∃ wd, wd = w1.drew := ⟨_, rfl⟩
  have hbd : Below w1.heap.size w1 wd := by rw [hwd]; exact below_drewN (Below.refl _ _) 1
  have HDD := Lib.hid (HD1.out.over hbd)
  have HXD := Lib.hid (HX1.out.over hbd)
  have HBD : Hid (Below w.heap.size w wd) := Lib.hid (Below.then HB1.out hbd)
  have HSD : Hid (w.heap.size < wd.heap.size) := Lib.hid HXD.out.lt
  have HSB : Hid (∀ W, Below wd.heap.size wd W → W.cell? ⟨tg, 0, none⟩ = some (.pointer (some ⟨jg, 0, none⟩)) ∧ W.cell? ⟨w.heap.size, 4, none⟩ = some (.int .i64 rk) ∧ W.cell? ⟨w.heap.size, 5, none⟩ = some (.slice A body.length cap)) := Lib.hid fun W hW => ⟨(HDD.out.over hW).blk.cell 0, (HXD.out.over hW).cell 4, (HXD.out.over hW).cell 5⟩
  have HWD := Lib.hid hwd
  clear hwd hbd
  refine wp_region_held_drew (S := fun W => W.cell? ⟨tg, 0, none⟩ = some (.pointer (some ⟨jg, 0, none⟩)) ∧ W.cell? ⟨w.heap.size, 4, none⟩ = some (.int .i64 rk) ∧ W.cell? ⟨w.heap.size, 5, none⟩ = some (.slice A body.length cap)) (by kernel_rfl) (by rw [← HWD.out]; exact HSB.out _ (Below.refl _ _)) (fun hsw => ?_)
  rw [← HWD.out] at hsw ⊢
  clear k0 t0 t3
  refine wpAnyH_take (i := 0) (oi := ?oi0wa) (v := ?v0wa) ?hi0wa (by kernel_rfl) (by kernel_rfl) (by kernel_rfl) ?hq0wa ?hy0wa (by assumption) ?rest0wa
  case hi0wa => (simp only [List.getElem?_toArray, List.getElem?_cons_zero]; rfl)
  case hy0wa => (refine Or.inl ⟨by rfl, ?_⟩; intro w hSw; (try dsimp only at hSw); go_simp; try with_reducible rfl)
  case hq0wa => exact fun _ _ _ h => h
  try simp only [Act.put, List.setIfInBounds_toArray, List.set_cons_zero, List.set_cons_succ]
  refine wpAnyH_take (i := 1) (oi := ?oi1wa) (v := ?v1wa) ?hi1wa (by kernel_rfl) (by kernel_rfl) (by kernel_rfl) ?hq1wa ?hy1wa (by assumption) ?rest1wa
  case hi1wa => (simp only [List.getElem?_toArray, List.getElem?_cons_zero, List.getElem?_cons_succ]; rfl)
  case hy1wa => (refine Or.inl ⟨by rfl, ?_⟩; intro w hSw; (try dsimp only at hSw); go_simp; try with_reducible rfl)
  case hq1wa => exact fun _ _ _ h => h
  try simp only [Act.put, List.setIfInBounds_toArray, List.set_cons_zero, List.set_cons_succ]
  refine wpAnyH_take (i := 2) (oi := ?oi2wa) (v := ?v2wa) ?hi2wa (by kernel_rfl) (by kernel_rfl) (by kernel_rfl) ?hq2wa ?hy2wa (by assumption) ?rest2wa
  case hi2wa => (simp only [List.getElem?_toArray, List.getElem?_cons_zero, List.getElem?_cons_succ]; rfl)
  case hy2wa => (refine Or.inl ⟨by rfl, ?_⟩; intro w hSw; (try dsimp only at hSw); go_simp; try with_reducible rfl)
  case hq2wa => exact fun _ _ _ h => h
  try simp only [Act.put, List.setIfInBounds_toArray, List.set_cons_zero, List.set_cons_succ]
  refine wpAnyH_take (i := 3) (oi := ?oi3wa) (v := ?v3wa) ?hi3wa (by kernel_rfl) (by kernel_rfl) (by kernel_rfl) ?hq3wa ?hy3wa (by assumption) ?rest3wa
  case hi3wa => (simp only [List.getElem?_toArray, List.getElem?_cons_zero, List.getElem?_cons_succ]; rfl)
  case hy3wa => (refine Or.inl ⟨by rfl, ?_⟩; intro w hSw; (try dsimp only at hSw); go_simp; try with_reducible rfl)
  case hq3wa => exact fun _ _ _ h => h
  try simp only [Act.put, List.setIfInBounds_toArray, List.set_cons_zero, List.set_cons_succ]
  refine wpAnyH_take (i := 4) (oi := ?oi4wa) (v := ?v4wa) ?hi4wa (by kernel_rfl) (by kernel_rfl) (by kernel_rfl) ?hq4wa ?hy4wa (by assumption) ?rest4wa
  case hi4wa => (simp only [List.getElem?_toArray, List.getElem?_cons_zero, List.getElem?_cons_succ]; rfl)
  case hy4wa => (refine Or.inl ⟨by rfl, ?_⟩; intro w hSw; (try dsimp only at hSw); go_simp; try with_reducible rfl)
  case hq4wa => exact fun _ _ _ h => h
  try simp only [Act.put, List.setIfInBounds_toArray, List.set_cons_zero, List.set_cons_succ]
  refine wpAnyH_take (i := 5) (oi := ?oi5wa) (v := ?v5wa) ?hi5wa (by kernel_rfl) (by kernel_rfl) (by kernel_rfl) ?hq5wa ?hy5wa (by assumption) ?rest5wa
  case hi5wa => (simp only [List.getElem?_toArray, List.getElem?_cons_zero, List.getElem?_cons_succ]; rfl)
  case hy5wa => (refine Or.inl ⟨by rfl, ?_⟩; intro w hSw; (try dsimp only at hSw); go_simp; try with_reducible rfl)
  case hq5wa => exact fun _ _ _ h => h
  try simp only [Act.put, List.setIfInBounds_toArray, List.set_cons_zero, List.set_cons_succ]
  refine wpAnyH_ready (rs := [6]) (by kernel_rfl) (by simp) ?_
  refine AllReadyH.cons (o := ?o6wb) ?ho6wb (fun K hK => ?st6wb) ?mo6wb
  case ho6wb => (simp only [List.getElem?_toArray, List.getElem?_cons_zero, List.getElem?_cons_succ]; rfl)
  case mo6wb => exact AllReadyH.nil
  have HCP := Lib.hid (copied_any rk A body.length cap body (HRR.out _ (Chg.of_below HBD.out _)) (by omega))
  go_simp
  refine HCP.out.mono ?_
  rintro _ w2 ⟨A2, q2, rfl, ho2, hb2⟩
  have H2 := Lib.hid (And.intro ho2 hb2)
  clear ho2 hb2 HCP
  have HD2 := Lib.hid (HDD.out.over H2.out.2)
  have HX2 := Lib.hid (HXD.out.over H2.out.2)
  have HB2 : Hid (Below w.heap.size w w2) := Lib.hid (HBD.out.trans (H2.out.2.mono HBD.out.size))
  have HN2 : Hid (Nibs w2) := Lib.hid (HT.out.below HB2.out)
  have HQ2 : Hid (body.length ≤ q2) := Lib.hid (by obtain ⟨_, _, e, h1, _⟩ := own_shape H2.out.1; injection e with _ _ e; omega)
  go_simp
  refine hK.out _ _ (HSB.out _ H2.out.2) (fun _ => ?_)
  clear hK K
  try simp only [Act.put, List.setIfInBounds_toArray, List.set_cons_zero, List.set_cons_succ]
  obtain ⟨x, HXA⟩ : ∃ x, Hid (j.append ⟨rk, body⟩ = x) := ⟨_, Lib.hid rfl⟩
  have HAP := Lib.hid (Append_any (w := w2) rk A2 body.length q2 body (HD2.out.pj) HG.out.fine.len (Rd.of_own H2.out.1) (by omega) HN2.out)
  rw [HXA.out] at HAP
  refine wpAnyH_ready (rs := [7]) (by kernel_rfl) (by simp) ?_
  refine AllReadyH.cons (o := ?o7wc) ?ho7wc (fun K hK => ?st7wc) ?mo7wc
  case ho7wc => (simp only [List.getElem?_toArray, List.getElem?_cons_zero, List.getElem?_cons_succ]; rfl)
  case mo7wc => exact AllReadyH.nil
  go_simp
  refine HAP.out.mono ?_
  rintro _ w3 ⟨va, rfl, hp3, ho3, hc3⟩
  obtain ⟨Aa, capa, rfl⟩ := ho3.shapeN
  have H3 := Lib.hid (And.intro hp3 (And.intro ho3 hc3))
  clear hp3 ho3 hc3 HAP
  have HD3 := Lib.hid (HD2.out.jour H3.out.2.2 H3.out.1)
  have HX3 : Hid (Blk w3 w.heap.size 57 #[.int .i64 kd, .int .i64 on, .int .i64 kn, .int .i64 ln, .int .i64 rk, .slice A body.length cap]) := Lib.hid (HX2.out.chg H3.out.2.2 fun e => by have := HLT.out; omega)
  have HC3 : Hid (Chg (fun i => i = tg ∨ i = jg) w w3) := Lib.hid ((Chg.of_below HB2.out _).trans (H3.out.2.2.mono fun k _ e => .inr e))
  go_simp
  refine hK.out _ _ ⟨HD3.out.blk.cell 0, HX3.out.cell 4, HX3.out.cell 5⟩ (fun _ => ?_)
  clear hK K hsw
  try simp only [Act.put, List.setIfInBounds_toArray, List.set_cons_zero, List.set_cons_succ]
  refine wpAnyH_take (i := 8) (oi := ?oi8we) (v := ?v8we) ?hi8we (by kernel_rfl) (by kernel_rfl) (by kernel_rfl) ?hq8we ?hy8we (by assumption) ?rest8we
  case hi8we => (simp only [List.getElem?_toArray, List.getElem?_cons_zero, List.getElem?_cons_succ]; rfl)
  case hy8we => (refine Or.inl ⟨by rfl, ?_⟩; intro w hSw; (try dsimp only at hSw); go_simp; try with_reducible rfl)
  case hq8we => exact fun _ _ _ h => h
  try simp only [Act.put, List.setIfInBounds_toArray, List.set_cons_zero, List.set_cons_succ]
  refine wpAnyH_take (i := 9) (oi := ?oi9we) (v := ?v9we) ?hi9we (by kernel_rfl) (by kernel_rfl) (by kernel_rfl) ?hq9we ?hy9we (by assumption) ?rest9we
  case hi9we => (simp only [List.getElem?_toArray, List.getElem?_cons_zero, List.getElem?_cons_succ]; rfl)
  case hy9we => (refine Or.inl ⟨by rfl, ?_⟩; intro w hSw; (try dsimp only at hSw); go_simp; try with_reducible rfl)
  case hq9we => exact fun _ _ _ h => h
  try simp only [Act.put, List.setIfInBounds_toArray, List.set_cons_zero, List.set_cons_succ]
  refine wpAnyH_take (i := 10) (oi := ?oi10we) (v := ?v10we) ?hi10we (by kernel_rfl) (by kernel_rfl) (by kernel_rfl) ?hq10we ?hy10we (by assumption) ?rest10we
  case hi10we => (simp only [List.getElem?_toArray, List.getElem?_cons_zero, List.getElem?_cons_succ]; rfl)
  case hy10we => (refine Or.inl ⟨by rfl, ?_⟩; intro w hSw; (try dsimp only at hSw); go_simp; try with_reducible rfl)
  case hq10we => exact fun _ _ _ h => h
  try simp only [Act.put, List.setIfInBounds_toArray, List.set_cons_zero, List.set_cons_succ]
  refine wpAnyH_take (i := 11) (oi := ?oi11we) (v := ?v11we) ?hi11we (by kernel_rfl) (by kernel_rfl) (by kernel_rfl) ?hq11we ?hy11we (by assumption) ?rest11we
  case hi11we => (simp only [List.getElem?_toArray, List.getElem?_cons_zero, List.getElem?_cons_succ]; rfl)
  case hy11we => (refine Or.inl ⟨by rfl, ?_⟩; intro w hSw; (try dsimp only at hSw); go_simp; try with_reducible rfl)
  case hq11we => exact fun _ _ _ h => h
  try simp only [Act.put, List.setIfInBounds_toArray, List.set_cons_zero, List.set_cons_succ]
  refine wpAnyH_take (i := 12) (oi := ?oi12we) (v := ?v12we) ?hi12we (by kernel_rfl) (by kernel_rfl) (by kernel_rfl) ?hq12we ?hy12we (by assumption) ?rest12we
  case hi12we => (simp only [List.getElem?_toArray, List.getElem?_cons_zero, List.getElem?_cons_succ]; rfl)
  case hy12we => (refine Or.inl ⟨by rfl, ?_⟩; intro w hSw; (try dsimp only at hSw); go_simp; try with_reducible rfl)
  case hq12we => exact fun _ _ _ h => h
  try simp only [Act.put, List.setIfInBounds_toArray, List.set_cons_zero, List.set_cons_succ]
  refine wpAnyH_done (by kernel_rfl) ?_ _
  go_upto_region 11 with fail
  have r4 : w3.cell? ⟨w.heap.size, 4, none⟩ = some (.int .i64 rk) := HX3.out.cell 4
  have r5 : w3.cell? ⟨w.heap.size, 5, none⟩ = some (.slice A body.length cap) := HX3.out.cell 5
  have HGD := Lib.hid (good_any rk A body.length cap w3 (by omega))
  by_cases hok : okB rk body.length = true
  · rw [hok] at HGD
    go_upto_region 13 with (go_at_call 64; refine HGD.out.mono ?_; rintro _ w4 ⟨rfl, hb4⟩; have H4 := Lib.hid hb4; clear hb4)
    have HOK := Lib.hid hok
    have HD4 := Lib.hid (HD3.out.over H4.out)
    have HX4 := Lib.hid (HX3.out.over H4.out)
    have HC4 : Hid (Chg (fun i => i = tg ∨ i = jg) w w4) := Lib.hid (HC3.out.trans (Chg.of_below H4.out _))
    have s5 : w4.cell? ⟨w.heap.size, 5, none⟩ = some (.slice A body.length cap) := HX4.out.cell 5
    have htl : j.text.length ≤ 65536 := HG.out.fine.len
    have hbl : body.length ≤ 4200 := by
      have h := HOK.out
      unfold okB at h
      simp at h
      exact h.2.2
    clear r4 r5 hok
    by_cases hfit : j.text.length + 8 + body.length ≤ 65536
    · have hfI : ¬ (65536 : Int) < ((j.text.length : Nat) : Int) + 8 + ((body.length : Nat) : Int) := by omega
      have HXV : Hid (x = (⟨j.file, j.gen, j.count, j.recs ++ [⟨rk, body⟩]⟩, [⟨(j.file : Int), false, frameB (last4 j.text) ⟨rk, body⟩⟩], 0)) := Lib.hid (by rw [← HXA.out]; unfold JP.append; rw [if_pos (show (⟨rk, body⟩ : Rc).ok = true from HOK.out), if_pos (show j.text.length + 8 + (⟨rk, body⟩ : Rc).body.length ≤ 65536 from hfit)])
      have HFIT := Lib.hid hfit
      clear hfit
      go_upto_region 15 with fail
      clear s5 hfI
      obtain ⟨i1, hi1, hr0, hr1, hr2⟩ := info_parts info_rec
      obtain ⟨we, hwe⟩ : ∃ we, we = w4.drew := ⟨_, rfl⟩
      have hbe : Below w4.heap.size w4 we := by rw [hwe]; exact below_drewN (Below.refl _ _) 1
      have HDE := Lib.hid (HD4.out.over hbe)
      have HXE := Lib.hid (HX4.out.over hbe)
      have HCE : Hid (Chg (fun i => i = tg ∨ i = jg) w we) := Lib.hid (HC4.out.trans (Chg.of_below hbe _))
      have HBE : Hid (Below w3.heap.size w3 we) := Lib.hid (Below.then H4.out hbe)
      have HSC : Hid (∀ W, Below we.heap.size we W → W.cell? ⟨tg, 3, none⟩ = some (.slice Ab j.recs.length cb) ∧ W.cell? ⟨w.heap.size, 4, none⟩ = some (.int .i64 rk) ∧ W.cell? ⟨w.heap.size, 5, none⟩ = some (.slice A body.length cap)) := Lib.hid fun W hW => ⟨(HDE.out.over hW).blk.cell 3, (HXE.out.over hW).cell 4, (HXE.out.over hW).cell 5⟩
      have hrl := recs_le HG.out
      have HLK : Hid (Kb.length = j.recs.length) := Lib.hid (by rw [← HK.out, List.length_map])
      have HWE := Lib.hid hwe
      clear hwe hbe
      refine wp_region_held_drew (S := fun W => W.cell? ⟨tg, 3, none⟩ = some (.slice Ab j.recs.length cb) ∧ W.cell? ⟨w.heap.size, 4, none⟩ = some (.int .i64 rk) ∧ W.cell? ⟨w.heap.size, 5, none⟩ = some (.slice A body.length cap)) (by kernel_rfl) (by rw [← HWE.out]; exact HSC.out _ (Below.refl _ _)) (fun hsw => ?_)
      rw [← HWE.out] at hsw ⊢
      refine wpAnyH_take (i := 1) (oi := ?oi1fa) (v := ?v1fa) ?hi1fa (by kernel_rfl) (by kernel_rfl) (by kernel_rfl) ?hq1fa ?hy1fa (by assumption) ?rest1fa
      case hi1fa => (simp only [List.getElem?_toArray, List.getElem?_cons_zero, List.getElem?_cons_succ]; rfl)
      case hy1fa => (refine Or.inl ⟨by rfl, ?_⟩; intro w hSw; (try dsimp only at hSw); go_simp; try with_reducible rfl)
      case hq1fa => exact fun _ _ _ h => h
      try simp only [Act.put, List.setIfInBounds_toArray, List.set_cons_zero, List.set_cons_succ]
      refine wpAnyH_take (i := 2) (oi := ?oi2fa) (v := ?v2fa) ?hi2fa (by kernel_rfl) (by kernel_rfl) (by kernel_rfl) ?hq2fa ?hy2fa (by assumption) ?rest2fa
      case hi2fa => (simp only [List.getElem?_toArray, List.getElem?_cons_zero, List.getElem?_cons_succ]; rfl)
      case hy2fa => (refine Or.inl ⟨by rfl, ?_⟩; intro w hSw; (try dsimp only at hSw); go_simp; try with_reducible rfl)
      case hq2fa => exact fun _ _ _ h => h
      try simp only [Act.put, List.setIfInBounds_toArray, List.set_cons_zero, List.set_cons_succ]
      refine wpAnyH_take (i := 3) (oi := ?oi3fa) (v := ?v3fa) ?hi3fa (by kernel_rfl) (by kernel_rfl) (by kernel_rfl) ?hq3fa ?hy3fa (by assumption) ?rest3fa
      case hi3fa => (simp only [List.getElem?_toArray, List.getElem?_cons_zero, List.getElem?_cons_succ]; rfl)
      case hy3fa => (refine Or.inl ⟨by rfl, ?_⟩; intro w hSw; (try dsimp only at hSw); go_simp; try with_reducible rfl)
      case hq3fa => exact fun _ _ _ h => h
      try simp only [Act.put, List.setIfInBounds_toArray, List.set_cons_zero, List.set_cons_succ]
      refine wpAnyH_take (i := 4) (oi := ?oi4fa) (v := ?v4fa) ?hi4fa (by kernel_rfl) (by kernel_rfl) (by kernel_rfl) ?hq4fa ?hy4fa (by assumption) ?rest4fa
      case hi4fa => (simp only [List.getElem?_toArray, List.getElem?_cons_zero, List.getElem?_cons_succ]; rfl)
      case hy4fa => (refine Or.inl ⟨by rfl, ?_⟩; intro w hSw; (try dsimp only at hSw); go_simp; try with_reducible rfl)
      case hq4fa => exact fun _ _ _ h => h
      try simp only [Act.put, List.setIfInBounds_toArray, List.set_cons_zero, List.set_cons_succ]
      refine wpAnyH_take (i := 6) (oi := ?oi6fa) (v := ?v6fa) ?hi6fa (by kernel_rfl) (by kernel_rfl) (by kernel_rfl) ?hq6fa ?hy6fa (by assumption) ?rest6fa
      case hi6fa => (simp only [List.getElem?_toArray, List.getElem?_cons_zero, List.getElem?_cons_succ]; rfl)
      case hy6fa => (refine Or.inl ⟨by rfl, ?_⟩; intro w hSw; (try dsimp only at hSw); go_simp; try with_reducible rfl)
      case hq6fa => exact fun _ _ _ h => h
      try simp only [Act.put, List.setIfInBounds_toArray, List.set_cons_zero, List.set_cons_succ]
      refine wpAnyH_take (i := 7) (oi := ?oi7fa) (v := ?v7fa) ?hi7fa (by kernel_rfl) (by kernel_rfl) (by kernel_rfl) ?hq7fa ?hy7fa (by assumption) ?rest7fa
      case hi7fa => (simp only [List.getElem?_toArray, List.getElem?_cons_zero, List.getElem?_cons_succ]; rfl)
      case hy7fa => (refine Or.inl ⟨by rfl, ?_⟩; intro w hSw; (try dsimp only at hSw); go_simp; try with_reducible rfl)
      case hq7fa => exact fun _ _ _ h => h
      try simp only [Act.put, List.setIfInBounds_toArray, List.set_cons_zero, List.set_cons_succ]
      refine wpAnyH_ready (rs := [0]) (by kernel_rfl) (by simp) ?_
      refine AllReadyH.cons (o := ?o0fb) ?ho0fb (fun K hK => ?st0fb) ?mo0fb
      case ho0fb => (simp only [List.getElem?_toArray, List.getElem?_cons_zero]; rfl)
      case mo0fb => exact AllReadyH.nil
      obtain ⟨we1, hw4⟩ : ∃ x, x = we.alloc (.cells #[] 34) := ⟨_, rfl⟩
      have hb4 : Below we.heap.size we we1 := by rw [hw4]; exact one_box' _ _
      have ho4 : we1.ownsRow we.heap.size 34 2 (.slice (some ⟨we.heap.size, 0, none⟩) 0 0) 0 [] := by rw [hw4]; exact own_bare _ _ (Nat.le_refl _)
      have HE1 := Lib.hid (And.intro hb4 ho4)
      have HRD := Lib.hid ((HDE.out.over hb4).bk.rowsN HK.out)
      have HON := Lib.hid HDE.out.bk.one
      go_simp
      rw [← hw4]
      clear hw4 hb4 ho4
      refine hK.out _ _ (HSC.out _ HE1.out.1) (fun _ => ?_)
      clear hK K
      try simp only [Act.put, List.setIfInBounds_toArray, List.set_cons_zero, List.set_cons_succ]
      refine wpAnyH_ready (rs := [5]) (by kernel_rfl) (by simp) ?_
      refine AllReadyH.cons (o := ?o5fc) ?ho5fc (fun K hK => ?st5fc) ?mo5fc
      case ho5fc => (simp only [List.getElem?_toArray, List.getElem?_cons_zero, List.getElem?_cons_succ]; rfl)
      case mo5fc => exact AllReadyH.nil
      refine step_append_any _ (by rfl) _ _ 25 (by rfl) we.heap.size 34 i1 _ 2 32 u_recs hi1 hr0 hr1 hr2 rfl (by omega) _ 0 [] (by rfl) HE1.out.2 we1.heap.size Ab j.recs.length cb (rowsK Kb) (by rfl) HRD.out HON.out (by simp only [maxLen]; omega) (by omega) HE1.out.1.size ?_
      intro v5 we2 ho5 hg5 _
      rw [Nat.zero_add, List.nil_append] at ho5
      obtain ⟨A5, c5, rfl, _, _⟩ := own_shape ho5
      have HE2 := Lib.hid (And.intro ho5 (HE1.out.1.trans (below_app HE1.out.2 hg5 HE1.out.1.size)))
      clear ho5 hg5
      refine hK.out _ _ (HSC.out _ HE2.out.2) (fun _ => ?_)
      clear hK K
      try simp only [Act.put, List.setIfInBounds_toArray, List.set_cons_zero, List.set_cons_succ]
      refine wpAnyH_ready (rs := [8]) (by kernel_rfl) (by simp) ?_
      refine AllReadyH.cons (o := ?o8fd) ?ho8fd (fun K hK => ?st8fd) ?mo8fd
      case ho8fd => (simp only [List.getElem?_toArray, List.getElem?_cons_zero, List.getElem?_cons_succ]; rfl)
      case mo8fd => exact AllReadyH.nil
      have HCP2 := Lib.hid (copied_any rk A body.length cap body (HRR.out _ (HCE.out.trans ((Chg.of_below HE2.out.2 _)))) (by omega))
      go_simp
      refine HCP2.out.mono ?_
      rintro _ we3 ⟨A6, c6, rfl, ho6, hb6⟩
      have HE3 := Lib.hid (And.intro ho6 hb6)
      have HE3B : Hid (Below we.heap.size we we3) := Lib.hid (Below.then HE2.out.2 hb6)
      have HE3O : Hid (we3.ownsRow we.heap.size 34 2 (.slice A5 j.recs.length c5) j.recs.length (rowsK Kb)) := Lib.hid (own_over HE2.out.1 hb6)
      clear ho6 hb6 HCP2
      go_simp
      refine hK.out _ _ (HSC.out _ HE3B.out) (fun _ => ?_)
      clear hK K
      try simp only [Act.put, List.setIfInBounds_toArray, List.set_cons_zero, List.set_cons_succ]
      refine wpAnyH_ready (rs := [9]) (by kernel_rfl) (by simp) ?_
      refine AllReadyH.cons (o := ?o9fe) ?ho9fe (fun K hK => ?st9fe) ?mo9fe
      case ho9fe => (simp only [List.getElem?_toArray, List.getElem?_cons_zero, List.getElem?_cons_succ]; rfl)
      case mo9fe => exact AllReadyH.nil
      have hbA : Below we.heap.size we (we3.alloc (.cells #[.int .i64 rk, .slice A6 body.length c6] 34)) := Below.then HE3B.out (one_box' _ _)
      go_simp
      refine hK.out _ _ (HSC.out _ hbA) (fun _ => ?_)
      clear hK K hbA
      try simp only [Act.put, List.setIfInBounds_toArray, List.set_cons_zero, List.set_cons_succ]
      refine wpAnyH_ready (rs := [10]) (by kernel_rfl) (by simp) ?_
      refine AllReadyH.cons (o := ?o10ff) ?ho10ff (fun K hK => ?st10ff) ?mo10ff
      case ho10ff => (simp only [List.getElem?_toArray, List.getElem?_cons_zero, List.getElem?_cons_succ]; rfl)
      case mo10ff => exact AllReadyH.nil
      refine step_appN we3 (by rfl) _ _ 25 (by rfl) we.heap.size 34 i1 _ 2 32 u_recs hi1 hr0 hr1 hr2 rfl (by omega) _ j.recs.length _ (by rfl) HE3O.out #[.int .i64 rk, .slice A6 body.length c6] rfl (by rfl) (by simp; exact ⟨rfl, rfl⟩) (by simp only [maxLen]; omega) (by omega) HE3B.out.size ?_
      intro v8 w8 ho8 hb8 hg8 _
      obtain ⟨A8, c8, rfl, _, _⟩ := own_shape ho8
      have HB8 : Hid (Below we.heap.size we w8) := Lib.hid (HE3B.out.trans (hb8.mono (Nat.le_refl _)))
      have HR8 : Hid (RcB w8 (fun g => g = tg ∨ g = jg) (.slice A8 (j.recs.length + 1) c8) (Kb ++ [⟨⟨rk, body⟩, .slice A6 body.length c6⟩])) := Lib.hid (by
        have h6 : w8.ownsRow we.heap.size 5 1 (.slice A6 body.length c6) body.length (bvs body) := own_base (own_chg HE3.out.1 (Chg.of_grown hg8) fun g hg e => by
          exact absurd ((own_isT HE3.out.1 hg).eq_ (own_isT HE3O.out e.symm)) (by decide)) HE2.out.2.size
        exact HDE.out.bk.snoc (x := ⟨⟨rk, body⟩, .slice A6 body.length c6⟩) HB8.out (Nat.le_refl _) (fun g hg => by have := HCE.out.size; have := HLT.out; rcases hg with e | e <;> omega) (by rw [HLK.out]; exact ho8) rfl h6)
      clear ho8 hb8 hg8
      refine hK.out _ _ (HSC.out _ HB8.out) (fun _ => ?_)
      clear hK K hsw
      try simp only [Act.put, List.setIfInBounds_toArray, List.set_cons_zero, List.set_cons_succ]
      refine wpAnyH_take (i := 11) (oi := ?oi11fg) (v := ?v11fg) ?hi11fg (by kernel_rfl) (by kernel_rfl) (by kernel_rfl) ?hq11fg ?hy11fg (by assumption) ?rest11fg
      case hi11fg => (simp only [List.getElem?_toArray, List.getElem?_cons_zero, List.getElem?_cons_succ]; rfl)
      case hy11fg => (refine Or.inl ⟨by rfl, ?_⟩; intro w hSw; (try dsimp only at hSw); go_simp; try with_reducible rfl)
      case hq11fg => exact fun _ _ _ h => h
      try simp only [Act.put, List.setIfInBounds_toArray, List.set_cons_zero, List.set_cons_succ]
      refine wpAnyH_done (by kernel_rfl) ?_ _
      have HM8 : Hid ((Kb ++ [(⟨⟨rk, body⟩, .slice A6 body.length c6⟩ : Rk)]).map Rk.rc = x.1.recs) := Lib.hid (by rw [HXV.out, List.map_append, HK.out]; rfl)
      have HWR : Hid (Writes j f x.1 x.2.1) := Lib.hid (by rw [HXV.out]; exact append_writes HG.out HOK.out HFIT.out)
      have HX20 : Hid (x.2.2 = 0) := Lib.hid (by rw [HXV.out])
      have HXR : Hid (x.1.recs = j.recs ++ [⟨rk, body⟩]) := Lib.hid (by rw [HXV.out])
      have HBX : Hid (bodies x.1.recs ≤ bodies j.recs + (8 + body.length)) := Lib.hid (by rw [HXR.out, bodies_snoc]; exact Nat.le_refl _)
      have HB38 : Hid (Below w3.heap.size w3 w8) := Lib.hid (Below.then HBE.out HB8.out)
      clear HXV HXA HE1 HE2 HE3 HE3B HE3O HRD HON HSC HWE hrl
      have HC8 : Hid (Chg (fun i => i = tg ∨ i = jg) w w8) := Lib.hid (HC3.out.trans (Chg.of_below HB38.out _))
      have HD8 := Lib.hid (HD3.out.over HB38.out)
      have HX8 := Lib.hid (HX3.out.over HB38.out)
      have HO8 : Hid (WOut w8 0 (.slice Aa x.2.1.length capa) x.2.1) := Lib.hid ((H3.out.2.1.below HB38.out).mono (Nat.zero_le _))
      rw [HX20.out]
      have HCO := Lib.hid (PCost_any (w := w8) Aa _ capa _ HO8.out.wsN (by have := HWR.out.cost; omega) (by have := HO8.out.few; omega))
      go_upto_region 27 with (go_at_call 36; refine HCO.out.mono ?_; rintro _ w9 ⟨rfl, hb9⟩; have H9 := Lib.hid hb9; clear hb9)
      have HD9 := Lib.hid (HD8.out.over H9.out)
      have HX9 := Lib.hid (HX8.out.over H9.out)
      have HO9 := Lib.hid (HO8.out.below H9.out)
      have HR9 := Lib.hid (HR8.out.over H9.out)
      have HC9 : Hid (Chg (fun i => i = tg ∨ i = jg) w w9) := Lib.hid (HC8.out.trans (Chg.of_below H9.out _))
      have r0 : w9.cell? ⟨w.heap.size, 0, none⟩ = some (.int .i64 kd) := HX9.out.cell 0
      have r2 : w9.cell? ⟨w.heap.size, 2, none⟩ = some (.int .i64 kn) := HX9.out.cell 2
      clear HCO
      by_cases hk0 : kn < 0
      · have d1 : decide (kn < 0) = true := by simpa using hk0
        have HMK := Lib.hid (dmakes_any (cap := capa) HD9.out HO9.out (by have := HWR.out.cost; omega) (by have := HG.out.half.la; omega) (-1))
        go_upto_region 29 with (go_at_call 63; refine HMK.out.mono ?_; rintro _ wa ⟨rfl, ⟨C0, g0, C1, g1, hpa⟩, hca⟩; have HA := Lib.hid (And.intro hpa hca); clear hpa hca)
        have HXA' : Hid (Blk wa w.heap.size 57 #[.int .i64 kd, .int .i64 on, .int .i64 kn, .int .i64 ln, .int .i64 rk, .slice A body.length cap]) := Lib.hid (HX9.out.chg HA.out.2 fun e => by have := HLT.out; omega)
        have z3 : wa.cell? ⟨tg, 3, none⟩ = some (.slice Ab j.recs.length cb) := HA.out.1.blk.cell 3
        have zf := HA.out.1.blk.frozen 3
        have HBK := Lib.hid (HA.out.1.book (HR9.out.chg HA.out.2 fun k _ e => .inl e))
        go_upto_region 30 with fail
        generalize wa.setCell ⟨tg, 3, none⟩ (.slice A8 (j.recs.length + 1) c8) = wb at HBK ⊢
        clear z3 zf r0 r2
        have HXB : Hid (Blk wb w.heap.size 57 #[.int .i64 kd, .int .i64 on, .int .i64 kn, .int .i64 ln, .int .i64 rk, .slice A body.length cap]) := Lib.hid (HXA'.out.chg HBK.out.2 fun e => by have := HLT.out; omega)
        have HCB : Hid (Chg (fun i => i = tg ∨ i = jg) w wb) := Lib.hid (HC9.out.trans ((HA.out.2.trans HBK.out.2).mono fun k _ e => .inl e))
        have hdk := HBK.out.1
        rw [HWR.out.last] at hdk
        have HDK := Lib.hid hdk
        have HGO := Lib.hid (HWR.out.full (-1) (.inl (by omega)))
        have s0 : wb.cell? ⟨w.heap.size, 0, none⟩ = some (.int .i64 kd) := HXB.out.cell 0
        have s3 : wb.cell? ⟨w.heap.size, 3, none⟩ = some (.int .i64 ln) := HXB.out.cell 3
        clear hdk
        have HRE := Lib.hid (reopened_any (x := x.1.fi) ln HDK.out HGO.out.half HM8.out (by have := HWR.out.gen; have := HGN.out; show x.1.gen ≤ _; omega) (.inl rfl) (desk_nib HT.out HNT.out HCB.out))
        go_wp2_with (go_at_call 65; refine HRE.out.mono ?_; rintro _ wf ⟨rfl, jg3, j3, f3, hd3, hr3, hg3, hj3, hc3⟩; have HF := Lib.hid (And.intro hd3 (And.intro hr3 (And.intro hg3 (And.intro hj3 hc3)))); clear hd3 hr3 hg3 hj3 hc3)
        go_ret
        have hgf : x.1.fi.gen = x.1.gen := rfl
        exact ⟨rfl, jg3, j3, f3, HF.out.1, by have := HWR.out.gen; have := HF.out.2.2.1; omega, .inr (Nat.le_trans HCB.out.size HF.out.2.2.2.1), HCB.out.trans (HF.out.2.2.2.2.mono fun k _ e => .inl e), (fun e _ _ => by rw [e] at b1; exact absurd b1 (by decide)), by rw [HF.out.2.1]; exact HBX.out⟩
      · have d1 : decide (kn < 0) = false := by simpa using hk0
        by_cases hk1 : ((costW x.2.1 : Nat) : Int) ≤ kn
        · have d2 : decide (((costW x.2.1 : Nat) : Int) ≤ kn) = true := by simpa using hk1
          have HMK := Lib.hid (dmakes_any (cap := capa) HD9.out HO9.out (by have := HWR.out.cost; omega) (by have := HG.out.half.la; omega) (-1))
          go_upto_region 29 with (go_at_call 63; refine HMK.out.mono ?_; rintro _ wa ⟨rfl, ⟨C0, g0, C1, g1, hpa⟩, hca⟩; have HA := Lib.hid (And.intro hpa hca); clear hpa hca)
          have HXA' : Hid (Blk wa w.heap.size 57 #[.int .i64 kd, .int .i64 on, .int .i64 kn, .int .i64 ln, .int .i64 rk, .slice A body.length cap]) := Lib.hid (HX9.out.chg HA.out.2 fun e => by have := HLT.out; omega)
          have z3 : wa.cell? ⟨tg, 3, none⟩ = some (.slice Ab j.recs.length cb) := HA.out.1.blk.cell 3
          have zf := HA.out.1.blk.frozen 3
          have HBK := Lib.hid (HA.out.1.book (HR9.out.chg HA.out.2 fun k _ e => .inl e))
          go_upto_region 30 with fail
          generalize wa.setCell ⟨tg, 3, none⟩ (.slice A8 (j.recs.length + 1) c8) = wb at HBK ⊢
          clear z3 zf r0 r2
          have HXB : Hid (Blk wb w.heap.size 57 #[.int .i64 kd, .int .i64 on, .int .i64 kn, .int .i64 ln, .int .i64 rk, .slice A body.length cap]) := Lib.hid (HXA'.out.chg HBK.out.2 fun e => by have := HLT.out; omega)
          have HCB : Hid (Chg (fun i => i = tg ∨ i = jg) w wb) := Lib.hid (HC9.out.trans ((HA.out.2.trans HBK.out.2).mono fun k _ e => .inl e))
          have hdk := HBK.out.1
          rw [HWR.out.last] at hdk
          have HDK := Lib.hid hdk
          have HGO := Lib.hid (HWR.out.full (-1) (.inl (by omega)))
          have s0 : wb.cell? ⟨w.heap.size, 0, none⟩ = some (.int .i64 kd) := HXB.out.cell 0
          have s3 : wb.cell? ⟨w.heap.size, 3, none⟩ = some (.int .i64 ln) := HXB.out.cell 3
          clear hdk
          have HRE := Lib.hid (reopened_any (x := x.1.fi) ln HDK.out HGO.out.half HM8.out (by have := HWR.out.gen; have := HGN.out; show x.1.gen ≤ _; omega) (.inl rfl) (desk_nib HT.out HNT.out HCB.out))
          go_wp2_with (go_at_call 65; refine HRE.out.mono ?_; rintro _ wf ⟨rfl, jg3, j3, f3, hd3, hr3, hg3, hj3, hc3⟩; have HF := Lib.hid (And.intro hd3 (And.intro hr3 (And.intro hg3 (And.intro hj3 hc3)))); clear hd3 hr3 hg3 hj3 hc3)
          go_ret
          have hgf : x.1.fi.gen = x.1.gen := rfl
          exact ⟨rfl, jg3, j3, f3, HF.out.1, by have := HWR.out.gen; have := HF.out.2.2.1; omega, .inr (Nat.le_trans HCB.out.size HF.out.2.2.2.1), HCB.out.trans (HF.out.2.2.2.2.mono fun k _ e => .inl e), (fun e _ _ => by rw [e] at b1; exact absurd b1 (by decide)), by rw [HF.out.2.1]; exact HBX.out⟩
        · have d2 : decide (((costW x.2.1 : Nat) : Int) ≤ kn) = false := by simpa using hk1
          have HTN : Hid (0 ≤ kn ∧ kn < ((costW x.2.1 : Nat) : Int)) := Lib.hid (by omega)
          clear hk0 hk1
          have HMK := Lib.hid (dmakes_any (cap := capa) HD9.out HO9.out (by have := HWR.out.cost; omega) (by have := HG.out.half.la; omega) kn)
          go_upto_region 32 with (go_at_call 63; refine HMK.out.mono ?_; rintro _ wa ⟨rfl, ⟨C0, g0, C1, g1, hpa⟩, hca⟩; have HA := Lib.hid (And.intro hpa hca); clear hpa hca)
          have HXA' : Hid (Blk wa w.heap.size 57 #[.int .i64 kd, .int .i64 on, .int .i64 kn, .int .i64 ln, .int .i64 rk, .slice A body.length cap]) := Lib.hid (HX9.out.chg HA.out.2 fun e => by have := HLT.out; omega)
          have z3 : wa.cell? ⟨tg, 3, none⟩ = some (.slice Ab j.recs.length cb) := HA.out.1.blk.cell 3
          have zf := HA.out.1.blk.frozen 3
          have HBK := Lib.hid (HA.out.1.book (HD9.out.bk.chg HA.out.2 fun k _ e => .inl e))
          go_upto_region 33 with fail
          generalize wa.setCell ⟨tg, 3, none⟩ (.slice Ab j.recs.length cb) = wb at HBK ⊢
          clear z3 zf r0 r2
          have HXB : Hid (Blk wb w.heap.size 57 #[.int .i64 kd, .int .i64 on, .int .i64 kn, .int .i64 ln, .int .i64 rk, .slice A body.length cap]) := Lib.hid (HXA'.out.chg HBK.out.2 fun e => by have := HLT.out; omega)
          have HCB : Hid (Chg (fun i => i = tg ∨ i = jg) w wb) := Lib.hid (HC9.out.trans ((HA.out.2.trans HBK.out.2).mono fun k _ e => .inl e))
          have s3 : wb.cell? ⟨w.heap.size, 3, none⟩ = some (.int .i64 ln) := HXB.out.cell 3
          have HHF := Lib.hid (HWR.out.torn kn HTN.out.1 HTN.out.2)
          have HRE := Lib.hid (reopened_any (x := j.fi) ln HBK.out.1 HHF.out HK.out (by have := HGN.out; show j.gen ≤ _; omega) HWR.out.side (desk_nib HT.out HNT.out HCB.out))
          go_wp2_with (go_at_call 65; refine HRE.out.mono ?_; rintro _ wf ⟨rfl, jg3, j3, f3, hd3, hr3, hg3, hj3, hc3⟩; have HF := Lib.hid (And.intro hd3 (And.intro hr3 (And.intro hg3 (And.intro hj3 hc3)))); clear hd3 hr3 hg3 hj3 hc3)
          go_ret
          have hgf : j.fi.gen = j.gen := rfl
          exact ⟨rfl, jg3, j3, f3, HF.out.1, by have := HF.out.2.2.1; omega, .inr (Nat.le_trans HCB.out.size HF.out.2.2.2.1), HCB.out.trans (HF.out.2.2.2.2.mono fun k _ e => .inl e), (fun e _ _ => by rw [e] at b1; exact absurd b1 (by decide)), by rw [HF.out.2.1]; exact Nat.le_add_right _ _⟩
    · have hfI : (65536 : Int) < ((j.text.length : Nat) : Int) + 8 + ((body.length : Nat) : Int) := by omega
      have HXV : Hid (x = (j, [], 17)) := Lib.hid (by rw [← HXA.out]; unfold JP.append; rw [if_pos (show (⟨rk, body⟩ : Rc).ok = true from HOK.out), if_neg (show ¬ j.text.length + 8 + (⟨rk, body⟩ : Rc).body.length ≤ 65536 from hfit)])
      have HNF := Lib.hid hfit
      clear hfit
      rw [HXV.out] at HD4 ⊢
      dsimp only [List.length_nil]
      go_wp2_with fail
      go_ret
      exact HSAME.out _ HC4.out HD4.out (fun _ _ h => HNF.out h)
  · have hok2 : okB rk body.length = false := by simpa using hok
    rw [hok2] at HGD
    have HXV : Hid (x = (j, [], 121)) := Lib.hid (by rw [← HXA.out]; unfold JP.append; rw [if_neg (show ¬ (⟨rk, body⟩ : Rc).ok = true from hok)])
    have HNO := Lib.hid hok2
    clear hok hok2
    rw [HXV.out] at HD3 ⊢
    dsimp only [List.length_nil]
    go_wp2_with (go_at_call 64; refine HGD.out.mono ?_; rintro _ w4 ⟨rfl, hb4⟩; have H4 := Lib.hid hb4; clear hb4)
    go_ret
    exact HSAME.out _ (HC3.out.trans (Chg.of_below H4.out _)) (HD3.out.over H4.out) (fun _ h _ => by have h2 := HNO.out; have h3 : okB rk body.length = true := h; rw [h2] at h3; cases h3)
set_option maxRecDepth 100000 in
set_option maxHeartbeats 6400000 in
theorem dplays_2 {w : World} {tg jg : Nat} {j : JP} {f : Fls} (kd on kn ln rk : Int) (A : Option Addr) (cap : Nat) (body : List UInt8) (b1 : (kd == 1) = false) (b6 : (kd == 6) = false) (b2 : (kd == 2) = true) (h : Desk w tg jg j f) (hg : j.gen ≤ 1125899906842000) (hr : RdB w w.heap.size A body.length body) (hA : 0 < body.length → ∀ b o s, A = some ⟨b, o, s⟩ → b ≠ tg ∧ b ≠ jg)
    (hn : body.length ≤ 140737488351232) (_hkn : kn ≤ 9223372036854775807) (ht : Nibs w) : Calls Tryd.prog 31 #[.pointer (some ⟨tg, 0, none⟩), .agg #[.int .i64 kd, .int .i64 on, .int .i64 kn, .int .i64 ln, .int .i64 rk, .slice A body.length cap]] w (DPl w tg jg j kd ⟨rk, body⟩) := by
  obtain ⟨A0, c0, A1, c1, vb, Kb, h, hk, hgood⟩ := h
  obtain ⟨Ab, cb, rfl, hcb1, hcb2⟩ := h.bk.shape hk
  obtain ⟨w1, hw1⟩ : ∃ w1, w1 = w.alloc (.cells #[.int .i64 kd, .int .i64 on, .int .i64 kn, .int .i64 ln, .int .i64 rk, .slice A body.length cap] 57) := ⟨_, rfl⟩
  have hb1 : Below w.heap.size w w1 := by rw [hw1]; exact one_box' _ _
  have hX1 : Blk w1 w.heap.size 57 #[.int .i64 kd, .int .i64 on, .int .i64 kn, .int .i64 ln, .int .i64 rk, .slice A body.length cap] := by rw [hw1]; exact Blk.new _ _ _
  have HD := Lib.hid h
  have HD1 := Lib.hid (h.over hb1)
  have HX1 := Lib.hid hX1
  have HB1 := Lib.hid hb1
  have HK := Lib.hid hk
  have HG := Lib.hid hgood
  have HGN := Lib.hid hg
  have HT := Lib.hid ht
  have HRR : Hid (∀ W, Chg (fun i => i = tg ∨ i = jg) w W → RdB W W.heap.size A body.length body) := Lib.hid fun W hW => (hr.chgF hW (Nat.le_refl _) fun h0 b o s e hs => by
    have h1 := hA h0 b o s e
    exact hs.elim h1.1 h1.2).more hW.size
  have HLT : Hid (tg < w.heap.size ∧ jg < w.heap.size ∧ tg ≠ jg) := Lib.hid ⟨h.blk.lt, h.pj.lt, h.ne⟩
  have hnt1 : 0 ≠ tg := fun e => by
    have h0 := ht 0 (by omega)
    subst e
    rw [h.blk.cell 0] at h0
    cases h0
  have hnt2 : 0 ≠ jg := by
    obtain ⟨s, hB, _⟩ := h.pj.blk
    exact ht.off hB rfl
  have HNT := Lib.hid (And.intro hnt1 hnt2)
  have HSAME : Hid (∀ W, Chg (fun i => i = tg ∨ i = jg) w W → DAt W tg jg A0 c0 A1 c1 (.slice Ab j.recs.length cb) Kb j f (j.file : Int) → (kd = 1 → (⟨rk, body⟩ : Rc).ok = true → j.text.length + 8 + body.length ≤ 65536 → False) → DPl w tg jg j kd ⟨rk, body⟩ (.returned (.bool true)) W) := Lib.hid fun W hW hd hno => ⟨rfl, jg, j, f, ⟨A0, c0, A1, c1, _, Kb, hd, hk, hgood⟩, by omega, .inl rfl, hW, fun e e2 e3 => (hno e e2 e3).elim, Nat.le_add_right _ _⟩
  have k0 : w1.cell? ⟨w.heap.size, 0, none⟩ = some (.int .i64 kd) := hX1.cell 0
  have t0 : w1.cell? ⟨tg, 0, none⟩ = some (.pointer (some ⟨jg, 0, none⟩)) := (h.over hb1).blk.cell 0
  have t3 : w1.cell? ⟨tg, 3, none⟩ = some (.slice Ab j.recs.length cb) := (h.over hb1).blk.cell 3
  have HW1 := Lib.hid hw1
  clear h hk hgood hg hr hA ht hw1 hb1 hX1 hcb1 hcb2 hnt1 hnt2
  go_enter Tryd.func31, Tryd.ntmps31
  go_upto_region 3 with fail
  rw [← HW1.out]
  clear HW1
  go_upto_region 18 with fail
  obtain ⟨wd, hwd⟩ : ∃ wd, wd = w1.drew := ⟨_, rfl⟩
  have hbd : Below w1.heap.size w1 wd := by rw [hwd]; exact below_drewN (Below.refl _ _) 1
  have HDD := Lib.hid (HD1.out.over hbd)
  have HXD := Lib.hid (HX1.out.over hbd)
  have HBD : Hid (Below w.heap.size w wd) := Lib.hid (Below.then HB1.out hbd)
  have HSD : Hid (w.heap.size < wd.heap.size) := Lib.hid HXD.out.lt
  have HSB : Hid (∀ W, Below wd.heap.size wd W → W.cell? ⟨tg, 0, none⟩ = some (.pointer (some ⟨jg, 0, none⟩)) ∧ W.cell? ⟨w.heap.size, 4, none⟩ = some (.int .i64 rk) ∧ W.cell? ⟨w.heap.size, 5, none⟩ = some (.slice A body.length cap)) := Lib.hid fun W hW => ⟨(HDD.out.over hW).blk.cell 0, (HXD.out.over hW).cell 4, (HXD.out.over hW).cell 5⟩
  have HWD := Lib.hid hwd
  clear hwd hbd
  refine wp_region_held_drew (S := fun W => W.cell? ⟨tg, 0, none⟩ = some (.pointer (some ⟨jg, 0, none⟩)) ∧ W.cell? ⟨w.heap.size, 4, none⟩ = some (.int .i64 rk) ∧ W.cell? ⟨w.heap.size, 5, none⟩ = some (.slice A body.length cap)) (by kernel_rfl) (by rw [← HWD.out]; exact HSB.out _ (Below.refl _ _)) (fun hsw => ?_)
  rw [← HWD.out] at hsw ⊢
  clear k0 t0 t3
  refine wpAnyH_take (i := 0) (oi := ?oi0wa) (v := ?v0wa) ?hi0wa (by kernel_rfl) (by kernel_rfl) (by kernel_rfl) ?hq0wa ?hy0wa (by assumption) ?rest0wa
  case hi0wa => (simp only [List.getElem?_toArray, List.getElem?_cons_zero]; rfl)
  case hy0wa => (refine Or.inl ⟨by rfl, ?_⟩; intro w hSw; (try dsimp only at hSw); go_simp; try with_reducible rfl)
  case hq0wa => exact fun _ _ _ h => h
  try simp only [Act.put, List.setIfInBounds_toArray, List.set_cons_zero, List.set_cons_succ]
  refine wpAnyH_take (i := 1) (oi := ?oi1wa) (v := ?v1wa) ?hi1wa (by kernel_rfl) (by kernel_rfl) (by kernel_rfl) ?hq1wa ?hy1wa (by assumption) ?rest1wa
  case hi1wa => (simp only [List.getElem?_toArray, List.getElem?_cons_zero, List.getElem?_cons_succ]; rfl)
  case hy1wa => (refine Or.inl ⟨by rfl, ?_⟩; intro w hSw; (try dsimp only at hSw); go_simp; try with_reducible rfl)
  case hq1wa => exact fun _ _ _ h => h
  try simp only [Act.put, List.setIfInBounds_toArray, List.set_cons_zero, List.set_cons_succ]
  refine wpAnyH_take (i := 2) (oi := ?oi2wa) (v := ?v2wa) ?hi2wa (by kernel_rfl) (by kernel_rfl) (by kernel_rfl) ?hq2wa ?hy2wa (by assumption) ?rest2wa
  case hi2wa => (simp only [List.getElem?_toArray, List.getElem?_cons_zero, List.getElem?_cons_succ]; rfl)
  case hy2wa => (refine Or.inl ⟨by rfl, ?_⟩; intro w hSw; (try dsimp only at hSw); go_simp; try with_reducible rfl)
  case hq2wa => exact fun _ _ _ h => h
  try simp only [Act.put, List.setIfInBounds_toArray, List.set_cons_zero, List.set_cons_succ]
  refine wpAnyH_take (i := 3) (oi := ?oi3wa) (v := ?v3wa) ?hi3wa (by kernel_rfl) (by kernel_rfl) (by kernel_rfl) ?hq3wa ?hy3wa (by assumption) ?rest3wa
  case hi3wa => (simp only [List.getElem?_toArray, List.getElem?_cons_zero, List.getElem?_cons_succ]; rfl)
  case hy3wa => (refine Or.inl ⟨by rfl, ?_⟩; intro w hSw; (try dsimp only at hSw); go_simp; try with_reducible rfl)
  case hq3wa => exact fun _ _ _ h => h
  try simp only [Act.put, List.setIfInBounds_toArray, List.set_cons_zero, List.set_cons_succ]
  refine wpAnyH_take (i := 4) (oi := ?oi4wa) (v := ?v4wa) ?hi4wa (by kernel_rfl) (by kernel_rfl) (by kernel_rfl) ?hq4wa ?hy4wa (by assumption) ?rest4wa
  case hi4wa => (simp only [List.getElem?_toArray, List.getElem?_cons_zero, List.getElem?_cons_succ]; rfl)
  case hy4wa => (refine Or.inl ⟨by rfl, ?_⟩; intro w hSw; (try dsimp only at hSw); go_simp; try with_reducible rfl)
  case hq4wa => exact fun _ _ _ h => h
  try simp only [Act.put, List.setIfInBounds_toArray, List.set_cons_zero, List.set_cons_succ]
  refine wpAnyH_take (i := 5) (oi := ?oi5wa) (v := ?v5wa) ?hi5wa (by kernel_rfl) (by kernel_rfl) (by kernel_rfl) ?hq5wa ?hy5wa (by assumption) ?rest5wa
  case hi5wa => (simp only [List.getElem?_toArray, List.getElem?_cons_zero, List.getElem?_cons_succ]; rfl)
  case hy5wa => (refine Or.inl ⟨by rfl, ?_⟩; intro w hSw; (try dsimp only at hSw); go_simp; try with_reducible rfl)
  case hq5wa => exact fun _ _ _ h => h
  try simp only [Act.put, List.setIfInBounds_toArray, List.set_cons_zero, List.set_cons_succ]
  refine wpAnyH_ready (rs := [6]) (by kernel_rfl) (by simp) ?_
  refine AllReadyH.cons (o := ?o6wb) ?ho6wb (fun K hK => ?st6wb) ?mo6wb
  case ho6wb => (simp only [List.getElem?_toArray, List.getElem?_cons_zero, List.getElem?_cons_succ]; rfl)
  case mo6wb => exact AllReadyH.nil
  have HCP := Lib.hid (copied_any rk A body.length cap body (HRR.out _ (Chg.of_below HBD.out _)) (by omega))
  go_simp
  refine HCP.out.mono ?_
  rintro _ w2 ⟨A2, q2, rfl, ho2, hb2⟩
  have H2 := Lib.hid (And.intro ho2 hb2)
  clear ho2 hb2 HCP
  have HD2 := Lib.hid (HDD.out.over H2.out.2)
  have HX2 := Lib.hid (HXD.out.over H2.out.2)
  have HB2 : Hid (Below w.heap.size w w2) := Lib.hid (HBD.out.trans (H2.out.2.mono HBD.out.size))
  have HN2 : Hid (Nibs w2) := Lib.hid (HT.out.below HB2.out)
  have HQ2 : Hid (body.length ≤ q2) := Lib.hid (by obtain ⟨_, _, e, h1, _⟩ := own_shape H2.out.1; injection e with _ _ e; omega)
  go_simp
  refine hK.out _ _ (HSB.out _ H2.out.2) (fun _ => ?_)
  clear hK K
  try simp only [Act.put, List.setIfInBounds_toArray, List.set_cons_zero, List.set_cons_succ]
  obtain ⟨x, HXA⟩ : ∃ x, Hid (j.compact ⟨rk, body⟩ = x) := ⟨_, Lib.hid rfl⟩
  have HAP := Lib.hid (Compact_any (w := w2) rk A2 body.length q2 body (HD2.out.pj) HG.out.fine.file HG.out.fine.gen.2 HQ2.out (Rd.of_own H2.out.1) (by omega) (fun h0 b o s e e2 => by obtain ⟨gg, cc, cr, hv2, hb2, _⟩ := own_parts H2.out.1 h0; injection hv2 with hv2; rw [e] at hv2; injection hv2 with hv2; injection hv2 with hv2 _; have := HLT.out; have := HSD.out; omega) HN2.out HNT.out.2)
  rw [HXA.out] at HAP
  refine wpAnyH_ready (rs := [7]) (by kernel_rfl) (by simp) ?_
  refine AllReadyH.cons (o := ?o7wc) ?ho7wc (fun K hK => ?st7wc) ?mo7wc
  case ho7wc => (simp only [List.getElem?_toArray, List.getElem?_cons_zero, List.getElem?_cons_succ]; rfl)
  case mo7wc => exact AllReadyH.nil
  go_simp
  refine HAP.out.mono ?_
  rintro _ w3 ⟨va, rfl, hp3, ho3, hc3⟩
  obtain ⟨Aa, capa, rfl⟩ := ho3.shapeN
  have H3 := Lib.hid (And.intro hp3 (And.intro ho3 hc3))
  clear hp3 ho3 hc3 HAP
  have HD3 := Lib.hid (HD2.out.jour H3.out.2.2 H3.out.1)
  have HX3 : Hid (Blk w3 w.heap.size 57 #[.int .i64 kd, .int .i64 on, .int .i64 kn, .int .i64 ln, .int .i64 rk, .slice A body.length cap]) := Lib.hid (HX2.out.chg H3.out.2.2 fun e => by have := HLT.out; omega)
  have HC3 : Hid (Chg (fun i => i = tg ∨ i = jg) w w3) := Lib.hid ((Chg.of_below HB2.out _).trans (H3.out.2.2.mono fun k _ e => .inr e))
  go_simp
  refine hK.out _ _ ⟨HD3.out.blk.cell 0, HX3.out.cell 4, HX3.out.cell 5⟩ (fun _ => ?_)
  clear hK K hsw
  try simp only [Act.put, List.setIfInBounds_toArray, List.set_cons_zero, List.set_cons_succ]
  refine wpAnyH_take (i := 8) (oi := ?oi8we) (v := ?v8we) ?hi8we (by kernel_rfl) (by kernel_rfl) (by kernel_rfl) ?hq8we ?hy8we (by assumption) ?rest8we
  case hi8we => (simp only [List.getElem?_toArray, List.getElem?_cons_zero, List.getElem?_cons_succ]; rfl)
  case hy8we => (refine Or.inl ⟨by rfl, ?_⟩; intro w hSw; (try dsimp only at hSw); go_simp; try with_reducible rfl)
  case hq8we => exact fun _ _ _ h => h
  try simp only [Act.put, List.setIfInBounds_toArray, List.set_cons_zero, List.set_cons_succ]
  refine wpAnyH_take (i := 9) (oi := ?oi9we) (v := ?v9we) ?hi9we (by kernel_rfl) (by kernel_rfl) (by kernel_rfl) ?hq9we ?hy9we (by assumption) ?rest9we
  case hi9we => (simp only [List.getElem?_toArray, List.getElem?_cons_zero, List.getElem?_cons_succ]; rfl)
  case hy9we => (refine Or.inl ⟨by rfl, ?_⟩; intro w hSw; (try dsimp only at hSw); go_simp; try with_reducible rfl)
  case hq9we => exact fun _ _ _ h => h
  try simp only [Act.put, List.setIfInBounds_toArray, List.set_cons_zero, List.set_cons_succ]
  refine wpAnyH_take (i := 10) (oi := ?oi10we) (v := ?v10we) ?hi10we (by kernel_rfl) (by kernel_rfl) (by kernel_rfl) ?hq10we ?hy10we (by assumption) ?rest10we
  case hi10we => (simp only [List.getElem?_toArray, List.getElem?_cons_zero, List.getElem?_cons_succ]; rfl)
  case hy10we => (refine Or.inl ⟨by rfl, ?_⟩; intro w hSw; (try dsimp only at hSw); go_simp; try with_reducible rfl)
  case hq10we => exact fun _ _ _ h => h
  try simp only [Act.put, List.setIfInBounds_toArray, List.set_cons_zero, List.set_cons_succ]
  refine wpAnyH_take (i := 11) (oi := ?oi11we) (v := ?v11we) ?hi11we (by kernel_rfl) (by kernel_rfl) (by kernel_rfl) ?hq11we ?hy11we (by assumption) ?rest11we
  case hi11we => (simp only [List.getElem?_toArray, List.getElem?_cons_zero, List.getElem?_cons_succ]; rfl)
  case hy11we => (refine Or.inl ⟨by rfl, ?_⟩; intro w hSw; (try dsimp only at hSw); go_simp; try with_reducible rfl)
  case hq11we => exact fun _ _ _ h => h
  try simp only [Act.put, List.setIfInBounds_toArray, List.set_cons_zero, List.set_cons_succ]
  refine wpAnyH_take (i := 12) (oi := ?oi12we) (v := ?v12we) ?hi12we (by kernel_rfl) (by kernel_rfl) (by kernel_rfl) ?hq12we ?hy12we (by assumption) ?rest12we
  case hi12we => (simp only [List.getElem?_toArray, List.getElem?_cons_zero, List.getElem?_cons_succ]; rfl)
  case hy12we => (refine Or.inl ⟨by rfl, ?_⟩; intro w hSw; (try dsimp only at hSw); go_simp; try with_reducible rfl)
  case hq12we => exact fun _ _ _ h => h
  try simp only [Act.put, List.setIfInBounds_toArray, List.set_cons_zero, List.set_cons_succ]
  refine wpAnyH_done (by kernel_rfl) ?_ _
  go_upto_region 19 with fail
  have r4 : w3.cell? ⟨w.heap.size, 4, none⟩ = some (.int .i64 rk) := HX3.out.cell 4
  have r5 : w3.cell? ⟨w.heap.size, 5, none⟩ = some (.slice A body.length cap) := HX3.out.cell 5
  have HGD := Lib.hid (good_any rk A body.length cap w3 (by omega))
  by_cases hok : okB rk body.length = true
  · rw [hok] at HGD
    go_upto_region 21 with (go_at_call 64; refine HGD.out.mono ?_; rintro _ w4 ⟨rfl, hb4⟩; have H4 := Lib.hid hb4; clear hb4)
    have HOK := Lib.hid hok
    have HD4 := Lib.hid (HD3.out.over H4.out)
    have HX4 := Lib.hid (HX3.out.over H4.out)
    have HC4 : Hid (Chg (fun i => i = tg ∨ i = jg) w w4) := Lib.hid (HC3.out.trans (Chg.of_below H4.out _))
    have s4 : w4.cell? ⟨w.heap.size, 4, none⟩ = some (.int .i64 rk) := HX4.out.cell 4
    have s5 : w4.cell? ⟨w.heap.size, 5, none⟩ = some (.slice A body.length cap) := HX4.out.cell 5
    clear r4 r5 hok
    have HXV : Hid (x = (⟨1 - j.file, j.gen + 1, 1, [⟨rk, body⟩]⟩, [⟨((1 - j.file : Nat) : Int), true, textB (j.gen + 1) 1 [⟨rk, body⟩]⟩], 0)) := Lib.hid (by rw [← HXA.out]; unfold JP.compact; rw [if_pos (show (⟨rk, body⟩ : Rc).ok = true from HOK.out), if_neg (by have := HGN.out; omega)])
    have HCP2 := Lib.hid (copied_any rk A body.length cap body (HRR.out _ HC4.out) (by omega))
    go_upto_region 24 with (go_at_call 34; refine HCP2.out.mono ?_; rintro _ w5 ⟨A6, c6, rfl, ho6, hb6⟩; have H5 := Lib.hid (And.intro ho6 hb6); clear ho6 hb6)
    obtain ⟨w8, hw8⟩ : ∃ w8, w8 = w5.alloc (.cells #[.int .i64 rk, .slice A6 body.length c6] 34) := ⟨_, rfl⟩
    rw [← hw8]
    have hb8 : Below w5.heap.size w5 w8 := by rw [hw8]; exact one_box' _ _
    have hB8 : Blk w8 w5.heap.size 34 #[.int .i64 rk, .slice A6 body.length c6] := by rw [hw8]; exact Blk.new _ _ _
    have HB8 : Hid (Below w4.heap.size w4 w8) := Lib.hid (Below.then H5.out.2 hb8)
    have HR8 : Hid (RcB w8 (fun g => g = tg ∨ g = jg) (.slice (some ⟨w5.heap.size, 0, none⟩) 1 1) [⟨⟨rk, body⟩, .slice A6 body.length c6⟩]) := Lib.hid (by
      have h6 : w8.ownsRow w4.heap.size 5 1 (.slice A6 body.length c6) body.length (bvs body) := own_over H5.out.1 hb8
      exact (RcB.nil w4 _).snoc (x := ⟨⟨rk, body⟩, .slice A6 body.length c6⟩) HB8.out (Nat.le_refl _) (fun g hg => by have := HC4.out.size; have := HLT.out; rcases hg with e | e <;> omega) (own_oneB hB8 H5.out.2.size) rfl h6)
    clear hw8 hb8 hB8 s4 s5 HCP2
    have HM8 : Hid ([(⟨⟨rk, body⟩, .slice A6 body.length c6⟩ : Rk)].map Rk.rc = x.1.recs) := Lib.hid (by rw [HXV.out]; rfl)
    have HWR : Hid (Writes j f x.1 x.2.1) := Lib.hid (by rw [HXV.out]; exact compact_writes HG.out HOK.out HGN.out)
    have HX20 : Hid (x.2.2 = 0) := Lib.hid (by rw [HXV.out])
    have HBX : Hid (bodies x.1.recs ≤ bodies j.recs + (8 + body.length)) := Lib.hid (by rw [HXV.out]; show bodies [_] ≤ _; simp [bodies])
    have HB38 : Hid (Below w3.heap.size w3 w8) := Lib.hid (Below.then H4.out HB8.out)
    clear HXV HXA
    have HC8 : Hid (Chg (fun i => i = tg ∨ i = jg) w w8) := Lib.hid (HC3.out.trans (Chg.of_below HB38.out _))
    have HD8 := Lib.hid (HD3.out.over HB38.out)
    have HX8 := Lib.hid (HX3.out.over HB38.out)
    have HO8 : Hid (WOut w8 0 (.slice Aa x.2.1.length capa) x.2.1) := Lib.hid ((H3.out.2.1.below HB38.out).mono (Nat.zero_le _))
    rw [HX20.out]
    have HCO := Lib.hid (PCost_any (w := w8) Aa _ capa _ HO8.out.wsN (by have := HWR.out.cost; omega) (by have := HO8.out.few; omega))
    go_upto_region 27 with (go_at_call 36; refine HCO.out.mono ?_; rintro _ w9 ⟨rfl, hb9⟩; have H9 := Lib.hid hb9; clear hb9)
    have HD9 := Lib.hid (HD8.out.over H9.out)
    have HX9 := Lib.hid (HX8.out.over H9.out)
    have HO9 := Lib.hid (HO8.out.below H9.out)
    have HR9 := Lib.hid (HR8.out.over H9.out)
    have HC9 : Hid (Chg (fun i => i = tg ∨ i = jg) w w9) := Lib.hid (HC8.out.trans (Chg.of_below H9.out _))
    have r0 : w9.cell? ⟨w.heap.size, 0, none⟩ = some (.int .i64 kd) := HX9.out.cell 0
    have r2 : w9.cell? ⟨w.heap.size, 2, none⟩ = some (.int .i64 kn) := HX9.out.cell 2
    clear HCO
    have HMK := Lib.hid (dmakes_any (cap := capa) HD9.out HO9.out (by have := HWR.out.cost; omega) (by have := HG.out.half.la; omega) (-1))
    go_upto_region 29 with (go_at_call 63; refine HMK.out.mono ?_; rintro _ wa ⟨rfl, ⟨C0, g0, C1, g1, hpa⟩, hca⟩; have HA := Lib.hid (And.intro hpa hca); clear hpa hca)
    have HXA' : Hid (Blk wa w.heap.size 57 #[.int .i64 kd, .int .i64 on, .int .i64 kn, .int .i64 ln, .int .i64 rk, .slice A body.length cap]) := Lib.hid (HX9.out.chg HA.out.2 fun e => by have := HLT.out; omega)
    have z3 : wa.cell? ⟨tg, 3, none⟩ = some (.slice Ab j.recs.length cb) := HA.out.1.blk.cell 3
    have zf := HA.out.1.blk.frozen 3
    have HBK := Lib.hid (HA.out.1.book (HR9.out.chg HA.out.2 fun k _ e => .inl e))
    go_upto_region 30 with fail
    generalize wa.setCell ⟨tg, 3, none⟩ (.slice (some ⟨w5.heap.size, 0, none⟩) 1 1) = wb at HBK ⊢
    clear z3 zf r0 r2
    have HXB : Hid (Blk wb w.heap.size 57 #[.int .i64 kd, .int .i64 on, .int .i64 kn, .int .i64 ln, .int .i64 rk, .slice A body.length cap]) := Lib.hid (HXA'.out.chg HBK.out.2 fun e => by have := HLT.out; omega)
    have HCB : Hid (Chg (fun i => i = tg ∨ i = jg) w wb) := Lib.hid (HC9.out.trans ((HA.out.2.trans HBK.out.2).mono fun k _ e => .inl e))
    have hdk := HBK.out.1
    rw [HWR.out.last] at hdk
    have HDK := Lib.hid hdk
    have HGO := Lib.hid (HWR.out.full (-1) (.inl (by omega)))
    have s0 : wb.cell? ⟨w.heap.size, 0, none⟩ = some (.int .i64 kd) := HXB.out.cell 0
    have s3 : wb.cell? ⟨w.heap.size, 3, none⟩ = some (.int .i64 ln) := HXB.out.cell 3
    clear hdk
    go_wp2_with fail
    go_ret
    exact ⟨rfl, jg, x.1, _, ⟨_, _, _, _, _, _, HDK.out, HM8.out, HGO.out⟩, by have := HWR.out.gen; omega, .inl rfl, HCB.out, (fun e _ _ => by rw [e] at b1; exact absurd b1 (by decide)), HBX.out⟩
  · have hok2 : okB rk body.length = false := by simpa using hok
    rw [hok2] at HGD
    have HXV : Hid (x = (j, [], 121)) := Lib.hid (by rw [← HXA.out]; unfold JP.compact; rw [if_neg (show ¬ (⟨rk, body⟩ : Rc).ok = true from hok)])
    clear hok hok2
    rw [HXV.out] at HD3 ⊢
    dsimp only [List.length_nil]
    go_wp2_with (go_at_call 64; refine HGD.out.mono ?_; rintro _ w4 ⟨rfl, hb4⟩; have H4 := Lib.hid hb4; clear hb4)
    go_ret
    exact HSAME.out _ (HC3.out.trans (Chg.of_below H4.out _)) (HD3.out.over H4.out) (fun e _ _ => by rw [e] at b1; exact absurd b1 (by decide))
set_option maxRecDepth 100000 in
set_option maxHeartbeats 6400000 in
theorem dplays_7 {w : World} {tg jg : Nat} {j : JP} {f : Fls} (kd on kn ln rk : Int) (A : Option Addr) (cap : Nat) (body : List UInt8) (b1 : (kd == 1) = false) (b6 : (kd == 6) = false) (b2 : (kd == 2) = false) (b7 : (kd == 7) = true) (h : Desk w tg jg j f) (hg : j.gen ≤ 1125899906842000) (hr : RdB w w.heap.size A body.length body) (hA : 0 < body.length → ∀ b o s, A = some ⟨b, o, s⟩ → b ≠ tg ∧ b ≠ jg)
    (hn : body.length ≤ 140737488351232) (hkn : kn ≤ 9223372036854775807) (ht : Nibs w) : Calls Tryd.prog 31 #[.pointer (some ⟨tg, 0, none⟩), .agg #[.int .i64 kd, .int .i64 on, .int .i64 kn, .int .i64 ln, .int .i64 rk, .slice A body.length cap]] w (DPl w tg jg j kd ⟨rk, body⟩) := by
  obtain ⟨A0, c0, A1, c1, vb, Kb, h, hk, hgood⟩ := h
  obtain ⟨Ab, cb, rfl, hcb1, hcb2⟩ := h.bk.shape hk
  obtain ⟨w1, hw1⟩ : ∃ w1, w1 = w.alloc (.cells #[.int .i64 kd, .int .i64 on, .int .i64 kn, .int .i64 ln, .int .i64 rk, .slice A body.length cap] 57) := ⟨_, rfl⟩
  have hb1 : Below w.heap.size w w1 := by rw [hw1]; exact one_box' _ _
  have hX1 : Blk w1 w.heap.size 57 #[.int .i64 kd, .int .i64 on, .int .i64 kn, .int .i64 ln, .int .i64 rk, .slice A body.length cap] := by rw [hw1]; exact Blk.new _ _ _
  have HD := Lib.hid h
  have HD1 := Lib.hid (h.over hb1)
  have HX1 := Lib.hid hX1
  have HB1 := Lib.hid hb1
  have HK := Lib.hid hk
  have HG := Lib.hid hgood
  have HGN := Lib.hid hg
  have HT := Lib.hid ht
  have HRR : Hid (∀ W, Chg (fun i => i = tg ∨ i = jg) w W → RdB W W.heap.size A body.length body) := Lib.hid fun W hW => (hr.chgF hW (Nat.le_refl _) fun h0 b o s e hs => by
    have h1 := hA h0 b o s e
    exact hs.elim h1.1 h1.2).more hW.size
  have HLT : Hid (tg < w.heap.size ∧ jg < w.heap.size ∧ tg ≠ jg) := Lib.hid ⟨h.blk.lt, h.pj.lt, h.ne⟩
  have hnt1 : 0 ≠ tg := fun e => by
    have h0 := ht 0 (by omega)
    subst e
    rw [h.blk.cell 0] at h0
    cases h0
  have hnt2 : 0 ≠ jg := by
    obtain ⟨s, hB, _⟩ := h.pj.blk
    exact ht.off hB rfl
  have HNT := Lib.hid (And.intro hnt1 hnt2)
  have HSAME : Hid (∀ W, Chg (fun i => i = tg ∨ i = jg) w W → DAt W tg jg A0 c0 A1 c1 (.slice Ab j.recs.length cb) Kb j f (j.file : Int) → (kd = 1 → (⟨rk, body⟩ : Rc).ok = true → j.text.length + 8 + body.length ≤ 65536 → False) → DPl w tg jg j kd ⟨rk, body⟩ (.returned (.bool true)) W) := Lib.hid fun W hW hd hno => ⟨rfl, jg, j, f, ⟨A0, c0, A1, c1, _, Kb, hd, hk, hgood⟩, by omega, .inl rfl, hW, fun e e2 e3 => (hno e e2 e3).elim, Nat.le_add_right _ _⟩
  have k0 : w1.cell? ⟨w.heap.size, 0, none⟩ = some (.int .i64 kd) := hX1.cell 0
  have t0 : w1.cell? ⟨tg, 0, none⟩ = some (.pointer (some ⟨jg, 0, none⟩)) := (h.over hb1).blk.cell 0
  have t3 : w1.cell? ⟨tg, 3, none⟩ = some (.slice Ab j.recs.length cb) := (h.over hb1).blk.cell 3
  have HW1 := Lib.hid hw1
  clear h hk hgood hg hr hA ht hw1 hb1 hX1 hcb1 hcb2 hnt1 hnt2
  go_enter Tryd.func31, Tryd.ntmps31
  go_upto_region 3 with fail
  rw [← HW1.out]
  clear HW1
  go_upto_region 18 with fail
  obtain ⟨wd, hwd⟩ : ∃ wd, wd = w1.drew := ⟨_, rfl⟩
  have hbd : Below w1.heap.size w1 wd := by rw [hwd]; exact below_drewN (Below.refl _ _) 1
  have HDD := Lib.hid (HD1.out.over hbd)
  have HXD := Lib.hid (HX1.out.over hbd)
  have HBD : Hid (Below w.heap.size w wd) := Lib.hid (Below.then HB1.out hbd)
  have HSD : Hid (w.heap.size < wd.heap.size) := Lib.hid HXD.out.lt
  have HSB : Hid (∀ W, Below wd.heap.size wd W → W.cell? ⟨tg, 0, none⟩ = some (.pointer (some ⟨jg, 0, none⟩)) ∧ W.cell? ⟨w.heap.size, 4, none⟩ = some (.int .i64 rk) ∧ W.cell? ⟨w.heap.size, 5, none⟩ = some (.slice A body.length cap)) := Lib.hid fun W hW => ⟨(HDD.out.over hW).blk.cell 0, (HXD.out.over hW).cell 4, (HXD.out.over hW).cell 5⟩
  have HWD := Lib.hid hwd
  clear hwd hbd
  refine wp_region_held_drew (S := fun W => W.cell? ⟨tg, 0, none⟩ = some (.pointer (some ⟨jg, 0, none⟩)) ∧ W.cell? ⟨w.heap.size, 4, none⟩ = some (.int .i64 rk) ∧ W.cell? ⟨w.heap.size, 5, none⟩ = some (.slice A body.length cap)) (by kernel_rfl) (by rw [← HWD.out]; exact HSB.out _ (Below.refl _ _)) (fun hsw => ?_)
  rw [← HWD.out] at hsw ⊢
  clear k0 t0 t3
  refine wpAnyH_take (i := 0) (oi := ?oi0wa) (v := ?v0wa) ?hi0wa (by kernel_rfl) (by kernel_rfl) (by kernel_rfl) ?hq0wa ?hy0wa (by assumption) ?rest0wa
  case hi0wa => (simp only [List.getElem?_toArray, List.getElem?_cons_zero]; rfl)
  case hy0wa => (refine Or.inl ⟨by rfl, ?_⟩; intro w hSw; (try dsimp only at hSw); go_simp; try with_reducible rfl)
  case hq0wa => exact fun _ _ _ h => h
  try simp only [Act.put, List.setIfInBounds_toArray, List.set_cons_zero, List.set_cons_succ]
  refine wpAnyH_take (i := 1) (oi := ?oi1wa) (v := ?v1wa) ?hi1wa (by kernel_rfl) (by kernel_rfl) (by kernel_rfl) ?hq1wa ?hy1wa (by assumption) ?rest1wa
  case hi1wa => (simp only [List.getElem?_toArray, List.getElem?_cons_zero, List.getElem?_cons_succ]; rfl)
  case hy1wa => (refine Or.inl ⟨by rfl, ?_⟩; intro w hSw; (try dsimp only at hSw); go_simp; try with_reducible rfl)
  case hq1wa => exact fun _ _ _ h => h
  try simp only [Act.put, List.setIfInBounds_toArray, List.set_cons_zero, List.set_cons_succ]
  refine wpAnyH_take (i := 2) (oi := ?oi2wa) (v := ?v2wa) ?hi2wa (by kernel_rfl) (by kernel_rfl) (by kernel_rfl) ?hq2wa ?hy2wa (by assumption) ?rest2wa
  case hi2wa => (simp only [List.getElem?_toArray, List.getElem?_cons_zero, List.getElem?_cons_succ]; rfl)
  case hy2wa => (refine Or.inl ⟨by rfl, ?_⟩; intro w hSw; (try dsimp only at hSw); go_simp; try with_reducible rfl)
  case hq2wa => exact fun _ _ _ h => h
  try simp only [Act.put, List.setIfInBounds_toArray, List.set_cons_zero, List.set_cons_succ]
  refine wpAnyH_take (i := 3) (oi := ?oi3wa) (v := ?v3wa) ?hi3wa (by kernel_rfl) (by kernel_rfl) (by kernel_rfl) ?hq3wa ?hy3wa (by assumption) ?rest3wa
  case hi3wa => (simp only [List.getElem?_toArray, List.getElem?_cons_zero, List.getElem?_cons_succ]; rfl)
  case hy3wa => (refine Or.inl ⟨by rfl, ?_⟩; intro w hSw; (try dsimp only at hSw); go_simp; try with_reducible rfl)
  case hq3wa => exact fun _ _ _ h => h
  try simp only [Act.put, List.setIfInBounds_toArray, List.set_cons_zero, List.set_cons_succ]
  refine wpAnyH_take (i := 4) (oi := ?oi4wa) (v := ?v4wa) ?hi4wa (by kernel_rfl) (by kernel_rfl) (by kernel_rfl) ?hq4wa ?hy4wa (by assumption) ?rest4wa
  case hi4wa => (simp only [List.getElem?_toArray, List.getElem?_cons_zero, List.getElem?_cons_succ]; rfl)
  case hy4wa => (refine Or.inl ⟨by rfl, ?_⟩; intro w hSw; (try dsimp only at hSw); go_simp; try with_reducible rfl)
  case hq4wa => exact fun _ _ _ h => h
  try simp only [Act.put, List.setIfInBounds_toArray, List.set_cons_zero, List.set_cons_succ]
  refine wpAnyH_take (i := 5) (oi := ?oi5wa) (v := ?v5wa) ?hi5wa (by kernel_rfl) (by kernel_rfl) (by kernel_rfl) ?hq5wa ?hy5wa (by assumption) ?rest5wa
  case hi5wa => (simp only [List.getElem?_toArray, List.getElem?_cons_zero, List.getElem?_cons_succ]; rfl)
  case hy5wa => (refine Or.inl ⟨by rfl, ?_⟩; intro w hSw; (try dsimp only at hSw); go_simp; try with_reducible rfl)
  case hq5wa => exact fun _ _ _ h => h
  try simp only [Act.put, List.setIfInBounds_toArray, List.set_cons_zero, List.set_cons_succ]
  refine wpAnyH_ready (rs := [6]) (by kernel_rfl) (by simp) ?_
  refine AllReadyH.cons (o := ?o6wb) ?ho6wb (fun K hK => ?st6wb) ?mo6wb
  case ho6wb => (simp only [List.getElem?_toArray, List.getElem?_cons_zero, List.getElem?_cons_succ]; rfl)
  case mo6wb => exact AllReadyH.nil
  have HCP := Lib.hid (copied_any rk A body.length cap body (HRR.out _ (Chg.of_below HBD.out _)) (by omega))
  go_simp
  refine HCP.out.mono ?_
  rintro _ w2 ⟨A2, q2, rfl, ho2, hb2⟩
  have H2 := Lib.hid (And.intro ho2 hb2)
  clear ho2 hb2 HCP
  have HD2 := Lib.hid (HDD.out.over H2.out.2)
  have HX2 := Lib.hid (HXD.out.over H2.out.2)
  have HB2 : Hid (Below w.heap.size w w2) := Lib.hid (HBD.out.trans (H2.out.2.mono HBD.out.size))
  have HN2 : Hid (Nibs w2) := Lib.hid (HT.out.below HB2.out)
  have HQ2 : Hid (body.length ≤ q2) := Lib.hid (by obtain ⟨_, _, e, h1, _⟩ := own_shape H2.out.1; injection e with _ _ e; omega)
  go_simp
  refine hK.out _ _ (HSB.out _ H2.out.2) (fun _ => ?_)
  clear hK K
  try simp only [Act.put, List.setIfInBounds_toArray, List.set_cons_zero, List.set_cons_succ]
  obtain ⟨x, HXA⟩ : ∃ x, Hid (j.compact ⟨rk, body⟩ = x) := ⟨_, Lib.hid rfl⟩
  have HAP := Lib.hid (Compact_any (w := w2) rk A2 body.length q2 body (HD2.out.pj) HG.out.fine.file HG.out.fine.gen.2 HQ2.out (Rd.of_own H2.out.1) (by omega) (fun h0 b o s e e2 => by obtain ⟨gg, cc, cr, hv2, hb2, _⟩ := own_parts H2.out.1 h0; injection hv2 with hv2; rw [e] at hv2; injection hv2 with hv2; injection hv2 with hv2 _; have := HLT.out; have := HSD.out; omega) HN2.out HNT.out.2)
  rw [HXA.out] at HAP
  refine wpAnyH_ready (rs := [7]) (by kernel_rfl) (by simp) ?_
  refine AllReadyH.cons (o := ?o7wc) ?ho7wc (fun K hK => ?st7wc) ?mo7wc
  case ho7wc => (simp only [List.getElem?_toArray, List.getElem?_cons_zero, List.getElem?_cons_succ]; rfl)
  case mo7wc => exact AllReadyH.nil
  go_simp
  refine HAP.out.mono ?_
  rintro _ w3 ⟨va, rfl, hp3, ho3, hc3⟩
  obtain ⟨Aa, capa, rfl⟩ := ho3.shapeN
  have H3 := Lib.hid (And.intro hp3 (And.intro ho3 hc3))
  clear hp3 ho3 hc3 HAP
  have HD3 := Lib.hid (HD2.out.jour H3.out.2.2 H3.out.1)
  have HX3 : Hid (Blk w3 w.heap.size 57 #[.int .i64 kd, .int .i64 on, .int .i64 kn, .int .i64 ln, .int .i64 rk, .slice A body.length cap]) := Lib.hid (HX2.out.chg H3.out.2.2 fun e => by have := HLT.out; omega)
  have HC3 : Hid (Chg (fun i => i = tg ∨ i = jg) w w3) := Lib.hid ((Chg.of_below HB2.out _).trans (H3.out.2.2.mono fun k _ e => .inr e))
  go_simp
  refine hK.out _ _ ⟨HD3.out.blk.cell 0, HX3.out.cell 4, HX3.out.cell 5⟩ (fun _ => ?_)
  clear hK K hsw
  try simp only [Act.put, List.setIfInBounds_toArray, List.set_cons_zero, List.set_cons_succ]
  refine wpAnyH_take (i := 8) (oi := ?oi8we) (v := ?v8we) ?hi8we (by kernel_rfl) (by kernel_rfl) (by kernel_rfl) ?hq8we ?hy8we (by assumption) ?rest8we
  case hi8we => (simp only [List.getElem?_toArray, List.getElem?_cons_zero, List.getElem?_cons_succ]; rfl)
  case hy8we => (refine Or.inl ⟨by rfl, ?_⟩; intro w hSw; (try dsimp only at hSw); go_simp; try with_reducible rfl)
  case hq8we => exact fun _ _ _ h => h
  try simp only [Act.put, List.setIfInBounds_toArray, List.set_cons_zero, List.set_cons_succ]
  refine wpAnyH_take (i := 9) (oi := ?oi9we) (v := ?v9we) ?hi9we (by kernel_rfl) (by kernel_rfl) (by kernel_rfl) ?hq9we ?hy9we (by assumption) ?rest9we
  case hi9we => (simp only [List.getElem?_toArray, List.getElem?_cons_zero, List.getElem?_cons_succ]; rfl)
  case hy9we => (refine Or.inl ⟨by rfl, ?_⟩; intro w hSw; (try dsimp only at hSw); go_simp; try with_reducible rfl)
  case hq9we => exact fun _ _ _ h => h
  try simp only [Act.put, List.setIfInBounds_toArray, List.set_cons_zero, List.set_cons_succ]
  refine wpAnyH_take (i := 10) (oi := ?oi10we) (v := ?v10we) ?hi10we (by kernel_rfl) (by kernel_rfl) (by kernel_rfl) ?hq10we ?hy10we (by assumption) ?rest10we
  case hi10we => (simp only [List.getElem?_toArray, List.getElem?_cons_zero, List.getElem?_cons_succ]; rfl)
  case hy10we => (refine Or.inl ⟨by rfl, ?_⟩; intro w hSw; (try dsimp only at hSw); go_simp; try with_reducible rfl)
  case hq10we => exact fun _ _ _ h => h
  try simp only [Act.put, List.setIfInBounds_toArray, List.set_cons_zero, List.set_cons_succ]
  refine wpAnyH_take (i := 11) (oi := ?oi11we) (v := ?v11we) ?hi11we (by kernel_rfl) (by kernel_rfl) (by kernel_rfl) ?hq11we ?hy11we (by assumption) ?rest11we
  case hi11we => (simp only [List.getElem?_toArray, List.getElem?_cons_zero, List.getElem?_cons_succ]; rfl)
  case hy11we => (refine Or.inl ⟨by rfl, ?_⟩; intro w hSw; (try dsimp only at hSw); go_simp; try with_reducible rfl)
  case hq11we => exact fun _ _ _ h => h
  try simp only [Act.put, List.setIfInBounds_toArray, List.set_cons_zero, List.set_cons_succ]
  refine wpAnyH_take (i := 12) (oi := ?oi12we) (v := ?v12we) ?hi12we (by kernel_rfl) (by kernel_rfl) (by kernel_rfl) ?hq12we ?hy12we (by assumption) ?rest12we
  case hi12we => (simp only [List.getElem?_toArray, List.getElem?_cons_zero, List.getElem?_cons_succ]; rfl)
  case hy12we => (refine Or.inl ⟨by rfl, ?_⟩; intro w hSw; (try dsimp only at hSw); go_simp; try with_reducible rfl)
  case hq12we => exact fun _ _ _ h => h
  try simp only [Act.put, List.setIfInBounds_toArray, List.set_cons_zero, List.set_cons_succ]
  refine wpAnyH_done (by kernel_rfl) ?_ _
  go_upto_region 19 with fail
  have r4 : w3.cell? ⟨w.heap.size, 4, none⟩ = some (.int .i64 rk) := HX3.out.cell 4
  have r5 : w3.cell? ⟨w.heap.size, 5, none⟩ = some (.slice A body.length cap) := HX3.out.cell 5
  have HGD := Lib.hid (good_any rk A body.length cap w3 (by omega))
  by_cases hok : okB rk body.length = true
  · rw [hok] at HGD
    go_upto_region 21 with (go_at_call 64; refine HGD.out.mono ?_; rintro _ w4 ⟨rfl, hb4⟩; have H4 := Lib.hid hb4; clear hb4)
    have HOK := Lib.hid hok
    have HD4 := Lib.hid (HD3.out.over H4.out)
    have HX4 := Lib.hid (HX3.out.over H4.out)
    have HC4 : Hid (Chg (fun i => i = tg ∨ i = jg) w w4) := Lib.hid (HC3.out.trans (Chg.of_below H4.out _))
    have s4 : w4.cell? ⟨w.heap.size, 4, none⟩ = some (.int .i64 rk) := HX4.out.cell 4
    have s5 : w4.cell? ⟨w.heap.size, 5, none⟩ = some (.slice A body.length cap) := HX4.out.cell 5
    clear r4 r5 hok
    have HXV : Hid (x = (⟨1 - j.file, j.gen + 1, 1, [⟨rk, body⟩]⟩, [⟨((1 - j.file : Nat) : Int), true, textB (j.gen + 1) 1 [⟨rk, body⟩]⟩], 0)) := Lib.hid (by rw [← HXA.out]; unfold JP.compact; rw [if_pos (show (⟨rk, body⟩ : Rc).ok = true from HOK.out), if_neg (by have := HGN.out; omega)])
    have HCP2 := Lib.hid (copied_any rk A body.length cap body (HRR.out _ HC4.out) (by omega))
    go_upto_region 24 with (go_at_call 34; refine HCP2.out.mono ?_; rintro _ w5 ⟨A6, c6, rfl, ho6, hb6⟩; have H5 := Lib.hid (And.intro ho6 hb6); clear ho6 hb6)
    obtain ⟨w8, hw8⟩ : ∃ w8, w8 = w5.alloc (.cells #[.int .i64 rk, .slice A6 body.length c6] 34) := ⟨_, rfl⟩
    rw [← hw8]
    have hb8 : Below w5.heap.size w5 w8 := by rw [hw8]; exact one_box' _ _
    have hB8 : Blk w8 w5.heap.size 34 #[.int .i64 rk, .slice A6 body.length c6] := by rw [hw8]; exact Blk.new _ _ _
    have HB8 : Hid (Below w4.heap.size w4 w8) := Lib.hid (Below.then H5.out.2 hb8)
    have HR8 : Hid (RcB w8 (fun g => g = tg ∨ g = jg) (.slice (some ⟨w5.heap.size, 0, none⟩) 1 1) [⟨⟨rk, body⟩, .slice A6 body.length c6⟩]) := Lib.hid (by
      have h6 : w8.ownsRow w4.heap.size 5 1 (.slice A6 body.length c6) body.length (bvs body) := own_over H5.out.1 hb8
      exact (RcB.nil w4 _).snoc (x := ⟨⟨rk, body⟩, .slice A6 body.length c6⟩) HB8.out (Nat.le_refl _) (fun g hg => by have := HC4.out.size; have := HLT.out; rcases hg with e | e <;> omega) (own_oneB hB8 H5.out.2.size) rfl h6)
    clear hw8 hb8 hB8 s4 s5 HCP2
    have HM8 : Hid ([(⟨⟨rk, body⟩, .slice A6 body.length c6⟩ : Rk)].map Rk.rc = x.1.recs) := Lib.hid (by rw [HXV.out]; rfl)
    have HWR : Hid (Writes j f x.1 x.2.1) := Lib.hid (by rw [HXV.out]; exact compact_writes HG.out HOK.out HGN.out)
    have HX20 : Hid (x.2.2 = 0) := Lib.hid (by rw [HXV.out])
    have HBX : Hid (bodies x.1.recs ≤ bodies j.recs + (8 + body.length)) := Lib.hid (by rw [HXV.out]; show bodies [_] ≤ _; simp [bodies])
    have HB38 : Hid (Below w3.heap.size w3 w8) := Lib.hid (Below.then H4.out HB8.out)
    clear HXV HXA
    have HC8 : Hid (Chg (fun i => i = tg ∨ i = jg) w w8) := Lib.hid (HC3.out.trans (Chg.of_below HB38.out _))
    have HD8 := Lib.hid (HD3.out.over HB38.out)
    have HX8 := Lib.hid (HX3.out.over HB38.out)
    have HO8 : Hid (WOut w8 0 (.slice Aa x.2.1.length capa) x.2.1) := Lib.hid ((H3.out.2.1.below HB38.out).mono (Nat.zero_le _))
    rw [HX20.out]
    have HCO := Lib.hid (PCost_any (w := w8) Aa _ capa _ HO8.out.wsN (by have := HWR.out.cost; omega) (by have := HO8.out.few; omega))
    go_upto_region 27 with (go_at_call 36; refine HCO.out.mono ?_; rintro _ w9 ⟨rfl, hb9⟩; have H9 := Lib.hid hb9; clear hb9)
    have HD9 := Lib.hid (HD8.out.over H9.out)
    have HX9 := Lib.hid (HX8.out.over H9.out)
    have HO9 := Lib.hid (HO8.out.below H9.out)
    have HR9 := Lib.hid (HR8.out.over H9.out)
    have HC9 : Hid (Chg (fun i => i = tg ∨ i = jg) w w9) := Lib.hid (HC8.out.trans (Chg.of_below H9.out _))
    have r0 : w9.cell? ⟨w.heap.size, 0, none⟩ = some (.int .i64 kd) := HX9.out.cell 0
    have r2 : w9.cell? ⟨w.heap.size, 2, none⟩ = some (.int .i64 kn) := HX9.out.cell 2
    clear HCO
    by_cases hk0 : kn < 0
    · have d1 : decide (kn < 0) = true := by simpa using hk0
      have HMK := Lib.hid (dmakes_any (cap := capa) HD9.out HO9.out (by have := HWR.out.cost; omega) (by have := HG.out.half.la; omega) (-1))
      go_upto_region 29 with (go_at_call 63; refine HMK.out.mono ?_; rintro _ wa ⟨rfl, ⟨C0, g0, C1, g1, hpa⟩, hca⟩; have HA := Lib.hid (And.intro hpa hca); clear hpa hca)
      have HXA' : Hid (Blk wa w.heap.size 57 #[.int .i64 kd, .int .i64 on, .int .i64 kn, .int .i64 ln, .int .i64 rk, .slice A body.length cap]) := Lib.hid (HX9.out.chg HA.out.2 fun e => by have := HLT.out; omega)
      have z3 : wa.cell? ⟨tg, 3, none⟩ = some (.slice Ab j.recs.length cb) := HA.out.1.blk.cell 3
      have zf := HA.out.1.blk.frozen 3
      have HBK := Lib.hid (HA.out.1.book (HR9.out.chg HA.out.2 fun k _ e => .inl e))
      go_upto_region 30 with fail
      generalize wa.setCell ⟨tg, 3, none⟩ (.slice (some ⟨w5.heap.size, 0, none⟩) 1 1) = wb at HBK ⊢
      clear z3 zf r0 r2
      have HXB : Hid (Blk wb w.heap.size 57 #[.int .i64 kd, .int .i64 on, .int .i64 kn, .int .i64 ln, .int .i64 rk, .slice A body.length cap]) := Lib.hid (HXA'.out.chg HBK.out.2 fun e => by have := HLT.out; omega)
      have HCB : Hid (Chg (fun i => i = tg ∨ i = jg) w wb) := Lib.hid (HC9.out.trans ((HA.out.2.trans HBK.out.2).mono fun k _ e => .inl e))
      have hdk := HBK.out.1
      rw [HWR.out.last] at hdk
      have HDK := Lib.hid hdk
      have HGO := Lib.hid (HWR.out.full (-1) (.inl (by omega)))
      have s0 : wb.cell? ⟨w.heap.size, 0, none⟩ = some (.int .i64 kd) := HXB.out.cell 0
      have s3 : wb.cell? ⟨w.heap.size, 3, none⟩ = some (.int .i64 ln) := HXB.out.cell 3
      clear hdk
      have HRE := Lib.hid (reopened_any (x := x.1.fi) ln HDK.out HGO.out.half HM8.out (by have := HWR.out.gen; have := HGN.out; show x.1.gen ≤ _; omega) (.inl rfl) (desk_nib HT.out HNT.out HCB.out))
      go_wp2_with (go_at_call 65; refine HRE.out.mono ?_; rintro _ wf ⟨rfl, jg3, j3, f3, hd3, hr3, hg3, hj3, hc3⟩; have HF := Lib.hid (And.intro hd3 (And.intro hr3 (And.intro hg3 (And.intro hj3 hc3)))); clear hd3 hr3 hg3 hj3 hc3)
      go_ret
      have hgf : x.1.fi.gen = x.1.gen := rfl
      exact ⟨rfl, jg3, j3, f3, HF.out.1, by have := HWR.out.gen; have := HF.out.2.2.1; omega, .inr (Nat.le_trans HCB.out.size HF.out.2.2.2.1), HCB.out.trans (HF.out.2.2.2.2.mono fun k _ e => .inl e), (fun e _ _ => by rw [e] at b1; exact absurd b1 (by decide)), by rw [HF.out.2.1]; exact HBX.out⟩
    · have d1 : decide (kn < 0) = false := by simpa using hk0
      by_cases hk1 : ((costW x.2.1 : Nat) : Int) ≤ kn
      · have d2 : decide (((costW x.2.1 : Nat) : Int) ≤ kn) = true := by simpa using hk1
        have HMK := Lib.hid (dmakes_any (cap := capa) HD9.out HO9.out (by have := HWR.out.cost; omega) (by have := HG.out.half.la; omega) (-1))
        go_upto_region 29 with (go_at_call 63; refine HMK.out.mono ?_; rintro _ wa ⟨rfl, ⟨C0, g0, C1, g1, hpa⟩, hca⟩; have HA := Lib.hid (And.intro hpa hca); clear hpa hca)
        have HXA' : Hid (Blk wa w.heap.size 57 #[.int .i64 kd, .int .i64 on, .int .i64 kn, .int .i64 ln, .int .i64 rk, .slice A body.length cap]) := Lib.hid (HX9.out.chg HA.out.2 fun e => by have := HLT.out; omega)
        have z3 : wa.cell? ⟨tg, 3, none⟩ = some (.slice Ab j.recs.length cb) := HA.out.1.blk.cell 3
        have zf := HA.out.1.blk.frozen 3
        have HBK := Lib.hid (HA.out.1.book (HR9.out.chg HA.out.2 fun k _ e => .inl e))
        go_upto_region 30 with fail
        generalize wa.setCell ⟨tg, 3, none⟩ (.slice (some ⟨w5.heap.size, 0, none⟩) 1 1) = wb at HBK ⊢
        clear z3 zf r0 r2
        have HXB : Hid (Blk wb w.heap.size 57 #[.int .i64 kd, .int .i64 on, .int .i64 kn, .int .i64 ln, .int .i64 rk, .slice A body.length cap]) := Lib.hid (HXA'.out.chg HBK.out.2 fun e => by have := HLT.out; omega)
        have HCB : Hid (Chg (fun i => i = tg ∨ i = jg) w wb) := Lib.hid (HC9.out.trans ((HA.out.2.trans HBK.out.2).mono fun k _ e => .inl e))
        have hdk := HBK.out.1
        rw [HWR.out.last] at hdk
        have HDK := Lib.hid hdk
        have HGO := Lib.hid (HWR.out.full (-1) (.inl (by omega)))
        have s0 : wb.cell? ⟨w.heap.size, 0, none⟩ = some (.int .i64 kd) := HXB.out.cell 0
        have s3 : wb.cell? ⟨w.heap.size, 3, none⟩ = some (.int .i64 ln) := HXB.out.cell 3
        clear hdk
        have HRE := Lib.hid (reopened_any (x := x.1.fi) ln HDK.out HGO.out.half HM8.out (by have := HWR.out.gen; have := HGN.out; show x.1.gen ≤ _; omega) (.inl rfl) (desk_nib HT.out HNT.out HCB.out))
        go_wp2_with (go_at_call 65; refine HRE.out.mono ?_; rintro _ wf ⟨rfl, jg3, j3, f3, hd3, hr3, hg3, hj3, hc3⟩; have HF := Lib.hid (And.intro hd3 (And.intro hr3 (And.intro hg3 (And.intro hj3 hc3)))); clear hd3 hr3 hg3 hj3 hc3)
        go_ret
        have hgf : x.1.fi.gen = x.1.gen := rfl
        exact ⟨rfl, jg3, j3, f3, HF.out.1, by have := HWR.out.gen; have := HF.out.2.2.1; omega, .inr (Nat.le_trans HCB.out.size HF.out.2.2.2.1), HCB.out.trans (HF.out.2.2.2.2.mono fun k _ e => .inl e), (fun e _ _ => by rw [e] at b1; exact absurd b1 (by decide)), by rw [HF.out.2.1]; exact HBX.out⟩
      · have d2 : decide (((costW x.2.1 : Nat) : Int) ≤ kn) = false := by simpa using hk1
        have HTN : Hid (0 ≤ kn ∧ kn < ((costW x.2.1 : Nat) : Int)) := Lib.hid (by omega)
        clear hk0 hk1
        have HMK := Lib.hid (dmakes_any (cap := capa) HD9.out HO9.out (by have := HWR.out.cost; omega) (by have := HG.out.half.la; omega) kn)
        go_upto_region 32 with (go_at_call 63; refine HMK.out.mono ?_; rintro _ wa ⟨rfl, ⟨C0, g0, C1, g1, hpa⟩, hca⟩; have HA := Lib.hid (And.intro hpa hca); clear hpa hca)
        have HXA' : Hid (Blk wa w.heap.size 57 #[.int .i64 kd, .int .i64 on, .int .i64 kn, .int .i64 ln, .int .i64 rk, .slice A body.length cap]) := Lib.hid (HX9.out.chg HA.out.2 fun e => by have := HLT.out; omega)
        have z3 : wa.cell? ⟨tg, 3, none⟩ = some (.slice Ab j.recs.length cb) := HA.out.1.blk.cell 3
        have zf := HA.out.1.blk.frozen 3
        have HBK := Lib.hid (HA.out.1.book (HD9.out.bk.chg HA.out.2 fun k _ e => .inl e))
        go_upto_region 33 with fail
        generalize wa.setCell ⟨tg, 3, none⟩ (.slice Ab j.recs.length cb) = wb at HBK ⊢
        clear z3 zf r0 r2
        have HXB : Hid (Blk wb w.heap.size 57 #[.int .i64 kd, .int .i64 on, .int .i64 kn, .int .i64 ln, .int .i64 rk, .slice A body.length cap]) := Lib.hid (HXA'.out.chg HBK.out.2 fun e => by have := HLT.out; omega)
        have HCB : Hid (Chg (fun i => i = tg ∨ i = jg) w wb) := Lib.hid (HC9.out.trans ((HA.out.2.trans HBK.out.2).mono fun k _ e => .inl e))
        have s3 : wb.cell? ⟨w.heap.size, 3, none⟩ = some (.int .i64 ln) := HXB.out.cell 3
        have HHF := Lib.hid (HWR.out.torn kn HTN.out.1 HTN.out.2)
        have HRE := Lib.hid (reopened_any (x := j.fi) ln HBK.out.1 HHF.out HK.out (by have := HGN.out; show j.gen ≤ _; omega) HWR.out.side (desk_nib HT.out HNT.out HCB.out))
        go_wp2_with (go_at_call 65; refine HRE.out.mono ?_; rintro _ wf ⟨rfl, jg3, j3, f3, hd3, hr3, hg3, hj3, hc3⟩; have HF := Lib.hid (And.intro hd3 (And.intro hr3 (And.intro hg3 (And.intro hj3 hc3)))); clear hd3 hr3 hg3 hj3 hc3)
        go_ret
        have hgf : j.fi.gen = j.gen := rfl
        exact ⟨rfl, jg3, j3, f3, HF.out.1, by have := HF.out.2.2.1; omega, .inr (Nat.le_trans HCB.out.size HF.out.2.2.2.1), HCB.out.trans (HF.out.2.2.2.2.mono fun k _ e => .inl e), (fun e _ _ => by rw [e] at b1; exact absurd b1 (by decide)), by rw [HF.out.2.1]; exact Nat.le_add_right _ _⟩
  · have hok2 : okB rk body.length = false := by simpa using hok
    rw [hok2] at HGD
    have HXV : Hid (x = (j, [], 121)) := Lib.hid (by rw [← HXA.out]; unfold JP.compact; rw [if_neg (show ¬ (⟨rk, body⟩ : Rc).ok = true from hok)])
    clear hok hok2
    rw [HXV.out] at HD3 ⊢
    dsimp only [List.length_nil]
    go_wp2_with (go_at_call 64; refine HGD.out.mono ?_; rintro _ w4 ⟨rfl, hb4⟩; have H4 := Lib.hid hb4; clear hb4)
    go_ret
    exact HSAME.out _ (HC3.out.trans (Chg.of_below H4.out _)) (HD3.out.over H4.out) (fun e _ _ => by rw [e] at b1; exact absurd b1 (by decide))
set_option maxRecDepth 100000 in
set_option maxHeartbeats 6400000 in
theorem dplays_5 {w : World} {tg jg : Nat} {j : JP} {f : Fls} (kd on kn ln rk : Int) (A : Option Addr) (cap : Nat) (body : List UInt8) (b1 : (kd == 1) = false) (b6 : (kd == 6) = false) (b2 : (kd == 2) = false) (b7 : (kd == 7) = false) (b5 : (kd == 5) = true) (h : Desk w tg jg j f) (hg : j.gen ≤ 1125899906842000) (hr : RdB w w.heap.size A body.length body) (hA : 0 < body.length → ∀ b o s, A = some ⟨b, o, s⟩ → b ≠ tg ∧ b ≠ jg)
    (_hn : body.length ≤ 140737488351232) (_hkn : kn ≤ 9223372036854775807) (ht : Nibs w) : Calls Tryd.prog 31 #[.pointer (some ⟨tg, 0, none⟩), .agg #[.int .i64 kd, .int .i64 on, .int .i64 kn, .int .i64 ln, .int .i64 rk, .slice A body.length cap]] w (DPl w tg jg j kd ⟨rk, body⟩) := by
  obtain ⟨A0, c0, A1, c1, vb, Kb, h, hk, hgood⟩ := h
  obtain ⟨Ab, cb, rfl, hcb1, hcb2⟩ := h.bk.shape hk
  obtain ⟨w1, hw1⟩ : ∃ w1, w1 = w.alloc (.cells #[.int .i64 kd, .int .i64 on, .int .i64 kn, .int .i64 ln, .int .i64 rk, .slice A body.length cap] 57) := ⟨_, rfl⟩
  have hb1 : Below w.heap.size w w1 := by rw [hw1]; exact one_box' _ _
  have hX1 : Blk w1 w.heap.size 57 #[.int .i64 kd, .int .i64 on, .int .i64 kn, .int .i64 ln, .int .i64 rk, .slice A body.length cap] := by rw [hw1]; exact Blk.new _ _ _
  have HD := Lib.hid h
  have HD1 := Lib.hid (h.over hb1)
  have HX1 := Lib.hid hX1
  have HB1 := Lib.hid hb1
  have HK := Lib.hid hk
  have HG := Lib.hid hgood
  have HGN := Lib.hid hg
  have HT := Lib.hid ht
  have HRR : Hid (∀ W, Chg (fun i => i = tg ∨ i = jg) w W → RdB W W.heap.size A body.length body) := Lib.hid fun W hW => (hr.chgF hW (Nat.le_refl _) fun h0 b o s e hs => by
    have h1 := hA h0 b o s e
    exact hs.elim h1.1 h1.2).more hW.size
  have HLT : Hid (tg < w.heap.size ∧ jg < w.heap.size ∧ tg ≠ jg) := Lib.hid ⟨h.blk.lt, h.pj.lt, h.ne⟩
  have hnt1 : 0 ≠ tg := fun e => by
    have h0 := ht 0 (by omega)
    subst e
    rw [h.blk.cell 0] at h0
    cases h0
  have hnt2 : 0 ≠ jg := by
    obtain ⟨s, hB, _⟩ := h.pj.blk
    exact ht.off hB rfl
  have HNT := Lib.hid (And.intro hnt1 hnt2)
  have HSAME : Hid (∀ W, Chg (fun i => i = tg ∨ i = jg) w W → DAt W tg jg A0 c0 A1 c1 (.slice Ab j.recs.length cb) Kb j f (j.file : Int) → (kd = 1 → (⟨rk, body⟩ : Rc).ok = true → j.text.length + 8 + body.length ≤ 65536 → False) → DPl w tg jg j kd ⟨rk, body⟩ (.returned (.bool true)) W) := Lib.hid fun W hW hd hno => ⟨rfl, jg, j, f, ⟨A0, c0, A1, c1, _, Kb, hd, hk, hgood⟩, by omega, .inl rfl, hW, fun e e2 e3 => (hno e e2 e3).elim, Nat.le_add_right _ _⟩
  have k0 : w1.cell? ⟨w.heap.size, 0, none⟩ = some (.int .i64 kd) := hX1.cell 0
  have t0 : w1.cell? ⟨tg, 0, none⟩ = some (.pointer (some ⟨jg, 0, none⟩)) := (h.over hb1).blk.cell 0
  have t3 : w1.cell? ⟨tg, 3, none⟩ = some (.slice Ab j.recs.length cb) := (h.over hb1).blk.cell 3
  have HW1 := Lib.hid hw1
  clear h hk hgood hg hr hA ht hw1 hb1 hX1 hcb1 hcb2 hnt1 hnt2
  go_enter Tryd.func31, Tryd.ntmps31
  go_upto_region 3 with fail
  rw [← HW1.out]
  clear HW1
  have k2 : w1.cell? ⟨w.heap.size, 2, none⟩ = some (.int .i64 kn) := HX1.out.cell 2
  have HRE := Lib.hid (reopened_any (x := j.fi) kn HD1.out HG.out.half HK.out (by have := HGN.out; show j.gen ≤ _; omega) (.inl rfl) (HT.out.below HB1.out))
  go_wp2_with (go_at_call 65; refine HRE.out.mono ?_; rintro _ wf ⟨rfl, jg3, j3, f3, hd3, hr3, hg3, hj3, hc3⟩; have HF := Lib.hid (And.intro hd3 (And.intro hr3 (And.intro hg3 (And.intro hj3 hc3)))); clear hd3 hr3 hg3 hj3 hc3)
  go_ret
  have hgf : j.fi.gen = j.gen := rfl
  exact ⟨rfl, jg3, j3, f3, HF.out.1, by have := HF.out.2.2.1; omega, .inr (Nat.le_trans HB1.out.size HF.out.2.2.2.1), (Chg.of_below HB1.out _).trans (HF.out.2.2.2.2.mono fun k _ e => .inl e), (fun e _ _ => by rw [e] at b1; exact absurd b1 (by decide)), by rw [HF.out.2.1]; exact Nat.le_add_right _ _⟩
set_option maxRecDepth 100000 in
set_option maxHeartbeats 6400000 in
theorem dplays_0 {w : World} {tg jg : Nat} {j : JP} {f : Fls} (kd on kn ln rk : Int) (A : Option Addr) (cap : Nat) (body : List UInt8) (b1 : (kd == 1) = false) (b6 : (kd == 6) = false) (b2 : (kd == 2) = false) (b7 : (kd == 7) = false) (b5 : (kd == 5) = false) (h : Desk w tg jg j f) (hg : j.gen ≤ 1125899906842000) (hr : RdB w w.heap.size A body.length body) (hA : 0 < body.length → ∀ b o s, A = some ⟨b, o, s⟩ → b ≠ tg ∧ b ≠ jg)
    (_hn : body.length ≤ 140737488351232) (_hkn : kn ≤ 9223372036854775807) (ht : Nibs w) : Calls Tryd.prog 31 #[.pointer (some ⟨tg, 0, none⟩), .agg #[.int .i64 kd, .int .i64 on, .int .i64 kn, .int .i64 ln, .int .i64 rk, .slice A body.length cap]] w (DPl w tg jg j kd ⟨rk, body⟩) := by
  obtain ⟨A0, c0, A1, c1, vb, Kb, h, hk, hgood⟩ := h
  obtain ⟨Ab, cb, rfl, hcb1, hcb2⟩ := h.bk.shape hk
  obtain ⟨w1, hw1⟩ : ∃ w1, w1 = w.alloc (.cells #[.int .i64 kd, .int .i64 on, .int .i64 kn, .int .i64 ln, .int .i64 rk, .slice A body.length cap] 57) := ⟨_, rfl⟩
  have hb1 : Below w.heap.size w w1 := by rw [hw1]; exact one_box' _ _
  have hX1 : Blk w1 w.heap.size 57 #[.int .i64 kd, .int .i64 on, .int .i64 kn, .int .i64 ln, .int .i64 rk, .slice A body.length cap] := by rw [hw1]; exact Blk.new _ _ _
  have HD := Lib.hid h
  have HD1 := Lib.hid (h.over hb1)
  have HX1 := Lib.hid hX1
  have HB1 := Lib.hid hb1
  have HK := Lib.hid hk
  have HG := Lib.hid hgood
  have HGN := Lib.hid hg
  have HT := Lib.hid ht
  have HRR : Hid (∀ W, Chg (fun i => i = tg ∨ i = jg) w W → RdB W W.heap.size A body.length body) := Lib.hid fun W hW => (hr.chgF hW (Nat.le_refl _) fun h0 b o s e hs => by
    have h1 := hA h0 b o s e
    exact hs.elim h1.1 h1.2).more hW.size
  have HLT : Hid (tg < w.heap.size ∧ jg < w.heap.size ∧ tg ≠ jg) := Lib.hid ⟨h.blk.lt, h.pj.lt, h.ne⟩
  have hnt1 : 0 ≠ tg := fun e => by
    have h0 := ht 0 (by omega)
    subst e
    rw [h.blk.cell 0] at h0
    cases h0
  have hnt2 : 0 ≠ jg := by
    obtain ⟨s, hB, _⟩ := h.pj.blk
    exact ht.off hB rfl
  have HNT := Lib.hid (And.intro hnt1 hnt2)
  have HSAME : Hid (∀ W, Chg (fun i => i = tg ∨ i = jg) w W → DAt W tg jg A0 c0 A1 c1 (.slice Ab j.recs.length cb) Kb j f (j.file : Int) → (kd = 1 → (⟨rk, body⟩ : Rc).ok = true → j.text.length + 8 + body.length ≤ 65536 → False) → DPl w tg jg j kd ⟨rk, body⟩ (.returned (.bool true)) W) := Lib.hid fun W hW hd hno => ⟨rfl, jg, j, f, ⟨A0, c0, A1, c1, _, Kb, hd, hk, hgood⟩, by omega, .inl rfl, hW, fun e e2 e3 => (hno e e2 e3).elim, Nat.le_add_right _ _⟩
  have k0 : w1.cell? ⟨w.heap.size, 0, none⟩ = some (.int .i64 kd) := hX1.cell 0
  have t0 : w1.cell? ⟨tg, 0, none⟩ = some (.pointer (some ⟨jg, 0, none⟩)) := (h.over hb1).blk.cell 0
  have t3 : w1.cell? ⟨tg, 3, none⟩ = some (.slice Ab j.recs.length cb) := (h.over hb1).blk.cell 3
  have HW1 := Lib.hid hw1
  clear h hk hgood hg hr hA ht hw1 hb1 hX1 hcb1 hcb2 hnt1 hnt2
  go_enter Tryd.func31, Tryd.ntmps31
  go_upto_region 3 with fail
  rw [← HW1.out]
  clear HW1
  go_wp2_with fail
  go_ret
  exact HSAME.out _ (Chg.of_below HB1.out _) HD1.out (fun e _ _ => by rw [e] at b1; exact absurd b1 (by decide))
theorem dplays_any {w : World} {tg jg : Nat} {j : JP} {f : Fls} (kd on kn ln rk : Int) (A : Option Addr) (n cap : Nat) (body : List UInt8) (h : Desk w tg jg j f) (hg : j.gen ≤ 1125899906842000) (hr : RdB w w.heap.size A n body) (hA : 0 < n → ∀ b o s, A = some ⟨b, o, s⟩ → b ≠ tg ∧ b ≠ jg)
    (hn : n ≤ 140737488351232) (hkn : kn ≤ 9223372036854775807) (ht : Nibs w) : Calls Tryd.prog 31 #[.pointer (some ⟨tg, 0, none⟩), .agg #[.int .i64 kd, .int .i64 on, .int .i64 kn, .int .i64 ln, .int .i64 rk, .slice A n cap]] w (DPl w tg jg j kd ⟨rk, body⟩) := by
  obtain rfl := hr.lenB
  have n1 : ∀ x : Int, kd ≠ x → (kd == x) = false := fun x h => by simpa using h
  have y1 : ∀ x : Int, kd = x → (kd == x) = true := fun x h => by simpa using h
  by_cases h1 : kd = 1
  · exact dplays_1 kd on kn ln rk A cap body (y1 1 h1) h hg hr hA hn hkn ht
  by_cases h6 : kd = 6
  · exact dplays_6 kd on kn ln rk A cap body (n1 1 h1) (y1 6 h6) (n1 2 (by omega)) h hg hr hA hn hkn ht
  by_cases h2 : kd = 2
  · exact dplays_2 kd on kn ln rk A cap body (n1 1 h1) (n1 6 h6) (y1 2 h2) h hg hr hA hn hkn ht
  by_cases h7 : kd = 7
  · exact dplays_7 kd on kn ln rk A cap body (n1 1 h1) (n1 6 h6) (n1 2 h2) (y1 7 h7) h hg hr hA hn hkn ht
  by_cases h5 : kd = 5
  · exact dplays_5 kd on kn ln rk A cap body (n1 1 h1) (n1 6 h6) (n1 2 h2) (n1 7 h7) (y1 5 h5) h hg hr hA hn hkn ht
  · exact dplays_0 kd on kn ln rk A cap body (n1 1 h1) (n1 6 h6) (n1 2 h2) (n1 7 h7) (n1 5 h5) h hg hr hA hn hkn ht
end Go.Proofs.YtpkdalpjfcopbaaDoor
