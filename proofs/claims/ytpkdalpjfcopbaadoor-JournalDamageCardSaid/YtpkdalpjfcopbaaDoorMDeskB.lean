/-
  The outright laws' desk: makes, fresh, reopened.
-/
import Derived.Test.YtpkdalpjfcopbaaDoorMDeskA
namespace Go.Proofs.YtpkdalpjfcopbaaDoor
open Go.RowKit
theorem WOut.desk {w w' : World} {base tg t : Nat} {v : Value} {ws : List Wr} {cs : Array Value} (h : WOut w base v ws) (hB : Blk w tg t cs) (h1 : t ≠ 94) (h2 : t ≠ 5) (hc : Chg (fun k => k = tg) w w') : WOut w' base v ws := by
  rcases h with h | ⟨x, g1, A, cap, e1, e2, h3, hW, h4⟩
  · exact .inl h
  · refine .inr ⟨x, g1, A, cap, e1, e2, h3, hW.chg hc fun e => hW.ne_ hB h1.symm e, h4.chg hc fun g o e e2 => ?_⟩
    obtain ⟨g', o', cur, e3, _, hB'⟩ := h4.lt
    rw [e] at e3
    injection e3 with e3
    injection e3 with e3 _
    subst e3
    exact hB'.ne_ hB h2.symm e2
theorem open_costD {f : Fls} {j : JP} {recs : List Rc} {ws : List Wr} (h : openR f = .ok j recs ws) : costW ws ≤ 65537 := by
  have hf := (openR_fine h).1
  unfold openR at h
  have one : ∀ x : Wr, x.bs.length ≤ 65536 → costW [x] ≤ 65537 := fun x hx => by
    unfold costW Wr.cost
    simp only [List.map_cons, List.map_nil, List.sum_cons, List.sum_nil]
    repeat' split
    all_goals omega
  split at h
  · split at h
    · injection h with h1 h2 h3
      subst h3
      exact one _ (by simp [headB_length])
    · cases h
  · split at h
    · injection h with h1 h2 h3
      subst h3
      simp [costW]
    · split at h
      · cases h
      · injection h with h1 h2 h3
        subst h1 h2 h3
        exact one _ hf.len
theorem Desk.of_good {f : Fls} {j : JP} (h : Good f j) : openR f = .ok j j.recs [] := by
  have hp := h.half.pick
  unfold openR
  rw [hp]
  dsimp only
  rw [if_pos (by show j.fi.fin = (f.nth j.file).length; rw [h.text]; rfl)]
  rfl
theorem lastF_take {ws : List Wr} {k : Nat} {x : Wr} (h : ws[k]? = some x) (a : Int) : lastF (ws.take (k + 1)) a = if x.start = true then x.file else lastF (ws.take k) a := by
  rw [List.take_add_one, h]
  simp [lastF, List.foldl_append]
set_option maxRecDepth 100000 in
set_option maxHeartbeats 1600000 in
theorem dmakes_any {w : World} {tg jg : Nat} {A0 A1 : Option Addr} {c0 c1 : Nat} {vb : Value} {K : List Rk} {j : JP} {f : Fls} {file : Int} (h : DAt w tg jg A0 c0 A1 c1 vb K j f file) {Aw : Option Addr} {n cap base : Nat} {ws : List Wr} (hw : WOut w base (.slice Aw n cap) ws) (hc : costW ws ≤ 4398046511104)
    (hl : f.a.length + f.b.length ≤ 4398046511104) (k : Int) :
    Calls Tryd.prog 63 #[.pointer (some ⟨tg, 0, none⟩), .slice Aw n cap, .int .i64 k] w fun e w' => e = .returned (.tuple #[]) ∧ (∃ B0 e0 B1 e1, DAt w' tg jg B0 e0 B1 e1 vb K j (apD ws k f) (lastF ws file)) ∧ Chg (fun i => i = tg) w w' := by
  have hnl := hw.wsN.len
  have hn1 := hw.few
  have p1 : w.cell? ⟨tg, 1, none⟩ = some (.slice A0 f.a.length c0) := h.blk.cell 1
  have p2 : w.cell? ⟨tg, 2, none⟩ = some (.slice A1 f.b.length c1) := h.blk.cell 2
  have HAP := Lib.hid (PApply_any (w := w) Aw n cap ws A0 A1 c0 c1 f k hw.wsN hc (by omega) (Rd.of_own h.o0) (Rd.of_own h.o1) (by omega) (by omega))
  rw [apply_same] at HAP
  have H := Lib.hid h
  have HW := Lib.hid hw
  have HNL := Lib.hid hnl
  have hn2 : n ≤ 1 := by omega
  clear h hw hnl hn1
  go_enter Tryd.func63, Tryd.ntmps63
  go_upto_region 1 with (go_at_call 37; refine HAP.out.mono ?_; rintro _ w2 ⟨B0, e0, B1, e1, rfl, o0, o1, hap, hb⟩; have H2 := Lib.hid (And.intro o0 (And.intro o1 hb)); have q1 := ((H.out.over hb).blk.frozen 1); have q2 := ((H.out.over hb).blk.frozen 2); have r1 : w2.cell? ⟨tg, 1, none⟩ = some (.slice A0 f.a.length c0) := (H.out.over hb).blk.cell 1; have r2 : w2.cell? ⟨tg, 2, none⟩ = some (.slice A1 f.b.length c1) := (H.out.over hb).blk.cell 2; clear o0 o1 hap hb)
  have HD := Lib.hid (H.out.disk H2.out.2.2 H2.out.1 H2.out.2.1)
  generalize (w2.setCell ⟨tg, 1, none⟩ (.slice B0 (apD ws k f).a.length e0)).setCell ⟨tg, 2, none⟩ (.slice B1 (apD ws k f).b.length e1) = w3 at HD ⊢
  have HW3 := Lib.hid (HW.out.desk H.out.blk (by decide) (by decide) HD.out.2)
  have HT : Hid (DAt w3 tg jg B0 e0 B1 e1 vb K j (apD ws k f) (lastF (ws.take 0) file)) := Lib.hid HD.out.1
  have HC : Hid (Chg (fun i => i = tg) w3 w3) := Lib.hid (Chg.refl _ _)
  clear p1 p2 q1 q2 r1 r2
  go_wp2_with fail
  go_loopw [6] (fun i wr => ∃ m : Nat, m ≤ n ∧ i = .int .i64 (m : Int) ∧ Hid (DAt wr tg jg B0 e0 B1 e1 vb K j (apD ws k f) (lastF (ws.take m) file)) ∧ Hid (Chg (fun i => i = tg) w3 wr)) (fun i _ => n - (intOf i).toNat)
  case atStart => exact ⟨0, by omega, rfl, HT, HC⟩
  case round =>
    clear HT HC
    obtain ⟨m, hm, rfl, HT, HC⟩ := hrel
    by_cases hlt : m < n
    · have hI : (m : Int) < (n : Int) := by omega
      obtain ⟨x, hx⟩ : ∃ x, ws[m]? = some x := ⟨ws[m]'(by rw [← HNL.out]; exact hlt), List.getElem?_eq_getElem _⟩
      obtain ⟨g, o, bA, bc, rfl, hg, x0, x1, x2, _⟩ := (HW3.out.desk HD.out.1.blk (by decide) (by decide) HC.out).wsN.at_ m x hx
      have HL := Lib.hid (lastF_take hx file)
      have z4 : wr.cell? ⟨tg, 4, none⟩ = some (.int .i64 (lastF (ws.take m) file)) := HT.out.blk.cell 4
      have zf := HT.out.blk.frozen 4
      clear hx x2
      by_cases hs : x.start = true
      · rw [hs] at x1
        have HF := Lib.hid (HT.out.filed x.file)
        have HS := Lib.hid hs
        clear hs
        go_wp2_with fail
        go_roundw
        case rel =>
          refine ⟨m + 1, by omega, by go_num, Lib.hid ?_, Lib.hid (HC.out.trans HF.out.2)⟩
          rw [HL.out, if_pos HS.out]
          exact HF.out.1
        case measure => simp [intOf] <;> omega
      · have hs2 : x.start = false := by simpa using hs
        rw [hs2] at x1
        have HS := Lib.hid hs
        clear hs hs2
        go_wp2_with fail
        go_roundw
        case rel =>
          refine ⟨m + 1, by omega, by go_num, Lib.hid ?_, HC⟩
          rw [HL.out, if_neg HS.out]
          exact HT.out
        case measure => simp [intOf] <;> omega
    · obtain rfl : m = n := by omega
      have dli : decide ((m : Int) < (m : Int)) = false := by simp
      go_wp2_with fail
      go_end0
      refine ⟨rfl, ⟨B0, e0, B1, e1, ?_⟩, HD.out.2.trans HC.out⟩
      have h1 := HT.out
      rw [List.take_of_length_le (by rw [← HNL.out]; exact Nat.le_refl _)] at h1
      exact h1
set_option maxRecDepth 100000 in
set_option maxHeartbeats 1600000 in
theorem fresh_any {w : World} (ht : Nibs w) :
    Calls Tryd.prog 30 #[] w fun e w' => ∃ tg jg f, e = .returned (.pointer (some ⟨tg, 0, none⟩)) ∧ Desk w' tg jg newJ f ∧ w.heap.size ≤ tg ∧ w.heap.size ≤ jg ∧ Below w.heap.size w w' := by
  have HN := Lib.hid (New_any ht)
  have HT := Lib.hid ht
  clear ht
  go_enter Tryd.func30, Tryd.ntmps30
  go_upto_region 2 with (go_at_call 49; refine HN.out.mono ?_; rintro _ w1 ⟨jg, v1, rfl, hjg, hp1, ho1, hb1⟩; obtain ⟨Aw, cw, rfl⟩ := ho1.shapeN; have H1 := Lib.hid (And.intro hjg (And.intro hp1 (And.intro ho1 hb1))); clear hjg hp1 ho1 hb1)
  have hcost : costW [⟨0, true, headB 1 0⟩] = 19 := by
    have := cost_start (i := 0) (by omega) (headB 1 0)
    rw [headB_length] at this
    exact this
  have HCO := Lib.hid (PCost_any (w := w1) Aw _ cw _ H1.out.2.2.1.wsN (by rw [hcost]; omega) (by simp))
  rw [hcost] at HCO
  clear hcost
  go_upto_region 5 with (go_at_call 36; refine HCO.out.mono ?_; rintro _ w3 ⟨rfl, hb3⟩; have H3 := Lib.hid hb3; clear hb3)
  obtain ⟨w4, hw4⟩ : ∃ w4, w4 = w3.alloc (.cells #[.pointer (some ⟨jg, 0, none⟩), .slice none 0 0, .slice none 0 0, .slice none 0 0, .int .i64 0] 63) := ⟨_, rfl⟩
  rw [← hw4]
  have hb4 : Below w3.heap.size w3 w4 := by rw [hw4]; exact one_box' _ _
  have hB4 : Blk w4 w3.heap.size 63 #[.pointer (some ⟨jg, 0, none⟩), .slice none 0 0, .slice none 0 0, .slice none 0 0, .int .i64 0] := by rw [hw4]; exact Blk.new _ _ _
  have hb14 := Below.then H3.out hb4
  have hD4 : DAt w4 w3.heap.size jg none 0 none 0 (.slice none 0 0) [] newJ ⟨[], []⟩ 0 :=
    ⟨hB4, H1.out.2.1.below hb14, ⟨by simp [bvs], .inl ⟨rfl, rfl⟩⟩, ⟨by simp [bvs], .inl ⟨rfl, rfl⟩⟩, RcB.nil _ _⟩
  have HMK := Lib.hid (dmakes_any (cap := cw) hD4 (H1.out.2.2.1.below hb14) (by have := cost_start (i := 0) (by omega) (headB 1 0); rw [headB_length] at this; exact Nat.le_trans (Nat.le_of_eq this) (by omega)) (by simp) (-1))
  have HB4 : Hid (Below w.heap.size w w4) := Lib.hid (Below.then H1.out.2.2.2 hb14)
  have HS3 : Hid (w.heap.size ≤ w3.heap.size) := Lib.hid (Nat.le_trans H1.out.2.2.2.size H3.out.size)
  have HLF : Hid (lastF [⟨0, true, headB 1 0⟩] 0 = 0) := Lib.hid rfl
  clear hw4 hb4 hB4 hb14 hD4
  go_upto_region 6 with (go_at_call 63; refine HMK.out.mono ?_; rintro _ w5 ⟨rfl, ⟨B0, e0, B1, e1, hp5⟩, hc5⟩; have H5 := Lib.hid (And.intro hp5 hc5); clear hp5 hc5)
  have HG := Lib.hid good_new
  obtain ⟨f, HF⟩ : ∃ f, Hid (apD [⟨0, true, headB 1 0⟩] (-1) ⟨[], []⟩ = f) := ⟨_, Lib.hid rfl⟩
  rw [HF.out] at HG H5
  obtain ⟨l0, l1, m0, m1⟩ := H5.out.1.lens
  simp only [maxLen] at m0 m1
  have HB5 : Hid (Below w.heap.size w w5) := Lib.hid (HB4.out.trans (H5.out.2.to_below HB4.out.size fun k e => by have := HS3.out; omega))
  have HRE := Lib.hid (reads_any (w := w5) (f := f) (Ab := none) (cb := 0) (Rd.of_own H5.out.1.o0) (Rd.of_own H5.out.1.o1) l0 l1 m0 m1 (RcRd.nil none) (Desk.of_good HG.out) (HT.out.below HB5.out))
  have p1 : w5.cell? ⟨w3.heap.size, 1, none⟩ = some (.slice B0 f.a.length e0) := H5.out.1.blk.cell 1
  have p2 : w5.cell? ⟨w3.heap.size, 2, none⟩ = some (.slice B1 f.b.length e1) := H5.out.1.blk.cell 2
  go_wp2_with (go_at_call 32; refine HRE.out.mono ?_; rintro _ w6 ⟨rfl, hb6⟩; have H6 := Lib.hid hb6; clear hb6)
  go_ret
  refine ⟨_, jg, f, rfl, ⟨B0, e0, B1, e1, _, [], H5.out.1.over H6.out, rfl, HG.out⟩, HS3.out, H1.out.1, HB5.out.trans (H6.out.mono HB5.out.size)⟩
end Go.Proofs.YtpkdalpjfcopbaaDoor
