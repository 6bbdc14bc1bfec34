/-
  The program's journal: valid, New, Size, Generation, Append, Compact.
-/
import Derived.Test.YtpkdalpjfcopbaaDoorKOut
namespace Go.Proofs.YtpkdalpjfcopbaaDoor
open Go.RowKit
def okB (kd : Int) (n : Nat) : Bool := decide (1 ≤ kd ∧ kd ≤ 4 ∧ n ≤ 4200)
theorem okB_rc (r : Rc) : okB r.kind r.body.length = r.ok := rfl
set_option maxRecDepth 100000 in
theorem valid_any (kd : Int) (A : Option Addr) (n cap : Nat) (w : World) (hn : n ≤ 9223372036854775807) : Calls Tryd.prog 55 #[.agg #[.int .i64 kd, .slice A n cap]] w fun e w' => e = .returned (.bool (okB kd n)) ∧ Below w.heap.size w w' := by
  have hb := one_box' w (.cells #[.int .i64 kd, .slice A n cap] 34)
  have HB := Lib.hid hb
  clear hb
  obtain ⟨b, hb⟩ : ∃ b, b = okB kd n := ⟨_, rfl⟩
  have hb2 := hb
  unfold okB at hb2
  rw [← hb]
  by_cases h1 : 1 ≤ kd
  · have d1 : decide (1 ≤ kd) = true := by simpa using h1
    by_cases h2 : kd ≤ 4
    · have d2 : decide (kd ≤ 4) = true := by simpa using h2
      by_cases h3 : n ≤ 4200
      · have e : b = true := by rw [hb2]; simp [h1, h2, h3]
        have h3i : (n : Int) ≤ 4200 := by omega
        rw [e]
        clear hb hb2 e
        go_enter Tryd.func55, Tryd.ntmps55
        go_wp2
        go_ret
        exact ⟨rfl, HB.out⟩
      · have e : b = false := by rw [hb2]; simp [h3]
        have h3i : ¬ (n : Int) ≤ 4200 := by omega
        have d3 : decide ((n : Int) ≤ 4200) = false := by simpa using h3i
        rw [e]
        clear hb hb2 e
        go_enter Tryd.func55, Tryd.ntmps55
        go_wp2
        go_ret
        exact ⟨rfl, HB.out⟩
    · have e : b = false := by rw [hb2]; simp [h2]
      have d2 : decide (kd ≤ 4) = false := by simpa using h2
      rw [e]
      clear hb hb2 e
      go_enter Tryd.func55, Tryd.ntmps55
      go_wp2
      go_ret
      exact ⟨rfl, HB.out⟩
  · have e : b = false := by rw [hb2]; simp [h1]
    have d1 : decide (1 ≤ kd) = false := by simpa using h1
    rw [e]
    clear hb hb2 e
    go_enter Tryd.func55, Tryd.ntmps55
    go_wp2
    go_ret
    exact ⟨rfl, HB.out⟩
theorem Size_any {w : World} {jg : Nat} {j : JP} (h : PJAt w jg j) : Calls Tryd.prog 22 #[.pointer (some ⟨jg, 0, none⟩)] w fun e w' => e = .returned (.int .i64 ((j.text.length : Nat) : Int)) ∧ w' = w := by
  obtain ⟨s, hB, _⟩ := h.blk
  have c2 : w.cell? ⟨jg, 2, none⟩ = some (.int .i64 ((j.text.length : Nat) : Int)) := hB.cell 2
  clear hB h
  go_enter Tryd.func22, Tryd.ntmps22
  go_wp2
  go_ret
  exact ⟨rfl, rfl⟩
theorem Generation_any {w : World} {jg : Nat} {j : JP} (h : PJAt w jg j) : Calls Tryd.prog 24 #[.pointer (some ⟨jg, 0, none⟩)] w fun e w' => e = .returned (.int .i64 (j.gen : Int)) ∧ w' = w := by
  obtain ⟨s, hB, _⟩ := h.blk
  have c1 : w.cell? ⟨jg, 1, none⟩ = some (.int .i64 (j.gen : Int)) := hB.cell 1
  clear hB h
  go_enter Tryd.func24, Tryd.ntmps24
  go_wp2
  go_ret
  exact ⟨rfl, rfl⟩
/-- What begin hands out, as the one write of a call. -/
theorem wout_one {w : World} {base g c : Nat} {x : Wr} {n : Nat} (hn : x.bs.length = n) (h0 : 0 < n) (ho : w.ownsRow base 5 1 (.slice (some ⟨g, 0, none⟩) n c) n (bvs x.bs)) (hb : base ≤ w.heap.size) :
    WOut (w.alloc (.cells #[.int .i64 x.file, .bool x.start, .slice (some ⟨g, 0, none⟩) n c] 94)) base (.slice (some ⟨w.heap.size, 0, none⟩) 1 1) [x] := by
  subst hn
  refine .inr ⟨x, w.heap.size, some ⟨g, 0, none⟩, c, rfl, rfl, hb, Blk.new _ _ _, g, 0, [], rfl, rfl, rfl, h0, ?_⟩
  rw [Nat.zero_add, Nat.zero_add]
  exact ho.alloc _
theorem wout_off {w : World} {base g c m : Nat} {x : Wr} {n : Nat} {pre : List UInt8} (hm : pre.length = m) (hn : x.bs.length = n) (h0 : 0 < n) (ho : w.ownsRow base 5 1 (.slice (some ⟨g, 0, none⟩) (m + n) (m + c)) (m + n) (bvs (pre ++ x.bs))) (hb : base ≤ w.heap.size) :
    WOut (w.alloc (.cells #[.int .i64 x.file, .bool x.start, .slice (some ⟨g, m, none⟩) n c] 94)) base (.slice (some ⟨w.heap.size, 0, none⟩) 1 1) [x] := by
  subst hn
  exact .inr ⟨x, w.heap.size, some ⟨g, m, none⟩, c, rfl, rfl, hb, Blk.new _ _ _, g, m, pre, rfl, hm, rfl, h0, ho.alloc _⟩
set_option maxRecDepth 100000 in
set_option maxHeartbeats 800000 in
theorem New_any {w : World} (ht : Nibs w) : Calls Tryd.prog 49 #[] w fun e w' => ∃ jg v, e = .returned (.tuple #[.pointer (some ⟨jg, 0, none⟩), v]) ∧ w.heap.size ≤ jg ∧ PJAt w' jg newJ ∧ WOut w' w.heap.size v [⟨0, true, headB 1 0⟩] ∧ Below w.heap.size w w' := by
  obtain ⟨w1, hw1⟩ : ∃ w1, w1 = w.alloc (.cells #[.int .i64 0, .int .i64 1, .int .i64 0, .int .u8 0, .int .u8 0, .int .u8 0, .int .u8 0] 96) := ⟨_, rfl⟩
  have hb1 : Below w.heap.size w w1 := by rw [hw1]; exact one_box' _ _
  have hB1 : Blk w1 w.heap.size 96 (jcs 0 ((1 : Nat) : Int) 0 (0, 0, 0, 0)) := by rw [hw1]; exact Blk.new _ _ _
  have h0 := ht 0 (by omega)
  have hlt : 0 < w.heap.size := by
    rcases Nat.lt_or_ge 0 w.heap.size with h1 | h1
    · exact h1
    · unfold World.cell? at h0
      rw [Array.getElem?_eq_none h1] at h0
      cases h0
  have HBG := Lib.hid (begin_any w.heap.size 0 0 1 (0, 0, 0, 0) none 0 0 [] w1 hB1 (RcRd.nil none) (by simp) (by omega) (by simp [bodies]) (ht.below hb1) (by omega))
  have HW1 := Lib.hid hw1
  have HB1 := Lib.hid hb1
  clear hw1 hb1 hB1 h0 hlt ht
  go_enter Tryd.func49, Tryd.ntmps49
  go_wp2_with fail
  rw [← HW1.out]
  refine HBG.out.mono ?_
  rintro _ w2 ⟨g, c, s', rfl, ho, hl, hj, hc⟩
  have HO := Lib.hid ho
  have HJ := Lib.hid (And.intro hj hl)
  have HC := Lib.hid hc
  clear ho hl hj hc HBG
  go_wp2
  go_ret2
  have hb2 : Below w.heap.size w w2 := HB1.out.trans (HC.out.to_below HB1.out.size fun k e => by omega)
  refine ⟨_, _, rfl, Nat.le_refl _, ?_, wout_one (x := ⟨0, true, headB 1 0⟩) (headB_length 1 0) (by omega) (own_base HO.out HB1.out.size) hb2.size, hb2.trans ((Below.refl _ _).alloc hb2.size _)⟩
  exact PJAt.below ⟨s', HJ.out.1, HJ.out.2⟩ (one_box' _ _)
/-- What Append comes to. -/
def JP.append (j : JP) (r : Rc) : JP × List Wr × Nat :=
  if r.ok = true then
    if j.text.length + 8 + r.body.length ≤ 65536 then ({ j with recs := j.recs ++ [r] }, [⟨(j.file : Int), false, frameB (last4 j.text) r⟩], 0) else (j, [], 17)
  else (j, [], 121)
/-- What Compact comes to. -/
def JP.compact (j : JP) (r : Rc) : JP × List Wr × Nat :=
  if r.ok = true then
    if j.gen = 4611686018427387904 then (j, [], 3) else (⟨1 - j.file, j.gen + 1, 1, [r]⟩, [⟨((1 - j.file : Nat) : Int), true, textB (j.gen + 1) 1 [r]⟩], 0)
  else (j, [], 121)
/-- What a call that may write comes to. -/
def Wrote (w : World) (jg : Nat) (x : JP × List Wr × Nat) (e : Ending) (w' : World) : Prop :=
  ∃ v, e = .returned (.tuple #[v, .int .i64 (x.2.2 : Int)]) ∧ PJAt w' jg x.1 ∧ WOut w' w.heap.size v x.2.1 ∧ Chg (fun k => k = jg) w w'
theorem JP.append_text {j : JP} {r : Rc} : ({ j with recs := j.recs ++ [r] } : JP).text = j.text ++ frameB (last4 j.text) r := textB_snoc _ _ _ _
theorem len4 {j : JP} : 18 ≤ j.text.length := by
  rw [JP.text, textB_length]
  omega
set_option maxRecDepth 100000 in
set_option maxHeartbeats 1600000 in
theorem Append_any {w : World} {jg : Nat} {j : JP} (kd : Int) (A : Option Addr) (n cap : Nat) (body : List UInt8) (h : PJAt w jg j) (hl : j.text.length ≤ 65536) (hr : RdB w w.heap.size A n body) (hn : n ≤ 140737488355328) (ht : Nibs w) :
    Calls Tryd.prog 26 #[.pointer (some ⟨jg, 0, none⟩), .agg #[.int .i64 kd, .slice A n cap]] w (Wrote w jg (j.append ⟨kd, body⟩)) := by
  obtain ⟨w1, hw1⟩ : ∃ w1, w1 = w.alloc (.cells #[.int .i64 kd, .slice A n cap] 34) := ⟨_, rfl⟩
  have hb1 : Below w.heap.size w w1 := by rw [hw1]; exact one_box' _ _
  have hB1 : Blk w1 w.heap.size 34 #[.int .i64 kd, .slice A n cap] := by rw [hw1]; exact Blk.new _ _ _
  have hlb := hr.lenB
  have HV := Lib.hid (valid_any kd A n cap w1 (by omega))
  obtain ⟨x, hx⟩ : ∃ x, x = j.append ⟨kd, body⟩ := ⟨_, rfl⟩
  rw [← hx]
  have hx2 := hx
  unfold JP.append at hx2
  have eok : (⟨kd, body⟩ : Rc).ok = okB kd n := by rw [← okB_rc, hlb]
  rw [eok] at hx2
  have c0 : w1.cell? ⟨w.heap.size, 0, none⟩ = some (.int .i64 kd) := hB1.cell 0
  have c1 : w1.cell? ⟨w.heap.size, 1, none⟩ = some (.slice A n cap) := hB1.cell 1
  have HB1 := Lib.hid hb1
  have HX1 := Lib.hid hB1
  have HP := Lib.hid h
  have HR := Lib.hid hr
  have HT := Lib.hid ht
  have HW1 := Lib.hid hw1
  have HL := Lib.hid hlb
  clear hb1 hB1 h hr ht hw1 hlb hx eok
  cases hv : okB kd n with
  | false =>
    rw [hv] at HV hx2
    have HE := Lib.hid (show x = (j, [], 121) from hx2)
    clear hx2 hv
    go_enter Tryd.func26, Tryd.ntmps26
    go_upto_region 1 with fail
    rw [← HW1.out]
    go_wp2_with (go_at_call 55; refine HV.out.mono ?_; rintro _ w2 ⟨rfl, hb2⟩; have HB2 := Lib.hid (Below.then HB1.out hb2); clear hb2)
    go_ret2
    rw [HE.out]
    exact ⟨_, rfl, HP.out.below HB2.out, WOut.nil, Chg.of_below HB2.out _⟩
  | true =>
    rw [hv] at HV hx2
    simp only [if_true] at hx2
    have hkd : ∃ kn : Nat, kd = (kn : Int) ∧ kn ≤ 4 ∧ n ≤ 4200 := by
      simp only [okB, decide_eq_true_eq] at hv
      exact ⟨kd.toNat, by omega, by omega, hv.2.2⟩
    obtain ⟨kn, rfl, hk4, hn4⟩ := hkd
    go_enter Tryd.func26, Tryd.ntmps26
    go_upto_region 1 with fail
    rw [← HW1.out]
    go_upto_region 3 with (go_at_call 55; refine HV.out.mono ?_; rintro _ w2 ⟨rfl, hb2⟩; have HB2 := Lib.hid (Below.then HB1.out hb2); have HX2 := Lib.hid (HX1.out.over hb2); clear hb2)
    clear c0 c1 HV HX1 HB1
    have c0 : w2.cell? ⟨w.heap.size, 0, none⟩ = some (.int .i64 (kn : Int)) := HX2.out.cell 0
    have c1 : w2.cell? ⟨w.heap.size, 1, none⟩ = some (.slice A n cap) := HX2.out.cell 1
    obtain ⟨s2, hj2, hl2⟩ := (HP.out.below HB2.out).blk
    have j2 : w2.cell? ⟨jg, 2, none⟩ = some (.int .i64 ((j.text.length : Nat) : Int)) := hj2.cell 2
    obtain ⟨z, hz⟩ : ∃ z, z = j.text.length := ⟨_, rfl⟩
    rw [← hz] at hl hj2 j2 hx2
    have HZ := Lib.hid hz
    have HJ2 := Lib.hid (And.intro hj2 hl2)
    rw [HL.out] at hx2
    clear hz hj2 hl2
    by_cases hlen : z + 8 + n ≤ 65536
    · rw [if_pos hlen] at hx2
      have HE := Lib.hid hx2
      clear hx2 hv
      have hli : ¬ 65536 < (z : Int) + 8 + (n : Int) := by omega
      have dli : decide (65536 < (z : Int) + 8 + (n : Int)) = false := by simpa using hli
      have e1 : IntKind.i64.wrap ((z : Int) + 8) = (z : Int) + 8 := IntWalk.i64_in _ (by omega)
      have e2 : IntKind.i64.wrap ((z : Int) + 8 + (n : Int)) = (z : Int) + 8 + (n : Int) := IntWalk.i64_in _ (by omega)
      go_quiet (fail)
      clear e1 e2
      have HX3 := Lib.hid (HX2.out.drewN nq)
      have HB3 := Lib.hid (below_drewN HB2.out nq)
      have HJ3 := Lib.hid (And.intro (HJ2.out.1.drewN nq) HJ2.out.2)
      clear c0 c1 j2
      generalize w2.drewN nq = w3 at HX3 HB3 HJ3 ⊢
      have c0 : w3.cell? ⟨w.heap.size, 0, none⟩ = some (.int .i64 (kn : Int)) := HX3.out.cell 0
      have c1 : w3.cell? ⟨w.heap.size, 1, none⟩ = some (.slice A n cap) := HX3.out.cell 1
      have HF := Lib.hid (Frame_any jg _ _ _ s2 kn A n cap body w3 HJ3.out.1 ((HR.out.below HB3.out).more HB3.out.size) hn4 hk4 (HT.out.below HB3.out))
      go_wp2_with (go_at_call 56; refine HF.out.mono ?_; rintro _ w4 ⟨g4, cc, s4, rfl, ho4, hl4, hj4, hc4⟩; have HO4 := Lib.hid ho4; have HJ4 := Lib.hid hj4; have HL4 := Lib.hid hl4; have HC4 := Lib.hid hc4; have j0 : w4.cell? ⟨jg, 0, none⟩ = some (.int .i64 (j.file : Int)) := hj4.cell 0; have j2 : w4.cell? ⟨jg, 2, none⟩ = some (.int .i64 (z : Int)) := hj4.cell 2; have f2 := hj4.frozen 2; clear ho4 hl4 hj4 hc4)
      go_ret2
      have hc5 := (Chg.refl (fun x => x = jg) w4).setCell (p := ⟨jg, 2, none⟩) (.inl rfl) (.int .i64 ((z : Int) + (8 + (n : Int))))
      have ho5 := own_chg HO4.out hc5 (bgn_off HO4.out HJ4.out)
      have hj5 := HJ4.out.set_ 2 (.int .i64 ((z : Int) + (8 + (n : Int))))
      have hz5 : (w4.setCell ⟨jg, 2, none⟩ (.int .i64 ((z : Int) + (8 + (n : Int))))).heap.size = w4.heap.size := by simp [World.setCell]
      generalize w4.setCell ⟨jg, 2, none⟩ (.int .i64 ((z : Int) + (8 + (n : Int)))) = w5 at hc5 ho5 hj5 hz5 ⊢
      have hc : Chg (fun k => k = jg) w w5 := ((Chg.of_below HB3.out _).trans HC4.out).trans hc5
      rw [HE.out]
      refine ⟨.slice (some ⟨w4.heap.size, 0, none⟩) 1 1, rfl, PJAt.below ⟨s4, ?_, ?_⟩ (one_box' _ _), ?_, hc.alloc _⟩
      · rw [JP.append_text, List.length_append, ← HZ.out, frameB_length]
        dsimp only
        rw [HL.out]
        exact hj5
      · rw [JP.append_text, last4_frame, HJ3.out.2]
        exact HL4.out
      · rw [HJ3.out.2]
        have e : 12 + n = 4 + (8 + n) := by omega
        rw [e, Nat.add_comm cc 4] at ho5
        rw [← hz5]
        exact wout_off (x := ⟨(j.file : Int), false, frameB (sl s2) ⟨(kn : Int), body⟩⟩) (pre := sl s2) (by simp [sl]) (by rw [frameB_length]; dsimp only; rw [HL.out]) (by omega) (own_base ho5 HB3.out.size) hc.size
    · rw [if_neg hlen] at hx2
      have HE := Lib.hid hx2
      clear hx2 hv
      have hli : 65536 < (z : Int) + 8 + (n : Int) := by omega
      have e1 : IntKind.i64.wrap ((z : Int) + 8) = (z : Int) + 8 := IntWalk.i64_in _ (by omega)
      have e2 : IntKind.i64.wrap ((z : Int) + 8 + (n : Int)) = (z : Int) + 8 + (n : Int) := IntWalk.i64_in _ (by omega)
      go_quiet (fail)
      clear e1 e2
      go_wp2
      go_ret2
      rw [HE.out]
      exact ⟨_, rfl, (HP.out.below HB2.out).chg ((Chg.refl (fun _ => False) w2).drewN nq) (fun h => h), WOut.nil, (Chg.of_below HB2.out _).drewN nq⟩
set_option maxRecDepth 100000 in
set_option maxHeartbeats 1600000 in
theorem Compact_any {w : World} {jg : Nat} {j : JP} (kd : Int) (A : Option Addr) (n cap : Nat) (body : List UInt8) (h : PJAt w jg j) (hf : j.file ≤ 1) (hg : j.gen ≤ 4611686018427387904) (hcap : n ≤ cap) (hr : RdB w w.heap.size A n body) (hn : n ≤ 140737488355328) (hA : 0 < n → ∀ b o s, A = some ⟨b, o, s⟩ → b ≠ jg) (ht : Nibs w) (hjn : 0 ≠ jg) :
    Calls Tryd.prog 35 #[.pointer (some ⟨jg, 0, none⟩), .agg #[.int .i64 kd, .slice A n cap]] w (Wrote w jg (j.compact ⟨kd, body⟩)) := by
  obtain ⟨w1, hw1⟩ : ∃ w1, w1 = w.alloc (.cells #[.int .i64 kd, .slice A n cap] 34) := ⟨_, rfl⟩
  have hb1 : Below w.heap.size w w1 := by rw [hw1]; exact one_box' _ _
  have hB1 : Blk w1 w.heap.size 34 #[.int .i64 kd, .slice A n cap] := by rw [hw1]; exact Blk.new _ _ _
  have hlb := hr.lenB
  have HV := Lib.hid (valid_any kd A n cap w1 (by omega))
  obtain ⟨x, hx⟩ : ∃ x, x = j.compact ⟨kd, body⟩ := ⟨_, rfl⟩
  rw [← hx]
  have hx2 := hx
  unfold JP.compact at hx2
  have eok : (⟨kd, body⟩ : Rc).ok = okB kd n := by rw [← okB_rc, hlb]
  rw [eok] at hx2
  have c0 : w1.cell? ⟨w.heap.size, 0, none⟩ = some (.int .i64 kd) := hB1.cell 0
  have c1 : w1.cell? ⟨w.heap.size, 1, none⟩ = some (.slice A n cap) := hB1.cell 1
  have HB1 := Lib.hid hb1
  have HX1 := Lib.hid hB1
  have HP := Lib.hid h
  have HR := Lib.hid hr
  have HT := Lib.hid ht
  have HNE := Lib.hid hjn
  have HA := Lib.hid hA
  have HW1 := Lib.hid hw1
  have HL := Lib.hid hlb
  clear hb1 hB1 h hr ht hw1 hlb hx eok hjn hA
  cases hv : okB kd n with
  | false =>
    rw [hv] at HV hx2
    have HE := Lib.hid (show x = (j, [], 121) from hx2)
    clear hx2 hv
    go_enter Tryd.func35, Tryd.ntmps35
    go_upto_region 1 with fail
    rw [← HW1.out]
    go_wp2_with (go_at_call 55; refine HV.out.mono ?_; rintro _ w2 ⟨rfl, hb2⟩; have HB2 := Lib.hid (Below.then HB1.out hb2); clear hb2)
    go_ret2
    rw [HE.out]
    exact ⟨_, rfl, HP.out.below HB2.out, WOut.nil, Chg.of_below HB2.out _⟩
  | true =>
    rw [hv] at HV hx2
    simp only [if_true] at hx2
    have hok : (⟨kd, body⟩ : Rc).ok = true := by rw [← okB_rc, HL.out]; exact hv
    have HOK := Lib.hid hok
    clear hok hv
    go_enter Tryd.func35, Tryd.ntmps35
    go_upto_region 1 with fail
    rw [← HW1.out]
    go_upto_region 3 with (go_at_call 55; refine HV.out.mono ?_; rintro _ w2 ⟨rfl, hb2⟩; have HB2 := Lib.hid (Below.then HB1.out hb2); have HX2 := Lib.hid (HX1.out.over hb2); clear hb2)
    clear c0 c1 HV HX1 HB1
    have c0 : w2.cell? ⟨w.heap.size, 0, none⟩ = some (.int .i64 kd) := HX2.out.cell 0
    have c1 : w2.cell? ⟨w.heap.size, 1, none⟩ = some (.slice A n cap) := HX2.out.cell 1
    obtain ⟨s2, hj2, hl2⟩ := (HP.out.below HB2.out).blk
    have j0 : w2.cell? ⟨jg, 0, none⟩ = some (.int .i64 (j.file : Int)) := hj2.cell 0
    have j1 : w2.cell? ⟨jg, 1, none⟩ = some (.int .i64 (j.gen : Int)) := hj2.cell 1
    have f0 := hj2.frozen 0
    have f1 := hj2.frozen 1
    have hjlt := HP.out.lt
    by_cases hgm : j.gen = 4611686018427387904
    · rw [if_pos hgm] at hx2
      have HE := Lib.hid hx2
      have b0 : ((j.gen : Int) == 4611686018427387904) = true := by rw [hgm]; rfl
      clear hx2 hgm
      go_wp2
      go_ret2
      rw [HE.out]
      exact ⟨_, rfl, HP.out.below HB2.out, WOut.nil, Chg.of_below HB2.out _⟩
    · rw [if_neg hgm] at hx2
      have HE := Lib.hid hx2
      have b0 : ((j.gen : Int) == 4611686018427387904) = false := by simp only [beq_eq_false_iff_ne, ne_eq]; omega
      have HG : Hid (j.gen ≠ 4611686018427387904) := Lib.hid hgm
      have HJ2 := Lib.hid hj2
      clear hx2 hgm hj2 hl2
      go_upto_region 7 with fail
      have eF : (1 : Int) - (j.file : Int) = ((1 - j.file : Nat) : Int) := by omega
      have eG : (j.gen : Int) + 1 = ((j.gen + 1 : Nat) : Int) := by omega
      rw [eF, eG]
      have hc3 := ((Chg.refl (fun x => x = jg) w2).setCell (p := ⟨jg, 0, none⟩) (.inl rfl) (.int .i64 ((1 - j.file : Nat) : Int))).setCell (p := ⟨jg, 1, none⟩) (.inl rfl) (.int .i64 ((j.gen + 1 : Nat) : Int))
      have hj3 : Blk _ jg 96 (jcs ((1 - j.file : Nat) : Int) ((j.gen + 1 : Nat) : Int) ((j.text.length : Nat) : Int) s2) := (HJ2.out.set_ 0 (.int .i64 ((1 - j.file : Nat) : Int))).set_ 1 (.int .i64 ((j.gen + 1 : Nat) : Int))
      have hx3 := HX2.out.chg hc3 (by omega)
      clear c0 c1 j0 j1 f0 f1 eF eG
      generalize World.setCell _ _ _ = w3 at hc3 hj3 hx3 ⊢
      have c0 : w3.cell? ⟨w.heap.size, 0, none⟩ = some (.int .i64 kd) := hx3.cell 0
      have c1 : w3.cell? ⟨w.heap.size, 1, none⟩ = some (.slice A n cap) := hx3.cell 1
      have hcw : Chg (fun k => k = jg) w w3 := (Chg.of_below HB2.out _).trans hc3
      obtain ⟨w4, hw4⟩ : ∃ w4, w4 = w3.alloc (.cells #[.int .i64 kd, .slice A n cap] 34) := ⟨_, rfl⟩
      have hb4 : Below w3.heap.size w3 w4 := by rw [hw4]; exact one_box' _ _
      have hB4 : Blk w4 w3.heap.size 34 #[.int .i64 kd, .slice A n cap] := by rw [hw4]; exact Blk.new _ _ _
      have hcw4 : Chg (fun k => k = jg) w w4 := hcw.trans (Chg.of_below hb4 _)
      have hr4 : RdB w4 w4.heap.size A n body := (HR.out.chgF hcw4 (Nat.le_refl _) (fun h0 b o s e => HA.out h0 b o s e)).more hcw4.size
      have hgt : jg < w3.heap.size := Nat.lt_of_lt_of_le hjlt hcw.size
      have hrc : RcRd w4 (fun k => k = jg) (some ⟨w3.heap.size, 0, none⟩) 1 [⟨kd, body⟩] := ⟨rfl, fun k r hk => by
        have : k = 0 := by
          have := (List.getElem?_eq_some_iff.1 hk).1
          simp at this
          omega
        subst this
        simp only [List.getElem?_cons_zero, Option.some.injEq] at hk
        subst hk
        have hl := HL.out
        dsimp only
        rw [hl]
        exact ⟨w3.heap.size, 0, A, cap, rfl, hB4.lt, by omega, hB4.cell 0, hB4.cell 1, hr4, hcap, fun h0 b o s e => HA.out h0 b o s e⟩⟩
      have hbd : bodies [(⟨kd, body⟩ : Rc)] = 8 + n := by simp [bodies, HL.out]
      have hn4 : n ≤ 4200 := by
        obtain ⟨_, _, _, _, h⟩ := Rc.ok_k HOK.out
        have := HL.out
        simp only at h
        omega
      have HBG := Lib.hid (begin_any jg _ _ _ s2 (some ⟨w3.heap.size, 0, none⟩) 1 1 [⟨kd, body⟩] w4 (hj3.over hb4) hrc (by simpa using HOK.out) (by omega) (by omega) (HT.out.chg hcw4 HNE.out) HNE.out)
      have HW4 := Lib.hid hw4
      have HC4 := Lib.hid hcw4
      have HBD := Lib.hid hbd
      clear hw4 hb4 hB4 hcw hcw4 hr4 hgt hrc hbd hc3 hj3 hx3 HX2 HJ2 HR HA HT
      go_wp2_with (first | (go_at_call 50; rw [← HW4.out]; refine HBG.out.mono ?_; rintro _ w5 ⟨g, c, s', rfl, ho, hl, hj, hc⟩; have HO := Lib.hid ho; have HJ := Lib.hid (And.intro hj hl); have HC := Lib.hid (HC4.out.trans hc); clear ho hl hj hc))
      go_ret2
      rw [HE.out]
      have et : (JP.text ⟨1 - j.file, j.gen + 1, 1, [⟨kd, body⟩]⟩) = textB (j.gen + 1) 1 [⟨kd, body⟩] := rfl
      refine ⟨_, rfl, PJAt.below ⟨s', ?_, ?_⟩ (one_box' _ _), wout_one (x := ⟨((1 - j.file : Nat) : Int), true, textB (j.gen + 1) 1 [⟨kd, body⟩]⟩) (textB_length _ _ _) (by omega) (own_base HO.out HC4.out.size) HC.out.size, HC.out.alloc _⟩
      · rw [et, textB_length]
        exact HJ.out.1
      · exact HJ.out.2
end Go.Proofs.YtpkdalpjfcopbaaDoor
