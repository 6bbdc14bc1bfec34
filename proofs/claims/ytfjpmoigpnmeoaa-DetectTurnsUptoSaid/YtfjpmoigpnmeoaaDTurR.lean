/-
  DetectTurns: lends, walked.
-/
import Derived.Test.YtfjpmoigpnmeoaaDTurL
import Derived.Deep.CutRange
namespace Go.Proofs.Ytfjpmoigpnmeoaa
open Go.RowKit
def mk7 (k : Nat) : Int := -700 - (k : Int)
def mks (k : Nat) : List Int := (List.range k).map mk7
theorem mks_succ (k : Nat) : mks (k + 1) = mks k ++ [mk7 k] := by simp [mks, List.range_succ]
theorem mks_len (k : Nat) : (mks k).length = k := by simp [mks]
def LendP (w : World) (B : Nat) (F G : Nat → Prop) (c : Cfg) (D K : Nat) (l : List Ev) (H : Nat) (vG vW vM : Value) (KL : List Gt) (e : Ending) (w' : World) : Prop :=
  e = .returned (.bool true) ∧ ∃ F' l' vR', Pair w' F' c D K l' ∧ l'.length ≤ l.length + 1 ∧ (∀ k, F' k → F k ∨ w.heap.size ≤ k) ∧ HeldW w' B (fun k => F' k ∨ G k) H vG vW vM vR' KL ∧ Chg (fun k => B ≤ k ∧ ¬ G k) w w'
section
variable {w : World} {c : Cfg} {D K H B Bi : Nat} {F G FF : Nat → Prop} {l : List Ev} {vG vW vM vR : Value} {KL : List Gt}
set_option maxRecDepth 100000 in
set_option maxHeartbeats 6400000 in
theorem lends_any (A : Option Addr) (n cap : Nat) (hs : List Int) (kd q inc tick : Int) (hc : c.Ok) (h : Pair w F c D K l) (hn : l.length < 3518437208883) (hFG : ∀ k, F k → ¬ G k) (hGb : ∀ k, G k → k < w.heap.size) (hF1 : ∀ k, F k → FF k) (hF2 : ∀ k, G k → FF k) (hF3 : ∀ k, FF k → F k ∨ G k) (hw : HeldW w B FF H vG vW vM vR KL) (hr : RdI w Bi A n hs) (hBi : Bi ≤ B) (hB : B ≤ w.heap.size) (hFB : ∀ k, F k → B ≤ k) (hm : n ≤ 1048576) :
    Calls Try.prog 58 #[.pointer (some ⟨H, 0, none⟩), .pointer (some ⟨D, 0, none⟩), .pointer (some ⟨K, 0, none⟩), .agg #[.int .i64 kd, .int .i64 q, .int .i64 inc, .int .i64 tick, .slice A n cap]] w (LendP w B F G c D K l H vG vW vM KL) := by
  have HF1 := Lib.hid hF1
  have HF2 := Lib.hid hF2
  have HF3 := Lib.hid hF3
  have HFG := Lib.hid hFG
  have HGb := Lib.hid hGb
  clear hF1 hF2 hF3 hFG hGb
  obtain ⟨i0, hi0, hz0, hz1, hz2⟩ := info_parts info_int
  obtain ⟨Fa, Fb, ha, hb, h3, h4, h5, h6⟩ := h
  have HLn := Lib.hid hr.lenI
  obtain ⟨hwN, hwR⟩ := hw.parts
  obtain ⟨AR, cR, hvR, _, _⟩ := own_shape hwR.own
  subst hvR
  have hb0 := one_box' w (.cells #[.int .i64 kd, .int .i64 q, .int .i64 inc, .int .i64 tick, .slice A n cap] 61)
  have hO := Blk.new w 61 #[.int .i64 kd, .int .i64 q, .int .i64 inc, .int .i64 tick, .slice A n cap]
  obtain ⟨w0, hw0⟩ : ∃ w0, w0 = w.alloc (.cells #[.int .i64 kd, .int .i64 q, .int .i64 inc, .int .i64 tick, .slice A n cap] 61) := ⟨_, rfl⟩
  rw [← hw0] at hb0 hO
  obtain ⟨wd, hwd⟩ : ∃ wd, wd = w0.drew := ⟨_, rfl⟩
  have hbd : Below w0.heap.size w0 wd := by rw [hwd]; exact below_drewN (Below.refl _ _) 1
  have hb0d : Below w.heap.size w wd := hb0.trans (hbd.mono hb0.size)
  have HN := Lib.hid (hwN.over hb0d)
  have HR := Lib.hid (hwR.over hb0d)
  have HO := Lib.hid (hO.over hbd)
  have HA := Lib.hid (ha.below hb0d)
  have HB := Lib.hid (hb.below hb0d)
  have HRD := Lib.hid (hr.below (hb0d.mono (Nat.le_trans hBi hB)))
  have HZ := Lib.hid (And.intro h3 (And.intro h4 (And.intro h5 h6)))
  have HW0 := Lib.hid hw0
  have HWD := Lib.hid hwd
  have hsd : w.heap.size ≤ wd.heap.size := hb0d.size
  have hXl : w.heap.size < wd.heap.size := HO.out.lt
  have HB0 := Lib.hid hb0d
  have HBF : Hid (¬ F w.heap.size) := Lib.hid fun h => by have := h6 _ h; omega
  have HFB := Lib.hid hFB
  have hS0 : wd.cell? ⟨H, 3, none⟩ = some (.slice AR 0 cR) ∧ wd.cell? ⟨w.heap.size, 4, none⟩ = some (.slice A n cap) := ⟨HN.out.blk.cell 3, HO.out.cell 4⟩
  have HS0 := Lib.hid hS0
  clear hw hwN hwR hb0 hO hw0 hwd hbd hb0d h3 h4 h5 h6 ha hb hr hFB hS0
  go_enter Try.func58, Try.ntmps58
  go_upto_region 1 with fail
  rw [← HW0.out]
  go_cut [9] from 102 to 102 (fun v wc => Hid (RoomS wc B FF KL v n (ivs hs) ∧ HeldN wc B FF H vG vW vM (.slice AR 0 cR) KL ∧ Blk wc w.heap.size 61 #[.int .i64 kd, .int .i64 q, .int .i64 inc, .int .i64 tick, .slice A n cap] ∧ PDx wc Fa c D (dOf c l) ∧ RDx wc Fb c K l ∧ RdI wc Bi A n hs ∧ Chg (fun k => B ≤ k ∧ ¬ FF k) wd wc))
  case first =>
    refine wp_region_held_drew (S := fun W => W.cell? ⟨H, 3, none⟩ = some (.slice AR 0 cR) ∧ W.cell? ⟨w.heap.size, 4, none⟩ = some (.slice A n cap)) (by kernel_rfl) (by rw [← HWD.out]; exact HS0.out) (fun hsw => ?_)
    rw [← HWD.out] at hsw ⊢
    refine wpAnyH_take (i := 0) (oi := ?oi0a) (v := ?v0a) ?hi0a (by kernel_rfl) (by kernel_rfl) (by kernel_rfl) ?hq0a ?hy0a (by assumption) ?rest0a
    case hi0a => (simp only [List.getElem?_toArray, List.getElem?_cons_zero]; rfl)
    case hy0a => (refine Or.inl ⟨by rfl, ?_⟩; intro w hSw; (try dsimp only at hSw); go_simp; try with_reducible rfl)
    case hq0a => exact fun _ _ _ h => h
    try simp only [Act.put, List.setIfInBounds_toArray, List.set_cons_zero, List.set_cons_succ]
    refine wpAnyH_take (i := 1) (oi := ?oi1a) (v := ?v1a) ?hi1a (by kernel_rfl) (by kernel_rfl) (by kernel_rfl) ?hq1a ?hy1a (by assumption) ?rest1a
    case hi1a => (simp only [List.getElem?_toArray, List.getElem?_cons_zero, List.getElem?_cons_succ]; rfl)
    case hy1a => (refine Or.inl ⟨by rfl, ?_⟩; intro w hSw; (try dsimp only at hSw); go_simp; try with_reducible rfl)
    case hq1a => exact fun _ _ _ h => h
    try simp only [Act.put, List.setIfInBounds_toArray, List.set_cons_zero, List.set_cons_succ]
    refine wpAnyH_take (i := 2) (oi := ?oi2a) (v := ?v2a) ?hi2a (by kernel_rfl) (by kernel_rfl) (by kernel_rfl) ?hq2a ?hy2a (by assumption) ?rest2a
    case hi2a => (simp only [List.getElem?_toArray, List.getElem?_cons_zero, List.getElem?_cons_succ]; rfl)
    case hy2a => (refine Or.inl ⟨by rfl, ?_⟩; intro w hSw; (try dsimp only at hSw); go_simp; try with_reducible rfl)
    case hq2a => exact fun _ _ _ h => h
    try simp only [Act.put, List.setIfInBounds_toArray, List.set_cons_zero, List.set_cons_succ]
    refine wpAnyH_take (i := 3) (oi := ?oi3a) (v := ?v3a) ?hi3a (by kernel_rfl) (by kernel_rfl) (by kernel_rfl) ?hq3a ?hy3a (by assumption) ?rest3a
    case hi3a => (simp only [List.getElem?_toArray, List.getElem?_cons_zero, List.getElem?_cons_succ]; rfl)
    case hy3a => (refine Or.inl ⟨by rfl, ?_⟩; intro w hSw; (try dsimp only at hSw); go_simp; try with_reducible rfl)
    case hq3a => exact fun _ _ _ h => h
    try simp only [Act.put, List.setIfInBounds_toArray, List.set_cons_zero, List.set_cons_succ]
    refine wpAnyH_take (i := 4) (oi := ?oi4a) (v := ?v4a) ?hi4a (by kernel_rfl) (by kernel_rfl) (by kernel_rfl) ?hq4a ?hy4a (by assumption) ?rest4a
    case hi4a => (simp only [List.getElem?_toArray, List.getElem?_cons_zero, List.getElem?_cons_succ]; rfl)
    case hy4a => (refine Or.inl ⟨by rfl, ?_⟩; intro w hSw; (try dsimp only at hSw); go_simp; try with_reducible rfl)
    case hq4a => exact fun _ _ _ h => h
    try simp only [Act.put, List.setIfInBounds_toArray, List.set_cons_zero, List.set_cons_succ]
    refine wpAnyH_take (i := 5) (oi := ?oi5a) (v := ?v5a) ?hi5a (by kernel_rfl) (by kernel_rfl) (by kernel_rfl) ?hq5a ?hy5a (by assumption) ?rest5a
    case hi5a => (simp only [List.getElem?_toArray, List.getElem?_cons_zero, List.getElem?_cons_succ]; rfl)
    case hy5a => (refine Or.inl ⟨by rfl, ?_⟩; intro w hSw; (try dsimp only at hSw); go_simp; try with_reducible rfl)
    case hq5a => exact fun _ _ _ h => h
    try simp only [Act.put, List.setIfInBounds_toArray, List.set_cons_zero, List.set_cons_succ]
    refine wpAnyH_take (i := 6) (oi := ?oi6a) (v := ?v6a) ?hi6a (by kernel_rfl) (by kernel_rfl) (by kernel_rfl) ?hq6a ?hy6a (by assumption) ?rest6a
    case hi6a => (simp only [List.getElem?_toArray, List.getElem?_cons_zero, List.getElem?_cons_succ]; rfl)
    case hy6a => (refine Or.inl ⟨by rfl, ?_⟩; intro w hSw; (try dsimp only at hSw); go_simp; try with_reducible rfl)
    case hq6a => exact fun _ _ _ h => h
    try simp only [Act.put, List.setIfInBounds_toArray, List.set_cons_zero, List.set_cons_succ]
    refine wpAnyH_ready (rs := [7]) (by kernel_rfl) (by simp) ?_
    refine AllReadyH.cons (o := ?o7a) ?ho7a (fun K hK => ?st7a) ?mo7a
    case ho7a => (simp only [List.getElem?_toArray, List.getElem?_cons_zero, List.getElem?_cons_succ]; rfl)
    · skip
      refine step_append_any wd (by rfl) _ _ 22 (by rfl) B 3 i0 _ 1 8 u_ints hi0 hz0 hz1 hz2 rfl (by decide) (.slice AR 0 cR) 0 [] (by rfl) HR.out.own Bi A n cap (ivs hs) (by rfl) HRD.out (ivs_one _) (by simp only [maxLen]; omega) (by omega) (Nat.le_trans hB hsd) ?_
      intro u1 w1 ho1 hg1 hat1
      rw [Nat.zero_add, List.nil_append] at ho1
      have hc1 := Chg.of_grown hg1
      have hFd : ∀ k, FF k → k < wd.heap.size := fun k hk => Nat.lt_of_lt_of_le ((HF3.out k hk).elim (HZ.out.2.2.2 k) (HGb.out k)) hsd
      have hu1 : ∀ g, u1.ownBlock = some g → (Value.slice AR 0 cR).ownBlock = some g ∨ wd.heap.size ≤ g := fun g hg => hat1.elim (fun e => .inl (e ▸ hg)) (fun e => .inr (by rw [e] at hg; injection hg with hg; omega))
      have hR1 := HR.out.app HN.out hFd ho1 hu1
      have hN1 := HN.out.room HR.out hc1
      have hO1 := HO.out.chg hc1 fun e => by
        obtain ⟨_, _, cur, hC⟩ := own_block_lt HR.out.own e.symm
        exact HO.out.ne_ hC (by decide) rfl
      have hP1 := HA.out.chg hc1 fun k hk e => HR.out.nF k e.symm (HF1.out k (HZ.out.1 k hk))
      have hQ1 := HB.out.chg hc1 fun k hk e => HR.out.nF k e.symm (HF1.out k (HZ.out.2.1 k hk))
      have hD1 : RdI w1 Bi A n hs := HRD.out.chgZ hc1 (by omega) fun _ b o s _ hlt e => by
        have := (own_block_lt HR.out.own e.symm).2.1
        omega
      have hC1 : Chg (fun k => B ≤ k ∧ ¬ FF k) wd w1 := hc1.mono fun k _ e => ⟨(own_block_lt HR.out.own e.symm).2.1, HR.out.nF k e.symm⟩
      have HE := Lib.hid (And.intro hR1 (And.intro hN1 (And.intro hO1 (And.intro hP1 (And.intro hQ1 (And.intro hD1 hC1))))))
      have hS1 : w1.cell? ⟨H, 3, none⟩ = some (.slice AR 0 cR) ∧ w1.cell? ⟨w.heap.size, 4, none⟩ = some (.slice A n cap) := ⟨hN1.blk.cell 3, hO1.cell 4⟩
      have HS1 := Lib.hid hS1
      clear ho1 hg1 hat1 hc1 hFd hu1 hR1 hN1 hO1 hP1 hQ1 hD1 hC1 hS1
      refine hK.out _ _ HS1.out (fun _ => ?_)
      clear hK K
      try simp only [Act.put, List.setIfInBounds_toArray, List.set_cons_zero, List.set_cons_succ]
      refine wpAnyH_take (i := 8) (oi := ?oi8a) (v := ?v8a) ?hi8a (by kernel_rfl) (by kernel_rfl) (by kernel_rfl) ?hq8a ?hy8a (by assumption) ?rest8a
      case hi8a => (simp only [List.getElem?_toArray, List.getElem?_cons_zero, List.getElem?_cons_succ]; rfl)
      case hy8a => (refine Or.inl ⟨by rfl, ?_⟩; intro w hSw; (try dsimp only at hSw); go_simp; try with_reducible rfl)
      case hq8a => exact fun _ _ _ h => h
      try simp only [Act.put, List.setIfInBounds_toArray, List.set_cons_zero, List.set_cons_succ]
      refine wpAnyH_done (by kernel_rfl) ?_ _
      go_wp2_with fail
      go_meet
      exact HE
    · exact AllReadyH.nil
  case rest =>
    have HST := hcut
    clear HS0 HN HR HO HA HB HRD
    go_wp2_with fail
    go_loopw [9, 10] (fun v i wr => ∃ k : Nat, k ≤ 64 ∧ i = .int .i64 (k : Int) ∧ Hid (RoomS wr B FF KL v (n + k) (ivs (hs ++ mks k)) ∧ HeldN wr B FF H vG vW vM (.slice AR 0 cR) KL ∧ Blk wr w.heap.size 61 #[.int .i64 kd, .int .i64 q, .int .i64 inc, .int .i64 tick, .slice A n cap] ∧ PDx wr Fa c D (dOf c l) ∧ RDx wr Fb c K l ∧ RdI wr Bi A n hs ∧ Chg (fun k => B ≤ k ∧ ¬ FF k) wd wr)) (fun _ i _ => 64 - (intOf i).toNat)
    case atStart => exact ⟨0, by omega, rfl, by simpa [mks] using HST⟩
    case round =>
      clear HST
      obtain ⟨k, hk, rfl, HST⟩ := hrel
      obtain ⟨A9, c9, hv9, hl9, hm9⟩ := own_shape HST.out.1.own
      subst hv9
      by_cases hlt : k < 64
      · have hI : (k : Int) < 64 := by omega
        have hBr : B ≤ wr.heap.size := Nat.le_trans (Nat.le_trans hB hsd) HST.out.2.2.2.2.2.2.size
        have hwr : IntKind.i64.wrap (-700 - (k : Int)) = mk7 k := by rw [IntWalk.i64_in _ (by omega)]; rfl
        go_wp2_with (
          at_builtin
          refine appN2 wr (by rfl) _ _ 22 (by rfl) B 3 i0 _ 1 8 u_ints hi0 hz0 hz1 hz2 rfl (by decide) (.slice A9 (n + k) c9) (n + k) (ivs (hs ++ mks k)) (by rfl) HST.out.1.own #[.int .i64 (mk7 k)] rfl (by rfl) (by simp; rfl) (by simp only [maxLen]; omega) (by omega) hBr ?_
          intro u2 w2 ho2 _ hg2 hat2
          have hc2 := Chg.of_grown hg2
          have HN2 : Hid (RoomS w2 B FF KL u2 (n + (k + 1)) (ivs (hs ++ mks (k + 1))) ∧ HeldN w2 B FF H vG vW vM (.slice AR 0 cR) KL ∧ Blk w2 w.heap.size 61 #[.int .i64 kd, .int .i64 q, .int .i64 inc, .int .i64 tick, .slice A n cap] ∧ PDx w2 Fa c D (dOf c l) ∧ RDx w2 Fb c K l ∧ RdI w2 Bi A n hs ∧ Chg (fun k => B ≤ k ∧ ¬ FF k) wd w2) := by
            obtain ⟨s1, s2, s3, s4, s5, s6, s7⟩ := HST.out
            have ho2' : w2.ownsRow B 3 1 u2 (n + (k + 1)) (ivs (hs ++ mks (k + 1))) := by
              rw [mks_succ, ← List.append_assoc, ivs_append _ [mk7 k]]
              exact ho2
            have hFr : ∀ k, FF k → k < wr.heap.size := fun k hk => Nat.lt_of_lt_of_le ((HF3.out k hk).elim (HZ.out.2.2.2 k) (HGb.out k)) (Nat.le_trans hsd s7.size)
            have hXr : w.heap.size < wr.heap.size := Nat.lt_of_lt_of_le hXl s7.size
            refine Lib.hid ⟨s1.app s2 hFr ho2' fun g hg => (hat2.elim (fun e => .inl (e ▸ hg)) (fun e => .inr (by rw [e] at hg; injection hg with hg; omega))), s2.room s1 hc2, s3.chg hc2 fun e => ?_, s4.chg hc2 fun k hk e => s1.nF k e.symm (HF1.out k (HZ.out.1 k hk)), s5.chg hc2 fun k hk e => s1.nF k e.symm (HF1.out k (HZ.out.2.1 k hk)), s6.chgZ hc2 (by omega) fun _ b o s _ hlt e => ?_, s7.trans (hc2.mono fun k _ e => ⟨(own_block_lt s1.own e.symm).2.1, s1.nF k e.symm⟩)⟩
            · obtain ⟨_, _, cur, hC⟩ := own_block_lt s1.own e.symm
              exact s3.ne_ hC (by decide) rfl
            · have := (own_block_lt s1.own e.symm).2.1
              omega
          clear ho2 hg2 hat2 hc2)
        go_roundw
        case rel => exact ⟨k + 1, by omega, by go_num, HN2⟩
        case measure => simp [intOf] <;> omega
      · obtain rfl : k = 64 := by omega
        have hBr : B ≤ wr.heap.size := Nat.le_trans (Nat.le_trans hB hsd) HST.out.2.2.2.2.2.2.size
        have hwr : w.heap.size ≤ wr.heap.size := Nat.le_trans hsd HST.out.2.2.2.2.2.2.size
        obtain ⟨g9, c9', cur, hv, hgB, hB9, hle9, hcm9, hsz9, htk9⟩ := own_parts HST.out.1.own (by omega)
        simp only [Value.slice.injEq, true_and] at hv
        obtain ⟨rfl, rfl⟩ := hv
        have HCUR : Hid (∀ j u, (ivs (hs ++ mks 64))[j]? = some u → cur[j]? = some u) := Lib.hid fun j u hu => by
          rw [← htk9, List.getElem?_take] at hu
          split at hu
          · rw [Array.getElem?_toList] at hu; exact hu
          · cases hu
        have hcu : c9 ≤ 9223372036854775807 := by simp only [maxLen] at hcm9; exact hcm9
        have HSZ : Hid (cur.size = c9) := Lib.hid (by rw [hsz9, Nat.mul_one])
        have HGFF : Hid (¬ FF g9) := Lib.hid (HST.out.1.nF g9 rfl)
        have HGF : Hid (¬ F g9) := Lib.hid fun h => HGFF.out (HF1.out _ h)
        have HG9 := Lib.hid hB9
        have HGB := Lib.hid hgB
        obtain ⟨s1, s2, s3, s4, s5, s6, s7⟩ := HST.out
        have hrdg : RdI wr wr.heap.size (some ⟨g9, 0, none⟩) n hs := ⟨by rw [ivs_length, HLn.out]; omega, fun _ => ⟨g9, 0, rfl, hB9.lt, fun j u hu => by
          rw [Nat.zero_add, hB9.cell]
          exact HCUR.out j u (by rw [ivs_append, List.getElem?_append_left (List.getElem?_eq_some_iff.1 hu).1]; exact hu)⟩⟩
        have s4c := s4
        obtain ⟨hFa2, O, Q, C, hP2⟩ := s4c
        have HPH := Lib.hid (PHeard_any (some ⟨g9, 0, none⟩) n c9 hs q inc tick hc hP2 hFa2 hrdg (by omega) (fun _ b o s e h => by
          injection e with e; injection e with e; subst e; exact HGF.out (HZ.out.1 _ h)) l.length (dOf_ok hc s5.2.1) (by omega))
        have c1 : wr.cell? ⟨w.heap.size, 1, none⟩ = some (.int .i64 q) := s3.cell 1
        have c2 : wr.cell? ⟨w.heap.size, 2, none⟩ = some (.int .i64 inc) := s3.cell 2
        have c3 : wr.cell? ⟨w.heap.size, 3, none⟩ = some (.int .i64 tick) := s3.cell 3
        have c4 : wr.cell? ⟨w.heap.size, 4, none⟩ = some (.slice A n cap) := s3.cell 4
        have hn1 : (0 : Int) ≤ (n : Int) := by omega
        have hn2 : (n : Int) ≤ (c9 : Int) := by omega
        have HO := Lib.hid s3
        have HR0 := Lib.hid s5
        have HRD := Lib.hid s6
        have HA0 := Lib.hid s4
        clear hrdg hP2 hFa2 hB9 htk9 hsz9 s1 s2 s3 s4 s5 s6 s7 hgB
        obtain ⟨wv, HWV⟩ : ∃ wv, Hid (wr = wv) := ⟨_, Lib.hid rfl⟩
        rw [HWV.out] at HST HPH HO HR0 HRD HA0 HG9 hBr hwr c1 c2 c3 c4 ⊢
        clear HWV
        go_wp2_with fail
        refine HPH.out.mono ?_
        rintro _ w3 ⟨rfl, hp3, hc3⟩
        have hs3 := hc3.size
        have hO3 := HO.out.chg hc3 (fun h => HBF.out (HZ.out.1 _ h))
        have HO3 := Lib.hid hO3
        have HB3 : Hid (Blk w3 g9 3 cur) := HG9.out.chg hc3 (fun h => HGF.out (HZ.out.1 _ h))
        have hr3 := HR0.out.chg hc3 (fun k hk h => HZ.out.2.2.1 k h hk)
        obtain ⟨v, hR3, hFb3, hl3⟩ := hr3.parts
        have hrd3 : RdI w3 Bi A n hs := HRD.out.chgZ hc3 (by omega) (fun hp b o s e hlt h => by have := HFB.out b (HZ.out.1 _ h); omega)
        have HRD3 := Lib.hid hrd3
        have HCP := Lib.hid fun (W : World) (hbW : Below w3.heap.size w3 W) => copied_any A n cap hs W ((hrd3.below (hbW.mono (by omega))).more (by have := hbW.size; omega)) (by omega)
        have HRH := Lib.hid fun (W : World) (g : Nat) (hbW : Below w3.heap.size w3 W) (hgW : w3.heap.size ≤ g) (hBW : Blk W g 3 (rg hs.length fun j => .int .i64 (hs.getD j 0))) =>
          RHeard_any hc (hR3.below hFb3 hbW) (fun k hk => Nat.lt_of_lt_of_le (hFb3 k hk) hbW.size) hl3 hn (some ⟨g, 0, none⟩) hs.length hs.length hs (rg_rd hBW) (by rw [HLn.out]; omega) (fun _ b o s e h => by
            injection e with e; injection e with e; subst e; have := hFb3 _ h; omega) q inc tick
        have HXO : Hid (∀ W, Below w3.heap.size w3 W → W.cell? ⟨w.heap.size, 1, none⟩ = some (.int .i64 q) ∧ W.cell? ⟨w.heap.size, 2, none⟩ = some (.int .i64 inc) ∧ W.cell? ⟨w.heap.size, 3, none⟩ = some (.int .i64 tick) ∧ W.cell? ⟨w.heap.size, 4, none⟩ = some (.slice A n cap)) := Lib.hid fun W hb => ⟨(hO3.over hb).cell 1, (hO3.over hb).cell 2, (hO3.over hb).cell 3, (hO3.over hb).cell 4⟩
        have HFIN : Hid (∀ W W' F5, Below w3.heap.size w3 W → Moved W W' Fb F5 → W'.cell? ⟨w.heap.size, 1, none⟩ = some (.int .i64 q) ∧ W'.cell? ⟨w.heap.size, 2, none⟩ = some (.int .i64 inc) ∧ W'.cell? ⟨w.heap.size, 3, none⟩ = some (.int .i64 tick) ∧ W'.cell? ⟨w.heap.size, 4, none⟩ = some (.slice A n cap)) := Lib.hid fun W W' F5 hb hm => by
          have hB := (hO3.over hb).chg hm.2 (fun h => HBF.out (HZ.out.2.1 _ h))
          exact ⟨hB.cell 1, hB.cell 2, hB.cell 3, hB.cell 4⟩
        have HP3 := Lib.hid hp3
        have HC3 := Lib.hid hc3
        have HFB3 := Lib.hid hFb3
        have hed := hearE_bd c (dOf c l) q inc tick hs
        clear c1 c2 c3 c4 hO3 hr3 hR3 hrd3 hp3 hc3 hFb3 hl3 HPH
        generalize hHE : hearE c (dOf c l) q inc tick hs = E at *
        have HHE := Lib.hid hHE
        clear hHE
        have hx0 := HXO.out w3.drew (below_drewN (Below.refl _ _) 1)
        go_upto_region 8 with fail
        go_region_held3 (fun w' => w'.cell? ⟨w.heap.size, 1, none⟩ = some (.int .i64 q) ∧ w'.cell? ⟨w.heap.size, 2, none⟩ = some (.int .i64 inc) ∧ w'.cell? ⟨w.heap.size, 3, none⟩ = some (.int .i64 tick) ∧ w'.cell? ⟨w.heap.size, 4, none⟩ = some (.slice A n cap)) ((first | exact hx0 | exact hx2 | exact hx1)) ((first
          | (go_at_call 24; refine (HCP.out w3.drew (below_drewN (Below.refl _ _) 1)).mono ?_; rintro _ w4 ⟨g4, rfl, hg4, hB4, hb4⟩; have hb34 : Below w3.heap.size w3 w4 := (below_drewN (Below.refl _ _) 1).trans hb4; have hx1 := HXO.out w4 hb34; have HG4 := Lib.hid (And.intro hg4 hB4); clear hg4 hB4 hb4)
          | (go_at_call 50; refine (HRH.out w4 g4 hb34 HG4.out.1 HG4.out.2).mono ?_; rintro _ w5 ⟨rfl, F5, l5, hx5, hd5, hl5, hm5⟩; have hx2 := HFIN.out w4 w5 F5 hb34 hm5; have HM5 := Lib.hid (And.intro hx5 (And.intro hd5 (And.intro hl5 hm5))); clear hx5 hd5 hl5 hm5)))
        have hs34 := hb34.size
        have hsz5 := HM5.out.2.2.2.2.size
        have HP4 : Hid (PDx w4 Fa c D (dOf c l5)) := by
          refine Lib.hid ⟨fun k hk => by have := HA0.out.1 k hk; omega, O, Q, C, ?_⟩
          rw [HM5.out.2.1]
          exact HP3.out.below (fun k hk => by have := HA0.out.1 k hk; omega) hb34
        have HFR : Hid (∀ k, F k → k < wv.heap.size) := Lib.hid fun k hk => Nat.lt_of_lt_of_le (HZ.out.2.2.2 k hk) hwr
        have HSB := Lib.hid (step_both2 (l := l) HZ.out.1 HZ.out.2.1 HZ.out.2.2.1 HFR.out (Below.refl _ _) HP4.out (HC3.out.trans (Chg.of_below hb34 _)) HM5.out.1 HM5.out.2.2.2 HM5.out.2.2.1)
        have hN3 := HST.out.2.1.chgF (HC3.out.mono fun k _ h => HF1.out k (HZ.out.1 k h))
        have hN5 := (hN3.over hb34).chgF (HM5.out.2.2.2.2.mono fun k _ h => HF1.out k (HZ.out.2.1 k h))
        have hR3' := HST.out.1.chgF (HC3.out.mono fun k _ h => HF1.out k (HZ.out.1 k h))
        have hR5 := (hR3'.over hb34).chgF (HM5.out.2.2.2.2.mono fun k _ h => HF1.out k (HZ.out.2.1 k h))
        have hB5 : Blk w5 g9 3 cur := (HB3.out.over hb34).chg HM5.out.2.2.2.2 (fun h => HGF.out (HZ.out.2.1 _ h))
        have hrg5 : RdI w5 w5.heap.size (some ⟨g9, 0, none⟩) n hs := ⟨by rw [ivs_length, HLn.out]; omega, fun _ => ⟨g9, 0, rfl, hB5.lt, fun j u hu => by
          rw [Nat.zero_add, hB5.cell]
          exact HCUR.out j u (by rw [ivs_append, List.getElem?_append_left (List.getElem?_eq_some_iff.1 hu).1]; exact hu)⟩⟩
        have hra5 : RdI w5 w5.heap.size A n hs := (((HRD3.out.below (hb34.mono (by omega))).chgZ HM5.out.2.2.2.2 (by omega) (fun hp b o s e hlt h => by have := HFB.out b (HZ.out.2.1 _ h); omega))).more (by omega)
        have HB5 := Lib.hid hB5
        have HN5 := Lib.hid hN5
        have HR5 := Lib.hid hR5
        obtain ⟨x1, x2, x3, x4⟩ := hx2
        have hO5 : Hid (Blk w5 w.heap.size 61 #[.int .i64 kd, .int .i64 q, .int .i64 inc, .int .i64 tick, .slice A n cap]) := (HO3.out.over hb34).chg HM5.out.2.2.2.2 (fun h => HBF.out (HZ.out.2.1 _ h))
        clear hx0 hx1 hB5 x1 x2 x3 hN3 hN5 hR3' hR5
        go_wp2_with fail
        refine (same_yes _ _ n c9 cap hs w5 hrg5 hra5 (by omega)).mono ?_
        rintro _ w6 ⟨rfl, hb6⟩
        clear hrg5 hra5 x4
        have e9 : (E == hearE c (dOf c l) q inc tick hs) = true := by rw [HHE.out]; simp
        have HB6 := Lib.hid (HB5.out.over hb6)
        have HN6 := Lib.hid (HN5.out.over hb6)
        have HR6 := Lib.hid (HR5.out.over hb6)
        have HSB6 : Hid (Pair w6 (fun k => Fa k ∨ F5 k) c D K l5 ∧ l5.length ≤ l.length + 1 ∧ (∀ k, (Fa k ∨ F5 k) → F k ∨ wv.heap.size ≤ k) ∧ Chg (fun k => B ≤ k ∧ ¬ G k) w w6) := by
          obtain ⟨a, b, e⟩ := HSB.out
          refine Lib.hid ⟨a.below hb6, b, e.1, (((Chg.of_below HB0.out _).trans (HST.out.2.2.2.2.2.2.mono fun k _ h => ⟨h.1, fun hg => h.2 (HF2.out k hg)⟩)).trans (e.2.mono fun k _ h => ⟨HFB.out k h, HFG.out k h⟩)).trans (Chg.of_below hb6 _)⟩
        clear hb6
        go_upto_region 10 with (go_at_call 15; refine (num_any _ _ (by omega) (by omega)).mono ?_; rintro _ _ ⟨rfl, rfl⟩)
        clear e9
        go_wp2_with fail
        go_loopw [14, 15] (fun ok i wr => ∃ k : Nat, k ≤ 64 ∧ i = .int .i64 (k : Int) ∧ ok = .bool true ∧ Hid (w6 = wr)) (fun _ i _ => 64 - (intOf i).toNat)
        case atStart => exact ⟨0, by omega, rfl, rfl, Lib.hid rfl⟩
        case round =>
          obtain ⟨k, hk, rfl, rfl, HWE⟩ := hrel
          have hBw6 := HB6.out
          rw [HWE.out] at hBw6
          by_cases hlt : k < 64
          · have hI : (k : Int) < 64 := by omega
            have y0 : wr.cell? ⟨g9, n + k, none⟩ = some (.int .i64 (mk7 k)) := by
              rw [hBw6.cell]
              refine HCUR.out (n + k) _ ?_
              rw [ivs_append, List.getElem?_append_right (by rw [ivs_length, HLn.out]; omega), ivs_length, HLn.out, show n + k - n = k by omega]
              refine ivs_at ?_
              simp [mks, hlt]
            have hwk : IntKind.i64.wrap (-700 - (k : Int)) = mk7 k := by rw [IntWalk.i64_in _ (by omega)]; rfl
            have hws : IntKind.i64.wrap ((n : Int) + (k : Int)) = (n : Int) + (k : Int) := IntWalk.i64_in _ (by omega)
            have hb2 : (n : Int) + (k : Int) < (n : Int) + 64 := by omega
            have hb3 : ((n : Int) + (k : Int)).toNat = n + k := by omega
            have emm : (mk7 k == mk7 k) = true := by simp
            clear hBw6
            go_wp2_with fail
            go_roundw
            case rel => exact ⟨k + 1, by omega, by go_num, rfl, HWE⟩
            case measure => simp [intOf] <;> omega
          · obtain rfl : k = 64 := by omega
            clear hlt hBw6
            rw [← HWE.out]
            have HC0 : Hid (∃ cur', Blk w6 g9 3 cur' ∧ cur'.size = c9) := Lib.hid ⟨cur, HB6.out, HSZ.out⟩
            go_wp2_with fail
            go_loopw [16] (fun i wr => ∃ k : Nat, k ≤ n + 64 ∧ i = .int .i64 (k : Int) ∧ Hid (∃ cur', Blk wr g9 3 cur' ∧ cur'.size = c9) ∧ Hid (Chg (fun k => k = g9) w6 wr)) (fun i _ => n + 64 - (intOf i).toNat)
            case atStart => exact ⟨0, by omega, rfl, HC0, Lib.hid (Chg.refl _ _)⟩
            case round =>
              clear HC0
              obtain ⟨k, hk, rfl, HCS, HCH⟩ := hrel
              by_cases hlt : k < n + 64
              · have hI : (k : Int) < (n : Int) + 64 := by omega
                obtain ⟨cur', hB', hsz'⟩ := HCS.out
                obtain ⟨u, hu⟩ : ∃ u, cur'[k]? = some u := ⟨_, Array.getElem?_eq_getElem (by omega)⟩
                have l0 : wr.cell? ⟨g9, k, none⟩ = some u := (hB'.cell k).trans hu
                have lf : wr.frozen? ⟨g9, k, none⟩ = false := hB'.frozen k
                have HN : Hid (∃ cur', Blk (wr.setCell ⟨g9, k, none⟩ (.int .i64 (-7))) g9 3 cur' ∧ cur'.size = c9) := Lib.hid ⟨_, hB'.set_ k _, by simpa using hsz'⟩
                have HN2 : Hid (Chg (fun k => k = g9) w6 (wr.setCell ⟨g9, k, none⟩ (.int .i64 (-7)))) := HCH.out.setCell (p := ⟨g9, k, none⟩) (.inl rfl) _
                clear hB' hu hsz'
                go_wp2_with fail
                go_roundw
                case rel => exact ⟨k + 1, by omega, by go_num, HN, HN2⟩
                case measure => simp [intOf] <;> omega
              · obtain rfl : k = n + 64 := by omega
                obtain ⟨cur', hB', hsz'⟩ := HCS.out
                have hcg : Chg (fun k => some k = (Value.slice (some ⟨g9, 0, none⟩) (n + 64) c9).ownBlock) w6 wr := HCH.out.mono fun k _ e => by rw [e]; rfl
                have hNr := HN6.out.room HR6.out hcg
                have hRr : RoomS wr B FF KL (.slice (some ⟨g9, 0, none⟩) 0 c9) 0 [] := ⟨⟨by simp, .inr ⟨g9, c9, cur', rfl, HGB.out, hB', by omega, hcm9, by rw [hsz', Nat.mul_one], by simp⟩⟩, fun g hg => by
                  simp only [Value.ownBlock, Option.some.injEq] at hg
                  subst hg
                  exact HGFF.out, fun k x hk => HR6.out.r k x hk⟩
                have hFF : ∀ k, (Fa k ∨ F5 k) → F k ∨ wv.heap.size ≤ k := HSB6.out.2.2.1
                have hFG' : ∀ k, ((Fa k ∨ F5 k) ∨ G k) → FF k ∨ wv.heap.size ≤ k := fun k hk => hk.elim (fun h => (hFF k h).imp (HF1.out k) id) fun h => .inl (HF2.out k h)
                have hN' := HST.out.2.1.moreF hFG' hNr
                have hg9w' : g9 < wv.heap.size := HG9.out.lt
                have hR' : RoomS wr B (fun k => (Fa k ∨ F5 k) ∨ G k) KL (.slice (some ⟨g9, 0, none⟩) 0 c9) 0 [] := ⟨hRr.own, fun g hg hf => by
                  simp only [Value.ownBlock, Option.some.injEq] at hg
                  subst hg
                  rcases hFG' _ hf with h | h
                  · exact HGFF.out h
                  · omega, hRr.r⟩
                have hset := hN'.setR hR'
                have hg9w : g9 < wv.heap.size := HG9.out.lt
                have hHw : H < wv.heap.size := HST.out.2.1.blk.lt
                have hcH : Chg (fun k => k = H) wr (wr.setCell ⟨H, 3, none⟩ (.slice (some ⟨g9, 0, none⟩) 0 c9)) := (Chg.refl (fun k => k = H) wr).setCell (p := ⟨H, 3, none⟩) (.inl rfl) _
                have hPr := (HSB6.out.1.chg HCH.out fun k hk e => by
                  rcases hFF k hk with h | h
                  · exact HGF.out (e ▸ h)
                  · omega).chg hcH fun k hk e => by
                  rcases hFF k hk with h | h
                  · exact HST.out.2.1.hF (HF1.out _ (e ▸ h))
                  · omega
                have hCf : Chg (fun k => B ≤ k ∧ ¬ G k) w (wr.setCell ⟨H, 3, none⟩ (.slice (some ⟨g9, 0, none⟩) 0 c9)) := (HSB6.out.2.2.2.thenS HCH.out fun k _ e => by rw [e]; exact ⟨HGB.out, fun h => HGFF.out (HF2.out _ h)⟩).thenS hcH fun k _ e => by rw [e]; exact ⟨hNr.hB, fun h => hNr.hF (HF2.out _ h)⟩
                have HE : Hid (LendP w B F G c D K l H vG vW vM KL (.returned (.bool true)) (wr.setCell ⟨H, 3, none⟩ (.slice (some ⟨g9, 0, none⟩) 0 c9))) := Lib.hid ⟨rfl, _, l5, _, hPr, HSB6.out.2.1, fun k hk => (hFF k hk).imp id fun h => by omega, hset, hCf⟩
                have z0 : wr.frozen? ⟨H, 3, none⟩ = false := hNr.blk.frozen 3
                have z1 : wr.cell? ⟨H, 3, none⟩ = some (.slice AR 0 cR) := hNr.blk.cell 3
                clear hB' hsz' hcg hNr hRr hFF hFG' hN' hR' hset hcH hPr hCf
                go_wp2
                go_ret
                exact HE.out
end
end Go.Proofs.Ytfjpmoigpnmeoaa
