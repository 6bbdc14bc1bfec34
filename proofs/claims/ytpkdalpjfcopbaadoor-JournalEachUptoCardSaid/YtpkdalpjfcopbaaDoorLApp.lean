/-
  The document's journal: New, Append, Compact.
-/
import Derived.Test.YtpkdalpjfcopbaaDoorLJour
namespace Go.Proofs.YtpkdalpjfcopbaaDoor
open Go.RowKit
set_option maxRecDepth 100000 in
set_option maxHeartbeats 800000 in
theorem RNew_any {w : World} : Calls Tryd.prog 52 #[] w fun e w' => ∃ kg v F, e = .returned (.tuple #[.pointer (some ⟨kg, 0, none⟩), v]) ∧ RJAt w' F kg newJ ∧ (∀ k, F k → w.heap.size ≤ k) ∧ WOut w' w.heap.size v [⟨0, true, headB 1 0⟩] ∧ Below w.heap.size w w' := by
  obtain ⟨w1, hw1⟩ : ∃ w1, w1 = w.alloc (.cells #[.int .i64 0, .int .i64 1, .int .i64 0, .slice none 0 0] 102) := ⟨_, rfl⟩
  have hb1 : Below w.heap.size w w1 := by rw [hw1]; exact one_box' _ _
  have hB1 : Blk w1 w.heap.size 102 #[.int .i64 ((newJ.file : Nat) : Int), .int .i64 ((newJ.gen : Nat) : Int), .int .i64 ((newJ.count : Nat) : Int), .slice none 0 0] := by rw [hw1]; exact Blk.new _ _ _
  have hJ1 : RJAt w1 (fun k => k = w.heap.size) w.heap.size newJ := ⟨⟨_, [], hB1, RcOwn.nil, ⟨fun g h => by simp [Value.ownBlock] at h, fun k r g h => by simp at h⟩, rfl⟩, rfl⟩
  have HBY := Lib.hid (Bytes_any hJ1 newJ_fine)
  have hl : newJ.text.length = 18 := by show (textB 1 0 []).length = 18; rw [textB_length]; rfl
  rw [hl] at HBY
  have HW1 := Lib.hid hw1
  have H1 := Lib.hid (And.intro hb1 hJ1)
  clear hw1 hb1 hB1 hJ1 hl
  go_enter Tryd.func52, Tryd.ntmps52
  go_upto_region 2 with fail
  rw [← HW1.out]
  go_wp2_with (go_at_call 54; refine HBY.out.mono ?_; rintro _ w2 ⟨A2, c2, rfl, ho2, hb2⟩; obtain ⟨g2, rfl, _, _, _⟩ := own_open ho2 (by omega); have H2 := Lib.hid (And.intro ho2 hb2); clear ho2 hb2)
  go_ret2
  have hb2 : Below w.heap.size w w2 := Below.then H1.out.1 H2.out.2
  refine ⟨_, _, _, rfl, (H1.out.2.below H2.out.2).below (one_box' _ _), fun k e => by omega, wout_one (x := ⟨0, true, headB 1 0⟩) (headB_length 1 0) (by omega) (own_base H2.out.1 H1.out.1.size) hb2.size, hb2.trans ((Below.refl _ _).alloc hb2.size _)⟩
/-- One record more in the document's journal. -/
theorem rj_push {w0 w8 : World} {F : Nat → Prop} {kg : Nat} {j : JP} {v v8 : Value} {K : List Rk} {x : Rk} (hB : Blk w0 kg 102 #[.int .i64 (j.file : Int), .int .i64 (j.gen : Int), .int .i64 (j.count : Int), v]) (hK : RcOwn w0 0 v K) (hF : RcF F v K) (hkF : F kg) (hm : K.map Rk.rc = j.recs)
    (hx : w0.ownsRow 0 5 1 x.v x.rc.body.length (bvs x.rc.body)) (hxn : ∀ g, x.v.ownBlock = some g → ¬ F g) (ho : w8.ownsRow 0 34 2 v8 (K.length + 1) (rowsK K ++ x.cells)) (hg : w0.grownBy w8 v.ownBlock) :
    RJAt (w8.setCell ⟨kg, 3, none⟩ v8) (fun k => F k ∨ v8.ownBlock = some k ∨ x.v.ownBlock = some k) kg { j with recs := j.recs ++ [x.rc] } ∧ Chg F w0 (w8.setCell ⟨kg, 3, none⟩ v8) := by
  have hc := Chg.of_grown hg
  have hcs : Chg (fun k => k = kg) w8 (w8.setCell ⟨kg, 3, none⟩ v8) := (Chg.refl (fun k => k = kg) w8).setCell (p := ⟨kg, 3, none⟩) (.inl rfl) _
  have hB8 := hB.chg hc fun e => absurd (hB.isT.eq_ (own_isT hK.own e.symm)) (by decide)
  have hsn := hK.snoc hc ho hx fun k r g hk h1 h2 => hxn g h2 (hF.bod k r g hk h1)
  refine ⟨⟨⟨v8, K ++ [x], hB8.set_ 3 _, hsn.chgT hcs fun g _ ht e => ?_, ⟨fun g hg => .inr (.inl hg), fun k r g hk hg => ?_⟩, by rw [List.map_append, hm]; rfl⟩, .inl hkF⟩, ?_⟩
  · subst e
    exact ht.elim (fun h => absurd (h.eq_ hB8.isT) (by decide)) (fun h => absurd (h.eq_ hB8.isT) (by decide))
  · rcases Nat.lt_or_ge k K.length with hlt | hge
    · rw [List.getElem?_append_left hlt] at hk
      exact .inl (hF.bod k r g hk hg)
    · rw [List.getElem?_append_right hge] at hk
      have : k - K.length = 0 := by
        have := (List.getElem?_eq_some_iff.1 hk).1
        simp at this
        omega
      rw [this] at hk
      simp at hk
      subst hk
      exact .inr (.inr hg)
  · exact (hc.mono fun k _ e => hF.rows k e.symm).thenS hcs fun k _ e => e ▸ hkF
/-- What a call on the document's journal comes to. -/
def RWrote (w : World) (F : Nat → Prop) (kg : Nat) (x : JP × List Wr × Nat) (e : Ending) (w' : World) : Prop :=
  ∃ v F', e = .returned (.tuple #[v, .int .i64 (x.2.2 : Int)]) ∧ RJAt w' F' kg x.1 ∧ WOut w' w.heap.size v x.2.1 ∧ Moved w w' F F'
set_option maxRecDepth 100000 in
set_option maxHeartbeats 1600000 in
theorem RAppend_any {w : World} {F : Nat → Prop} {kg : Nat} {j : JP} (kd : Int) (A : Option Addr) (n cap : Nat) (body : List UInt8) (h : RJAt w F kg j) (hFw : ∀ k, F k → k < w.heap.size) (hf : j.Fine) (hr : RdB w w.heap.size A n body) (hn : n ≤ 140737488355328) :
    Calls Tryd.prog 27 #[.pointer (some ⟨kg, 0, none⟩), .agg #[.int .i64 kd, .slice A n cap]] w (RWrote w F kg (j.append ⟨kd, body⟩)) := by
  obtain ⟨i0, hi0, hz0, hz1, hz2⟩ := info_parts info_u8
  obtain ⟨w1, hw1⟩ : ∃ w1, w1 = w.alloc (.cells #[.int .i64 kd, .slice A n cap] 34) := ⟨_, rfl⟩
  have hb1 : Below w.heap.size w w1 := by rw [hw1]; exact one_box' _ _
  have hB1 : Blk w1 w.heap.size 34 #[.int .i64 kd, .slice A n cap] := by rw [hw1]; exact Blk.new _ _ _
  have hlb := hr.lenB
  have HV := Lib.hid (Valid_any kd A n cap w1 (by omega))
  obtain ⟨x, hx⟩ : ∃ x, x = j.append ⟨kd, body⟩ := ⟨_, rfl⟩
  rw [← hx]
  have hx2 := hx
  unfold JP.append at hx2
  have eok : (⟨kd, body⟩ : Rc).ok = okB kd n := by rw [← okB_rc, hlb]
  rw [eok] at hx2
  have c0 : w1.cell? ⟨w.heap.size, 0, none⟩ = some (.int .i64 kd) := hB1.cell 0
  have c1 : w1.cell? ⟨w.heap.size, 1, none⟩ = some (.slice A n cap) := hB1.cell 1
  have hfl := hf.len
  have HF := Lib.hid hf
  have HNF : Hid (∀ g, w.heap.size ≤ g → ¬ F g) := Lib.hid fun g h1 h2 => by have := hFw g h2; omega
  clear hFw
  have HB1 := Lib.hid hb1
  have HX1 := Lib.hid hB1
  have HP := Lib.hid h
  have HR := Lib.hid hr
  have HW1 := Lib.hid hw1
  have HL := Lib.hid hlb
  clear hb1 hB1 h hr hw1 hlb hx eok hf
  cases hv : okB kd n with
  | false =>
    rw [hv] at HV hx2
    have HE := Lib.hid (show x = (j, [], 121) from hx2)
    clear hx2 hv
    go_enter Tryd.func27, Tryd.ntmps27
    go_upto_region 1 with fail
    rw [← HW1.out]
    go_wp2_with (go_at_call 57; refine HV.out.mono ?_; rintro _ w2 ⟨rfl, hb2⟩; have HB2 := Lib.hid (Below.then HB1.out hb2); clear hb2)
    go_ret2
    rw [HE.out]
    exact ⟨_, F, rfl, HP.out.below HB2.out, WOut.nil, Moved.of_below HB2.out⟩
  | true =>
    rw [hv] at HV hx2
    simp only [if_true] at hx2
    have hkd : ∃ kn : Nat, kd = (kn : Int) ∧ kn ≤ 4 ∧ n ≤ 4200 := by
      simp only [okB, decide_eq_true_eq] at hv
      exact ⟨kd.toNat, by omega, by omega, hv.2.2⟩
    obtain ⟨kn, rfl, hk4, hn4⟩ := hkd
    obtain ⟨z, hz⟩ : ∃ z, z = j.text.length := ⟨_, rfl⟩
    have hz18 : 18 ≤ z := by rw [hz]; exact len4
    rw [HL.out, ← hz] at hx2
    rw [← hz] at hfl
    have HZ := Lib.hid hz
    clear hz hv
    go_enter Tryd.func27, Tryd.ntmps27
    go_upto_region 1 with fail
    rw [← HW1.out]
    go_upto_region 4 with (go_at_call 57; refine HV.out.mono ?_; rintro _ w2 ⟨rfl, hb2⟩; have HB2 := Lib.hid (Below.then HB1.out hb2); have HX2 := Lib.hid (HX1.out.over hb2); clear hb2)
    have HBY := Lib.hid (Bytes_any (HP.out.below HB2.out) HF.out)
    rw [← HZ.out] at HBY
    clear c0 c1 HV
    go_upto_region 5 with (go_at_call 54; refine HBY.out.mono ?_; rintro _ w3 ⟨A3, c3, rfl, ho3, hb3⟩; have H3 := Lib.hid (And.intro ho3 hb3); clear ho3 hb3)
    have HB3 := Lib.hid (Below.then HB2.out H3.out.2)
    have HX3 := Lib.hid (HX2.out.over H3.out.2)
    have c0 : w3.cell? ⟨w.heap.size, 0, none⟩ = some (.int .i64 (kn : Int)) := HX3.out.cell 0
    have c1 : w3.cell? ⟨w.heap.size, 1, none⟩ = some (.slice A n cap) := HX3.out.cell 1
    clear HBY HX1 HX2
    by_cases hlen : z + 8 + n ≤ 65536
    · rw [if_pos hlen] at hx2
      have HE := Lib.hid hx2
      clear hx2
      have hli : ¬ 65536 < (z : Int) + 8 + (n : Int) := by omega
      obtain ⟨g3, rfl, hr4, hzc⟩ := last4_own H3.out.1 (by omega)
      have e4 : IntKind.i64.wrap ((z : Int) - 4) = ((z - 4 : Nat) : Int) := by rw [IntWalk.i64_in _ (by omega)]; omega
      have e5 : z - (z - 4) = 4 := by omega
      have g0 : ((z - 4 : Nat) : Int) ≤ (z : Int) := by omega
      have g1 : (0 : Int) ≤ ((z - 4 : Nat) : Int) := by omega
      have hne : ¬ c3 = z - 4 := by omega
      have HFR := Lib.hid (Rframe_any (w := w3.drew) (some ⟨g3, z - 4, none⟩) (c3 - (z - 4)) (last4 j.text) kn A n cap body (hr4.dn 1) (((HR.out.below HB3.out).more HB3.out.size).dn 1) hn4 hk4)
      clear hr4
      go_upto_region 7 with fail
      refine region_tail 6 (by kernel_rfl) (by kernel_rfl) ?_
      simp only [List.take_succ_cons, List.take_zero, List.drop_succ_cons, List.drop_zero]
      repeat still_step
      refine wpStill_nil ?_
      have HB4 : Hid (Below w.heap.size w w3.drew) := Lib.hid (below_drewN HB3.out 1)
      have HX4 : Hid (Blk w3.drew w.heap.size 34 #[.int .i64 (kn : Int), .slice A n cap]) := Lib.hid (HX3.out.drewN 1)
      clear c0 c1 H3 HB2 HB3 HX3 e4 e5 g0 g1
      generalize w3.drew = w4 at HFR HB4 HX4 ⊢
      go_upto_region 8 with (go_at_call 58; refine HFR.out.mono ?_; rintro _ w5 ⟨A5, c5, rfl, ho5, hb5⟩; have H5 := Lib.hid (And.intro ho5 hb5); clear ho5 hb5)
      have HB5 := Lib.hid (HB4.out.trans (H5.out.2.mono HB4.out.size))
      have HX5 := Lib.hid (HX4.out.over H5.out.2)
      have c0 : w5.cell? ⟨w.heap.size, 0, none⟩ = some (.int .i64 (kn : Int)) := HX5.out.cell 0
      have c1 : w5.cell? ⟨w.heap.size, 1, none⟩ = some (.slice A n cap) := HX5.out.cell 1
      have HTW := Lib.hid (twin_any (w := w5) (kn : Int) A n cap body ((HR.out.below HB5.out).more HB5.out.size) hn)
      clear HFR
      go_upto_region 9 with (go_at_call 53; refine HTW.out.mono ?_; rintro _ w6 ⟨A6, c6, rfl, ho6, hb6⟩; have H6 := Lib.hid (And.intro ho6 hb6); clear ho6 hb6)
      have HB6 := Lib.hid (HB5.out.trans (H6.out.2.mono HB5.out.size))
      obtain ⟨w7, hw7⟩ : ∃ y, y = w6.alloc (.cells #[.int .i64 (kn : Int), .slice A6 n c6] 34) := ⟨_, rfl⟩
      rw [← hw7]
      have hb7 : Below w6.heap.size w6 w7 := by rw [hw7]; exact one_box' _ _
      have hX7 : Blk w7 w6.heap.size 34 #[.int .i64 (kn : Int), .slice A6 n c6] := by rw [hw7]; exact Blk.new _ _ _
      obtain ⟨wd, hwd⟩ : ∃ wd, wd = w7.drew := ⟨_, rfl⟩
      have hbd : Below w6.heap.size w6 wd := by rw [hwd]; exact below_drewN hb7 1
      have hXd : Blk wd w6.heap.size 34 #[.int .i64 (kn : Int), .slice A6 n c6] := by rw [hwd]; exact hX7.drewN 1
      have hBd : Below w.heap.size w wd := HB6.out.trans (hbd.mono HB6.out.size)
      have hkglt : kg < w6.heap.size := Nat.lt_of_lt_of_le HP.out.lt HB6.out.size
      obtain ⟨v, KL, hJB, hJK, hJF, hJm⟩ := (HP.out.below hBd).ex
      obtain ⟨Av, cv, rfl, _, _⟩ := hJK.shape
      have hKl : KL.length ≤ 65536 := by
        have h1 := bodies_le j.recs
        have h2 := textB_length j.gen j.count j.recs
        have h3 := HZ.out
        have h4 : KL.length = j.recs.length := by rw [← hJm, List.length_map]
        rw [JP.text] at h3
        omega
      have hvold : ∀ g, (Value.slice Av KL.length cv).ownBlock = some g → g < w.heap.size := fun g hg => by
        obtain ⟨v0, K0, h1, h2, h3, h4⟩ := HP.out.ex
        have h5 : (Value.slice Av KL.length cv) = v0 := by
          have e1 := (h1.over hBd).cell 3
          rw [hJB.cell 3] at e1
          simpa using e1
        rw [h5] at hg
        exact (own_block_lt h2.own hg).1
      have hxo : wd.ownsRow 0 5 1 (.slice A6 n c6) n (bvs body) := own_base (own_over H6.out.1 hbd) (Nat.zero_le _)
      have hxnew : ∀ g, (Value.slice A6 n c6).ownBlock = some g → w.heap.size ≤ g := fun g hg => Nat.le_trans HB5.out.size (own_block_lt H6.out.1 hg).2.1
      have j3 : wd.cell? ⟨kg, 3, none⟩ = some (.slice Av KL.length cv) := hJB.cell 3
      have HJ := Lib.hid (And.intro hJB (And.intro hJK (And.intro hJF hJm)))
      have HX := Lib.hid (And.intro hxo (And.intro hxnew (And.intro hvold (And.intro hBd hXd))))
      have HX6 := Lib.hid hbd
      have HWD := Lib.hid hwd
      have HSB : Hid ((wd.alloc (.cells #[.int .i64 (kn : Int), .slice A6 n c6] 34)).cell? ⟨w6.heap.size, 0, none⟩ = some (.int .i64 (kn : Int)) ∧ (wd.alloc (.cells #[.int .i64 (kn : Int), .slice A6 n c6] 34)).cell? ⟨w6.heap.size, 1, none⟩ = some (.slice A6 n c6)) := Lib.hid ⟨(hXd.alloc _).cell 0, (hXd.alloc _).cell 1⟩
      have HJA : Hid ((wd.alloc (.cells #[.int .i64 (kn : Int), .slice A6 n c6] 34)).cell? ⟨kg, 3, none⟩ = some (.slice Av KL.length cv)) := Lib.hid ((hJB.alloc _).cell 3)
      clear hw7 hb7 hX7 hwd hbd hXd hBd hJB hJK hJF hJm hxo hxnew hvold c0 c1
      go_cut [] from 33 to 42 (fun wc => ∃ F', Hid (RJAt wc F' kg { j with recs := j.recs ++ [⟨(kn : Int), body⟩] } ∧ Moved w wc F F' ∧ Chg F wd wc))
      case first =>
        obtain ⟨i1, hi1, hr0, hr1, hr2⟩ := info_parts info_rec
        have hqlt : w6.heap.size < wd.heap.size := HX.out.2.2.2.2.lt
        have HSA : Hid (∀ w8, wd.grownBy w8 (Value.slice Av KL.length cv).ownBlock → w8.cell? ⟨w6.heap.size, 0, none⟩ = some (.int .i64 (kn : Int)) ∧ w8.cell? ⟨w6.heap.size, 1, none⟩ = some (.slice A6 n c6)) := Lib.hid fun w8 hg => by
          have hne : ¬ some w6.heap.size = (Value.slice Av KL.length cv).ownBlock := fun e => by
            have h1 := HX.out.2.2.1 _ e.symm
            have h2 := HB6.out.size
            omega
          have hX8 := HX.out.2.2.2.2.chg (Chg.of_grown hg) hne
          exact ⟨hX8.cell 0, hX8.cell 1⟩
        have HKG : Hid (∀ w8, wd.grownBy w8 (Value.slice Av KL.length cv).ownBlock → w8.cell? ⟨kg, 3, none⟩ = some (.slice Av KL.length cv) ∧ w8.frozen? ⟨kg, 3, none⟩ = false) := Lib.hid fun w8 hg => by
          have hB8 := HJ.out.1.chg (Chg.of_grown hg) fun e => absurd (HJ.out.1.isT.eq_ (own_isT HJ.out.2.1.own e.symm)) (by decide)
          exact ⟨hB8.cell 3, hB8.frozen 3⟩
        have HFN : Hid (∀ v8 w8, w8.ownsRow 0 34 2 v8 (KL.length + 1) (rowsK KL ++ (Rk.mk ⟨(kn : Int), body⟩ (.slice A6 n c6)).cells) → wd.grownBy w8 (Value.slice Av KL.length cv).ownBlock → (v8.ownBlock = (Value.slice Av KL.length cv).ownBlock ∨ v8.ownBlock = some (wd.heap.size + 1)) → (RJAt (w8.setCell ⟨kg, 3, none⟩ v8) (fun k => F k ∨ v8.ownBlock = some k ∨ (Value.slice A6 n c6).ownBlock = some k) kg { j with recs := j.recs ++ [⟨(kn : Int), body⟩] } ∧ Moved w (w8.setCell ⟨kg, 3, none⟩ v8) F (fun k => F k ∨ v8.ownBlock = some k ∨ (Value.slice A6 n c6).ownBlock = some k) ∧ Chg F wd (w8.setCell ⟨kg, 3, none⟩ v8)) ∧ ((w8.setCell ⟨kg, 3, none⟩ v8).cell? ⟨w6.heap.size, 0, none⟩ = some (.int .i64 (kn : Int)) ∧ (w8.setCell ⟨kg, 3, none⟩ v8).cell? ⟨w6.heap.size, 1, none⟩ = some (.slice A6 n c6))) := Lib.hid fun v8 w8 ho hg hat => by
          have hnF : ∀ g, w.heap.size ≤ g → g < wd.heap.size → (Value.slice A6 n c6).ownBlock = some g → ¬ F g := fun g h1 h2 h3 hF => HNF.out g h1 hF
          have hxn : ∀ g, (Value.slice A6 n c6).ownBlock = some g → ¬ F g := fun g hg hF => HNF.out g (HX.out.2.1 g hg) hF
          obtain ⟨h1, h2⟩ := rj_push (x := ⟨⟨(kn : Int), body⟩, .slice A6 n c6⟩) HJ.out.1 HJ.out.2.1 HJ.out.2.2.1 HP.out.kgF HJ.out.2.2.2 (by have := HX.out.1; rw [← HL.out] at this ⊢; exact this) hxn ho hg
          refine ⟨⟨h1, ⟨fun k hk => ?_, ?_⟩, h2⟩, ?_⟩
          · rcases hk with hk | hk | hk
            · exact .inl hk
            · rcases hat with e | e
              · exact .inl (HJ.out.2.2.1.rows k (e ▸ hk))
              · rw [e] at hk
                injection hk with hk
                have := HX.out.2.2.2.1.size
                exact .inr (by omega)
            · exact .inr (HX.out.2.1 k hk)
          · exact (Chg.of_below HX.out.2.2.2.1 F).trans h2
          · have hX9 := HX.out.2.2.2.2.chg h2 fun hF => HNF.out _ HB6.out.size hF
            exact ⟨hX9.cell 0, hX9.cell 1⟩
        refine wp_region_held_drew (S := fun W => W.cell? ⟨w6.heap.size, 0, none⟩ = some (.int .i64 (kn : Int)) ∧ W.cell? ⟨w6.heap.size, 1, none⟩ = some (.slice A6 n c6)) (by kernel_rfl) (by rw [← HWD.out]; exact ⟨HX.out.2.2.2.2.cell 0, HX.out.2.2.2.2.cell 1⟩) (fun hsw => ?_)
        rw [← HWD.out] at hsw ⊢
        refine wpAnyH_take (i := 0) (oi := ?oi0a) (v := ?v0a) ?hi0a (by kernel_rfl) (by kernel_rfl) (by kernel_rfl) ?hq0a ?hy0a (by assumption) ?rest0a
        case hi0a => (simp only [List.getElem?_toArray, List.getElem?_cons_zero]; rfl)
        case hy0a => (refine Or.inl ⟨by rfl, ?_⟩; intro w hSw; (try dsimp only at hSw); go_simp; try with_reducible rfl)
        case hq0a => exact fun _ _ _ h => h
        try simp only [Act.put, List.setIfInBounds_toArray, List.set_cons_zero, List.set_cons_succ]
        refine wpAnyH_take (i := 1) (oi := ?oi1a) (v := ?v1a) ?hi1a (by kernel_rfl) (by kernel_rfl) (by kernel_rfl) ?hq1a ?hy1a (by assumption) ?rest1a
        case hi1a => (simp only [List.getElem?_toArray, List.getElem?_cons_zero, List.getElem?_cons_succ]; rfl)
        case hy1a => (refine Or.inl ⟨by rfl, ?_⟩; intro w hSw; (try dsimp only at hSw); go_simp; try with_reducible rfl)
        case hq1a => exact fun _ _ _ h => h
        try simp only [Act.put, List.setIfInBounds_toArray, List.set_cons_zero, List.set_cons_succ]
        refine wpAnyH_take (i := 2) (oi := ?oi2a) (v := ?v2a) ?hi2a (by kernel_rfl) (by kernel_rfl) (by kernel_rfl) ?hq2a ?hy2a (by assumption) ?rest2a
        case hi2a => (simp only [List.getElem?_toArray, List.getElem?_cons_zero, List.getElem?_cons_succ]; rfl)
        case hy2a => (refine Or.inl ⟨by rfl, ?_⟩; intro w hSw; (try dsimp only at hSw); go_simp; try with_reducible rfl)
        case hq2a => exact fun _ _ _ h => h
        try simp only [Act.put, List.setIfInBounds_toArray, List.set_cons_zero, List.set_cons_succ]
        refine wpAnyH_take (i := 3) (oi := ?oi3a) (v := ?v3a) ?hi3a (by kernel_rfl) (by kernel_rfl) (by kernel_rfl) ?hq3a ?hy3a (by assumption) ?rest3a
        case hi3a => (simp only [List.getElem?_toArray, List.getElem?_cons_zero, List.getElem?_cons_succ]; rfl)
        case hy3a => (refine Or.inl ⟨by rfl, ?_⟩; intro w hSw; (try dsimp only at hSw); go_simp; try with_reducible rfl)
        case hq3a => exact fun _ _ _ h => h
        try simp only [Act.put, List.setIfInBounds_toArray, List.set_cons_zero, List.set_cons_succ]
        refine wpAnyH_take (i := 5) (oi := ?oi5a) (v := ?v5a) ?hi5a (by kernel_rfl) (by kernel_rfl) (by kernel_rfl) ?hq5a ?hy5a (by assumption) ?rest5a
        case hi5a => (simp only [List.getElem?_toArray, List.getElem?_cons_zero, List.getElem?_cons_succ]; rfl)
        case hy5a => (refine Or.inl ⟨by rfl, ?_⟩; intro w hSw; (try dsimp only at hSw); go_simp; try with_reducible rfl)
        case hq5a => exact fun _ _ _ h => h
        try simp only [Act.put, List.setIfInBounds_toArray, List.set_cons_zero, List.set_cons_succ]
        refine wpAnyH_ready (rs := [4, 6]) (by kernel_rfl) (by simp) ?_
        refine AllReadyH.cons (o := ?o4b4) ?ho4b4 (fun K hK => ?st4b4) ?mo4b4
        case ho4b4 => (simp only [List.getElem?_toArray, List.getElem?_cons_zero, List.getElem?_cons_succ]; rfl)
        · skip
          go_simp
          refine hK.out _ _ hsw (fun _ => ?_)
          clear hK K
          try simp only [Act.put, List.setIfInBounds_toArray, List.set_cons_zero, List.set_cons_succ]
          refine wpAnyH_ready (rs := [6]) (by kernel_rfl) (by simp) ?_
          refine AllReadyH.cons (o := ?o6b6) ?ho6b6 (fun K hK => ?st6b6) ?mo6b6
          case ho6b6 => (simp only [List.getElem?_toArray, List.getElem?_cons_zero, List.getElem?_cons_succ]; rfl)
          · skip
            go_simp
            have hsa := HSB.out
            refine hK.out _ _ hsa (fun _ => ?_)
            clear hK K hsa
            try simp only [Act.put, List.setIfInBounds_toArray, List.set_cons_zero, List.set_cons_succ]
            refine wpAnyH_ready (rs := [7]) (by kernel_rfl) (by simp) ?_
            refine AllReadyH.cons (o := ?o7c7) ?ho7c7 (fun K hK => ?st7c7) ?mo7c7
            case ho7c7 => (simp only [List.getElem?_toArray, List.getElem?_cons_zero, List.getElem?_cons_succ]; rfl)
            · skip
              refine step_appN wd (by rfl) _ _ 25 (by rfl) 0 34 i1 _ 2 32 u_recs hi1 hr0 hr1 hr2 rfl (by omega) _ KL.length _ (by rfl) HJ.out.2.1.own #[.int .i64 (kn : Int), .slice A6 n c6] rfl (by rfl) (by simp; exact ⟨rfl, rfl⟩) (by simp only [maxLen]; omega) (by omega) (Nat.zero_le _) ?_
              intro v8 w8 how8 _ hg8 hat8
              obtain ⟨A8, c8, rfl, _, _⟩ := own_shape how8
              have hs8 := HSA.out w8 hg8
              have hkk := HKG.out w8 hg8
              have H8 := Lib.hid (And.intro how8 (And.intro hg8 hat8))
              refine hK.out _ _ hs8 (fun _ => ?_)
              clear hK K how8 hg8 hat8 hs8
              try simp only [Act.put, List.setIfInBounds_toArray, List.set_cons_zero, List.set_cons_succ]
              refine wpAnyH_take (i := 8) (oi := ?oi8ct) (v := ?v8ct) ?hi8ct (by kernel_rfl) (by kernel_rfl) (by kernel_rfl) ?hq8ct ?hy8ct (by assumption) ?rest8ct
              case hi8ct => (simp only [List.getElem?_toArray, List.getElem?_cons_zero, List.getElem?_cons_succ]; rfl)
              case hy8ct => (refine Or.inl ⟨by rfl, ?_⟩; intro w hSw; (try dsimp only at hSw); go_simp; try with_reducible rfl)
              case hq8ct => exact fun _ _ _ h => h
              try simp only [Act.put, List.setIfInBounds_toArray, List.set_cons_zero, List.set_cons_succ]
              refine wpAnyH_take (i := 9) (oi := ?oi9ct) (v := ?v9ct) ?hi9ct (by kernel_rfl) (by kernel_rfl) (by kernel_rfl) ?hq9ct ?hy9ct (by assumption) ?rest9ct
              case hi9ct => (simp only [List.getElem?_toArray, List.getElem?_cons_zero, List.getElem?_cons_succ]; rfl)
              case hy9ct => (refine Or.inl ⟨by rfl, ?_⟩; intro w hSw; (try dsimp only at hSw); go_simp; try with_reducible rfl)
              case hq9ct => exact fun _ _ _ h => h
              try simp only [Act.put, List.setIfInBounds_toArray, List.set_cons_zero, List.set_cons_succ]
              refine wpAnyH_ready (rs := [10]) (by kernel_rfl) (by simp) ?_
              refine AllReadyH.cons (o := ?o10c10) ?ho10c10 (fun K hK => ?st10c10) ?mo10c10
              case ho10c10 => (simp only [List.getElem?_toArray, List.getElem?_cons_zero, List.getElem?_cons_succ]; rfl)
              · skip
                obtain ⟨k3, kf⟩ := hkk
                go_simp
                have hfin := HFN.out _ w8 H8.out.1 H8.out.2.1 H8.out.2.2
                refine hK.out _ _ hfin.2 (fun _ => ?_)
                have HX9 := Lib.hid hfin.1
                clear hK K hfin
                try simp only [Act.put, List.setIfInBounds_toArray, List.set_cons_zero, List.set_cons_succ]
                refine wpAnyH_done (by kernel_rfl) ?_ _
                go_wp2_with fail
                go_meet
                exact ⟨_, Lib.hid HX9.out⟩
              exact AllReadyH.nil
            exact AllReadyH.nil
          exact AllReadyH.nil
        refine AllReadyH.cons (o := ?o6d6) ?ho6d6 (fun K hK => ?st6d6) ?mo6d6
        case ho6d6 => (simp only [List.getElem?_toArray, List.getElem?_cons_zero, List.getElem?_cons_succ]; rfl)
        · skip
          go_simp
          have hsa := HSB.out
          have j3a := HJA.out
          refine hK.out _ _ hsa (fun _ => ?_)
          clear hK K hsa
          try simp only [Act.put, List.setIfInBounds_toArray, List.set_cons_zero, List.set_cons_succ]
          refine wpAnyH_ready (rs := [4]) (by kernel_rfl) (by simp) ?_
          refine AllReadyH.cons (o := ?o4d4) ?ho4d4 (fun K hK => ?st4d4) ?mo4d4
          case ho4d4 => (simp only [List.getElem?_toArray, List.getElem?_cons_zero, List.getElem?_cons_succ]; rfl)
          · skip
            go_simp
            have hsa := HSB.out
            refine hK.out _ _ hsa (fun _ => ?_)
            clear hK K hsa j3a
            try simp only [Act.put, List.setIfInBounds_toArray, List.set_cons_zero, List.set_cons_succ]
            refine wpAnyH_ready (rs := [7]) (by kernel_rfl) (by simp) ?_
            refine AllReadyH.cons (o := ?o7e7) ?ho7e7 (fun K hK => ?st7e7) ?mo7e7
            case ho7e7 => (simp only [List.getElem?_toArray, List.getElem?_cons_zero, List.getElem?_cons_succ]; rfl)
            · skip
              refine step_appN wd (by rfl) _ _ 25 (by rfl) 0 34 i1 _ 2 32 u_recs hi1 hr0 hr1 hr2 rfl (by omega) _ KL.length _ (by rfl) HJ.out.2.1.own #[.int .i64 (kn : Int), .slice A6 n c6] rfl (by rfl) (by simp; exact ⟨rfl, rfl⟩) (by simp only [maxLen]; omega) (by omega) (Nat.zero_le _) ?_
              intro v8 w8 how8 _ hg8 hat8
              obtain ⟨A8, c8, rfl, _, _⟩ := own_shape how8
              have hs8 := HSA.out w8 hg8
              have hkk := HKG.out w8 hg8
              have H8 := Lib.hid (And.intro how8 (And.intro hg8 hat8))
              refine hK.out _ _ hs8 (fun _ => ?_)
              clear hK K how8 hg8 hat8 hs8
              try simp only [Act.put, List.setIfInBounds_toArray, List.set_cons_zero, List.set_cons_succ]
              refine wpAnyH_take (i := 8) (oi := ?oi8et) (v := ?v8et) ?hi8et (by kernel_rfl) (by kernel_rfl) (by kernel_rfl) ?hq8et ?hy8et (by assumption) ?rest8et
              case hi8et => (simp only [List.getElem?_toArray, List.getElem?_cons_zero, List.getElem?_cons_succ]; rfl)
              case hy8et => (refine Or.inl ⟨by rfl, ?_⟩; intro w hSw; (try dsimp only at hSw); go_simp; try with_reducible rfl)
              case hq8et => exact fun _ _ _ h => h
              try simp only [Act.put, List.setIfInBounds_toArray, List.set_cons_zero, List.set_cons_succ]
              refine wpAnyH_take (i := 9) (oi := ?oi9et) (v := ?v9et) ?hi9et (by kernel_rfl) (by kernel_rfl) (by kernel_rfl) ?hq9et ?hy9et (by assumption) ?rest9et
              case hi9et => (simp only [List.getElem?_toArray, List.getElem?_cons_zero, List.getElem?_cons_succ]; rfl)
              case hy9et => (refine Or.inl ⟨by rfl, ?_⟩; intro w hSw; (try dsimp only at hSw); go_simp; try with_reducible rfl)
              case hq9et => exact fun _ _ _ h => h
              try simp only [Act.put, List.setIfInBounds_toArray, List.set_cons_zero, List.set_cons_succ]
              refine wpAnyH_ready (rs := [10]) (by kernel_rfl) (by simp) ?_
              refine AllReadyH.cons (o := ?o10e10) ?ho10e10 (fun K hK => ?st10e10) ?mo10e10
              case ho10e10 => (simp only [List.getElem?_toArray, List.getElem?_cons_zero, List.getElem?_cons_succ]; rfl)
              · skip
                obtain ⟨k3, kf⟩ := hkk
                go_simp
                have hfin := HFN.out _ w8 H8.out.1 H8.out.2.1 H8.out.2.2
                refine hK.out _ _ hfin.2 (fun _ => ?_)
                have HX9 := Lib.hid hfin.1
                clear hK K hfin
                try simp only [Act.put, List.setIfInBounds_toArray, List.set_cons_zero, List.set_cons_succ]
                refine wpAnyH_done (by kernel_rfl) ?_ _
                go_wp2_with fail
                go_meet
                exact ⟨_, Lib.hid HX9.out⟩
              exact AllReadyH.nil
            exact AllReadyH.nil
          exact AllReadyH.nil
        exact AllReadyH.nil
      obtain ⟨F', HC⟩ := hcut
      obtain ⟨v9, K9, hB9, _⟩ := HC.out.1.ex
      have j0 : wc.cell? ⟨kg, 0, none⟩ = some (.int .i64 (j.file : Int)) := hB9.cell 0
      have ho9 : wc.ownsRow w4.heap.size 5 1 (.slice A5 (8 + n) c5) (8 + n) (bvs (frameB (last4 j.text) ⟨(kn : Int), body⟩)) := own_chg (own_over H5.out.1 (Below.then H6.out.2 HX6.out)) HC.out.2.2 fun g hg hF => HNF.out g (Nat.le_trans HB4.out.size (own_block_lt H5.out.1 hg).2.1) hF
      obtain ⟨g5, rfl, _, _, _⟩ := own_open ho9 (by omega)
      have HO9 := Lib.hid ho9
      clear hB9 ho9 j3
      go_wp2
      go_ret2
      rw [HE.out]
      refine ⟨_, F', rfl, HC.out.1.below (one_box' _ _), wout_one (x := ⟨(j.file : Int), false, frameB (last4 j.text) ⟨(kn : Int), body⟩⟩) (by rw [frameB_length]; dsimp only; rw [HL.out]) (by omega) (own_base HO9.out HB4.out.size) HC.out.2.1.2.size, HC.out.2.1.1, HC.out.2.1.2.alloc _⟩
    · rw [if_neg hlen] at hx2
      have HE := Lib.hid hx2
      clear hx2
      have hli : 65536 < (z : Int) + 8 + (n : Int) := by omega
      go_wp2
      go_ret2
      rw [HE.out]
      exact ⟨_, F, rfl, HP.out.below HB3.out, WOut.nil, Moved.of_below HB3.out⟩
end Go.Proofs.YtpkdalpjfcopbaaDoor
