/-
  The document's Text.
-/
import Derived.Test.YtpkdalpjfcopbaaDoorLText
namespace Go.Proofs.YtpkdalpjfcopbaaDoor
open Go.RowKit
set_option maxRecDepth 100000 in
set_option maxHeartbeats 1600000 in
theorem Rtext_any {w : World} (g c : Nat) (A : Option Addr) (n cap : Nat) (rs : List Rc) (hr : RcRd w (fun _ => False) A n rs) (hok : ∀ r ∈ rs, r.ok = true) (hg : g < 9223372036854775808) (hc : c < 9223372036854775808) (hb : bodies rs ≤ 1099511627776) :
    Calls Tryd.prog 73 #[.int .i64 (g : Int), .int .i64 (c : Int), .slice A n cap] w fun e w' => ∃ A' cap', e = .returned (.slice A' (18 + bodies rs) cap') ∧ w'.ownsRow w.heap.size 5 1 (.slice A' (18 + bodies rs) cap') (18 + bodies rs) (bvs (textB g c rs)) ∧ Below w.heap.size w w' := by
  obtain ⟨i0, hi0, hz0, hz1, hz2⟩ := info_parts info_u8
  have hn8 := bodies_le rs
  have HN := Lib.hid hr.len
  have hnb : n ≤ 1099511627776 := by have := HN.out; omega
  have HR := Lib.hid hr
  have HOK := Lib.hid hok
  clear hr hok hn8
  go_enter Tryd.func73, Tryd.ntmps73
  go_wp2_with (go_at_call 68; refine (Rhead_any g c hg hc).mono ?_; rintro _ w1 ⟨A1, c1, rfl, ho1, hb1⟩; have H1 := Lib.hid (And.intro ho1 hb1); clear ho1 hb1)
  go_loopw [7, 8] (fun v i wr => ∃ (k : Nat) (A' : Option Addr) (cap' : Nat), k ≤ n ∧ i = .int .i64 (k : Int) ∧ v = .slice A' (18 + bodies (rs.take k)) cap' ∧ Hid (wr.ownsRow w.heap.size 5 1 (.slice A' (18 + bodies (rs.take k)) cap') (18 + bodies (rs.take k)) (bvs (textB g c (rs.take k))) ∧ Below w.heap.size w wr)) (fun _ i _ => n - (intOf i).toNat)
  case atStart => exact ⟨0, _, _, by omega, rfl, rfl, H1⟩
  case round =>
    clear H1
    obtain ⟨k, A', cap', hk, rfl, rfl, HB⟩ := hrel
    have hbl := bodies_take_le rs k
    by_cases hlt : k < n
    · have hI : (k : Int) < (n : Int) := by omega
      obtain ⟨r, hx⟩ : ∃ r, rs[k]? = some r := ⟨rs[k]'(by rw [← HN.out]; exact hlt), List.getElem?_eq_getElem _⟩
      obtain ⟨kd, hkd, hk1, hk4, hbd⟩ := Rc.ok_k (HOK.out r (List.mem_of_getElem? hx))
      have HRW := HR.out.below HB.out.2
      obtain ⟨q, o, bA, bc, rfl, hq, _, c0, c1, hrd, hcp, _⟩ := HRW.at_ k r hx
      rw [hkd] at c0
      obtain ⟨m, hm⟩ : ∃ m, m = 18 + bodies (rs.take k) := ⟨_, rfl⟩
      have hbt := bodies_take hx
      have htt : Hid (textB g c (rs.take (k + 1)) = textB g c (rs.take k) ++ frameB (last4 (textB g c (rs.take k))) r) := Lib.hid (textB_take hx)
      have hmm : 18 + bodies (rs.take (k + 1)) = m + (8 + r.body.length) := by omega
      have HMM := Lib.hid hmm
      rw [← hm] at HB ⊢
      have hml : m ≤ 1099511627794 := by omega
      have hm18 : 18 ≤ m := by omega
      obtain ⟨gt, rfl, hr4, hmc⟩ := last4_own HB.out.1 (by omega)
      have HFD := Lib.hid (Rframe_any (w := wr.drew) (some ⟨gt, m - 4, none⟩) (cap' - (m - 4)) (last4 (textB g c (rs.take k))) kd bA r.body.length bc r.body (hr4.dn 1) (hrd.dn 1) hbd hk4)
      have HKD := Lib.hid hkd
      have e4 : IntKind.i64.wrap ((m : Int) - 4) = ((m - 4 : Nat) : Int) := by rw [IntWalk.i64_in _ (by omega)]; omega
      have e5 : m - (m - 4) = 4 := by omega
      have g0 : ((m - 4 : Nat) : Int) ≤ (m : Int) := by omega
      have g1 : (0 : Int) ≤ ((m - 4 : Nat) : Int) := by omega
      have hne : ¬ cap' = m - 4 := by omega
      clear hm hbt hx hrd hr4 hmm hcp HRW
      go_upto_region 5 with fail
      refine region_tail 9 (by kernel_rfl) (by kernel_rfl) ?_
      simp only [List.take_succ_cons, List.take_zero, List.drop_succ_cons, List.drop_zero]
      repeat still_step
      refine wpStill_nil ?_
      have HBd : Hid (wr.drew.ownsRow w.heap.size 5 1 (.slice (some ⟨gt, 0, none⟩) m cap') m (bvs (textB g c (rs.take k))) ∧ Below w.heap.size w wr.drew) := Lib.hid ⟨HB.out.1, below_drewN HB.out.2 1⟩
      clear HB c0 c1
      generalize wr.drew = wd at HBd HFD ⊢
      go_wp2_with (first
        | (go_at_call 58
           refine HFD.out.mono ?_
           rintro _ w2 ⟨A2, c2, rfl, ho2, hb2⟩
           have H2 := Lib.hid (And.intro ho2 hb2)
           have HO2 := Lib.hid (own_over HBd.out.1 hb2)
           have HR2 := Lib.hid (Rd.of_own ho2)
           have HB2 : Hid (Below w.heap.size w w2) := Lib.hid (HBd.out.2.trans (hb2.mono HBd.out.2.size))
           clear ho2 hb2)
        | (at_builtin
           refine wpList_append_any _ (by rfl) _ _ 22 (by rfl) w.heap.size 5 i0 _ 1 1 u_bytes hi0 hz0 hz1 hz2 rfl (by omega) _ m _ (by rfl) HO2.out w2.heap.size A2 (8 + r.body.length) c2 (bvs (frameB (last4 (textB g c (rs.take k))) ⟨(kd : Int), r.body⟩)) (by rfl) HR2.out (bvs_one _) (by simp only [maxLen]; omega) (by omega) HB2.out.size ?_
           intro v3 w3 ho3 hg3 _
           obtain ⟨A3, c3, rfl, _, _⟩ := own_shape ho3
           have H3 := Lib.hid (And.intro ho3 (below_app HO2.out hg3 HB2.out.size))
           clear ho3 hg3))
      go_roundw
      case rel =>
        refine ⟨k + 1, A3, c3, by omega, by go_num, by rw [HMM.out], Lib.hid ⟨?_, HB2.out.trans H3.out.2⟩⟩
        have h := H3.out.1
        have er : (⟨(kd : Int), r.body⟩ : Rc) = r := by rw [← HKD.out]
        rw [← bvs_append, er, ← htt.out, ← HMM.out] at h
        rw [HMM.out] at h ⊢
        exact h
      case measure => simp [intOf] <;> omega
    · obtain rfl : n = k := by omega
      have et : rs.take n = rs := List.take_of_length_le (by rw [← HN.out]; exact Nat.le_refl _)
      rw [et] at HB
      simp only [et]
      clear et
      go_wp2
      go_ret
      exact ⟨A', cap', rfl, HB.out.1, HB.out.2⟩
end Go.Proofs.YtpkdalpjfcopbaaDoor
