/-
  The reference's Take.
-/
import Derived.Test.YtgapkphkcncgeaaDoorJBlob
import Derived.Test.YtgapkphkcncgeaaDoorJPutR
import Derived.Outline
namespace Go.Proofs.YtgapkphkcncgeaaDoor
open Go.RowKit

/-- What a Take answers: a list that reads as b, is it whole, the error. -/
def RetB (w : World) (u : Value) (b : List UInt8) : Prop := ∃ A cap, u = .slice A b.length cap ∧ b.length ≤ cap ∧ cap ≤ maxLen ∧ RdB w w.heap.size A b.length b
theorem RetB.nil_ (w : World) : RetB w (.slice none 0 0) [] := ⟨none, 0, rfl, by simp, by simp [maxLen], Rd.nil_ _⟩
theorem RetB.of_own {w : World} {base : Nat} {u : Value} {b : List UInt8} (h : w.ownsRow base 5 1 u b.length (bvs b)) : RetB w u b := by
  obtain ⟨A, cap, rfl, h1, h2⟩ := own_shape h
  exact ⟨A, cap, rfl, h1, h2, Rd.of_own h⟩
def TakesR (w : World) (F : Nat → Prop) (N J : Nat) (st : JSt) (s : Int) (bs : List UInt8) (e : Ending) (w' : World) : Prop :=
  ∃ u b ok er st' F', ((b, ok, er), st') = takeS N st s bs ∧ e = .returned (.tuple #[u, .bool ok, .int .i64 ((er : Nat) : Int)]) ∧ RetB w' u b ∧ RJx w' F' N J st' ∧ Moved w w' F F'
theorem info_bs' : (Tryd.prog.info? 22).map (fun i => (i.zero, i.size, i.bytes)) = some (some (.slice none 0 0), 1, 24) := by kernel_rfl

set_option maxRecDepth 100000 in
set_option maxHeartbeats 3200000 in
theorem RTake_arg (A : Option Addr) (n cap J N : Nat) (F : Nat → Prop) (st : JSt) (bs : List UInt8) (s : Int) (w : World) (h : RJx w F N J st) (hN : N ≤ 16) (hs : s < 0 ∨ (N : Int) ≤ s) :
    Calls Tryd.prog 31 #[.pointer (some ⟨J, 0, none⟩), .int .i64 s, .slice A n cap] w (TakesR w F N J st s bs) := by
  have HT := Lib.hid (takeS_arg (st := st) (c := bs) hs)
  have h0 := h
  obtain ⟨hF, vv, rows, cs, hj⟩ := h
  have hc0 : w.cell? ⟨J, 0, none⟩ = some (.int .i64 (N : Int)) := by rw [hj.blk.cell]; exact hj.num
  clear hj hF
  rcases hs with hs | hs
  · go_enter Tryd.func31, Tryd.ntmps31
    go_wp2
    go_ret3
    exact ⟨_, _, _, _, _, _, HT.out.symm, rfl, RetB.nil_ _, h0, Moved.refl _ _⟩
  · have hs' : ¬ s < 0 := by omega
    go_enter Tryd.func31, Tryd.ntmps31
    go_wp2
    go_ret3
    exact ⟨_, _, _, _, _, _, HT.out.symm, rfl, RetB.nil_ _, h0, Moved.refl _ _⟩
set_option maxRecDepth 100000 in
set_option maxHeartbeats 3200000 in
theorem RTake_form (A : Option Addr) (n cap J N s : Nat) (F : Nat → Prop) (st : JSt) (bs : List UInt8) (w : World) (h : RJx w F N J st) (hN : N ≤ 16) (hs : s < N) (hr : RdB w w.heap.size A n bs) (hn : n ≤ 140737488355328) (hf : ¬ Form bs) :
    Calls Tryd.prog 31 #[.pointer (some ⟨J, 0, none⟩), .int .i64 s, .slice A n cap] w (TakesR w F N J st s bs) := by
  have HT := Lib.hid (takeS_form (st := st) hs hf)
  have h0 := h
  obtain ⟨hF, vv, rows, cs, hj⟩ := h
  have hc0 : w.cell? ⟨J, 0, none⟩ = some (.int .i64 (N : Int)) := by rw [hj.blk.cell]; exact hj.num
  clear hj hF
  have hfb : formB bs = false := by unfold formB; simpa using hf
  have HFB := Lib.hid hfb
  clear hfb hf
  have hs1 : (s : Int) < (N : Int) := by omega
  have hs2 : ¬ (s : Int) < 0 := by omega
  go_enter Tryd.func31, Tryd.ntmps31
  go_wp2_with fail
  refine (Form_any A n cap _ bs w hr hn).mono ?_
  rintro _ _ ⟨he, rfl⟩
  rw [HFB.out] at he
  subst he
  go_wp2
  go_ret3
  exact ⟨_, _, _, _, _, _, HT.out.symm, rfl, RetB.nil_ _, h0, Moved.refl _ _⟩
set_option maxRecDepth 100000 in
set_option maxHeartbeats 3200000 in
theorem RTake_go (A : Option Addr) (n cap J N s : Nat) (F : Nat → Prop) (st : JSt) (bs : List UInt8) (w : World) (h : RJx w F N J st) (hN : N ≤ 16) (hs : s < N) (hok : Part (st s)) (hr : RdB w w.heap.size A n bs) (hn : n ≤ cap) (hA : ∀ b o s, A = some ⟨b, o, s⟩ → ¬ F b) (hf : Form bs) :
    Calls Tryd.prog 31 #[.pointer (some ⟨J, 0, none⟩), .int .i64 s, .slice A n cap] w (TakesR w F N J st s bs) := by
  obtain ⟨i0, hi0, hz0, hz1, hz2⟩ := info_parts info_u8
  obtain ⟨j0, hj0, hy0, hy1, hy2⟩ := info_parts info_bs'
  have h0 := h
  obtain ⟨hF, vv, rows, cs, hj⟩ := h
  have hc0 : w.cell? ⟨J, 0, none⟩ = some (.int .i64 (N : Int)) := by rw [hj.blk.cell]; exact hj.num
  have hcs : w.cell? ⟨J, 1 + s, none⟩ = some (vv s) := by rw [hj.blk.cell]; exact hj.at_ s (by omega)
  have hl := hr.lenB
  have hfb : formB bs = true := by unfold formB; simpa using hf
  have HFB := Lib.hid hfb
  have h8 : 8 ≤ n := by have := hf.1; omega
  have h256 : n ≤ 256 := by have := hf.2.2.2.2; omega
  have HL := Lib.hid hl
  have HF := Lib.hid hf
  have hs1 : (s : Int) < (N : Int) := by omega
  have hs2 : ¬ (s : Int) < 0 := by omega
  have hrow := hj.row s (by omega)
  obtain ⟨As, caps, hvs, _, _⟩ := own_shape hrow
  rw [hvs] at hrow hcs
  have HVS := Lib.hid hvs
  have hnil : w.ownsRow w.heap.size 5 1 (.slice none 0 0) 0 [] := ⟨by simp, .inl ⟨rfl, rfl⟩⟩
  clear hfb hf hvs hl
  go_enter Tryd.func31, Tryd.ntmps31
  go_wp2_with fail
  refine (Form_any A n cap _ bs w hr (by omega)).mono ?_
  rintro _ _ ⟨he, rfl⟩
  rw [HFB.out] at he
  subst he
  go_wp2_with (first
    | (at_builtin
       refine wpList_append_any _ (by rfl) _ _ 22 (by rfl) w.heap.size 5 i0 _ 1 1 u_bytes hi0 hz0 hz1 hz2 rfl (by omega) _ 0 [] (by rfl)
         hnil w.heap.size A n cap (bvs bs) (by rfl) hr (bvs_one bs) (by simp only [maxLen]; omega) (by omega) (by simp) ?_
       intro v1 w1 hown1 hg1 hat1))
  have hb1 : Below w.heap.size w w1 := below_app hnil hg1 (Nat.le_refl _)
  rw [Nat.zero_add, List.nil_append] at hown1
  obtain ⟨Ao, capo, rfl, _, _⟩ := own_shape hown1
  have hr1 := hr.below hb1
  have hJ := hj.blk.lt
  have hc1 := (bcell hb1).1 J (1 + s) hJ |>.trans hcs
  clear hg1 hat1
  refine (value_size A n cap _ bs w1 hr1 h8 (by omega)).mono ?_
  rintro _ _ ⟨rfl, rfl⟩
  go_wp2_with fail
  have HAn := Lib.hid (fun b o s' (e : A = some ⟨b, o, s'⟩) (h : (vv s).ownBlock = some b) => hA b o s' e (hj.fr s (by omega) b h))
  have HAj := Lib.hid (fun b o s' (e : A = some ⟨b, o, s'⟩) (h : b = J) => hA b o s' e (by rw [h]; exact hj.fj))
  by_cases hz : cAt bs = 0
  · refine (value_at A n cap _ bs w1 hr1 h8 (by omega)).mono ?_
    rintro _ _ ⟨he, rfl⟩
    rw [hz] at he
    subst he
    have HFits := Lib.hid (show Fits (st s) bs from .inl hz)
    obtain ⟨l0, hl0⟩ : ∃ l0 : List (List UInt8), l0 = [] := ⟨_, rfl⟩
    obtain ⟨r0, hr0⟩ : ∃ r0 : List Value, r0 = [] := ⟨_, rfl⟩
    have HJN := Lib.hid (show joined (st s) bs = l0 ++ [bs] by rw [joined_zero hz, hl0]; rfl)
    have hll : l0.length = 0 := by rw [hl0]; rfl
    have hown0 : w1.ownsRow 0 22 1 (.slice none 0 0) 0 r0 := ⟨by rw [hr0]; rfl, .inl ⟨rfl, rfl⟩⟩
    have hLO0 : LO w1 0 r0 l0 := by rw [hl0, hr0]; exact ⟨rfl, fun i v c h => by simp at h⟩
    have H08 : Hid (∀ c ∈ l0, 8 ≤ c.length ∧ c.length ≤ 256) := by rw [hl0]; exact fun c hc => by simp at hc
    have H0own : Hid (∀ g, (Value.slice none 0 0).ownBlock = some g → (vv s).ownBlock = some g) := fun g hg => by simp [Value.ownBlock] at hg
    have H0row : Hid (∀ v ∈ r0, ∀ g, v.ownBlock = some g → F g) := by rw [hr0]; exact fun v hv => by simp at hv
    have hl17 : 0 ≤ 16 := by omega
    have HQ := Lib.hid hll
    clear hz hl0 hr0 hll
    --TAIL0
    have hP1 := hj.blk.below hb1 hj.blk.lt
    go_wp2_with (
       at_builtin
       refine app1h w1 (by rfl) _ _ 24 (by rfl) 0 22 j0 _ 24 Tryd.underlying24 hj0 hy0 hy1 hy2 rfl _ _ _ (by rfl) hown0 _ (by rfl) (by rfl) (by simp only [maxLen]; omega) (by omega) (by omega) ?_
       intro v2 w2 hown2 hg2 hat2)
    obtain ⟨A2, cap2, rfl, _, _⟩ := own_shape hown2
    have hc12 : Chg (fun k => some k = (Value.slice none 0 0).ownBlock) w1 w2 := Chg.of_grown hg2
    have hLO2 : LO w2 0 (r0 ++ [.slice Ao n capo]) (l0 ++ [bs]) := (hLO0.chg hc12 (fun g ht h => absurd (ht.eq_ (own_isT hown0 h.symm)) (by decide))).snoc (by
      rw [HL.out]
      exact own_base (own_chgT hown1 hc12 (fun g e _ => own_isT hown0 e.symm) (by decide)) (Nat.zero_le _))
    have hJ2 : Blk w2 J 64 cs := hP1.chg hc12 (fun e => absurd (hP1.isT.eq_ (own_isT hown0 e.symm)) (by decide))
    have HLO2 := Lib.hid hLO2
    have HAT := Lib.hid hat2
    clear hg2 hat2 hLO2
    refine (blob_any A2 (0 + 1) cap2 (r0 ++ [.slice Ao n capo]) (l0 ++ [bs]) w2 (Rd.of_own hown2) HLO2.out.ll (by
      intro c hc
      rcases List.mem_append.1 hc with hc | hc
      · exact H08.out c hc
      · obtain rfl : c = bs := by simpa using hc
        rw [HL.out]; exact ⟨h8, h256⟩) (by rw [List.length_append, HQ.out]; rfl) (by omega)).mono ?_
    rintro _ w3 ⟨u3, rfl, ho3, hb3⟩
    obtain ⟨A3, cap3, rfl, _, _⟩ := own_shape ho3
    have hJ3 := hJ2.over hb3
    have hcell3 : w3.cell? ⟨J, 1 + s, none⟩ = some (vv s) := by rw [hJ3.cell]; exact hj.at_ s (by omega)
    rw [HVS.out] at hcell3
    have hfz3 := hJ3.frozen (1 + s)
    have hsz2 := hc12.size
    have hsz1 := hb1.size
    have hsz3 := hb3.size
    have hC3 : Chg (fun k => some k = (vv s).ownBlock) w w3 := ((Chg.of_below hb1 _).thenS hc12 (fun k _ e => (H0own.out k e.symm).symm)).trans (Chg.of_below hb3 _)
    have hPut := hj.put hF (s := s) (by omega) hC3 (u := .slice A2 (0 + 1) cap2) (l := l0 ++ [bs]) (rs := r0 ++ [.slice Ao n capo]) (by
      rw [List.length_append, List.length_singleton, HQ.out]
      exact own_over hown2 hb3) (HLO2.out.over hb3) (fun g hg => by
        rcases HAT.out with e | e
        · rw [e] at hg; exact .inl (H0own.out g hg)
        · rw [e] at hg; injection hg with hg; exact .inr (by omega)) (fun v hv g hg => by
        rcases List.mem_append.1 hv with hv | hv
        · exact .inl (H0row.out v hv g hg)
        · obtain rfl : v = _ := List.mem_singleton.1 hv
          exact .inr (own_block_lt hown1 hg).2.1)
    have hPut0 := hj.put hF (s := s) (by omega) hC3 (u := .slice none 0 0) (l := []) (rs := []) ⟨by simp, .inl ⟨rfl, rfl⟩⟩ ⟨rfl, fun i v c h => by simp at h⟩ (fun g hg => by simp [Value.ownBlock] at hg) (fun v hv => by simp at hv)
    have HPut := Lib.hid hPut
    have HPut0 := Lib.hid hPut0
    have HT1 := Lib.hid (fun hl => takeS_hold (st := st) hs HF.out HFits.out hl)
    have HT2 := Lib.hid (fun hl hc => takeS_good (st := st) hs HF.out HFits.out hl hc)
    have HT3 := Lib.hid (fun hl hc => takeS_wrong (st := st) hs HF.out HFits.out hl hc)
    rw [HJN.out] at HT1 HT2 HT3
    have hr3 := (hr1.chgN hc12 (by omega) (by
      intro b o s' e h
      have h1 := H0own.out b h.symm
      exact absurd h1 (HAn.out b o s' e))).below (hb3.mono (by omega))
    have hcr := Crc.crc_lt (blobS (l0 ++ [bs]))
    have hcs4 := cSum_lt bs
    have hcz := cSize_lt bs
    have HRet := Lib.hid (fun (w' : World) (h : w'.ownsRow w2.heap.size 5 1 (.slice A3 (blobS (l0 ++ [bs])).length cap3) (blobS (l0 ++ [bs])).length (bvs (blobS (l0 ++ [bs])))) => RetB.of_own h)
    have hM1 : (blobS (l0 ++ [bs])).length ≤ 248 * 17 := by
      have := blobS_le (cs := l0 ++ [bs]) (k := (l0 ++ [bs]).length) (by
        intro c hc
        rcases List.mem_append.1 hc with hc | hc
        · exact H08.out c hc
        · obtain rfl : c = bs := by simpa using hc
          rw [HL.out]; exact ⟨h8, h256⟩)
      rw [List.take_length, List.length_append, List.length_singleton, HQ.out] at this
      omega
    clear hPut hPut0 hC3 hj
    by_cases hlt : (blobS (l0 ++ [bs])).length < cSize bs
    · have HTT := Lib.hid (HT1.out hlt)
      clear HT1 HT2 HT3
      have hltI : ((blobS (l0 ++ [bs])).length : Int) < (cSize bs : Int) := by omega
      go_wp2
      go_ret3
      exact ⟨_, _, _, _, _, _, HTT.out.symm, rfl, RetB.nil_ _, HPut.out.1, HPut.out.2⟩
    · have hltI : ¬ ((blobS (l0 ++ [bs])).length : Int) < (cSize bs : Int) := by omega
      have ho3' : (w3.setCell ⟨J, 1 + s, none⟩ (.slice none 0 0)).ownsRow w2.heap.size 5 1 (.slice A3 (blobS (l0 ++ [bs])).length cap3) (blobS (l0 ++ [bs])).length (bvs (blobS (l0 ++ [bs]))) :=
        own_chgT ho3 ((Chg.refl (fun k => k = J) w3).setCell (p := ⟨J, 1 + s, none⟩) (.inl rfl) _) (fun g e _ => by subst e; exact hJ3.isT) (by decide)
      have hr3' := hr3.chgN ((Chg.refl (fun k => k = J) w3).setCell (p := ⟨J, 1 + s, none⟩) (.inl rfl) (.slice none 0 0)) (by omega) (fun b o s' e h => HAj.out b o s' e h)
      go_wp2_with fail
      refine (RSum_any _ _ _ _ (blobS (l0 ++ [bs])) _ (Rd.of_own ho3') (by omega)).mono ?_
      rintro _ _ ⟨rfl, rfl⟩
      by_cases hcc : Crc.crc (blobS (l0 ++ [bs])) = cSum bs
      · have HTT := Lib.hid (HT2.out hlt hcc)
        clear HT1 HT2 HT3
        have HCC := Lib.hid hcc
        clear hcc
        go_wp2_with fail
        refine (value_sum A n cap _ bs _ hr3' h8 (by omega)).mono ?_
        rintro _ _ ⟨he, rfl⟩
        rw [← HCC.out] at he
        subst he
        have hne : ((Crc.crc (blobS (l0 ++ [bs])) : Int) != (Crc.crc (blobS (l0 ++ [bs])) : Int)) = false := by simp
        go_wp2
        go_ret3
        exact ⟨_, _, _, _, _, _, HTT.out.symm, rfl, HRet.out _ ho3', HPut0.out.1, HPut0.out.2⟩
      · have HTT := Lib.hid (HT3.out hlt hcc)
        clear HT1 HT2 HT3
        have hne : ((Crc.crc (blobS (l0 ++ [bs])) : Int) != (cSum bs : Int)) = true := by simpa using fun h => hcc (by omega)
        clear hcc
        go_wp2_with fail
        refine (value_sum A n cap _ bs _ hr3' h8 (by omega)).mono ?_
        rintro _ _ ⟨rfl, rfl⟩
        go_wp2
        go_ret3
        exact ⟨_, _, _, _, _, _, HTT.out.symm, rfl, RetB.nil_ _, HPut0.out.1, HPut0.out.2⟩
    --END0
  · have hz' : ((cAt bs : Int) == 0) = false := by simpa using hz
    have hown0 := own_chgT hrow (Chg.of_below hb1 (fun _ => False)) (t := 0) (fun _ h => h.elim) (by decide)
    have hLO0 : LO w1 0 (rows s) (st s) := (hj.lo s (by omega)).over hb1
    by_cases hne : st s = []
    · have HTT := Lib.hid (takeS_bad (st := st) hs HF.out (fun h => h.elim hz (fun h => h.1 hne)))
      have hl0 : (((st s).length : Int) == 0) = true := by rw [hne]; rfl
      clear hne
      refine (value_at A n cap _ bs w1 hr1 h8 (by omega)).mono ?_
      rintro _ _ ⟨rfl, rfl⟩
      go_wp2
      go_ret3
      exact ⟨_, _, _, _, _, _, HTT.out.symm, rfl, RetB.nil_ _, h0.below hb1, Moved.of_below _ hb1⟩
    · obtain ⟨c0, rest, hcr0⟩ : ∃ c0 rest, st s = c0 :: rest := by
        rcases hst : st s with _ | ⟨x, y⟩
        · exact absurd hst hne
        · exact ⟨x, y, rfl⟩
      have hhd : (st s).headD [] = c0 := by rw [hcr0]; rfl
      have hlen : 0 < (st s).length := by rw [hcr0]; simp
      have hl0 : (((st s).length : Int) == 0) = false := by simpa using (by omega : ¬ (st s).length = 0)
      have hl16 : (st s).length ≤ 16 := by have := hok.lt hne; have := hok.le hne; omega
      have H0e := Lib.hid hok.each
      obtain ⟨v0, hv0⟩ : ∃ v0, (rows s)[0]? = some v0 := ⟨_, List.getElem?_eq_getElem (by rw [hLO0.1]; exact hlen)⟩
      obtain ⟨A00, cap00, rfl, hq1, hq2, hr00⟩ := hLO0.ll.2 0 v0 c0 hv0 (by rw [hcr0]; rfl)
      obtain ⟨bl, ol, hbl, hbl2, hcl⟩ := (Rd.of_own hown0).at_ hlen
      subst hbl
      have hcl0 := hcl 0 _ hv0
      rw [Nat.add_zero] at hcl0
      obtain ⟨h80, h800⟩ := (H0e.out c0 (by rw [hcr0]; simp)).1
      have hltI : (0 : Int) < ((st s).length : Int) := by omega
      have hzs := cSize_lt c0
      have hzs2 := cSize_lt bs
      have hzm := cSum_lt c0
      have hzm2 := cSum_lt bs
      have hat := cAt_lt bs
      have HNE := Lib.hid hne
      have HHD := Lib.hid hhd
      clear hcl hv0 hcr0 hhd hne
      refine (value_at A n cap _ bs w1 hr1 h8 (by omega)).mono ?_
      rintro _ _ ⟨rfl, rfl⟩
      go_wp2_with fail
      refine (value_size A00 c0.length cap00 _ c0 w1 hr00 h80 (by omega)).mono ?_
      rintro _ _ ⟨rfl, rfl⟩
      by_cases e1 : cSize c0 = cSize bs
      · have d1 : ((cSize c0 : Int) != (cSize bs : Int)) = false := by simp; omega
        have E1 := Lib.hid e1
        clear e1
        go_wp2_with fail
        refine (value_sum A00 c0.length cap00 _ c0 w1 hr00 h80 (by omega)).mono ?_
        rintro _ _ ⟨rfl, rfl⟩
        go_wp2_with fail
        refine (value_sum A n cap _ bs w1 hr1 h8 (by omega)).mono ?_
        rintro _ _ ⟨rfl, rfl⟩
        by_cases e2 : cSum c0 = cSum bs
        · have d2 : ((cSum c0 : Int) != (cSum bs : Int)) = false := by simp; omega
          have E2 := Lib.hid e2
          clear e2
          by_cases e3 : (st s).length * 248 = cAt bs
          · have d3 : (((st s).length : Int) * 248 != (cAt bs : Int)) = false := by simp; omega
            have HFits := Lib.hid (show Fits (st s) bs from .inr ⟨HNE.out, by rw [HHD.out]; exact E1.out, by rw [HHD.out]; exact E2.out, e3⟩)
            obtain ⟨l0, hl0'⟩ : ∃ l0 : List (List UInt8), l0 = st s := ⟨_, rfl⟩
            obtain ⟨r0, hr0⟩ : ∃ r0 : List Value, r0 = rows s := ⟨_, rfl⟩
            have HJN := Lib.hid (show joined (st s) bs = l0 ++ [bs] by rw [hl0']; exact joined_more hz)
            have H08 : Hid (∀ c ∈ l0, 8 ≤ c.length ∧ c.length ≤ 256) := by rw [hl0']; exact fun c hc => (H0e.out c hc).1
            have H0own : Hid (∀ g, (Value.slice (some ⟨bl, ol, none⟩) (st s).length caps).ownBlock = some g → (vv s).ownBlock = some g) := fun g hg => by rw [HVS.out]; exact hg
            have H0row : Hid (∀ v ∈ r0, ∀ g, v.ownBlock = some g → F g) := by rw [hr0]; exact hj.fb s (by omega)
            have HQ := Lib.hid (show l0.length = (st s).length by rw [hl0'])
            rw [← hr0] at hown0
            rw [← hr0, ← hl0'] at hLO0
            clear hl0' hr0
            clear e3 hz
            --TAIL1
            have hP1 := hj.blk.below hb1 hj.blk.lt
            go_wp2_with (
               at_builtin
               refine app1h w1 (by rfl) _ _ 24 (by rfl) 0 22 j0 _ 24 Tryd.underlying24 hj0 hy0 hy1 hy2 rfl _ _ _ (by rfl) hown0 _ (by rfl) (by rfl) (by simp only [maxLen]; omega) (by omega) (by omega) ?_
               intro v2 w2 hown2 hg2 hat2)
            obtain ⟨A2, cap2, rfl, _, _⟩ := own_shape hown2
            have hc12 : Chg (fun k => some k = (Value.slice (some ⟨bl, ol, none⟩) (st s).length caps).ownBlock) w1 w2 := Chg.of_grown hg2
            have hLO2 : LO w2 0 (r0 ++ [.slice Ao n capo]) (l0 ++ [bs]) := (hLO0.chg hc12 (fun g ht h => absurd (ht.eq_ (own_isT hown0 h.symm)) (by decide))).snoc (by
              rw [HL.out]
              exact own_base (own_chgT hown1 hc12 (fun g e _ => own_isT hown0 e.symm) (by decide)) (Nat.zero_le _))
            have hJ2 : Blk w2 J 64 cs := hP1.chg hc12 (fun e => absurd (hP1.isT.eq_ (own_isT hown0 e.symm)) (by decide))
            have HLO2 := Lib.hid hLO2
            have HAT := Lib.hid hat2
            clear hg2 hat2 hLO2
            refine (blob_any A2 ((st s).length + 1) cap2 (r0 ++ [.slice Ao n capo]) (l0 ++ [bs]) w2 (Rd.of_own hown2) HLO2.out.ll (by
              intro c hc
              rcases List.mem_append.1 hc with hc | hc
              · exact H08.out c hc
              · obtain rfl : c = bs := by simpa using hc
                rw [HL.out]; exact ⟨h8, h256⟩) (by rw [List.length_append, HQ.out]; rfl) (by omega)).mono ?_
            rintro _ w3 ⟨u3, rfl, ho3, hb3⟩
            obtain ⟨A3, cap3, rfl, _, _⟩ := own_shape ho3
            have hJ3 := hJ2.over hb3
            have hcell3 : w3.cell? ⟨J, 1 + s, none⟩ = some (vv s) := by rw [hJ3.cell]; exact hj.at_ s (by omega)
            rw [HVS.out] at hcell3
            have hfz3 := hJ3.frozen (1 + s)
            have hsz2 := hc12.size
            have hsz1 := hb1.size
            have hsz3 := hb3.size
            have hC3 : Chg (fun k => some k = (vv s).ownBlock) w w3 := ((Chg.of_below hb1 _).thenS hc12 (fun k _ e => (H0own.out k e.symm).symm)).trans (Chg.of_below hb3 _)
            have hPut := hj.put hF (s := s) (by omega) hC3 (u := .slice A2 ((st s).length + 1) cap2) (l := l0 ++ [bs]) (rs := r0 ++ [.slice Ao n capo]) (by
              rw [List.length_append, List.length_singleton, HQ.out]
              exact own_over hown2 hb3) (HLO2.out.over hb3) (fun g hg => by
                rcases HAT.out with e | e
                · rw [e] at hg; exact .inl (H0own.out g hg)
                · rw [e] at hg; injection hg with hg; exact .inr (by omega)) (fun v hv g hg => by
                rcases List.mem_append.1 hv with hv | hv
                · exact .inl (H0row.out v hv g hg)
                · obtain rfl : v = _ := List.mem_singleton.1 hv
                  exact .inr (own_block_lt hown1 hg).2.1)
            have hPut0 := hj.put hF (s := s) (by omega) hC3 (u := .slice none 0 0) (l := []) (rs := []) ⟨by simp, .inl ⟨rfl, rfl⟩⟩ ⟨rfl, fun i v c h => by simp at h⟩ (fun g hg => by simp [Value.ownBlock] at hg) (fun v hv => by simp at hv)
            have HPut := Lib.hid hPut
            have HPut0 := Lib.hid hPut0
            have HT1 := Lib.hid (fun hl => takeS_hold (st := st) hs HF.out HFits.out hl)
            have HT2 := Lib.hid (fun hl hc => takeS_good (st := st) hs HF.out HFits.out hl hc)
            have HT3 := Lib.hid (fun hl hc => takeS_wrong (st := st) hs HF.out HFits.out hl hc)
            rw [HJN.out] at HT1 HT2 HT3
            have hr3 := (hr1.chgN hc12 (by omega) (by
              intro b o s' e h
              have h1 := H0own.out b h.symm
              exact absurd h1 (HAn.out b o s' e))).below (hb3.mono (by omega))
            have hcr := Crc.crc_lt (blobS (l0 ++ [bs]))
            have hcs4 := cSum_lt bs
            have hcz := cSize_lt bs
            have HRet := Lib.hid (fun (w' : World) (h : w'.ownsRow w2.heap.size 5 1 (.slice A3 (blobS (l0 ++ [bs])).length cap3) (blobS (l0 ++ [bs])).length (bvs (blobS (l0 ++ [bs])))) => RetB.of_own h)
            have hM1 : (blobS (l0 ++ [bs])).length ≤ 248 * 17 := by
              have := blobS_le (cs := l0 ++ [bs]) (k := (l0 ++ [bs]).length) (by
                intro c hc
                rcases List.mem_append.1 hc with hc | hc
                · exact H08.out c hc
                · obtain rfl : c = bs := by simpa using hc
                  rw [HL.out]; exact ⟨h8, h256⟩)
              rw [List.take_length, List.length_append, List.length_singleton, HQ.out] at this
              omega
            clear hPut hPut0 hC3 hj
            by_cases hlt : (blobS (l0 ++ [bs])).length < cSize bs
            · have HTT := Lib.hid (HT1.out hlt)
              clear HT1 HT2 HT3
              have hltI : ((blobS (l0 ++ [bs])).length : Int) < (cSize bs : Int) := by omega
              go_wp2
              go_ret3
              exact ⟨_, _, _, _, _, _, HTT.out.symm, rfl, RetB.nil_ _, HPut.out.1, HPut.out.2⟩
            · have hltI : ¬ ((blobS (l0 ++ [bs])).length : Int) < (cSize bs : Int) := by omega
              have ho3' : (w3.setCell ⟨J, 1 + s, none⟩ (.slice none 0 0)).ownsRow w2.heap.size 5 1 (.slice A3 (blobS (l0 ++ [bs])).length cap3) (blobS (l0 ++ [bs])).length (bvs (blobS (l0 ++ [bs]))) :=
                own_chgT ho3 ((Chg.refl (fun k => k = J) w3).setCell (p := ⟨J, 1 + s, none⟩) (.inl rfl) _) (fun g e _ => by subst e; exact hJ3.isT) (by decide)
              have hr3' := hr3.chgN ((Chg.refl (fun k => k = J) w3).setCell (p := ⟨J, 1 + s, none⟩) (.inl rfl) (.slice none 0 0)) (by omega) (fun b o s' e h => HAj.out b o s' e h)
              go_wp2_with fail
              refine (RSum_any _ _ _ _ (blobS (l0 ++ [bs])) _ (Rd.of_own ho3') (by omega)).mono ?_
              rintro _ _ ⟨rfl, rfl⟩
              by_cases hcc : Crc.crc (blobS (l0 ++ [bs])) = cSum bs
              · have HTT := Lib.hid (HT2.out hlt hcc)
                clear HT1 HT2 HT3
                have HCC := Lib.hid hcc
                clear hcc
                go_wp2_with fail
                refine (value_sum A n cap _ bs _ hr3' h8 (by omega)).mono ?_
                rintro _ _ ⟨he, rfl⟩
                rw [← HCC.out] at he
                subst he
                have hne : ((Crc.crc (blobS (l0 ++ [bs])) : Int) != (Crc.crc (blobS (l0 ++ [bs])) : Int)) = false := by simp
                go_wp2
                go_ret3
                exact ⟨_, _, _, _, _, _, HTT.out.symm, rfl, HRet.out _ ho3', HPut0.out.1, HPut0.out.2⟩
              · have HTT := Lib.hid (HT3.out hlt hcc)
                clear HT1 HT2 HT3
                have hne : ((Crc.crc (blobS (l0 ++ [bs])) : Int) != (cSum bs : Int)) = true := by simpa using fun h => hcc (by omega)
                clear hcc
                go_wp2_with fail
                refine (value_sum A n cap _ bs _ hr3' h8 (by omega)).mono ?_
                rintro _ _ ⟨rfl, rfl⟩
                go_wp2
                go_ret3
                exact ⟨_, _, _, _, _, _, HTT.out.symm, rfl, RetB.nil_ _, HPut0.out.1, HPut0.out.2⟩
            --END1
          · have d3 : (((st s).length : Int) * 248 != (cAt bs : Int)) = true := by simp; omega
            have HTT := Lib.hid (takeS_bad (st := st) hs HF.out (fun h => h.elim hz (fun h => e3 h.2.2.2)))
            clear e3
            go_wp2
            go_ret3
            exact ⟨_, _, _, _, _, _, HTT.out.symm, rfl, RetB.nil_ _, h0.below hb1, Moved.of_below _ hb1⟩
        · have d2 : ((cSum c0 : Int) != (cSum bs : Int)) = true := by simpa using (by omega : ¬ (cSum c0 : Int) = (cSum bs : Int))
          have HTT := Lib.hid (takeS_bad (st := st) hs HF.out (fun h => h.elim hz (fun h => e2 (by rw [← HHD.out]; exact h.2.2.1))))
          clear e2
          go_wp2
          go_ret3
          exact ⟨_, _, _, _, _, _, HTT.out.symm, rfl, RetB.nil_ _, h0.below hb1, Moved.of_below _ hb1⟩
      · have d1 : ((cSize c0 : Int) != (cSize bs : Int)) = true := by simpa using (by omega : ¬ (cSize c0 : Int) = (cSize bs : Int))
        have HTT := Lib.hid (takeS_bad (st := st) hs HF.out (fun h => h.elim hz (fun h => e1 (by rw [← HHD.out]; exact h.2.1))))
        clear e1
        go_wp2
        go_ret3
        exact ⟨_, _, _, _, _, _, HTT.out.symm, rfl, RetB.nil_ _, h0.below hb1, Moved.of_below _ hb1⟩
end Go.Proofs.YtgapkphkcncgeaaDoor
