/-
  WirePuts, walked.
-/
import Derived.Test.YtjafmcahlmopiaaSettle
import Derived.Test.YtjafmcahlmopiaaKeepB
import Derived.Test.YtjafmcahlmopiaaWriteB
import Derived.Test.YtjafmcahlmopiaaPutInt
import Derived.Test.YtjafmcahlmopiaaSame
namespace Go.Proofs.Ytjafmcahlmopiaa
open Go.RowKit

def putI (bs : List UInt8) (x : Int) : List UInt8 × Int := if 0 ≤ x ∧ x ≤ 4611686018427387904 then (bs ++ putB x.toNat, 0) else ([], 1)

theorem PutInt_any (A : Option Addr) (n cap : Nat) (bs : List UInt8) (x : Int) (w : World) (hr : RdB w w.heap.size A n bs) (hn : n + 9 ≤ 140737488355328) :
    Calls Try.prog 13 #[.slice A n cap, .int .i64 x] w fun e w' => (∃ v m er ps, (ps, er) = putI bs x ∧ (0 ≤ er ∧ er ≤ 1) ∧ m ≤ n + 9 ∧ e = .returned (.tuple #[v, .int .i64 er]) ∧ w'.ownsRow w.heap.size 5 1 v m (bvs ps)) ∧ Below w.heap.size w w' := by
  by_cases h : 0 ≤ x ∧ x ≤ 4611686018427387904
  · obtain ⟨y, rfl⟩ := Int.eq_ofNat_of_zero_le h.1
    refine (PutInt_yes A n cap bs y w hr hn (by omega)).mono ?_
    rintro _ w1 ⟨v, rfl, ho, hb⟩
    exact ⟨⟨v, _, 0, _, by rw [putI, if_pos h]; rfl, by omega, by have := putB_length y; omega, rfl, ho⟩, hb⟩
  · refine (PutInt_no A n cap x w (by omega)).mono ?_
    rintro _ _ ⟨rfl, rfl⟩
    exact ⟨⟨_, 0, 1, [], by rw [putI, if_neg h], by omega, by omega, rfl, ⟨by simp [bvs], .inl ⟨rfl, rfl⟩⟩⟩, Below.refl _ _⟩
theorem RPutInt_any (A : Option Addr) (n cap : Nat) (bs : List UInt8) (x : Int) (w : World) (hr : RdB w w.heap.size A n bs) (hn : n + 9 ≤ 140737488355328) :
    Calls Try.prog 14 #[.slice A n cap, .int .i64 x] w fun e w' => (∃ v m er ps, (ps, er) = putI bs x ∧ (0 ≤ er ∧ er ≤ 1) ∧ m ≤ n + 9 ∧ e = .returned (.tuple #[v, .int .i64 er]) ∧ w'.ownsRow w.heap.size 5 1 v m (bvs ps)) ∧ Below w.heap.size w w' := by
  by_cases h : 0 ≤ x ∧ x ≤ 4611686018427387904
  · obtain ⟨y, rfl⟩ := Int.eq_ofNat_of_zero_le h.1
    refine (RPutInt_yes A n cap bs y w hr hn (by omega)).mono ?_
    rintro _ w1 ⟨v, rfl, ho, hb⟩
    exact ⟨⟨v, _, 0, _, by rw [putI, if_pos h]; rfl, by omega, by have := putB_length y; omega, rfl, ho⟩, hb⟩
  · refine (RPutInt_no A n cap x w (by omega)).mono ?_
    rintro _ _ ⟨rfl, rfl⟩
    exact ⟨⟨_, 0, 1, [], by rw [putI, if_neg h], by omega, by omega, rfl, ⟨by simp [bvs], .inl ⟨rfl, rfl⟩⟩⟩, Below.refl _ _⟩

set_option maxRecDepth 100000 in
set_option maxHeartbeats 3200000 in
theorem WirePuts_walk (A : Option Addr) (n cap : Nat) (bs : List UInt8) (x y : Int) (w : World) (hcap : n ≤ cap) (hn0 : cap ≤ 140737488351232) (hr : RdB w w.heap.size A n bs) (hx0 : -9223372036854775808 ≤ x) (hx1 : x ≤ 9223372036854775807) (hy0 : -9223372036854775808 ≤ y) (hy1 : y ≤ 9223372036854775807) :
    Calls Try.prog 4 #[.slice A n cap, .int .i64 x, .int .i64 y] w fun e w' => e = .returned (.bool true) ∧ Below w.heap.size w w' := by
  have hn : n ≤ 140737488351232 := by omega
  have hl := hr.lenB
  have HL := Lib.hid hl
  clear hl
  go_enter Try.func4, Try.ntmps4
  go_wp2_with fail
  refine (L_any _ _ _ _ _ hr hn).mono ?_
  rintro e w1 ⟨g, cap1, cur, rest, rfl, hg, h1, h2, hB, hc, hb⟩
  have HC := Lib.hid hc
  clear hc
  have hlm : (bs ++ marks).length = n + 64 := by rw [List.length_append, HL.out, show marks.length = 64 from pats_length _ _]
  have hrd := rd_blk hB HC.out hlm
  have hrg := rd_blk (bs := bs) (rest := bvs marks ++ rest) hB (by rw [HC.out, bvs_append, List.append_assoc]) HL.out
  clear hlm
  have hm : cap1 ≤ 9223372036854775807 := by simp only [maxLen] at h2; omega
  have hb1 := hb
  have hr0 := hr
  have hs1 := hb.size
  -- c
  go_wp2_with fail
  refine (PutInt_any _ _ _ _ x _ hrg (by omega)).mono ?_
  rintro _ w2 ⟨⟨c, nc, ec, cs, hcs, hec, hnc, rfl, hoc⟩, hb2⟩
  obtain ⟨Ac, capc, rfl, hcc, hcc'⟩ := own_shape hoc
  have HCS := Lib.hid hcs
  clear hcs
  have hs2 := hb2.size
  -- d
  go_wp2_with fail
  refine (PutInt_any _ _ _ _ y _ (hrg.over hb2) (by omega)).mono ?_
  rintro _ w3 ⟨⟨d, nd, ed, ds, hds, hed, hnd, rfl, hod⟩, hb3⟩
  obtain ⟨Ad, capd, rfl, hcd, hcd'⟩ := own_shape hod
  have HDS := Lib.hid hds
  clear hds
  have hs3 := hb3.size
  -- a
  go_wp2_with fail
  refine (PutInt_any _ _ _ _ x _ ((hrg.over hb2).over hb3) (by omega)).mono ?_
  rintro _ w4 ⟨⟨a, na, ea, az, has, hea, hna, rfl, hoa⟩, hb4⟩
  obtain ⟨Aa, capa, rfl, hca, hca'⟩ := own_shape hoa
  rw [← HCS.out, Prod.mk.injEq] at has
  obtain ⟨rfl, rfl⟩ := has
  have hs4 := hb4.size
  have hb14 : Below w1.heap.size w1 w4 := (hb2.trans (hb3.mono hs2)).trans (hb4.mono (by omega))
  -- want
  go_wp2_with fail
  refine (RPutInt_any _ _ _ _ x _ (((hr.below hb).more hs1).over hb14) (by omega)).mono ?_
  rintro _ w5 ⟨⟨want, nw, ew, ws, hws, hew, hnw, rfl, how⟩, hb5⟩
  obtain ⟨Aw, capw, rfl, hcw, hcw'⟩ := own_shape how
  rw [← HCS.out, Prod.mk.injEq] at hws
  obtain ⟨rfl, rfl⟩ := hws
  have hs5 := hb5.size
  -- other
  go_wp2_with fail
  refine (RPutInt_any _ _ _ _ y _ ((((hr.below hb).more hs1).over hb14).over hb5) (by omega)).mono ?_
  rintro _ w6 ⟨⟨other, no, eo, os, hos, heo, hno, rfl, hoo⟩, hb6⟩
  obtain ⟨Ao, capo, rfl, hco, hco'⟩ := own_shape hoo
  rw [← HDS.out, Prod.mk.injEq] at hos
  obtain ⟨rfl, rfl⟩ := hos
  have hs6 := hb6.size
  -- what stands in w6
  have hb46 : Below w4.heap.size w4 w6 := hb5.trans (hb6.mono hs5)
  have hb36 : Below w3.heap.size w3 w6 := hb4.trans (hb46.mono hs4)
  have hb26 : Below w2.heap.size w2 w6 := hb3.trans (hb36.mono hs3)
  have hb16 : Below w1.heap.size w1 w6 := hb2.trans (hb26.mono hs2)
  have oc := own_over hoc hb26
  have od := own_over hod hb36
  have oa := own_over hoa hb46
  have oo := hoo
  have ow := own_over how hb6
  have bc := fun g hg => (own_block_lt hoc (g := g) hg)
  have bd := fun g hg => (own_block_lt hod (g := g) hg)
  have ba := fun g hg => (own_block_lt hoa (g := g) hg)
  have HBC : Hid (∀ g, (Value.slice Ac nc capc).ownBlock = some g → w1.heap.size ≤ g ∧ g < w2.heap.size) := fun g hg => ⟨(bc g hg).2.1, (bc g hg).1⟩
  have HBD : Hid (∀ g, (Value.slice Ad nd capd).ownBlock = some g → w2.heap.size ≤ g ∧ g < w3.heap.size) := fun g hg => ⟨(bd g hg).2.1, (bd g hg).1⟩
  have HBA : Hid (∀ g, (Value.slice Aa na capa).ownBlock = some g → w3.heap.size ≤ g ∧ g < w4.heap.size) := fun g hg => ⟨(ba g hg).2.1, (ba g hg).1⟩
  have hgl := hB.lt
  have hB6 := hB.over hb16
  have hb06 : Below w.heap.size w w6 := hb.trans (hb16.mono hs1)
  have hrd6 := hrd.over hb16
  have hrg6 := hrg.over hb16
  have hr6 := (hr.below hb06).more (by omega : w.heap.size ≤ w6.heap.size)
  clear hrd hrg hr hb2 hb3 hb4 hb5 hb6
  clear hoc hod hoa how hoo bc bd ba hB hb16 hb26 hb36 hb46 hb14
  -- the comparisons
  go_wp2_with fail
  refine (num_any _ _ (by omega) (by omega)).mono ?_
  rintro _ _ ⟨rfl, rfl⟩
  go_wp2_with fail
  refine (num_any _ _ (by omega) (by omega)).mono ?_
  rintro _ _ ⟨rfl, rfl⟩
  go_wp2_with fail
  refine (num_any _ _ (by omega) (by omega)).mono ?_
  rintro _ _ ⟨rfl, rfl⟩
  go_wp2_with fail
  refine (SameBytes_any _ _ _ _ _ _ _ _ _ _ _ (Rd.of_own oc) (Rd.of_own ow) rfl (by omega)).mono ?_
  rintro _ w7 ⟨rfl, d7, hd7⟩
  have hb7 : Below w6.heap.size w6 w7 := by rw [hd7]; exact below_drewN (Below.refl _ _) d7
  clear hd7
  go_wp2_with fail
  refine (SameBytes_any _ _ _ _ _ _ _ _ _ _ _ ((Rd.of_own oa).below hb7) ((Rd.of_own ow).below hb7) rfl (by omega)).mono ?_
  rintro _ w8 ⟨rfl, d8, hd8⟩
  have hb8 : Below w6.heap.size w6 w8 := by rw [hd8]; exact below_drewN hb7 d8
  clear hd8
  go_wp2_with fail
  refine (SameBytes_any _ _ _ _ _ _ _ _ _ _ _ ((Rd.of_own od).below hb8) ((Rd.of_own oo).below hb8) rfl (by omega)).mono ?_
  rintro _ w9 ⟨rfl, d9, hd9⟩
  have hb9 : Below w6.heap.size w6 w9 := by rw [hd9]; exact below_drewN hb8 d9
  clear hd9
  go_wp2_with fail
  refine (Unspoilt_any _ _ _ _ _ _ _ _ _ _ _ (hrd6.below hb9) (hr6.below hb9) rfl (by omega)).mono ?_
  rintro _ wA ⟨rfl, dA, hdA⟩
  have hbA : Below w6.heap.size w6 wA := by rw [hdA]; exact below_drewN hb9 dA
  clear hdA hb7 hb8 hb9
  -- the book
  have hsA := hbA.size
  obtain ⟨FP, hFP⟩ : ∃ FP : Nat → Prop, FP = fun k => wA.heap.size ≤ k ∨ (Value.slice Ac nc capc).ownBlock = some k ∨ (Value.slice Aa na capa).ownBlock = some k ∨ (Value.slice Ad nd capd).ownBlock = some k := ⟨_, rfl⟩
  have hF1 : ∀ k, FP k → w1.heap.size ≤ k := by
    rw [hFP]
    rintro k (h | h | h | h)
    · omega
    · exact (HBC.out k h).1
    · have := (HBA.out k h).1; omega
    · have := (HBD.out k h).1; omega
  have hFc : ∀ k, (Value.slice Ac nc capc).ownBlock = some k → FP k := by rw [hFP]; exact fun k h => .inr (.inl h)
  have hFa : ∀ k, (Value.slice Aa na capa).ownBlock = some k → FP k := by rw [hFP]; exact fun k h => .inr (.inr (.inl h))
  have hFd : ∀ k, (Value.slice Ad nd capd).ownBlock = some k → FP k := by rw [hFP]; exact fun k h => .inr (.inr (.inr h))
  have bw := fun g hg => (own_block_lt ow (g := g) hg)
  have hFw : ∀ k, (Value.slice Aw nw capw).ownBlock = some k → ¬ FP k := by
    rw [hFP]
    intro k hk
    have h1 := bw k hk
    rintro (h | h | h | h)
    · omega
    · have := (HBC.out k h).2; omega
    · have := (HBA.out k h).2; omega
    · have := (HBD.out k h).2; omega
  have hnew : ∀ k, wA.heap.size ≤ k → FP k := by rw [hFP]; exact fun k h => .inl h
  clear hFP bw
  obtain ⟨wB, hwB⟩ : ∃ wB, wB = wA.alloc (.cells #[.slice none 0 0, .slice none 0 0, .int .i64 0] 36) := ⟨_, rfl⟩
  have hk0 : BookIs wB FP wA.heap.size [] [] 0 (.slice none 0 0) (.slice none 0 0) := by rw [hwB]; exact BookIs.empty wA FP hnew
  have hbB : Below w6.heap.size w6 wB := by rw [hwB]; exact hbA.alloc hsA _
  have hsB : wA.heap.size < wB.heap.size := hk0.blk.lt
  have HWB := Lib.hid hwB
  clear hwB
  have oc := own_base (own_over oc hbB) (Nat.zero_le _)
  have od := own_base (own_over od hbB) (Nat.zero_le _)
  have oa := own_base (own_over oa hbB) (Nat.zero_le _)
  have ow := own_over ow hbB
  have hB6 := hB6.over hbB
  have hb06 := hb06.trans (hbB.mono (by omega))
  have hr0 := (hr0.below hb06)
  clear hbA hbB oo hrd6 hrg6 hr6
  go_wp2_with fail
  rw [← HWB.out]
  -- Keep(c)
  refine (Keep_any FP wA.heap.size [] [] 0 _ _ _ nc _ _ hk0 (by simp) oc hFc (by omega) (by omega) (by omega) (fun _ _ p hp => by simp at hp)).mono ?_
  rintro _ wC ⟨rfl, pv1, q1, hk1, hq1, hqb1, hc1⟩
  rw [List.nil_append] at hk1
  have oa := hk0.ownK hc1 oa
  have od := hk0.ownK hc1 od
  have hcF := hk0.toFP hc1
  have ow := own_chg ow hcF hFw
  have hsC := hc1.size
  clear hc1 hk0
  -- Write(a)
  go_wp2_with fail
  refine (Write_any FP wA.heap.size [q1] [] _ _ _ _ na _ _ hk1 (by simp) oa hFa (by omega) (by omega) (by omega) (fun g hg p hp hpg => ?_)).mono ?_
  · simp only [List.mem_singleton] at hp
    subst hp
    have h1 := HBA.out g hg
    rcases hqb1 g hpg with h | h
    · have := HBC.out g h; omega
    · omega
  rintro _ wD ⟨rfl, pv2, q2, hk2, hq2, hqb2, hc2⟩
  have od := hk1.ownW hc2 od (fun g hg h => by have h1 := HBD.out g hg; have h2 := HBA.out g h; omega)
  have hcF2 := hk1.toFPW hFa hc2
  have ow := own_chg ow hcF2 hFw
  have hcF := hcF.trans hcF2
  have hsD := hc2.size
  clear hc2 hk1 hcF2
  -- Keep(d)
  go_wp2_with fail
  refine (Keep_any FP wA.heap.size ([q1] ++ [q2]) [] _ _ _ _ nd _ _ hk2 (by simp) od hFd (by omega) (by omega) (by omega) (fun g hg p hp hpg => ?_)).mono ?_
  · have h1 := HBD.out g hg
    simp only [List.cons_append, List.nil_append, List.mem_cons, List.not_mem_nil, or_false] at hp
    rcases hp with rfl | rfl
    · rcases hqb1 g hpg with h | h
      · have := HBC.out g h; omega
      · omega
    · rcases hqb2 g hpg with h | h
      · have := HBA.out g h; omega
      · omega
  rintro _ wE ⟨rfl, pv3, q3, hk3, hq3, hqb3, hc3⟩
  have hcF3 := hk2.toFP hc3
  have ow := own_chg ow hcF3 hFw
  have hcF := hcF.trans hcF3
  clear hc3 hk2 hcF3
  -- Settle
  go_wp2_with fail
  refine (Settle_any FP wA.heap.size ([q1] ++ [q2] ++ [q3]) [] _ _ _ _ hk3 (fun p hp => ?_) (by simp) (by simp) (by simp)).mono ?_
  · simp only [List.cons_append, List.nil_append, List.mem_cons, List.not_mem_nil, or_false] at hp
    rcases hp with rfl | rfl | rfl <;> assumption
  rintro _ wF ⟨rfl, hcS, ps', qs', hl', hlq', hst', _, hkS⟩
  obtain rfl : qs' = [] := List.eq_nil_of_length_eq_zero (by simpa using hlq')
  have ow := own_chg ow hcS hFw
  have hcF := hcF.trans hcS
  have hbF : Below w1.heap.size wB wF := hcF.belowF hF1 (by omega)
  have hBF := hB6.below hbF hgl
  have hr0 := hr0.below (hbF.mono hs1)
  have hb0F := hb06.trans (hbF.mono hs1)
  have hsF := hcF.size
  have HL' : Hid (ps'.length = 3) := by simpa [Hid] using hl'
  clear hcS hcF hk3 hl' hlq'
  have hlm : (bs ++ marks).length = n + 64 := by rw [List.length_append, HL.out, show marks.length = 64 from pats_length _ _]
  have hrd := rd_blk hBF HC.out hlm
  have hrg := rd_blk (bs := bs) (rest := bvs marks ++ rest) hBF (by rw [HC.out, bvs_append, List.append_assoc]) HL.out
  clear hlm
  go_wp2_with fail
  refine (Unspoilt_any _ _ _ _ _ _ _ _ _ _ _ hrd hr0 rfl (by omega)).mono ?_
  rintro _ wG ⟨rfl, dG, hdG⟩
  have hbG : Below wF.heap.size wF wG := by rw [hdG]; exact below_drewN (Below.refl _ _) dG
  clear hdG
  have hkG := hkS.below hbG
  have ow := own_over ow hbG
  have hsG := hbG.size
  -- again
  go_wp2_with fail
  refine (PutInt_any _ _ _ _ x _ (hrg.over hbG) (by omega)).mono ?_
  rintro _ wH ⟨⟨ag, ng, eg, gs, hgs, heg, hng, rfl, hog⟩, hbH⟩
  obtain ⟨Ag, capg, rfl, hcg, hcg'⟩ := own_shape hog
  rw [← HCS.out, Prod.mk.injEq] at hgs
  obtain ⟨rfl, rfl⟩ := hgs
  have hsH := hbH.size
  have hkH := hkG.below hbH
  have ow := own_over ow hbH
  have hbFH : Below wF.heap.size wF wH := Below.then hbG hbH
  have hBg := fun g hg => (own_block_lt hog (g := g) hg).2.1
  have hpl : ∀ p ∈ ps', ∀ g, p.blks g → g < wG.heap.size := fun p hp g hg => ((hkG.B.pages p hp).blk_lt hg).1
  have hog := own_base hog (Nat.zero_le _)
  go_wp2_with fail
  refine (Keep_any FP wA.heap.size ps' [] _ _ _ _ ng _ _ hkH (by rw [HL'.out]; omega) hog (fun g hg => hkG.new g (hBg g hg)) (by omega) (by omega) (by omega) (fun g hg p hp hpg => ?_)).mono ?_
  · have := hBg g hg
    have := hpl p hp g hpg
    omega
  rintro _ wI ⟨rfl, pv4, q4, hk4, hq4, hqb4, hc4⟩
  have og := hkH.ownK hc4 hog
  have hcF4 := hkH.toFP hc4
  have ow := own_chg ow hcF4 hFw
  have hbI : Below w1.heap.size wH wI := hcF4.belowF hF1 (by omega)
  have hsI := hbI.size
  have hbFI : Below w1.heap.size wF wI := (hbFH.mono (by omega)).trans hbI
  have hBI := hBF.below hbFI hgl
  have hb0I := hb0F.trans (hbFI.mono hs1)
  have HQ4 : Hid (∀ p ∈ ps' ++ [q4], p.st ≠ 1) := fun p hp => by
    rcases List.mem_append.1 hp with hp | hp
    · rw [hst' p hp]; omega
    · simp only [List.mem_singleton] at hp
      subst hp; exact hq4
  have HL4 : Hid ((ps' ++ [q4]).length ≤ 96) := by show _ ≤ _; rw [List.length_append, HL'.out]; simp
  clear hc4 hcF4 hkH hkG hkS hpl hBg hog hrd hrg hr0 hbG hbH hbFH hb0F hB6 hBF hst' hq4
  go_wp2_with fail
  refine (num_any _ _ (by omega) (by omega)).mono ?_
  rintro _ _ ⟨rfl, rfl⟩
  go_wp2_with fail
  refine (SameBytes_any _ _ _ _ _ _ _ _ _ _ _ (Rd.of_own og) (Rd.of_own ow) rfl (by omega)).mono ?_
  rintro _ wJ ⟨rfl, dJ, hdJ⟩
  have hbJ : Below wI.heap.size wI wJ := by rw [hdJ]; exact below_drewN (Below.refl _ _) dJ
  clear hdJ
  have hkJ := hk4.below hbJ
  have hBJ := hBI.over hbJ
  have hsJ := hbJ.size
  have hb0J := hb0I.trans (hbJ.mono (by omega))
  clear hk4 hBI hb0I og ow
  -- turn
  go_wp2_with fail
  rw [← HL.out]
  refine (turn_any g cap1 cur bs (bvs marks ++ rest) _ hBJ (by rw [HC.out, bvs_append, List.append_assoc]) (by rw [HL.out]; omega)).mono ?_
  rintro _ wK ⟨vt, rfl, hot, hgr, cur', hBK, hcK⟩
  rw [HL.out] at hot ⊢
  obtain ⟨At, capt, rfl, hct, hct'⟩ := own_shape hot
  have HCK := Lib.hid hcK
  clear hcK
  have hsK := hgr.size
  have hbK : Below w.heap.size w wK := hb0J.grown hgr (by omega) (fun k hk => by simp only [Option.some.injEq] at hk; omega)
  have hkK := hkJ.chg (Chg.of_grown hgr) (fun k hk _ _ h => by simp only [Option.some.injEq] at h; have := hF1 k hk; omega)
  have hLt : (turned bs).length = n := by rw [turned_length, HL.out]
  have hrd := rd_blk (bs := turned bs ++ marks) (n := n + 64) hBK (by rw [HCK.out, bvs_append, List.append_assoc]) (by rw [List.length_append, hLt, show marks.length = 64 from pats_length _ _])
  have hrg := rd_blk hBK HCK.out hLt
  have hvt := Rd.of_own hot
  clear hLt
  go_wp2_with fail
  refine (PutInt_any _ _ _ _ x _ hrg (by omega)).mono ?_
  rintro _ wL ⟨⟨la, nl, el, ls, hls, hel, hnl, rfl, hol⟩, hbL⟩
  obtain ⟨Al, capl, rfl, hcl, hcl'⟩ := own_shape hol
  have HLS := Lib.hid hls
  clear hls
  go_wp2_with fail
  refine (RPutInt_any _ _ _ _ x _ (hvt.over hbL) (by omega)).mono ?_
  rintro _ wM ⟨⟨now, nm, em, ms, hms, hem, hnm, rfl, hom⟩, hbM⟩
  obtain ⟨Am, capm, rfl, hcm, hcm'⟩ := own_shape hom
  rw [← HLS.out, Prod.mk.injEq] at hms
  obtain ⟨rfl, rfl⟩ := hms
  have hol := own_over hol hbM
  have hbKM : Below wK.heap.size wK wM := Below.then hbL hbM
  have hkM := hkK.below hbKM
  have hrd := hrd.over hbKM
  have hvt := hvt.over hbKM
  have hb0M := hbK.trans (hbKM.mono (by have := hbK.size; omega))
  clear hkK hrg hbL hbM hot hbK hkJ
  go_wp2_with fail
  refine (num_any _ _ (by omega) (by omega)).mono ?_
  rintro _ _ ⟨rfl, rfl⟩
  go_wp2_with fail
  refine (SameBytes_any _ _ _ _ _ _ _ _ _ _ _ (Rd.of_own hol) (Rd.of_own hom) rfl (by omega)).mono ?_
  rintro _ wN ⟨rfl, dN, hdN⟩
  have hbN : Below wM.heap.size wM wN := by rw [hdN]; exact below_drewN (Below.refl _ _) dN
  clear hdN
  go_wp2_with fail
  refine (Unspoilt_any _ _ _ _ _ _ _ _ _ _ _ (hrd.over hbN) (hvt.over hbN) rfl (by omega)).mono ?_
  rintro _ wO ⟨rfl, dO, hdO⟩
  have hbO : Below wM.heap.size wM wO := by rw [hdO]; exact below_drewN hbN dO
  clear hdO
  go_wp2_with fail
  refine (Intact_any FP wA.heap.size (ps' ++ [q4]) [] _ _ _ _ (hkM.below hbO) HQ4.out (by simp) HL4.out (by simp)).mono ?_
  rintro _ wP ⟨rfl, hbP⟩
  go_wp2
  go_ret
  exact ⟨rfl, hb0M.trans ((Below.then hbO hbP).mono hb0M.size)⟩
end Go.Proofs.Ytjafmcahlmopiaa
