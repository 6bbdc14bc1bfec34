/-
  FragSplits, walked.
-/
import Derived.Test.YtgapkphkcncgeaaDoorRSplit
namespace Go.Proofs.YtgapkphkcncgeaaDoor
open Go.RowKit

set_option maxRecDepth 100000 in
set_option maxHeartbeats 3200000 in
theorem FragSplits_walk (A : Option Addr) (n cap : Nat) (bs : List UInt8) (w : World) (hcap : n ≤ cap) (hn0 : cap ≤ 140737488351232) (hr : RdB w w.heap.size A n bs) (ht : Nibs w) :
    Calls Tryd.prog 3 #[.slice A n cap] w fun e w' => e = .returned (.bool true) ∧ Below w.heap.size w w' := by
  have hn : n ≤ 140737488351232 := by omega
  have hl := hr.lenB
  have HL := Lib.hid hl
  have HT := Lib.hid ht
  clear hl ht
  go_enter Tryd.func3, Tryd.ntmps3
  go_wp2_with fail
  refine (spare_any _ _ _ _ _ hr hn).mono ?_
  rintro _ w1 ⟨g, cap1, cur, rest, rfl, hg, h1, h2, hB, hc, hb1⟩
  have HC := Lib.hid hc
  clear hc
  have hm : cap1 ≤ 9223372036854775807 := by simp only [maxLen] at h2; omega
  have hs1 := hb1.size
  have hcs : n ≤ cur.size := by
    have := congrArg List.length HC.out
    rw [List.length_append, bvs_length, List.length_append, HL.out, Array.length_toList] at this
    omega
  have hrg : RdB w1 w1.heap.size (some ⟨g, 0, none⟩) n bs := by
    refine ⟨by rw [bvs_length, HL.out]; omega, fun _ => ⟨g, 0, rfl, hB.lt, fun j u hu => ?_⟩⟩
    rw [Nat.zero_add, hB.cell, ← Array.getElem?_toList, HC.out, bvs_append, List.append_assoc, List.getElem?_append_left (List.getElem?_eq_some_iff.1 hu).1]
    exact hu
  have hg1 := hB.lt
  have hr1 := hr.below hb1
  go_wp2_with fail
  by_cases hbig : 4000 < n
  · refine (Split_no _ n cap1 w1 hbig (by omega)).mono ?_
    rintro _ _ ⟨rfl, rfl⟩
    go_wp2_with fail
    refine (intact_yes g n cap1 A cap w.heap.size bs cur rest w1 hB HC.out h1 h2 hr1).mono ?_
    rintro _ _ ⟨rfl, rfl⟩
    go_wp2_with fail
    refine (full_any g n cap1 238 cur w1 hB hcs (by omega)).mono ?_
    rintro _ w3 ⟨rfl, cur3, hB3, hc3, hch⟩
    have hb3 : Below w.heap.size w w3 := hb1.trans (hch.to_below hs1 (fun x hx => by omega))
    clear hc3
    go_wp2_with fail
    refine (RSplit_no A n cap w3 hbig).mono ?_
    rintro _ _ ⟨rfl, rfl⟩
    go_wp2_with (go_at_call 15; refine (num_any _ _ (by omega) (by omega)).mono ?_; rintro _ _ ⟨rfl, rfl⟩)
    go_loop [9] (fun i => i = .int .i64 0) (fun _ => 0)
    case atStart => rfl
    case round =>
      obtain rfl := hrel
      go_wp2
      go_ret
      exact ⟨rfl, hb3⟩
  · have hn4 : n ≤ 4000 := by omega
    obtain ⟨C, hC, c1, c2, c3, c4, c5⟩ := cnt_nat n hn4
    have HCC := Lib.hid hC
    clear hC
    refine (Split_yes _ n cap1 bs w1 hrg (by omega) hm hn4 (HT.out.below hb1) C HCC.out).mono ?_
    rintro _ w2 ⟨v, T, curT, rfl, hol, hT, hcT, hgT, hb2⟩
    obtain ⟨Al, capl, rfl, hcl, hcl2⟩ := own_shape hol
    have HCT := Lib.hid hcT
    clear hcT
    have hs2 := hb2.size
    go_wp2_with fail
    refine (intact_yes g n cap1 A cap w.heap.size bs cur rest w2 (hB.over hb2) HC.out h1 h2 (hr1.below (hb2.mono hs1))).mono ?_
    rintro _ _ ⟨rfl, rfl⟩
    go_wp2_with fail
    refine (full_any g n cap1 238 cur w2 (hB.over hb2) hcs (by omega)).mono ?_
    rintro _ w3 ⟨rfl, cur3, hB3, hc3, hch⟩
    clear hc3
    have hb3 : Below w.heap.size w w3 := (hb1.trans (hb2.mono hs1)).trans (hch.to_below (by omega) (fun x hx => by omega))
    have hol3 := own_chg hol hch (fun x hx h => by have := (own_block_lt hol hx).2.1; omega)
    have hT3 := hT.chg hch (by omega)
    have hs3 := hb3.size
    go_wp2_with fail
    refine (RSplit_yes A n cap bs w3 ((hr.below hb3).more hs3) hn4 C HCC.out).mono ?_
    rintro _ w4 ⟨m, vs, rfl, hom, hLO, hb4⟩
    obtain ⟨Am, capm, rfl, hcm, hcm2⟩ := own_shape hom
    have hol4 := own_over hol3 hb4
    have hT4 := hT3.over hb4
    have hb04 := hb3.trans (hb4.mono hs3)
    have hLL := hLO.ll
    have hLS := LL.split (C := C) hT4 HCT.out HL.out hn4 (by intro j hj; omega) (by intro j hj; omega)
    obtain ⟨b1, o1, rfl, hb1', hcell1⟩ := (Rd.of_own hol4).at_ (by omega)
    obtain ⟨b2, o2, rfl, hb2', hcell2⟩ := (Rd.of_own hom).at_ (by omega)
    have HLL := Lib.hid hLL
    have HLS := Lib.hid hLS
    have HC1 := Lib.hid hcell1
    have HC2 := Lib.hid hcell2
    have hlm : capm ≤ 9223372036854775807 := by simp only [maxLen] at hcm2; omega
    have hll : capl ≤ 9223372036854775807 := by simp only [maxLen] at hcl2; omega
    have HVL : Hid (vs.length = C) := by have := hom.1; show _ = _; omega
    clear hLL hLS hcell1 hcell2 hLO hch hol hol3 hT hT3 hB3
    go_wp2_with (go_at_call 15; refine (num_any _ _ (by omega) (by omega)).mono ?_; rintro _ _ ⟨rfl, rfl⟩)
    go_loopw [9] (fun i wr => ∃ k : Nat, k ≤ C ∧ i = .int .i64 (k : Int) ∧ ∃ d, wr = w4.drewN d) (fun i _ => C - (intOf i).toNat)
    case atStart => exact ⟨0, by omega, rfl, 0, rfl⟩
    case round =>
      obtain ⟨k, hk, rfl, d, hd⟩ := hrel
      by_cases hlt : k < C
      · have hk1 : ((List.range C).map (chunkV T n))[k]? = some (chunkV T n k) := by simp [hlt]
        have hv1 : wr.cell? ⟨b1, o1 + k, none⟩ = some (chunkV T n k) := by rw [hd]; exact HC1.out k _ hk1
        obtain ⟨x2, hk2⟩ : ∃ x2, vs[k]? = some x2 := ⟨_, List.getElem?_eq_getElem (by rw [HVL.out]; exact hlt)⟩
        have hv2 : wr.cell? ⟨b2, o2 + k, none⟩ = some x2 := by rw [hd]; exact HC2.out k _ hk2
        have hks : (splitS bs C)[k]? = some (chunkS bs k) := by simp [splitS, hlt]
        obtain ⟨Ax, capx, hx, _, _, hrx⟩ := HLS.out.2 k _ _ hk1 hks
        obtain ⟨Ay, capy, rfl, _, _, hry⟩ := HLL.out.2 k _ _ hk2 hks
        rw [hx] at hv1
        have hrx' := hrx.eqd hd
        have hry' := hry.eqd hd
        have hltI : (k : Int) < (C : Int) := by omega
        have HD := Lib.hid hd
        clear hk1 hk2 hks hx hd
        go_wp2_with fail
        go_quiet ((go_at_call 16; exact Calls.quiet_of_same (same_c _ _ _ _ _ _ _ _ _ _ (hrx'.dn _) (hry'.dn _))))
        go_wp2
        go_roundw
        case rel => exact ⟨k + 1, by omega, by go_num, _, by rw [HD.out, World.drewN_drewN]⟩
        case measure => simp [intOf] <;> omega
      · have HD := Lib.hid hd
        clear hd
        go_wp2
        go_ret
        exact ⟨rfl, by rw [HD.out]; exact below_drewN hb04 d⟩
end Go.Proofs.YtgapkphkcncgeaaDoor
