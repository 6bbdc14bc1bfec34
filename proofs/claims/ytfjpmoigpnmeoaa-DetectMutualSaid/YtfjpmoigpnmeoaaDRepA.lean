/-
  All that a detector tells, in one list.
-/
import Derived.Test.YtfjpmoigpnmeoaaDOut3
namespace Go.Proofs.Ytfjpmoigpnmeoaa
open Go.RowKit
variable {w0 w : World} {F : Nat → Prop} {c : Cfg} {D : Nat} {d : DSt} {m : Nat}

theorem own_app1 {w : World} {b : Nat} {e : TypeId} {v : Value} {L : List Int} {x : Int} (h : w.ownsRow b e 1 v (L.length + 1) (ivs L ++ [.int .i64 x])) : w.ownsRow b e 1 v (L ++ [x]).length (ivs (L ++ [x])) := by rw [List.length_append, ivs_append]; exact h
theorem own_appL {w : World} {b : Nat} {e : TypeId} {v : Value} {L M : List Int} (h : w.ownsRow b e 1 v (L.length + M.length) (ivs L ++ ivs M)) : w.ownsRow b e 1 v (L ++ M).length (ivs (L ++ M)) := by rw [List.length_append, ivs_append]; exact h
theorem ivs_one' (L : List Int) : ∀ u ∈ ivs L, u.oneCell' = true := by
  intro u hu
  simp only [ivs, List.mem_map] at hu
  obtain ⟨x, _, rfl⟩ := hu
  rfl
def askP (c : Cfg) (d : DSt) (k : Nat) : List Int := ([] ++ [d.tick] ++ hearsL c d ++ hearsL c d ++ estL c d ++ [-1] ++ suspL c d c.n ++ [-1]) ++ (List.range k).flatMap fun (q : Nat) => [knownQ c d (q : Int), timeoutQ c d (q : Int), wrongQ c d (q : Int)]
theorem askP_zero (c : Cfg) (d : DSt) : askP c d 0 = [] ++ [d.tick] ++ hearsL c d ++ hearsL c d ++ estL c d ++ [-1] ++ suspL c d c.n ++ [-1] := by simp [askP]
theorem askP_succ (c : Cfg) (d : DSt) (k : Nat) : askP c d (k + 1) = askP c d k ++ [knownQ c d (k : Int), timeoutQ c d (k : Int), wrongQ c d (k : Int)] := by
  unfold askP
  rw [List.range_succ, List.flatMap_append]
  simp
theorem askP_len (c : Cfg) (d : DSt) (k : Nat) : (askP c d k).length ≤ 3 + 4 * c.n + 3 * k := by
  induction k with
  | zero =>
    rw [askP_zero]
    have := suspL_len c d c.n
    simp only [List.length_append, hears_len, est_len, List.length_cons, List.length_nil]
    omega
  | succ k ih => rw [askP_succ, List.length_append]; simp only [List.length_cons, List.length_nil]; omega
set_option maxRecDepth 100000 in
set_option maxHeartbeats 6400000 in
theorem asked_any (hc : c.Ok) (h : Live w0 w F c D d m) :
    Calls Try.prog 30 #[.pointer (some ⟨D, 0, none⟩), .int .i64 (c.n : Int)] w (GivesL w (askP c d c.n)) := by
  obtain ⟨i0, hi0, hz0, hz1, hz2⟩ := info_parts info_int
  have hn16 : c.n ≤ 16 := hc.2.1
  have HC := Lib.hid hc
  have HV := Lib.hid h
  have HBt := Lib.hid (PBeat_x hc h)
  have HS0 := Lib.hid (suspL_len c d c.n)
  have HH0 := Lib.hid (hears_len c d)
  have HE0 := Lib.hid (est_len c d)
  have HAZ := Lib.hid (askP_zero c d)
  have HAS := Lib.hid (askP_succ c d)
  have HAL := Lib.hid (askP_len c d)
  clear hc h
  go_enter Try.func30, Try.ntmps30
  go_wp2_with fail
  refine HBt.out.mono ?_
  rintro _ w1 ⟨A1, cap1, rfl, ho1, hb1⟩
  have hr1 : RdI w1 w1.heap.size A1 (hearsL c d).length (hearsL c d) := Rd.of_own ho1
  have hbx := one_box' w1 (.cells #[.int .i64 d.tick, .slice A1 (hearsL c d).length cap1] 37)
  have hB := Blk.new w1 37 #[.int .i64 d.tick, .slice A1 (hearsL c d).length cap1]
  obtain ⟨w2, hw2⟩ : ∃ w2, w2 = w1.alloc (.cells #[.int .i64 d.tick, .slice A1 (hearsL c d).length cap1] 37) := ⟨_, rfl⟩
  rw [← hw2] at hbx hB
  have HW2 := Lib.hid hw2
  have hs1 := hb1.size
  have hs2 := hbx.size
  have hb2 : Below w.heap.size w w2 := hb1.trans (hbx.mono hs1)
  have HR1 := Lib.hid (hr1.below hbx)
  have HB := Lib.hid hB
  have HX : Hid (∀ W, Below w2.heap.size w2 W → W.cell? ⟨w1.heap.size, 0, none⟩ = some (.int .i64 d.tick) ∧ W.cell? ⟨w1.heap.size, 1, none⟩ = some (.slice A1 (hearsL c d).length cap1)) := Lib.hid fun W hb => ⟨(HB.out.over hb).cell 0, (HB.out.over hb).cell 1⟩
  have HLV : Hid (∀ W, Below w2.heap.size w2 W → Live w0 W F c D d m) := Lib.hid fun W hb => HV.out.over (hb2.trans (hb.mono hb2.size))
  have b0 : w2.cell? ⟨w1.heap.size, 0, none⟩ = some (.int .i64 d.tick) := hB.cell 0
  have b1 : w2.cell? ⟨w1.heap.size, 1, none⟩ = some (.slice A1 (hearsL c d).length cap1) := hB.cell 1
  have hnil : w2.ownsRow w2.heap.size 3 1 (.slice none 0 0) ([] : List Int).length (ivs []) := ⟨by simp [ivs], .inl ⟨rfl, rfl⟩⟩
  have HHid := Lib.hid hb2
  clear hw2 hr1 ho1 hbx hB hb1 HBt
  go_upto_region 3 with fail
  rw [← HW2.out]
  have hk0 : Below w2.heap.size w2 w2 := Below.refl _ _
  go_upto_region 4 with (
    at_builtin
    refine app1 w2 (by rfl) _ _ 22 (by rfl) w2.heap.size 3 i0 _ 8 u_ints hi0 hz0 hz1 hz2 rfl _ _ _ (by rfl) hnil _ (by rfl) (by rfl) (by simp only [maxLen]; first | omega | (simp only [List.length_nil]; omega)) (by first | omega | (simp only [List.length_nil]; omega)) hk0.size ?_
    intro x1 y1 z1 u1 _
    have own1 := own_app1 z1
    have hk1 := hk0.trans u1
    obtain ⟨L1, hL1⟩ : ∃ L, L = ([] : List Int) ++ [d.tick] := ⟨_, rfl⟩
    rw [← hL1] at own1
    have HL1 := Lib.hid hL1
    have hl1 : L1.length ≤ 1 := by rw [hL1]; simp only [List.length_append, List.length_cons, List.length_nil]; omega
    clear hL1 z1 u1 hnil
    obtain ⟨B1, cap1', rfl, hcp1, hcm1⟩ := own_shape own1)
  obtain ⟨_, b1⟩ := HX.out _ hk1
  go_upto_region 5 with (
    at_builtin
    refine wpList_append_any _ (by rfl) _ _ 22 (by rfl) w2.heap.size 3 i0 _ 1 8 u_ints hi0 hz0 hz1 hz2 rfl (by omega) _ _ _ (by rfl) own1 w1.heap.size A1 (hearsL c d).length cap1 (ivs (hearsL c d)) (by rfl) (HR1.out.below (hk1.mono hs2)) (ivs_one' _) (by simp only [maxLen]; have := HH0.out; omega) (by have := HH0.out; omega) hk1.size ?_
    intro x2 y2 z2 u2 _
    have own2 := own_appL z2
    have hk2 := hk1.trans (below_app own1 u2 hk1.size)
    obtain ⟨L2, hL2⟩ : ∃ L, L = L1 ++ hearsL c d := ⟨_, rfl⟩
    rw [← hL2] at own2
    have HL2 := Lib.hid hL2
    have hl2 : L2.length ≤ 17 := by have := HH0.out; rw [hL2]; simp only [List.length_append]; omega
    clear hL2 z2 u2 own1
    obtain ⟨B2, cap2', rfl, hcp2, hcm2⟩ := own_shape own2)
  go_wp2_with fail
  refine (PHears_x HC.out (HLV.out _ hk2)).mono ?_
  intro e3 y3 g3
  obtain ⟨A3, kk3, rfl, hr3, hg3⟩ := g3.rd
  have own3 := own_over own2 hg3
  have hk3 := hk2.trans (hg3.mono hk2.size)
  clear g3 hg3 own2
  go_upto_region 6 with (
    at_builtin
    refine wpList_append_any _ (by rfl) _ _ 22 (by rfl) w2.heap.size 3 i0 _ 1 8 u_ints hi0 hz0 hz1 hz2 rfl (by omega) _ _ _ (by rfl) own3 y3.heap.size A3 (hearsL c d).length kk3 (ivs (hearsL c d)) (by rfl) hr3 (ivs_one' _) (by simp only [maxLen]; have := HH0.out; omega) (by have := HH0.out; omega) hk3.size ?_
    intro x4 y4 z4 u4 _
    have own4 := own_appL z4
    have hk4 := hk3.trans (below_app own3 u4 hk3.size)
    obtain ⟨L4, hL4⟩ : ∃ L, L = L2 ++ hearsL c d := ⟨_, rfl⟩
    rw [← hL4] at own4
    have HL4 := Lib.hid hL4
    have hl4 : L4.length ≤ 33 := by have := HH0.out; rw [hL4]; simp only [List.length_append]; omega
    clear hL4 z4 u4 own3
    obtain ⟨B4, cap4', rfl, hcp4, hcm4⟩ := own_shape own4)
  go_wp2_with fail
  refine (PEst_x HC.out (HLV.out _ hk4)).mono ?_
  intro e5 y5 g5
  obtain ⟨A5, kk5, rfl, hr5, hg5⟩ := g5.rd
  have own5 := own_over own4 hg5
  have hk5 := hk4.trans (hg5.mono hk4.size)
  clear g5 hg5 own4
  go_upto_region 7 with (
    at_builtin
    refine wpList_append_any _ (by rfl) _ _ 22 (by rfl) w2.heap.size 3 i0 _ 1 8 u_ints hi0 hz0 hz1 hz2 rfl (by omega) _ _ _ (by rfl) own5 y5.heap.size A5 (estL c d).length kk5 (ivs (estL c d)) (by rfl) hr5 (ivs_one' _) (by simp only [maxLen]; have := HE0.out; omega) (by have := HE0.out; omega) hk5.size ?_
    intro x6 y6 z6 u6 _
    have own6 := own_appL z6
    have hk6 := hk5.trans (below_app own5 u6 hk5.size)
    obtain ⟨L6, hL6⟩ : ∃ L, L = L4 ++ estL c d := ⟨_, rfl⟩
    rw [← hL6] at own6
    have HL6 := Lib.hid hL6
    have hl6 : L6.length ≤ 49 := by have := HE0.out; rw [hL6]; simp only [List.length_append]; omega
    clear hL6 z6 u6 own5
    obtain ⟨B6, cap6', rfl, hcp6, hcm6⟩ := own_shape own6)
  go_upto_region 8 with (
    at_builtin
    refine app1 y6 (by rfl) _ _ 22 (by rfl) w2.heap.size 3 i0 _ 8 u_ints hi0 hz0 hz1 hz2 rfl _ _ _ (by rfl) own6 _ (by rfl) (by rfl) (by simp only [maxLen]; first | omega | (simp only [List.length_nil]; omega)) (by first | omega | (simp only [List.length_nil]; omega)) hk6.size ?_
    intro x7 y7 z7 u7 _
    have own7 := own_app1 z7
    have hk7 := hk6.trans u7
    obtain ⟨L7, hL7⟩ : ∃ L, L = L6 ++ [-1] := ⟨_, rfl⟩
    rw [← hL7] at own7
    have HL7 := Lib.hid hL7
    have hl7 : L7.length ≤ 50 := by rw [hL7]; simp only [List.length_append, List.length_cons, List.length_nil]; omega
    clear hL7 z7 u7 own6
    obtain ⟨B7, cap7', rfl, hcp7, hcm7⟩ := own_shape own7)
  go_wp2_with fail
  refine (PSusp_x HC.out (HLV.out _ hk7)).mono ?_
  intro e8 y8 g8
  obtain ⟨A8, kk8, rfl, hr8, hg8⟩ := g8.rd
  have own8 := own_over own7 hg8
  have hk8 := hk7.trans (hg8.mono hk7.size)
  clear g8 hg8 own7
  go_upto_region 9 with (
    at_builtin
    refine wpList_append_any _ (by rfl) _ _ 22 (by rfl) w2.heap.size 3 i0 _ 1 8 u_ints hi0 hz0 hz1 hz2 rfl (by omega) _ _ _ (by rfl) own8 y8.heap.size A8 (suspL c d c.n).length kk8 (ivs (suspL c d c.n)) (by rfl) hr8 (ivs_one' _) (by simp only [maxLen]; have := HS0.out; omega) (by have := HS0.out; omega) hk8.size ?_
    intro x9 y9 z9 u9 _
    have own9 := own_appL z9
    have hk9 := hk8.trans (below_app own8 u9 hk8.size)
    obtain ⟨L9, hL9⟩ : ∃ L, L = L7 ++ suspL c d c.n := ⟨_, rfl⟩
    rw [← hL9] at own9
    have HL9 := Lib.hid hL9
    have hl9 : L9.length ≤ 66 := by have := HS0.out; rw [hL9]; simp only [List.length_append]; omega
    clear hL9 z9 u9 own8
    obtain ⟨B9, cap9', rfl, hcp9, hcm9⟩ := own_shape own9)
  go_upto_region 10 with (
    at_builtin
    refine app1 y9 (by rfl) _ _ 22 (by rfl) w2.heap.size 3 i0 _ 8 u_ints hi0 hz0 hz1 hz2 rfl _ _ _ (by rfl) own9 _ (by rfl) (by rfl) (by simp only [maxLen]; first | omega | (simp only [List.length_nil]; omega)) (by first | omega | (simp only [List.length_nil]; omega)) hk9.size ?_
    intro x10 y10 z10 u10 _
    have own10 := own_app1 z10
    have hk10 := hk9.trans u10
    obtain ⟨L10, hL10⟩ : ∃ L, L = L9 ++ [-1] := ⟨_, rfl⟩
    rw [← hL10] at own10
    have HL10 := Lib.hid hL10
    have hl10 : L10.length ≤ 67 := by rw [hL10]; simp only [List.length_append, List.length_cons, List.length_nil]; omega
    clear hL10 z10 u10 own9
    obtain ⟨B10, cap10', rfl, hcp10, hcm10⟩ := own_shape own10)
  have HLL : Hid (L10 = askP c d 0) := Lib.hid (by rw [HAZ.out, HL10.out, HL9.out, HL7.out, HL6.out, HL4.out, HL2.out, HL1.out])
  clear b0 b1 HL1 HL2 HL4 HL6 HL7 HL9 HL10
  go_wp2_with fail
  go_loopw [5, 7] (fun x i wr => ∃ k : Nat, k ≤ c.n ∧ i = .int .i64 (k : Int) ∧ (∃ L : List Int, Hid (L = askP c d k) ∧ wr.ownsRow w2.heap.size 3 1 x L.length (ivs L)) ∧ Below w2.heap.size w2 wr) (fun _ i _ => c.n - (intOf i).toNat)
  case atStart => exact ⟨0, by omega, rfl, ⟨_, HLL, own10⟩, hk10⟩
  case round =>
    clear own10 hk10 HLL
    obtain ⟨k, hk, rfl, ⟨L, HLk, own⟩, hkk⟩ := hrel
    obtain ⟨A, cap, rfl, hcp, hcm⟩ := own_shape own
    by_cases hlt : k < c.n
    · have hI : (k : Int) < (c.n : Int) := by omega
      have hll : L.length ≤ 120 := by have h1 := HAL.out k; rw [← HLk.out] at h1; omega
      have HKn := Lib.hid (PKnown_x HC.out (HLV.out _ hkk) (k : Int))
      have HTm := Lib.hid (PTimeout_x HC.out (HLV.out _ hkk) (k : Int))
      have HWg := Lib.hid (PWrong_x HC.out (HLV.out _ hkk) (k : Int))
      have HSk := Lib.hid (HAS.out k)
      generalize knownQ c d (k : Int) = q1 at *
      generalize timeoutQ c d (k : Int) = q2 at *
      generalize wrongQ c d (k : Int) = q3 at *
      have hrs : Rd (wr.alloc (.cells #[.int .i64 q1, .int .i64 q2, .int .i64 q3] 3)) (wr.heap.size + 1) 1 (some ⟨wr.heap.size, 0, none⟩) 3 (ivs [q1, q2, q3]) :=
        ⟨rfl, fun _ => ⟨wr.heap.size, 0, rfl, by omega, fun j u hu => by
          rw [Nat.zero_add, (Blk.new wr 3 #[.int .i64 q1, .int .i64 q2, .int .i64 q3]).cell j, ← Array.getElem?_toList]
          exact hu⟩⟩
      have own' := own.alloc (.cells #[.int .i64 q1, .int .i64 q2, .int .i64 q3] 3)
      have hka := hkk.alloc hkk.size (.cells #[.int .i64 q1, .int .i64 q2, .int .i64 q3] 3)
      go_wp2_with fail
      refine HKn.out.mono ?_
      rintro _ _ ⟨rfl, rfl⟩
      go_wp2_with fail
      refine HTm.out.mono ?_
      rintro _ _ ⟨rfl, rfl⟩
      go_wp2_with fail
      refine HWg.out.mono ?_
      rintro _ _ ⟨rfl, rfl⟩
      clear HKn HTm HWg
      go_wp2_with (
        at_builtin
        refine wpList_append_any _ (by rfl) _ _ 22 (by rfl) w2.heap.size 3 i0 _ 1 8 u_ints hi0 hz0 hz1 hz2 rfl (by omega) _ _ _ (by rfl) own' (wr.heap.size + 1) (some ⟨wr.heap.size, 0, none⟩) 3 3 (ivs [q1, q2, q3]) (by rfl) hrs (ivs_one' _) (by simp only [maxLen]; omega) (by omega) hka.size ?_
        intro v5 w5 own5 hg5 _
        have own6 : w5.ownsRow w2.heap.size 3 1 v5 (L ++ [q1, q2, q3]).length (ivs (L ++ [q1, q2, q3])) := own_appL own5
        have hk5 := hka.trans (below_app own' hg5 hka.size))
      go_roundw
      case rel => exact ⟨k + 1, by omega, by go_num, ⟨_, Lib.hid (by rw [HSk.out, ← HLk.out]), own6⟩, hk5⟩
      case measure => simp [intOf] <;> omega
    · obtain rfl : k = c.n := by omega
      have HO : Hid (GivesL w (askP c d c.n) (.returned (.slice A L.length cap)) wr) := Lib.hid (by
        obtain rfl := HLk.out
        exact ⟨A, cap, rfl, own_base own HHid.out.size, HHid.out.trans (hkk.mono HHid.out.size)⟩)
      go_wp2
      go_ret
      exact HO.out
end Go.Proofs.Ytfjpmoigpnmeoaa
