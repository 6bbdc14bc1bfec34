/-
  The statements' helper does, at a beat.
-/
import Derived.Test.YtfjpmoigpnmeoaaDLaw3
namespace Go.Proofs.Ytfjpmoigpnmeoaa
open Go.RowKit
variable {w : World} {c : Cfg} {D K : Nat} {F : Nat → Prop} {l : List Ev}

theorem PHeard_any {O : Nat} {Q C : Nat → Nat} {d : DSt} (A : Option Addr) (n cap : Nat) (hs : List Int) (q inc tick : Int) (hc : c.Ok) (h : PD w F c D d O Q C) (hF : ∀ k, F k → k < w.heap.size) (hr : RdI w w.heap.size A n hs) (hm : n ≤ 140737488351232) (hA : 0 < n → ∀ b o s, A = some ⟨b, o, s⟩ → ¬ F b) (m : Nat) (hok : d.Ok c m) (hm2 : m < 4611686018427387904) :
    Calls Try.prog 13 #[.pointer (some ⟨D, 0, none⟩), .int .i64 q, .int .i64 inc, .agg #[.int .i64 tick, .slice A n cap]] w (HeardsP w F c D d O Q C q inc tick hs) := by
  obtain ⟨h1, h2, h3, h4, h5, h6, h7, h8, h9, h10, h11⟩ := hc
  cases ho : otherB c q with
  | false => exact PHeard_none A n cap hs q inc tick h hF h2 h3 ho
  | true =>
    have hq : 0 ≤ q ∧ q < (c.n : Int) ∧ q ≠ (c.self : Int) := by simpa [otherB] using ho
    obtain ⟨j, rfl⟩ := Int.eq_ofNat_of_zero_le hq.1
    exact PHeard_at A n cap hs inc tick j h hF h2 h3 (by omega) (by omega) hr hm hA m hok hm2 h11 h10 h7
theorem Rd.chgZ {w w' : World} {S : Nat → Prop} {B sz n : Nat} {A : Option Addr} {xs : List Value} (h : Rd w B sz A n xs) (hc : Chg S w w') (hB : B ≤ w.heap.size) (hA : 0 < n → ∀ b o s, A = some ⟨b, o, s⟩ → b < B → ¬ S b) : Rd w' B sz A n xs :=
  ⟨h.len, fun hn => by
    obtain ⟨b, off, e, hb, hx⟩ := h.at_ hn
    exact ⟨b, off, e, hb, fun j u hu => (World.cell?_of_block (hc.block b (by omega) (hA hn b off none e hb))).trans (hx j u hu)⟩⟩
theorem rg_rd {w : World} {g : Nat} {hs : List Int} (hB : Blk w g 3 (rg hs.length fun j => .int .i64 (hs.getD j 0))) : RdI w w.heap.size (some ⟨g, 0, none⟩) hs.length hs :=
  ⟨by rw [ivs_length]; omega, fun _ => ⟨g, 0, rfl, hB.lt, fun j u hu => by
    have hj : j < hs.length := by have := (List.getElem?_eq_some_iff.1 hu).1; rwa [ivs_length] at this
    rw [Nat.zero_add, hB.cell, rg_at _ hj, ← hu, ivs_at (List.getElem?_eq_getElem hj)]
    simp [List.getD, List.getElem?_eq_getElem hj]⟩⟩
theorem hearE_bd (c : Cfg) (d : DSt) (q inc tick : Int) (hs : List Int) : 0 ≤ hearE c d q inc tick hs ∧ hearE c d q inc tick hs ≤ 100 := by
  unfold hearE
  split
  · omega
  · split
    · omega
    · split <;> omega
set_option maxRecDepth 100000 in
set_option maxHeartbeats 6400000 in
theorem does_heard (A : Option Addr) (n cap : Nat) (hs : List Int) (q inc tick : Int) (hc : c.Ok) (h : Pair w F c D K l) (hn : l.length < 3518437208883) (hr : RdI w w.heap.size A n hs) (hm : n ≤ 17592186043904) (hA : 0 < n → ∀ b o s, A = some ⟨b, o, s⟩ → ¬ F b) :
    Calls Try.prog 33 #[.pointer (some ⟨D, 0, none⟩), .pointer (some ⟨K, 0, none⟩), .agg #[.int .i64 2, .int .i64 q, .int .i64 inc, .int .i64 tick, .slice A n cap]] w (DoesOk w F c D K l) := by
  obtain ⟨i0, hi0, hz0, hz1, hz2⟩ := info_parts info_int
  obtain ⟨Fa, Fb, ha, hb, h3, h4, h5, h6⟩ := h
  have HLn := Lib.hid hr.lenI
  have hb0 := one_box' w (.cells #[.int .i64 2, .int .i64 q, .int .i64 inc, .int .i64 tick, .slice A n cap] 61)
  have ha0 := ha.below hb0
  have hr0 := hb.below hb0
  have hrd0 := hr.over hb0
  have hO := Blk.new w 61 #[.int .i64 2, .int .i64 q, .int .i64 inc, .int .i64 tick, .slice A n cap]
  obtain ⟨w0, hw0⟩ : ∃ w0, w0 = w.alloc (.cells #[.int .i64 2, .int .i64 q, .int .i64 inc, .int .i64 tick, .slice A n cap] 61) := ⟨_, rfl⟩
  rw [← hw0] at hb0 ha0 hr0 hO hrd0
  have HW := Lib.hid hw0
  have hs0 := hb0.size
  have c0 : w0.cell? ⟨w.heap.size, 0, none⟩ = some (.int .i64 2) := hO.cell 0
  have c4 : w0.cell? ⟨w.heap.size, 4, none⟩ = some (.slice A n cap) := hO.cell 4
  have HA0 := Lib.hid ha0
  have HR0 := Lib.hid hr0
  have HO := Lib.hid hO
  have HZ := Lib.hid (And.intro h3 (And.intro h4 (And.intro h5 h6)))
  have HAF := Lib.hid hA
  have HRD := Lib.hid hrd0
  have HBF : Hid (¬ F w.heap.size) := Lib.hid fun h => by have := h6 _ h; omega
  have HLO := Lib.hid hO.lt
  clear hw0 ha hb h3 h4 h5 h6 hO hr0 ha0 hr hA
  go_enter Try.func33, Try.ntmps33
  go_upto_region 1 with fail
  rw [← HW.out]
  go_wp2_with fail
  refine (copied_any A n cap hs w0 hrd0 (by omega)).mono ?_
  rintro _ w1 ⟨g, rfl, hg, hB1, hb1⟩
  have hs1 := hb1.size
  have hown : w1.ownsRow w0.heap.size 3 1 (.slice (some ⟨g, 0, none⟩) hs.length hs.length) hs.length (ivs hs) := own_rg hB1 rfl hg (by simp only [maxLen]; have := HLn.out; omega)
  rw [HLn.out] at hown ⊢
  have hO1 := HO.out.over hb1
  have c4' : w1.cell? ⟨w.heap.size, 4, none⟩ = some (.slice A n cap) := hO1.cell 4
  have hrs : Rd (w1.alloc (.cells #[.int .i64 71, .int .i64 72] 3)) (w1.heap.size + 1) 1 (some ⟨w1.heap.size, 0, none⟩) 2 [.int .i64 71, .int .i64 72] :=
    ⟨rfl, fun _ => ⟨w1.heap.size, 0, rfl, by omega, fun j u hu => by
      rw [Nat.zero_add, (Blk.new w1 3 #[.int .i64 71, .int .i64 72]).cell j, ← Array.getElem?_toList]
      exact hu⟩⟩
  have hown' := hown.alloc (.cells #[.int .i64 71, .int .i64 72] 3)
  have hbal := one_box' w1 (.cells #[.int .i64 71, .int .i64 72] 3)
  have hsal : (w1.alloc (.cells #[.int .i64 71, .int .i64 72] 3)).heap.size = w1.heap.size + 1 := by simp
  clear hB1 c0 c4
  go_upto_region 10 with (
    at_builtin
    refine wpList_append_any _ (by rfl) _ _ 22 (by rfl) w0.heap.size 3 i0 _ 1 8 u_ints hi0 hz0 hz1 hz2 rfl (by omega) _ n _ (by rfl) hown' (w1.heap.size + 1) (some ⟨w1.heap.size, 0, none⟩) 2 2 [.int .i64 71, .int .i64 72] (by rfl) hrs (by simp; exact ⟨rfl, rfl⟩) (by simp only [maxLen]; omega) (by omega) (by simp; omega) ?_
    intro v2 w2 hown2 hg2 hat2)
  have hb2 : Below w0.heap.size w0 w2 := hb1.trans ((hbal.mono hs1).trans (below_app hown' hg2 (by omega)))
  obtain ⟨g2, cap2, cur, rfl, hgb, hB2, hle2, hcm2, hsz2, htk⟩ := own_parts hown2 (by omega)
  have hs2 := hb2.size
  have HCUR : Hid (∀ j u, (ivs hs ++ [Value.int .i64 71, .int .i64 72])[j]? = some u → cur[j]? = some u) := Lib.hid fun j u hu => by
    rw [← htk, List.getElem?_take] at hu
    split at hu
    · rw [Array.getElem?_toList] at hu; exact hu
    · cases hu
  have hcu : cap2 ≤ 9223372036854775807 := by simp only [maxLen] at hcm2; exact hcm2
  have hO2 := HO.out.over hb2
  have c1 : w2.cell? ⟨w.heap.size, 1, none⟩ = some (.int .i64 q) := hO2.cell 1
  have c2 : w2.cell? ⟨w.heap.size, 2, none⟩ = some (.int .i64 inc) := hO2.cell 2
  have c3 : w2.cell? ⟨w.heap.size, 3, none⟩ = some (.int .i64 tick) := hO2.cell 3
  have c4 : w2.cell? ⟨w.heap.size, 4, none⟩ = some (.slice A n cap) := hO2.cell 4
  have hgF : ∀ k, Fa k → k ≠ g2 := fun k hk e => by have := HA0.out.1 k hk; omega
  have hrdg : RdI w2 w2.heap.size (some ⟨g2, 0, none⟩) n hs := ⟨by rw [ivs_length, HLn.out]; omega, fun _ => ⟨g2, 0, rfl, hB2.lt, fun j u hu => by
    rw [Nat.zero_add, hB2.cell]
    exact HCUR.out j u (by rw [List.getElem?_append_left (List.getElem?_eq_some_iff.1 hu).1]; exact hu)⟩⟩
  obtain ⟨hFa2, O, Q, C, hP2⟩ := HA0.out.below hb2
  have HPH := Lib.hid (PHeard_any (some ⟨g2, 0, none⟩) n cap2 hs q inc tick hc hP2 hFa2 hrdg (by omega) (fun _ b o s e h => by
    injection e with e; injection e with e; exact hgF _ h e.symm) l.length (dOf_ok hc HR0.out.2.1) (by omega))
  have HB2 := Lib.hid hB2
  have HGF := Lib.hid hgF
  have HGB := Lib.hid hgb
  have hn1 : (0 : Int) ≤ (n : Int) := by omega
  have hn2 : (n : Int) ≤ (cap2 : Int) := by omega
  clear hown2 hg2 hat2 hown hown' hbal hsal hrs hb1 hO1 c4' htk hsz2 hB2 hrdg hP2 hgF hO2 hFa2 hgb
  go_wp2_with fail
  refine HPH.out.mono ?_
  rintro _ w3 ⟨rfl, hp3, hc3⟩
  have hs3 := hc3.size
  have hO3 : Blk w3 w.heap.size 61 #[.int .i64 2, .int .i64 q, .int .i64 inc, .int .i64 tick, .slice A n cap] := (HO.out.over hb2).chg hc3 (fun h => HBF.out (HZ.out.1 _ h))
  have HO3 := Lib.hid hO3
  have HB3 : Hid (Blk w3 g2 3 cur) := HB2.out.chg hc3 (fun h => HGF.out _ h rfl)
  have hr3 := (HR0.out.below hb2).chg hc3 (fun k hk h => HZ.out.2.2.1 k h hk)
  obtain ⟨v, hR3, hFb3, hl3⟩ := hr3.parts
  have hrd3 : RdI w3 w0.heap.size A n hs := ((HRD.out.below hb2)).chgZ hc3 hs2 (fun hp b o s e _ h => HAF.out hp b o s e (HZ.out.1 _ h))
  have HRD3 := Lib.hid hrd3
  have HCP := Lib.hid fun (W : World) (hbW : Below w3.heap.size w3 W) => copied_any A n cap hs W ((hrd3.below (hbW.mono (by omega))).more (by have := hbW.size; omega)) (by omega)
  have HRH := Lib.hid fun (W : World) (g : Nat) (hbW : Below w3.heap.size w3 W) (hgW : w3.heap.size ≤ g) (hBW : Blk W g 3 (rg hs.length fun j => .int .i64 (hs.getD j 0))) =>
    RHeard_any hc (hR3.below hFb3 hbW) (fun k hk => Nat.lt_of_lt_of_le (hFb3 k hk) hbW.size) hl3 hn (some ⟨g, 0, none⟩) hs.length hs.length hs (rg_rd hBW) (by rw [HLn.out]; omega) (fun _ b o s e h => by
      injection e with e; injection e with e; subst e; have := hFb3 _ h; omega) q inc tick
  have HXO : Hid (∀ W, Below w3.heap.size w3 W → W.cell? ⟨w.heap.size, 1, none⟩ = some (.int .i64 q) ∧ W.cell? ⟨w.heap.size, 2, none⟩ = some (.int .i64 inc) ∧ W.cell? ⟨w.heap.size, 3, none⟩ = some (.int .i64 tick) ∧ W.cell? ⟨w.heap.size, 4, none⟩ = some (.slice A n cap)) := Lib.hid fun W hb => ⟨(hO3.over hb).cell 1, (hO3.over hb).cell 2, (hO3.over hb).cell 3, (hO3.over hb).cell 4⟩
  have HFIN : Hid (∀ W W' F5, Below w3.heap.size w3 W → Moved W W' Fb F5 → W'.cell? ⟨w.heap.size, 1, none⟩ = some (.int .i64 q) ∧ W'.cell? ⟨w.heap.size, 2, none⟩ = some (.int .i64 inc) ∧ W'.cell? ⟨w.heap.size, 3, none⟩ = some (.int .i64 tick) ∧ W'.cell? ⟨w.heap.size, 4, none⟩ = some (.slice A n cap)) := Lib.hid fun W W' F5 hb hm => by
    have hB := (hO3.over hb).chg hm.2 (fun h => HBF.out (HZ.out.2.1 _ h))
    exact ⟨hB.cell 1, hB.cell 2, hB.cell 3, hB.cell 4⟩
  have HP3 := Lib.hid hp3
  have HC3 := Lib.hid hc3
  have HFB3 := Lib.hid hFb3
  have hed := hearE_bd c (dOf c l) q inc tick hs
  clear c1 c2 c3 c4 hO3 hr3 hR3 hrd3 hp3 hc3 hFb3 hl3 HPH
  generalize hHE : hearE c (dOf c l) q inc tick hs = E at *
  have HHE := Lib.hid hHE
  clear hHE
  have hx0 := HXO.out w3.drew (below_drewN (Below.refl _ _) 1)
  go_upto_region 12 with fail
  go_region_held3 (fun w' => w'.cell? ⟨w.heap.size, 1, none⟩ = some (.int .i64 q) ∧ w'.cell? ⟨w.heap.size, 2, none⟩ = some (.int .i64 inc) ∧ w'.cell? ⟨w.heap.size, 3, none⟩ = some (.int .i64 tick) ∧ w'.cell? ⟨w.heap.size, 4, none⟩ = some (.slice A n cap)) ((first | exact hx0 | exact hx2 | exact hx1)) ((first
    | (go_at_call 24; refine (HCP.out w3.drew (below_drewN (Below.refl _ _) 1)).mono ?_; rintro _ w4 ⟨g4, rfl, hg4, hB4, hb4⟩; have hb34 : Below w3.heap.size w3 w4 := (below_drewN (Below.refl _ _) 1).trans hb4; have hx1 := HXO.out w4 hb34; have HG4 := Lib.hid (And.intro hg4 hB4); clear hg4 hB4 hb4)
    | (go_at_call 50; refine (HRH.out w4 g4 hb34 HG4.out.1 HG4.out.2).mono ?_; rintro _ w5 ⟨rfl, F5, l5, hx5, hd5, hl5, hm5⟩; have hx2 := HFIN.out w4 w5 F5 hb34 hm5; have HM5 := Lib.hid (And.intro hx5 (And.intro hd5 (And.intro hl5 hm5))); clear hx5 hd5 hl5 hm5)))
  have hs34 := hb34.size
  have hsz5 := HM5.out.2.2.2.2.size
  have hb02 : Below w.heap.size w w2 := hb0.trans (hb2.mono hs0)
  have HP4 : Hid (PDx w4 Fa c D (dOf c l5)) := by
    refine Lib.hid ⟨fun k hk => by have := HA0.out.1 k hk; omega, O, Q, C, ?_⟩
    rw [HM5.out.2.1]
    exact HP3.out.below (fun k hk => by have := HA0.out.1 k hk; omega) hb34
  have HSB := Lib.hid (step_both2 (l := l) HZ.out.1 HZ.out.2.1 HZ.out.2.2.1 HZ.out.2.2.2 hb02 HP4.out (HC3.out.trans (Chg.of_below hb34 _)) HM5.out.1 HM5.out.2.2.2 HM5.out.2.2.1)
  have hgb2 := HGB.out
  have HNG : Hid (∀ k, (Fa k ∨ F5 k) → k ≠ g2) := Lib.hid fun k hk e => by
    rcases hk with hk | hk
    · exact HGF.out k hk e
    · rcases HM5.out.2.2.2.1 k hk with h | h
      · have := HZ.out.2.2.2 k (HZ.out.2.1 k h); omega
      · have := HB2.out.lt; omega
  have hB5 : Blk w5 g2 3 cur := (HB3.out.over hb34).chg HM5.out.2.2.2.2 (fun h => by have := HZ.out.2.2.2 _ (HZ.out.2.1 _ h); omega)
  have hrg5 : RdI w5 w5.heap.size (some ⟨g2, 0, none⟩) n hs := ⟨by rw [ivs_length, HLn.out]; omega, fun _ => ⟨g2, 0, rfl, hB5.lt, fun j u hu => by
    rw [Nat.zero_add, hB5.cell]
    exact HCUR.out j u (by rw [List.getElem?_append_left (List.getElem?_eq_some_iff.1 hu).1]; exact hu)⟩⟩
  have hra5 : RdI w5 w5.heap.size A n hs := (((HRD3.out.below (hb34.mono (by omega))).chgZ HM5.out.2.2.2.2 (by omega) (fun hp b o s e _ h => HAF.out hp b o s e (HZ.out.2.1 _ h)))).more (by omega)
  have HB5 := Lib.hid hB5
  obtain ⟨x1, x2, x3, x4⟩ := hx2
  have hO5 : Hid (Blk w5 w.heap.size 61 #[.int .i64 2, .int .i64 q, .int .i64 inc, .int .i64 tick, .slice A n cap]) := (HO3.out.over hb34).chg HM5.out.2.2.2.2 (fun h => HBF.out (HZ.out.2.1 _ h))
  clear hx0 hx1 hB5 x1 x2 x3
  go_wp2_with fail
  refine (same_yes _ _ n cap2 cap hs w5 hrg5 hra5 (by omega)).mono ?_
  rintro _ w6 ⟨rfl, hb6⟩
  clear hrg5 hra5 x4
  have y4 : w6.cell? ⟨w.heap.size, 4, none⟩ = some (.slice A n cap) := (hO5.out.over hb6).cell 4
  have hB6 := HB5.out.over hb6
  have y71 : w6.cell? ⟨g2, n, none⟩ = some (.int .i64 71) := by
    rw [hB6.cell]; exact HCUR.out n _ (by rw [List.getElem?_append_right (by rw [ivs_length, HLn.out]; exact Nat.le_refl _), ivs_length, HLn.out, Nat.sub_self]; rfl)
  have y72 : w6.cell? ⟨g2, n + 1, none⟩ = some (.int .i64 72) := by
    rw [hB6.cell]; exact HCUR.out (n + 1) _ (by rw [List.getElem?_append_right (by rw [ivs_length, HLn.out]; omega), ivs_length, HLn.out, show n + 1 - n = 1 by omega]; rfl)
  have hi1 : (n : Int) < (n : Int) + 2 := by omega
  have hi2 : n < n + 2 := by omega
  have HCS : Hid (∃ cur', Blk w6 g2 3 cur' ∧ n ≤ cur'.size) := Lib.hid ⟨cur, hB6, by
    rcases Nat.lt_or_ge cur.size n with h | h
    · have := HCUR.out n _ (by rw [List.getElem?_append_right (by rw [ivs_length, HLn.out]; exact Nat.le_refl _), ivs_length, HLn.out, Nat.sub_self]; rfl)
      rw [Array.getElem?_eq_none (by omega)] at this
      cases this
    · exact h⟩
  clear hB6
  go_upto_region 14 with fail
  clear y71 y72 y4
  go_wp2_with fail
  go_loopw [12] (fun i wr => ∃ k : Nat, k ≤ n ∧ i = .int .i64 (k : Int) ∧ Hid (∃ cur', Blk wr g2 3 cur' ∧ n ≤ cur'.size) ∧ Hid (Chg (fun k => k = g2) w6 wr)) (fun i _ => n - (intOf i).toNat)
  case atStart => exact ⟨0, by omega, rfl, HCS, Lib.hid (Chg.refl _ _)⟩
  case round =>
    clear HCS
    obtain ⟨k, hk, rfl, HCS, HCH⟩ := hrel
    by_cases hlt : k < n
    · have hI : (k : Int) < (n : Int) := by omega
      obtain ⟨cur', hB', hsz'⟩ := HCS.out
      obtain ⟨u, hu⟩ : ∃ u, cur'[k]? = some u := ⟨_, Array.getElem?_eq_getElem (by omega)⟩
      have l0 : wr.cell? ⟨g2, k, none⟩ = some u := (hB'.cell k).trans hu
      have lf : wr.frozen? ⟨g2, k, none⟩ = false := hB'.frozen k
      have HN : Hid (∃ cur', Blk (wr.setCell ⟨g2, k, none⟩ (.int .i64 (-7))) g2 3 cur' ∧ n ≤ cur'.size) := Lib.hid ⟨_, hB'.set_ k _, by simpa using hsz'⟩
      have HN2 : Hid (Chg (fun k => k = g2) w6 (wr.setCell ⟨g2, k, none⟩ (.int .i64 (-7)))) := HCH.out.setCell (p := ⟨g2, k, none⟩) (.inl rfl) _
      clear hB' hu
      go_wp2
      go_roundw
      case rel => exact ⟨k + 1, by omega, by go_num, HN, HN2⟩
      case measure => simp [intOf] <;> omega
    · obtain rfl : k = n := by omega
      have e9 : (E == hearE c (dOf c l) q inc tick hs) = true := by rw [HHE.out]; simp
      have HFI : Hid (∃ F' l', Pair wr F' c D K l' ∧ l'.length ≤ l.length + 1 ∧ Moved w wr F F') := by
        obtain ⟨hp, hl5', hm⟩ := HSB.out
        have hp6 := (hp.below hb6).chg HCH.out (fun k hk e => HNG.out k hk e)
        refine Lib.hid ⟨_, l5, hp6, hl5', hm.1, (hm.2.trans (Chg.of_below hb6 _)).thenS HCH.out (fun i hi e => ?_)⟩
        subst e
        have := hb02.size
        omega
      go_wp2_with (go_at_call 15; refine (num_any _ _ (by omega) (by omega)).mono ?_; rintro _ _ ⟨rfl, rfl⟩)
      go_ret
      exact ⟨rfl, HFI.out⟩
end Go.Proofs.Ytfjpmoigpnmeoaa
