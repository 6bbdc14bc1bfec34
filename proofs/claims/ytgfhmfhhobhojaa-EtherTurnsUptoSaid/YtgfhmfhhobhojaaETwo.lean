/-
  EtherTurns, walked.
-/
import Derived.Test.YtgfhmfhhobhojaaELaw9
namespace Go.Proofs.Ytgfhmfhhobhojaa
open Go.ChangeShapes Go.WideShapes Go.ChangeAt Go.RowKit
/-- Two pairs of networks, apart from one another, each made (o1, o2) or not, behind B. -/
structure Both (o1 o2 : Bool) (w : World) (B : Nat) (c1 : ECfg) (D1 K1 : Nat) (c2 : ECfg) (D2 K2 m : Nat) : Prop where
  ex : ∃ G H : Nat → Prop, (∀ k, G k → ¬ H k) ∧ (∀ k, G k ∨ H k → B ≤ k ∧ k < w.heap.size) ∧ (o1 = true → ∃ p r F1 F2, Duo w F1 F2 c1 D1 K1 m p r ∧ ∀ k, F1 k ∨ F2 k → G k) ∧ (o2 = true → ∃ p r F1 F2, Duo w F1 F2 c2 D2 K2 m p r ∧ ∀ k, F1 k ∨ F2 k → H k)
section
variable {o1 o2 : Bool} {w w1 w2 : World} {B : Nat} {c1 : ECfg} {D1 K1 : Nat} {c2 : ECfg} {D2 K2 m : Nat}
theorem Both.swap (h : Both o1 o2 w B c1 D1 K1 c2 D2 K2 m) : Both o2 o1 w B c2 D2 K2 c1 D1 K1 m := by
  obtain ⟨G, H, h1, h2, h3, h4⟩ := h.ex
  exact ⟨H, G, fun k hk hg => h1 k hg hk, fun k hk => h2 k hk.symm, h4, h3⟩
theorem Both.none_ (w : World) (B : Nat) (c1 : ECfg) (D1 K1 : Nat) (c2 : ECfg) (D2 K2 : Nat) : Both false false w B c1 D1 K1 c2 D2 K2 0 :=
  ⟨fun _ => False, fun _ => False, fun _ h _ => h, fun _ h => (h.elim id id).elim, fun h => Bool.noConfusion h, fun h => Bool.noConfusion h⟩
theorem Both.add (hc : c2.Ok) (h : Both o1 false w B c1 D1 K1 c2 D2 K2 0) (hB : B ≤ w.heap.size) {F1 F2 : Nat → Prop} (h1 : PNx w1 F1 c2 D2 PV.new 0) (h2 : ∀ k, F1 k → w.heap.size ≤ k) (hb1 : Below w.heap.size w w1) (h3 : RNx w2 F2 c2 K2 RV.new) (h4 : ∀ k, F2 k → w1.heap.size ≤ k) (hb2 : Below w1.heap.size w1 w2) : Both o1 true w2 B c1 D1 K1 c2 D2 K2 0 := by
  obtain ⟨G, H, g1, g2, g3, g4⟩ := h.ex
  have hs1 := hb1.size
  have hs2 := hb2.size
  refine ⟨G, fun k => F1 k ∨ F2 k, fun k hk hf => ?_, fun k hk => ?_, fun ho => ?_, fun _ => ⟨_, _, F1, F2, ⟨h1.below hb2, h3, TwinS.new c2 hc, fun k hk hk2 => by have := h1.1 k hk; have := h4 k hk2; omega⟩, fun k hk => hk⟩⟩
  · have := (g2 k (.inl hk)).2
    rcases hf with hf | hf
    · have := h2 k hf; omega
    · have := h4 k hf; omega
  · rcases hk with hk | hk | hk
    · have := g2 k (.inl hk); omega
    · have := h2 k hk
      have := h1.1 k hk
      omega
    · have := h4 k hk
      have := h3.1 k hk
      omega
  · obtain ⟨p, r, E1, E2, hd, he⟩ := g3 ho
    exact ⟨p, r, E1, E2, (hd.below hb1).below hb2, he⟩
theorem Both.more (h : Both o1 o2 w B c1 D1 K1 c2 D2 K2 m) : Both o1 o2 w B c1 D1 K1 c2 D2 K2 (m + 1) := by
  obtain ⟨G, H, g1, g2, g3, g4⟩ := h.ex
  refine ⟨G, H, g1, g2, fun ho => ?_, fun ho => ?_⟩
  · obtain ⟨p, r, E1, E2, hd, he⟩ := g3 ho
    exact ⟨p, r, E1, E2, hd.more, he⟩
  · obtain ⟨p, r, E1, E2, hd, he⟩ := g4 ho
    exact ⟨p, r, E1, E2, hd.more, he⟩
theorem step_1 {B0 b off n MB MS : Nat} (hc : c1.Ok) (h : Both true o2 w B c1 D1 K1 c2 D2 K2 m) (hm : m ≤ 16777216) (hB0 : B0 ≤ B) (hB : B ≤ w.heap.size) {kd p q nn : Int} {BA : Option Addr} {bc : Nat} {bs : List UInt8} {SA : Option Addr} {sc : Nat} {sides : List Int} (ho : EOpAt w B0 MB MS b off n kd p q nn BA bc bs SA sc sides) (hMB : MB ≤ 17592186044416) (hMS : MS ≤ 1099511627776) :
    Calls Try.prog 31 #[.pointer (some ⟨D1, 0, none⟩), .pointer (some ⟨K1, 0, none⟩), .agg #[.int .i64 kd, .int .i64 p, .int .i64 q, .int .i64 nn, .slice BA bs.length bc, .slice SA sides.length sc]] w fun e w' => e = .returned (.bool true) ∧ Both true o2 w' B c1 D1 K1 c2 D2 K2 (m + 1) ∧ Below B w w' := by
  obtain ⟨G, H, g1, g2, g3, g4⟩ := h.ex
  obtain ⟨p0, r0, F1, F2, hd, he⟩ := g3 rfl
  have hw : B0 ≤ w.heap.size := Nat.le_trans hB0 hB
  refine (plays_any hc hd hm kd p q nn BA SA bc sc bs sides ho.nb.2 (ho.rb.more hw) (Nat.le_trans ho.mb hMB) (ho.rs.more hw) (Nat.le_trans ho.ms hMS) (fun hp b o s e => ?_) (fun hp b o s e => ?_)).mono ?_
  · obtain ⟨b2, o2, e', hlt, _⟩ := ho.rb.at_ hp
    rw [e] at e'
    injection e' with e'
    injection e' with e'
    exact ⟨fun hf => by have := (g2 b (.inl (he b (.inl hf)))).1; omega, fun hf => by have := (g2 b (.inl (he b (.inr hf)))).1; omega⟩
  · obtain ⟨b2, o2, e', hlt, _⟩ := ho.rs.at_ hp
    rw [e] at e'
    injection e' with e'
    injection e' with e'
    exact ⟨fun hf => by have := (g2 b (.inl (he b (.inl hf)))).1; omega, fun hf => by have := (g2 b (.inl (he b (.inr hf)))).1; omega⟩
  · rintro e w' ⟨rfl, p1, r1, G1, G2, hn⟩
    have hsz := hn.chg.size
    refine ⟨rfl, ⟨fun k => G1 k ∨ G2 k, H, fun k hk hh => ?_, fun k hk => ?_, fun _ => ⟨p1, r1, G1, G2, hn.duo, fun k hk => hk⟩, fun ho2 => ?_⟩, hn.chg.to_below hB fun i hi => (g2 i (.inl (he i hi))).1⟩
    · have hlt := (g2 k (.inr hh)).2
      rcases hk with hk | hk
      · rcases hn.g1 k hk with h1 | h1
        · exact g1 k (he k (.inl h1)) hh
        · omega
      · rcases hn.g2 k hk with h1 | h1
        · exact g1 k (he k (.inr h1)) hh
        · omega
    · rcases hk with (hk | hk) | hk
      · refine ⟨?_, hn.duo.pn.1 k hk⟩
        rcases hn.g1 k hk with h1 | h1
        · exact (g2 k (.inl (he k (.inl h1)))).1
        · omega
      · refine ⟨?_, hn.duo.rn.1 k hk⟩
        rcases hn.g2 k hk with h1 | h1
        · exact (g2 k (.inl (he k (.inr h1)))).1
        · omega
      · have := g2 k (.inr hk); omega
    · obtain ⟨p2, r2, E1, E2, hd2, he2⟩ := g4 ho2
      have ha : ∀ k, E1 k ∨ E2 k → ¬ (F1 k ∨ F2 k) := fun k hk hf => g1 k (he k hf) (he2 k hk)
      exact ⟨p2, r2, E1, E2, ⟨(hd2.pn.chg hn.chg fun k hk => ha k (.inl hk)).mono (Nat.le_succ m), hd2.rn.chg hn.chg fun k hk => ha k (.inr hk), hd2.tw.more (Nat.le_succ m), hd2.ne⟩, he2⟩
theorem step_2 {B0 b off n MB MS : Nat} (hc : c2.Ok) (h : Both o1 true w B c1 D1 K1 c2 D2 K2 m) (hm : m ≤ 16777216) (hB0 : B0 ≤ B) (hB : B ≤ w.heap.size) {kd p q nn : Int} {BA : Option Addr} {bc : Nat} {bs : List UInt8} {SA : Option Addr} {sc : Nat} {sides : List Int} (ho : EOpAt w B0 MB MS b off n kd p q nn BA bc bs SA sc sides) (hMB : MB ≤ 17592186044416) (hMS : MS ≤ 1099511627776) :
    Calls Try.prog 31 #[.pointer (some ⟨D2, 0, none⟩), .pointer (some ⟨K2, 0, none⟩), .agg #[.int .i64 kd, .int .i64 p, .int .i64 q, .int .i64 nn, .slice BA bs.length bc, .slice SA sides.length sc]] w fun e w' => e = .returned (.bool true) ∧ Both o1 true w' B c1 D1 K1 c2 D2 K2 (m + 1) ∧ Below B w w' :=
  (step_1 hc h.swap hm hB0 hB ho hMB hMS).mono fun _ _ hh => ⟨hh.1, hh.2.1.swap, hh.2.2⟩
end
set_option maxRecDepth 100000 in
set_option maxHeartbeats 6400000 in
theorem Tn_yy {w : World} {c1 : ECfg} (hc1 : c1.Ok) {c2 : ECfg} (hc2 : c2.Ok) (A A2 : Option Addr) (n cap n2 cap2 : Nat) (hn : n ≤ 1048576) (hcap : n ≤ cap) (hcm : cap * 80 ≤ 140737488351232) (hn2 : n2 ≤ 1048576) (hcap2 : n2 ≤ cap2) (hcm2 : cap2 * 80 ≤ 140737488351232) (HO : Hid (EOps w w.heap.size 1048576 1048576 A n)) (HO2 : Hid (EOps w w.heap.size 1048576 1048576 A2 n2)) :
    Calls Try.prog 13 #[.agg #[.int .i64 (c1.n : Int), .int .i64 (c1.room : Int), .slice A n cap], .agg #[.int .i64 (c2.n : Int), .int .i64 (c2.room : Int), .slice A2 n2 cap2]] w (WalkOk w) := by
  have hba := one_box' w (.cells #[.int .i64 (c1.n : Int), .int .i64 (c1.room : Int), .slice A n cap] 24)
  have hRa := Blk.new w 24 #[.int .i64 (c1.n : Int), .int .i64 (c1.room : Int), .slice A n cap]
  obtain ⟨wa, hwa⟩ : ∃ wa, wa = w.alloc (.cells #[.int .i64 (c1.n : Int), .int .i64 (c1.room : Int), .slice A n cap] 24) := ⟨_, rfl⟩
  rw [← hwa] at hba hRa
  have hbb := one_box' wa (.cells #[.int .i64 (c2.n : Int), .int .i64 (c2.room : Int), .slice A2 n2 cap2] 24)
  have hRb := Blk.new wa 24 #[.int .i64 (c2.n : Int), .int .i64 (c2.room : Int), .slice A2 n2 cap2]
  have hsa : wa.heap.size = w.heap.size + 1 := by rw [hwa]; simp
  obtain ⟨w0, hw0⟩ : ∃ w0, w0 = wa.alloc (.cells #[.int .i64 (c2.n : Int), .int .i64 (c2.room : Int), .slice A2 n2 cap2] 24) := ⟨_, rfl⟩
  rw [← hw0] at hbb hRb
  rw [hsa] at hRb
  have HWA := Lib.hid hwa
  have HW := Lib.hid hw0
  have hb0 := hba.trans (hbb.mono hba.size)
  have hs0 := hb0.size
  have HOP : Hid (EOps w0 w.heap.size 1048576 1048576 A n) := HO.out.below hb0
  have HOP2 : Hid (EOps w0 w.heap.size 1048576 1048576 A2 n2) := HO2.out.below hb0
  have HR := Lib.hid (hRa.over hbb)
  have HR2 := Lib.hid hRb
  have HB0 := Lib.hid hb0
  have r0 : w0.cell? ⟨w.heap.size, 0, none⟩ = some (.int .i64 (c1.n : Int)) := HR.out.cell 0
  have r1 : w0.cell? ⟨w.heap.size, 1, none⟩ = some (.int .i64 (c1.room : Int)) := HR.out.cell 1
  have q0 : w0.cell? ⟨w.heap.size + 1, 0, none⟩ = some (.int .i64 (c2.n : Int)) := HR2.out.cell 0
  have q1 : w0.cell? ⟨w.heap.size + 1, 1, none⟩ = some (.int .i64 (c2.room : Int)) := HR2.out.cell 1
  clear hwa hw0 hba hbb hRa hRb hb0 hsa
  go_enter Try.func13, Try.ntmps13
  go_upto_region 1 with fail
  rw [← HWA.out, ← HW.out]
  have HNEW1 := Lib.hid (New_yes (w := w0) hc1)
  go_upto_region 2 with (go_at_call 15; refine HNEW1.out.mono ?_; rintro _ w1 ⟨D1, F1, rfl, hp, hF, hb1⟩; have HP1 := Lib.hid (And.intro hp (And.intro hF hb1)); clear hp hF hb1)
  have hR1 := HR.out.over HP1.out.2.2
  clear r0 r1
  have r0 : w1.cell? ⟨w.heap.size, 0, none⟩ = some (.int .i64 (c1.n : Int)) := hR1.cell 0
  have r1 : w1.cell? ⟨w.heap.size, 1, none⟩ = some (.int .i64 (c1.room : Int)) := hR1.cell 1
  have HRN1 := Lib.hid (RNew_yes (w := w1) c1 hc1)
  clear hR1
  go_upto_region 3 with (go_at_call 29; refine HRN1.out.mono ?_; rintro _ w2 ⟨K1, E1, rfl, hp, hF, hb2⟩; have HP2 := Lib.hid (And.intro hp (And.intro hF hb2)); clear hp hF hb2)
  have HBX := Lib.hid (HP1.out.2.2.trans (HP2.out.2.2.mono HP1.out.2.2.size))
  have HBO1 : Hid (∀ D2 K2, Both true false w2 w0.heap.size c1 D1 K1 c2 D2 K2 0) := Lib.hid fun D2 K2 => ((Both.none_ w0 w0.heap.size c2 D2 K2 c1 D1 K1).add hc1 (Nat.le_refl _) HP1.out.1 HP1.out.2.1 HP1.out.2.2 HP2.out.1 HP2.out.2.1 HP2.out.2.2).swap
  clear r0 r1 q0 q1
  have q0 : w2.cell? ⟨w.heap.size + 1, 0, none⟩ = some (.int .i64 (c2.n : Int)) := (HR2.out.over HBX.out).cell 0
  have q1 : w2.cell? ⟨w.heap.size + 1, 1, none⟩ = some (.int .i64 (c2.room : Int)) := (HR2.out.over HBX.out).cell 1
  have HNEW2 := Lib.hid (New_yes (w := w2) hc2)
  go_upto_region 4 with (go_at_call 15; refine HNEW2.out.mono ?_; rintro _ w3 ⟨D2, F2, rfl, hp, hF, hb1⟩; have HP3 := Lib.hid (And.intro hp (And.intro hF hb1)); clear hp hF hb1)
  have hR3 := (HR2.out.over HBX.out).over HP3.out.2.2
  clear q0 q1
  have q0 : w3.cell? ⟨w.heap.size + 1, 0, none⟩ = some (.int .i64 (c2.n : Int)) := hR3.cell 0
  have q1 : w3.cell? ⟨w.heap.size + 1, 1, none⟩ = some (.int .i64 (c2.room : Int)) := hR3.cell 1
  have HRN2 := Lib.hid (RNew_yes (w := w3) c2 hc2)
  clear hR3
  go_upto_region 5 with (go_at_call 29; refine HRN2.out.mono ?_; rintro _ w4 ⟨K2, E2, rfl, hp, hF, hb2⟩; have HP4 := Lib.hid (And.intro hp (And.intro hF hb2)); clear hp hF hb2)
  have HST : Hid (Both true true w4 w0.heap.size c1 D1 K1 c2 D2 K2 (2 * 0)) := Lib.hid ((HBO1.out D2 K2).add hc2 HBX.out.size HP3.out.1 HP3.out.2.1 HP3.out.2.2 HP4.out.1 HP4.out.2.1 HP4.out.2.2)
  have HSB := Lib.hid (HBX.out.trans ((HP3.out.2.2.trans (HP4.out.2.2.mono HP3.out.2.2.size)).mono HBX.out.size))
  clear q0 q1
  go_upto_region 7 with (go_at_call 30; refine (num_any _ _ (by omega) (by omega)).mono ?_; rintro _ _ ⟨rfl, rfl⟩)
  go_wp2_with fail
  go_loopw [4, 13] (fun _ i wr => ∃ k : Nat, k ≤ max n n2 ∧ i = .int .i64 (k : Int) ∧ Hid (Both true true wr w0.heap.size c1 D1 K1 c2 D2 K2 (2 * k)) ∧ Hid (Below w0.heap.size w0 wr)) (fun _ i _ => max n n2 - (intOf i).toNat)
  case atStart => exact ⟨0, by omega, rfl, HST, HSB⟩
  case round =>
    clear HST HSB
    obtain ⟨k, hk, rfl, HT, HB⟩ := hrel
    have r2 : wr.cell? ⟨w.heap.size, 2, none⟩ = some (.slice A n cap) := (HR.out.over HB.out).cell 2
    have q2 : wr.cell? ⟨w.heap.size + 1, 2, none⟩ = some (.slice A2 n2 cap2) := (HR2.out.over HB.out).cell 2
    have hsr := HB.out.size
    have hMB : (1048576 : Nat) ≤ 17592186044416 := by decide
    have hMS : (1048576 : Nat) ≤ 1099511627776 := by decide
    by_cases l1 : k < n
    · by_cases l2 : k < n2
      · as_aux_lemma =>
          have I1 : (k : Int) < (n : Int) := by omega
          have I2 : (k : Int) < (n2 : Int) := by omega
          obtain ⟨b, off, rfl, hbl, hops⟩ := (HOP.out.below (HB.out.mono hs0)) (by omega)
          obtain ⟨kd, p, q, nn, BA, bc, bs, SA, sc, sides, hop⟩ := hops k l1
          have o0 := hop.c0
          have o1 := hop.c1
          have o2 := hop.c2
          have o3 := hop.c3
          have o4 := hop.c4
          have o5 := hop.c5
          have HPL := Lib.hid (step_1 hc1 HT.out (by omega) hs0 hsr hop hMB hMS)
          clear hop hops
          go_upto_region 12 with (go_at_call 31; refine HPL.out.mono ?_; rintro _ w5 ⟨rfl, hd, hb3⟩; have HX := Lib.hid hd; have HY := Lib.hid (HB.out.trans hb3); clear hd hb3)
          clear o0 o1 o2 o3 o4 o5 r2 q2
          have q2 : w5.cell? ⟨w.heap.size + 1, 2, none⟩ = some (.slice A2 n2 cap2) := (HR2.out.over HY.out).cell 2
          have hsx := HY.out.size
          obtain ⟨b2, off2, rfl, hbl2, hops2⟩ := (HOP2.out.below (HY.out.mono hs0)) (by omega)
          obtain ⟨kd2, p2, qq2, nn2, BA2, bc2, bs2, SA2, sc2, sides2, hop2⟩ := hops2 k l2
          have o0 := hop2.c0
          have o1 := hop2.c1
          have o2 := hop2.c2
          have o3 := hop2.c3
          have o4 := hop2.c4
          have o5 := hop2.c5
          have HPL2 := Lib.hid (step_2 hc2 HX.out (by omega) hs0 hsx hop2 hMB hMS)
          clear hop2 hops2 hMB hMS
          go_wp2_with (go_at_call 31; refine HPL2.out.mono ?_; rintro _ w6 ⟨rfl, hd, hb3⟩; have HX6 := Lib.hid hd; have HY6 := Lib.hid (HY.out.trans hb3); clear hd hb3)
          clear o0 o1 o2 o3 o4 o5 q2
          have HNX : Hid (Both true true w6 w0.heap.size c1 D1 K1 c2 D2 K2 (2 * (k + 1))) := HX6
          go_roundw
          case rel => first | exact ⟨k + 1, by omega, by go_num, HNX, HY6⟩ | ((repeat apply Exists.intro); exact ⟨⟨k + 1, by omega, by go_num, HNX, HY6⟩, rfl⟩)
          case measure => simp [intOf] <;> omega
      · as_aux_lemma =>
          have I1 : (k : Int) < (n : Int) := by omega
          have I2 : ¬ (k : Int) < (n2 : Int) := by omega
          obtain ⟨b, off, rfl, hbl, hops⟩ := (HOP.out.below (HB.out.mono hs0)) (by omega)
          obtain ⟨kd, p, q, nn, BA, bc, bs, SA, sc, sides, hop⟩ := hops k l1
          have o0 := hop.c0
          have o1 := hop.c1
          have o2 := hop.c2
          have o3 := hop.c3
          have o4 := hop.c4
          have o5 := hop.c5
          have HPL := Lib.hid (step_1 hc1 HT.out (by omega) hs0 hsr hop hMB hMS)
          clear hop hops
          go_upto_region 12 with (go_at_call 31; refine HPL.out.mono ?_; rintro _ w5 ⟨rfl, hd, hb3⟩; have HX := Lib.hid hd; have HY := Lib.hid (HB.out.trans hb3); clear hd hb3)
          clear o0 o1 o2 o3 o4 o5 r2 q2
          have q2 : w5.cell? ⟨w.heap.size + 1, 2, none⟩ = some (.slice A2 n2 cap2) := (HR2.out.over HY.out).cell 2
          have hsx := HY.out.size
          clear hMB hMS
          go_wp2_with fail
          clear q2
          have HNX : Hid (Both true true w5 w0.heap.size c1 D1 K1 c2 D2 K2 (2 * (k + 1))) := Lib.hid HX.out.more
          go_roundw
          case rel => first | exact ⟨k + 1, by omega, by go_num, HNX, HY⟩ | ((repeat apply Exists.intro); exact ⟨⟨k + 1, by omega, by go_num, HNX, HY⟩, rfl⟩)
          case measure => simp [intOf] <;> omega
    · by_cases l2 : k < n2
      · as_aux_lemma =>
          have I1 : ¬ (k : Int) < (n : Int) := by omega
          have I2 : (k : Int) < (n2 : Int) := by omega
          go_upto_region 12 with fail
          obtain ⟨w5, hw5⟩ : ∃ w5, w5 = wr := ⟨_, rfl⟩
          have HX : Hid (Both true true w5 w0.heap.size c1 D1 K1 c2 D2 K2 (2 * k + 1)) := Lib.hid (hw5 ▸ HT.out.more)
          have HY : Hid (Below w0.heap.size w0 w5) := Lib.hid (hw5 ▸ HB.out)
          rw [← hw5]
          clear hw5 r2 q2
          have q2 : w5.cell? ⟨w.heap.size + 1, 2, none⟩ = some (.slice A2 n2 cap2) := (HR2.out.over HY.out).cell 2
          have hsx := HY.out.size
          obtain ⟨b2, off2, rfl, hbl2, hops2⟩ := (HOP2.out.below (HY.out.mono hs0)) (by omega)
          obtain ⟨kd2, p2, qq2, nn2, BA2, bc2, bs2, SA2, sc2, sides2, hop2⟩ := hops2 k l2
          have o0 := hop2.c0
          have o1 := hop2.c1
          have o2 := hop2.c2
          have o3 := hop2.c3
          have o4 := hop2.c4
          have o5 := hop2.c5
          have HPL2 := Lib.hid (step_2 hc2 HX.out (by omega) hs0 hsx hop2 hMB hMS)
          clear hop2 hops2 hMB hMS
          go_wp2_with (go_at_call 31; refine HPL2.out.mono ?_; rintro _ w6 ⟨rfl, hd, hb3⟩; have HX6 := Lib.hid hd; have HY6 := Lib.hid (HY.out.trans hb3); clear hd hb3)
          clear o0 o1 o2 o3 o4 o5 q2
          have HNX : Hid (Both true true w6 w0.heap.size c1 D1 K1 c2 D2 K2 (2 * (k + 1))) := HX6
          go_roundw
          case rel => first | exact ⟨k + 1, by omega, by go_num, HNX, HY6⟩ | ((repeat apply Exists.intro); exact ⟨⟨k + 1, by omega, by go_num, HNX, HY6⟩, rfl⟩)
          case measure => simp [intOf] <;> omega
      · as_aux_lemma =>
          have I1 : ¬ (k : Int) < (n : Int) := by omega
          have I2 : ¬ (k : Int) < (n2 : Int) := by omega
          clear hMB hMS
          go_wp2
          go_ret
          exact ⟨rfl, HB0.out.trans (HB.out.mono hs0)⟩
set_option maxRecDepth 100000 in
set_option maxHeartbeats 6400000 in
theorem Tn_yn {w : World} {c1 : ECfg} (hc1 : c1.Ok) (y0 y1 : Int) (hno2 : ¬ NetOk y0 y1) (A A2 : Option Addr) (n cap n2 cap2 : Nat) (hn : n ≤ 1048576) (hcap : n ≤ cap) (hcm : cap * 80 ≤ 140737488351232) (hn2 : n2 ≤ 1048576) (hcap2 : n2 ≤ cap2) (hcm2 : cap2 * 80 ≤ 140737488351232) (HO : Hid (EOps w w.heap.size 1048576 1048576 A n)) (HO2 : Hid (EOps w w.heap.size 1048576 1048576 A2 n2)) :
    Calls Try.prog 13 #[.agg #[.int .i64 (c1.n : Int), .int .i64 (c1.room : Int), .slice A n cap], .agg #[.int .i64 y0, .int .i64 y1, .slice A2 n2 cap2]] w (WalkOk w) := by
  obtain ⟨c2, hc2⟩ : ∃ c2 : ECfg, c2 = ⟨0, 0⟩ := ⟨_, rfl⟩
  clear hc2
  have hba := one_box' w (.cells #[.int .i64 (c1.n : Int), .int .i64 (c1.room : Int), .slice A n cap] 24)
  have hRa := Blk.new w 24 #[.int .i64 (c1.n : Int), .int .i64 (c1.room : Int), .slice A n cap]
  obtain ⟨wa, hwa⟩ : ∃ wa, wa = w.alloc (.cells #[.int .i64 (c1.n : Int), .int .i64 (c1.room : Int), .slice A n cap] 24) := ⟨_, rfl⟩
  rw [← hwa] at hba hRa
  have hbb := one_box' wa (.cells #[.int .i64 y0, .int .i64 y1, .slice A2 n2 cap2] 24)
  have hRb := Blk.new wa 24 #[.int .i64 y0, .int .i64 y1, .slice A2 n2 cap2]
  have hsa : wa.heap.size = w.heap.size + 1 := by rw [hwa]; simp
  obtain ⟨w0, hw0⟩ : ∃ w0, w0 = wa.alloc (.cells #[.int .i64 y0, .int .i64 y1, .slice A2 n2 cap2] 24) := ⟨_, rfl⟩
  rw [← hw0] at hbb hRb
  rw [hsa] at hRb
  have HWA := Lib.hid hwa
  have HW := Lib.hid hw0
  have hb0 := hba.trans (hbb.mono hba.size)
  have hs0 := hb0.size
  have HOP : Hid (EOps w0 w.heap.size 1048576 1048576 A n) := HO.out.below hb0
  have HOP2 : Hid (EOps w0 w.heap.size 1048576 1048576 A2 n2) := HO2.out.below hb0
  have HR := Lib.hid (hRa.over hbb)
  have HR2 := Lib.hid hRb
  have HB0 := Lib.hid hb0
  have r0 : w0.cell? ⟨w.heap.size, 0, none⟩ = some (.int .i64 (c1.n : Int)) := HR.out.cell 0
  have r1 : w0.cell? ⟨w.heap.size, 1, none⟩ = some (.int .i64 (c1.room : Int)) := HR.out.cell 1
  have q0 : w0.cell? ⟨w.heap.size + 1, 0, none⟩ = some (.int .i64 y0) := HR2.out.cell 0
  have q1 : w0.cell? ⟨w.heap.size + 1, 1, none⟩ = some (.int .i64 y1) := HR2.out.cell 1
  clear hwa hw0 hba hbb hRa hRb hb0 hsa
  go_enter Try.func13, Try.ntmps13
  go_upto_region 1 with fail
  rw [← HWA.out, ← HW.out]
  have HNEW1 := Lib.hid (New_yes (w := w0) hc1)
  go_upto_region 2 with (go_at_call 15; refine HNEW1.out.mono ?_; rintro _ w1 ⟨D1, F1, rfl, hp, hF, hb1⟩; have HP1 := Lib.hid (And.intro hp (And.intro hF hb1)); clear hp hF hb1)
  have hR1 := HR.out.over HP1.out.2.2
  clear r0 r1
  have r0 : w1.cell? ⟨w.heap.size, 0, none⟩ = some (.int .i64 (c1.n : Int)) := hR1.cell 0
  have r1 : w1.cell? ⟨w.heap.size, 1, none⟩ = some (.int .i64 (c1.room : Int)) := hR1.cell 1
  have HRN1 := Lib.hid (RNew_yes (w := w1) c1 hc1)
  clear hR1
  go_upto_region 3 with (go_at_call 29; refine HRN1.out.mono ?_; rintro _ w2 ⟨K1, E1, rfl, hp, hF, hb2⟩; have HP2 := Lib.hid (And.intro hp (And.intro hF hb2)); clear hp hF hb2)
  have HBX := Lib.hid (HP1.out.2.2.trans (HP2.out.2.2.mono HP1.out.2.2.size))
  have HBO1 : Hid (∀ D2 K2, Both true false w2 w0.heap.size c1 D1 K1 c2 D2 K2 0) := Lib.hid fun D2 K2 => ((Both.none_ w0 w0.heap.size c2 D2 K2 c1 D1 K1).add hc1 (Nat.le_refl _) HP1.out.1 HP1.out.2.1 HP1.out.2.2 HP2.out.1 HP2.out.2.1 HP2.out.2.2).swap
  clear r0 r1 q0 q1
  have q0 : w2.cell? ⟨w.heap.size + 1, 0, none⟩ = some (.int .i64 y0) := (HR2.out.over HBX.out).cell 0
  have q1 : w2.cell? ⟨w.heap.size + 1, 1, none⟩ = some (.int .i64 y1) := (HR2.out.over HBX.out).cell 1
  obtain ⟨D2, hD2⟩ : ∃ D2 : Nat, D2 = 0 := ⟨_, rfl⟩
  obtain ⟨K2, hK2⟩ : ∃ K2 : Nat, K2 = 0 := ⟨_, rfl⟩
  clear hD2 hK2
  have HN2 := Lib.hid (New_no (w := w2) y0 y1 hno2)
  have HRN2 := Lib.hid (RNew_no (w := w2) y0 y1 hno2)
  go_upto_region 5 with (first
    | (go_at_call 15; refine HN2.out.mono ?_; rintro _ _ ⟨rfl, rfl⟩)
    | (go_at_call 29; refine HRN2.out.mono ?_; rintro _ _ ⟨rfl, rfl⟩))
  have HST : Hid (Both true false w2 w0.heap.size c1 D1 K1 c2 D2 K2 (2 * 0)) := Lib.hid (HBO1.out D2 K2)
  have HSB := HBX
  clear q0 q1
  go_upto_region 7 with (go_at_call 30; refine (num_any _ _ (by omega) (by omega)).mono ?_; rintro _ _ ⟨rfl, rfl⟩)
  go_wp2_with fail
  go_loopw [4, 13] (fun _ i wr => ∃ k : Nat, k ≤ max n n2 ∧ i = .int .i64 (k : Int) ∧ Hid (Both true false wr w0.heap.size c1 D1 K1 c2 D2 K2 (2 * k)) ∧ Hid (Below w0.heap.size w0 wr)) (fun _ i _ => max n n2 - (intOf i).toNat)
  case atStart => exact ⟨0, by omega, rfl, HST, HSB⟩
  case round =>
    clear HST HSB
    obtain ⟨k, hk, rfl, HT, HB⟩ := hrel
    have r2 : wr.cell? ⟨w.heap.size, 2, none⟩ = some (.slice A n cap) := (HR.out.over HB.out).cell 2
    have q2 : wr.cell? ⟨w.heap.size + 1, 2, none⟩ = some (.slice A2 n2 cap2) := (HR2.out.over HB.out).cell 2
    have hsr := HB.out.size
    have hMB : (1048576 : Nat) ≤ 17592186044416 := by decide
    have hMS : (1048576 : Nat) ≤ 1099511627776 := by decide
    by_cases l1 : k < n
    · by_cases l2 : k < n2
      · as_aux_lemma =>
          have I1 : (k : Int) < (n : Int) := by omega
          have I2 : (k : Int) < (n2 : Int) := by omega
          obtain ⟨b, off, rfl, hbl, hops⟩ := (HOP.out.below (HB.out.mono hs0)) (by omega)
          obtain ⟨kd, p, q, nn, BA, bc, bs, SA, sc, sides, hop⟩ := hops k l1
          have o0 := hop.c0
          have o1 := hop.c1
          have o2 := hop.c2
          have o3 := hop.c3
          have o4 := hop.c4
          have o5 := hop.c5
          have HPL := Lib.hid (step_1 hc1 HT.out (by omega) hs0 hsr hop hMB hMS)
          clear hop hops
          go_upto_region 12 with (go_at_call 31; refine HPL.out.mono ?_; rintro _ w5 ⟨rfl, hd, hb3⟩; have HX := Lib.hid hd; have HY := Lib.hid (HB.out.trans hb3); clear hd hb3)
          clear o0 o1 o2 o3 o4 o5 r2 q2
          have q2 : w5.cell? ⟨w.heap.size + 1, 2, none⟩ = some (.slice A2 n2 cap2) := (HR2.out.over HY.out).cell 2
          have hsx := HY.out.size
          clear hMB hMS
          go_wp2_with fail
          clear q2
          have HNX : Hid (Both true false w5 w0.heap.size c1 D1 K1 c2 D2 K2 (2 * (k + 1))) := Lib.hid HX.out.more
          go_roundw
          case rel => first | exact ⟨k + 1, by omega, by go_num, HNX, HY⟩ | ((repeat apply Exists.intro); exact ⟨⟨k + 1, by omega, by go_num, HNX, HY⟩, rfl⟩)
          case measure => simp [intOf] <;> omega
      · as_aux_lemma =>
          have I1 : (k : Int) < (n : Int) := by omega
          have I2 : ¬ (k : Int) < (n2 : Int) := by omega
          obtain ⟨b, off, rfl, hbl, hops⟩ := (HOP.out.below (HB.out.mono hs0)) (by omega)
          obtain ⟨kd, p, q, nn, BA, bc, bs, SA, sc, sides, hop⟩ := hops k l1
          have o0 := hop.c0
          have o1 := hop.c1
          have o2 := hop.c2
          have o3 := hop.c3
          have o4 := hop.c4
          have o5 := hop.c5
          have HPL := Lib.hid (step_1 hc1 HT.out (by omega) hs0 hsr hop hMB hMS)
          clear hop hops
          go_upto_region 12 with (go_at_call 31; refine HPL.out.mono ?_; rintro _ w5 ⟨rfl, hd, hb3⟩; have HX := Lib.hid hd; have HY := Lib.hid (HB.out.trans hb3); clear hd hb3)
          clear o0 o1 o2 o3 o4 o5 r2 q2
          have q2 : w5.cell? ⟨w.heap.size + 1, 2, none⟩ = some (.slice A2 n2 cap2) := (HR2.out.over HY.out).cell 2
          have hsx := HY.out.size
          clear hMB hMS
          go_wp2_with fail
          clear q2
          have HNX : Hid (Both true false w5 w0.heap.size c1 D1 K1 c2 D2 K2 (2 * (k + 1))) := Lib.hid HX.out.more
          go_roundw
          case rel => first | exact ⟨k + 1, by omega, by go_num, HNX, HY⟩ | ((repeat apply Exists.intro); exact ⟨⟨k + 1, by omega, by go_num, HNX, HY⟩, rfl⟩)
          case measure => simp [intOf] <;> omega
    · by_cases l2 : k < n2
      · as_aux_lemma =>
          have I1 : ¬ (k : Int) < (n : Int) := by omega
          have I2 : (k : Int) < (n2 : Int) := by omega
          go_upto_region 12 with fail
          obtain ⟨w5, hw5⟩ : ∃ w5, w5 = wr := ⟨_, rfl⟩
          have HX : Hid (Both true false w5 w0.heap.size c1 D1 K1 c2 D2 K2 (2 * k + 1)) := Lib.hid (hw5 ▸ HT.out.more)
          have HY : Hid (Below w0.heap.size w0 w5) := Lib.hid (hw5 ▸ HB.out)
          rw [← hw5]
          clear hw5 r2 q2
          have q2 : w5.cell? ⟨w.heap.size + 1, 2, none⟩ = some (.slice A2 n2 cap2) := (HR2.out.over HY.out).cell 2
          have hsx := HY.out.size
          clear hMB hMS
          go_wp2_with fail
          clear q2
          have HNX : Hid (Both true false w5 w0.heap.size c1 D1 K1 c2 D2 K2 (2 * (k + 1))) := Lib.hid HX.out.more
          go_roundw
          case rel => first | exact ⟨k + 1, by omega, by go_num, HNX, HY⟩ | ((repeat apply Exists.intro); exact ⟨⟨k + 1, by omega, by go_num, HNX, HY⟩, rfl⟩)
          case measure => simp [intOf] <;> omega
      · as_aux_lemma =>
          have I1 : ¬ (k : Int) < (n : Int) := by omega
          have I2 : ¬ (k : Int) < (n2 : Int) := by omega
          clear hMB hMS
          go_wp2
          go_ret
          exact ⟨rfl, HB0.out.trans (HB.out.mono hs0)⟩
set_option maxRecDepth 100000 in
set_option maxHeartbeats 6400000 in
theorem Tn_ny {w : World} (x0 x1 : Int) (hno1 : ¬ NetOk x0 x1) {c2 : ECfg} (hc2 : c2.Ok) (A A2 : Option Addr) (n cap n2 cap2 : Nat) (hn : n ≤ 1048576) (hcap : n ≤ cap) (hcm : cap * 80 ≤ 140737488351232) (hn2 : n2 ≤ 1048576) (hcap2 : n2 ≤ cap2) (hcm2 : cap2 * 80 ≤ 140737488351232) (HO : Hid (EOps w w.heap.size 1048576 1048576 A n)) (HO2 : Hid (EOps w w.heap.size 1048576 1048576 A2 n2)) :
    Calls Try.prog 13 #[.agg #[.int .i64 x0, .int .i64 x1, .slice A n cap], .agg #[.int .i64 (c2.n : Int), .int .i64 (c2.room : Int), .slice A2 n2 cap2]] w (WalkOk w) := by
  obtain ⟨c1, hc1⟩ : ∃ c1 : ECfg, c1 = ⟨0, 0⟩ := ⟨_, rfl⟩
  clear hc1
  have hba := one_box' w (.cells #[.int .i64 x0, .int .i64 x1, .slice A n cap] 24)
  have hRa := Blk.new w 24 #[.int .i64 x0, .int .i64 x1, .slice A n cap]
  obtain ⟨wa, hwa⟩ : ∃ wa, wa = w.alloc (.cells #[.int .i64 x0, .int .i64 x1, .slice A n cap] 24) := ⟨_, rfl⟩
  rw [← hwa] at hba hRa
  have hbb := one_box' wa (.cells #[.int .i64 (c2.n : Int), .int .i64 (c2.room : Int), .slice A2 n2 cap2] 24)
  have hRb := Blk.new wa 24 #[.int .i64 (c2.n : Int), .int .i64 (c2.room : Int), .slice A2 n2 cap2]
  have hsa : wa.heap.size = w.heap.size + 1 := by rw [hwa]; simp
  obtain ⟨w0, hw0⟩ : ∃ w0, w0 = wa.alloc (.cells #[.int .i64 (c2.n : Int), .int .i64 (c2.room : Int), .slice A2 n2 cap2] 24) := ⟨_, rfl⟩
  rw [← hw0] at hbb hRb
  rw [hsa] at hRb
  have HWA := Lib.hid hwa
  have HW := Lib.hid hw0
  have hb0 := hba.trans (hbb.mono hba.size)
  have hs0 := hb0.size
  have HOP : Hid (EOps w0 w.heap.size 1048576 1048576 A n) := HO.out.below hb0
  have HOP2 : Hid (EOps w0 w.heap.size 1048576 1048576 A2 n2) := HO2.out.below hb0
  have HR := Lib.hid (hRa.over hbb)
  have HR2 := Lib.hid hRb
  have HB0 := Lib.hid hb0
  have r0 : w0.cell? ⟨w.heap.size, 0, none⟩ = some (.int .i64 x0) := HR.out.cell 0
  have r1 : w0.cell? ⟨w.heap.size, 1, none⟩ = some (.int .i64 x1) := HR.out.cell 1
  have q0 : w0.cell? ⟨w.heap.size + 1, 0, none⟩ = some (.int .i64 (c2.n : Int)) := HR2.out.cell 0
  have q1 : w0.cell? ⟨w.heap.size + 1, 1, none⟩ = some (.int .i64 (c2.room : Int)) := HR2.out.cell 1
  clear hwa hw0 hba hbb hRa hRb hb0 hsa
  go_enter Try.func13, Try.ntmps13
  go_upto_region 1 with fail
  rw [← HWA.out, ← HW.out]
  obtain ⟨D1, hD1⟩ : ∃ D1 : Nat, D1 = 0 := ⟨_, rfl⟩
  obtain ⟨K1, hK1⟩ : ∃ K1 : Nat, K1 = 0 := ⟨_, rfl⟩
  clear hD1 hK1
  have HN1 := Lib.hid (New_no (w := w0) x0 x1 hno1)
  have HRN1 := Lib.hid (RNew_no (w := w0) x0 x1 hno1)
  go_upto_region 3 with (first
    | (go_at_call 15; refine HN1.out.mono ?_; rintro _ _ ⟨rfl, rfl⟩)
    | (go_at_call 29; refine HRN1.out.mono ?_; rintro _ _ ⟨rfl, rfl⟩))
  obtain ⟨w2, hw2⟩ : ∃ w2, w2 = w0 := ⟨_, rfl⟩
  have HBX : Hid (Below w0.heap.size w0 w2) := Lib.hid (hw2 ▸ Below.refl _ _)
  have HBO1 : Hid (∀ D2 K2, Both false false w2 w0.heap.size c1 D1 K1 c2 D2 K2 0) := Lib.hid fun D2 K2 => Both.none_ _ _ _ _ _ _ _ _
  rw [← hw2]
  clear r0 r1 q0 q1 hw2
  have q0 : w2.cell? ⟨w.heap.size + 1, 0, none⟩ = some (.int .i64 (c2.n : Int)) := (HR2.out.over HBX.out).cell 0
  have q1 : w2.cell? ⟨w.heap.size + 1, 1, none⟩ = some (.int .i64 (c2.room : Int)) := (HR2.out.over HBX.out).cell 1
  have HNEW2 := Lib.hid (New_yes (w := w2) hc2)
  go_upto_region 4 with (go_at_call 15; refine HNEW2.out.mono ?_; rintro _ w3 ⟨D2, F2, rfl, hp, hF, hb1⟩; have HP3 := Lib.hid (And.intro hp (And.intro hF hb1)); clear hp hF hb1)
  have hR3 := (HR2.out.over HBX.out).over HP3.out.2.2
  clear q0 q1
  have q0 : w3.cell? ⟨w.heap.size + 1, 0, none⟩ = some (.int .i64 (c2.n : Int)) := hR3.cell 0
  have q1 : w3.cell? ⟨w.heap.size + 1, 1, none⟩ = some (.int .i64 (c2.room : Int)) := hR3.cell 1
  have HRN2 := Lib.hid (RNew_yes (w := w3) c2 hc2)
  clear hR3
  go_upto_region 5 with (go_at_call 29; refine HRN2.out.mono ?_; rintro _ w4 ⟨K2, E2, rfl, hp, hF, hb2⟩; have HP4 := Lib.hid (And.intro hp (And.intro hF hb2)); clear hp hF hb2)
  have HST : Hid (Both false true w4 w0.heap.size c1 D1 K1 c2 D2 K2 (2 * 0)) := Lib.hid ((HBO1.out D2 K2).add hc2 HBX.out.size HP3.out.1 HP3.out.2.1 HP3.out.2.2 HP4.out.1 HP4.out.2.1 HP4.out.2.2)
  have HSB := Lib.hid (HBX.out.trans ((HP3.out.2.2.trans (HP4.out.2.2.mono HP3.out.2.2.size)).mono HBX.out.size))
  clear q0 q1
  go_upto_region 7 with (go_at_call 30; refine (num_any _ _ (by omega) (by omega)).mono ?_; rintro _ _ ⟨rfl, rfl⟩)
  go_wp2_with fail
  go_loopw [4, 13] (fun _ i wr => ∃ k : Nat, k ≤ max n n2 ∧ i = .int .i64 (k : Int) ∧ Hid (Both false true wr w0.heap.size c1 D1 K1 c2 D2 K2 (2 * k)) ∧ Hid (Below w0.heap.size w0 wr)) (fun _ i _ => max n n2 - (intOf i).toNat)
  case atStart => exact ⟨0, by omega, rfl, HST, HSB⟩
  case round =>
    clear HST HSB
    obtain ⟨k, hk, rfl, HT, HB⟩ := hrel
    have r2 : wr.cell? ⟨w.heap.size, 2, none⟩ = some (.slice A n cap) := (HR.out.over HB.out).cell 2
    have q2 : wr.cell? ⟨w.heap.size + 1, 2, none⟩ = some (.slice A2 n2 cap2) := (HR2.out.over HB.out).cell 2
    have hsr := HB.out.size
    have hMB : (1048576 : Nat) ≤ 17592186044416 := by decide
    have hMS : (1048576 : Nat) ≤ 1099511627776 := by decide
    by_cases l1 : k < n
    · by_cases l2 : k < n2
      · as_aux_lemma =>
          have I1 : (k : Int) < (n : Int) := by omega
          have I2 : (k : Int) < (n2 : Int) := by omega
          go_upto_region 12 with fail
          obtain ⟨w5, hw5⟩ : ∃ w5, w5 = wr := ⟨_, rfl⟩
          have HX : Hid (Both false true w5 w0.heap.size c1 D1 K1 c2 D2 K2 (2 * k + 1)) := Lib.hid (hw5 ▸ HT.out.more)
          have HY : Hid (Below w0.heap.size w0 w5) := Lib.hid (hw5 ▸ HB.out)
          rw [← hw5]
          clear hw5 r2 q2
          have q2 : w5.cell? ⟨w.heap.size + 1, 2, none⟩ = some (.slice A2 n2 cap2) := (HR2.out.over HY.out).cell 2
          have hsx := HY.out.size
          obtain ⟨b2, off2, rfl, hbl2, hops2⟩ := (HOP2.out.below (HY.out.mono hs0)) (by omega)
          obtain ⟨kd2, p2, qq2, nn2, BA2, bc2, bs2, SA2, sc2, sides2, hop2⟩ := hops2 k l2
          have o0 := hop2.c0
          have o1 := hop2.c1
          have o2 := hop2.c2
          have o3 := hop2.c3
          have o4 := hop2.c4
          have o5 := hop2.c5
          have HPL2 := Lib.hid (step_2 hc2 HX.out (by omega) hs0 hsx hop2 hMB hMS)
          clear hop2 hops2 hMB hMS
          go_wp2_with (go_at_call 31; refine HPL2.out.mono ?_; rintro _ w6 ⟨rfl, hd, hb3⟩; have HX6 := Lib.hid hd; have HY6 := Lib.hid (HY.out.trans hb3); clear hd hb3)
          clear o0 o1 o2 o3 o4 o5 q2
          have HNX : Hid (Both false true w6 w0.heap.size c1 D1 K1 c2 D2 K2 (2 * (k + 1))) := HX6
          go_roundw
          case rel => first | exact ⟨k + 1, by omega, by go_num, HNX, HY6⟩ | ((repeat apply Exists.intro); exact ⟨⟨k + 1, by omega, by go_num, HNX, HY6⟩, rfl⟩)
          case measure => simp [intOf] <;> omega
      · as_aux_lemma =>
          have I1 : (k : Int) < (n : Int) := by omega
          have I2 : ¬ (k : Int) < (n2 : Int) := by omega
          go_upto_region 12 with fail
          obtain ⟨w5, hw5⟩ : ∃ w5, w5 = wr := ⟨_, rfl⟩
          have HX : Hid (Both false true w5 w0.heap.size c1 D1 K1 c2 D2 K2 (2 * k + 1)) := Lib.hid (hw5 ▸ HT.out.more)
          have HY : Hid (Below w0.heap.size w0 w5) := Lib.hid (hw5 ▸ HB.out)
          rw [← hw5]
          clear hw5 r2 q2
          have q2 : w5.cell? ⟨w.heap.size + 1, 2, none⟩ = some (.slice A2 n2 cap2) := (HR2.out.over HY.out).cell 2
          have hsx := HY.out.size
          clear hMB hMS
          go_wp2_with fail
          clear q2
          have HNX : Hid (Both false true w5 w0.heap.size c1 D1 K1 c2 D2 K2 (2 * (k + 1))) := Lib.hid HX.out.more
          go_roundw
          case rel => first | exact ⟨k + 1, by omega, by go_num, HNX, HY⟩ | ((repeat apply Exists.intro); exact ⟨⟨k + 1, by omega, by go_num, HNX, HY⟩, rfl⟩)
          case measure => simp [intOf] <;> omega
    · by_cases l2 : k < n2
      · as_aux_lemma =>
          have I1 : ¬ (k : Int) < (n : Int) := by omega
          have I2 : (k : Int) < (n2 : Int) := by omega
          go_upto_region 12 with fail
          obtain ⟨w5, hw5⟩ : ∃ w5, w5 = wr := ⟨_, rfl⟩
          have HX : Hid (Both false true w5 w0.heap.size c1 D1 K1 c2 D2 K2 (2 * k + 1)) := Lib.hid (hw5 ▸ HT.out.more)
          have HY : Hid (Below w0.heap.size w0 w5) := Lib.hid (hw5 ▸ HB.out)
          rw [← hw5]
          clear hw5 r2 q2
          have q2 : w5.cell? ⟨w.heap.size + 1, 2, none⟩ = some (.slice A2 n2 cap2) := (HR2.out.over HY.out).cell 2
          have hsx := HY.out.size
          obtain ⟨b2, off2, rfl, hbl2, hops2⟩ := (HOP2.out.below (HY.out.mono hs0)) (by omega)
          obtain ⟨kd2, p2, qq2, nn2, BA2, bc2, bs2, SA2, sc2, sides2, hop2⟩ := hops2 k l2
          have o0 := hop2.c0
          have o1 := hop2.c1
          have o2 := hop2.c2
          have o3 := hop2.c3
          have o4 := hop2.c4
          have o5 := hop2.c5
          have HPL2 := Lib.hid (step_2 hc2 HX.out (by omega) hs0 hsx hop2 hMB hMS)
          clear hop2 hops2 hMB hMS
          go_wp2_with (go_at_call 31; refine HPL2.out.mono ?_; rintro _ w6 ⟨rfl, hd, hb3⟩; have HX6 := Lib.hid hd; have HY6 := Lib.hid (HY.out.trans hb3); clear hd hb3)
          clear o0 o1 o2 o3 o4 o5 q2
          have HNX : Hid (Both false true w6 w0.heap.size c1 D1 K1 c2 D2 K2 (2 * (k + 1))) := HX6
          go_roundw
          case rel => first | exact ⟨k + 1, by omega, by go_num, HNX, HY6⟩ | ((repeat apply Exists.intro); exact ⟨⟨k + 1, by omega, by go_num, HNX, HY6⟩, rfl⟩)
          case measure => simp [intOf] <;> omega
      · as_aux_lemma =>
          have I1 : ¬ (k : Int) < (n : Int) := by omega
          have I2 : ¬ (k : Int) < (n2 : Int) := by omega
          clear hMB hMS
          go_wp2
          go_ret
          exact ⟨rfl, HB0.out.trans (HB.out.mono hs0)⟩
set_option maxRecDepth 100000 in
set_option maxHeartbeats 6400000 in
theorem Tn_nn {w : World} (x0 x1 : Int) (hno1 : ¬ NetOk x0 x1) (y0 y1 : Int) (hno2 : ¬ NetOk y0 y1) (A A2 : Option Addr) (n cap n2 cap2 : Nat) (hn : n ≤ 1048576) (hcap : n ≤ cap) (hcm : cap * 80 ≤ 140737488351232) (hn2 : n2 ≤ 1048576) (hcap2 : n2 ≤ cap2) (hcm2 : cap2 * 80 ≤ 140737488351232) (HO : Hid (EOps w w.heap.size 1048576 1048576 A n)) (HO2 : Hid (EOps w w.heap.size 1048576 1048576 A2 n2)) :
    Calls Try.prog 13 #[.agg #[.int .i64 x0, .int .i64 x1, .slice A n cap], .agg #[.int .i64 y0, .int .i64 y1, .slice A2 n2 cap2]] w (WalkOk w) := by
  obtain ⟨c1, hc1⟩ : ∃ c1 : ECfg, c1 = ⟨0, 0⟩ := ⟨_, rfl⟩
  clear hc1
  obtain ⟨c2, hc2⟩ : ∃ c2 : ECfg, c2 = ⟨0, 0⟩ := ⟨_, rfl⟩
  clear hc2
  have hba := one_box' w (.cells #[.int .i64 x0, .int .i64 x1, .slice A n cap] 24)
  have hRa := Blk.new w 24 #[.int .i64 x0, .int .i64 x1, .slice A n cap]
  obtain ⟨wa, hwa⟩ : ∃ wa, wa = w.alloc (.cells #[.int .i64 x0, .int .i64 x1, .slice A n cap] 24) := ⟨_, rfl⟩
  rw [← hwa] at hba hRa
  have hbb := one_box' wa (.cells #[.int .i64 y0, .int .i64 y1, .slice A2 n2 cap2] 24)
  have hRb := Blk.new wa 24 #[.int .i64 y0, .int .i64 y1, .slice A2 n2 cap2]
  have hsa : wa.heap.size = w.heap.size + 1 := by rw [hwa]; simp
  obtain ⟨w0, hw0⟩ : ∃ w0, w0 = wa.alloc (.cells #[.int .i64 y0, .int .i64 y1, .slice A2 n2 cap2] 24) := ⟨_, rfl⟩
  rw [← hw0] at hbb hRb
  rw [hsa] at hRb
  have HWA := Lib.hid hwa
  have HW := Lib.hid hw0
  have hb0 := hba.trans (hbb.mono hba.size)
  have hs0 := hb0.size
  have HOP : Hid (EOps w0 w.heap.size 1048576 1048576 A n) := HO.out.below hb0
  have HOP2 : Hid (EOps w0 w.heap.size 1048576 1048576 A2 n2) := HO2.out.below hb0
  have HR := Lib.hid (hRa.over hbb)
  have HR2 := Lib.hid hRb
  have HB0 := Lib.hid hb0
  have r0 : w0.cell? ⟨w.heap.size, 0, none⟩ = some (.int .i64 x0) := HR.out.cell 0
  have r1 : w0.cell? ⟨w.heap.size, 1, none⟩ = some (.int .i64 x1) := HR.out.cell 1
  have q0 : w0.cell? ⟨w.heap.size + 1, 0, none⟩ = some (.int .i64 y0) := HR2.out.cell 0
  have q1 : w0.cell? ⟨w.heap.size + 1, 1, none⟩ = some (.int .i64 y1) := HR2.out.cell 1
  clear hwa hw0 hba hbb hRa hRb hb0 hsa
  go_enter Try.func13, Try.ntmps13
  go_upto_region 1 with fail
  rw [← HWA.out, ← HW.out]
  obtain ⟨D1, hD1⟩ : ∃ D1 : Nat, D1 = 0 := ⟨_, rfl⟩
  obtain ⟨K1, hK1⟩ : ∃ K1 : Nat, K1 = 0 := ⟨_, rfl⟩
  clear hD1 hK1
  have HN1 := Lib.hid (New_no (w := w0) x0 x1 hno1)
  have HRN1 := Lib.hid (RNew_no (w := w0) x0 x1 hno1)
  go_upto_region 3 with (first
    | (go_at_call 15; refine HN1.out.mono ?_; rintro _ _ ⟨rfl, rfl⟩)
    | (go_at_call 29; refine HRN1.out.mono ?_; rintro _ _ ⟨rfl, rfl⟩))
  obtain ⟨w2, hw2⟩ : ∃ w2, w2 = w0 := ⟨_, rfl⟩
  have HBX : Hid (Below w0.heap.size w0 w2) := Lib.hid (hw2 ▸ Below.refl _ _)
  have HBO1 : Hid (∀ D2 K2, Both false false w2 w0.heap.size c1 D1 K1 c2 D2 K2 0) := Lib.hid fun D2 K2 => Both.none_ _ _ _ _ _ _ _ _
  rw [← hw2]
  clear r0 r1 q0 q1 hw2
  have q0 : w2.cell? ⟨w.heap.size + 1, 0, none⟩ = some (.int .i64 y0) := (HR2.out.over HBX.out).cell 0
  have q1 : w2.cell? ⟨w.heap.size + 1, 1, none⟩ = some (.int .i64 y1) := (HR2.out.over HBX.out).cell 1
  obtain ⟨D2, hD2⟩ : ∃ D2 : Nat, D2 = 0 := ⟨_, rfl⟩
  obtain ⟨K2, hK2⟩ : ∃ K2 : Nat, K2 = 0 := ⟨_, rfl⟩
  clear hD2 hK2
  have HN2 := Lib.hid (New_no (w := w2) y0 y1 hno2)
  have HRN2 := Lib.hid (RNew_no (w := w2) y0 y1 hno2)
  go_upto_region 5 with (first
    | (go_at_call 15; refine HN2.out.mono ?_; rintro _ _ ⟨rfl, rfl⟩)
    | (go_at_call 29; refine HRN2.out.mono ?_; rintro _ _ ⟨rfl, rfl⟩))
  have HST : Hid (Both false false w2 w0.heap.size c1 D1 K1 c2 D2 K2 (2 * 0)) := Lib.hid (HBO1.out D2 K2)
  have HSB := HBX
  clear q0 q1
  go_upto_region 7 with (go_at_call 30; refine (num_any _ _ (by omega) (by omega)).mono ?_; rintro _ _ ⟨rfl, rfl⟩)
  go_wp2_with fail
  go_loopw [4, 13] (fun _ i wr => ∃ k : Nat, k ≤ max n n2 ∧ i = .int .i64 (k : Int) ∧ Hid (Both false false wr w0.heap.size c1 D1 K1 c2 D2 K2 (2 * k)) ∧ Hid (Below w0.heap.size w0 wr)) (fun _ i _ => max n n2 - (intOf i).toNat)
  case atStart => exact ⟨0, by omega, rfl, HST, HSB⟩
  case round =>
    clear HST HSB
    obtain ⟨k, hk, rfl, HT, HB⟩ := hrel
    have r2 : wr.cell? ⟨w.heap.size, 2, none⟩ = some (.slice A n cap) := (HR.out.over HB.out).cell 2
    have q2 : wr.cell? ⟨w.heap.size + 1, 2, none⟩ = some (.slice A2 n2 cap2) := (HR2.out.over HB.out).cell 2
    have hsr := HB.out.size
    have hMB : (1048576 : Nat) ≤ 17592186044416 := by decide
    have hMS : (1048576 : Nat) ≤ 1099511627776 := by decide
    by_cases l1 : k < n
    · by_cases l2 : k < n2
      · as_aux_lemma =>
          have I1 : (k : Int) < (n : Int) := by omega
          have I2 : (k : Int) < (n2 : Int) := by omega
          go_upto_region 12 with fail
          obtain ⟨w5, hw5⟩ : ∃ w5, w5 = wr := ⟨_, rfl⟩
          have HX : Hid (Both false false w5 w0.heap.size c1 D1 K1 c2 D2 K2 (2 * k + 1)) := Lib.hid (hw5 ▸ HT.out.more)
          have HY : Hid (Below w0.heap.size w0 w5) := Lib.hid (hw5 ▸ HB.out)
          rw [← hw5]
          clear hw5 r2 q2
          have q2 : w5.cell? ⟨w.heap.size + 1, 2, none⟩ = some (.slice A2 n2 cap2) := (HR2.out.over HY.out).cell 2
          have hsx := HY.out.size
          clear hMB hMS
          go_wp2_with fail
          clear q2
          have HNX : Hid (Both false false w5 w0.heap.size c1 D1 K1 c2 D2 K2 (2 * (k + 1))) := Lib.hid HX.out.more
          go_roundw
          case rel => first | exact ⟨k + 1, by omega, by go_num, HNX, HY⟩ | ((repeat apply Exists.intro); exact ⟨⟨k + 1, by omega, by go_num, HNX, HY⟩, rfl⟩)
          case measure => simp [intOf] <;> omega
      · as_aux_lemma =>
          have I1 : (k : Int) < (n : Int) := by omega
          have I2 : ¬ (k : Int) < (n2 : Int) := by omega
          go_upto_region 12 with fail
          obtain ⟨w5, hw5⟩ : ∃ w5, w5 = wr := ⟨_, rfl⟩
          have HX : Hid (Both false false w5 w0.heap.size c1 D1 K1 c2 D2 K2 (2 * k + 1)) := Lib.hid (hw5 ▸ HT.out.more)
          have HY : Hid (Below w0.heap.size w0 w5) := Lib.hid (hw5 ▸ HB.out)
          rw [← hw5]
          clear hw5 r2 q2
          have q2 : w5.cell? ⟨w.heap.size + 1, 2, none⟩ = some (.slice A2 n2 cap2) := (HR2.out.over HY.out).cell 2
          have hsx := HY.out.size
          clear hMB hMS
          go_wp2_with fail
          clear q2
          have HNX : Hid (Both false false w5 w0.heap.size c1 D1 K1 c2 D2 K2 (2 * (k + 1))) := Lib.hid HX.out.more
          go_roundw
          case rel => first | exact ⟨k + 1, by omega, by go_num, HNX, HY⟩ | ((repeat apply Exists.intro); exact ⟨⟨k + 1, by omega, by go_num, HNX, HY⟩, rfl⟩)
          case measure => simp [intOf] <;> omega
    · by_cases l2 : k < n2
      · as_aux_lemma =>
          have I1 : ¬ (k : Int) < (n : Int) := by omega
          have I2 : (k : Int) < (n2 : Int) := by omega
          go_upto_region 12 with fail
          obtain ⟨w5, hw5⟩ : ∃ w5, w5 = wr := ⟨_, rfl⟩
          have HX : Hid (Both false false w5 w0.heap.size c1 D1 K1 c2 D2 K2 (2 * k + 1)) := Lib.hid (hw5 ▸ HT.out.more)
          have HY : Hid (Below w0.heap.size w0 w5) := Lib.hid (hw5 ▸ HB.out)
          rw [← hw5]
          clear hw5 r2 q2
          have q2 : w5.cell? ⟨w.heap.size + 1, 2, none⟩ = some (.slice A2 n2 cap2) := (HR2.out.over HY.out).cell 2
          have hsx := HY.out.size
          clear hMB hMS
          go_wp2_with fail
          clear q2
          have HNX : Hid (Both false false w5 w0.heap.size c1 D1 K1 c2 D2 K2 (2 * (k + 1))) := Lib.hid HX.out.more
          go_roundw
          case rel => first | exact ⟨k + 1, by omega, by go_num, HNX, HY⟩ | ((repeat apply Exists.intro); exact ⟨⟨k + 1, by omega, by go_num, HNX, HY⟩, rfl⟩)
          case measure => simp [intOf] <;> omega
      · as_aux_lemma =>
          have I1 : ¬ (k : Int) < (n : Int) := by omega
          have I2 : ¬ (k : Int) < (n2 : Int) := by omega
          clear hMB hMS
          go_wp2
          go_ret
          exact ⟨rfl, HB0.out.trans (HB.out.mono hs0)⟩
theorem EtherTurns_walk {H : Type} {enc : TypeId × Value → H} (x0 x1 : Int) (A2 : Option Addr) (n2 k2 : Nat) (x2 : List (List Value)) (y0 y1 : Int) (A3 : Option Addr) (n3 k3 : Nat) (x3 : List (List Value)) (w : World) (_b0 : -9223372036854775808 ≤ x0) (_t0 : x0 ≤ 9223372036854775807) (_b1 : -9223372036854775808 ≤ x1) (_t1 : x1 ≤ 9223372036854775807) (u2 : n2 ≤ 1048576) (p2 : n2 ≤ k2) (q2 : k2 * 80 ≤ 140737488351232) (l2 : x2.length = n2) (r2 : Rd w w.heap.size 6 A2 n2 x2.flatten) (s2 : ∀ y ∈ x2, y.length = 6 ∧ ∃ d, FitU enc Try.prog w 33 y d) (_c0 : -9223372036854775808 ≤ y0) (_d0 : y0 ≤ 9223372036854775807) (_c1 : -9223372036854775808 ≤ y1) (_d1 : y1 ≤ 9223372036854775807) (u3 : n3 ≤ 1048576) (p3 : n3 ≤ k3) (q3 : k3 * 80 ≤ 140737488351232) (l3 : x3.length = n3) (r3 : Rd w w.heap.size 6 A3 n3 x3.flatten) (s3 : ∀ y ∈ x3, y.length = 6 ∧ ∃ d, FitU enc Try.prog w 33 y d) :
    Calls Try.prog 13 #[.agg #[.int .i64 x0, .int .i64 x1, .slice A2 n2 k2], .agg #[.int .i64 y0, .int .i64 y1, .slice A3 n3 k3]] w (WalkOk w) := by
  have h2 := Lib.hid (eops_openU l2 r2 s2)
  have h3 := Lib.hid (eops_openU l3 r3 s3)
  by_cases hok : NetOk x0 x1
  · obtain ⟨c1, hc1, rfl, rfl⟩ := hok.cfg
    by_cases hok2 : NetOk y0 y1
    · obtain ⟨c2, hc2, rfl, rfl⟩ := hok2.cfg
      exact Tn_yy hc1 hc2 A2 A3 n2 k2 n3 k3 u2 p2 q2 u3 p3 q3 h2 h3
    · exact Tn_yn hc1 y0 y1 hok2 A2 A3 n2 k2 n3 k3 u2 p2 q2 u3 p3 q3 h2 h3
  · by_cases hok2 : NetOk y0 y1
    · obtain ⟨c2, hc2, rfl, rfl⟩ := hok2.cfg
      exact Tn_ny x0 x1 hok hc2 A2 A3 n2 k2 n3 k3 u2 p2 q2 u3 p3 q3 h2 h3
    · exact Tn_nn x0 x1 hok y0 y1 hok2 A2 A3 n2 k2 n3 k3 u2 p2 q2 u3 p3 q3 h2 h3
end Go.Proofs.Ytgfhmfhhobhojaa
