/-
  The outright statements: began.
-/
import Derived.Test.YtfjpmoigpnmeoaaDOut2
namespace Go.Proofs.Ytfjpmoigpnmeoaa
open Go.RowKit
variable {w : World}

def BeganP (w : World) (c : Cfg) (n : Nat) (e : Ending) (w' : World) : Prop := ∃ D F d m, e = .returned (.tuple #[.pointer (some ⟨D, 0, none⟩), .bool true]) ∧ Live w w' F c D d m ∧ m ≤ n ∧ d.left = false ∧ (n = 0 → d = DSt.new c)
set_option maxRecDepth 100000 in
set_option maxHeartbeats 3200000 in
theorem began_no (n s i b st lm : Int) (hno : ¬ NewOk n s i b st lm) (hn0 : -9223372036854775808 ≤ n) (hn1 : n ≤ 9223372036854775807) (A : Option Addr) (m cap : Nat) :
    Calls Try.prog 10 #[.agg #[.int .i64 n, .int .i64 s, .int .i64 i, .int .i64 b, .int .i64 st, .int .i64 lm, .slice A m cap]] w fun e w' => e = .returned (.tuple #[.pointer none, .bool true]) ∧ Below w.heap.size w w' := by
  have hb0 := one_box' w (.cells #[.int .i64 n, .int .i64 s, .int .i64 i, .int .i64 b, .int .i64 st, .int .i64 lm, .slice A m cap] 27)
  have HN := Lib.hid hno
  clear hno
  go_enter Try.func10, Try.ntmps10
  go_wp2_with fail
  refine (RNew_no n s i b st lm _ HN.out).mono ?_
  rintro _ _ ⟨rfl, rfl⟩
  go_wp2_with fail
  refine (PNew_no n s i b st lm _ HN.out hn0 hn1).mono ?_
  rintro _ _ ⟨rfl, rfl⟩
  go_wp2_with (go_at_call 15; refine (num_any _ _ (by omega) (by omega)).mono ?_; rintro _ _ ⟨rfl, rfl⟩)
  go_ret2
  exact ⟨rfl, hb0⟩
set_option maxRecDepth 100000 in
set_option maxHeartbeats 6400000 in
theorem began_yes {c : Cfg} (hc : c.Ok) (A1 : Option Addr) (n1 k1 B : Nat) (hle : n1 ≤ k1) (hcap : k1 * 56 ≤ 140737488351232) (hB : B ≤ w.heap.size) (HO : Hid (Ops w B A1 n1)) :
    Calls Try.prog 10 #[.agg #[.int .i64 (c.n : Int), .int .i64 (c.self : Int), .int .i64 c.inc, .int .i64 c.base, .int .i64 c.step, .int .i64 c.lim, .slice A1 n1 k1]] w (BeganP w c n1) := by
  have hb0 := one_box' w (.cells #[.int .i64 (c.n : Int), .int .i64 (c.self : Int), .int .i64 c.inc, .int .i64 c.base, .int .i64 c.step, .int .i64 c.lim, .slice A1 n1 k1] 27)
  have hR := Blk.new w 27 #[.int .i64 (c.n : Int), .int .i64 (c.self : Int), .int .i64 c.inc, .int .i64 c.base, .int .i64 c.step, .int .i64 c.lim, .slice A1 n1 k1]
  obtain ⟨w0, hw0⟩ : ∃ w0, w0 = w.alloc (.cells #[.int .i64 (c.n : Int), .int .i64 (c.self : Int), .int .i64 c.inc, .int .i64 c.base, .int .i64 c.step, .int .i64 c.lim, .slice A1 n1 k1] 27) := ⟨_, rfl⟩
  rw [← hw0] at hb0 hR
  have HW := Lib.hid hw0
  have hs0 := hb0.size
  have HOP : Hid (Ops w0 B A1 n1) := HO.out.below (hb0.mono hB)
  have HR := Lib.hid hR
  have r0 : w0.cell? ⟨w.heap.size, 0, none⟩ = some (.int .i64 (c.n : Int)) := hR.cell 0
  have r1 : w0.cell? ⟨w.heap.size, 1, none⟩ = some (.int .i64 (c.self : Int)) := hR.cell 1
  have r2 : w0.cell? ⟨w.heap.size, 2, none⟩ = some (.int .i64 c.inc) := hR.cell 2
  have r3 : w0.cell? ⟨w.heap.size, 3, none⟩ = some (.int .i64 c.base) := hR.cell 3
  have r4 : w0.cell? ⟨w.heap.size, 4, none⟩ = some (.int .i64 c.step) := hR.cell 4
  have r5 : w0.cell? ⟨w.heap.size, 5, none⟩ = some (.int .i64 c.lim) := hR.cell 5
  have HC := Lib.hid hc
  clear hw0 hR hc
  go_enter Try.func10, Try.ntmps10
  go_upto_region 1 with fail
  rw [← HW.out]
  go_wp2_with fail
  refine (RNew_yes c HC.out w0).mono ?_
  rintro _ w1 ⟨K, rfl, _, hb1⟩
  have hR1 := HR.out.over hb1
  have hs1 := hb1.size
  clear r0 r1 r2 r3 r4 r5
  have r0 : w1.cell? ⟨w.heap.size, 0, none⟩ = some (.int .i64 (c.n : Int)) := hR1.cell 0
  have r1 : w1.cell? ⟨w.heap.size, 1, none⟩ = some (.int .i64 (c.self : Int)) := hR1.cell 1
  have r2 : w1.cell? ⟨w.heap.size, 2, none⟩ = some (.int .i64 c.inc) := hR1.cell 2
  have r3 : w1.cell? ⟨w.heap.size, 3, none⟩ = some (.int .i64 c.base) := hR1.cell 3
  have r4 : w1.cell? ⟨w.heap.size, 4, none⟩ = some (.int .i64 c.step) := hR1.cell 4
  have r5 : w1.cell? ⟨w.heap.size, 5, none⟩ = some (.int .i64 c.lim) := hR1.cell 5
  clear hR1
  go_wp2_with fail
  refine (PNew_yes c HC.out w1).mono ?_
  rintro _ w2 ⟨D, rfl, hp, hb2⟩
  have HLV : Hid (Live w0 w2 (fun k => w1.heap.size ≤ k ∧ k < w2.heap.size) c D (DSt.new c) 0) := ⟨hp, DSt.new_ok HC.out 0, fun k hk => by omega, hb1.trans (hb2.mono hs1)⟩
  clear hp r0 r1 r2 r3 r4 r5
  go_wp2_with (go_at_call 15; refine (num_any _ _ (by omega) (by omega)).mono ?_; rintro _ _ ⟨rfl, rfl⟩)
  go_loopw [8] (fun i wr => ∃ (k : Nat) (F : Nat → Prop) (d : DSt) (m : Nat), k ≤ n1 ∧ i = .int .i64 (k : Int) ∧ Hid (Live w0 wr F c D d m ∧ m ≤ k ∧ d.left = false ∧ (k = 0 → d = DSt.new c))) (fun i _ => n1 - (intOf i).toNat)
  case atStart => exact ⟨0, _, _, 0, by omega, rfl, Lib.hid ⟨HLV.out, by omega, rfl, fun _ => rfl⟩⟩
  case round =>
    clear HLV
    obtain ⟨k, F, d, m, hk, rfl, HL⟩ := hrel
    have hb := HL.out.1.below
    have hRr := HR.out.over hb
    have r6 : wr.cell? ⟨w.heap.size, 6, none⟩ = some (.slice A1 n1 k1) := hRr.cell 6
    have hsr := hb.size
    by_cases hlt : k < n1
    · have hI : (k : Int) < (n1 : Int) := by omega
      obtain ⟨b, off, rfl, hbl, hops⟩ := (HOP.out.below (hb.mono (by omega))) (by omega)
      obtain ⟨kd, q, inc, tick, Ac, nc, capc, hs, hop⟩ := hops k hlt
      have o0 := hop.c0
      have o1 := hop.c1
      have o2 := hop.c2
      have o3 := hop.c3
      have o4 := hop.c4
      have hcp := hop.cap
      have hX := Blk.new wr 61 #[.int .i64 kd, .int .i64 q, .int .i64 inc, .int .i64 tick, .slice Ac nc capc]
      have hbx := one_box' wr (.cells #[.int .i64 kd, .int .i64 q, .int .i64 inc, .int .i64 tick, .slice Ac nc capc] 61)
      have hrx := (hop.rd.below (hbx.mono (show B ≤ wr.heap.size by omega)))
      obtain ⟨wx, hwx⟩ : ∃ wx, wx = wr.alloc (.cells #[.int .i64 kd, .int .i64 q, .int .i64 inc, .int .i64 tick, .slice Ac nc capc] 61) := ⟨_, rfl⟩
      rw [← hwx] at hX hbx hrx
      have HWX := Lib.hid hwx
      have HLX := Lib.hid (HL.out.1.over hbx)
      have hsx := hbx.size
      have x0 : wx.cell? ⟨wr.heap.size, 0, none⟩ = some (.int .i64 kd) := hX.cell 0
      have HX := Lib.hid hX
      have HRX := Lib.hid hrx
      have HFW : Hid (¬ F wr.heap.size) := Lib.hid fun h => by have := HL.out.1.p.1 _ h; omega
      clear hwx hX hrx hop hops
      go_upto_region 9 with fail
      rw [← HWX.out]
      clear o0 o1 o2 o3 o4
      by_cases h1 : kd = 1
      · subst h1
        go_wp2_with fail
        refine (PTick_x HC.out HLX.out).mono ?_
        rintro _ w3 ⟨rfl, h3, hc3⟩
        have hX3 := HX.out.chg hc3 HFW.out
        have HN : Hid (Live w0 w3 F c D (tickD d) m ∧ m ≤ k + 1 ∧ (tickD d).left = false ∧ (k + 1 = 0 → tickD d = DSt.new c)) := Lib.hid ⟨h3, by have := HL.out.2.1; omega, HL.out.2.2.1, fun h => by omega⟩
        have x0' : w3.cell? ⟨wr.heap.size, 0, none⟩ = some (.int .i64 1) := hX3.cell 0
        clear hX3 h3 hc3 x0
        go_wp2
        go_roundw
        case rel => exact ⟨k + 1, F, _, m, by omega, by go_num, HN⟩
        case measure => simp [intOf] <;> omega
      · by_cases h2 : kd = 2
        · subst h2
          have x1 : wx.drew.cell? ⟨wr.heap.size, 1, none⟩ = some (.int .i64 q) := HX.out.cell 1
          have x2 : wx.drew.cell? ⟨wr.heap.size, 2, none⟩ = some (.int .i64 inc) := HX.out.cell 2
          have x3 : wx.drew.cell? ⟨wr.heap.size, 3, none⟩ = some (.int .i64 tick) := HX.out.cell 3
          have x4 : wx.drew.cell? ⟨wr.heap.size, 4, none⟩ = some (.slice Ac nc capc) := HX.out.cell 4
          have HXO : Hid (∀ W W', Below wx.heap.size wx W → Chg F W W' → W'.cell? ⟨wr.heap.size, 1, none⟩ = some (.int .i64 q) ∧ W'.cell? ⟨wr.heap.size, 2, none⟩ = some (.int .i64 inc) ∧ W'.cell? ⟨wr.heap.size, 3, none⟩ = some (.int .i64 tick) ∧ W'.cell? ⟨wr.heap.size, 4, none⟩ = some (.slice Ac nc capc)) := Lib.hid fun W W' hb hc => by
            have hB := (HX.out.over hb).chg hc HFW.out
            exact ⟨hB.cell 1, hB.cell 2, hB.cell 3, hB.cell 4⟩
          have HCP := Lib.hid fun (W : World) (hbW : Below wx.heap.size wx W) => copied_any Ac nc capc hs W ((HRX.out.below (hbW.mono (by omega))).more (by have := hbW.size; omega)) (by omega)
          have HNL := Lib.hid HRX.out.lenI
          have HPH := Lib.hid fun (W : World) (g : Nat) (hbW : Below wx.heap.size wx W) (hgW : wx.heap.size ≤ g) (hBW : Blk W g 3 (rg hs.length fun j => .int .i64 (hs.getD j 0))) => PHeard_f HC.out HLX.out (by have := HL.out.2.1; omega) g hs.length hs q inc tick (by rw [HNL.out]; omega) W hbW hgW hBW
          go_upto_region 12 with fail
          go_region_held3 (fun w' => w'.cell? ⟨wr.heap.size, 1, none⟩ = some (.int .i64 q) ∧ w'.cell? ⟨wr.heap.size, 2, none⟩ = some (.int .i64 inc) ∧ w'.cell? ⟨wr.heap.size, 3, none⟩ = some (.int .i64 tick) ∧ w'.cell? ⟨wr.heap.size, 4, none⟩ = some (.slice Ac nc capc)) ((first | exact ⟨x1, x2, x3, x4⟩ | exact hx2 | exact hx1)) ((first
            | (go_at_call 24; refine (HCP.out wx.drew (below_drewN (Below.refl _ _) 1)).mono ?_; rintro _ w4 ⟨g4, rfl, hg4, hB4, hb4⟩; have hb34 : Below wx.heap.size wx w4 := (below_drewN (Below.refl _ _) 1).trans hb4; have hx1 := HXO.out w4 w4 hb34 (Chg.refl _ _); have HG4 := Lib.hid (And.intro hg4 hB4); clear hg4 hB4 hb4)
            | (go_at_call 13; refine (HPH.out w4 g4 hb34 HG4.out.1 HG4.out.2).mono ?_; rintro _ w5 ⟨rfl, h5, hc5⟩; have hx2 := HXO.out w4 w5 hb34 hc5; have H5 := Lib.hid h5; clear h5 hc5)))
          have HN : Hid (Live w0 w5 F c D (hearD c d q inc tick hs) (m + 1) ∧ m + 1 ≤ k + 1 ∧ (hearD c d q inc tick hs).left = false ∧ (k + 1 = 0 → hearD c d q inc tick hs = DSt.new c)) := Lib.hid ⟨H5.out, by have := HL.out.2.1; omega, by rw [hearD_left]; exact HL.out.2.2.1, fun h => by omega⟩
          clear x1 x2 x3 x4 hx1 hx2
          go_wp2
          go_roundw
          case rel => exact ⟨k + 1, F, _, m + 1, by omega, by go_num, HN⟩
          case measure => simp [intOf] <;> omega
        · have e1 : (kd == 1) = false := by simpa using h1
          have e2 : (kd == 2) = false := by simpa using h2
          clear h1 h2
          have HN : Hid (Live w0 wx F c D d m ∧ m ≤ k + 1 ∧ d.left = false ∧ (k + 1 = 0 → d = DSt.new c)) := Lib.hid ⟨HLX.out, by have := HL.out.2.1; omega, HL.out.2.2.1, fun h => by omega⟩
          go_wp2
          go_roundw
          case rel => exact ⟨k + 1, F, d, m, by omega, by go_num, HN⟩
          case measure => simp [intOf] <;> omega
    · obtain rfl : k = n1 := by omega
      have HE : Hid (BeganP w c k (.returned (.tuple #[.pointer (some ⟨D, 0, none⟩), .bool true])) wr) := Lib.hid ⟨D, F, d, m, rfl, ⟨HL.out.1.p, HL.out.1.ok, fun i hi => by have := HL.out.1.fw i hi; omega, hb0.trans (hb.mono hs0)⟩, HL.out.2.1, HL.out.2.2.1, HL.out.2.2.2⟩
      go_wp2
      go_ret2
      exact HE.out
end Go.Proofs.Ytfjpmoigpnmeoaa
