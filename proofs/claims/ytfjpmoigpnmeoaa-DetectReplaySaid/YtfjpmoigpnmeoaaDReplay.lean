/-
  DetectReplay, walked.
-/
import Derived.Test.YtfjpmoigpnmeoaaDRepP
import Derived.IntWalk
namespace Go.Proofs.Ytfjpmoigpnmeoaa
open Go.ChangeShapes Go.WideShapes Go.ChangeAt Go.RowKit
theorem pos_e (v n : Int) (w : World) (h0 : -9223372036854775808 ≤ v) (h1 : v ≤ 9223372036854775807) (hn : n ≤ 9223372036854775807) :
    Calls Try.prog 12 #[.int .i64 v, .int .i64 n] w fun e w' => e = .returned (.int .i64 (posZ v n)) ∧ w' = w := (pos_any v n w h0 h1 hn).mono fun _ _ ⟨h, h2⟩ => ⟨h, h2.symm⟩
structure Opr where
  kd : Int
  q : Int
  inc : Int
  tk : Int
  A : Option Addr
  n : Nat
  cap : Nat
def Opr.row (o : Opr) : List Value := [.int .i64 o.kd, .int .i64 o.q, .int .i64 o.inc, .int .i64 o.tk, .slice o.A o.n o.cap]
def rowsK (K : List Opr) : List Value := (K.map Opr.row).flatten
theorem rowsK_app (K : List Opr) (o : Opr) : rowsK (K ++ [o]) = rowsK K ++ o.row := by simp [rowsK]
theorem row_one (o : Opr) : ∀ u ∈ o.row, u.oneCell' = true := by
  intro u hu
  simp only [Opr.row, List.mem_cons, List.not_mem_nil, or_false] at hu
  rcases hu with rfl | rfl | rfl | rfl | rfl <;> rfl
theorem info_op : (Try.prog.info? 61).map (fun i => (i.zero, i.size, i.bytes)) = some (some (.agg #[.int .i64 0, .int .i64 0, .int .i64 0, .int .i64 0, .slice none 0 0]), 5, 56) := by kernel_rfl
theorem u_opsL : Try.prog.underlying 25 = some (.slice 61) := Try.underlying25
theorem kept_at {w : World} {B : Nat} {e : TypeId} {v : Value} {K : List Opr} {j : Nat} (h : w.ownsRow B e 5 v K.length (rowsK K)) (hj : j < K.length) :
    ∃ g cap x, v = .slice (some ⟨g, 0, none⟩) K.length cap ∧ x ∈ K ∧ w.cell? ⟨g, j * 5, none⟩ = some (.int .i64 x.kd) ∧ w.cell? ⟨g, j * 5 + 1, none⟩ = some (.int .i64 x.q) ∧ w.cell? ⟨g, j * 5 + 2, none⟩ = some (.int .i64 x.inc) ∧ w.cell? ⟨g, j * 5 + 3, none⟩ = some (.int .i64 x.tk) ∧ w.cell? ⟨g, j * 5 + 4, none⟩ = some (.slice x.A x.n x.cap) := by
  obtain ⟨g, cap, cur, rfl, hg, hB, hle, hcm, hsz, htk⟩ := own_parts h (by omega)
  have hall := flat_at (z := 5) (es := K.map Opr.row) (fun x hx => by
    simp only [List.mem_map] at hx
    obtain ⟨y, _, rfl⟩ := hx
    rfl) j
  have hr := h.cells (g := g) rfl
  have hx : K[j]? = some K[j] := List.getElem?_eq_getElem hj
  have hc : ∀ (i : Nat) (u : Value), i < 5 → (K[j]).row[i]? = some u → w.cell? ⟨g, j * 5 + i, none⟩ = some u := fun i u hi hu => by
    have h1 := hr (j * 5 + i) u ((hall i hi).trans (by rw [List.getElem?_map, hx]; exact hu))
    rw [addr_add, Nat.zero_add] at h1
    exact h1
  exact ⟨g, cap, K[j], rfl, List.getElem_mem hj, hc 0 _ (by omega) rfl, hc 1 _ (by omega) rfl, hc 2 _ (by omega) rfl, hc 3 _ (by omega) rfl, hc 4 _ (by omega) rfl⟩
/-- All that were kept are refused. -/
def KeptAll (c : Cfg) (d : DSt) (K : List Opr) : Prop := ∀ o ∈ K, Kept c d o.q o.inc (posZ o.tk 50) ∧ -9223372036854775808 ≤ o.tk ∧ o.tk ≤ 9223372036854775807
theorem KeptAll.tick {c : Cfg} {d : DSt} {K : List Opr} (h : KeptAll c d K) : KeptAll c (tickD d) K := fun o ho => ⟨(h o ho).1.tick, (h o ho).2⟩
theorem KeptAll.heard {c : Cfg} {d : DSt} {K : List Opr} (h : KeptAll c d K) (q inc tk : Int) (hs : List Int) : KeptAll c (hearD c d q inc tk hs) K := fun o ho => ⟨(h o ho).1.heard q inc tk hs, (h o ho).2⟩
theorem KeptAll.app {c : Cfg} {d : DSt} {K : List Opr} {x : Opr} (h : KeptAll c d K) (hx : Kept c d x.q x.inc (posZ x.tk 50)) (h0 : -9223372036854775808 ≤ x.tk) (h1 : x.tk ≤ 9223372036854775807) : KeptAll c d (K ++ [x]) := fun o ho => by
  rcases List.mem_append.1 ho with h2 | h2
  · exact h o h2
  · simp only [List.mem_cons, List.not_mem_nil, or_false] at h2
    subst h2
    exact ⟨hx, h0, h1⟩
theorem Live.up {w0 w : World} {F : Nat → Prop} {c : Cfg} {D : Nat} {d : DSt} {m m' : Nat} (h : Live w0 w F c D d m) (hm : m ≤ m') : Live w0 w F c D d m' := ⟨h.p, h.ok.mono hm, h.fw, h.below⟩
theorem kept_call {w w0 : World} {c : Cfg} {D : Nat} {F : Nat → Prop} {d : DSt} {m : Nat} {q inc tk : Int} (hc : c.Ok) (h : Live w0 w F c D d m) (hK : Kept c d q inc tk) (hm : m < 4611686018427387904) (h0 : 0 ≤ tk) (h5 : tk ≤ 50) (w1 : World) (hb : Below w.heap.size w w1) (g : Nat) (hg : w.heap.size ≤ g) (hB : Blk w1 g 3 (rg (hearsZ c.n c.self c.inc).length fun k => .int .i64 ((hearsZ c.n c.self c.inc).getD k 0))) :
    Calls Try.prog 13 #[.pointer (some ⟨D, 0, none⟩), .int .i64 q, .int .i64 inc, .agg #[.int .i64 tk, .slice (some ⟨g, 0, none⟩) (hearsZ c.n c.self c.inc).length (hearsZ c.n c.self c.inc).length]] w1 fun e w' => e = .returned (.int .i64 (hearE c d q inc tk (hearsZ c.n c.self c.inc))) ∧ Live w0 w' F c D d m ∧ Chg F w1 w' := by
  obtain ⟨_, e2⟩ := hK.refused hc h0 (by omega)
  have hn := hc.2.1
  refine (PHeard_f hc h hm g _ _ q inc tk (by rw [hearsZ_len]; omega) w1 hb hg hB).mono fun e w' hh => ?_
  obtain ⟨h1, h2, h3⟩ := hh
  rw [e2] at h2
  exact ⟨h1, ⟨h2.p, h.ok, h2.fw, h2.below⟩, h3⟩
theorem Live.above {w0 w w' : World} {F : Nat → Prop} {c : Cfg} {D : Nat} {d : DSt} {m B : Nat} (h : Live w0 w F c D d m) (hF : ∀ k, F k → k < B) (hB : w0.heap.size ≤ B) (hb : Below B w w') : Live w0 w' F c D d m :=
  ⟨h.p.chg (S := fun k => B ≤ k) ⟨hb.os, hb.tape, hb.output, hb.size, fun k _ hn => hb.block k (by omega)⟩ (fun k h1 h2 => by have := hF k h1; omega), h.ok, h.fw, h.below.trans (hb.mono hB)⟩
set_option maxRecDepth 100000 in
set_option maxHeartbeats 25600000 in
theorem DetectReplay_core (x0 x1 x2 x3 x4 x5 : Int) (A1 : Option Addr) (n1 k1 : Nat) (w : World) (hn0 : -9223372036854775808 ≤ x0) (hn1 : x0 ≤ 9223372036854775807) (hle : n1 ≤ k1) (hcap : k1 * 56 ≤ 140737488351232) (HO : Hid (Ops w w.heap.size A1 n1)) :
    Calls Try.prog 6 #[.agg #[.int .i64 x0, .int .i64 x1, .int .i64 x2, .int .i64 x3, .int .i64 x4, .int .i64 x5, .slice A1 n1 k1]] w (AsksOk w) := by
  obtain ⟨i0, hi0, hz0, hz1, hz2⟩ := info_parts info_op
  have hb0 := one_box' w (.cells #[.int .i64 x0, .int .i64 x1, .int .i64 x2, .int .i64 x3, .int .i64 x4, .int .i64 x5, .slice A1 n1 k1] 27)
  have hS := Blk.new w 27 #[.int .i64 x0, .int .i64 x1, .int .i64 x2, .int .i64 x3, .int .i64 x4, .int .i64 x5, .slice A1 n1 k1]
  obtain ⟨w0, hw0⟩ : ∃ w0, w0 = w.alloc (.cells #[.int .i64 x0, .int .i64 x1, .int .i64 x2, .int .i64 x3, .int .i64 x4, .int .i64 x5, .slice A1 n1 k1] 27) := ⟨_, rfl⟩
  rw [← hw0] at hb0 hS
  have HW0 := Lib.hid hw0
  have hs0 := hb0.size
  have hlt0 := hS.lt
  have HOP : Hid (Ops w0 w.heap.size A1 n1) := HO.out.below hb0
  have HBX : Hid (∀ W, Below w0.heap.size w0 W → W.cell? ⟨w.heap.size, 0, none⟩ = some (.int .i64 x0) ∧ W.cell? ⟨w.heap.size, 1, none⟩ = some (.int .i64 x1) ∧ W.cell? ⟨w.heap.size, 2, none⟩ = some (.int .i64 x2) ∧ W.cell? ⟨w.heap.size, 3, none⟩ = some (.int .i64 x3) ∧ W.cell? ⟨w.heap.size, 4, none⟩ = some (.int .i64 x4) ∧ W.cell? ⟨w.heap.size, 5, none⟩ = some (.int .i64 x5) ∧ W.cell? ⟨w.heap.size, 6, none⟩ = some (.slice A1 n1 k1)) := Lib.hid fun W hb =>
    ⟨(hS.over hb).cell 0, (hS.over hb).cell 1, (hS.over hb).cell 2, (hS.over hb).cell 3, (hS.over hb).cell 4, (hS.over hb).cell 5, (hS.over hb).cell 6⟩
  have r0 : w0.cell? ⟨w.heap.size, 0, none⟩ = some (.int .i64 x0) := hS.cell 0
  have r1 : w0.cell? ⟨w.heap.size, 1, none⟩ = some (.int .i64 x1) := hS.cell 1
  have r2 : w0.cell? ⟨w.heap.size, 2, none⟩ = some (.int .i64 x2) := hS.cell 2
  have r3 : w0.cell? ⟨w.heap.size, 3, none⟩ = some (.int .i64 x3) := hS.cell 3
  have r4 : w0.cell? ⟨w.heap.size, 4, none⟩ = some (.int .i64 x4) := hS.cell 4
  have r5 : w0.cell? ⟨w.heap.size, 5, none⟩ = some (.int .i64 x5) := hS.cell 5
  have r6 : w0.cell? ⟨w.heap.size, 6, none⟩ = some (.slice A1 n1 k1) := hS.cell 6
  have HB0 := Lib.hid hb0
  have HSB := Lib.hid hS
  clear hw0 hS hb0
  go_enter Try.func6, Try.ntmps6
  go_upto_region 1 with fail
  rw [← HW0.out]
  go_wp2_with fail
  by_cases hok : NewOk x0 x1 x2 x3 x4 x5
  · obtain ⟨c, hc, rfl, rfl, rfl, rfl, rfl, rfl⟩ := hok.cfg
    refine (began_yes hc none 0 0 w.heap.size (Nat.le_refl _) (by omega) hs0 (Lib.hid fun h => absurd h (by omega))).mono ?_
    rintro _ w2 ⟨D, F, d, m, rfl, hL, hmn, hdl, hdn⟩
    obtain rfl : m = 0 := by omega
    have HL := Lib.hid hL
    have HC := Lib.hid hc
    have hn16 : c.n ≤ 16 := hc.2.1
    have hsf : c.self < c.n := hc.2.2.1
    have HF2 : Hid (∀ k, F k → w0.heap.size ≤ k ∧ k < w2.heap.size) := Lib.hid fun k hk => ⟨hL.fw k hk, hL.p.1 k hk⟩
    have hb2s := hL.below.size
    have HDR : Hid (w.heap.size < w0.heap.size) := Lib.hid hlt0
    clear r0 r1 r2 r3 r4 r5 r6 hok hmn hdl hdn hL hc hlt0
    go_wp2_with fail
    go_loopw [5, 6, 7, 8, 9, 10, 11, 12, 13] (fun a5 a6 _ _ _ _ _ _ _ wr => ∃ (i' : Nat) (dd : DSt) (K : List Opr), i' ≤ n1 ∧ a6 = .int .i64 (i' : Int) ∧ K.length ≤ i' ∧ Hid (Live w0 wr F c D dd i' ∧ KeptAll c dd K ∧ w2.heap.size ≤ wr.heap.size) ∧ Hid (wr.ownsRow w2.heap.size 61 5 a5 K.length (rowsK K))) (fun _ a6 _ _ _ _ _ _ _ _ => n1 - (intOf a6).toNat)
    case atStart => exact ⟨0, d, [], by omega, rfl, by simp, Lib.hid ⟨HL.out, (show KeptAll c d [] from fun _ h => absurd h (by simp)), Nat.le_refl _⟩, Lib.hid ⟨by simp [rowsK], .inl ⟨rfl, rfl⟩⟩⟩
    case round =>
      clear HL
      obtain ⟨i', dd, K, hi', rfl, hKi, HLS, HOW⟩ := hrel
      obtain ⟨A5, cap5, rfl, hcp5, hcm5⟩ := own_shape HOW.out
      obtain ⟨q0, q1, q2, q3, q4, q5, q6⟩ := HBX.out wr HLS.out.1.below
      by_cases hlt : i' < n1
      · have hI : (i' : Int) < (n1 : Int) := by omega
        by_cases h100 : (i' : Int) < 100
        · obtain ⟨b, off, rfl, hbl, hops⟩ := (HOP.out.below (HLS.out.1.below.mono hs0)) (by omega)
          obtain ⟨kd, q, inc, tk, Ac, nc, capc, hs, hop⟩ := hops i' hlt
          have o0 := hop.c0
          have o1 := hop.c1
          have o2 := hop.c2
          have o3 := hop.c3
          have o4 := hop.c4
          have hqb := hop.qb
          have hib := hop.ib
          have htb := hop.tb
          have hX := Blk.new wr 61 #[.int .i64 kd, .int .i64 q, .int .i64 inc, .int .i64 tk, .slice Ac nc capc]
          have hbx := one_box' wr (.cells #[.int .i64 kd, .int .i64 q, .int .i64 inc, .int .i64 tk, .slice Ac nc capc] 61)
          obtain ⟨wx, hwx⟩ : ∃ wx, wx = wr.alloc (.cells #[.int .i64 kd, .int .i64 q, .int .i64 inc, .int .i64 tk, .slice Ac nc capc] 61) := ⟨_, rfl⟩
          rw [← hwx] at hX hbx
          have HWX := Lib.hid hwx
          have hwr2 := HLS.out.2.2
          have hsx := hbx.size
          have HLX : Hid (Live w0 wx F c D dd i') := Lib.hid (HLS.out.1.over hbx)
          have HOX : Hid (wx.ownsRow w2.heap.size 61 5 (.slice A5 K.length cap5) K.length (rowsK K)) := Lib.hid (own_over HOW.out hbx)
          have HNF : Hid (¬ F wr.heap.size) := Lib.hid fun h => by have := (HF2.out _ h).2; omega
          have HXB := Lib.hid hX
          have p0 : wx.cell? ⟨wr.heap.size, 0, none⟩ = some (.int .i64 kd) := hX.cell 0
          have hKA := Lib.hid HLS.out.2.1
          clear hwx hX hops hop
          go_upto_region 9 with fail
          rw [← HWX.out]
          clear o0 o1 o2 o3 o4 q0 q1 q2 q3 q4 q5 q6
          go_upto_if 52 with fail
          go_cut [] from 34 to 165 (fun wy => ∃ dd' : DSt, Hid (Live w0 wy F c D dd' i' ∧ KeptAll c dd' K ∧ Chg F wx wy))
          case first =>
            by_cases hk1 : kd = 1
            · have e1 : (kd == 1) = true := by simpa using hk1
              clear hk1
              go_wp2_with fail
              refine (PTick_x HC.out HLX.out).mono ?_
              rintro _ w8 ⟨rfl, h8, h8c⟩
              go_wp2
              go_meet
              exact ⟨_, Lib.hid ⟨h8, hKA.out.tick, h8c⟩⟩
            · have e1 : (kd == 1) = false := by simpa using hk1
              clear hk1
              go_wp2_with fail
              go_meet
              exact ⟨_, Lib.hid ⟨HLX.out, hKA.out, Chg.refl _ _⟩⟩
          case rest =>
            obtain ⟨d1, H1⟩ := hcut
            have HXC : Hid (∀ W, Chg F wc W → Blk W wr.heap.size 61 #[.int .i64 kd, .int .i64 q, .int .i64 inc, .int .i64 tk, .slice Ac nc capc] ∧ W.cell? ⟨w.heap.size, 0, none⟩ = some (.int .i64 (c.n : Int)) ∧ W.cell? ⟨w.heap.size, 1, none⟩ = some (.int .i64 (c.self : Int))) := Lib.hid fun W hW => by
              have hnw : ¬ F w.heap.size := fun h => by have := (HF2.out _ h).1; have := HDR.out; omega
              have hrb := ((HSB.out.over HLX.out.below).chg H1.out.2.2 hnw).chg hW hnw
              exact ⟨(HXB.out.chg H1.out.2.2 HNF.out).chg hW HNF.out, hrb.cell 0, hrb.cell 1⟩
            have HOC : Hid (wc.ownsRow w2.heap.size 61 5 (.slice A5 K.length cap5) K.length (rowsK K)) := Lib.hid (own_chg HOX.out H1.out.2.2 fun g hg hF => by have := (HF2.out g hF).2; have := (own_block_lt HOX.out hg).2.1; omega)
            have hwc : w2.heap.size ≤ wc.heap.size := by have := H1.out.2.2.size; omega
            have p0 : wc.cell? ⟨wr.heap.size, 0, none⟩ = some (.int .i64 kd) := (HXC.out wc (Chg.refl _ _)).1.cell 0
            go_upto_if 57 with fail
            go_cut [5, 8, 9] from 34 to 165 (fun t5 _ _ wy => ∃ (d2 : DSt) (K2 : List Opr), K2.length ≤ i' + 1 ∧ Hid (Live w0 wy F c D d2 (i' + 1) ∧ KeptAll c d2 K2 ∧ w2.heap.size ≤ wy.heap.size) ∧ Hid (wy.ownsRow w2.heap.size 61 5 t5 K2.length (rowsK K2)))
            case first =>
              by_cases hk2 : kd = 2
              · have e2 : (kd == 2) = true := by simpa using hk2
                clear hk2
                obtain ⟨v, hv⟩ : ∃ v, v = Go.bits .and .i64 tk 1 := ⟨_, rfl⟩
                have hvb := and1_bd tk
                rw [← hv] at hvb
                have HVE := Lib.hid hv
                have hpb := posZ_bd (v := tk) (n := 50) (by omega)
                have HPH := fun (W : World) (hW : Below wc.heap.size wc W) => PHeard_f (q := q) (inc := inc) (tick := posZ tk 50) (hs := hearsZ c.n c.self v) (cap := (hearsZ c.n c.self v).length) HC.out (H1.out.1.over hW) (by omega)
                have HKd := Lib.hid (H1.out.2.1.heard q inc (posZ tk 50) (hearsZ c.n c.self v))
                have HKn := Lib.hid fun (h : hearE c d1 q inc (posZ tk 50) (hearsZ c.n c.self v) = 0) => kept_new h
                have hEb := hearE_bd c d1 q inc (posZ tk 50) (hearsZ c.n c.self v)
                have HFO := Lib.hid fun (h : otherB c q = true) (h2 : (d1.pr q.toNat).known < inc) (h3 : inc ≤ 4611686018427387904) => first_ok (d := d1) (q := q) (inc := inc) (tk := posZ tk 50) HC.out h (H1.out.1.ok.p q.toNat).k0 h2 h3 v hvb.1 hvb.2 hpb.1 (by omega)
                have HPH := Lib.hid HPH
                generalize hearE c d1 q inc (posZ tk 50) (hearsZ c.n c.self v) = E at *
                generalize hearD c d1 q inc (posZ tk 50) (hearsZ c.n c.self v) = d2 at *
                clear hv
                obtain ⟨hPB, r0, r1⟩ := HXC.out wc (Chg.refl _ _)
                have p1 : wc.cell? ⟨wr.heap.size, 1, none⟩ = some (.int .i64 q) := hPB.cell 1
                have p2 : wc.cell? ⟨wr.heap.size, 2, none⟩ = some (.int .i64 inc) := hPB.cell 2
                have p3 : wc.cell? ⟨wr.heap.size, 3, none⟩ = some (.int .i64 tk) := hPB.cell 3
                have p4 : wc.cell? ⟨wr.heap.size, 4, none⟩ = some (.slice Ac nc capc) := hPB.cell 4
                clear hPB
                have HKW : Hid (∀ W, Below wc.heap.size wc W → Calls Try.prog 26 #[.pointer (some ⟨D, 0, none⟩), .int .i64 q] W fun e w' => e = .returned (.int .i64 (knownQ c d1 q)) ∧ w' = W) := Lib.hid fun W hb => (PKnown_x HC.out (H1.out.1.over hb) q).mono fun _ _ ⟨h, h2⟩ => ⟨h, h2.symm⟩
                by_cases h1 : q ≥ 0
                · by_cases h2 : q < (c.n : Int)
                  · by_cases h3 : q = (c.self : Int)
                    · have e3 : (q != (c.self : Int)) = false := by simpa using h3
                      clear h3
                      go_upto_region 12 with fail
                      go_quiet (fail)
                      have HBQ : Below wc.heap.size wc (wc.drewN nq) := below_drewN (Below.refl _ _) nq
                      have HXQ : Hid (∀ W, Chg F (wc.drewN nq) W → W.cell? ⟨wr.heap.size, 1, none⟩ = some (.int .i64 q) ∧ W.cell? ⟨wr.heap.size, 2, none⟩ = some (.int .i64 inc) ∧ W.cell? ⟨wr.heap.size, 3, none⟩ = some (.int .i64 tk) ∧ W.cell? ⟨w.heap.size, 0, none⟩ = some (.int .i64 (c.n : Int)) ∧ W.cell? ⟨w.heap.size, 1, none⟩ = some (.int .i64 (c.self : Int)) ∧ W.cell? ⟨wr.heap.size, 0, none⟩ = some (.int .i64 kd) ∧ W.cell? ⟨wr.heap.size, 4, none⟩ = some (.slice Ac nc capc)) := Lib.hid fun W hW => by
                        obtain ⟨h1, h2, h3⟩ := HXC.out W ((Chg.of_below HBQ F).trans hW)
                        exact ⟨h1.cell 1, h1.cell 2, h1.cell 3, h2, h3, h1.cell 0, h1.cell 4⟩
                      have HOQ : Hid ((wc.drewN nq).ownsRow w2.heap.size 61 5 (.slice A5 K.length cap5) K.length (rowsK K)) := Lib.hid (own_over HOC.out HBQ)
                      have hwq : w2.heap.size ≤ (wc.drewN nq).heap.size := hwc
                      have HQB := Lib.hid HBQ
                      clear p0 p1 p2 p3 p4 r0 r1 HBQ
                      generalize wc.drewN nq = wq at *
                      have HPP := Lib.hid fun (W : World) => pos_any tk 50 W htb.1 htb.2 (by omega)
                      have HHH := Lib.hid fun (W : World) => hears_any c.n c.self v W hn16 hsf
                      have HPX := Lib.hid fun (W : World) (hbW : Below wq.heap.size wq W) (g : Nat) (hgW : wq.heap.size ≤ g) (hBW : Blk W g 3 (rg (hearsZ c.n c.self v).length fun k => .int .i64 ((hearsZ c.n c.self v).getD k 0))) => HPH.out wq HQB.out g (by rw [hearsZ_len]; omega) W hbW hgW hBW
                      obtain ⟨z1, z2, z3, z4, z5, _, _⟩ := HXQ.out wq (Chg.refl _ _)
                      have hx0 := HXQ.out wq.drew ((Chg.refl _ _).drewN 1)
                      go_upto_region 13 with fail
                      go_region_held3 (fun w' => w'.cell? ⟨wr.heap.size, 1, none⟩ = some (.int .i64 q) ∧ w'.cell? ⟨wr.heap.size, 2, none⟩ = some (.int .i64 inc) ∧ w'.cell? ⟨wr.heap.size, 3, none⟩ = some (.int .i64 tk) ∧ w'.cell? ⟨w.heap.size, 0, none⟩ = some (.int .i64 (c.n : Int)) ∧ w'.cell? ⟨w.heap.size, 1, none⟩ = some (.int .i64 (c.self : Int)) ∧ w'.cell? ⟨wr.heap.size, 0, none⟩ = some (.int .i64 kd) ∧ w'.cell? ⟨wr.heap.size, 4, none⟩ = some (.slice Ac nc capc)) ((first | exact hx2 | exact hx1 | exact hx0)) ((first
                        | (go_at_call 12; refine (HPP.out _).mono ?_; rintro _ _ ⟨rfl, rfl⟩)
                        | (go_at_call 14; (try rw [← HVE.out]); refine (HHH.out wq.drew).mono ?_; rintro _ w9 ⟨g9, rfl, hg9, hB9, hb9⟩; have hb39 : Below wq.heap.size wq w9 := (below_drewN (Below.refl _ _) 1).trans hb9; have hx1 := HXQ.out w9 (Chg.of_below hb39 F); have HG9 := Lib.hid (And.intro hg9 hB9); clear hg9 hB9 hb9)
                        | (go_at_call 13; refine (HPX.out w9 hb39 g9 HG9.out.1 HG9.out.2).mono ?_; rintro _ w10 ⟨rfl, h10, h10c⟩; have HCC := Lib.hid ((Chg.of_below hb39 F).trans h10c); have hx2 := HXQ.out w10 HCC.out; have H10 := Lib.hid h10; clear h10 h10c)))
                      all_goals
                        obtain ⟨y1, y2, y3, y4, y5, y0, y6⟩ := hx2
                        have HO10 : Hid (w10.ownsRow w2.heap.size 61 5 (.slice A5 K.length cap5) K.length (rowsK K)) := Lib.hid (own_chg HOQ.out HCC.out fun g hg hF => by have := (HF2.out g hF).2; have := (own_block_lt HOQ.out hg).2.1; omega)
                        have hw10 : w2.heap.size ≤ w10.heap.size := by have := HCC.out.size; omega
                        clear hx0 hx1 z1 z2 z3 z4 z5
                        by_cases hE0 : E = 0
                        · obtain rfl := hE0
                          go_wp2_with (first
                            | (go_at_call 15; refine (num_any _ _ (by omega) (by omega)).mono ?_; rintro _ _ ⟨rfl, rfl⟩)
                            | (at_builtin; refine appN w10 (by rfl) _ _ 25 (by rfl) w2.heap.size 61 i0 _ 5 56 u_opsL hi0 hz0 hz1 hz2 rfl (by decide) _ K.length _ (by rfl) HO10.out #[.int .i64 kd, .int .i64 q, .int .i64 inc, .int .i64 tk, .slice Ac nc capc] rfl (by rfl) (row_one ⟨kd, q, inc, tk, Ac, nc, capc⟩) (by simp only [maxLen]; omega) (by omega) hw10 ?_; intro v5 w5 own5 hb5 _))
                          go_meet
                          exact ⟨d2, K ++ [⟨kd, q, inc, tk, Ac, nc, capc⟩], by simp; omega, Lib.hid ⟨H10.out.above (fun k hk => (HF2.out k hk).2) hb2s hb5, HKd.out.app (HKn.out (by simp)) htb.1 htb.2, by have := hb5.size; omega⟩, Lib.hid (by rw [List.length_append, rowsK_app]; exact own5)⟩
                        · have e0 : (E == 0) = false := by simpa using hE0
                          go_wp2_with (go_at_call 15; refine (num_any _ _ (by omega) (by omega)).mono ?_; rintro _ _ ⟨rfl, rfl⟩)
                          go_meet
                          exact ⟨d2, K, by omega, Lib.hid ⟨H10.out, HKd.out, hw10⟩, HO10⟩
                    · have e3 : (q != (c.self : Int)) = true := by simpa using h3
                      have hob : otherB c q = true := by simp [otherB]; omega
                      have hkq : knownQ c d1 q = (d1.pr q.toNat).known := by rw [knownQ, if_neg h3, if_pos hob]
                      rw [hkq] at HKW
                      have HFO' := Lib.hid (HFO.out hob)
                      generalize (d1.pr q.toNat).known = kn at *
                      clear hkq hob
                      by_cases h4 : inc > kn
                      · by_cases h5 : inc ≤ 4611686018427387904
                        · have hE0 : E = 0 := HFO'.out h4 h5
                          go_upto_region 12 with fail
                          go_quiet ((go_at_call 26; exact Calls.quiet_of_same (HKW.out _ (below_drewN (Below.refl _ _) _))))
                          have HBQ : Below wc.heap.size wc (wc.drewN nq) := below_drewN (Below.refl _ _) nq
                          have HXQ : Hid (∀ W, Chg F (wc.drewN nq) W → W.cell? ⟨wr.heap.size, 1, none⟩ = some (.int .i64 q) ∧ W.cell? ⟨wr.heap.size, 2, none⟩ = some (.int .i64 inc) ∧ W.cell? ⟨wr.heap.size, 3, none⟩ = some (.int .i64 tk) ∧ W.cell? ⟨w.heap.size, 0, none⟩ = some (.int .i64 (c.n : Int)) ∧ W.cell? ⟨w.heap.size, 1, none⟩ = some (.int .i64 (c.self : Int)) ∧ W.cell? ⟨wr.heap.size, 0, none⟩ = some (.int .i64 kd) ∧ W.cell? ⟨wr.heap.size, 4, none⟩ = some (.slice Ac nc capc)) := Lib.hid fun W hW => by
                            obtain ⟨h1, h2, h3⟩ := HXC.out W ((Chg.of_below HBQ F).trans hW)
                            exact ⟨h1.cell 1, h1.cell 2, h1.cell 3, h2, h3, h1.cell 0, h1.cell 4⟩
                          have HOQ : Hid ((wc.drewN nq).ownsRow w2.heap.size 61 5 (.slice A5 K.length cap5) K.length (rowsK K)) := Lib.hid (own_over HOC.out HBQ)
                          have hwq : w2.heap.size ≤ (wc.drewN nq).heap.size := hwc
                          have HQB := Lib.hid HBQ
                          clear p0 p1 p2 p3 p4 r0 r1 HBQ
                          generalize wc.drewN nq = wq at *
                          have HPP := Lib.hid fun (W : World) => pos_any tk 50 W htb.1 htb.2 (by omega)
                          have HHH := Lib.hid fun (W : World) => hears_any c.n c.self v W hn16 hsf
                          have HPX := Lib.hid fun (W : World) (hbW : Below wq.heap.size wq W) (g : Nat) (hgW : wq.heap.size ≤ g) (hBW : Blk W g 3 (rg (hearsZ c.n c.self v).length fun k => .int .i64 ((hearsZ c.n c.self v).getD k 0))) => HPH.out wq HQB.out g (by rw [hearsZ_len]; omega) W hbW hgW hBW
                          obtain ⟨z1, z2, z3, z4, z5, _, _⟩ := HXQ.out wq (Chg.refl _ _)
                          have hx0 := HXQ.out wq.drew ((Chg.refl _ _).drewN 1)
                          go_upto_region 13 with fail
                          go_region_held3 (fun w' => w'.cell? ⟨wr.heap.size, 1, none⟩ = some (.int .i64 q) ∧ w'.cell? ⟨wr.heap.size, 2, none⟩ = some (.int .i64 inc) ∧ w'.cell? ⟨wr.heap.size, 3, none⟩ = some (.int .i64 tk) ∧ w'.cell? ⟨w.heap.size, 0, none⟩ = some (.int .i64 (c.n : Int)) ∧ w'.cell? ⟨w.heap.size, 1, none⟩ = some (.int .i64 (c.self : Int)) ∧ w'.cell? ⟨wr.heap.size, 0, none⟩ = some (.int .i64 kd) ∧ w'.cell? ⟨wr.heap.size, 4, none⟩ = some (.slice Ac nc capc)) ((first | exact hx2 | exact hx1 | exact hx0)) ((first
                            | (go_at_call 12; refine (HPP.out _).mono ?_; rintro _ _ ⟨rfl, rfl⟩)
                            | (go_at_call 14; (try rw [← HVE.out]); refine (HHH.out wq.drew).mono ?_; rintro _ w9 ⟨g9, rfl, hg9, hB9, hb9⟩; have hb39 : Below wq.heap.size wq w9 := (below_drewN (Below.refl _ _) 1).trans hb9; have hx1 := HXQ.out w9 (Chg.of_below hb39 F); have HG9 := Lib.hid (And.intro hg9 hB9); clear hg9 hB9 hb9)
                            | (go_at_call 13; refine (HPX.out w9 hb39 g9 HG9.out.1 HG9.out.2).mono ?_; rintro _ w10 ⟨rfl, h10, h10c⟩; have HCC := Lib.hid ((Chg.of_below hb39 F).trans h10c); have hx2 := HXQ.out w10 HCC.out; have H10 := Lib.hid h10; clear h10 h10c)))
                          all_goals
                            obtain ⟨y1, y2, y3, y4, y5, y0, y6⟩ := hx2
                            have HO10 : Hid (w10.ownsRow w2.heap.size 61 5 (.slice A5 K.length cap5) K.length (rowsK K)) := Lib.hid (own_chg HOQ.out HCC.out fun g hg hF => by have := (HF2.out g hF).2; have := (own_block_lt HOQ.out hg).2.1; omega)
                            have hw10 : w2.heap.size ≤ w10.heap.size := by have := HCC.out.size; omega
                            clear hx0 hx1 z1 z2 z3 z4 z5
                            obtain rfl : E = 0 := hE0
                            go_wp2_with (first
                              | (go_at_call 15; refine (num_any _ _ (by omega) (by omega)).mono ?_; rintro _ _ ⟨rfl, rfl⟩)
                              | (at_builtin; refine appN w10 (by rfl) _ _ 25 (by rfl) w2.heap.size 61 i0 _ 5 56 u_opsL hi0 hz0 hz1 hz2 rfl (by decide) _ K.length _ (by rfl) HO10.out #[.int .i64 kd, .int .i64 q, .int .i64 inc, .int .i64 tk, .slice Ac nc capc] rfl (by rfl) (row_one ⟨kd, q, inc, tk, Ac, nc, capc⟩) (by simp only [maxLen]; omega) (by omega) hw10 ?_; intro v5 w5 own5 hb5 _))
                            go_meet
                            exact ⟨d2, K ++ [⟨kd, q, inc, tk, Ac, nc, capc⟩], by simp; omega, Lib.hid ⟨H10.out.above (fun k hk => (HF2.out k hk).2) hb2s hb5, HKd.out.app (HKn.out (by simp)) htb.1 htb.2, by have := hb5.size; omega⟩, Lib.hid (by rw [List.length_append, rowsK_app]; exact own5)⟩
                        · skip
                          go_upto_region 12 with fail
                          go_quiet ((go_at_call 26; exact Calls.quiet_of_same (HKW.out _ (below_drewN (Below.refl _ _) _))))
                          have HBQ : Below wc.heap.size wc (wc.drewN nq) := below_drewN (Below.refl _ _) nq
                          have HXQ : Hid (∀ W, Chg F (wc.drewN nq) W → W.cell? ⟨wr.heap.size, 1, none⟩ = some (.int .i64 q) ∧ W.cell? ⟨wr.heap.size, 2, none⟩ = some (.int .i64 inc) ∧ W.cell? ⟨wr.heap.size, 3, none⟩ = some (.int .i64 tk) ∧ W.cell? ⟨w.heap.size, 0, none⟩ = some (.int .i64 (c.n : Int)) ∧ W.cell? ⟨w.heap.size, 1, none⟩ = some (.int .i64 (c.self : Int)) ∧ W.cell? ⟨wr.heap.size, 0, none⟩ = some (.int .i64 kd) ∧ W.cell? ⟨wr.heap.size, 4, none⟩ = some (.slice Ac nc capc)) := Lib.hid fun W hW => by
                            obtain ⟨h1, h2, h3⟩ := HXC.out W ((Chg.of_below HBQ F).trans hW)
                            exact ⟨h1.cell 1, h1.cell 2, h1.cell 3, h2, h3, h1.cell 0, h1.cell 4⟩
                          have HOQ : Hid ((wc.drewN nq).ownsRow w2.heap.size 61 5 (.slice A5 K.length cap5) K.length (rowsK K)) := Lib.hid (own_over HOC.out HBQ)
                          have hwq : w2.heap.size ≤ (wc.drewN nq).heap.size := hwc
                          have HQB := Lib.hid HBQ
                          clear p0 p1 p2 p3 p4 r0 r1 HBQ
                          generalize wc.drewN nq = wq at *
                          have HPP := Lib.hid fun (W : World) => pos_any tk 50 W htb.1 htb.2 (by omega)
                          have HHH := Lib.hid fun (W : World) => hears_any c.n c.self v W hn16 hsf
                          have HPX := Lib.hid fun (W : World) (hbW : Below wq.heap.size wq W) (g : Nat) (hgW : wq.heap.size ≤ g) (hBW : Blk W g 3 (rg (hearsZ c.n c.self v).length fun k => .int .i64 ((hearsZ c.n c.self v).getD k 0))) => HPH.out wq HQB.out g (by rw [hearsZ_len]; omega) W hbW hgW hBW
                          obtain ⟨z1, z2, z3, z4, z5, _, _⟩ := HXQ.out wq (Chg.refl _ _)
                          have hx0 := HXQ.out wq.drew ((Chg.refl _ _).drewN 1)
                          go_upto_region 13 with fail
                          go_region_held3 (fun w' => w'.cell? ⟨wr.heap.size, 1, none⟩ = some (.int .i64 q) ∧ w'.cell? ⟨wr.heap.size, 2, none⟩ = some (.int .i64 inc) ∧ w'.cell? ⟨wr.heap.size, 3, none⟩ = some (.int .i64 tk) ∧ w'.cell? ⟨w.heap.size, 0, none⟩ = some (.int .i64 (c.n : Int)) ∧ w'.cell? ⟨w.heap.size, 1, none⟩ = some (.int .i64 (c.self : Int)) ∧ w'.cell? ⟨wr.heap.size, 0, none⟩ = some (.int .i64 kd) ∧ w'.cell? ⟨wr.heap.size, 4, none⟩ = some (.slice Ac nc capc)) ((first | exact hx2 | exact hx1 | exact hx0)) ((first
                            | (go_at_call 12; refine (HPP.out _).mono ?_; rintro _ _ ⟨rfl, rfl⟩)
                            | (go_at_call 14; (try rw [← HVE.out]); refine (HHH.out wq.drew).mono ?_; rintro _ w9 ⟨g9, rfl, hg9, hB9, hb9⟩; have hb39 : Below wq.heap.size wq w9 := (below_drewN (Below.refl _ _) 1).trans hb9; have hx1 := HXQ.out w9 (Chg.of_below hb39 F); have HG9 := Lib.hid (And.intro hg9 hB9); clear hg9 hB9 hb9)
                            | (go_at_call 13; refine (HPX.out w9 hb39 g9 HG9.out.1 HG9.out.2).mono ?_; rintro _ w10 ⟨rfl, h10, h10c⟩; have HCC := Lib.hid ((Chg.of_below hb39 F).trans h10c); have hx2 := HXQ.out w10 HCC.out; have H10 := Lib.hid h10; clear h10 h10c)))
                          all_goals
                            obtain ⟨y1, y2, y3, y4, y5, y0, y6⟩ := hx2
                            have HO10 : Hid (w10.ownsRow w2.heap.size 61 5 (.slice A5 K.length cap5) K.length (rowsK K)) := Lib.hid (own_chg HOQ.out HCC.out fun g hg hF => by have := (HF2.out g hF).2; have := (own_block_lt HOQ.out hg).2.1; omega)
                            have hw10 : w2.heap.size ≤ w10.heap.size := by have := HCC.out.size; omega
                            clear hx0 hx1 z1 z2 z3 z4 z5
                            by_cases hE0 : E = 0
                            · obtain rfl := hE0
                              go_wp2_with (first
                                | (go_at_call 15; refine (num_any _ _ (by omega) (by omega)).mono ?_; rintro _ _ ⟨rfl, rfl⟩)
                                | (at_builtin; refine appN w10 (by rfl) _ _ 25 (by rfl) w2.heap.size 61 i0 _ 5 56 u_opsL hi0 hz0 hz1 hz2 rfl (by decide) _ K.length _ (by rfl) HO10.out #[.int .i64 kd, .int .i64 q, .int .i64 inc, .int .i64 tk, .slice Ac nc capc] rfl (by rfl) (row_one ⟨kd, q, inc, tk, Ac, nc, capc⟩) (by simp only [maxLen]; omega) (by omega) hw10 ?_; intro v5 w5 own5 hb5 _))
                              go_meet
                              exact ⟨d2, K ++ [⟨kd, q, inc, tk, Ac, nc, capc⟩], by simp; omega, Lib.hid ⟨H10.out.above (fun k hk => (HF2.out k hk).2) hb2s hb5, HKd.out.app (HKn.out (by simp)) htb.1 htb.2, by have := hb5.size; omega⟩, Lib.hid (by rw [List.length_append, rowsK_app]; exact own5)⟩
                            · have e0 : (E == 0) = false := by simpa using hE0
                              go_wp2_with (go_at_call 15; refine (num_any _ _ (by omega) (by omega)).mono ?_; rintro _ _ ⟨rfl, rfl⟩)
                              go_meet
                              exact ⟨d2, K, by omega, Lib.hid ⟨H10.out, HKd.out, hw10⟩, HO10⟩
                      · skip
                        go_upto_region 12 with fail
                        go_quiet ((go_at_call 26; exact Calls.quiet_of_same (HKW.out _ (below_drewN (Below.refl _ _) _))))
                        have HBQ : Below wc.heap.size wc (wc.drewN nq) := below_drewN (Below.refl _ _) nq
                        have HXQ : Hid (∀ W, Chg F (wc.drewN nq) W → W.cell? ⟨wr.heap.size, 1, none⟩ = some (.int .i64 q) ∧ W.cell? ⟨wr.heap.size, 2, none⟩ = some (.int .i64 inc) ∧ W.cell? ⟨wr.heap.size, 3, none⟩ = some (.int .i64 tk) ∧ W.cell? ⟨w.heap.size, 0, none⟩ = some (.int .i64 (c.n : Int)) ∧ W.cell? ⟨w.heap.size, 1, none⟩ = some (.int .i64 (c.self : Int)) ∧ W.cell? ⟨wr.heap.size, 0, none⟩ = some (.int .i64 kd) ∧ W.cell? ⟨wr.heap.size, 4, none⟩ = some (.slice Ac nc capc)) := Lib.hid fun W hW => by
                          obtain ⟨h1, h2, h3⟩ := HXC.out W ((Chg.of_below HBQ F).trans hW)
                          exact ⟨h1.cell 1, h1.cell 2, h1.cell 3, h2, h3, h1.cell 0, h1.cell 4⟩
                        have HOQ : Hid ((wc.drewN nq).ownsRow w2.heap.size 61 5 (.slice A5 K.length cap5) K.length (rowsK K)) := Lib.hid (own_over HOC.out HBQ)
                        have hwq : w2.heap.size ≤ (wc.drewN nq).heap.size := hwc
                        have HQB := Lib.hid HBQ
                        clear p0 p1 p2 p3 p4 r0 r1 HBQ
                        generalize wc.drewN nq = wq at *
                        have HPP := Lib.hid fun (W : World) => pos_any tk 50 W htb.1 htb.2 (by omega)
                        have HHH := Lib.hid fun (W : World) => hears_any c.n c.self v W hn16 hsf
                        have HPX := Lib.hid fun (W : World) (hbW : Below wq.heap.size wq W) (g : Nat) (hgW : wq.heap.size ≤ g) (hBW : Blk W g 3 (rg (hearsZ c.n c.self v).length fun k => .int .i64 ((hearsZ c.n c.self v).getD k 0))) => HPH.out wq HQB.out g (by rw [hearsZ_len]; omega) W hbW hgW hBW
                        obtain ⟨z1, z2, z3, z4, z5, _, _⟩ := HXQ.out wq (Chg.refl _ _)
                        have hx0 := HXQ.out wq.drew ((Chg.refl _ _).drewN 1)
                        go_upto_region 13 with fail
                        go_region_held3 (fun w' => w'.cell? ⟨wr.heap.size, 1, none⟩ = some (.int .i64 q) ∧ w'.cell? ⟨wr.heap.size, 2, none⟩ = some (.int .i64 inc) ∧ w'.cell? ⟨wr.heap.size, 3, none⟩ = some (.int .i64 tk) ∧ w'.cell? ⟨w.heap.size, 0, none⟩ = some (.int .i64 (c.n : Int)) ∧ w'.cell? ⟨w.heap.size, 1, none⟩ = some (.int .i64 (c.self : Int)) ∧ w'.cell? ⟨wr.heap.size, 0, none⟩ = some (.int .i64 kd) ∧ w'.cell? ⟨wr.heap.size, 4, none⟩ = some (.slice Ac nc capc)) ((first | exact hx2 | exact hx1 | exact hx0)) ((first
                          | (go_at_call 12; refine (HPP.out _).mono ?_; rintro _ _ ⟨rfl, rfl⟩)
                          | (go_at_call 14; (try rw [← HVE.out]); refine (HHH.out wq.drew).mono ?_; rintro _ w9 ⟨g9, rfl, hg9, hB9, hb9⟩; have hb39 : Below wq.heap.size wq w9 := (below_drewN (Below.refl _ _) 1).trans hb9; have hx1 := HXQ.out w9 (Chg.of_below hb39 F); have HG9 := Lib.hid (And.intro hg9 hB9); clear hg9 hB9 hb9)
                          | (go_at_call 13; refine (HPX.out w9 hb39 g9 HG9.out.1 HG9.out.2).mono ?_; rintro _ w10 ⟨rfl, h10, h10c⟩; have HCC := Lib.hid ((Chg.of_below hb39 F).trans h10c); have hx2 := HXQ.out w10 HCC.out; have H10 := Lib.hid h10; clear h10 h10c)))
                        all_goals
                          obtain ⟨y1, y2, y3, y4, y5, y0, y6⟩ := hx2
                          have HO10 : Hid (w10.ownsRow w2.heap.size 61 5 (.slice A5 K.length cap5) K.length (rowsK K)) := Lib.hid (own_chg HOQ.out HCC.out fun g hg hF => by have := (HF2.out g hF).2; have := (own_block_lt HOQ.out hg).2.1; omega)
                          have hw10 : w2.heap.size ≤ w10.heap.size := by have := HCC.out.size; omega
                          clear hx0 hx1 z1 z2 z3 z4 z5
                          by_cases hE0 : E = 0
                          · obtain rfl := hE0
                            go_wp2_with (first
                              | (go_at_call 15; refine (num_any _ _ (by omega) (by omega)).mono ?_; rintro _ _ ⟨rfl, rfl⟩)
                              | (at_builtin; refine appN w10 (by rfl) _ _ 25 (by rfl) w2.heap.size 61 i0 _ 5 56 u_opsL hi0 hz0 hz1 hz2 rfl (by decide) _ K.length _ (by rfl) HO10.out #[.int .i64 kd, .int .i64 q, .int .i64 inc, .int .i64 tk, .slice Ac nc capc] rfl (by rfl) (row_one ⟨kd, q, inc, tk, Ac, nc, capc⟩) (by simp only [maxLen]; omega) (by omega) hw10 ?_; intro v5 w5 own5 hb5 _))
                            go_meet
                            exact ⟨d2, K ++ [⟨kd, q, inc, tk, Ac, nc, capc⟩], by simp; omega, Lib.hid ⟨H10.out.above (fun k hk => (HF2.out k hk).2) hb2s hb5, HKd.out.app (HKn.out (by simp)) htb.1 htb.2, by have := hb5.size; omega⟩, Lib.hid (by rw [List.length_append, rowsK_app]; exact own5)⟩
                          · have e0 : (E == 0) = false := by simpa using hE0
                            go_wp2_with (go_at_call 15; refine (num_any _ _ (by omega) (by omega)).mono ?_; rintro _ _ ⟨rfl, rfl⟩)
                            go_meet
                            exact ⟨d2, K, by omega, Lib.hid ⟨H10.out, HKd.out, hw10⟩, HO10⟩
                  · skip
                    go_upto_region 12 with fail
                    go_quiet (fail)
                    have HBQ : Below wc.heap.size wc (wc.drewN nq) := below_drewN (Below.refl _ _) nq
                    have HXQ : Hid (∀ W, Chg F (wc.drewN nq) W → W.cell? ⟨wr.heap.size, 1, none⟩ = some (.int .i64 q) ∧ W.cell? ⟨wr.heap.size, 2, none⟩ = some (.int .i64 inc) ∧ W.cell? ⟨wr.heap.size, 3, none⟩ = some (.int .i64 tk) ∧ W.cell? ⟨w.heap.size, 0, none⟩ = some (.int .i64 (c.n : Int)) ∧ W.cell? ⟨w.heap.size, 1, none⟩ = some (.int .i64 (c.self : Int)) ∧ W.cell? ⟨wr.heap.size, 0, none⟩ = some (.int .i64 kd) ∧ W.cell? ⟨wr.heap.size, 4, none⟩ = some (.slice Ac nc capc)) := Lib.hid fun W hW => by
                      obtain ⟨h1, h2, h3⟩ := HXC.out W ((Chg.of_below HBQ F).trans hW)
                      exact ⟨h1.cell 1, h1.cell 2, h1.cell 3, h2, h3, h1.cell 0, h1.cell 4⟩
                    have HOQ : Hid ((wc.drewN nq).ownsRow w2.heap.size 61 5 (.slice A5 K.length cap5) K.length (rowsK K)) := Lib.hid (own_over HOC.out HBQ)
                    have hwq : w2.heap.size ≤ (wc.drewN nq).heap.size := hwc
                    have HQB := Lib.hid HBQ
                    clear p0 p1 p2 p3 p4 r0 r1 HBQ
                    generalize wc.drewN nq = wq at *
                    have HPP := Lib.hid fun (W : World) => pos_any tk 50 W htb.1 htb.2 (by omega)
                    have HHH := Lib.hid fun (W : World) => hears_any c.n c.self v W hn16 hsf
                    have HPX := Lib.hid fun (W : World) (hbW : Below wq.heap.size wq W) (g : Nat) (hgW : wq.heap.size ≤ g) (hBW : Blk W g 3 (rg (hearsZ c.n c.self v).length fun k => .int .i64 ((hearsZ c.n c.self v).getD k 0))) => HPH.out wq HQB.out g (by rw [hearsZ_len]; omega) W hbW hgW hBW
                    obtain ⟨z1, z2, z3, z4, z5, _, _⟩ := HXQ.out wq (Chg.refl _ _)
                    have hx0 := HXQ.out wq.drew ((Chg.refl _ _).drewN 1)
                    go_upto_region 13 with fail
                    go_region_held3 (fun w' => w'.cell? ⟨wr.heap.size, 1, none⟩ = some (.int .i64 q) ∧ w'.cell? ⟨wr.heap.size, 2, none⟩ = some (.int .i64 inc) ∧ w'.cell? ⟨wr.heap.size, 3, none⟩ = some (.int .i64 tk) ∧ w'.cell? ⟨w.heap.size, 0, none⟩ = some (.int .i64 (c.n : Int)) ∧ w'.cell? ⟨w.heap.size, 1, none⟩ = some (.int .i64 (c.self : Int)) ∧ w'.cell? ⟨wr.heap.size, 0, none⟩ = some (.int .i64 kd) ∧ w'.cell? ⟨wr.heap.size, 4, none⟩ = some (.slice Ac nc capc)) ((first | exact hx2 | exact hx1 | exact hx0)) ((first
                      | (go_at_call 12; refine (HPP.out _).mono ?_; rintro _ _ ⟨rfl, rfl⟩)
                      | (go_at_call 14; (try rw [← HVE.out]); refine (HHH.out wq.drew).mono ?_; rintro _ w9 ⟨g9, rfl, hg9, hB9, hb9⟩; have hb39 : Below wq.heap.size wq w9 := (below_drewN (Below.refl _ _) 1).trans hb9; have hx1 := HXQ.out w9 (Chg.of_below hb39 F); have HG9 := Lib.hid (And.intro hg9 hB9); clear hg9 hB9 hb9)
                      | (go_at_call 13; refine (HPX.out w9 hb39 g9 HG9.out.1 HG9.out.2).mono ?_; rintro _ w10 ⟨rfl, h10, h10c⟩; have HCC := Lib.hid ((Chg.of_below hb39 F).trans h10c); have hx2 := HXQ.out w10 HCC.out; have H10 := Lib.hid h10; clear h10 h10c)))
                    all_goals
                      obtain ⟨y1, y2, y3, y4, y5, y0, y6⟩ := hx2
                      have HO10 : Hid (w10.ownsRow w2.heap.size 61 5 (.slice A5 K.length cap5) K.length (rowsK K)) := Lib.hid (own_chg HOQ.out HCC.out fun g hg hF => by have := (HF2.out g hF).2; have := (own_block_lt HOQ.out hg).2.1; omega)
                      have hw10 : w2.heap.size ≤ w10.heap.size := by have := HCC.out.size; omega
                      clear hx0 hx1 z1 z2 z3 z4 z5
                      by_cases hE0 : E = 0
                      · obtain rfl := hE0
                        go_wp2_with (first
                          | (go_at_call 15; refine (num_any _ _ (by omega) (by omega)).mono ?_; rintro _ _ ⟨rfl, rfl⟩)
                          | (at_builtin; refine appN w10 (by rfl) _ _ 25 (by rfl) w2.heap.size 61 i0 _ 5 56 u_opsL hi0 hz0 hz1 hz2 rfl (by decide) _ K.length _ (by rfl) HO10.out #[.int .i64 kd, .int .i64 q, .int .i64 inc, .int .i64 tk, .slice Ac nc capc] rfl (by rfl) (row_one ⟨kd, q, inc, tk, Ac, nc, capc⟩) (by simp only [maxLen]; omega) (by omega) hw10 ?_; intro v5 w5 own5 hb5 _))
                        go_meet
                        exact ⟨d2, K ++ [⟨kd, q, inc, tk, Ac, nc, capc⟩], by simp; omega, Lib.hid ⟨H10.out.above (fun k hk => (HF2.out k hk).2) hb2s hb5, HKd.out.app (HKn.out (by simp)) htb.1 htb.2, by have := hb5.size; omega⟩, Lib.hid (by rw [List.length_append, rowsK_app]; exact own5)⟩
                      · have e0 : (E == 0) = false := by simpa using hE0
                        go_wp2_with (go_at_call 15; refine (num_any _ _ (by omega) (by omega)).mono ?_; rintro _ _ ⟨rfl, rfl⟩)
                        go_meet
                        exact ⟨d2, K, by omega, Lib.hid ⟨H10.out, HKd.out, hw10⟩, HO10⟩
                · skip
                  go_upto_region 12 with fail
                  go_quiet (fail)
                  have HBQ : Below wc.heap.size wc (wc.drewN nq) := below_drewN (Below.refl _ _) nq
                  have HXQ : Hid (∀ W, Chg F (wc.drewN nq) W → W.cell? ⟨wr.heap.size, 1, none⟩ = some (.int .i64 q) ∧ W.cell? ⟨wr.heap.size, 2, none⟩ = some (.int .i64 inc) ∧ W.cell? ⟨wr.heap.size, 3, none⟩ = some (.int .i64 tk) ∧ W.cell? ⟨w.heap.size, 0, none⟩ = some (.int .i64 (c.n : Int)) ∧ W.cell? ⟨w.heap.size, 1, none⟩ = some (.int .i64 (c.self : Int)) ∧ W.cell? ⟨wr.heap.size, 0, none⟩ = some (.int .i64 kd) ∧ W.cell? ⟨wr.heap.size, 4, none⟩ = some (.slice Ac nc capc)) := Lib.hid fun W hW => by
                    obtain ⟨h1, h2, h3⟩ := HXC.out W ((Chg.of_below HBQ F).trans hW)
                    exact ⟨h1.cell 1, h1.cell 2, h1.cell 3, h2, h3, h1.cell 0, h1.cell 4⟩
                  have HOQ : Hid ((wc.drewN nq).ownsRow w2.heap.size 61 5 (.slice A5 K.length cap5) K.length (rowsK K)) := Lib.hid (own_over HOC.out HBQ)
                  have hwq : w2.heap.size ≤ (wc.drewN nq).heap.size := hwc
                  have HQB := Lib.hid HBQ
                  clear p0 p1 p2 p3 p4 r0 r1 HBQ
                  generalize wc.drewN nq = wq at *
                  have HPP := Lib.hid fun (W : World) => pos_any tk 50 W htb.1 htb.2 (by omega)
                  have HHH := Lib.hid fun (W : World) => hears_any c.n c.self v W hn16 hsf
                  have HPX := Lib.hid fun (W : World) (hbW : Below wq.heap.size wq W) (g : Nat) (hgW : wq.heap.size ≤ g) (hBW : Blk W g 3 (rg (hearsZ c.n c.self v).length fun k => .int .i64 ((hearsZ c.n c.self v).getD k 0))) => HPH.out wq HQB.out g (by rw [hearsZ_len]; omega) W hbW hgW hBW
                  obtain ⟨z1, z2, z3, z4, z5, _, _⟩ := HXQ.out wq (Chg.refl _ _)
                  have hx0 := HXQ.out wq.drew ((Chg.refl _ _).drewN 1)
                  go_upto_region 13 with fail
                  go_region_held3 (fun w' => w'.cell? ⟨wr.heap.size, 1, none⟩ = some (.int .i64 q) ∧ w'.cell? ⟨wr.heap.size, 2, none⟩ = some (.int .i64 inc) ∧ w'.cell? ⟨wr.heap.size, 3, none⟩ = some (.int .i64 tk) ∧ w'.cell? ⟨w.heap.size, 0, none⟩ = some (.int .i64 (c.n : Int)) ∧ w'.cell? ⟨w.heap.size, 1, none⟩ = some (.int .i64 (c.self : Int)) ∧ w'.cell? ⟨wr.heap.size, 0, none⟩ = some (.int .i64 kd) ∧ w'.cell? ⟨wr.heap.size, 4, none⟩ = some (.slice Ac nc capc)) ((first | exact hx2 | exact hx1 | exact hx0)) ((first
                    | (go_at_call 12; refine (HPP.out _).mono ?_; rintro _ _ ⟨rfl, rfl⟩)
                    | (go_at_call 14; (try rw [← HVE.out]); refine (HHH.out wq.drew).mono ?_; rintro _ w9 ⟨g9, rfl, hg9, hB9, hb9⟩; have hb39 : Below wq.heap.size wq w9 := (below_drewN (Below.refl _ _) 1).trans hb9; have hx1 := HXQ.out w9 (Chg.of_below hb39 F); have HG9 := Lib.hid (And.intro hg9 hB9); clear hg9 hB9 hb9)
                    | (go_at_call 13; refine (HPX.out w9 hb39 g9 HG9.out.1 HG9.out.2).mono ?_; rintro _ w10 ⟨rfl, h10, h10c⟩; have HCC := Lib.hid ((Chg.of_below hb39 F).trans h10c); have hx2 := HXQ.out w10 HCC.out; have H10 := Lib.hid h10; clear h10 h10c)))
                  all_goals
                    obtain ⟨y1, y2, y3, y4, y5, y0, y6⟩ := hx2
                    have HO10 : Hid (w10.ownsRow w2.heap.size 61 5 (.slice A5 K.length cap5) K.length (rowsK K)) := Lib.hid (own_chg HOQ.out HCC.out fun g hg hF => by have := (HF2.out g hF).2; have := (own_block_lt HOQ.out hg).2.1; omega)
                    have hw10 : w2.heap.size ≤ w10.heap.size := by have := HCC.out.size; omega
                    clear hx0 hx1 z1 z2 z3 z4 z5
                    by_cases hE0 : E = 0
                    · obtain rfl := hE0
                      go_wp2_with (first
                        | (go_at_call 15; refine (num_any _ _ (by omega) (by omega)).mono ?_; rintro _ _ ⟨rfl, rfl⟩)
                        | (at_builtin; refine appN w10 (by rfl) _ _ 25 (by rfl) w2.heap.size 61 i0 _ 5 56 u_opsL hi0 hz0 hz1 hz2 rfl (by decide) _ K.length _ (by rfl) HO10.out #[.int .i64 kd, .int .i64 q, .int .i64 inc, .int .i64 tk, .slice Ac nc capc] rfl (by rfl) (row_one ⟨kd, q, inc, tk, Ac, nc, capc⟩) (by simp only [maxLen]; omega) (by omega) hw10 ?_; intro v5 w5 own5 hb5 _))
                      go_meet
                      exact ⟨d2, K ++ [⟨kd, q, inc, tk, Ac, nc, capc⟩], by simp; omega, Lib.hid ⟨H10.out.above (fun k hk => (HF2.out k hk).2) hb2s hb5, HKd.out.app (HKn.out (by simp)) htb.1 htb.2, by have := hb5.size; omega⟩, Lib.hid (by rw [List.length_append, rowsK_app]; exact own5)⟩
                    · have e0 : (E == 0) = false := by simpa using hE0
                      go_wp2_with (go_at_call 15; refine (num_any _ _ (by omega) (by omega)).mono ?_; rintro _ _ ⟨rfl, rfl⟩)
                      go_meet
                      exact ⟨d2, K, by omega, Lib.hid ⟨H10.out, HKd.out, hw10⟩, HO10⟩
              · have e2 : (kd == 2) = false := by simpa using hk2
                clear hk2
                go_wp2_with fail
                go_meet
                exact ⟨d1, K, by omega, Lib.hid ⟨H1.out.1.up (by omega), H1.out.2.1, hwc⟩, HOC⟩
            case rest =>
              clear HXC HOC H1 hwc p0 HLX HOX HXB HNF hKA HOW HLS hcp5 hcm5 hqb hib htb hKi
              obtain ⟨d2, K2, hK2, HL2, HO2⟩ := hcut
              obtain ⟨A6, cap6, rfl, hcp6, hcm6⟩ := own_shape HO2.out
              obtain ⟨q0, q1, q2, q3, q4, q5, q6⟩ := HBX.out wc HL2.out.1.below
              have hwc := HL2.out.2.2
              have HAK := Lib.hid (fun (W : World) (h : Live w0 W F c D d2 (i' + 1)) => asked_any HC.out h)
              have HLn := Lib.hid (askP_len c d2 c.n)
              generalize askP c d2 c.n = L at *
              go_wp2_with fail
              refine (HAK.out wc HL2.out.1).mono ?_
              rintro _ w5 ⟨Ab, kb, rfl, hob, hb5⟩
              have HOB := Lib.hid hob
              have HL5 := Lib.hid (HL2.out.1.over hb5)
              have HO5 : Hid (w5.ownsRow w2.heap.size 61 5 (.slice A6 K2.length cap6) K2.length (rowsK K2)) := Lib.hid (own_over HO2.out hb5)
              have HKA := Lib.hid HL2.out.2.1
              have hs5 := hb5.size
              clear hob hb5 HO2 HL2 q0 q1 q2 q3 q4 q5 q6
              go_wp2_with fail
              go_loopw [11, 12, 13] (fun a11 _ _ wr => ∃ j' : Nat, j' ≤ K2.length ∧ a11 = .int .i64 (j' : Int) ∧ Hid (Live w0 wr F c D d2 (i' + 1) ∧ Chg F w5 wr)) (fun a11 _ _ _ => K2.length - (intOf a11).toNat)
              case atStart => exact ⟨0, by omega, rfl, Lib.hid ⟨HL5.out, Chg.refl _ _⟩⟩
              case round =>
                clear HL5
                obtain ⟨j', hj', rfl, HJ⟩ := hrel
                have HOJ : Hid (wr.ownsRow w2.heap.size 61 5 (.slice A6 K2.length cap6) K2.length (rowsK K2)) := Lib.hid (own_chg HO5.out HJ.out.2 fun g hg hF => by have := (HF2.out g hF).2; have := (own_block_lt HO5.out hg).2.1; omega)
                obtain ⟨q0, q1, q2, q3, q4, q5, q6⟩ := HBX.out wr HJ.out.1.below
                have hwr5 := HJ.out.2.size
                by_cases hjl : j' < K2.length
                · have hjI : (j' : Int) < (K2.length : Int) := by omega
                  obtain ⟨g, capg, x, hv, hxm, m0, m1, m2, m3, m4⟩ := kept_at HOJ.out hjl
                  have hkx := HKA.out x hxm
                  obtain ⟨kd2, q2', inc2, tk2, Ac2, nc2, cc2⟩ := x
                  simp only [Value.slice.injEq] at hv
                  obtain ⟨rfl, _, rfl⟩ := hv
                  simp only at hkx m0 m1 m2 m3 m4
                  have hX := Blk.new wr 61 #[.int .i64 kd2, .int .i64 q2', .int .i64 inc2, .int .i64 tk2, .slice Ac2 nc2 cc2]
                  have hbx := one_box' wr (.cells #[.int .i64 kd2, .int .i64 q2', .int .i64 inc2, .int .i64 tk2, .slice Ac2 nc2 cc2] 61)
                  obtain ⟨wx, hwx⟩ : ∃ wx, wx = wr.alloc (.cells #[.int .i64 kd2, .int .i64 q2', .int .i64 inc2, .int .i64 tk2, .slice Ac2 nc2 cc2] 61) := ⟨_, rfl⟩
                  rw [← hwx] at hX hbx
                  have HWX := Lib.hid hwx
                  have hsx := hbx.size
                  have HLX : Hid (Live w0 wx F c D d2 (i' + 1)) := Lib.hid (HJ.out.1.over hbx)
                  have HCX : Hid (Chg F w5 wx) := Lib.hid (HJ.out.2.trans (Chg.of_below hbx F))
                  have HNF : Hid (¬ F wr.heap.size) := Lib.hid fun h => by have := (HF2.out _ h).2; omega
                  have HXB := Lib.hid hX
                  have HXQ : Hid (∀ W, Chg F wx W → W.cell? ⟨wr.heap.size, 1, none⟩ = some (.int .i64 q2') ∧ W.cell? ⟨wr.heap.size, 2, none⟩ = some (.int .i64 inc2) ∧ W.cell? ⟨wr.heap.size, 3, none⟩ = some (.int .i64 tk2) ∧ W.cell? ⟨w.heap.size, 0, none⟩ = some (.int .i64 (c.n : Int)) ∧ W.cell? ⟨w.heap.size, 1, none⟩ = some (.int .i64 (c.self : Int)) ∧ W.cell? ⟨w.heap.size, 2, none⟩ = some (.int .i64 c.inc)) := Lib.hid fun W hW => by
                    have hnw : ¬ F w.heap.size := fun h => by have := (HF2.out _ h).1; have := HDR.out; omega
                    have hrb := (HSB.out.over HLX.out.below).chg hW hnw
                    have hob := HXB.out.chg hW HNF.out
                    exact ⟨hob.cell 1, hob.cell 2, hob.cell 3, hrb.cell 0, hrb.cell 1, hrb.cell 2⟩
                  have hpb := posZ_bd (v := tk2) (n := 50) (by omega)
                  have HPP := Lib.hid fun (W : World) => pos_any tk2 50 W hkx.2.1 hkx.2.2 (by omega)
                  have HHH := Lib.hid fun (W : World) => hears_any c.n c.self c.inc W hn16 hsf
                  have HPX := fun (W : World) (hbW : Below wx.heap.size wx W) (g : Nat) (hgW : wx.heap.size ≤ g) (hBW : Blk W g 3 (rg (hearsZ c.n c.self c.inc).length fun k => .int .i64 ((hearsZ c.n c.self c.inc).getD k 0))) => kept_call HC.out HLX.out hkx.1 (by omega) hpb.1 (by omega) W hbW g hgW hBW
                  have HE2 := Lib.hid (hkx.1.refused HC.out hpb.1 (by omega)).1
                  have HPX := Lib.hid HPX
                  generalize hearE c d2 q2' inc2 (posZ tk2 50) (hearsZ c.n c.self c.inc) = E2 at *
                  clear hwx hX hkx
                  go_upto_region 23 with fail
                  rw [← HWX.out]
                  clear m0 m1 m2 m3 m4 q0 q1 q2 q3 q4 q5 q6
                  obtain ⟨z1, z2, z3, z4, z5, z6⟩ := HXQ.out wx (Chg.refl _ _)
                  have hx0 := HXQ.out wx.drew ((Chg.refl _ _).drewN 1)
                  go_region_held3 (fun w' => w'.cell? ⟨wr.heap.size, 1, none⟩ = some (.int .i64 q2') ∧ w'.cell? ⟨wr.heap.size, 2, none⟩ = some (.int .i64 inc2) ∧ w'.cell? ⟨wr.heap.size, 3, none⟩ = some (.int .i64 tk2) ∧ w'.cell? ⟨w.heap.size, 0, none⟩ = some (.int .i64 (c.n : Int)) ∧ w'.cell? ⟨w.heap.size, 1, none⟩ = some (.int .i64 (c.self : Int)) ∧ w'.cell? ⟨w.heap.size, 2, none⟩ = some (.int .i64 c.inc)) ((first | exact hx2 | exact hx1 | exact hx0)) ((first
                    | (go_at_call 12; refine (HPP.out _).mono ?_; rintro _ _ ⟨rfl, rfl⟩)
                    | (go_at_call 14; refine (HHH.out wx.drew).mono ?_; rintro _ w9 ⟨g9, rfl, hg9, hB9, hb9⟩; have hb39 : Below wx.heap.size wx w9 := (below_drewN (Below.refl _ _) 1).trans hb9; have hx1 := HXQ.out w9 (Chg.of_below hb39 F); have HG9 := Lib.hid (And.intro hg9 hB9); clear hg9 hB9 hb9)
                    | (go_at_call 13; refine (HPX.out w9 hb39 g9 HG9.out.1 HG9.out.2).mono ?_; rintro _ w10 ⟨rfl, h10, h10c⟩; have HCC := Lib.hid ((Chg.of_below hb39 F).trans h10c); have hx2 := HXQ.out w10 HCC.out; have H10 := Lib.hid h10; clear h10 h10c)))
                  all_goals
                    clear hx0 hx1 hx2 z1 z2 z3 z4 z5 z6
                    have HJ2 : Hid (Live w0 w10 F c D d2 (i' + 1) ∧ Chg F w5 w10) := Lib.hid ⟨H10.out, HCX.out.trans HCC.out⟩
                    rcases HE2.out with he | he
                    · obtain rfl := he
                      go_wp2_with (go_at_call 15; refine (num_any _ _ (by omega) (by omega)).mono ?_; rintro _ _ ⟨rfl, rfl⟩)
                      go_roundw
                      case rel => first | exact ⟨j' + 1, by omega, by go_num, HJ2⟩ | ((repeat apply Exists.intro); refine And.symm ⟨rfl, ?_⟩; exact ⟨j' + 1, by omega, by go_num, HJ2⟩)
                      case measure => simp [intOf] <;> omega
                    · obtain rfl := he
                      go_wp2_with (go_at_call 15; refine (num_any _ _ (by omega) (by omega)).mono ?_; rintro _ _ ⟨rfl, rfl⟩)
                      go_roundw
                      case rel => first | exact ⟨j' + 1, by omega, by go_num, HJ2⟩ | ((repeat apply Exists.intro); refine And.symm ⟨rfl, ?_⟩; exact ⟨j' + 1, by omega, by go_num, HJ2⟩)
                      case measure => simp [intOf] <;> omega
                · have hjI : ¬ (j' : Int) < (K2.length : Int) := by omega
                  have HOBr : Hid (wr.ownsRow wc.heap.size 3 1 (.slice Ab L.length kb) L.length (ivs L)) := Lib.hid (own_chg HOB.out HJ.out.2 fun g hg hF => by have := (HF2.out g hF).2; have := (own_block_lt HOB.out hg).2.1; omega)
                  go_wp2_with fail
                  refine (HAK.out wr HJ.out.1).mono ?_
                  intro e6 w6 g6
                  obtain ⟨A7, k7, rfl, hr7, hb6⟩ := g6.rd
                  have HSY := Lib.hid (same_yes Ab A7 L.length kb k7 L w6 (Rd.of_own (own_over HOBr.out hb6)) hr7 (by have := HLn.out; omega))
                  have HJ6 : Hid (Live w0 w6 F c D d2 (i' + 1) ∧ w6.ownsRow w2.heap.size 61 5 (.slice A6 K2.length cap6) K2.length (rowsK K2)) := Lib.hid ⟨HJ.out.1.over hb6, own_over HOJ.out hb6⟩
                  have hs6 := hb6.size
                  clear g6 hr7 hb6 q0 q1 q2 q3 q4 q5 q6
                  go_wp2_with fail
                  refine HSY.out.mono ?_
                  rintro _ w7 ⟨rfl, hb7⟩
                  have HR7 : Hid (Live w0 w7 F c D d2 (i' + 1) ∧ KeptAll c d2 K2 ∧ w2.heap.size ≤ w7.heap.size) := Lib.hid ⟨HJ6.out.1.over hb7, HKA.out, by have := hb7.size; omega⟩
                  have HO7 := Lib.hid (own_over HJ6.out.2 hb7)
                  clear hb7
                  go_wp2
                  go_roundw
                  case rel => first | exact ⟨i' + 1, d2, K2, by omega, by go_num, hK2, HR7, HO7⟩ | ((repeat apply Exists.intro); refine And.symm ⟨rfl, ?_⟩; exact ⟨i' + 1, d2, K2, by omega, by go_num, hK2, HR7, HO7⟩)
                  case measure => simp [intOf] <;> omega
        · have hdx : ¬ (i' : Int) < 100 := h100
          have HE : Hid (Below w.heap.size w wr) := Lib.hid (HB0.out.trans (HLS.out.1.below.mono hs0))
          go_wp2
          go_ret
          exact ⟨rfl, HE.out⟩
      · have hI : ¬ (i' : Int) < (n1 : Int) := by omega
        have HE : Hid (Below w.heap.size w wr) := Lib.hid (HB0.out.trans (HLS.out.1.below.mono hs0))
        go_wp2
        go_ret
        exact ⟨rfl, HE.out⟩
  · have HK := Lib.hid hok
    clear hok
    refine (began_no x0 x1 x2 x3 x4 x5 HK.out hn0 hn1 none 0 0).mono ?_
    rintro _ w2 ⟨rfl, hb2⟩
    have HE : Hid (Below w.heap.size w w2) := Lib.hid (HB0.out.trans (hb2.mono hs0))
    clear r0 r1 r2 r3 r4 r5 r6
    go_wp2
    go_ret
    exact ⟨rfl, HE.out⟩
end Go.Proofs.Ytfjpmoigpnmeoaa
