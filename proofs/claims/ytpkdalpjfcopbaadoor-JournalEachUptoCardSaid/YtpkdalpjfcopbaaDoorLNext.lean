/-
  The document's next. And: The document's frame beside what stands in the file: plain. No program text.
-/
import Derived.Test.YtpkdalpjfcopbaaDoorKRec
import Derived.Test.YtpkdalpjfcopbaaDoorLComp
namespace Go.Proofs.YtpkdalpjfcopbaaDoor
theorem frame_iff {l : List UInt8} {p : Nat} {y0 y1 y2 y3 : UInt8} (h : part l p 4 = [y0, y1, y2, y3]) {bl : Nat} (hbl : bl = y1.toNat * 256 + y2.toNat) (hp : p + 8 + bl ≤ l.length) :
    frameB (part l (p - 4) 4) ⟨(y0.toNat : Int), part l (p + 4) bl⟩ = part l p (8 + bl) ↔ (165 ^^^ y0 ^^^ y1 ^^^ y2 = y3 ∧ numB (part l (p + 4 + bl) 4) = Crc.crc (part l (p - 4) 4 ++ part l p (4 + bl))) := by
  have h1 := y1.toNat_lt
  have h2 := y2.toNat_lt
  have a1 : UInt8.ofNat y0.toNat = y0 := UInt8.ofNat_toNat
  have a2 : UInt8.ofNat (bl / 256) = y1 := by
    rw [show bl / 256 = y1.toNat by omega]
    exact UInt8.ofNat_toNat
  have a3 : UInt8.ofNat bl = y2 := by
    apply UInt8.toNat_inj.mp
    rw [UInt8.toNat_ofNat']
    omega
  have hlb : (part l (p + 4) bl).length = bl := part_length (by omega)
  have ef : four y0.toNat bl = [y0, y1, y2, 165 ^^^ y0 ^^^ y1 ^^^ y2] := by rw [four, a1, a2, a3]
  have eh : frameH ⟨(y0.toNat : Int), part l (p + 4) bl⟩ = [y0, y1, y2, 165 ^^^ y0 ^^^ y1 ^^^ y2] ++ part l (p + 4) bl := by
    rw [frameH]
    dsimp only
    rw [hlb, Int.toNat_natCast, ef]
  have es : part l p (8 + bl) = ([y0, y1, y2, y3] ++ part l (p + 4) bl) ++ part l (p + 4 + bl) 4 := by
    rw [show 8 + bl = 4 + (bl + 4) by omega, part_split, part_split, h, List.append_assoc]
  have e4 : part l p (4 + bl) = [y0, y1, y2, y3] ++ part l (p + 4) bl := by rw [part_split, h]
  rw [frameB, eh, es, e4]
  have hl4 : (part l (p + 4 + bl) 4).length = 4 := part_length (by omega)
  constructor
  · intro e
    have e1 := List.append_inj e (by simp)
    have e2 := List.append_inj e1.1 (by simp)
    have e3 : 165 ^^^ y0 ^^^ y1 ^^^ y2 = y3 := by
      have := e2.1
      injection this with _ this
      injection this with _ this
      injection this with _ this
      injection this
    refine ⟨e3, ?_⟩
    have e5 := e1.2
    rw [e3] at e5
    exact (beN_inj hl4 (Crc.crc_lt _)).1 e5
  · rintro ⟨e3, e5⟩
    rw [e3]
    congr 1
    exact (beN_inj hl4 (Crc.crc_lt _)).2 e5
end Go.Proofs.YtpkdalpjfcopbaaDoor
namespace Go.Proofs.YtpkdalpjfcopbaaDoor
open Go.RowKit
def NextR (w : World) (bs : List UInt8) (p : Nat) (e : Ending) (w' : World) : Prop :=
  Below w.heap.size w w' ∧ match nextR bs p with
    | none => e = .returned (.tuple #[.agg #[.int .i64 0, .slice none 0 0], .bool false])
    | some r => ∃ A' c', e = .returned (.tuple #[.agg #[.int .i64 r.kind, .slice A' r.body.length c'], .bool true]) ∧ w'.ownsRow w.heap.size 5 1 (.slice A' r.body.length c') r.body.length (bvs r.body)
theorem nextResults (b : Bool) (t4 : Nat) (tmps : Array Value) (w : World) (x0 x1 : Value) (h4 : tmps.getD 4 undef = .pointer (some ⟨t4, 0, none⟩)) (h5 : tmps.getD 5 undef = .bool b) (hp : Blk w t4 34 #[x0, x1]) :
    (results Tryd.f69 tmps).run Tryd.prog w = .ok (.tuple #[.agg #[x0, x1], .bool b]) w := by
  have c0 : w.cell? ⟨t4, 0, none⟩ = some x0 := hp.cell 0
  have c1 : w.cell? ⟨t4, 1, none⟩ = some x1 := hp.cell 1
  simp only [results]
  rw [show Tryd.f69.results = #[.cell 4 34, .tmp 5] from rfl]
  rw [Array.getD_eq_getD_getElem?] at h4 h5
  simp [h4, h5, c0, c1, go_sem]
theorem wrap64_u8 (a : UInt8) : wrap64 (a.toNat : Int) = (a.toNat : Int) := by
  have := a.toNat_lt
  unfold wrap64
  omega
theorem blk2_set {w : World} {g t : Nat} {a b : Value} (h : Blk w g t #[a, b]) (x y : Value) : Blk ((w.setCell ⟨g, 0, none⟩ x).setCell ⟨g, 1, none⟩ y) g t #[x, y] ∧ Chg (fun k => k = g) w ((w.setCell ⟨g, 0, none⟩ x).setCell ⟨g, 1, none⟩ y) :=
  ⟨(h.set_ 0 x).set_ 1 y, ((Chg.refl (fun k => k = g) w).setCell (p := ⟨g, 0, none⟩) (.inl rfl) x).setCell (p := ⟨g, 1, none⟩) (.inl rfl) y⟩
set_option maxRecDepth 100000 in
set_option maxHeartbeats 1600000 in
theorem Rnext_any {w : World} {n cap p : Nat} {A : Option Addr} {bs : List UInt8} (hr : RdB w w.heap.size A n bs) (hn : n ≤ 65536) (hnc : n ≤ cap) (h4p : 4 ≤ p) (hp : p < n) :
    Calls Tryd.prog 69 #[.slice A n cap, .int .i64 (p : Int)] w (NextR w bs p) := by
  obtain ⟨i0, hi0, hz0, hz1, hz2⟩ := info_parts info_u8
  have hl := hr.lenB
  obtain ⟨w1, hw1⟩ : ∃ w1, w1 = w.alloc (.cells #[.int .i64 0, .slice none 0 0] 34) := ⟨_, rfl⟩
  have hb1 : Below w.heap.size w w1 := by rw [hw1]; exact one_box' _ _
  have hR1 : Blk w1 w.heap.size 34 #[.int .i64 0, .slice none 0 0] := by rw [hw1]; exact Blk.new _ _ _
  have HW1 := Lib.hid hw1
  have H1 := Lib.hid (And.intro hb1 hR1)
  have HR := Lib.hid ((hr.below hb1).more hb1.size)
  have HL := Lib.hid hl
  obtain ⟨PP, hPP⟩ : ∃ PP, PP = NextR w bs p := ⟨_, rfl⟩
  have HXN : Hid (nextR bs p = none → ∀ w', Below w.heap.size w w' → PP (.returned (.tuple #[.agg #[.int .i64 0, .slice none 0 0], .bool false])) w') := Lib.hid fun hx w' hb => by
    rw [hPP]
    exact ⟨hb, by rw [hx]⟩
  have HXS : Hid (∀ r, nextR bs p = some r → ∀ A' c' w', Below w.heap.size w w' → w'.ownsRow w.heap.size 5 1 (.slice A' r.body.length c') r.body.length (bvs r.body) → PP (.returned (.tuple #[.agg #[.int .i64 r.kind, .slice A' r.body.length c'], .bool true])) w') := Lib.hid fun r hx A' c' w' hb ho => by
    rw [hPP]
    refine ⟨hb, ?_⟩
    rw [hx]
    exact ⟨A', c', rfl, ho⟩
  rw [← hPP]
  clear hPP hw1 hb1 hR1 hr hl
  have r0 : w1.cell? ⟨w.heap.size, 0, none⟩ = some (.int .i64 0) := H1.out.2.cell 0
  have r1 : w1.cell? ⟨w.heap.size, 1, none⟩ = some (.slice none 0 0) := H1.out.2.cell 1
  have q0 := H1.out.2.frozen 0
  have q1 := H1.out.2.frozen 1
  have HZZ : Hid (∀ W, Below w1.heap.size w1 W → Blk ((W.setCell ⟨w.heap.size, 0, none⟩ (.int .i64 0)).setCell ⟨w.heap.size, 1, none⟩ (.slice none 0 0)) w.heap.size 34 #[.int .i64 0, .slice none 0 0] ∧ Below w.heap.size w ((W.setCell ⟨w.heap.size, 0, none⟩ (.int .i64 0)).setCell ⟨w.heap.size, 1, none⟩ (.slice none 0 0))) := Lib.hid fun W hb => by
    obtain ⟨h1, h2⟩ := blk2_set (H1.out.2.over hb) (.int .i64 0) (.slice none 0 0)
    have hbw := H1.out.1.trans (hb.mono H1.out.1.size)
    exact ⟨h1, hbw.trans (h2.to_below hbw.size fun k e => by omega)⟩
  by_cases h8 : n < p + 8
  · have hI : (n : Int) < (p : Int) + 8 := by omega
    have hx : nextR bs p = none := by
      unfold nextR
      rw [if_neg (by have := HL.out; omega)]
    have HX := Lib.hid hx
    clear hx
    go_enter Tryd.func69, Tryd.ntmps69
    go_upto_region 1 with fail
    rw [← HW1.out]
    go_wp2
    have hz := HZZ.out w1 (Below.refl _ _)
    exact bodyPost_ret (nextResults false w.heap.size _ _ _ _ rfl rfl hz.1) rfl (HXN.out HX.out _ hz.2)
  · have hI : ¬ (n : Int) < (p : Int) + 8 := by omega
    obtain ⟨y0, y1, y2, y3, hy⟩ := list4 (part_length (l := bs) (p := p) (n := 4) (by have := HL.out; omega))
    obtain ⟨bl, hbl⟩ : ∃ bl, bl = y1.toNat * 256 + y2.toNat := ⟨_, rfl⟩
    have hnx := nextR_four hy hbl
    have e2 : part bs (p + 1) 2 = [y1, y2] := by
      have := part_sub (l := bs) (p := p) (n := 4) (a := 1) (b := 2) (by omega)
      rw [hy] at this
      exact this.symm
    have e0 : bs[p]? = some y0 := by
      have h1 : (part bs p 4)[0]? = bs[p]? := by
        unfold part
        rw [List.getElem?_take, if_pos (by omega), List.getElem?_drop, Nat.add_zero]
      rw [← h1, hy]
      rfl
    have hb1' : y1.toNat < 256 := y1.toNat_lt
    have hb2' : y2.toNat < 256 := y2.toNat_lt
    have hblt : bl ≤ 65535 := by omega
    have hval : valR (numB (part bs (p + 1) 2)) = (bl : Int) := by
      rw [e2, numB_two, ← hbl]
      unfold valR
      rw [if_pos (by omega)]
    have hvc := value_any (cap := cap) HR.out (by omega) (p + 1) 2 (by omega)
    rw [hval, show ((p + 1 : Nat) : Int) = (p : Int) + 1 by omega, show ((p + 1 + 2 : Nat) : Int) = (p : Int) + 3 by omega] at hvc
    have HVC := Lib.hid hvc
    obtain ⟨bb, off, c, rfl, hbb, hcx, hcell⟩ := HR.out.byte (k := p) (by omega)
    rw [e0] at hcx
    injection hcx with hcx
    subst hcx
    have HNX := Lib.hid hnx
    have HY := Lib.hid (And.intro hy hbl)
    have HC0 : Hid (w1.cell? ⟨bb, off + p, none⟩ = some (.int .u8 (y0.toNat : Int))) := Lib.hid hcell
    clear hnx hy hbl hval hvc e0 e2 hcell hb1' hb2'
    by_cases hbad : bl ≤ 4200 ∧ p + 8 + bl ≤ n
    · have d1 : decide (4200 < (bl : Int)) = false := decide_eq_false (by omega)
      have d2 : ¬ (n : Int) < (p : Int) + 8 + (bl : Int) := by omega
      have d2' : decide ((n : Int) < (p : Int) + 8 + (bl : Int)) = false := decide_eq_false d2
      have cy := HC0.out
      go_enter Tryd.func69, Tryd.ntmps69
      go_upto_region 1 with fail
      rw [← HW1.out]
      go_upto_region 7 with (go_at_call 67; refine HVC.out.mono ?_; rintro _ w2 ⟨rfl, rfl⟩)
      rw [wrap64_u8 y0]
      obtain ⟨w2, hw2⟩ : ∃ y, y = w1.alloc (.cells #[.int .i64 (y0.toNat : Int), .slice none 0 0] 34) := ⟨_, rfl⟩
      rw [← hw2]
      have hb2 : Below w1.heap.size w1 w2 := by rw [hw2]; exact one_box' _ _
      have hX2 : Blk w2 w1.heap.size 34 #[.int .i64 (y0.toNat : Int), .slice none 0 0] := by rw [hw2]; exact Blk.new _ _ _
      have t1 : w2.cell? ⟨w1.heap.size, 1, none⟩ = some (.slice none 0 0) := hX2.cell 1
      obtain ⟨a, ha⟩ : ∃ a, a = p + 4 := ⟨_, rfl⟩
      obtain ⟨b, hb⟩ : ∃ b, b = p + 4 + bl := ⟨_, rfl⟩
      have s1 : IntKind.i64.wrap ((p : Int) + 4) = (a : Int) := by rw [IntWalk.i64_in _ (by omega)]; omega
      have s2 : IntKind.i64.wrap ((a : Int) + (bl : Int)) = (b : Int) := by rw [IntWalk.i64_in _ (by omega)]; omega
      have g0 : (0 : Int) ≤ (a : Int) := by omega
      have g1 : (a : Int) ≤ (b : Int) := by omega
      have g2 : (b : Int) ≤ (cap : Int) := by omega
      have hne : ¬ cap = a := by omega
      have hsz : b - a = bl := by omega
      have HAB := Lib.hid (And.intro ha hb)
      have hrd2 := (HR.out.below hb2).more hb2.size
      have HSR : Hid (RdB w2.drew w2.drew.heap.size (some ⟨bb, off + a, none⟩) bl (part bs (p + 4) bl)) := Lib.hid (by
        have h1 := (Rd.sliceB hrd2 (lo := p + 4) (p := bl) (by omega)).dn 1
        simp only [Option.map_some, addr_add] at h1
        rw [ha]
        exact h1)
      have H2 := Lib.hid (And.intro hb2 (And.intro hX2 hrd2))
      clear hw2 hb2 hX2 hrd2 ha hb cy
      refine region_tail 10 (by kernel_rfl) (by kernel_rfl) ?_
      simp only [List.take_succ_cons, List.take_zero, List.drop_succ_cons, List.drop_zero]
      repeat still_step
      refine wpStill_nil ?_
      have hX2d : Blk w2.drew w1.heap.size 34 #[.int .i64 (y0.toNat : Int), .slice none 0 0] := H2.out.2.1.drewN 1
      have hB2d : Below w.heap.size w w2.drew := below_drewN (H1.out.1.trans (H2.out.1.mono H1.out.1.size)) 1
      have hB12 : Below w1.heap.size w1 w2.drew := below_drewN H2.out.1 1
      have HRn := Lib.hid (And.intro hX2d (And.intro hB2d hB12))
      have hnil : w2.drew.ownsRow w.heap.size 5 1 (.slice none 0 0) 0 [] := ⟨by simp, .inl ⟨rfl, rfl⟩⟩
      have HNIL := Lib.hid hnil
      have HRD2 : Hid (RdB w2.drew w2.drew.heap.size (some ⟨bb, off, none⟩) n bs) := Lib.hid (H2.out.2.2.dn 1)
      clear t1 hX2d hB2d hB12 hnil s1 s2 g0 g1 g2 hne hsz H2
      generalize w2.drew = wd at HRn HNIL HSR HRD2 ⊢
      go_upto_region 8 with (
         at_builtin
         refine wpList_append_any _ (by rfl) _ _ 22 (by rfl) w.heap.size 5 i0 _ 1 1 u_bytes hi0 hz0 hz1 hz2 rfl (by omega) _ 0 [] (by rfl) HNIL.out wd.heap.size _ bl (cap - a) (bvs (part bs (p + 4) bl)) (by rfl) HSR.out (bvs_one _) (by simp only [maxLen]; omega) (by omega) HRn.out.2.1.size ?_
         intro v3 w3 ho3 hg3 _
         obtain ⟨A3, c3, rfl, _, _⟩ := own_shape ho3
         have hb3 := nil_app hg3
         have hX3 := HRn.out.1.over hb3
         have k1 : w3.cell? ⟨w1.heap.size, 1, none⟩ = some (.slice none 0 0) := hX3.cell 1
         have kf := hX3.frozen 1
         have H3 := Lib.hid (And.intro ho3 (And.intro hb3 hX3))
         clear ho3 hg3 hb3 hX3)
      have hcs := (Chg.refl (fun y => y = w1.heap.size) w3).setCell (p := ⟨w1.heap.size, 1, none⟩) (.inl rfl) (.slice A3 bl c3)
      have hX4 := H3.out.2.2.set_ 1 (.slice A3 bl c3)
      clear k1 kf
      generalize hw4 : w3.setCell ⟨w1.heap.size, 1, none⟩ (.slice A3 bl c3) = w4 at hcs hX4 ⊢
      clear hw4
      have hb13 := HRn.out.2.2.trans (H3.out.2.1.mono HRn.out.2.2.size)
      have hb14 : Below w1.heap.size w1 w4 := hb13.trans (hcs.to_below hb13.size fun y e => by omega)
      have ho4 := own_chg H3.out.1 hcs fun g hg e => by
        subst e
        exact absurd ((own_isT H3.out.1 hg).eq_ H3.out.2.2.isT) (by decide)
      rw [Nat.zero_add, List.nil_append] at ho4
      have hrd4 : RdB w4 w4.heap.size (some ⟨bb, off, none⟩) n bs := ((HR.out.below hb14)).more hb14.size
      have H4 := Lib.hid (And.intro hX4 (And.intro hb14 (And.intro ho4 hrd4)))
      have k0 : w4.cell? ⟨w1.heap.size, 0, none⟩ = some (.int .i64 (y0.toNat : Int)) := hX4.cell 0
      have k1 : w4.cell? ⟨w1.heap.size, 1, none⟩ = some (.slice A3 bl c3) := hX4.cell 1
      have HVA := Lib.hid (Valid_any (y0.toNat : Int) A3 bl c3 w4 (by omega))
      have hkind : okB (y0.toNat : Int) bl = decide (1 ≤ y0.toNat ∧ y0.toNat ≤ 4) := by
        unfold okB
        rw [decide_eq_decide]
        omega
      rw [hkind] at HVA
      clear hkind hcs hX4 hb13 hb14 ho4 hrd4
      have hHB : Hid (Below w.heap.size w w4) := Lib.hid (H1.out.1.trans (H4.out.2.1.mono H1.out.1.size))
      by_cases hk : 1 ≤ y0.toNat ∧ y0.toNat ≤ 4
      · rw [decide_eq_true hk] at HVA
        have HK := Lib.hid hk
        clear hk
        go_upto_region 11 with (go_at_call 57; refine HVA.out.mono ?_; rintro _ w5 ⟨rfl, hb5⟩; have H5 := Lib.hid hb5; clear hb5)
        have hX5 := H4.out.1.over H5.out
        have hR5 := H4.out.2.2.2.below H5.out
        have hO5 := own_over H4.out.2.2.1 H5.out
        have x0 : w5.cell? ⟨w1.heap.size, 0, none⟩ = some (.int .i64 (y0.toNat : Int)) := hX5.cell 0
        have x1 : w5.cell? ⟨w1.heap.size, 1, none⟩ = some (.slice A3 bl c3) := hX5.cell 1
        obtain ⟨d, hd⟩ : ∃ d, d = p - 4 := ⟨_, rfl⟩
        have s1 : IntKind.i64.wrap ((p : Int) - 4) = (d : Int) := by rw [IntWalk.i64_in _ (by omega)]; omega
        have g0 : (0 : Int) ≤ (d : Int) := by omega
        have g1 : (d : Int) ≤ (p : Int) := by omega
        have g2 : (p : Int) ≤ (cap : Int) := by omega
        have hne : ¬ cap = d := by omega
        have hsz : p - d = 4 := by omega
        have hsm : RdB w5.drew w5.drew.heap.size (some ⟨bb, off + d, none⟩) 4 (part bs (p - 4) 4) := by
          have h1 := ((Rd.sliceB hR5 (lo := p - 4) (p := 4) (by omega)).more H5.out.size).dn 1
          simp only [Option.map_some, addr_add] at h1
          rw [hd]
          exact h1
        have hbb : RdB w5.drew w5.drew.heap.size A3 bl (part bs (p + 4) bl) := (Rd.of_own hO5).dn 1
        have HFR := Lib.hid (Rframe_any (w := w5.drew) (some ⟨bb, off + d, none⟩) (cap - d) (part bs (p - 4) 4) y0.toNat A3 bl c3 (part bs (p + 4) bl) hsm hbb (by omega) (by have := HK.out; omega))
        have hXd : Blk w5.drew w1.heap.size 34 #[.int .i64 (y0.toNat : Int), .slice A3 bl c3] := hX5.drewN 1
        have hRd : RdB w5.drew w4.heap.size (some ⟨bb, off, none⟩) n bs := hR5.dn 1
        have hOd : w5.drew.ownsRow w.heap.size 5 1 (.slice A3 bl c3) bl (bvs (part bs (p + 4) bl)) := hO5
        have hBd : Below w1.heap.size w1 w5.drew := below_drewN (H4.out.2.1.trans (H5.out.mono H4.out.2.1.size)) 1
        have HD := Lib.hid (And.intro hXd (And.intro (hRd.more (Nat.le_trans H5.out.size (Nat.le_refl _) : w4.heap.size ≤ w5.drew.heap.size)) (And.intro hOd hBd)))
        clear hX5 hR5 hO5 hsm hbb hXd hRd hOd hBd hd k0 k1
        refine region_tail 6 (by kernel_rfl) (by kernel_rfl) ?_
        simp only [List.take_succ_cons, List.take_zero, List.drop_succ_cons, List.drop_zero]
        repeat still_step
        refine wpStill_nil ?_
        clear s1 g0 g1 g2 hne hsz x0 x1
        generalize w5.drew = we at HFR HD ⊢
        go_upto_region 12 with (go_at_call 58; refine HFR.out.mono ?_; rintro _ w6 ⟨A6, c6, rfl, ho6, hb6⟩; have H6 := Lib.hid (And.intro ho6 hb6); clear ho6 hb6)
        have hrf : RdB w6 w6.heap.size A6 (8 + bl) (frameB (part bs (p - 4) 4) ⟨(y0.toNat : Int), part bs (p + 4) bl⟩) := Rd.of_own H6.out.1
        have hrb : RdB w6 w6.heap.size (some ⟨bb, off, none⟩) n bs := HD.out.2.1.over H6.out.2
        have hrp : RdB w6 w6.heap.size (some ⟨bb, off + p, none⟩) (8 + bl) (part bs p (8 + bl)) := by
          have h1 := Rd.sliceB hrb (lo := p) (p := 8 + bl) (by omega)
          simp only [Option.map_some, addr_add] at h1
          exact h1
        have k1 := fun d c => conv_rd (P := Tryd.prog) (cap := c) (hrf.dn d) Tryd.underlying22 Tryd.underlying5 Tryd.underlying9
        have k2 := fun d c => conv_rd (P := Tryd.prog) (cap := c) (hrp.dn d) Tryd.underlying22 Tryd.underlying5 Tryd.underlying9
        have hiff := frame_iff HY.out.1 HY.out.2 (by have := HL.out; omega)
        have HIF := Lib.hid hiff
        generalize hfr : frameB (part bs (p - 4) 4) ⟨(y0.toNat : Int), part bs (p + 4) bl⟩ = fr at k1 hiff
        generalize hpp : part bs p (8 + bl) = pp at k2 hiff
        have HFP := Lib.hid (And.intro hfr hpp)
        have s1 : IntKind.i64.wrap ((p : Int) + 8) = (p : Int) + 8 := IntWalk.i64_in _ (by omega)
        obtain ⟨q, hq⟩ : ∃ q, q = p + 8 + bl := ⟨_, rfl⟩
        have s2 : IntKind.i64.wrap ((p : Int) + 8 + (bl : Int)) = (q : Int) := by rw [IntWalk.i64_in _ (by omega)]; omega
        have g0 : (0 : Int) ≤ (p : Int) := by omega
        have g1 : (p : Int) ≤ (q : Int) := by omega
        have g2 : (q : Int) ≤ (cap : Int) := by omega
        have hne : ¬ cap = p := by omega
        have hsz : q - p = 8 + bl := by omega
        have hX6 := HD.out.1.over H6.out.2
        have hO6 := own_over HD.out.2.2.1 H6.out.2
        have hB6 := HD.out.2.2.2.trans (H6.out.2.mono HD.out.2.2.2.size)
        have H7 := Lib.hid (And.intro hX6 (And.intro hO6 hB6))
        clear hrf hrb hrp hiff hfr hpp hq hX6 hO6 hB6
        by_cases he : fr = pp
        · have hs : (fr == pp) = true := by simpa using he
          have hgood := (HIF.out).1 (by rw [HFP.out.1, HFP.out.2]; exact he)
          have hx : nextR bs p = some ⟨(y0.toNat : Int), part bs (p + 4) bl⟩ := by
            rw [HNX.out, if_pos ⟨by have := HL.out; omega, hbad.1, hgood.1, HK.out.1, HK.out.2, hgood.2⟩]
          have HX := Lib.hid hx
          clear hgood hx he
          go_quiet (fail)
          clear s1 s2 g0 g1 g2 hne hsz k1 k2
          have h7r : Blk (w6.drewN nq) w.heap.size 34 #[.int .i64 0, .slice none 0 0] := (H1.out.2.over H7.out.2.2).drewN nq
          have h7b : Below w1.heap.size w1 (w6.drewN nq) := below_drewN H7.out.2.2 nq
          have h7x : Blk (w6.drewN nq) w1.heap.size 34 #[.int .i64 (y0.toNat : Int), .slice A3 bl c3] := H7.out.1.drewN nq
          have h7o : (w6.drewN nq).ownsRow w.heap.size 5 1 (.slice A3 bl c3) bl (bvs (part bs (p + 4) bl)) := H7.out.2.1
          clear r0 r1 q0 q1
          generalize w6.drewN nq = w7 at h7r h7b h7x h7o ⊢
          have r0 : w7.cell? ⟨w.heap.size, 0, none⟩ = some (.int .i64 0) := h7r.cell 0
          have r1 : w7.cell? ⟨w.heap.size, 1, none⟩ = some (.slice none 0 0) := h7r.cell 1
          have q0 := h7r.frozen 0
          have q1 := h7r.frozen 1
          have x0 : w7.cell? ⟨w1.heap.size, 0, none⟩ = some (.int .i64 (y0.toNat : Int)) := h7x.cell 0
          have x1 : w7.cell? ⟨w1.heap.size, 1, none⟩ = some (.slice A3 bl c3) := h7x.cell 1
          have H8 := Lib.hid (And.intro h7r (And.intro h7b h7o))
          clear h7r h7b h7x h7o
          go_wp2
          obtain ⟨h1, h2⟩ := blk2_set H8.out.1 (.int .i64 (y0.toNat : Int)) (.slice A3 bl c3)
          have hbw : Below w.heap.size w w7 := H1.out.1.trans (H8.out.2.1.mono H1.out.1.size)
          have hlb : (part bs (p + 4) bl).length = bl := part_length (by have := HL.out; omega)
          have hfin := HXS.out _ HX.out A3 c3 _ (hbw.trans (h2.to_below hbw.size fun y e => by omega)) (by
            dsimp only
            rw [hlb]
            exact own_chg H8.out.2.2 h2 fun g hg e => by
              subst e
              exact absurd ((own_isT H8.out.2.2 hg).eq_ H8.out.1.isT) (by decide))
          dsimp only at hfin
          rw [hlb] at hfin
          exact bodyPost_ret (nextResults true w.heap.size _ _ _ _ rfl rfl h1) rfl hfin
        · have hs : (fr == pp) = false := by simpa using he
          have hx : nextR bs p = none := by
            rw [HNX.out, if_neg (fun h => he (by rw [← HFP.out.1, ← HFP.out.2]; exact (HIF.out).2 ⟨h.2.2.1, h.2.2.2.2.2⟩))]
          have HX := Lib.hid hx
          clear hx he
          go_quiet (fail)
          clear s1 s2 g0 g1 g2 hne hsz k1 k2
          have h7r : Blk (w6.drewN nq) w.heap.size 34 #[.int .i64 0, .slice none 0 0] := (H1.out.2.over H7.out.2.2).drewN nq
          have h7b : Below w1.heap.size w1 (w6.drewN nq) := below_drewN H7.out.2.2 nq
          have h7x : Blk (w6.drewN nq) w1.heap.size 34 #[.int .i64 (y0.toNat : Int), .slice A3 bl c3] := H7.out.1.drewN nq
          have h7o : (w6.drewN nq).ownsRow w.heap.size 5 1 (.slice A3 bl c3) bl (bvs (part bs (p + 4) bl)) := H7.out.2.1
          clear r0 r1 q0 q1
          generalize w6.drewN nq = w7 at h7r h7b h7x h7o ⊢
          have r0 : w7.cell? ⟨w.heap.size, 0, none⟩ = some (.int .i64 0) := h7r.cell 0
          have r1 : w7.cell? ⟨w.heap.size, 1, none⟩ = some (.slice none 0 0) := h7r.cell 1
          have q0 := h7r.frozen 0
          have q1 := h7r.frozen 1
          have H8 := Lib.hid h7b
          clear h7r h7b h7x h7o
          go_wp2
          have hz := HZZ.out w7 H8.out
          exact bodyPost_ret (nextResults false w.heap.size _ _ _ _ rfl rfl hz.1) rfl (HXN.out HX.out _ hz.2)
      · rw [decide_eq_false hk] at HVA
        have hx : nextR bs p = none := by
          rw [HNX.out, if_neg (fun h => hk ⟨h.2.2.2.1, h.2.2.2.2.1⟩)]
        have HX := Lib.hid hx
        clear hx hk
        go_wp2_with (go_at_call 57; refine HVA.out.mono ?_; rintro _ w5 ⟨rfl, hb5⟩; have H5 := Lib.hid hb5; have hX5 := (H1.out.2.over (H4.out.2.1)).over hb5; have r0 : w5.cell? ⟨w.heap.size, 0, none⟩ = some (.int .i64 0) := hX5.cell 0; have r1 : w5.cell? ⟨w.heap.size, 1, none⟩ = some (.slice none 0 0) := hX5.cell 1; have q0 := hX5.frozen 0; have q1 := hX5.frozen 1; clear hb5 hX5)
        have hz := HZZ.out w5 (H4.out.2.1.trans (H5.out.mono H4.out.2.1.size))
        exact bodyPost_ret (nextResults false w.heap.size _ _ _ _ rfl rfl hz.1) rfl (HXN.out HX.out _ hz.2)
    · have hx : nextR bs p = none := by
        rw [HNX.out, if_neg (fun h => hbad ⟨h.2.1, by have := HL.out; omega⟩)]
      have HX := Lib.hid hx
      clear hx
      by_cases hb4 : bl ≤ 4200
      · have d1 : decide (4200 < (bl : Int)) = false := decide_eq_false (by omega)
        have d2 : decide ((n : Int) < (p : Int) + 8 + (bl : Int)) = true := decide_eq_true (by omega)
        clear hbad
        go_enter Tryd.func69, Tryd.ntmps69
        go_upto_region 1 with fail
        rw [← HW1.out]
        go_wp2_with (go_at_call 67; refine HVC.out.mono ?_; rintro _ w2 ⟨rfl, rfl⟩)
        have hz := HZZ.out w1 (Below.refl _ _)
        exact bodyPost_ret (nextResults false w.heap.size _ _ _ _ rfl rfl hz.1) rfl (HXN.out HX.out _ hz.2)
      · have d1 : decide (4200 < (bl : Int)) = true := decide_eq_true (by omega)
        clear hbad
        go_enter Tryd.func69, Tryd.ntmps69
        go_upto_region 1 with fail
        rw [← HW1.out]
        go_wp2_with (go_at_call 67; refine HVC.out.mono ?_; rintro _ w2 ⟨rfl, rfl⟩)
        have hz := HZZ.out w1 (Below.refl _ _)
        exact bodyPost_ret (nextResults false w.heap.size _ _ _ _ rfl rfl hz.1) rfl (HXN.out HX.out _ hz.2)
end Go.Proofs.YtpkdalpjfcopbaaDoor
