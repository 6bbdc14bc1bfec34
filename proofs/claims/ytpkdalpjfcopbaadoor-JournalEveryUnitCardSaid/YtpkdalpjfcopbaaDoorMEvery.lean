/-
  JournalEveryUnit: the law, walked.
-/
import Derived.Test.YtpkdalpjfcopbaaDoorMBetween
import Derived.Test.YtpkdalpjfcopbaaDoorMBrief
namespace Go.Proofs.YtpkdalpjfcopbaaDoor
open Go.ChangeShapes Go.WideShapes Go.ChangeAt Go.RowKit
theorem dr_chg' {S : Nat → Prop} {w w' : World} (h : Chg S w.drew w') : Chg S w w' := ⟨h.os, h.tape, h.output, h.size, h.block⟩
theorem cost_app_8 {i : Nat} (hi : i ≤ 1) (s : List UInt8) (r : Rc) : 8 ≤ costW [⟨(i : Int), false, frameB s r⟩] := by
  rw [cost_more hi, frameB_length]
  omega
theorem cost_beg_8 (k g c : Nat) (l : List Rc) : 8 ≤ costW [⟨((1 - k : Nat) : Int), true, textB g c l⟩] := by
  rw [cost_start (by omega), textB_length]
  omega
/-- A desk behind the law's beginning, its generation and its text bounded. -/
def EDesk (w : World) (tg m : Nat) (wr : World) : Prop := ∃ jg j f, Desk wr tg jg j f ∧ w.heap.size ≤ tg ∧ w.heap.size ≤ jg ∧ j.gen ≤ 1 + 2 * m ∧ bodies j.recs ≤ 48 * m ∧ Below w.heap.size w wr
theorem EDesk.below {w wr : World} {tg m : Nat} (h : EDesk w tg m wr) : Below w.heap.size w wr := by
  obtain ⟨_, _, _, _, _, _, _, _, h⟩ := h
  exact h
theorem EDesk.over {w wr w' : World} {tg m : Nat} (h : EDesk w tg m wr) (hb : Below wr.heap.size wr w') : EDesk w tg m w' := by
  obtain ⟨jg, j, f, hd, h1, h2, h3, h4, h5⟩ := h
  exact ⟨jg, j, f, hd.over hb, h1, h2, h3, h4, h5.trans (hb.mono h5.size)⟩
theorem EDesk.plays {w wr : World} {tg m : Nat} (h : EDesk w tg m wr) (kd on kn ln rk : Int) (A : Option Addr) (n cap : Nat) (body : List UInt8) (hr : RdB wr w.heap.size A n body) (hn40 : n ≤ 40) (hkn : kn ≤ 9223372036854775807) (hm : m ≤ 40) (ht : Nibs w) :
    Calls Tryd.prog 31 #[.pointer (some ⟨tg, 0, none⟩), .agg #[.int .i64 kd, .int .i64 on, .int .i64 kn, .int .i64 ln, .int .i64 rk, .slice A n cap]] wr fun e w' => e = .returned (.bool true) ∧ EDesk w tg (m + 1) w' := by
  obtain ⟨jg, j, f, hd, h1, h2, h3, h4, hb⟩ := h
  have hl := hr.lenB
  refine (dplays_any kd on kn ln rk A n cap body hd (by omega) (hr.more hb.size) (fun h0 b o s e => by have := rd_lt hr h0 e; omega) (by omega) hkn (ht.below hb)).mono fun e w' ⟨he, jg', j', f', hd', hg', hj', hc, _, hbd⟩ => ⟨he, jg', j', f', hd', h1, ?_, by omega, ?_, hb.trans (hc.to_below hb.size fun k e => e.elim (fun e => e ▸ h1) fun e => e ▸ h2)⟩
  · have := hb.size
    rcases hj' with h | h <;> omega
  · have : (⟨rk, body⟩ : Rc).body.length = n := hl
    omega
/-- What the law holds when it tears: the disk, the writes, the records ahead of them and behind. -/
structure Ev (w wr : World) (tg : Nat) (A0 : Option Addr) (c0 : Nat) (A1 : Option Addr) (c1 : Nat) (Ab : Option Addr) (cb : Nat) (Aw : Option Addr) (cw : Nat) (A8 : Option Addr) (c8 : Nat) (j j' : JP) (f : Fls) (ws : List Wr) : Prop where
  blk : ∃ p q, Blk wr tg 63 #[p, .slice A0 f.a.length c0, .slice A1 f.b.length c1, .slice Ab j.recs.length cb, q]
  o0 : RdB wr wr.heap.size A0 f.a.length f.a
  o1 : RdB wr wr.heap.size A1 f.b.length f.b
  bk : RcRd wr (fun _ => False) Ab j.recs.length j.recs
  wo : WOut wr 0 (.slice Aw ws.length cw) ws
  af : RcRd wr (fun _ => False) A8 j'.recs.length j'.recs
  bw : Below w.heap.size w wr
  good : Good f j
  wrs : Writes j f j' ws
  c8 : 8 ≤ costW ws
  gen : j.gen ≤ 1125899906842000
theorem Ev.over {w wr w' : World} {tg : Nat} {A0 A1 Ab Aw A8 : Option Addr} {c0 c1 cb cw c8 : Nat} {j j' : JP} {f : Fls} {ws : List Wr} (h : Ev w wr tg A0 c0 A1 c1 Ab cb Aw cw A8 c8 j j' f ws) (hb : Below wr.heap.size wr w') : Ev w w' tg A0 c0 A1 c1 Ab cb Aw cw A8 c8 j j' f ws := by
  obtain ⟨p, q, hB⟩ := h.blk
  exact ⟨⟨p, q, hB.over hb⟩, h.o0.over hb, h.o1.over hb, h.bk.below hb, h.wo.below hb, h.af.below hb, h.bw.trans (hb.mono h.bw.size), h.good, h.wrs, h.c8, h.gen⟩
theorem apply_r {w : World} {A DA DB : Option Addr} {n cap ca cb : Nat} {ws : List Wr} {f : Fls} (k : Int) (h : WOut w 0 (.slice A n cap) ws) (hc : costW ws ≤ 65537) (ha : RdB w w.heap.size DA f.a.length f.a) (hb : RdB w w.heap.size DB f.b.length f.b) (hl : f.a.length ≤ 65536 ∧ f.b.length ≤ 65536) :
    Calls Tryd.prog 37 #[.agg #[.slice DA f.a.length ca, .slice DB f.b.length cb], .slice A n cap, .int .i64 k] w (GivesF w (apD ws k f)) := by
  have h1 := PApply_any (w := w) A n cap ws DA DB ca cb f k h.wsN (by omega) (by have := h.wsN.len; have := h.few; omega) ha hb (by omega) (by omega)
  rw [apply_same] at h1
  exact h1
/-- One disk between, and the records that it must give. -/
structure Mid (wr : World) (D : Nat) (B0 : Option Addr) (e0 : Nat) (B1 : Option Addr) (e1 : Nat) (Aq : Option Addr) (recs : List Rc) (g : Fls) : Prop where
  blk : Blk wr D 24 #[.slice B0 g.a.length e0, .slice B1 g.b.length e1]
  o0 : wr.ownsRow 0 5 1 (.slice B0 g.a.length e0) g.a.length (bvs g.a)
  o1 : wr.ownsRow 0 5 1 (.slice B1 g.b.length e1) g.b.length (bvs g.b)
  rc : RcRd wr (fun _ => False) Aq recs.length recs
  half : ∃ k x, Half g k x ∧ x.recs = recs ∧ x.gen ≤ 1125899906842600
section
variable {wr w' : World} {D : Nat} {B0 B1 Aq : Option Addr} {e0 e1 : Nat} {recs : List Rc} {g : Fls}
theorem Mid.over (h : Mid wr D B0 e0 B1 e1 Aq recs g) (hb : Below wr.heap.size wr w') : Mid w' D B0 e0 B1 e1 Aq recs g := ⟨h.blk.over hb, own_over h.o0 hb, own_over h.o1 hb, h.rc.below hb, h.half⟩
theorem own_len {w : World} {base n c : Nat} {A : Option Addr} {xs : List Value} (h : w.ownsRow base 5 1 (.slice A n c) n xs) : n ≤ c ∧ c ≤ 9223372036854775807 := by
  obtain ⟨_, _, e, h1, h2⟩ := own_shape h
  injection e with _ _ e
  subst e
  simp only [maxLen] at h2
  exact ⟨h1, h2⟩
/-- Reading it gives them. -/
theorem Mid.reads (h : Mid wr D B0 e0 B1 e1 Aq recs g) (cq : Nat) (ht : Nibs wr) : Calls Tryd.prog 32 #[.agg #[.slice B0 g.a.length e0, .slice B1 g.b.length e1], .slice Aq recs.length cq] wr fun e w' => e = .returned (.bool true) ∧ Below wr.heap.size wr w' := by
  obtain ⟨k, x, hh, hx, hg⟩ := h.half
  obtain ⟨j1, ws1, ho, _⟩ := hh.opens (by omega)
  rw [hx] at ho
  exact reads_any (Rd.of_own h.o0) (Rd.of_own h.o1) (own_len h.o0).1 (own_len h.o1).1 (own_len h.o0).2 (own_len h.o1).2 h.rc ho ht
end
theorem mid_reads {wr : World} {B0 B1 Aq : Option Addr} {e0 e1 base : Nat} {recs : List Rc} {g : Fls} {k : Nat} {x : Fi} (cq : Nat) (o0 : wr.ownsRow base 5 1 (.slice B0 g.a.length e0) g.a.length (bvs g.a)) (o1 : wr.ownsRow base 5 1 (.slice B1 g.b.length e1) g.b.length (bvs g.b)) (rc : RcRd wr (fun _ => False) Aq recs.length recs) (hh : Half g k x) (hx : x.recs = recs) (hg : x.gen ≤ 1125899906842600) (ht : Nibs wr) :
    Calls Tryd.prog 32 #[.agg #[.slice B0 g.a.length e0, .slice B1 g.b.length e1], .slice Aq recs.length cq] wr fun e w' => e = .returned (.bool true) ∧ Below wr.heap.size wr w' := by
  obtain ⟨j1, ws1, ho, _⟩ := hh.opens (by omega)
  rw [hx] at ho
  exact reads_any (Rd.of_own o0) (Rd.of_own o1) (own_len o0).1 (own_len o1).1 (own_len o0).2 (own_len o1).2 rc ho ht
theorem field_rec (kd on kn ln rk : Int) (v : Value) (w : World) : Sem.run Tryd.prog (Instr.field 57 (.agg #[.int .i64 kd, .int .i64 on, .int .i64 kn, .int .i64 ln, .int .i64 rk, v]) 4) w = .ok (.agg #[.int .i64 rk, v]) w := by kernel_rfl
theorem tmod4 (x : Int) : -3 ≤ x.tmod 4 ∧ x.tmod 4 ≤ 3 := by
  have h1 := Int.tmod_lt_of_pos x (show (0 : Int) < 4 by omega)
  have h2 := Int.tmod_lt_of_pos (-x) (show (0 : Int) < 4 by omega)
  rw [Int.neg_tmod] at h2
  omega
theorem kind_bd (x : Int) : 1 ≤ wrap64 (1 + (wrap64 (x.tmod 4 + 4)).tmod 4) ∧ wrap64 (1 + (wrap64 (x.tmod 4 + 4)).tmod 4) ≤ 4 := by
  have h := tmod4 x
  generalize x.tmod 4 = y at h ⊢
  have e1 : wrap64 (y + 4) = y + 4 := by unfold wrap64; omega
  rw [e1]
  have e2 : (y + 4).tmod 4 = (y + 4) % 4 := Int.tmod_eq_emod_of_nonneg (by omega)
  rw [e2]
  have h3 : 0 ≤ (y + 4) % 4 ∧ (y + 4) % 4 < 4 := by omega
  generalize (y + 4) % 4 = z at h3 ⊢
  have e3 : wrap64 (1 + z) = 1 + z := by unfold wrap64; omega
  rw [e3]
  omega
set_option maxRecDepth 100000 in
set_option maxHeartbeats 6400000 in
theorem Every_go (Av : Option Addr) (n cap : Nat) (kd on kn ln rk0 : Int) (A : Option Addr) (nb capb : Nat) (body0 : List UInt8) (w : World) (hn : n ≤ 140737488351232) (ho : Ops w w.heap.size Av n) (hr0 : RdB w w.heap.size A nb body0) (hnb : nb ≤ capb) (_hcb0 : capb ≤ 140737488351232) (_hbk : -9223372036854775808 ≤ rk0 ∧ rk0 ≤ 9223372036854775807) (ht : Nibs w) :
    Calls Tryd.prog 7 #[.slice Av n cap, .agg #[.int .i64 kd, .int .i64 on, .int .i64 kn, .int .i64 ln, .int .i64 rk0, .slice A nb capb]] w fun e w' => e = .returned (.bool true) ∧ Below w.heap.size w w' := by
  obtain ⟨w1, hw1⟩ : ∃ w1, w1 = w.alloc (.cells #[.int .i64 kd, .int .i64 on, .int .i64 kn, .int .i64 ln, .int .i64 rk0, .slice A nb capb] 57) := ⟨_, rfl⟩
  have hb1 : Below w.heap.size w w1 := by rw [hw1]; exact one_box' _ _
  have hX1 : Blk w1 w.heap.size 57 #[.int .i64 kd, .int .i64 on, .int .i64 kn, .int .i64 ln, .int .i64 rk0, .slice A nb capb] := by rw [hw1]; exact Blk.new _ _ _
  have HO := Lib.hid (ho.below hb1)
  have HT := Lib.hid ht
  have HT1 : Hid (Nibs w1) := Lib.hid (ht.below hb1)
  have HFR := Lib.hid (fresh_any HT1.out)
  have HX1 := Lib.hid hX1
  have HB1 := Lib.hid hb1
  have HR0 := Lib.hid hr0
  have HSW : Hid (w.heap.size < w1.heap.size) := Lib.hid hX1.lt
  have HW1 := Lib.hid hw1
  clear ho ht hw1 hb1 hX1 hr0
  go_enter Tryd.func7, Tryd.ntmps7
  go_upto_region 1 with fail
  rw [← HW1.out]
  clear HW1
  go_upto_region 4 with (go_at_call 30; refine HFR.out.mono ?_; rintro _ w2 ⟨tg, jg, f, rfl, hd1, ht1, hj1, hb2⟩; have H2 : Hid (EDesk w1 tg 0 w2) := Lib.hid ⟨jg, newJ, f, hd1, ht1, hj1, by decide, by decide, hb2⟩; clear hd1 ht1 hj1 hb2)
  go_upto_block 0 with fail
  go_cut [6] from 20 to 142 (fun d wc => ∃ m, m ≤ 40 ∧ Hid (EDesk w1 tg m wc))
  case first =>
    go_wp2_with fail
    go_loopw [6] (fun i wr => ∃ k : Nat, k ≤ 40 ∧ i = .int .i64 (k : Int) ∧ Hid (EDesk w1 tg k wr)) (fun i _ => 40 - (intOf i).toNat)
    case atStart => exact ⟨0, by omega, rfl, H2⟩
    case round =>
      clear H2
      obtain ⟨k, hk, rfl, HTW⟩ := hrel
      by_cases hgo : k < n ∧ k < 40
      · obtain ⟨hlt, h4⟩ := hgo
        have hI : (k : Int) < (n : Int) := by omega
        have hI4 : (k : Int) < 40 := by omega
        obtain ⟨b, off, rfl, hbl, hops⟩ := (HO.out.below (HTW.out.below.mono (Nat.le_of_lt HSW.out))) (by omega)
        obtain ⟨kd', on', kn', ln', rk', Ao, no, capo, body, hop⟩ := hops k hlt
        have c0 := hop.c0
        have c1 := hop.c1
        have c2 := hop.c2
        have c3 := hop.c3
        have c4 := hop.c4
        have c5 := hop.c5
        have HBF := Lib.hid (brief_any (w := wr) kd' on' kn' ln' rk' Ao no capo hop.le)
        have HOP := Lib.hid hop
        clear hop hops
        go_wp2_with (first
          | (go_at_call 33; refine HBF.out.mono ?_; rintro _ w3 ⟨rfl, hb3⟩; have H3 := Lib.hid hb3; clear hb3; have HPL := Lib.hid ((HTW.out.over H3.out).plays kd' on' kn' ln' rk' Ao (min no 40) capo (body.take (min no 40)) (((HOP.out.rd.more (Nat.le_of_lt HSW.out)).takeB (Nat.min_le_left _ _)).below (H3.out.mono HTW.out.below.size)) (Nat.min_le_right _ _) HOP.out.bk.2 (by omega) HT1.out))
          | (go_at_call 31; refine HPL.out.mono ?_; rintro _ w4 ⟨rfl, ht4⟩; have H4 := Lib.hid ht4; clear ht4))
        clear c0 c1 c2 c3 c4 c5
        go_roundw
        case rel => exact ⟨k + 1, by omega, by go_num, H4⟩
        case measure => simp [intOf] <;> omega
      · by_cases h1 : k < n
        · have hI : (k : Int) < (n : Int) := by omega
          obtain rfl : k = 40 := by omega
          go_wp2_with fail
          go_meet
          exact ⟨_, hk, HTW⟩
        · have hD : decide ((k : Int) < (n : Int)) = false := by simp; omega
          have HK40 := Lib.hid hk
          clear hgo hk
          go_wp2_with fail
          go_meet
          exact ⟨_, HK40.out, HTW⟩
  case rest =>
    obtain ⟨m, hm, HED⟩ := hcut
    obtain ⟨wp, HWY⟩ : ∃ wp, Hid (wc = wp) := ⟨_, Lib.hid rfl⟩
    rw [HWY.out] at HED ⊢
    clear HWY H2 HFR HO
    have HXP := Lib.hid (HX1.out.below HED.out.below HSW.out)
    have k0 : wp.cell? ⟨w.heap.size, 0, none⟩ = some (.int .i64 kd) := HXP.out.cell 0
    have k1 : wp.cell? ⟨w.heap.size, 1, none⟩ = some (.int .i64 on) := HXP.out.cell 1
    have k2 : wp.cell? ⟨w.heap.size, 2, none⟩ = some (.int .i64 kn) := HXP.out.cell 2
    have k3 : wp.cell? ⟨w.heap.size, 3, none⟩ = some (.int .i64 ln) := HXP.out.cell 3
    have k4 : wp.cell? ⟨w.heap.size, 4, none⟩ = some (.int .i64 rk0) := HXP.out.cell 4
    have k5 : wp.cell? ⟨w.heap.size, 5, none⟩ = some (.slice A nb capb) := HXP.out.cell 5
    have HBF := Lib.hid (brief_any (w := wp) kd on kn ln rk0 A nb capb hnb)
    have hfr := fun W => field_rec kd on kn ln rk0 (.slice A (min nb 40) capb) W
    go_upto_region 10 with (go_at_call 33; refine HBF.out.mono ?_; rintro _ w3 ⟨rfl, hb3⟩; have H3 := Lib.hid hb3; clear hb3)
    go_upto_region 11 with fail
    obtain ⟨rk, HRK⟩ : ∃ rk, Hid (wrap64 (1 + (wrap64 (rk0.tmod 4 + 4)).tmod 4) = rk) := ⟨_, Lib.hid rfl⟩
    have hkb := kind_bd rk0
    rw [HRK.out] at hkb ⊢
    obtain ⟨body, HBY⟩ : ∃ body, Hid (body0.take (min nb 40) = body) := ⟨_, Lib.hid rfl⟩
    have hbl : body.length = min nb 40 := by rw [← HBY.out, List.length_take, HR0.out.lenB]; omega
    rw [← hbl]
    have hb40 : body.length ≤ 40 := by omega
    have hncb : body.length ≤ capb := by omega
    obtain ⟨jg, j, f, ⟨A0, c0, A1, c1, vb, Kb, hd, hk, hg⟩, htg, hjg, hgen, hbod, hbw⟩ := HED.out
    obtain ⟨Ab, cb, rfl, hcb1, hcb2⟩ := hd.bk.shape hk
    obtain ⟨w4, hw4⟩ : ∃ w4, w4 = w3.alloc (.cells #[.int .i64 rk, .slice A body.length capb] 34) := ⟨_, rfl⟩
    have hb4 : Below w3.heap.size w3 w4 := by rw [hw4]; exact one_box' _ _
    have hX4 : Blk w4 w3.heap.size 34 #[.int .i64 rk, .slice A body.length capb] := by rw [hw4]; exact Blk.new _ _ _
    have hbp4 : Below wp.heap.size wp w4 := Below.then H3.out hb4
    have HBW4 : Hid (Below w.heap.size w w4) := Lib.hid (((HB1.out.trans (hbw.mono (Nat.le_of_lt HSW.out)))).trans (hbp4.mono (Nat.le_trans (Nat.le_of_lt HSW.out) hbw.size)))
    have HD4 := Lib.hid (hd.over hbp4)
    have HX4 := Lib.hid hX4
    have HXL := Lib.hid (HXP.out.over hbp4)
    have HRR : Hid (∀ W, Below w4.heap.size w4 W → RdB W W.heap.size A body.length body) := Lib.hid fun W hW => by
      have h1 := HR0.out.takeB (Nat.min_le_left nb 40)
      rw [HBY.out, ← hbl] at h1
      exact ((h1.below HBW4.out).more HBW4.out.size).over hW
    have HRW : Hid (∀ W, Below w.heap.size w W → RdB W W.heap.size A body.length body) := Lib.hid fun W hW => by
      have h1 := HR0.out.takeB (Nat.min_le_left nb 40)
      rw [HBY.out, ← hbl] at h1
      exact (h1.below hW).more hW.size
    have HNB : Hid (∀ W, Below w4.heap.size w4 W → Nibs W) := Lib.hid fun W hW => HT.out.below (HBW4.out.trans (hW.mono HBW4.out.size))
    have HK := Lib.hid hk
    have HG := Lib.hid hg
    have HGN : Hid (j.gen ≤ 1125899906842000) := Lib.hid (by omega)
    have HOK : Hid (okB rk body.length = true) := Lib.hid (by unfold okB; simp; omega)
    have HFIT : Hid (j.text.length + 8 + body.length ≤ 65536) := Lib.hid (by have h : j.text.length = 18 + bodies j.recs := textB_length _ _ _; omega)
    have HAJ : Hid (0 < body.length → ∀ b o s, A = some ⟨b, o, s⟩ → b ≠ jg) := Lib.hid fun h0 b o s e => by
      have h1 := HR0.out.takeB (Nat.min_le_left nb 40)
      have := rd_lt h1 (by omega) e
      have := HSW.out
      omega
    have hnt1 : 0 ≠ tg := fun e => by
      have h0 := HT.out 0 (by omega)
      have := cell_lt h0
      have := HSW.out
      omega
    have hnt2 : 0 ≠ jg := fun e => by
      have h0 := HT.out 0 (by omega)
      have := cell_lt h0
      have := HSW.out
      omega
    have HNT := Lib.hid (And.intro hnt1 hnt2)
    have HCJ : Hid (w3.heap.size ≠ jg ∧ w3.heap.size ≠ tg ∧ jg < w3.heap.size ∧ tg < w3.heap.size) := Lib.hid (by have := hd.blk.lt; have := hd.pj.lt; have := H3.out.size; omega)
    rw [← hw4]
    clear hw4 hb4 hX4 hbp4 hd hk hg hgen hbod hbw hcb1 hcb2 hnt1 hnt2 hfr hkb HRK HBY hbl k0 k1 k2 k3 k4 k5 HBF HED
    go_upto_region 13 with fail
    obtain ⟨i1, hi1, hr0, hr1, hr2⟩ := info_parts info_rec
    obtain ⟨we, hwe⟩ : ∃ we, we = w4.drew := ⟨_, rfl⟩
    have hbe : Below w4.heap.size w4 we := by rw [hwe]; exact below_drewN (Below.refl _ _) 1
    have HDE := Lib.hid (HD4.out.over hbe)
    have HXE := Lib.hid (HX4.out.over hbe)
    have HBE := Lib.hid hbe
    have HSC : Hid (∀ W, Below we.heap.size we W → W.cell? ⟨tg, 3, none⟩ = some (.slice Ab j.recs.length cb) ∧ W.cell? ⟨w3.heap.size, 0, none⟩ = some (.int .i64 rk) ∧ W.cell? ⟨w3.heap.size, 1, none⟩ = some (.slice A body.length capb)) := Lib.hid fun W hW => ⟨(HDE.out.over hW).blk.cell 3, (HXE.out.over hW).cell 0, (HXE.out.over hW).cell 1⟩
    have hrl := recs_le HG.out
    have HLK : Hid (Kb.length = j.recs.length) := Lib.hid (by rw [← HK.out, List.length_map])
    have HWE := Lib.hid hwe
    clear hwe hbe
    refine wp_region_held_drew (S := fun W => W.cell? ⟨tg, 3, none⟩ = some (.slice Ab j.recs.length cb) ∧ W.cell? ⟨w3.heap.size, 0, none⟩ = some (.int .i64 rk) ∧ W.cell? ⟨w3.heap.size, 1, none⟩ = some (.slice A body.length capb)) (by kernel_rfl) (by rw [← HWE.out]; exact HSC.out _ (Below.refl _ _)) (fun hsw => ?_)
    rw [← HWE.out] at hsw ⊢
    refine wpAnyH_take (i := 1) (oi := ?oi1fa) (v := ?v1fa) ?hi1fa (by kernel_rfl) (by kernel_rfl) (by kernel_rfl) ?hq1fa ?hy1fa (by assumption) ?rest1fa
    case hi1fa => (simp only [List.getElem?_toArray, List.getElem?_cons_zero, List.getElem?_cons_succ]; rfl)
    case hy1fa => (refine Or.inl ⟨by rfl, ?_⟩; intro w hSw; (try dsimp only at hSw); go_simp; try with_reducible rfl)
    case hq1fa => exact fun _ _ _ h => h
    try simp only [Act.put, List.setIfInBounds_toArray, List.set_cons_zero, List.set_cons_succ]
    refine wpAnyH_take (i := 2) (oi := ?oi2fa) (v := ?v2fa) ?hi2fa (by kernel_rfl) (by kernel_rfl) (by kernel_rfl) ?hq2fa ?hy2fa (by assumption) ?rest2fa
    case hi2fa => (simp only [List.getElem?_toArray, List.getElem?_cons_zero, List.getElem?_cons_succ]; rfl)
    case hy2fa => (refine Or.inl ⟨by rfl, ?_⟩; intro w hSw; (try dsimp only at hSw); go_simp; try with_reducible rfl)
    case hq2fa => exact fun _ _ _ h => h
    try simp only [Act.put, List.setIfInBounds_toArray, List.set_cons_zero, List.set_cons_succ]
    refine wpAnyH_take (i := 3) (oi := ?oi3fa) (v := ?v3fa) ?hi3fa (by kernel_rfl) (by kernel_rfl) (by kernel_rfl) ?hq3fa ?hy3fa (by assumption) ?rest3fa
    case hi3fa => (simp only [List.getElem?_toArray, List.getElem?_cons_zero, List.getElem?_cons_succ]; rfl)
    case hy3fa => (refine Or.inl ⟨by rfl, ?_⟩; intro w hSw; (try dsimp only at hSw); go_simp; try with_reducible rfl)
    case hq3fa => exact fun _ _ _ h => h
    try simp only [Act.put, List.setIfInBounds_toArray, List.set_cons_zero, List.set_cons_succ]
    refine wpAnyH_take (i := 4) (oi := ?oi4fa) (v := ?v4fa) ?hi4fa (by kernel_rfl) (by kernel_rfl) (by kernel_rfl) ?hq4fa ?hy4fa (by assumption) ?rest4fa
    case hi4fa => (simp only [List.getElem?_toArray, List.getElem?_cons_zero, List.getElem?_cons_succ]; rfl)
    case hy4fa => (refine Or.inl ⟨by rfl, ?_⟩; intro w hSw; (try dsimp only at hSw); go_simp; try with_reducible rfl)
    case hq4fa => exact fun _ _ _ h => h
    try simp only [Act.put, List.setIfInBounds_toArray, List.set_cons_zero, List.set_cons_succ]
    refine wpAnyH_take (i := 6) (oi := ?oi6fa) (v := ?v6fa) ?hi6fa (by kernel_rfl) (by kernel_rfl) (by kernel_rfl) ?hq6fa ?hy6fa (by assumption) ?rest6fa
    case hi6fa => (simp only [List.getElem?_toArray, List.getElem?_cons_zero, List.getElem?_cons_succ]; rfl)
    case hy6fa => (refine Or.inl ⟨by rfl, ?_⟩; intro w hSw; (try dsimp only at hSw); go_simp; try with_reducible rfl)
    case hq6fa => exact fun _ _ _ h => h
    try simp only [Act.put, List.setIfInBounds_toArray, List.set_cons_zero, List.set_cons_succ]
    refine wpAnyH_ready (rs := [0]) (by kernel_rfl) (by simp) ?_
    refine AllReadyH.cons (o := ?o0fb) ?ho0fb (fun K hK => ?st0fb) ?mo0fb
    case ho0fb => (simp only [List.getElem?_toArray, List.getElem?_cons_zero]; rfl)
    case mo0fb => exact AllReadyH.nil
    obtain ⟨we1, hw4⟩ : ∃ x, x = we.alloc (.cells #[] 34) := ⟨_, rfl⟩
    have hb4 : Below we.heap.size we we1 := by rw [hw4]; exact one_box' _ _
    have ho4 : we1.ownsRow we.heap.size 34 2 (.slice (some ⟨we.heap.size, 0, none⟩) 0 0) 0 [] := by rw [hw4]; exact own_bare _ _ (Nat.le_refl _)
    have HE1 := Lib.hid (And.intro hb4 ho4)
    have HRD := Lib.hid ((HDE.out.over hb4).bk.rowsN HK.out)
    have HON := Lib.hid HDE.out.bk.one
    go_simp
    rw [← hw4]
    clear hw4 hb4 ho4
    refine hK.out _ _ (HSC.out _ HE1.out.1) (fun _ => ?_)
    clear hK K
    try simp only [Act.put, List.setIfInBounds_toArray, List.set_cons_zero, List.set_cons_succ]
    refine wpAnyH_ready (rs := [5]) (by kernel_rfl) (by simp) ?_
    refine AllReadyH.cons (o := ?o5fc) ?ho5fc (fun K hK => ?st5fc) ?mo5fc
    case ho5fc => (simp only [List.getElem?_toArray, List.getElem?_cons_zero, List.getElem?_cons_succ]; rfl)
    case mo5fc => exact AllReadyH.nil
    refine step_append_any _ (by rfl) _ _ 25 (by rfl) we.heap.size 34 i1 _ 2 32 u_recs hi1 hr0 hr1 hr2 rfl (by omega) _ 0 [] (by rfl) HE1.out.2 we1.heap.size Ab j.recs.length cb (rowsK Kb) (by rfl) HRD.out HON.out (by simp only [maxLen]; omega) (by omega) HE1.out.1.size ?_
    intro v5 we2 ho5 hg5 _
    rw [Nat.zero_add, List.nil_append] at ho5
    obtain ⟨A5, c5, rfl, _, _⟩ := own_shape ho5
    have HE2 := Lib.hid (And.intro ho5 (HE1.out.1.trans (below_app HE1.out.2 hg5 HE1.out.1.size)))
    clear ho5 hg5
    refine hK.out _ _ (HSC.out _ HE2.out.2) (fun _ => ?_)
    clear hK K
    try simp only [Act.put, List.setIfInBounds_toArray, List.set_cons_zero, List.set_cons_succ]
    refine wpAnyH_ready (rs := [7]) (by kernel_rfl) (by simp) ?_
    refine AllReadyH.cons (o := ?o7fd) ?ho7fd (fun K hK => ?st7fd) ?mo7fd
    case ho7fd => (simp only [List.getElem?_toArray, List.getElem?_cons_zero, List.getElem?_cons_succ]; rfl)
    case mo7fd => exact AllReadyH.nil
    have HCP2 := Lib.hid (copied_any rk A body.length capb body (HRR.out _ (Below.then HBE.out HE2.out.2)) (by omega))
    go_simp
    refine HCP2.out.mono ?_
    rintro _ we3 ⟨A6, c6, rfl, ho6, hb6⟩
    have HE3 := Lib.hid (And.intro ho6 hb6)
    have HE3B : Hid (Below we.heap.size we we3) := Lib.hid (Below.then HE2.out.2 hb6)
    have HE3O : Hid (we3.ownsRow we.heap.size 34 2 (.slice A5 j.recs.length c5) j.recs.length (rowsK Kb)) := Lib.hid (own_over HE2.out.1 hb6)
    clear ho6 hb6 HCP2
    go_simp
    refine hK.out _ _ (HSC.out _ HE3B.out) (fun _ => ?_)
    clear hK K
    try simp only [Act.put, List.setIfInBounds_toArray, List.set_cons_zero, List.set_cons_succ]
    refine wpAnyH_ready (rs := [8]) (by kernel_rfl) (by simp) ?_
    refine AllReadyH.cons (o := ?o8fe) ?ho8fe (fun K hK => ?st8fe) ?mo8fe
    case ho8fe => (simp only [List.getElem?_toArray, List.getElem?_cons_zero, List.getElem?_cons_succ]; rfl)
    case mo8fe => exact AllReadyH.nil
    have hbA : Below we.heap.size we (we3.alloc (.cells #[.int .i64 rk, .slice A6 body.length c6] 34)) := Below.then HE3B.out (one_box' _ _)
    go_simp
    refine hK.out _ _ (HSC.out _ hbA) (fun _ => ?_)
    clear hK K hbA
    try simp only [Act.put, List.setIfInBounds_toArray, List.set_cons_zero, List.set_cons_succ]
    refine wpAnyH_ready (rs := [9]) (by kernel_rfl) (by simp) ?_
    refine AllReadyH.cons (o := ?o9ff) ?ho9ff (fun K hK => ?st9ff) ?mo9ff
    case ho9ff => (simp only [List.getElem?_toArray, List.getElem?_cons_zero, List.getElem?_cons_succ]; rfl)
    case mo9ff => exact AllReadyH.nil
    refine step_appN we3 (by rfl) _ _ 25 (by rfl) we.heap.size 34 i1 _ 2 32 u_recs hi1 hr0 hr1 hr2 rfl (by omega) _ j.recs.length _ (by rfl) HE3O.out #[.int .i64 rk, .slice A6 body.length c6] rfl (by rfl) (by simp; exact ⟨rfl, rfl⟩) (by simp only [maxLen]; omega) (by omega) HE3B.out.size ?_
    intro v8 w8 ho8 hb8 hg8 _
    obtain ⟨A8, c8, rfl, _, _⟩ := own_shape ho8
    have HB8 : Hid (Below we.heap.size we w8) := Lib.hid (HE3B.out.trans (hb8.mono (Nat.le_refl _)))
    have HR8 : Hid (RcB w8 (fun g => g = tg ∨ g = jg) (.slice A8 (j.recs.length + 1) c8) (Kb ++ [⟨⟨rk, body⟩, .slice A6 body.length c6⟩])) := Lib.hid (by
      have h6 : w8.ownsRow we.heap.size 5 1 (.slice A6 body.length c6) body.length (bvs body) := own_base (own_chg HE3.out.1 (Chg.of_grown hg8) fun g hg e => by
        exact absurd ((own_isT HE3.out.1 hg).eq_ (own_isT HE3O.out e.symm)) (by decide)) HE2.out.2.size
      exact HDE.out.bk.snoc (x := ⟨⟨rk, body⟩, .slice A6 body.length c6⟩) HB8.out (Nat.le_refl _) (fun g hg => by have := HDE.out.blk.lt; have := HDE.out.pj.lt; rcases hg with e | e <;> omega) (by rw [HLK.out]; exact ho8) rfl h6)
    clear ho8 hb8 hg8
    refine hK.out _ _ (HSC.out _ HB8.out) (fun _ => ?_)
    clear hK K hsw
    try simp only [Act.put, List.setIfInBounds_toArray, List.set_cons_zero, List.set_cons_succ]
    refine wpAnyH_take (i := 10) (oi := ?oi10fg) (v := ?v10fg) ?hi10fg (by kernel_rfl) (by kernel_rfl) (by kernel_rfl) ?hq10fg ?hy10fg (by assumption) ?rest10fg
    case hi10fg => (simp only [List.getElem?_toArray, List.getElem?_cons_zero, List.getElem?_cons_succ]; rfl)
    case hy10fg => (refine Or.inl ⟨by rfl, ?_⟩; intro w hSw; (try dsimp only at hSw); go_simp; try with_reducible rfl)
    case hq10fg => exact fun _ _ _ h => h
    try simp only [Act.put, List.setIfInBounds_toArray, List.set_cons_zero, List.set_cons_succ]
    refine wpAnyH_done (by kernel_rfl) ?_ _
    have HM8 : Hid ((Kb ++ [(⟨⟨rk, body⟩, .slice A6 body.length c6⟩ : Rk)]).map Rk.rc = j.recs ++ [⟨rk, body⟩]) := Lib.hid (by rw [List.map_append, HK.out]; rfl)
    have HB48 : Hid (Below w4.heap.size w4 w8) := Lib.hid (Below.then HBE.out HB8.out)
    clear HE1 HE2 HE3 HE3B HE3O HRD HON HSC HWE hrl HBE
    have HD8 := Lib.hid (HD4.out.over HB48.out)
    have HX8 := Lib.hid (HX4.out.over HB48.out)
    have HDW : Hid (Below w8.heap.size w8 w8.drew) := Lib.hid (below_drewN (Below.refl _ _) 1)
    have HB4D : Hid (Below w4.heap.size w4 w8.drew) := Lib.hid (Below.then HB48.out HDW.out)
    have k0 : w8.cell? ⟨w.heap.size, 0, none⟩ = some (.int .i64 kd) := (HXL.out.over HB48.out).cell 0
    have HBW8 : Hid (Below w.heap.size w w8) := Lib.hid (HBW4.out.trans (HB48.out.mono HBW4.out.size))
    go_upto_if 64 with fail
    go_cut [8, 9, 10] from 20 to 142 (fun d8 d9 d10 wc => ∃ Aw cw A9 c9 j' ws, d8 = .slice Aw ws.length cw ∧ d9 = .int .i64 0 ∧ d10 = .slice A9 j'.recs.length c9 ∧ Hid (Ev w wc tg A0 c0 A1 c1 Ab cb Aw cw A9 c9 j j' f ws))
    case first =>
      by_cases hpar : (kd.tmod 2 == 0) = true
      · go_upto_region 15 with fail
        clear k0
        obtain ⟨x, HXA⟩ : ∃ x, Hid (j.compact ⟨rk, body⟩ = x) := ⟨_, Lib.hid rfl⟩
        have HXV : Hid (x = (⟨1 - j.file, j.gen + 1, 1, [⟨rk, body⟩]⟩, [⟨((1 - j.file : Nat) : Int), true, textB (j.gen + 1) 1 [⟨rk, body⟩]⟩], 0)) := Lib.hid (by rw [← HXA.out]; unfold JP.compact; rw [if_pos (show (⟨rk, body⟩ : Rc).ok = true from HOK.out), if_neg (by have := HGN.out; omega)])
        have HAP := Lib.hid (Compact_any (w := w8.drew) rk A body.length capb body (HD8.out.over HDW.out).pj HG.out.fine.file HG.out.fine.gen.2 hncb (HRR.out _ HB4D.out) (by omega) (fun h0 b o s e => HAJ.out h0 b o s e) (HNB.out _ HB4D.out) HNT.out.2)
        rw [HXA.out] at HAP
        refine wp_region_held_drew (S := fun W => W.cell? ⟨tg, 0, none⟩ = some (.pointer (some ⟨jg, 0, none⟩)) ∧ W.cell? ⟨w3.heap.size, 0, none⟩ = some (.int .i64 rk) ∧ W.cell? ⟨w3.heap.size, 1, none⟩ = some (.slice A body.length capb)) (by kernel_rfl) ⟨(HD8.out.over HDW.out).blk.cell 0, (HX8.out.over HDW.out).cell 0, (HX8.out.over HDW.out).cell 1⟩ (fun hsw => ?_)
        refine wpAnyH_take (i := 0) (oi := ?oi0pa) (v := ?v0pa) ?hi0pa (by kernel_rfl) (by kernel_rfl) (by kernel_rfl) ?hq0pa ?hy0pa (by assumption) ?rest0pa
        case hi0pa => (simp only [List.getElem?_toArray, List.getElem?_cons_zero]; rfl)
        case hy0pa => (refine Or.inl ⟨by rfl, ?_⟩; intro w hSw; (try dsimp only at hSw); go_simp; try with_reducible rfl)
        case hq0pa => exact fun _ _ _ h => h
        try simp only [Act.put, List.setIfInBounds_toArray, List.set_cons_zero, List.set_cons_succ]
        refine wpAnyH_take (i := 1) (oi := ?oi1pa) (v := ?v1pa) ?hi1pa (by kernel_rfl) (by kernel_rfl) (by kernel_rfl) ?hq1pa ?hy1pa (by assumption) ?rest1pa
        case hi1pa => (simp only [List.getElem?_toArray, List.getElem?_cons_zero, List.getElem?_cons_succ]; rfl)
        case hy1pa => (refine Or.inl ⟨by rfl, ?_⟩; intro w hSw; (try dsimp only at hSw); go_simp; try with_reducible rfl)
        case hq1pa => exact fun _ _ _ h => h
        try simp only [Act.put, List.setIfInBounds_toArray, List.set_cons_zero, List.set_cons_succ]
        refine wpAnyH_take (i := 2) (oi := ?oi2pa) (v := ?v2pa) ?hi2pa (by kernel_rfl) (by kernel_rfl) (by kernel_rfl) ?hq2pa ?hy2pa (by assumption) ?rest2pa
        case hi2pa => (simp only [List.getElem?_toArray, List.getElem?_cons_zero, List.getElem?_cons_succ]; rfl)
        case hy2pa => (refine Or.inl ⟨by rfl, ?_⟩; intro w hSw; (try dsimp only at hSw); go_simp; try with_reducible rfl)
        case hq2pa => exact fun _ _ _ h => h
        try simp only [Act.put, List.setIfInBounds_toArray, List.set_cons_zero, List.set_cons_succ]
        refine wpAnyH_take (i := 3) (oi := ?oi3pa) (v := ?v3pa) ?hi3pa (by kernel_rfl) (by kernel_rfl) (by kernel_rfl) ?hq3pa ?hy3pa (by assumption) ?rest3pa
        case hi3pa => (simp only [List.getElem?_toArray, List.getElem?_cons_zero, List.getElem?_cons_succ]; rfl)
        case hy3pa => (refine Or.inl ⟨by rfl, ?_⟩; intro w hSw; (try dsimp only at hSw); go_simp; try with_reducible rfl)
        case hq3pa => exact fun _ _ _ h => h
        try simp only [Act.put, List.setIfInBounds_toArray, List.set_cons_zero, List.set_cons_succ]
        refine wpAnyH_take (i := 4) (oi := ?oi4pa) (v := ?v4pa) ?hi4pa (by kernel_rfl) (by kernel_rfl) (by kernel_rfl) ?hq4pa ?hy4pa (by assumption) ?rest4pa
        case hi4pa => (simp only [List.getElem?_toArray, List.getElem?_cons_zero, List.getElem?_cons_succ]; rfl)
        case hy4pa => (refine Or.inl ⟨by rfl, ?_⟩; intro w hSw; (try dsimp only at hSw); go_simp; try with_reducible rfl)
        case hq4pa => exact fun _ _ _ h => h
        try simp only [Act.put, List.setIfInBounds_toArray, List.set_cons_zero, List.set_cons_succ]
        refine wpAnyH_ready (rs := [5]) (by kernel_rfl) (by simp) ?_
        refine AllReadyH.cons (o := ?o5pb) ?ho5pb (fun K hK => ?st5pb) ?mo5pb
        case ho5pb => (simp only [List.getElem?_toArray, List.getElem?_cons_zero, List.getElem?_cons_succ]; rfl)
        case mo5pb => exact AllReadyH.nil
        go_simp
        refine HAP.out.mono ?_
        rintro _ w9 ⟨va, rfl, hp9, ho9, hc9⟩
        obtain ⟨Aa, capa, rfl⟩ := ho9.shapeN
        have H9 := Lib.hid (And.intro hp9 (And.intro ho9 (dr_chg' hc9)))
        clear hp9 ho9 hc9 HAP
        have HD9 := Lib.hid (HD8.out.jour H9.out.2.2 H9.out.1)
        have HX9 := Lib.hid (HX8.out.chg H9.out.2.2 HCJ.out.1)
        have HR9 := Lib.hid (HR8.out.chg H9.out.2.2 fun k _ e => .inr e)
        go_simp
        refine hK.out _ _ ⟨HD9.out.blk.cell 0, HX9.out.cell 0, HX9.out.cell 1⟩ (fun _ => ?_)
        clear hK K hsw
        try simp only [Act.put, List.setIfInBounds_toArray, List.set_cons_zero, List.set_cons_succ]
        refine wpAnyH_take (i := 6) (oi := ?oi6pc) (v := ?v6pc) ?hi6pc (by kernel_rfl) (by kernel_rfl) (by kernel_rfl) ?hq6pc ?hy6pc (by assumption) ?rest6pc
        case hi6pc => (simp only [List.getElem?_toArray, List.getElem?_cons_zero, List.getElem?_cons_succ]; rfl)
        case hy6pc => (refine Or.inl ⟨by rfl, ?_⟩; intro w hSw; (try dsimp only at hSw); go_simp; try with_reducible rfl)
        case hq6pc => exact fun _ _ _ h => h
        try simp only [Act.put, List.setIfInBounds_toArray, List.set_cons_zero, List.set_cons_succ]
        refine wpAnyH_take (i := 7) (oi := ?oi7pc) (v := ?v7pc) ?hi7pc (by kernel_rfl) (by kernel_rfl) (by kernel_rfl) ?hq7pc ?hy7pc (by assumption) ?rest7pc
        case hi7pc => (simp only [List.getElem?_toArray, List.getElem?_cons_zero, List.getElem?_cons_succ]; rfl)
        case hy7pc => (refine Or.inl ⟨by rfl, ?_⟩; intro w hSw; (try dsimp only at hSw); go_simp; try with_reducible rfl)
        case hq7pc => exact fun _ _ _ h => h
        try simp only [Act.put, List.setIfInBounds_toArray, List.set_cons_zero, List.set_cons_succ]
        refine wpAnyH_take (i := 8) (oi := ?oi8pc) (v := ?v8pc) ?hi8pc (by kernel_rfl) (by kernel_rfl) (by kernel_rfl) ?hq8pc ?hy8pc (by assumption) ?rest8pc
        case hi8pc => (simp only [List.getElem?_toArray, List.getElem?_cons_zero, List.getElem?_cons_succ]; rfl)
        case hy8pc => (refine Or.inl ⟨by rfl, ?_⟩; intro w hSw; (try dsimp only at hSw); go_simp; try with_reducible rfl)
        case hq8pc => exact fun _ _ _ h => h
        try simp only [Act.put, List.setIfInBounds_toArray, List.set_cons_zero, List.set_cons_succ]
        refine wpAnyH_take (i := 9) (oi := ?oi9pc) (v := ?v9pc) ?hi9pc (by kernel_rfl) (by kernel_rfl) (by kernel_rfl) ?hq9pc ?hy9pc (by assumption) ?rest9pc
        case hi9pc => (simp only [List.getElem?_toArray, List.getElem?_cons_zero, List.getElem?_cons_succ]; rfl)
        case hy9pc => (refine Or.inl ⟨by rfl, ?_⟩; intro w hSw; (try dsimp only at hSw); go_simp; try with_reducible rfl)
        case hq9pc => exact fun _ _ _ h => h
        try simp only [Act.put, List.setIfInBounds_toArray, List.set_cons_zero, List.set_cons_succ]
        refine wpAnyH_take (i := 10) (oi := ?oi10pc) (v := ?v10pc) ?hi10pc (by kernel_rfl) (by kernel_rfl) (by kernel_rfl) ?hq10pc ?hy10pc (by assumption) ?rest10pc
        case hi10pc => (simp only [List.getElem?_toArray, List.getElem?_cons_zero, List.getElem?_cons_succ]; rfl)
        case hy10pc => (refine Or.inl ⟨by rfl, ?_⟩; intro w hSw; (try dsimp only at hSw); go_simp; try with_reducible rfl)
        case hq10pc => exact fun _ _ _ h => h
        try simp only [Act.put, List.setIfInBounds_toArray, List.set_cons_zero, List.set_cons_succ]
        refine wpAnyH_done (by kernel_rfl) ?_ _
        have HWR : Hid (Writes j f x.1 x.2.1) := Lib.hid (by rw [HXV.out]; exact compact_writes HG.out HOK.out HGN.out)
        have HX20 : Hid (x.2.2 = 0) := Lib.hid (by rw [HXV.out])
        have HC8 : Hid (8 ≤ costW x.2.1) := Lib.hid (by rw [HXV.out]; exact cost_beg_8 _ _ _ _)
        rw [HX20.out]
        have HBW9 : Hid (Below w.heap.size w w9) := Lib.hid (HBW8.out.trans (H9.out.2.2.to_below HBW8.out.size fun k e => by have := HSW.out; omega))
        have c0 : w9.cell? ⟨w3.heap.size, 0, none⟩ = some (.int .i64 rk) := HX9.out.cell 0
        have c1 : w9.cell? ⟨w3.heap.size, 1, none⟩ = some (.slice A body.length capb) := HX9.out.cell 1
        have HCP3 := Lib.hid (copied_any rk A body.length capb body (HRW.out _ HBW9.out) (by omega))
        go_wp2_with (go_at_call 34; refine HCP3.out.mono ?_; rintro _ wA ⟨A6', c6', rfl, ho6, hb6⟩; have HA := Lib.hid (And.intro ho6 hb6); clear ho6 hb6)
        go_meet
        have hbA := one_box' wA (.cells #[.int .i64 rk, .slice A6' body.length c6'] 34)
        have hBA := Blk.new wA 34 #[.int .i64 rk, .slice A6' body.length c6']
        have hb9A : Below w9.heap.size w9 (wA.alloc (.cells #[.int .i64 rk, .slice A6' body.length c6'] 34)) := Below.then HA.out.2 hbA
        have h6 : (wA.alloc (.cells #[.int .i64 rk, .slice A6' body.length c6'] 34)).ownsRow w9.heap.size 5 1 (.slice A6' body.length c6') body.length (bvs body) := own_over HA.out.1 hbA
        have haf := (RcB.nil w9 (fun _ => False)).snoc (x := ⟨⟨rk, body⟩, .slice A6' body.length c6'⟩) hb9A (Nat.le_refl _) (fun g hg => hg.elim) (own_oneB hBA HA.out.2.size) rfl h6
        have e : x.1.recs = [⟨rk, body⟩] := by rw [HXV.out]
        have hE9 := HD9.out.over hb9A
        refine ⟨_, _, some ⟨wA.heap.size, 0, none⟩, 1, x.1, x.2.1, rfl, rfl, by rw [e]; rfl, Lib.hid ⟨⟨_, _, hE9.blk⟩, Rd.of_own hE9.o0, Rd.of_own hE9.o1, (hE9.bk.rdN HK.out).mono fun _ _ h => h.elim, (H9.out.2.1.below hb9A).mono (Nat.zero_le _), ?_, HBW9.out.trans (hb9A.mono HBW9.out.size), HG.out, HWR.out, HC8.out, HGN.out⟩⟩
        rw [e]
        exact RcB.rdN (recs := [⟨rk, body⟩]) haf rfl
      · have hpb : (kd.tmod 2 == 0) = false := by simpa using hpar
        clear hpar
        go_upto_region 17 with fail
        clear k0
        obtain ⟨x, HXA⟩ : ∃ x, Hid (j.append ⟨rk, body⟩ = x) := ⟨_, Lib.hid rfl⟩
        have HXV : Hid (x = (⟨j.file, j.gen, j.count, j.recs ++ [⟨rk, body⟩]⟩, [⟨(j.file : Int), false, frameB (last4 j.text) ⟨rk, body⟩⟩], 0)) := Lib.hid (by rw [← HXA.out]; unfold JP.append; rw [if_pos (show (⟨rk, body⟩ : Rc).ok = true from HOK.out), if_pos (show j.text.length + 8 + (⟨rk, body⟩ : Rc).body.length ≤ 65536 from HFIT.out)])
        have HAP := Lib.hid (Append_any (w := w8.drew) rk A body.length capb body (HD8.out.over HDW.out).pj HG.out.fine.len (HRR.out _ HB4D.out) (by omega) (HNB.out _ HB4D.out))
        rw [HXA.out] at HAP
        refine wp_region_held_drew (S := fun W => W.cell? ⟨tg, 0, none⟩ = some (.pointer (some ⟨jg, 0, none⟩)) ∧ W.cell? ⟨w3.heap.size, 0, none⟩ = some (.int .i64 rk) ∧ W.cell? ⟨w3.heap.size, 1, none⟩ = some (.slice A body.length capb)) (by kernel_rfl) ⟨(HD8.out.over HDW.out).blk.cell 0, (HX8.out.over HDW.out).cell 0, (HX8.out.over HDW.out).cell 1⟩ (fun hsw => ?_)
        refine wpAnyH_take (i := 0) (oi := ?oi0qa) (v := ?v0qa) ?hi0qa (by kernel_rfl) (by kernel_rfl) (by kernel_rfl) ?hq0qa ?hy0qa (by assumption) ?rest0qa
        case hi0qa => (simp only [List.getElem?_toArray, List.getElem?_cons_zero]; rfl)
        case hy0qa => (refine Or.inl ⟨by rfl, ?_⟩; intro w hSw; (try dsimp only at hSw); go_simp; try with_reducible rfl)
        case hq0qa => exact fun _ _ _ h => h
        try simp only [Act.put, List.setIfInBounds_toArray, List.set_cons_zero, List.set_cons_succ]
        refine wpAnyH_take (i := 1) (oi := ?oi1qa) (v := ?v1qa) ?hi1qa (by kernel_rfl) (by kernel_rfl) (by kernel_rfl) ?hq1qa ?hy1qa (by assumption) ?rest1qa
        case hi1qa => (simp only [List.getElem?_toArray, List.getElem?_cons_zero, List.getElem?_cons_succ]; rfl)
        case hy1qa => (refine Or.inl ⟨by rfl, ?_⟩; intro w hSw; (try dsimp only at hSw); go_simp; try with_reducible rfl)
        case hq1qa => exact fun _ _ _ h => h
        try simp only [Act.put, List.setIfInBounds_toArray, List.set_cons_zero, List.set_cons_succ]
        refine wpAnyH_take (i := 2) (oi := ?oi2qa) (v := ?v2qa) ?hi2qa (by kernel_rfl) (by kernel_rfl) (by kernel_rfl) ?hq2qa ?hy2qa (by assumption) ?rest2qa
        case hi2qa => (simp only [List.getElem?_toArray, List.getElem?_cons_zero, List.getElem?_cons_succ]; rfl)
        case hy2qa => (refine Or.inl ⟨by rfl, ?_⟩; intro w hSw; (try dsimp only at hSw); go_simp; try with_reducible rfl)
        case hq2qa => exact fun _ _ _ h => h
        try simp only [Act.put, List.setIfInBounds_toArray, List.set_cons_zero, List.set_cons_succ]
        refine wpAnyH_take (i := 3) (oi := ?oi3qa) (v := ?v3qa) ?hi3qa (by kernel_rfl) (by kernel_rfl) (by kernel_rfl) ?hq3qa ?hy3qa (by assumption) ?rest3qa
        case hi3qa => (simp only [List.getElem?_toArray, List.getElem?_cons_zero, List.getElem?_cons_succ]; rfl)
        case hy3qa => (refine Or.inl ⟨by rfl, ?_⟩; intro w hSw; (try dsimp only at hSw); go_simp; try with_reducible rfl)
        case hq3qa => exact fun _ _ _ h => h
        try simp only [Act.put, List.setIfInBounds_toArray, List.set_cons_zero, List.set_cons_succ]
        refine wpAnyH_take (i := 4) (oi := ?oi4qa) (v := ?v4qa) ?hi4qa (by kernel_rfl) (by kernel_rfl) (by kernel_rfl) ?hq4qa ?hy4qa (by assumption) ?rest4qa
        case hi4qa => (simp only [List.getElem?_toArray, List.getElem?_cons_zero, List.getElem?_cons_succ]; rfl)
        case hy4qa => (refine Or.inl ⟨by rfl, ?_⟩; intro w hSw; (try dsimp only at hSw); go_simp; try with_reducible rfl)
        case hq4qa => exact fun _ _ _ h => h
        try simp only [Act.put, List.setIfInBounds_toArray, List.set_cons_zero, List.set_cons_succ]
        refine wpAnyH_ready (rs := [5]) (by kernel_rfl) (by simp) ?_
        refine AllReadyH.cons (o := ?o5qb) ?ho5qb (fun K hK => ?st5qb) ?mo5qb
        case ho5qb => (simp only [List.getElem?_toArray, List.getElem?_cons_zero, List.getElem?_cons_succ]; rfl)
        case mo5qb => exact AllReadyH.nil
        go_simp
        refine HAP.out.mono ?_
        rintro _ w9 ⟨va, rfl, hp9, ho9, hc9⟩
        obtain ⟨Aa, capa, rfl⟩ := ho9.shapeN
        have H9 := Lib.hid (And.intro hp9 (And.intro ho9 (dr_chg' hc9)))
        clear hp9 ho9 hc9 HAP
        have HD9 := Lib.hid (HD8.out.jour H9.out.2.2 H9.out.1)
        have HX9 := Lib.hid (HX8.out.chg H9.out.2.2 HCJ.out.1)
        have HR9 := Lib.hid (HR8.out.chg H9.out.2.2 fun k _ e => .inr e)
        go_simp
        refine hK.out _ _ ⟨HD9.out.blk.cell 0, HX9.out.cell 0, HX9.out.cell 1⟩ (fun _ => ?_)
        clear hK K hsw
        try simp only [Act.put, List.setIfInBounds_toArray, List.set_cons_zero, List.set_cons_succ]
        refine wpAnyH_take (i := 6) (oi := ?oi6qc) (v := ?v6qc) ?hi6qc (by kernel_rfl) (by kernel_rfl) (by kernel_rfl) ?hq6qc ?hy6qc (by assumption) ?rest6qc
        case hi6qc => (simp only [List.getElem?_toArray, List.getElem?_cons_zero, List.getElem?_cons_succ]; rfl)
        case hy6qc => (refine Or.inl ⟨by rfl, ?_⟩; intro w hSw; (try dsimp only at hSw); go_simp; try with_reducible rfl)
        case hq6qc => exact fun _ _ _ h => h
        try simp only [Act.put, List.setIfInBounds_toArray, List.set_cons_zero, List.set_cons_succ]
        refine wpAnyH_take (i := 7) (oi := ?oi7qc) (v := ?v7qc) ?hi7qc (by kernel_rfl) (by kernel_rfl) (by kernel_rfl) ?hq7qc ?hy7qc (by assumption) ?rest7qc
        case hi7qc => (simp only [List.getElem?_toArray, List.getElem?_cons_zero, List.getElem?_cons_succ]; rfl)
        case hy7qc => (refine Or.inl ⟨by rfl, ?_⟩; intro w hSw; (try dsimp only at hSw); go_simp; try with_reducible rfl)
        case hq7qc => exact fun _ _ _ h => h
        try simp only [Act.put, List.setIfInBounds_toArray, List.set_cons_zero, List.set_cons_succ]
        refine wpAnyH_take (i := 8) (oi := ?oi8qc) (v := ?v8qc) ?hi8qc (by kernel_rfl) (by kernel_rfl) (by kernel_rfl) ?hq8qc ?hy8qc (by assumption) ?rest8qc
        case hi8qc => (simp only [List.getElem?_toArray, List.getElem?_cons_zero, List.getElem?_cons_succ]; rfl)
        case hy8qc => (refine Or.inl ⟨by rfl, ?_⟩; intro w hSw; (try dsimp only at hSw); go_simp; try with_reducible rfl)
        case hq8qc => exact fun _ _ _ h => h
        try simp only [Act.put, List.setIfInBounds_toArray, List.set_cons_zero, List.set_cons_succ]
        refine wpAnyH_take (i := 9) (oi := ?oi9qc) (v := ?v9qc) ?hi9qc (by kernel_rfl) (by kernel_rfl) (by kernel_rfl) ?hq9qc ?hy9qc (by assumption) ?rest9qc
        case hi9qc => (simp only [List.getElem?_toArray, List.getElem?_cons_zero, List.getElem?_cons_succ]; rfl)
        case hy9qc => (refine Or.inl ⟨by rfl, ?_⟩; intro w hSw; (try dsimp only at hSw); go_simp; try with_reducible rfl)
        case hq9qc => exact fun _ _ _ h => h
        try simp only [Act.put, List.setIfInBounds_toArray, List.set_cons_zero, List.set_cons_succ]
        refine wpAnyH_take (i := 10) (oi := ?oi10qc) (v := ?v10qc) ?hi10qc (by kernel_rfl) (by kernel_rfl) (by kernel_rfl) ?hq10qc ?hy10qc (by assumption) ?rest10qc
        case hi10qc => (simp only [List.getElem?_toArray, List.getElem?_cons_zero, List.getElem?_cons_succ]; rfl)
        case hy10qc => (refine Or.inl ⟨by rfl, ?_⟩; intro w hSw; (try dsimp only at hSw); go_simp; try with_reducible rfl)
        case hq10qc => exact fun _ _ _ h => h
        try simp only [Act.put, List.setIfInBounds_toArray, List.set_cons_zero, List.set_cons_succ]
        refine wpAnyH_done (by kernel_rfl) ?_ _
        have HWR : Hid (Writes j f x.1 x.2.1) := Lib.hid (by rw [HXV.out]; exact append_writes HG.out HOK.out HFIT.out)
        have HX20 : Hid (x.2.2 = 0) := Lib.hid (by rw [HXV.out])
        have HC8 : Hid (8 ≤ costW x.2.1) := Lib.hid (by rw [HXV.out]; exact cost_app_8 HG.out.fine.file _ _)
        rw [HX20.out]
        go_wp2_with fail
        go_meet
        have e : x.1.recs = j.recs ++ [⟨rk, body⟩] := by rw [HXV.out]
        have hl : (j.recs ++ [(⟨rk, body⟩ : Rc)]).length = j.recs.length + 1 := by simp
        have haf := HR9.out
        rw [← hl] at haf
        have haf2 := (haf.rdN HM8.out).mono (F' := fun _ => False) fun _ _ h => h.elim
        have HBW9 : Hid (Below w.heap.size w w9) := Lib.hid (HBW8.out.trans (H9.out.2.2.to_below HBW8.out.size fun k e => by have := HSW.out; omega))
        refine ⟨_, _, A8, c8, x.1, x.2.1, rfl, rfl, by rw [e, hl], Lib.hid ⟨⟨_, _, HD9.out.blk⟩, Rd.of_own HD9.out.o0, Rd.of_own HD9.out.o1, (HD9.out.bk.rdN HK.out).mono fun _ _ h => h.elim, H9.out.2.1.mono (Nat.zero_le _), ?_, HBW9.out, HG.out, HWR.out, HC8.out, HGN.out⟩⟩
        rw [e]
        exact haf2
    case rest =>
      obtain ⟨Aw, cw, A9, c9, j', ws, rfl, rfl, rfl, HEV⟩ := hcut
      obtain ⟨wb, HWY⟩ : ∃ wp, Hid (wc = wp) := ⟨_, Lib.hid rfl⟩
      rw [HWY.out] at HEV ⊢
      clear HWY k0 HD4 HX4 HXL HRR HNB HRW HAJ HNT HCJ HD8 HX8 HDW HB4D HBW8 HR8 HM8 HB48 HBW4 HOK HFIT HGN HG HK HXP HR0 HX1 HB8 HDE HXE HLK
      obtain ⟨cst, HCS⟩ : ∃ cst, Hid (costW ws = cst) := ⟨_, Lib.hid rfl⟩
      have hcst : 8 ≤ cst ∧ cst ≤ 65537 := by have h1 := HEV.out.c8; have h2 := HEV.out.wrs.cost; rw [HCS.out] at h1 h2; exact ⟨h1, h2⟩
      have HCO := Lib.hid (PCost_any (w := wb) Aw _ cw ws HEV.out.wo.wsN (by have := HEV.out.wrs.cost; omega) (by have := HEV.out.wo.few; omega))
      rw [HCS.out] at HCO
      have hci : ¬ ((cst : Nat) : Int) < 8 := by omega
      have hcd : decide (((cst : Nat) : Int) < 8) = false := by simpa using hci
      clear hci
      go_upto_region 21 with (go_at_call 36; refine HCO.out.mono ?_; rintro _ wq ⟨rfl, hbq⟩; have HQ := Lib.hid hbq; clear hbq)
      have HEQ := Lib.hid (HEV.out.over HQ.out)
      clear hcd HCO HEV
      go_wp2_with fail
      go_loopw [12] (fun i wr => ∃ k : Nat, k ≤ cst + 1 ∧ i = .int .i64 (k : Int) ∧ Hid (Ev w wr tg A0 c0 A1 c1 Ab cb Aw cw A9 c9 j j' f ws)) (fun i _ => cst + 1 - (intOf i).toNat)
      case atStart => exact ⟨0, by omega, rfl, HEQ⟩
      case round =>
        clear HEQ HQ
        obtain ⟨k, hk, rfl, HE⟩ := hrel
        by_cases hlt : k ≤ cst
        · have hI : (k : Int) ≤ ((cst : Nat) : Int) := by omega
          obtain ⟨p0, q0, hB⟩ := HE.out.blk
          have HBL := Lib.hid hB
          have s1 : wr.cell? ⟨tg, 1, none⟩ = some (.slice A0 f.a.length c0) := hB.cell 1
          have s2 : wr.cell? ⟨tg, 2, none⟩ = some (.slice A1 f.b.length c1) := hB.cell 2
          have HAP := Lib.hid (apply_r (w := wr) (cap := cw) (ca := c0) (cb := c1) (k : Int) HE.out.wo HE.out.wrs.cost HE.out.o0 HE.out.o1 HE.out.good.half.la)
          clear hB
          go_upto_region 25 with (go_at_call 37; refine HAP.out.mono ?_; rintro _ wa ⟨B0, e0, B1, e1, rfl, oa, ob, hap, hba⟩; have HA := Lib.hid (And.intro oa (And.intro ob hba)); clear oa ob hap hba)
          obtain ⟨g, HGQ⟩ : ∃ g, Hid (apD ws (k : Int) f = g) := ⟨_, Lib.hid rfl⟩
          rw [HGQ.out] at HA ⊢
          obtain ⟨wd, hwd⟩ : ∃ wd, wd = wa.alloc (.cells #[.slice B0 g.a.length e0, .slice B1 g.b.length e1] 24) := ⟨_, rfl⟩
          rw [← hwd]
          have hbd : Below wa.heap.size wa wd := by rw [hwd]; exact one_box' _ _
          have hBd : Blk wd wa.heap.size 24 #[.slice B0 g.a.length e0, .slice B1 g.b.length e1] := by rw [hwd]; exact Blk.new _ _ _
          have hbrd := Below.then HA.out.2.2 hbd
          have HMD := Lib.hid (And.intro hBd (And.intro (own_over (own_base HA.out.1 (Nat.zero_le _)) hbd) (own_over (own_base HA.out.2.1 (Nat.zero_le _)) hbd)))
          have HED := Lib.hid (HE.out.over hbrd)
          have s3 : wd.cell? ⟨tg, 3, none⟩ = some (.slice Ab j.recs.length cb) := (HBL.out.over hbrd).cell 3
          clear hwd hbd hBd hbrd s1 s2 HAP
          go_upto_if 112 with fail
          go_cut [14] from 94 to 142 (fun d14 wc => ∃ Aq cq recs, d14 = .slice Aq recs.length cq ∧ Hid (Mid wc wa.heap.size B0 e0 B1 e1 Aq recs g) ∧ Hid (Ev w wc tg A0 c0 A1 c1 Ab cb Aw cw A9 c9 j j' f ws))
          case first =>
            by_cases hkc : k = cst
            · have hb : ((k : Int) == ((cst : Nat) : Int)) = true := by rw [hkc]; simp
              have HKC := Lib.hid hkc
              clear hkc hI hlt
              go_wp2_with fail
              go_meet
              have hgood := HED.out.wrs.full (k : Int) (.inr (by rw [HCS.out, HKC.out]; exact Int.le_refl _))
              rw [HGQ.out] at hgood
              have h1 := HED.out.wrs.gen
              have h2 := HED.out.gen
              exact ⟨A9, c9, j'.recs, rfl, Lib.hid ⟨HMD.out.1, HMD.out.2.1, HMD.out.2.2, HED.out.af, j'.file, j'.fi, hgood.half, rfl, by show j'.gen ≤ _; omega⟩, HED⟩
            · have hb : ((k : Int) == ((cst : Nat) : Int)) = false := by simp; omega
              have HKC : Hid (k < cst) := Lib.hid (by omega)
              clear hkc hI hlt
              go_wp2_with fail
              go_meet
              have hhalf := HED.out.wrs.torn (k : Int) (by omega) (by rw [HCS.out]; have := HKC.out; omega)
              rw [HGQ.out] at hhalf
              have h2 := HED.out.gen
              exact ⟨Ab, cb, j.recs, rfl, Lib.hid ⟨HMD.out.1, HMD.out.2.1, HMD.out.2.2, HED.out.bk, j.file, j.fi, hhalf, rfl, by show j.gen ≤ _; omega⟩, HED⟩
          case rest =>
            obtain ⟨Aq, cq, recs, rfl, HM, HE2⟩ := hcut
            obtain ⟨we, HWY⟩ : ∃ wp, Hid (wc = wp) := ⟨_, Lib.hid rfl⟩
            rw [HWY.out] at HM HE2 ⊢
            clear HWY s3 HMD HED HA HE HBL HGQ
            have s1 : we.cell? ⟨wa.heap.size, 0, none⟩ = some (.slice B0 g.a.length e0) := HM.out.blk.cell 0
            have s2 : we.cell? ⟨wa.heap.size, 1, none⟩ = some (.slice B1 g.b.length e1) := HM.out.blk.cell 1
            have HRD := Lib.hid (HM.out.reads cq (HT.out.below HE2.out.bw))
            go_upto_region 30 with (go_at_call 32; refine HRD.out.mono ?_; rintro _ wf ⟨rfl, hbf⟩; have HF := Lib.hid hbf; clear hbf)
            have HMF := Lib.hid (HM.out.over HF.out)
            have HEF := Lib.hid (HE2.out.over HF.out)
            clear s1 s2 HM HE2 HRD
            have hsr : Hid (cst + 1 - (k + 1) < cst + 1 - k) := Lib.hid (by omega)
            by_cases h7 : ((k : Int) % 7 != 3) = true
            · go_wp2_with fail
              go_roundw
              case rel => exact ⟨k + 1, by omega, by go_num, HEF⟩
              case measure => simp [intOf] <;> omega
            · have h7b : ((k : Int) % 7 != 3) = false := by simpa using h7
              clear h7
              have s1 : wf.cell? ⟨wa.heap.size, 0, none⟩ = some (.slice B0 g.a.length e0) := HMF.out.blk.cell 0
              have s2 : wf.cell? ⟨wa.heap.size, 1, none⟩ = some (.slice B1 g.b.length e1) := HMF.out.blk.cell 1
              obtain ⟨k0, x, hh, hx, hxg⟩ := HMF.out.half
              obtain ⟨j1, ws1, hop, _, _, hway⟩ := hh.opens (by omega)
              have HTR : Hid (∀ m : Int, 0 ≤ m → m < ((costW ws1 : Nat) : Int) → Half (apD ws1 m g) k0 x) := Lib.hid (by
                rcases hway with ⟨e, _⟩ | ⟨_, h, _⟩
                · intro m h0 h1
                  rw [e] at h1
                  simp [costW] at h1
                  omega
                · exact h)
              have HLA := Lib.hid hh.la
              have HXG := Lib.hid (And.intro hx hxg)
              have HC1 := Lib.hid (open_costD hop)
              have HOP := Lib.hid (Open_any (w := wf) (f := g) (c0 := e0) (c1 := e1) (Rd.of_own HMF.out.o0) (Rd.of_own HMF.out.o1) (own_len HMF.out.o0).1 (own_len HMF.out.o1).1 (own_len HMF.out.o0).2 (own_len HMF.out.o1).2 (HT.out.below HEF.out.bw))
              rw [hop] at HOP
              clear hh hx hxg hop hway
              go_upto_region 32 with (go_at_call 17; refine HOP.out.mono ?_; rintro _ wg ⟨hbg, jgx, vl, vw, Kp, rfl, hj1, hj2, hj3, hj4, hj5⟩; obtain ⟨Al, cl, rfl⟩ := hj4.shapeN hj3; obtain ⟨Ax, cx, rfl⟩ := hj5.shapeN; have HGB := Lib.hid hbg; have HWO : Hid (WOut wg 0 (.slice Ax ws1.length cx) ws1) := Lib.hid (hj5.mono (Nat.zero_le _)); clear hbg hj1 hj2 hj3 hj4 hj5)
              have HMG := Lib.hid (HMF.out.over HGB.out)
              have HEG := Lib.hid (HEF.out.over HGB.out)
              have HK5 : Hid (((k : Int) % 5) = ((k % 5 : Nat) : Int) ∧ k % 5 ≤ 4) := Lib.hid ⟨by omega, by omega⟩
              obtain ⟨c1s, HC1S⟩ : ∃ c, Hid (costW ws1 = c) := ⟨_, Lib.hid rfl⟩
              have hc1s : c1s ≤ 65537 := by have h := HC1.out; rw [HC1S.out] at h; exact h
              clear s1 s2 HOP HMF HEF h7b
              go_wp2_with fail
              go_loopw [19] (fun i wr2 => ∃ m : Nat, m ≤ 70000 ∧ i = .int .i64 (m : Int) ∧ Hid (Mid wr2 wa.heap.size B0 e0 B1 e1 Aq recs g) ∧ Hid (Ev w wr2 tg A0 c0 A1 c1 Ab cb Aw cw A9 c9 j j' f ws) ∧ Hid (WOut wr2 0 (.slice Ax ws1.length cx) ws1)) (fun i _ => 70010 - (intOf i).toNat)
              case atStart => exact ⟨k % 5, by have := HK5.out.2; omega, by rw [HK5.out.1], HMG, HEG, HWO⟩
              case round =>
                clear HMG HEG HWO
                obtain ⟨m, hm, rfl, HMR, HER, HWR⟩ := hrel
                have HCO := Lib.hid (PCost_any (w := wr) Ax _ cx ws1 HWR.out.wsN (by have := HC1.out; omega) (by have := HWR.out.few; omega))
                rw [HC1S.out] at HCO
                by_cases hmc : m < c1s
                · have hmI : (m : Int) < ((c1s : Nat) : Int) := by omega
                  have HHF := Lib.hid (HTR.out (m : Int) (by omega) (by rw [HC1S.out]; omega))
                  go_upto_region 35 with (go_at_call 36; refine HCO.out.mono ?_; rintro _ wh ⟨rfl, hbh⟩; have HH := Lib.hid hbh; clear hbh)
                  have HMH := Lib.hid (HMR.out.over HH.out)
                  have HEH := Lib.hid (HER.out.over HH.out)
                  have HWH := Lib.hid (HWR.out.below HH.out)
                  have s1 : wh.cell? ⟨wa.heap.size, 0, none⟩ = some (.slice B0 g.a.length e0) := HMH.out.blk.cell 0
                  have s2 : wh.cell? ⟨wa.heap.size, 1, none⟩ = some (.slice B1 g.b.length e1) := HMH.out.blk.cell 1
                  have HAP := Lib.hid (apply_r (w := wh) (cap := cx) (ca := e0) (cb := e1) (m : Int) HWH.out HC1.out (Rd.of_own HMH.out.o0) (Rd.of_own HMH.out.o1) HLA.out)
                  obtain ⟨q, HQ⟩ : ∃ q, Hid (apD ws1 (m : Int) g = q) := ⟨_, Lib.hid rfl⟩
                  rw [HQ.out] at HAP HHF
                  go_wp2_with (first
                    | (go_at_call 37; refine HAP.out.mono ?_; rintro _ wi ⟨D0, d0, D1, d1, rfl, oa, ob, hap, hbi⟩; have HI := Lib.hid (And.intro oa (And.intro ob hbi)); clear oa ob hap hbi; have HRD2 := Lib.hid (mid_reads cq HI.out.1 HI.out.2.1 (HMH.out.rc.below HI.out.2.2) HHF.out HXG.out.1 HXG.out.2 (HT.out.below ((HEH.out.over HI.out.2.2).bw))))
                    | (go_at_call 32; refine HRD2.out.mono ?_; rintro _ wj ⟨rfl, hbj⟩; have HJ := Lib.hid hbj; clear hbj))
                  have hb := Below.then HI.out.2.2 HJ.out
                  have HN1 := Lib.hid (HMH.out.over hb)
                  have HN2 := Lib.hid (HEH.out.over hb)
                  have HN3 := Lib.hid (HWH.out.below hb)
                  clear s1 s2 hb
                  go_roundw
                  case rel => exact ⟨m + 5, by omega, by go_num, HN1, HN2, HN3⟩
                  case measure => simp [intOf] <;> omega
                · have hmI : ¬ (m : Int) < ((c1s : Nat) : Int) := by omega
                  go_wp2_with (go_at_call 36; refine HCO.out.mono ?_; rintro _ wh ⟨rfl, hbh⟩; have HH := Lib.hid hbh; clear hbh)
                  have HEH := Lib.hid (HER.out.over HH.out)
                  go_roundw
                  case rel => exact ⟨k + 1, by omega, by go_num, HEH⟩
                  case measure => simp [intOf] <;> omega
        · have hI : ¬ (k : Int) ≤ ((cst : Nat) : Int) := by omega
          go_wp2_with fail
          go_ret
          exact ⟨rfl, HE.out.bw⟩
theorem JournalEveryUnit_walk (Av : Option Addr) (n cap : Nat) (kd on kn ln rk : Int) (A : Option Addr) (nb capb : Nat) (body : List UInt8) (w : World) (_hn : n ≤ cap) (hn2 : n ≤ 140737488351232) (ho : Ops w w.heap.size Av n) (_b0 : -9223372036854775808 ≤ kd) (_t0 : kd ≤ 9223372036854775807) (_b1 : -9223372036854775808 ≤ on) (_t1 : on ≤ 9223372036854775807)
    (_b2 : -9223372036854775808 ≤ kn) (_t2 : kn ≤ 9223372036854775807) (_b3 : -9223372036854775808 ≤ ln) (_t3 : ln ≤ 9223372036854775807) (b4 : -9223372036854775808 ≤ rk) (t4 : rk ≤ 9223372036854775807) (p5 : nb ≤ capb) (q5 : capb ≤ 140737488351232) (r5 : RdB w w.heap.size A nb body) (ht : Nibs w) :
    Calls Tryd.prog 7 #[.slice Av n cap, .agg #[.int .i64 kd, .int .i64 on, .int .i64 kn, .int .i64 ln, .int .i64 rk, .slice A nb capb]] w fun e w' => e = .returned (.bool true) ∧ Below w.heap.size w w' := Every_go Av n cap kd on kn ln rk A nb capb body w hn2 ho r5 p5 q5 ⟨b4, t4⟩ ht
end Go.Proofs.YtpkdalpjfcopbaaDoor
