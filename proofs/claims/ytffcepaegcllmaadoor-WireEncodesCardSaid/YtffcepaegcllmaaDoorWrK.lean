/-
  The program's writer: part, for the kinds that need no loop.
-/
import Derived.Test.YtffcepaegcllmaaDoorWrP
import Derived.Test.YtffcepaegcllmaaDoorPackD
import Derived.Deep.CutBlock
namespace Go.Proofs.YtffcepaegcllmaaDoor
open Go.RowKit
theorem counts_l {x : World} {base gw : Nat} {bs : List UInt8} {m : Nat} {is : List Int} {cs : Array Value} (hW : Wt x base gw bs) (hgb : base ≤ gw) (hb0 : base ≤ x.heap.size) (hcs : cs.toList = ivs is) (hl : is.length = m) (hn : bs.length + 9 * m + 9 ≤ 140737488355328) (his : ∀ y ∈ is, 0 ≤ y ∧ y ≤ 4611686018427387904) :
    Calls Tryd.prog 39 #[.pointer (some ⟨gw, 0, none⟩), .slice (some ⟨x.heap.size, 0, none⟩) m m] (x.alloc (.cells cs 3)) (WtP x base gw (bs ++ pack is)) := by
  have hal := one_box x (.cells cs 3)
  refine (counts_w (B := x.heap.size + 1) (hW.below hal) hgb (Nat.le_trans hb0 hal.size) (fun w1 hc => built_rd hc hcs hl rfl) hn his).mono ?_
  rintro _ w' ⟨rfl, h1, h2⟩
  exact ⟨rfl, h1, (ChT.of_below hal).trans h2⟩
/-- Where the packet's lists lie, whatever the writer turns. -/
abbrev InAll (w : World) (base B : Nat) (p : Pk) (D : PkD) : Prop := ∀ w1, ChT wrTs base w w1 → PkIn w1 B p D
theorem pack_len {bs : List UInt8} {is : List Int} {n k : Nat} (h : bs.length ≤ n) (hk : is.length ≤ k) : (bs ++ pack is).length ≤ n + 9 * k := by
  have := pack_le is
  rw [List.length_append]
  omega
theorem packL_len {bs : List UInt8} {is : List Int} {n k : Nat} (h : bs.length ≤ n) (hk : is.length ≤ k) : (bs ++ packL is).length ≤ n + 9 * k + 9 := by
  have h1 := pack_le is
  have h2 := pack_le [(is.length : Int)]
  unfold packL
  simp only [List.length_append, List.length_cons, List.length_nil] at *
  omega
theorem packI_len {bs : List UInt8} {e l i c : Int} {n : Nat} (h : bs.length ≤ n) : (bs ++ packI e l i c).length ≤ n + 36 := by
  have h1 := pack_le [(0 : Int)]
  have h2 := pack_le [e, l, i, c]
  unfold packI
  split <;> simp only [List.length_append, List.length_cons, List.length_nil] at * <;> omega
theorem packT_len {bs t : List UInt8} {n : Nat} (h : bs.length ≤ n) (ht : t.length ≤ 300) : (bs ++ packB t).length ≤ n + 310 := by
  have := packB_le t
  rw [List.length_append]
  omega
theorem all_in {l : List Int} (h : allB l = true) : ∀ y ∈ l, 0 ≤ y ∧ y ≤ 4611686018427387904 := fun y hy => by
  have := List.all_eq_true.1 h y hy
  simpa [cntB] using this
set_option maxRecDepth 100000 in
set_option maxHeartbeats 3200000 in
theorem part_1 {base gw B : Nat} {bs : List UInt8} {p : Pk} {D : PkD} {w : World} (hk1 : p.k = 1) (hk2 : beatB p.tk D.hears = true) (hW : Wt w base gw bs) (hgb : base ≤ gw) (hb0 : base ≤ w.heap.size) (hin : InAll w base B p D) (hn : bs.length ≤ 100000) :
    Calls Tryd.prog 40 #[.pointer (some ⟨gw, 0, none⟩), .agg p.cells] w (WtP w base gw (bs ++ (pack [p.tk] ++ packL D.hears))) := by
  have hv : cntB p.tk 0 = true ∧ allB D.hears = true ∧ D.hears.length ≤ 16 := by
    simp only [beatB, countsB, Bool.and_eq_true, decide_eq_true_eq] at hk2
    exact ⟨hk2.1, hk2.2.1.1, hk2.2.2⟩
  have HV := Lib.hid hv
  have HIN := Lib.hid hin
  obtain ⟨wa, hwa⟩ : ∃ wa, wa = w.alloc (.cells p.cells 45) := ⟨_, rfl⟩
  have HA : Hid (Below w.heap.size w wa ∧ Blk wa w.heap.size 45 p.cells) := Lib.hid ⟨by rw [hwa]; exact one_box _ _, by rw [hwa]; exact Blk.new _ _ _⟩
  have HS0 : Hid (Wt wa base gw bs ∧ ChT wrTs base w wa ∧ base ≤ wa.heap.size ∧ Blk wa w.heap.size 45 p.cells ∧ bs.length ≤ 100000) := Lib.hid ⟨hW.below HA.out.1, ChT.of_below HA.out.1, Nat.le_trans hb0 HA.out.1.size, HA.out.2, hn⟩
  have HWA := Lib.hid hwa
  clear hwa hW hin hv hk2
  have c0 : wa.cell? ⟨w.heap.size, 0, none⟩ = some (.int .i64 1) := by rw [HA.out.2.cell]; exact congrArg (fun z => some (Value.int .i64 z)) hk1
  have c5 : wa.cell? ⟨w.heap.size, 5, none⟩ = some (.int .i64 p.tk) := HA.out.2.cell 5
  have c6 : wa.cell? ⟨w.heap.size, 6, none⟩ = some (.slice p.hA p.hn p.hc) := HA.out.2.cell 6
  go_enter Tryd.func40, Tryd.ntmps40
  go_upto_region 1 with fail
  rw [← HWA.out]
  go_wp2_with (first | (go_at_call 97; refine (list_w HS1.out.1 hgb HS1.out.2.2.1 (fun w1 hc => (HIN.out w1 (HS1.out.2.1.trans hc)).rh) (by have h1 := HS1.out.2.2.2.2; have h2 := HV.out.2.2; have h3 := (HIN.out w (ChT.refl _ _ _)).rh.lenI; omega) (all_in HV.out.2.1)).mono ?_; rintro _ y1 ⟨rfl, hw1, hc1⟩; have hbk : Blk y1 w.heap.size 45 p.cells := HS1.out.2.2.2.1.cht hc1 (.inl (by decide)); have HS2 : Hid (Wt y1 base gw (((bs) ++ (pack [p.tk])) ++ (packL D.hears)) ∧ ChT wrTs base w y1 ∧ base ≤ y1.heap.size ∧ Blk y1 w.heap.size 45 p.cells ∧ (((bs) ++ (pack [p.tk])) ++ (packL D.hears)).length ≤ 100162) := Lib.hid ⟨hw1, HS1.out.2.1.trans hc1, Nat.le_trans HS1.out.2.2.1 (ChT.size hc1), hbk, packL_len (k := 16) HS1.out.2.2.2.2 HV.out.2.2⟩; have e5 : y1.cell? ⟨w.heap.size, 5, none⟩ = some (.int .i64 p.tk) := hbk.cell 5; have e6 : y1.cell? ⟨w.heap.size, 6, none⟩ = some (.slice p.hA p.hn p.hc) := hbk.cell 6; clear hw1 hc1 hbk; go_simp) | (go_at_call 39; refine (counts_l (m := 1) (is := [p.tk]) HS0.out.1 hgb HS0.out.2.2.1 rfl rfl (by have := HS0.out.2.2.2.2; omega) (by have := HV.out.1; simp [cntB] at this ⊢; exact this)).mono ?_; rintro _ y0 ⟨rfl, hw1, hc1⟩; have hbk : Blk y0 w.heap.size 45 p.cells := HS0.out.2.2.2.1.cht hc1 (.inl (by decide)); have HS1 : Hid (Wt y0 base gw ((bs) ++ (pack [p.tk])) ∧ ChT wrTs base w y0 ∧ base ≤ y0.heap.size ∧ Blk y0 w.heap.size 45 p.cells ∧ ((bs) ++ (pack [p.tk])).length ≤ 100009) := Lib.hid ⟨hw1, HS0.out.2.1.trans hc1, Nat.le_trans HS0.out.2.2.1 (ChT.size hc1), hbk, pack_len (k := 1) HS0.out.2.2.2.2 (by simp)⟩; have e5 : y0.cell? ⟨w.heap.size, 5, none⟩ = some (.int .i64 p.tk) := hbk.cell 5; have e6 : y0.cell? ⟨w.heap.size, 6, none⟩ = some (.slice p.hA p.hn p.hc) := hbk.cell 6; clear hw1 hc1 hbk; go_simp))
  go_end0
  exact ⟨rfl, by simpa only [List.append_assoc] using HS2.out.1, HS2.out.2.1⟩
set_option maxRecDepth 100000 in
set_option maxHeartbeats 3200000 in
theorem part_2 {base gw B : Nat} {bs : List UInt8} {p : Pk} {D : PkD} {w : World} (hk1 : p.k = 2) (hk2 : propB D.set p.cid p.rev p.top p.p1 p.p2 p.p3 p.p4 D.vec = true) (hW : Wt w base gw bs) (hgb : base ≤ gw) (hb0 : base ≤ w.heap.size) (hin : InAll w base B p D) (hn : bs.length ≤ 100000) :
    Calls Tryd.prog 40 #[.pointer (some ⟨gw, 0, none⟩), .agg p.cells] w (WtP w base gw (bs ++ (packL D.set ++ pack [p.cid, p.rev, p.top] ++ packI p.p1 p.p2 p.p3 p.p4 ++ packL D.vec))) := by
  have hv : allB D.set = true ∧ D.set.length ≤ 16 ∧ allB D.vec = true ∧ D.vec.length ≤ 16 ∧ cntB p.cid 1 = true ∧ cntB p.rev 1 = true ∧ cntB p.top 0 = true ∧ (wholeB p.p1 p.p2 p.p3 p.p4 = true ∨ noneB p.p1 p.p2 p.p3 p.p4 = true) := by
    simp only [propB, countsB, Bool.and_eq_true, Bool.or_eq_true, decide_eq_true_eq] at hk2
    obtain ⟨⟨⟨⟨⟨⟨⟨h1, h2⟩, _⟩, _⟩, h5⟩, h6⟩, h7⟩, h8⟩ := hk2
    exact ⟨h1.1.1, h1.2, h2.1.1, h2.2, h5, h6, h7, h8⟩
  have HV := Lib.hid hv
  have HIN := Lib.hid hin
  obtain ⟨wa, hwa⟩ : ∃ wa, wa = w.alloc (.cells p.cells 45) := ⟨_, rfl⟩
  have HA : Hid (Below w.heap.size w wa ∧ Blk wa w.heap.size 45 p.cells) := Lib.hid ⟨by rw [hwa]; exact one_box _ _, by rw [hwa]; exact Blk.new _ _ _⟩
  have HS0 : Hid (Wt wa base gw bs ∧ ChT wrTs base w wa ∧ base ≤ wa.heap.size ∧ Blk wa w.heap.size 45 p.cells ∧ bs.length ≤ 100000) := Lib.hid ⟨hW.below HA.out.1, ChT.of_below HA.out.1, Nat.le_trans hb0 HA.out.1.size, HA.out.2, hn⟩
  have HWA := Lib.hid hwa
  clear hwa hW hin hv hk2
  have c0 : wa.cell? ⟨w.heap.size, 0, none⟩ = some (.int .i64 2) := by rw [HA.out.2.cell]; exact congrArg (fun z => some (Value.int .i64 z)) hk1
  have c7 : wa.cell? ⟨w.heap.size, 7, none⟩ = some (.slice p.pA p.pn p.pc) := HA.out.2.cell 7
  have c8 : wa.cell? ⟨w.heap.size, 8, none⟩ = some (.int .i64 p.cid) := HA.out.2.cell 8
  have c9 : wa.cell? ⟨w.heap.size, 9, none⟩ = some (.int .i64 p.rev) := HA.out.2.cell 9
  have c10 : wa.cell? ⟨w.heap.size, 10, none⟩ = some (.int .i64 p.top) := HA.out.2.cell 10
  have c11 : wa.cell? ⟨w.heap.size, 11, none⟩ = some (.int .i64 p.p1) := HA.out.2.cell 11
  have c12 : wa.cell? ⟨w.heap.size, 12, none⟩ = some (.int .i64 p.p2) := HA.out.2.cell 12
  have c13 : wa.cell? ⟨w.heap.size, 13, none⟩ = some (.int .i64 p.p3) := HA.out.2.cell 13
  have c14 : wa.cell? ⟨w.heap.size, 14, none⟩ = some (.int .i64 p.p4) := HA.out.2.cell 14
  have c15 : wa.cell? ⟨w.heap.size, 15, none⟩ = some (.slice p.vA p.vn p.vc) := HA.out.2.cell 15
  go_enter Tryd.func40, Tryd.ntmps40
  go_upto_region 1 with fail
  rw [← HWA.out]
  go_wp2_with (first | (go_at_call 97; refine (list_w HS3.out.1 hgb HS3.out.2.2.1 (fun w1 hc => (HIN.out w1 (HS3.out.2.1.trans hc)).rv) (by have h1 := HS3.out.2.2.2.2; have h2 := HV.out.2.2.2.1; have h3 := (HIN.out w (ChT.refl _ _ _)).rv.lenI; omega) (all_in HV.out.2.2.1)).mono ?_; rintro _ y3 ⟨rfl, hw1, hc1⟩; have hbk : Blk y3 w.heap.size 45 p.cells := HS3.out.2.2.2.1.cht hc1 (.inl (by decide)); have HS4 : Hid (Wt y3 base gw (((((bs) ++ (packL D.set)) ++ (pack [p.cid, p.rev, p.top])) ++ (packI p.p1 p.p2 p.p3 p.p4)) ++ (packL D.vec)) ∧ ChT wrTs base w y3 ∧ base ≤ y3.heap.size ∧ Blk y3 w.heap.size 45 p.cells ∧ (((((bs) ++ (packL D.set)) ++ (pack [p.cid, p.rev, p.top])) ++ (packI p.p1 p.p2 p.p3 p.p4)) ++ (packL D.vec)).length ≤ 100369) := Lib.hid ⟨hw1, HS3.out.2.1.trans hc1, Nat.le_trans HS3.out.2.2.1 (ChT.size hc1), hbk, packL_len (k := 16) HS3.out.2.2.2.2 HV.out.2.2.2.1⟩; have e7 : y3.cell? ⟨w.heap.size, 7, none⟩ = some (.slice p.pA p.pn p.pc) := hbk.cell 7; have e8 : y3.cell? ⟨w.heap.size, 8, none⟩ = some (.int .i64 p.cid) := hbk.cell 8; have e9 : y3.cell? ⟨w.heap.size, 9, none⟩ = some (.int .i64 p.rev) := hbk.cell 9; have e10 : y3.cell? ⟨w.heap.size, 10, none⟩ = some (.int .i64 p.top) := hbk.cell 10; have e11 : y3.cell? ⟨w.heap.size, 11, none⟩ = some (.int .i64 p.p1) := hbk.cell 11; have e12 : y3.cell? ⟨w.heap.size, 12, none⟩ = some (.int .i64 p.p2) := hbk.cell 12; have e13 : y3.cell? ⟨w.heap.size, 13, none⟩ = some (.int .i64 p.p3) := hbk.cell 13; have e14 : y3.cell? ⟨w.heap.size, 14, none⟩ = some (.int .i64 p.p4) := hbk.cell 14; have e15 : y3.cell? ⟨w.heap.size, 15, none⟩ = some (.slice p.vA p.vn p.vc) := hbk.cell 15; clear hw1 hc1 hbk; go_simp) | (go_at_call 98; refine (id_w HS2.out.1 hgb HS2.out.2.2.1 (by have := HS2.out.2.2.2.2; omega) HV.out.2.2.2.2.2.2.2).mono ?_; rintro _ y2 ⟨rfl, hw1, hc1⟩; have hbk : Blk y2 w.heap.size 45 p.cells := HS2.out.2.2.2.1.cht hc1 (.inl (by decide)); have HS3 : Hid (Wt y2 base gw ((((bs) ++ (packL D.set)) ++ (pack [p.cid, p.rev, p.top])) ++ (packI p.p1 p.p2 p.p3 p.p4)) ∧ ChT wrTs base w y2 ∧ base ≤ y2.heap.size ∧ Blk y2 w.heap.size 45 p.cells ∧ ((((bs) ++ (packL D.set)) ++ (pack [p.cid, p.rev, p.top])) ++ (packI p.p1 p.p2 p.p3 p.p4)).length ≤ 100216) := Lib.hid ⟨hw1, HS2.out.2.1.trans hc1, Nat.le_trans HS2.out.2.2.1 (ChT.size hc1), hbk, packI_len HS2.out.2.2.2.2⟩; have e7 : y2.cell? ⟨w.heap.size, 7, none⟩ = some (.slice p.pA p.pn p.pc) := hbk.cell 7; have e8 : y2.cell? ⟨w.heap.size, 8, none⟩ = some (.int .i64 p.cid) := hbk.cell 8; have e9 : y2.cell? ⟨w.heap.size, 9, none⟩ = some (.int .i64 p.rev) := hbk.cell 9; have e10 : y2.cell? ⟨w.heap.size, 10, none⟩ = some (.int .i64 p.top) := hbk.cell 10; have e11 : y2.cell? ⟨w.heap.size, 11, none⟩ = some (.int .i64 p.p1) := hbk.cell 11; have e12 : y2.cell? ⟨w.heap.size, 12, none⟩ = some (.int .i64 p.p2) := hbk.cell 12; have e13 : y2.cell? ⟨w.heap.size, 13, none⟩ = some (.int .i64 p.p3) := hbk.cell 13; have e14 : y2.cell? ⟨w.heap.size, 14, none⟩ = some (.int .i64 p.p4) := hbk.cell 14; have e15 : y2.cell? ⟨w.heap.size, 15, none⟩ = some (.slice p.vA p.vn p.vc) := hbk.cell 15; clear hw1 hc1 hbk; go_simp) | (go_at_call 39; refine (counts_l (m := 3) (is := [p.cid, p.rev, p.top]) HS1.out.1 hgb HS1.out.2.2.1 rfl rfl (by have := HS1.out.2.2.2.2; omega) (by have h1 := HV.out.2.2.2.2.1; have h2 := HV.out.2.2.2.2.2.1; have h3 := HV.out.2.2.2.2.2.2.1; simp [cntB] at h1 h2 h3 ⊢; omega)).mono ?_; rintro _ y1 ⟨rfl, hw1, hc1⟩; have hbk : Blk y1 w.heap.size 45 p.cells := HS1.out.2.2.2.1.cht hc1 (.inl (by decide)); have HS2 : Hid (Wt y1 base gw (((bs) ++ (packL D.set)) ++ (pack [p.cid, p.rev, p.top])) ∧ ChT wrTs base w y1 ∧ base ≤ y1.heap.size ∧ Blk y1 w.heap.size 45 p.cells ∧ (((bs) ++ (packL D.set)) ++ (pack [p.cid, p.rev, p.top])).length ≤ 100180) := Lib.hid ⟨hw1, HS1.out.2.1.trans hc1, Nat.le_trans HS1.out.2.2.1 (ChT.size hc1), hbk, pack_len (k := 3) HS1.out.2.2.2.2 (by simp)⟩; have e7 : y1.cell? ⟨w.heap.size, 7, none⟩ = some (.slice p.pA p.pn p.pc) := hbk.cell 7; have e8 : y1.cell? ⟨w.heap.size, 8, none⟩ = some (.int .i64 p.cid) := hbk.cell 8; have e9 : y1.cell? ⟨w.heap.size, 9, none⟩ = some (.int .i64 p.rev) := hbk.cell 9; have e10 : y1.cell? ⟨w.heap.size, 10, none⟩ = some (.int .i64 p.top) := hbk.cell 10; have e11 : y1.cell? ⟨w.heap.size, 11, none⟩ = some (.int .i64 p.p1) := hbk.cell 11; have e12 : y1.cell? ⟨w.heap.size, 12, none⟩ = some (.int .i64 p.p2) := hbk.cell 12; have e13 : y1.cell? ⟨w.heap.size, 13, none⟩ = some (.int .i64 p.p3) := hbk.cell 13; have e14 : y1.cell? ⟨w.heap.size, 14, none⟩ = some (.int .i64 p.p4) := hbk.cell 14; have e15 : y1.cell? ⟨w.heap.size, 15, none⟩ = some (.slice p.vA p.vn p.vc) := hbk.cell 15; clear hw1 hc1 hbk; go_simp) | (go_at_call 97; refine (list_w HS0.out.1 hgb HS0.out.2.2.1 (fun w1 hc => (HIN.out w1 (HS0.out.2.1.trans hc)).rp) (by have h1 := HS0.out.2.2.2.2; have h2 := HV.out.2.1; have h3 := (HIN.out w (ChT.refl _ _ _)).rp.lenI; omega) (all_in HV.out.1)).mono ?_; rintro _ y0 ⟨rfl, hw1, hc1⟩; have hbk : Blk y0 w.heap.size 45 p.cells := HS0.out.2.2.2.1.cht hc1 (.inl (by decide)); have HS1 : Hid (Wt y0 base gw ((bs) ++ (packL D.set)) ∧ ChT wrTs base w y0 ∧ base ≤ y0.heap.size ∧ Blk y0 w.heap.size 45 p.cells ∧ ((bs) ++ (packL D.set)).length ≤ 100153) := Lib.hid ⟨hw1, HS0.out.2.1.trans hc1, Nat.le_trans HS0.out.2.2.1 (ChT.size hc1), hbk, packL_len (k := 16) HS0.out.2.2.2.2 HV.out.2.1⟩; have e7 : y0.cell? ⟨w.heap.size, 7, none⟩ = some (.slice p.pA p.pn p.pc) := hbk.cell 7; have e8 : y0.cell? ⟨w.heap.size, 8, none⟩ = some (.int .i64 p.cid) := hbk.cell 8; have e9 : y0.cell? ⟨w.heap.size, 9, none⟩ = some (.int .i64 p.rev) := hbk.cell 9; have e10 : y0.cell? ⟨w.heap.size, 10, none⟩ = some (.int .i64 p.top) := hbk.cell 10; have e11 : y0.cell? ⟨w.heap.size, 11, none⟩ = some (.int .i64 p.p1) := hbk.cell 11; have e12 : y0.cell? ⟨w.heap.size, 12, none⟩ = some (.int .i64 p.p2) := hbk.cell 12; have e13 : y0.cell? ⟨w.heap.size, 13, none⟩ = some (.int .i64 p.p3) := hbk.cell 13; have e14 : y0.cell? ⟨w.heap.size, 14, none⟩ = some (.int .i64 p.p4) := hbk.cell 14; have e15 : y0.cell? ⟨w.heap.size, 15, none⟩ = some (.slice p.vA p.vn p.vc) := hbk.cell 15; clear hw1 hc1 hbk; go_simp))
  go_end0
  exact ⟨rfl, by simpa only [List.append_assoc] using HS4.out.1, HS4.out.2.1⟩
set_option maxRecDepth 100000 in
set_option maxHeartbeats 3200000 in
theorem part_4 {base gw B : Nat} {bs : List UInt8} {p : Pk} {D : PkD} {w : World} (hk1 : p.k = 4) (hk2 : stableB p.w1 p.w2 p.w3 p.w4 p.done p.pfx = true) (hW : Wt w base gw bs) (hgb : base ≤ gw) (hb0 : base ≤ w.heap.size) (hin : InAll w base B p D) (hn : bs.length ≤ 100000) :
    Calls Tryd.prog 40 #[.pointer (some ⟨gw, 0, none⟩), .agg p.cells] w (WtP w base gw (bs ++ (packI p.w1 p.w2 p.w3 p.w4 ++ pack [p.done, p.pfx]))) := by
  have hv : wholeB p.w1 p.w2 p.w3 p.w4 = true ∧ cntB p.done 0 = true ∧ 0 ≤ p.pfx ∧ p.pfx ≤ p.done := by
    simp only [stableB, Bool.and_eq_true, decide_eq_true_eq] at hk2
    exact ⟨hk2.1.1.1, hk2.1.1.2, hk2.1.2, hk2.2⟩
  have HV := Lib.hid hv
  have HIN := Lib.hid hin
  obtain ⟨wa, hwa⟩ : ∃ wa, wa = w.alloc (.cells p.cells 45) := ⟨_, rfl⟩
  have HA : Hid (Below w.heap.size w wa ∧ Blk wa w.heap.size 45 p.cells) := Lib.hid ⟨by rw [hwa]; exact one_box _ _, by rw [hwa]; exact Blk.new _ _ _⟩
  have HS0 : Hid (Wt wa base gw bs ∧ ChT wrTs base w wa ∧ base ≤ wa.heap.size ∧ Blk wa w.heap.size 45 p.cells ∧ bs.length ≤ 100000) := Lib.hid ⟨hW.below HA.out.1, ChT.of_below HA.out.1, Nat.le_trans hb0 HA.out.1.size, HA.out.2, hn⟩
  have HWA := Lib.hid hwa
  clear hwa hW hin hv hk2
  have c0 : wa.cell? ⟨w.heap.size, 0, none⟩ = some (.int .i64 4) := by rw [HA.out.2.cell]; exact congrArg (fun z => some (Value.int .i64 z)) hk1
  have c23 : wa.cell? ⟨w.heap.size, 23, none⟩ = some (.int .i64 p.w1) := HA.out.2.cell 23
  have c24 : wa.cell? ⟨w.heap.size, 24, none⟩ = some (.int .i64 p.w2) := HA.out.2.cell 24
  have c25 : wa.cell? ⟨w.heap.size, 25, none⟩ = some (.int .i64 p.w3) := HA.out.2.cell 25
  have c26 : wa.cell? ⟨w.heap.size, 26, none⟩ = some (.int .i64 p.w4) := HA.out.2.cell 26
  have c27 : wa.cell? ⟨w.heap.size, 27, none⟩ = some (.int .i64 p.done) := HA.out.2.cell 27
  have c28 : wa.cell? ⟨w.heap.size, 28, none⟩ = some (.int .i64 p.pfx) := HA.out.2.cell 28
  go_enter Tryd.func40, Tryd.ntmps40
  go_upto_region 1 with fail
  rw [← HWA.out]
  go_wp2_with (first | (go_at_call 39; refine (counts_l (m := 2) (is := [p.done, p.pfx]) HS1.out.1 hgb HS1.out.2.2.1 rfl rfl (by have := HS1.out.2.2.2.2; omega) (by have h1 := HV.out.2.1; have h2 := HV.out.2.2; simp [cntB] at h1 ⊢; omega)).mono ?_; rintro _ y1 ⟨rfl, hw1, hc1⟩; have hbk : Blk y1 w.heap.size 45 p.cells := HS1.out.2.2.2.1.cht hc1 (.inl (by decide)); have HS2 : Hid (Wt y1 base gw (((bs) ++ (packI p.w1 p.w2 p.w3 p.w4)) ++ (pack [p.done, p.pfx])) ∧ ChT wrTs base w y1 ∧ base ≤ y1.heap.size ∧ Blk y1 w.heap.size 45 p.cells ∧ (((bs) ++ (packI p.w1 p.w2 p.w3 p.w4)) ++ (pack [p.done, p.pfx])).length ≤ 100054) := Lib.hid ⟨hw1, HS1.out.2.1.trans hc1, Nat.le_trans HS1.out.2.2.1 (ChT.size hc1), hbk, pack_len (k := 2) HS1.out.2.2.2.2 (by simp)⟩; have e23 : y1.cell? ⟨w.heap.size, 23, none⟩ = some (.int .i64 p.w1) := hbk.cell 23; have e24 : y1.cell? ⟨w.heap.size, 24, none⟩ = some (.int .i64 p.w2) := hbk.cell 24; have e25 : y1.cell? ⟨w.heap.size, 25, none⟩ = some (.int .i64 p.w3) := hbk.cell 25; have e26 : y1.cell? ⟨w.heap.size, 26, none⟩ = some (.int .i64 p.w4) := hbk.cell 26; have e27 : y1.cell? ⟨w.heap.size, 27, none⟩ = some (.int .i64 p.done) := hbk.cell 27; have e28 : y1.cell? ⟨w.heap.size, 28, none⟩ = some (.int .i64 p.pfx) := hbk.cell 28; clear hw1 hc1 hbk; go_simp) | (go_at_call 98; refine (id_w HS0.out.1 hgb HS0.out.2.2.1 (by have := HS0.out.2.2.2.2; omega) (.inl HV.out.1)).mono ?_; rintro _ y0 ⟨rfl, hw1, hc1⟩; have hbk : Blk y0 w.heap.size 45 p.cells := HS0.out.2.2.2.1.cht hc1 (.inl (by decide)); have HS1 : Hid (Wt y0 base gw ((bs) ++ (packI p.w1 p.w2 p.w3 p.w4)) ∧ ChT wrTs base w y0 ∧ base ≤ y0.heap.size ∧ Blk y0 w.heap.size 45 p.cells ∧ ((bs) ++ (packI p.w1 p.w2 p.w3 p.w4)).length ≤ 100036) := Lib.hid ⟨hw1, HS0.out.2.1.trans hc1, Nat.le_trans HS0.out.2.2.1 (ChT.size hc1), hbk, packI_len HS0.out.2.2.2.2⟩; have e23 : y0.cell? ⟨w.heap.size, 23, none⟩ = some (.int .i64 p.w1) := hbk.cell 23; have e24 : y0.cell? ⟨w.heap.size, 24, none⟩ = some (.int .i64 p.w2) := hbk.cell 24; have e25 : y0.cell? ⟨w.heap.size, 25, none⟩ = some (.int .i64 p.w3) := hbk.cell 25; have e26 : y0.cell? ⟨w.heap.size, 26, none⟩ = some (.int .i64 p.w4) := hbk.cell 26; have e27 : y0.cell? ⟨w.heap.size, 27, none⟩ = some (.int .i64 p.done) := hbk.cell 27; have e28 : y0.cell? ⟨w.heap.size, 28, none⟩ = some (.int .i64 p.pfx) := hbk.cell 28; clear hw1 hc1 hbk; go_simp))
  go_end0
  exact ⟨rfl, by simpa only [List.append_assoc] using HS2.out.1, HS2.out.2.1⟩
set_option maxRecDepth 100000 in
set_option maxHeartbeats 3200000 in
theorem part_5 {base gw B : Nat} {bs : List UInt8} {p : Pk} {D : PkD} {w : World} (hk1 : p.k = 5) (hk2 : frameB p.t1 p.t2 p.t3 p.t4 p.seq p.bn = true) (hW : Wt w base gw bs) (hgb : base ≤ gw) (hb0 : base ≤ w.heap.size) (hin : InAll w base B p D) (hn : bs.length ≤ 100000) :
    Calls Tryd.prog 40 #[.pointer (some ⟨gw, 0, none⟩), .agg p.cells] w (WtP w base gw (bs ++ (packI p.t1 p.t2 p.t3 p.t4 ++ pack [p.seq] ++ packB D.body))) := by
  have hv : wholeB p.t1 p.t2 p.t3 p.t4 = true ∧ cntB p.seq 1 = true ∧ p.bn ≤ 300 := by
    simp only [frameB, Bool.and_eq_true, decide_eq_true_eq] at hk2
    exact ⟨hk2.1.1.1, hk2.1.1.2, hk2.2⟩
  have HV := Lib.hid hv
  have HIN := Lib.hid hin
  obtain ⟨wa, hwa⟩ : ∃ wa, wa = w.alloc (.cells p.cells 45) := ⟨_, rfl⟩
  have HA : Hid (Below w.heap.size w wa ∧ Blk wa w.heap.size 45 p.cells) := Lib.hid ⟨by rw [hwa]; exact one_box _ _, by rw [hwa]; exact Blk.new _ _ _⟩
  have HS0 : Hid (Wt wa base gw bs ∧ ChT wrTs base w wa ∧ base ≤ wa.heap.size ∧ Blk wa w.heap.size 45 p.cells ∧ bs.length ≤ 100000) := Lib.hid ⟨hW.below HA.out.1, ChT.of_below HA.out.1, Nat.le_trans hb0 HA.out.1.size, HA.out.2, hn⟩
  have HWA := Lib.hid hwa
  clear hwa hW hin hv hk2
  have c0 : wa.cell? ⟨w.heap.size, 0, none⟩ = some (.int .i64 5) := by rw [HA.out.2.cell]; exact congrArg (fun z => some (Value.int .i64 z)) hk1
  have c29 : wa.cell? ⟨w.heap.size, 29, none⟩ = some (.int .i64 p.t1) := HA.out.2.cell 29
  have c30 : wa.cell? ⟨w.heap.size, 30, none⟩ = some (.int .i64 p.t2) := HA.out.2.cell 30
  have c31 : wa.cell? ⟨w.heap.size, 31, none⟩ = some (.int .i64 p.t3) := HA.out.2.cell 31
  have c32 : wa.cell? ⟨w.heap.size, 32, none⟩ = some (.int .i64 p.t4) := HA.out.2.cell 32
  have c33 : wa.cell? ⟨w.heap.size, 33, none⟩ = some (.int .i64 p.seq) := HA.out.2.cell 33
  have c34 : wa.cell? ⟨w.heap.size, 34, none⟩ = some (.slice p.bA p.bn p.bc) := HA.out.2.cell 34
  go_enter Tryd.func40, Tryd.ntmps40
  go_upto_region 1 with fail
  rw [← HWA.out]
  go_wp2_with (first | (go_at_call 99; refine (text_w HS2.out.1 hgb HS2.out.2.2.1 (fun w1 hc => (HIN.out w1 (HS2.out.2.1.trans hc)).rb) (by have h1 := HS2.out.2.2.2.2; have h2 := HV.out.2.2; omega)).mono ?_; rintro _ y2 ⟨rfl, hw1, hc1⟩; have hbk : Blk y2 w.heap.size 45 p.cells := HS2.out.2.2.2.1.cht hc1 (.inl (by decide)); have HS3 : Hid (Wt y2 base gw ((((bs) ++ (packI p.t1 p.t2 p.t3 p.t4)) ++ (pack [p.seq])) ++ (packB D.body)) ∧ ChT wrTs base w y2 ∧ base ≤ y2.heap.size ∧ Blk y2 w.heap.size 45 p.cells ∧ ((((bs) ++ (packI p.t1 p.t2 p.t3 p.t4)) ++ (pack [p.seq])) ++ (packB D.body)).length ≤ 100355) := Lib.hid ⟨hw1, HS2.out.2.1.trans hc1, Nat.le_trans HS2.out.2.2.1 (ChT.size hc1), hbk, packT_len HS2.out.2.2.2.2 (by have h2 := HV.out.2.2; have h3 := (HIN.out w (ChT.refl _ _ _)).rb.lenB; omega)⟩; have e29 : y2.cell? ⟨w.heap.size, 29, none⟩ = some (.int .i64 p.t1) := hbk.cell 29; have e30 : y2.cell? ⟨w.heap.size, 30, none⟩ = some (.int .i64 p.t2) := hbk.cell 30; have e31 : y2.cell? ⟨w.heap.size, 31, none⟩ = some (.int .i64 p.t3) := hbk.cell 31; have e32 : y2.cell? ⟨w.heap.size, 32, none⟩ = some (.int .i64 p.t4) := hbk.cell 32; have e33 : y2.cell? ⟨w.heap.size, 33, none⟩ = some (.int .i64 p.seq) := hbk.cell 33; have e34 : y2.cell? ⟨w.heap.size, 34, none⟩ = some (.slice p.bA p.bn p.bc) := hbk.cell 34; clear hw1 hc1 hbk; go_simp) | (go_at_call 39; refine (counts_l (m := 1) (is := [p.seq]) HS1.out.1 hgb HS1.out.2.2.1 rfl rfl (by have := HS1.out.2.2.2.2; omega) (by have h1 := HV.out.2.1; simp [cntB] at h1 ⊢; omega)).mono ?_; rintro _ y1 ⟨rfl, hw1, hc1⟩; have hbk : Blk y1 w.heap.size 45 p.cells := HS1.out.2.2.2.1.cht hc1 (.inl (by decide)); have HS2 : Hid (Wt y1 base gw (((bs) ++ (packI p.t1 p.t2 p.t3 p.t4)) ++ (pack [p.seq])) ∧ ChT wrTs base w y1 ∧ base ≤ y1.heap.size ∧ Blk y1 w.heap.size 45 p.cells ∧ (((bs) ++ (packI p.t1 p.t2 p.t3 p.t4)) ++ (pack [p.seq])).length ≤ 100045) := Lib.hid ⟨hw1, HS1.out.2.1.trans hc1, Nat.le_trans HS1.out.2.2.1 (ChT.size hc1), hbk, pack_len (k := 1) HS1.out.2.2.2.2 (by simp)⟩; have e29 : y1.cell? ⟨w.heap.size, 29, none⟩ = some (.int .i64 p.t1) := hbk.cell 29; have e30 : y1.cell? ⟨w.heap.size, 30, none⟩ = some (.int .i64 p.t2) := hbk.cell 30; have e31 : y1.cell? ⟨w.heap.size, 31, none⟩ = some (.int .i64 p.t3) := hbk.cell 31; have e32 : y1.cell? ⟨w.heap.size, 32, none⟩ = some (.int .i64 p.t4) := hbk.cell 32; have e33 : y1.cell? ⟨w.heap.size, 33, none⟩ = some (.int .i64 p.seq) := hbk.cell 33; have e34 : y1.cell? ⟨w.heap.size, 34, none⟩ = some (.slice p.bA p.bn p.bc) := hbk.cell 34; clear hw1 hc1 hbk; go_simp) | (go_at_call 98; refine (id_w HS0.out.1 hgb HS0.out.2.2.1 (by have := HS0.out.2.2.2.2; omega) (.inl HV.out.1)).mono ?_; rintro _ y0 ⟨rfl, hw1, hc1⟩; have hbk : Blk y0 w.heap.size 45 p.cells := HS0.out.2.2.2.1.cht hc1 (.inl (by decide)); have HS1 : Hid (Wt y0 base gw ((bs) ++ (packI p.t1 p.t2 p.t3 p.t4)) ∧ ChT wrTs base w y0 ∧ base ≤ y0.heap.size ∧ Blk y0 w.heap.size 45 p.cells ∧ ((bs) ++ (packI p.t1 p.t2 p.t3 p.t4)).length ≤ 100036) := Lib.hid ⟨hw1, HS0.out.2.1.trans hc1, Nat.le_trans HS0.out.2.2.1 (ChT.size hc1), hbk, packI_len HS0.out.2.2.2.2⟩; have e29 : y0.cell? ⟨w.heap.size, 29, none⟩ = some (.int .i64 p.t1) := hbk.cell 29; have e30 : y0.cell? ⟨w.heap.size, 30, none⟩ = some (.int .i64 p.t2) := hbk.cell 30; have e31 : y0.cell? ⟨w.heap.size, 31, none⟩ = some (.int .i64 p.t3) := hbk.cell 31; have e32 : y0.cell? ⟨w.heap.size, 32, none⟩ = some (.int .i64 p.t4) := hbk.cell 32; have e33 : y0.cell? ⟨w.heap.size, 33, none⟩ = some (.int .i64 p.seq) := hbk.cell 33; have e34 : y0.cell? ⟨w.heap.size, 34, none⟩ = some (.slice p.bA p.bn p.bc) := hbk.cell 34; clear hw1 hc1 hbk; go_simp))
  go_end0
  exact ⟨rfl, by simpa only [List.append_assoc] using HS3.out.1, HS3.out.2.1⟩
set_option maxRecDepth 100000 in
set_option maxHeartbeats 3200000 in
theorem part_6 {base gw B : Nat} {bs : List UInt8} {p : Pk} {D : PkD} {w : World} (hk1 : p.k = 6) (hk2 : ackB p.a1 p.a2 p.a3 p.a4 p.upto = true) (hW : Wt w base gw bs) (hgb : base ≤ gw) (hb0 : base ≤ w.heap.size) (hin : InAll w base B p D) (hn : bs.length ≤ 100000) :
    Calls Tryd.prog 40 #[.pointer (some ⟨gw, 0, none⟩), .agg p.cells] w (WtP w base gw (bs ++ (packI p.a1 p.a2 p.a3 p.a4 ++ pack [p.upto]))) := by
  have hv : wholeB p.a1 p.a2 p.a3 p.a4 = true ∧ cntB p.upto 0 = true := by
    simp only [ackB, Bool.and_eq_true] at hk2
    exact hk2
  have HV := Lib.hid hv
  have HIN := Lib.hid hin
  obtain ⟨wa, hwa⟩ : ∃ wa, wa = w.alloc (.cells p.cells 45) := ⟨_, rfl⟩
  have HA : Hid (Below w.heap.size w wa ∧ Blk wa w.heap.size 45 p.cells) := Lib.hid ⟨by rw [hwa]; exact one_box _ _, by rw [hwa]; exact Blk.new _ _ _⟩
  have HS0 : Hid (Wt wa base gw bs ∧ ChT wrTs base w wa ∧ base ≤ wa.heap.size ∧ Blk wa w.heap.size 45 p.cells ∧ bs.length ≤ 100000) := Lib.hid ⟨hW.below HA.out.1, ChT.of_below HA.out.1, Nat.le_trans hb0 HA.out.1.size, HA.out.2, hn⟩
  have HWA := Lib.hid hwa
  clear hwa hW hin hv hk2
  have c0 : wa.cell? ⟨w.heap.size, 0, none⟩ = some (.int .i64 6) := by rw [HA.out.2.cell]; exact congrArg (fun z => some (Value.int .i64 z)) hk1
  have c35 : wa.cell? ⟨w.heap.size, 35, none⟩ = some (.int .i64 p.a1) := HA.out.2.cell 35
  have c36 : wa.cell? ⟨w.heap.size, 36, none⟩ = some (.int .i64 p.a2) := HA.out.2.cell 36
  have c37 : wa.cell? ⟨w.heap.size, 37, none⟩ = some (.int .i64 p.a3) := HA.out.2.cell 37
  have c38 : wa.cell? ⟨w.heap.size, 38, none⟩ = some (.int .i64 p.a4) := HA.out.2.cell 38
  have c39 : wa.cell? ⟨w.heap.size, 39, none⟩ = some (.int .i64 p.upto) := HA.out.2.cell 39
  go_enter Tryd.func40, Tryd.ntmps40
  go_upto_region 1 with fail
  rw [← HWA.out]
  go_wp2_with (first | (go_at_call 39; refine (counts_l (m := 1) (is := [p.upto]) HS1.out.1 hgb HS1.out.2.2.1 rfl rfl (by have := HS1.out.2.2.2.2; omega) (by have := HV.out.2; simp [cntB] at this ⊢; exact this)).mono ?_; rintro _ y1 ⟨rfl, hw1, hc1⟩; have hbk : Blk y1 w.heap.size 45 p.cells := HS1.out.2.2.2.1.cht hc1 (.inl (by decide)); have HS2 : Hid (Wt y1 base gw (((bs) ++ (packI p.a1 p.a2 p.a3 p.a4)) ++ (pack [p.upto])) ∧ ChT wrTs base w y1 ∧ base ≤ y1.heap.size ∧ Blk y1 w.heap.size 45 p.cells ∧ (((bs) ++ (packI p.a1 p.a2 p.a3 p.a4)) ++ (pack [p.upto])).length ≤ 100045) := Lib.hid ⟨hw1, HS1.out.2.1.trans hc1, Nat.le_trans HS1.out.2.2.1 (ChT.size hc1), hbk, pack_len (k := 1) HS1.out.2.2.2.2 (by simp)⟩; have e35 : y1.cell? ⟨w.heap.size, 35, none⟩ = some (.int .i64 p.a1) := hbk.cell 35; have e36 : y1.cell? ⟨w.heap.size, 36, none⟩ = some (.int .i64 p.a2) := hbk.cell 36; have e37 : y1.cell? ⟨w.heap.size, 37, none⟩ = some (.int .i64 p.a3) := hbk.cell 37; have e38 : y1.cell? ⟨w.heap.size, 38, none⟩ = some (.int .i64 p.a4) := hbk.cell 38; have e39 : y1.cell? ⟨w.heap.size, 39, none⟩ = some (.int .i64 p.upto) := hbk.cell 39; clear hw1 hc1 hbk; go_simp) | (go_at_call 98; refine (id_w HS0.out.1 hgb HS0.out.2.2.1 (by have := HS0.out.2.2.2.2; omega) (.inl HV.out.1)).mono ?_; rintro _ y0 ⟨rfl, hw1, hc1⟩; have hbk : Blk y0 w.heap.size 45 p.cells := HS0.out.2.2.2.1.cht hc1 (.inl (by decide)); have HS1 : Hid (Wt y0 base gw ((bs) ++ (packI p.a1 p.a2 p.a3 p.a4)) ∧ ChT wrTs base w y0 ∧ base ≤ y0.heap.size ∧ Blk y0 w.heap.size 45 p.cells ∧ ((bs) ++ (packI p.a1 p.a2 p.a3 p.a4)).length ≤ 100036) := Lib.hid ⟨hw1, HS0.out.2.1.trans hc1, Nat.le_trans HS0.out.2.2.1 (ChT.size hc1), hbk, packI_len HS0.out.2.2.2.2⟩; have e35 : y0.cell? ⟨w.heap.size, 35, none⟩ = some (.int .i64 p.a1) := hbk.cell 35; have e36 : y0.cell? ⟨w.heap.size, 36, none⟩ = some (.int .i64 p.a2) := hbk.cell 36; have e37 : y0.cell? ⟨w.heap.size, 37, none⟩ = some (.int .i64 p.a3) := hbk.cell 37; have e38 : y0.cell? ⟨w.heap.size, 38, none⟩ = some (.int .i64 p.a4) := hbk.cell 38; have e39 : y0.cell? ⟨w.heap.size, 39, none⟩ = some (.int .i64 p.upto) := hbk.cell 39; clear hw1 hc1 hbk; go_simp))
  go_end0
  exact ⟨rfl, by simpa only [List.append_assoc] using HS2.out.1, HS2.out.2.1⟩
end Go.Proofs.YtffcepaegcllmaaDoor
