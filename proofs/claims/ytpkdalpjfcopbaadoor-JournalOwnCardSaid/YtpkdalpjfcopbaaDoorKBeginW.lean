/-
  The program's begin, walked. And: The program's begin: a file's first bytes.
-/
import Derived.Test.YtpkdalpjfcopbaaDoorKFrame
import Derived.Test.YtpkdalpjfcopbaaDoorKRead
namespace Go.Proofs.YtpkdalpjfcopbaaDoor
open Go.RowKit
theorem Rd.chgF {w w' : World} {B sz n : Nat} {A : Option Addr} {xs : List Value} {S : Nat → Prop} (h : Rd w B sz A n xs) (hc : Chg S w w') (hB : B ≤ w.heap.size) (hS : 0 < n → ∀ b o s, A = some ⟨b, o, s⟩ → ¬ S b) : Rd w' B sz A n xs :=
  ⟨h.len, fun hn => by
    obtain ⟨b, off, e, hb, hcl⟩ := h.at_ hn
    exact ⟨b, off, e, hb, fun j u hu => (World.cell?_of_block (hc.block b (by omega) (hS hn _ _ _ e))).trans (hcl j u hu)⟩⟩
/-- A list of records in memory; none of it lies in F. -/
structure RcRd (w : World) (F : Nat → Prop) (A : Option Addr) (n : Nat) (rs : List Rc) : Prop where
  len : n = rs.length
  at_ : ∀ k r, rs[k]? = some r → ∃ g o bA bc, A = some ⟨g, o, none⟩ ∧ g < w.heap.size ∧ ¬ F g ∧ w.cell? ⟨g, o + k * 2, none⟩ = some (.int .i64 r.kind) ∧ w.cell? ⟨g, o + k * 2 + 1, none⟩ = some (.slice bA r.body.length bc) ∧ RdB w w.heap.size bA r.body.length r.body ∧ r.body.length ≤ bc ∧ (0 < r.body.length → ∀ b o s, bA = some ⟨b, o, s⟩ → ¬ F b)
section
variable {w w' : World} {F F' S : Nat → Prop} {n : Nat} {A : Option Addr} {rs : List Rc}
theorem RcRd.chg (h : RcRd w F A n rs) (hc : Chg S w w') (hS : ∀ k, k < w.heap.size → S k → F k) : RcRd w' F A n rs := by
  refine ⟨h.len, fun k x hx => ?_⟩
  obtain ⟨g, o, bA, bc, e, hg, hF, c0, c1, hr, hcp, hb⟩ := h.at_ k x hx
  have hn : ¬ S g := fun hs => hF (hS g hg hs)
  refine ⟨g, o, bA, bc, e, Nat.lt_of_lt_of_le hg hc.size, hF, (World.cell?_of_block (hc.block g hg hn)).trans c0, (World.cell?_of_block (hc.block g hg hn)).trans c1, (hr.chgF hc (Nat.le_refl _) fun h0 b o s e hs => ?_).more hc.size, hcp, hb⟩
  obtain ⟨b', o', e', hlt, _⟩ := hr.at_ h0
  rw [e] at e'
  injection e' with e'
  injection e' with e1 _
  subst e1
  exact hb h0 _ _ _ e (hS _ hlt hs)
theorem RcRd.below (h : RcRd w F A n rs) (hb : Below w.heap.size w w') : RcRd w' F A n rs := h.chg (Chg.of_below hb (fun _ => False)) fun _ _ h => h.elim
theorem RcRd.mono (h : RcRd w F A n rs) (hF : ∀ k, k < w.heap.size → F' k → F k) : RcRd w F' A n rs := by
  refine ⟨h.len, fun k x hx => ?_⟩
  obtain ⟨g, o, bA, bc, e, hg, hn, c0, c1, hr, hcp, hb⟩ := h.at_ k x hx
  refine ⟨g, o, bA, bc, e, hg, fun h => hn (hF g hg h), c0, c1, hr, hcp, fun h0 b o s e hs => ?_⟩
  obtain ⟨b', o', e', hlt, _⟩ := hr.at_ h0
  rw [e] at e'
  injection e' with e'
  injection e' with e1 _
  subst e1
  exact hb h0 _ _ _ e (hF _ hlt hs)
theorem RcRd.nil (A : Option Addr) : RcRd w F A 0 [] := ⟨rfl, fun k x h => by simp at h⟩
end
theorem Rc.ok_k {r : Rc} (h : r.ok = true) : ∃ k : Nat, r.kind = (k : Int) ∧ 1 ≤ k ∧ k ≤ 4 ∧ r.body.length ≤ 4200 := by
  simp only [Rc.ok, decide_eq_true_eq] at h
  exact ⟨r.kind.toNat, by omega, by omega, by omega, h.2.2⟩
theorem bodies_take {rs : List Rc} {k : Nat} {r : Rc} (h : rs[k]? = some r) : bodies (rs.take (k + 1)) = bodies (rs.take k) + (8 + r.body.length) := by
  rw [List.take_add_one, h]
  simp [bodies]
theorem textB_take {rs : List Rc} {k g c : Nat} {r : Rc} (h : rs[k]? = some r) : textB g c (rs.take (k + 1)) = textB g c (rs.take k) ++ frameB (last4 (textB g c (rs.take k))) r := by
  rw [List.take_add_one, h]
  exact textB_snoc g c (rs.take k) r
theorem bodies_take_le (rs : List Rc) (k : Nat) : bodies (rs.take k) ≤ bodies rs := by
  unfold bodies
  rw [List.map_take]
  conv => rhs; rw [← List.take_append_drop k (rs.map fun r => 8 + r.body.length), List.sum_append]
  omega
theorem last4_frame (t s : List UInt8) (r : Rc) : last4 (t ++ frameB s r) = last4 (frameB s r) := by
  rw [frameB, ← List.append_assoc, last4_append (beN_length _ _), last4_append (beN_length _ _)]
/-- A slice that begins in the midst of what is owned. -/
theorem own_from {base e n m cap : Nat} {g : Nat} {xs : List Value} {w : World} (h : w.ownsRow base e 1 (.slice (some ⟨g, 0, none⟩) (m + n) cap) (m + n) xs) (hn : 0 < n) : Rd w w.heap.size 1 (some ⟨g, m, none⟩) n (xs.drop m) := by
  have hl := h.1
  obtain ⟨g', cap', cur, hv, hb, hB, hle, _, _, ht⟩ := own_parts h (by omega)
  simp only [Value.slice.injEq, Option.some.injEq, Addr.mk.injEq, and_true, true_and] at hv
  obtain ⟨rfl, rfl⟩ := hv
  refine ⟨by rw [List.length_drop]; omega, fun _ => ⟨g, m, rfl, hB.lt, fun j u hu => ?_⟩⟩
  rw [hB.cell, ← Array.getElem?_toList]
  rw [List.getElem?_drop] at hu
  rw [← ht, List.getElem?_take] at hu
  split at hu
  · exact hu
  · cases hu
/-- A begin under way, with k records behind the head. -/
structure Bgn (w : World) (jg : Nat) (fl gn sz : Int) (t : List UInt8) (v : Value) (wr : World) : Prop where
  own : wr.ownsRow w.heap.size 5 1 v t.length (bvs t)
  blk : ∃ s, Blk wr jg 96 (jcs fl gn sz s) ∧ last4 t = sl s
  chg : Chg (fun k => k = jg) w wr
theorem Bgn.box {w wr : World} {jg : Nat} {fl gn sz : Int} {t : List UInt8} {v : Value} (h : Bgn w jg fl gn sz t v wr) {o : Obj} : Bgn w jg fl gn sz t v (wr.alloc o) := by
  obtain ⟨s, h1, h2⟩ := h.blk
  exact ⟨h.own.alloc _, ⟨s, h1.alloc _, h2⟩, h.chg.alloc _⟩
theorem bgn_off {wr : World} {jg base n : Nat} {v : Value} {xs : List Value} {cs : Array Value} (ho : wr.ownsRow base 5 1 v n xs) (hB : Blk wr jg 96 cs) : ∀ g, v.ownBlock = some g → ¬ g = jg := fun g hg e => by
  obtain ⟨_, _, cur, hC⟩ := own_block_lt ho hg
  subst e
  exact hC.ne_ hB (by decide) rfl
theorem frm_rd {w : World} {base g n c : Nat} {s : UInt8 × UInt8 × UInt8 × UInt8} {l : List UInt8} (h : w.ownsRow base 5 1 (.slice (some ⟨g, 0, none⟩) (12 + n) (c + 4)) (12 + n) (bvs (sl s ++ l))) : RdB w w.heap.size (some ⟨g, 4, none⟩) (8 + n) l := by
  have e : 12 + n = 4 + (8 + n) := by omega
  rw [e] at h
  have := own_from h (by omega)
  rwa [bvs_append, List.drop_left' (by simp [bvs, sl])] at this
theorem len_own {w : World} {base m : Nat} {v : Value} {l : List UInt8} (hl : l.length = m) (h : w.ownsRow base 5 1 v l.length (bvs l)) : w.ownsRow base 5 1 v m (bvs l) := hl ▸ h
theorem row_apart7 {w : World} {base n : Nat} {v : Value} {xs : List Value} (ho : w.ownsRow base 5 1 v n xs) {g t : Nat} {cs : Array Value} (hB : Blk w g t cs) (ht : t ≠ 5) : ¬ some g = v.ownBlock := fun e => by
  obtain ⟨_, _, cur, hC⟩ := own_block_lt ho e.symm
  exact hB.ne_ hC ht rfl
theorem Bgn.next {w wa w7 w8 : World} {jg : Nat} {fl gn sz : Int} {t : List UInt8} {v v8 : Value} {s7 : UInt8 × UInt8 × UInt8 × UInt8} {a : List UInt8} {r : Rc} (h : Bgn w jg fl gn sz t v wa) (hc : Chg (fun k => k = jg) wa w7) (hj : Blk w7 jg 96 (jcs fl gn sz s7)) (hl : last4 (frameB a r) = sl s7) {m : Nat} {xs : List Value}
    (ho : w7.ownsRow w.heap.size 5 1 v m xs) (h8 : w8.ownsRow w.heap.size 5 1 v8 (t.length + (frameB a r).length) (bvs t ++ bvs (frameB a r))) (hg : w7.grownBy w8 v.ownBlock) : Bgn w jg fl gn sz (t ++ frameB a r) v8 w8 := by
  refine ⟨by rw [List.length_append, bvs_append]; exact h8, ⟨s7, hj.chg (Chg.of_grown hg) (row_apart7 ho hj (by decide)), by rw [last4_frame]; exact hl⟩, ?_⟩
  refine (h.chg.trans hc).thenS (Chg.of_grown hg) fun i hi e => ?_
  have := (own_block_lt ho e.symm).2.1
  omega
theorem pair2_le {a b : UInt8} : bvs [a, b] = [.int .u8 (a.toNat : Int), .int .u8 (b.toNat : Int)] := rfl
theorem own_lit {w : World} {base : Nat} (hb : base ≤ w.heap.size) : (w.alloc (.cells #[.int .u8 113, .int .u8 106] 5)).ownsRow base 5 1 (.slice (some ⟨w.heap.size, 0, none⟩) 2 2) 2 (bvs [113, 106]) :=
  ⟨by simp [bvs], .inr ⟨w.heap.size, 2, _, rfl, hb, heap_alloc_new w _, by omega, by simp [maxLen], by simp, by simp [bvs]⟩⟩
end Go.Proofs.YtpkdalpjfcopbaaDoor
namespace Go.Proofs.YtpkdalpjfcopbaaDoor
open Go.RowKit
set_option maxRecDepth 100000 in
set_option maxHeartbeats 1600000 in
theorem begin_any (jg : Nat) (fl sz : Int) (gn : Nat) (s : UInt8 × UInt8 × UInt8 × UInt8) (A : Option Addr) (n cap : Nat) (rs : List Rc) (w : World) (hj : Blk w jg 96 (jcs fl (gn : Int) sz s)) (hr : RcRd w (fun k => k = jg) A n rs) (hok : ∀ r ∈ rs, r.ok = true) (hg : gn < 9223372036854775808) (hb : bodies rs ≤ 1099511627776) (ht : Nibs w) (hjn : 0 ≠ jg) :
    Calls Tryd.prog 50 #[.pointer (some ⟨jg, 0, none⟩), .slice A n cap] w fun e w' => ∃ (g c : Nat) (s' : UInt8 × UInt8 × UInt8 × UInt8), e = .returned (.agg #[.int .i64 fl, .bool true, .slice (some ⟨g, 0, none⟩) (18 + bodies rs) c]) ∧ w'.ownsRow w.heap.size 5 1 (.slice (some ⟨g, 0, none⟩) (18 + bodies rs) c) (18 + bodies rs) (bvs (textB gn n rs)) ∧ last4 (textB gn n rs) = sl s' ∧ Blk w' jg 96 (jcs fl (gn : Int) ((18 + bodies rs : Nat) : Int) s') ∧ Chg (fun k => k = jg) w w' := by
  obtain ⟨i0, hi0, hz0, hz1, hz2⟩ := info_parts info_u8
  have hn8 := bodies_le rs
  have HN := Lib.hid hr.len
  have hnb : n ≤ 1099511627776 := by have := HN.out; omega
  have HT := Lib.hid ht
  have HNE := Lib.hid hjn
  have hjl := hj.lt
  have HJ := Lib.hid hj
  have HR := Lib.hid hr
  have HOK := Lib.hid hok
  clear ht hjn hj hr hok hn8
  obtain ⟨w1, hw1⟩ : ∃ w1, w1 = w.alloc (.cells #[.int .i64 0, .bool false, .slice none 0 0] 94) := ⟨_, rfl⟩
  have hb1 : Below w.heap.size w w1 := by rw [hw1]; exact one_box' _ _
  have hR1 : Blk w1 w.heap.size 94 #[.int .i64 0, .bool false, .slice none 0 0] := by rw [hw1]; exact Blk.new _ _ _
  have hz1' : w1.heap.size = w.heap.size + 1 := by rw [hw1]; simp
  obtain ⟨w2, hw2⟩ : ∃ w2, w2 = w1.alloc (.cells #[.int .u8 113, .int .u8 106] 5) := ⟨_, rfl⟩
  have hb2 : Below w1.heap.size w1 w2 := by rw [hw2]; exact one_box' _ _
  have ho2 : w2.ownsRow w1.heap.size 5 1 (.slice (some ⟨w1.heap.size, 0, none⟩) 2 2) 2 (bvs [113, 106]) := by rw [hw2]; exact own_lit (Nat.le_refl _)
  have HW1 := Lib.hid hw1
  have HW2 := Lib.hid hw2
  have HB2 := Lib.hid (Below.then hb1 hb2)
  have HR2 := Lib.hid (hR1.over hb2)
  have HZ1 := Lib.hid hz1'
  have hj2 := HJ.out.over HB2.out
  have j1 : w2.cell? ⟨jg, 1, none⟩ = some (.int .i64 (gn : Int)) := hj2.cell 1
  have HS2 := Lib.hid hb2.size
  have HG1 := Lib.hid (big_any w1.heap.size (some ⟨w1.heap.size, 0, none⟩) 2 2 gn 8 [113, 106] w2 ho2 (by omega) hb2.size hg (by omega) (by omega))
  clear hw1 hw2 hb1 hb2 hR1 hz1' ho2 hj2
  go_enter Tryd.func50, Tryd.ntmps50
  go_upto_region 1 with fail
  rw [← HW1.out]
  go_upto_region 2 with fail
  rw [← HW2.out]
  go_upto_region 3 with (go_at_call 71; refine HG1.out.mono ?_; rintro _ w3 ⟨A3, cap3, rfl, ho3, hb3⟩; have HO3 := Lib.hid ho3; have HB3 := Lib.hid hb3; clear ho3 hb3)
  clear HG1 j1
  have HB3w := Lib.hid (HB2.out.trans (HB3.out.mono (by have := HZ1.out; omega)))
  have hs3 : w1.heap.size ≤ w3.heap.size := Nat.le_trans HS2.out HB3.out.size
  have HG2 := Lib.hid (big_any w1.heap.size A3 (2 + 8) cap3 n 4 ([113, 106] ++ beN gn 8) w3 HO3.out (by omega) hs3 (by omega) (by omega) (by omega))
  clear hs3 HO3
  go_upto_region 4 with (go_at_call 71; refine HG2.out.mono ?_; rintro _ w4 ⟨A4, cap4, rfl, ho4, hb4⟩; have HO4 := Lib.hid ho4; have HB4 := Lib.hid (HB3.out.trans hb4); have HB4w := Lib.hid (HB3w.out.trans (hb4.mono (by have := HZ1.out; omega))); clear ho4 hb4)
  clear HG2 HB3 HB3w
  have hs4 : w1.heap.size ≤ w4.heap.size := Nat.le_trans HS2.out HB4.out.size
  have HSM := Lib.hid (Sum_any A4 (2 + 8 + 4) cap4 w4.heap.size (hdr gn n) w4 (Rd.of_own HO4.out) (by omega) (HT.out.below HB4w.out))
  have hcr := Crc.crc_lt (hdr gn n)
  have HG3 := Lib.hid (big_any w1.heap.size A4 (2 + 8 + 4) cap4 (Crc.crc (hdr gn n)) 4 (hdr gn n) w4 HO4.out (by omega) hs4 (by omega) (by omega) (by omega))
  clear hs4 HO4
  obtain ⟨cr, hcr0⟩ : ∃ cr, cr = Crc.crc (hdr gn n) := ⟨_, rfl⟩
  rw [← hcr0] at HSM HG3 hcr
  have HCR := Lib.hid hcr0
  clear hcr0
  go_upto_region 5 with (first | (go_at_call 72; refine HSM.out.mono ?_; rintro _ w4' ⟨rfl, rfl⟩) | (go_at_call 71; refine HG3.out.mono ?_; rintro _ w5 ⟨A5, cap5, rfl, ho5, hb5⟩))
  clear HG3 HSM
  obtain ⟨s5, hs5⟩ := sl_of (beN_length cr 4)
  have HS5 := Lib.hid hs5
  have HHD : Hid (hdr gn n ++ beN cr 4 = textB gn n []) := Lib.hid (by show _ = hdr gn n ++ beN (Crc.crc (hdr gn n)) 4; rw [HCR.out])
  have e18 : 2 + 8 + 4 + 4 = 18 := rfl
  rw [e18] at ho5
  obtain ⟨g5, rfl, hg5, hle5, hc5⟩ := own_open ho5 (by omega)
  have hx : ∀ (i : Nat) (u : UInt8), (sl s5)[i]? = some u → w5.cell? ⟨g5, 14 + i, none⟩ = some (.int .u8 (u.toNat : Int)) := fun i u hu => hc5 _ _ (bvs_at (by
    rw [List.getElem?_append_right (by rw [hdr_length]; omega), hdr_length, Nat.add_sub_cancel_left, HS5.out]
    exact hu))
  have x0 : w5.cell? ⟨g5, 14, none⟩ = some (.int .u8 (s5.1.toNat : Int)) := hx 0 _ rfl
  have x1 : w5.cell? ⟨g5, 15, none⟩ = some (.int .u8 (s5.2.1.toNat : Int)) := hx 1 _ rfl
  have x2 : w5.cell? ⟨g5, 16, none⟩ = some (.int .u8 (s5.2.2.1.toNat : Int)) := hx 2 _ rfl
  have x3 : w5.cell? ⟨g5, 17, none⟩ = some (.int .u8 (s5.2.2.2.toNat : Int)) := hx 3 _ rfl
  rw [HHD.out] at ho5
  have HO5 := Lib.hid ho5
  have HW5 : Hid (Below w.heap.size w w5) := Lib.hid (HB4w.out.trans (hb5.mono (by have := HZ1.out; omega)))
  have HR5 := Lib.hid (HR2.out.below (HB4.out.trans hb5) (by have := HZ1.out; omega))
  have hj5 := HJ.out.over HW5.out
  have f3 := hj5.frozen 3
  have f4 := hj5.frozen 4
  have f5 := hj5.frozen 5
  have f6 := hj5.frozen 6
  have j3 : w5.cell? ⟨jg, 3, none⟩ = some (.int .u8 (s.1.toNat : Int)) := hj5.cell 3
  have j4 : w5.cell? ⟨jg, 4, none⟩ = some (.int .u8 (s.2.1.toNat : Int)) := hj5.cell 4
  have j5 : w5.cell? ⟨jg, 5, none⟩ = some (.int .u8 (s.2.2.1.toNat : Int)) := hj5.cell 5
  have j6 : w5.cell? ⟨jg, 6, none⟩ = some (.int .u8 (s.2.2.2.toNat : Int)) := hj5.cell 6
  have HJ5 := Lib.hid hj5
  clear hc5 hx hs5 hj5 hb5 ho5 HB4 HB4w HR2
  try simp only [e18]
  have hat := at4 ⟨g5, 14, none⟩ (cap5 - 14) w5
  go_upto_region 6 with fail
  have hc6 := (((((Chg.refl (fun x => x = jg) w5).setCell (p := ⟨jg, 3, none⟩) (.inl rfl) (.int .u8 (s5.1.toNat : Int))).setCell (p := ⟨jg, 4, none⟩) (.inl rfl) (.int .u8 (s5.2.1.toNat : Int))).setCell (p := ⟨jg, 5, none⟩) (.inl rfl) (.int .u8 (s5.2.2.1.toNat : Int))).setCell (p := ⟨jg, 6, none⟩) (.inl rfl) (.int .u8 (s5.2.2.2.toNat : Int)))
  have hj6 : Blk ((((w5.setCell ⟨jg, 3, none⟩ (.int .u8 (s5.1.toNat : Int))).setCell ⟨jg, 4, none⟩ (.int .u8 (s5.2.1.toNat : Int))).setCell ⟨jg, 5, none⟩ (.int .u8 (s5.2.2.1.toNat : Int))).setCell ⟨jg, 6, none⟩ (.int .u8 (s5.2.2.2.toNat : Int))) jg 96 (jcs fl (gn : Int) sz s5) := (((HJ5.out.set_ 3 _).set_ 4 _).set_ 5 _).set_ 6 _
  generalize World.setCell _ _ _ = w6 at hc6 hj6 ⊢
  have HBG : Hid (Bgn w jg fl (gn : Int) sz (textB gn n []) (.slice (some ⟨g5, 0, none⟩) 18 cap5) w6) := Lib.hid ⟨by
      rw [show (textB gn n []).length = 18 by rw [textB_length]; rfl]
      exact own_base (own_chg HO5.out hc6 (bgn_off HO5.out HJ5.out)) (by have := HZ1.out; omega), ⟨s5, hj6, by rw [← HHD.out, last4_append (beN_length _ _)]; exact HS5.out⟩, (Chg.of_below HW5.out _).trans hc6⟩
  have HR6 := Lib.hid (HR5.out.chg hc6 (by omega))
  clear hc6 hj6 HO5 HJ5 HR5 HHD HS5 x0 x1 x2 x3 f3 f4 f5 f6 j3 j4 j5 j6 hat HW5
  go_wp2_with fail
  go_loopw [5, 35] (fun v i wr => ∃ (k : Nat) (A' : Option Addr) (cap' : Nat), k ≤ n ∧ i = .int .i64 (k : Int) ∧ v = .slice A' (18 + bodies (rs.take k)) cap' ∧ Hid (Bgn w jg fl (gn : Int) sz (textB gn n (rs.take k)) (.slice A' (18 + bodies (rs.take k)) cap') wr) ∧ Hid (Blk wr w.heap.size 94 #[.int .i64 0, .bool false, .slice none 0 0])) (fun _ i _ => n - (intOf i).toNat)
  case atStart => exact ⟨0, _, _, by omega, rfl, rfl, HBG, HR6⟩
  case round =>
    clear HBG HR6
    obtain ⟨k, A', cap', hk, rfl, rfl, HB, HRW⟩ := hrel
    have hbl := bodies_take_le rs k
    have htl : (textB gn n (rs.take k)).length = 18 + bodies (rs.take k) := textB_length _ _ _
    by_cases hlt : k < n
    · have hI : (k : Int) < (n : Int) := by omega
      obtain ⟨r, hx⟩ : ∃ r, rs[k]? = some r := ⟨rs[k]'(by rw [← HN.out]; exact hlt), List.getElem?_eq_getElem _⟩
      obtain ⟨kd, hkd, hk1, hk4, hbd⟩ := Rc.ok_k (HOK.out r (List.mem_of_getElem? hx))
      obtain ⟨s6, hs6, hl6⟩ := HB.out.blk
      have HRW2 := HR.out.chg HB.out.chg fun _ _ h => h
      obtain ⟨g, o, bA, bc, rfl, hg, hng, c0, c1, hrd, hcp, hnb2⟩ := HRW2.at_ k r hx
      have hbt := bodies_take hx
      have htt : Hid (textB gn n (rs.take (k + 1)) = textB gn n (rs.take k) ++ frameB (last4 (textB gn n (rs.take k))) r) := Lib.hid (textB_take hx)
      rw [hkd] at c0
      have HKD := Lib.hid hkd
      obtain ⟨wa, hwa⟩ : ∃ wa, wa = wr.alloc (.cells #[.int .i64 (kd : Int), .slice bA r.body.length bc] 34) := ⟨_, rfl⟩
      have hba : Below wr.heap.size wr wa := by rw [hwa]; exact one_box' _ _
      have hBa : Bgn w jg fl (gn : Int) sz (textB gn n (rs.take k)) (.slice A' (18 + bodies (rs.take k)) cap') wa := by rw [hwa]; exact HB.out.box
      have hXa : Blk wa wr.heap.size 34 #[.int .i64 (kd : Int), .slice bA r.body.length bc] := by rw [hwa]; exact Blk.new _ _ _
      have a0 : wa.cell? ⟨wr.heap.size, 0, none⟩ = some (.int .i64 (kd : Int)) := hXa.cell 0
      have a1 : wa.cell? ⟨wr.heap.size, 1, none⟩ = some (.slice bA r.body.length bc) := hXa.cell 1
      have HRWa := Lib.hid (HRW.out.over hba)
      have hsa := hba.size
      have hsw := hBa.chg.size
      obtain ⟨sa, hja, hla⟩ := hBa.blk
      have HFR := Lib.hid (Frame_any jg fl (gn : Int) sz sa kd bA r.body.length bc r.body wa hja ((hrd.below hba).more hba.size) hbd (by omega) (HT.out.chg hBa.chg HNE.out))
      have HWA := Lib.hid hwa
      have HLA := Lib.hid hla
      have HBA := Lib.hid hBa
      have HJA := Lib.hid hja
      clear hwa hba hXa hja hla hBa hrd HRW HRW2 hnb2 hs6 hl6 hcp HB htl hx
      go_upto_region 9 with fail
      rw [← HWA.out]
      go_wp2_with (first
        | (go_at_call 56
           refine HFR.out.mono ?_
           rintro _ w7 ⟨g7, c7, s7, rfl, ho7, hl7, hj7, hc7⟩
           have HRF := Lib.hid (frm_rd ho7)
           have HOA := Lib.hid (own_chg HBA.out.own hc7 (bgn_off HBA.out.own HJA.out))
           have HJ7 := Lib.hid (And.intro hj7 hl7)
           have HC7 := Lib.hid hc7
           have hs7 := hc7.size
           clear ho7 hl7 hj7 hc7 HFR)
        | (at_builtin
           refine wpList_append_any _ (by rfl) _ _ 22 (by rfl) w.heap.size 5 i0 _ 1 1 u_bytes hi0 hz0 hz1 hz2 rfl (by omega) _ _ _ (by rfl) (len_own (textB_length gn n (rs.take k)) HOA.out) w7.heap.size _ (8 + r.body.length) c7 (bvs (frameB (sl sa) ⟨(kd : Int), r.body⟩)) (by rfl) HRF.out (bvs_one _) (by simp only [maxLen]; omega) (by omega) (by omega) ?_
           intro v8 w8 ho8 hg8 _))
      obtain ⟨A8, cap8, rfl, _, _⟩ := own_shape ho8
      have HRW7 := Lib.hid (HRWa.out.chg HC7.out (by omega))
      have HRW8 := Lib.hid ((HRW7.out).chg (Chg.of_grown hg8) (row_apart7 HOA.out HRW7.out (by decide)))
      have HB8 := Lib.hid (HBA.out.next HC7.out HJ7.out.1 HJ7.out.2 HOA.out (by
        rw [textB_length, frameB_length]
        exact ho8) hg8)
      have e8 : 18 + bodies (rs.take k) + (8 + r.body.length) = 18 + bodies (rs.take (k + 1)) := by omega
      clear HBA HC7 HJ7 HOA HRF ho8 hg8 HRW7 HRWa
      go_roundw
      case rel =>
        refine ⟨k + 1, A8, cap8, by omega, by go_num, by rw [e8], ?_, HRW8⟩
        refine Lib.hid ?_
        have h := HB8.out
        rw [e8] at h
        rw [htt.out, HLA.out]
        have er : (⟨(kd : Int), r.body⟩ : Rc) = r := by rw [← HKD.out]
        rw [er] at h
        exact h
      case measure => simp [intOf] <;> omega
    · obtain rfl : n = k := by omega
      have et : rs.take n = rs := List.take_of_length_le (by rw [← HN.out]; exact Nat.le_refl _)
      rw [et] at HB htl
      simp only [et]
      obtain ⟨sf, hjf, hlf⟩ := HB.out.blk
      have hne : w.heap.size ≠ jg := by omega
      have j0 : wr.cell? ⟨jg, 0, none⟩ = some (.int .i64 fl) := hjf.cell 0
      have j2 : wr.cell? ⟨jg, 2, none⟩ = some (.int .i64 sz) := hjf.cell 2
      have f2 := hjf.frozen 2
      have r0 : wr.cell? ⟨w.heap.size, 0, none⟩ = some (.int .i64 0) := HRW.out.cell 0
      have r1 : wr.cell? ⟨w.heap.size, 1, none⟩ = some (.bool false) := HRW.out.cell 1
      have r2 : wr.cell? ⟨w.heap.size, 2, none⟩ = some (.slice none 0 0) := HRW.out.cell 2
      have u0 := HRW.out.frozen 0
      have u1 := HRW.out.frozen 1
      have u2 := HRW.out.frozen 2
      have hown := len_own htl HB.out.own
      obtain ⟨gf, rfl, hgf, hlef, _⟩ := own_open hown (by omega)
      have HJF := Lib.hid hjf
      have HLF := Lib.hid hlf
      have HOW := Lib.hid hown
      have et2 : ((18 + bodies rs : Nat) : Int) = 18 + (bodies rs : Int) := by omega
      have HT2 := Lib.hid et2
      clear et hjf hlf hown et2 htl
      go_wp2
      have hc := ((((Chg.refl (fun x => x = jg ∨ x = w.heap.size) wr).setCell (p := ⟨jg, 2, none⟩) (.inl (.inl rfl)) (.int .i64 (18 + (bodies rs : Int)))).setCell (p := ⟨w.heap.size, 0, none⟩) (.inl (.inr rfl)) (.int .i64 fl)).setCell (p := ⟨w.heap.size, 1, none⟩) (.inl (.inr rfl)) (.bool true)).setCell (p := ⟨w.heap.size, 2, none⟩) (.inl (.inr rfl)) (.slice (some ⟨gf, 0, none⟩) (18 + bodies rs) cap')
      refine bodyPost_ret (v := .agg #[.int .i64 fl, .bool true, .slice (some ⟨gf, 0, none⟩) (18 + bodies rs) cap']) (by simp [results, Tryd.results50, r0, r1, r2, go_sem]) rfl ⟨gf, cap', sf, rfl, own_chg HOW.out hc fun g hg' e => ?_, HLF.out, ?_, ?_⟩
      · rcases e with e | e
        · exact bgn_off HOW.out HJF.out g hg' e
        · exact row_apart7 HOW.out HRW.out (by decide) (by rw [← e]; exact hg'.symm)
      · rw [HT2.out]
        exact (((HJF.out.set_ 2 _).far (p := ⟨w.heap.size, 0, none⟩) (Ne.symm hne) _).far (p := ⟨w.heap.size, 1, none⟩) (Ne.symm hne) _).far (p := ⟨w.heap.size, 2, none⟩) (Ne.symm hne) _
      · exact HB.out.chg.thenS hc fun i hi e => by omega
end Go.Proofs.YtpkdalpjfcopbaaDoor
