/-
  EtherRefusals, walked. And: EtherRefusals' helpers: refused, walked.
-/
import Derived.Test.YtgfhmfhhobhojaaEIs
import Derived.Test.YtgfhmfhhobhojaaERd
namespace Go.Proofs.Ytgfhmfhhobhojaa
open Go.ChangeShapes Go.WideShapes Go.ChangeAt Go.RowKit
theorem LiveC.fin {w w0 w1 w2 : World} {B g : Nat} {c : ECfg} {D m : Nat} {p' : PV} {F : Nat → Prop} (hb : Below w.heap.size w w0) (h : LiveC w0 F B c D m p' w1) (hc : Chg (fun k => k = g) w1 w2) (hF : ¬ F g) (hgl : g < w0.heap.size) (hgw : w.heap.size ≤ g) : LiveC w F B c D m p' w2 := by
  obtain ⟨G, h1, h2, h3⟩ := h
  exact ⟨G, h1.clear hc fun hg => (h2 g hg).elim hF fun e => by omega, fun k hk => (h2 k hk).imp id (Nat.le_trans hb.size), ((Chg.of_below hb F).trans h3).thenS hc fun i hi e => by omega⟩
theorem rd_none {w : World} {B z : Nat} {A : Option Addr} : Rd w B z A 0 [] := ⟨by simp, fun h => absurd h (Nat.lt_irrefl 0)⟩
theorem alike_zero (A : Option Addr) (cap : Nat) (W : World) : Calls Try.prog 55 #[.agg #[.int .i64 0, .int .i64 0, .int .i64 0, .int .i64 0, .slice A 0 cap], .agg #[.int .i64 0, .int .i64 0, .int .i64 0, .int .i64 0, .slice none 0 0]] W fun e w' => e = .returned (.bool true) ∧ Below W.heap.size W w' :=
  alike_yes Flt.zero A none cap 0 rd_none rd_none
def RefR (w : World) (F : Nat → Prop) (B : Nat) (c : ECfg) (D m : Nat) (p : PV) (kd : Int) (e : Ending) (w' : World) : Prop := ∃ bad p', e = .returned (.tuple #[.bool bad, .bool true]) ∧ RefS p p' kd bad ∧ LiveC w F B c D m p' w'

set_option maxRecDepth 100000 in
set_option maxHeartbeats 1600000 in
theorem playC_11 {w : World} {B : Nat} {c : ECfg} {D m : Nat} {p : PV} {F : Nat → Prop} (hc : c.Ok) (h : LiveP w B c D m p F) (hB : B ≤ w.heap.size) (hm : m ≤ 4398046511104) (a b n : Int) (BA SA : Option Addr) (bc sc : Nat) (bs : List UInt8) (sides : List Int) : Calls Try.prog 16 #[.pointer (some ⟨D, 0, none⟩), .agg #[.int .i64 11, .int .i64 a, .int .i64 b, .int .i64 n, .slice BA bs.length bc, .slice SA sides.length sc]] w fun e w' => e = .returned (.tuple #[]) ∧ LiveC w F B c D m (roundP p) w' := by
  have hb0 := one_box' w (.cells #[.int .i64 11, .int .i64 a, .int .i64 b, .int .i64 n, .slice BA bs.length bc, .slice SA sides.length sc] 33)
  have hE := Blk.new w 33 #[.int .i64 11, .int .i64 a, .int .i64 b, .int .i64 n, .slice BA bs.length bc, .slice SA sides.length sc]
  obtain ⟨w0, hw0⟩ : ∃ w0, w0 = w.alloc (.cells #[.int .i64 11, .int .i64 a, .int .i64 b, .int .i64 n, .slice BA bs.length bc, .slice SA sides.length sc] 33) := ⟨_, rfl⟩
  rw [← hw0] at hb0 hE
  have hL := h.below hb0
  have hB0 : B ≤ w0.heap.size := Nat.le_trans hB hb0.size
  have HW0 := Lib.hid hw0
  have HB0 := Lib.hid hb0
  have HS := Lib.hid (LiveC.same h hb0)
  have x0 : w0.cell? ⟨w.heap.size, 0, none⟩ = some (.int .i64 11) := hE.cell 0
  have x1 : w0.cell? ⟨w.heap.size, 1, none⟩ = some (.int .i64 a) := hE.cell 1
  have x2 : w0.cell? ⟨w.heap.size, 2, none⟩ = some (.int .i64 b) := hE.cell 2
  have x3 : w0.cell? ⟨w.heap.size, 3, none⟩ = some (.int .i64 n) := hE.cell 3
  have x4 : w0.cell? ⟨w.heap.size, 4, none⟩ = some (.slice BA bs.length bc) := hE.cell 4
  have x5 : w0.cell? ⟨w.heap.size, 5, none⟩ = some (.slice SA sides.length sc) := hE.cell 5
  have HP := Lib.hid (CRound hc hL hB0 hm)
  clear hw0 hb0 hE hL h hc hm hB0 hB
  go_enter Try.func16, Try.ntmps16
  go_upto_region 1 with fail
  rw [← HW0.out]
  go_wp2_with (go_at_call 21; refine HP.out.mono ?_; rintro _ w1 ⟨⟨v, rfl⟩, hn⟩; have HN := Lib.hid (hn.behind HB0.out); clear hn)
  go_end0
  exact ⟨rfl, HN.out⟩
set_option maxRecDepth 100000 in
set_option maxHeartbeats 1600000 in
theorem playC_none1 {w : World} {B : Nat} {c : ECfg} {D m : Nat} {p : PV} {F : Nat → Prop} (_hc : c.Ok) (h : LiveP w B c D m p F) (hB : B ≤ w.heap.size) (_hm : m ≤ 4398046511104) (kd : Int) (a b n : Int) (BA SA : Option Addr) (bc sc : Nat) (bs : List UInt8) (sides : List Int) (hk : kd ≠ 5 ∧ kd ≠ 6 ∧ kd ≠ 7 ∧ kd ≠ 10 ∧ kd ≠ 11 ∧ kd ≠ 12) (hk1 : ¬ 20 < kd) : Calls Try.prog 16 #[.pointer (some ⟨D, 0, none⟩), .agg #[.int .i64 kd, .int .i64 a, .int .i64 b, .int .i64 n, .slice BA bs.length bc, .slice SA sides.length sc]] w fun e w' => e = .returned (.tuple #[]) ∧ LiveC w F B c D m (p) w' := by
  have hb0 := one_box' w (.cells #[.int .i64 kd, .int .i64 a, .int .i64 b, .int .i64 n, .slice BA bs.length bc, .slice SA sides.length sc] 33)
  have hE := Blk.new w 33 #[.int .i64 kd, .int .i64 a, .int .i64 b, .int .i64 n, .slice BA bs.length bc, .slice SA sides.length sc]
  obtain ⟨w0, hw0⟩ : ∃ w0, w0 = w.alloc (.cells #[.int .i64 kd, .int .i64 a, .int .i64 b, .int .i64 n, .slice BA bs.length bc, .slice SA sides.length sc] 33) := ⟨_, rfl⟩
  rw [← hw0] at hb0 hE
  have hL := h.below hb0
  have hB0 : B ≤ w0.heap.size := Nat.le_trans hB hb0.size
  have HW0 := Lib.hid hw0
  have HB0 := Lib.hid hb0
  have HS := Lib.hid (LiveC.same h hb0)
  have x0 : w0.cell? ⟨w.heap.size, 0, none⟩ = some (.int .i64 kd) := hE.cell 0
  have x1 : w0.cell? ⟨w.heap.size, 1, none⟩ = some (.int .i64 a) := hE.cell 1
  have x2 : w0.cell? ⟨w.heap.size, 2, none⟩ = some (.int .i64 b) := hE.cell 2
  have x3 : w0.cell? ⟨w.heap.size, 3, none⟩ = some (.int .i64 n) := hE.cell 3
  have x4 : w0.cell? ⟨w.heap.size, 4, none⟩ = some (.slice BA bs.length bc) := hE.cell 4
  have x5 : w0.cell? ⟨w.heap.size, 5, none⟩ = some (.slice SA sides.length sc) := hE.cell 5
  have e5 : (kd == 5) = false := by simp; omega
  have f5 : ¬ kd = 5 := by omega
  have e6 : (kd == 6) = false := by simp; omega
  have f6 : ¬ kd = 6 := by omega
  have e7 : (kd == 7) = false := by simp; omega
  have f7 : ¬ kd = 7 := by omega
  have e10 : (kd == 10) = false := by simp; omega
  have f10 : ¬ kd = 10 := by omega
  have e11 : (kd == 11) = false := by simp; omega
  have f11 : ¬ kd = 11 := by omega
  have e12 : (kd == 12) = false := by simp; omega
  have f12 : ¬ kd = 12 := by omega
  clear hw0 hb0 hE hL h _hc _hm hB0 hB
  go_enter Try.func16, Try.ntmps16
  go_upto_region 1 with fail
  rw [← HW0.out]
  go_wp2
  go_end0
  exact ⟨rfl, HS.out⟩
set_option maxRecDepth 100000 in
set_option maxHeartbeats 1600000 in
theorem playC_none2 {w : World} {B : Nat} {c : ECfg} {D m : Nat} {p : PV} {F : Nat → Prop} (_hc : c.Ok) (h : LiveP w B c D m p F) (hB : B ≤ w.heap.size) (_hm : m ≤ 4398046511104) (kd : Int) (a b n : Int) (BA SA : Option Addr) (bc sc : Nat) (bs : List UInt8) (sides : List Int) (hk1 : 20 < kd) (hk2 : ¬ kd ≤ 60) : Calls Try.prog 16 #[.pointer (some ⟨D, 0, none⟩), .agg #[.int .i64 kd, .int .i64 a, .int .i64 b, .int .i64 n, .slice BA bs.length bc, .slice SA sides.length sc]] w fun e w' => e = .returned (.tuple #[]) ∧ LiveC w F B c D m (p) w' := by
  have hb0 := one_box' w (.cells #[.int .i64 kd, .int .i64 a, .int .i64 b, .int .i64 n, .slice BA bs.length bc, .slice SA sides.length sc] 33)
  have hE := Blk.new w 33 #[.int .i64 kd, .int .i64 a, .int .i64 b, .int .i64 n, .slice BA bs.length bc, .slice SA sides.length sc]
  obtain ⟨w0, hw0⟩ : ∃ w0, w0 = w.alloc (.cells #[.int .i64 kd, .int .i64 a, .int .i64 b, .int .i64 n, .slice BA bs.length bc, .slice SA sides.length sc] 33) := ⟨_, rfl⟩
  rw [← hw0] at hb0 hE
  have hL := h.below hb0
  have hB0 : B ≤ w0.heap.size := Nat.le_trans hB hb0.size
  have HW0 := Lib.hid hw0
  have HB0 := Lib.hid hb0
  have HS := Lib.hid (LiveC.same h hb0)
  have x0 : w0.cell? ⟨w.heap.size, 0, none⟩ = some (.int .i64 kd) := hE.cell 0
  have x1 : w0.cell? ⟨w.heap.size, 1, none⟩ = some (.int .i64 a) := hE.cell 1
  have x2 : w0.cell? ⟨w.heap.size, 2, none⟩ = some (.int .i64 b) := hE.cell 2
  have x3 : w0.cell? ⟨w.heap.size, 3, none⟩ = some (.int .i64 n) := hE.cell 3
  have x4 : w0.cell? ⟨w.heap.size, 4, none⟩ = some (.slice BA bs.length bc) := hE.cell 4
  have x5 : w0.cell? ⟨w.heap.size, 5, none⟩ = some (.slice SA sides.length sc) := hE.cell 5
  have e5 : (kd == 5) = false := by simp; omega
  have f5 : ¬ kd = 5 := by omega
  have e6 : (kd == 6) = false := by simp; omega
  have f6 : ¬ kd = 6 := by omega
  have e7 : (kd == 7) = false := by simp; omega
  have f7 : ¬ kd = 7 := by omega
  have e10 : (kd == 10) = false := by simp; omega
  have f10 : ¬ kd = 10 := by omega
  have e11 : (kd == 11) = false := by simp; omega
  have f11 : ¬ kd = 11 := by omega
  have e12 : (kd == 12) = false := by simp; omega
  have f12 : ¬ kd = 12 := by omega
  clear hw0 hb0 hE hL h _hc _hm hB0 hB
  go_enter Try.func16, Try.ntmps16
  go_upto_region 1 with fail
  rw [← HW0.out]
  go_wp2
  go_end0
  exact ⟨rfl, HS.out⟩
set_option maxRecDepth 100000 in
set_option maxHeartbeats 1600000 in
theorem refused_5 {w : World} {B : Nat} {c : ECfg} {D m : Nat} {p : PV} {F : Nat → Prop} (hc : c.Ok) (h : LiveP w B c D m p F) (hB : B ≤ w.heap.size) (hm : m ≤ 4398046511104) (a b n : Int) (BA SA : Option Addr) (bc sc : Nat) (bs : List UInt8) (sides : List Int) (_hn : n ≤ 9223372036854775807) (hr : RdB w B BA bs.length bs) (_hbn : bs.length ≤ 140737488351232) (hs : RdI w B SA sides.length sides) (_hsn : sides.length ≤ 17592186043904) : Calls Try.prog 33 #[.pointer (some ⟨D, 0, none⟩), .agg #[.int .i64 5, .int .i64 a, .int .i64 b, .int .i64 n, .slice BA bs.length bc, .slice SA sides.length sc]] w (RefR w F B c D m p (5)) := by
  have hba := one_box' w (.cells #[.int .i64 5, .int .i64 a, .int .i64 b, .int .i64 n, .slice BA bs.length bc, .slice SA sides.length sc] 33)
  have hEa := Blk.new w 33 #[.int .i64 5, .int .i64 a, .int .i64 b, .int .i64 n, .slice BA bs.length bc, .slice SA sides.length sc]
  obtain ⟨wa, hwa⟩ : ∃ wa, wa = w.alloc (.cells #[.int .i64 5, .int .i64 a, .int .i64 b, .int .i64 n, .slice BA bs.length bc, .slice SA sides.length sc] 33) := ⟨_, rfl⟩
  rw [← hwa] at hba hEa
  have hsa : wa.heap.size = w.heap.size + 1 := by rw [hwa]; simp
  have hbb := one_box' wa (.cells #[.int .i64 0, .int .i64 0, .int .i64 0, .int .i64 0, .slice none 0 0] 48)
  have hZ := Blk.new wa 48 #[.int .i64 0, .int .i64 0, .int .i64 0, .int .i64 0, .slice none 0 0]
  obtain ⟨w0, hw0⟩ : ∃ w0, w0 = wa.alloc (.cells #[.int .i64 0, .int .i64 0, .int .i64 0, .int .i64 0, .slice none 0 0] 48) := ⟨_, rfl⟩
  rw [← hw0] at hbb hZ
  have hE := hEa.over hbb
  have hb0 := hba.trans (hbb.mono hba.size)
  have hL := h.below hb0
  have hs0 := hb0.size
  have hzl := hZ.lt
  have hB0 : B ≤ w0.heap.size := Nat.le_trans hB hs0
  have HWA := Lib.hid hwa
  have HW0 := Lib.hid hw0
  have HB0 := Lib.hid hb0
  have HZ := Lib.hid hZ
  have HNF : Hid (¬ F wa.heap.size) := Lib.hid fun hf => by have := h.pn.1 _ hf; omega
  have HZL : Hid (wa.heap.size < w0.heap.size ∧ w.heap.size ≤ wa.heap.size) := Lib.hid ⟨hzl, by omega⟩
  have hr0 := (hr.below (hb0.mono hB)).more hB0
  have hi0 := (hs.below (hb0.mono hB)).more hB0
  have hBF : 0 < bs.length → ∀ b o s, BA = some ⟨b, o, s⟩ → ¬ F b := fun hp b o s e hf => by
    obtain ⟨b2, o2, e', hlt, _⟩ := hr.at_ hp
    rw [e] at e'
    injection e' with e'
    injection e' with e'
    have := h.ab b hf
    omega
  have HAL := Lib.hid alike_zero
  have HL := Lib.hid hL
  have HC := Lib.hid hc
  have x0 : w0.cell? ⟨w.heap.size, 0, none⟩ = some (.int .i64 5) := hE.cell 0
  have x1 : w0.cell? ⟨w.heap.size, 1, none⟩ = some (.int .i64 a) := hE.cell 1
  have x2 : w0.cell? ⟨w.heap.size, 2, none⟩ = some (.int .i64 b) := hE.cell 2
  have x3 : w0.cell? ⟨w.heap.size, 3, none⟩ = some (.int .i64 n) := hE.cell 3
  have x4 : w0.cell? ⟨w.heap.size, 4, none⟩ = some (.slice BA bs.length bc) := hE.cell 4
  have x5 : w0.cell? ⟨w.heap.size, 5, none⟩ = some (.slice SA sides.length sc) := hE.cell 5
  have hp := CTick hL hB0 hm a
  obtain ⟨y, hy⟩ : ∃ y, y = Tick_e c p.down a := ⟨_, rfl⟩
  obtain ⟨r, hrr⟩ : ∃ r, r = Tick_r c p.down p.tk a := ⟨_, rfl⟩
  rw [← hrr] at hp
  rw [← hy] at hp
  have HP := Lib.hid hp
  have HY : Hid (y ≠ 0 → r = 0 ∧ tickP c p a = p) := Lib.hid fun hne => by
    have h1 := tick_zero (by rw [← hy]; exact hne)
    exact ⟨hrr.trans h1.1, h1.2⟩
  have HREF : Hid (y = 0 → RefS p (tickP c p a) (5) false) := Lib.hid fun h0 => ⟨fun e => Bool.noConfusion e, fun _ hk => absurd hk (by decide), fun _ _ => tick_last a⟩
  clear hp hy hrr
  clear hwa hw0 hba hbb hEa hE hZ hb0 hL h hr hs hr0 hi0 hBF hc hm _hbn _hsn _hn hs0 hB0 hB hsa hzl
  go_enter Try.func33, Try.ntmps33
  go_upto_region 1 with fail
  rw [← HWA.out]
  go_upto_region 6 with fail
  rw [← HW0.out]
  go_upto_region 18 with (go_at_call 36; refine HP.out.mono ?_; rintro _ w1 ⟨rfl, hn⟩; have HN := Lib.hid hn; clear hn)
  clear x0 x1 x2 x3 x4 x5
  have hZ1 := HZ.out.chg HN.out.choose_spec.2.2 HNF.out
  have z0 : w1.cell? ⟨wa.heap.size, 0, none⟩ = some (.int .i64 0) := hZ1.cell 0
  have z1 : w1.cell? ⟨wa.heap.size, 1, none⟩ = some (.int .i64 0) := hZ1.cell 1
  have z2 : w1.cell? ⟨wa.heap.size, 2, none⟩ = some (.int .i64 0) := hZ1.cell 2
  have z3 : w1.cell? ⟨wa.heap.size, 3, none⟩ = some (.int .i64 0) := hZ1.cell 3
  have z4 : w1.cell? ⟨wa.heap.size, 4, none⟩ = some (.slice none 0 0) := hZ1.cell 4
  by_cases hy0 : y = 0
  · have hrf := Lib.hid (HREF.out hy0)
    subst hy0
    go_wp2
    go_ret2
    exact ⟨false, _, rfl, hrf.out, HN.out.behind HB0.out⟩
  · have hz := HY.out hy0
    have e1 : (y == 0) = false := by simpa using hy0
    have e2 : (y != 0) = true := by simpa using hy0
    obtain ⟨rfl, hpp⟩ := hz
    have HPP := Lib.hid hpp
    clear hpp hy0
    go_wp2_with (go_at_call 55; refine (HAL.out _ _ _).mono ?_; rintro _ w2 ⟨rfl, hb2⟩; have HB2 := Lib.hid hb2; clear hb2)
    go_ret2
    exact ⟨true, _, rfl, ⟨fun _ => HPP.out, fun e => Bool.noConfusion e, fun e => Bool.noConfusion e⟩, (HN.out.over HB2.out).behind HB0.out⟩
set_option maxRecDepth 100000 in
set_option maxHeartbeats 1600000 in
theorem refused_6 {w : World} {B : Nat} {c : ECfg} {D m : Nat} {p : PV} {F : Nat → Prop} (hc : c.Ok) (h : LiveP w B c D m p F) (hB : B ≤ w.heap.size) (_hm : m ≤ 4398046511104) (a b n : Int) (BA SA : Option Addr) (bc sc : Nat) (bs : List UInt8) (sides : List Int) (_hn : n ≤ 9223372036854775807) (hr : RdB w B BA bs.length bs) (_hbn : bs.length ≤ 140737488351232) (hs : RdI w B SA sides.length sides) (_hsn : sides.length ≤ 17592186043904) : Calls Try.prog 33 #[.pointer (some ⟨D, 0, none⟩), .agg #[.int .i64 6, .int .i64 a, .int .i64 b, .int .i64 n, .slice BA bs.length bc, .slice SA sides.length sc]] w (RefR w F B c D m p (6)) := by
  have hba := one_box' w (.cells #[.int .i64 6, .int .i64 a, .int .i64 b, .int .i64 n, .slice BA bs.length bc, .slice SA sides.length sc] 33)
  have hEa := Blk.new w 33 #[.int .i64 6, .int .i64 a, .int .i64 b, .int .i64 n, .slice BA bs.length bc, .slice SA sides.length sc]
  obtain ⟨wa, hwa⟩ : ∃ wa, wa = w.alloc (.cells #[.int .i64 6, .int .i64 a, .int .i64 b, .int .i64 n, .slice BA bs.length bc, .slice SA sides.length sc] 33) := ⟨_, rfl⟩
  rw [← hwa] at hba hEa
  have hsa : wa.heap.size = w.heap.size + 1 := by rw [hwa]; simp
  have hbb := one_box' wa (.cells #[.int .i64 0, .int .i64 0, .int .i64 0, .int .i64 0, .slice none 0 0] 48)
  have hZ := Blk.new wa 48 #[.int .i64 0, .int .i64 0, .int .i64 0, .int .i64 0, .slice none 0 0]
  obtain ⟨w0, hw0⟩ : ∃ w0, w0 = wa.alloc (.cells #[.int .i64 0, .int .i64 0, .int .i64 0, .int .i64 0, .slice none 0 0] 48) := ⟨_, rfl⟩
  rw [← hw0] at hbb hZ
  have hE := hEa.over hbb
  have hb0 := hba.trans (hbb.mono hba.size)
  have hL := h.below hb0
  have hs0 := hb0.size
  have hzl := hZ.lt
  have hB0 : B ≤ w0.heap.size := Nat.le_trans hB hs0
  have HWA := Lib.hid hwa
  have HW0 := Lib.hid hw0
  have HB0 := Lib.hid hb0
  have HZ := Lib.hid hZ
  have HNF : Hid (¬ F wa.heap.size) := Lib.hid fun hf => by have := h.pn.1 _ hf; omega
  have HZL : Hid (wa.heap.size < w0.heap.size ∧ w.heap.size ≤ wa.heap.size) := Lib.hid ⟨hzl, by omega⟩
  have hr0 := (hr.below (hb0.mono hB)).more hB0
  have hi0 := (hs.below (hb0.mono hB)).more hB0
  have hBF : 0 < bs.length → ∀ b o s, BA = some ⟨b, o, s⟩ → ¬ F b := fun hp b o s e hf => by
    obtain ⟨b2, o2, e', hlt, _⟩ := hr.at_ hp
    rw [e] at e'
    injection e' with e'
    injection e' with e'
    have := h.ab b hf
    omega
  have HAL := Lib.hid alike_zero
  have HL := Lib.hid hL
  have HC := Lib.hid hc
  have x0 : w0.cell? ⟨w.heap.size, 0, none⟩ = some (.int .i64 6) := hE.cell 0
  have x1 : w0.cell? ⟨w.heap.size, 1, none⟩ = some (.int .i64 a) := hE.cell 1
  have x2 : w0.cell? ⟨w.heap.size, 2, none⟩ = some (.int .i64 b) := hE.cell 2
  have x3 : w0.cell? ⟨w.heap.size, 3, none⟩ = some (.int .i64 n) := hE.cell 3
  have x4 : w0.cell? ⟨w.heap.size, 4, none⟩ = some (.slice BA bs.length bc) := hE.cell 4
  have x5 : w0.cell? ⟨w.heap.size, 5, none⟩ = some (.slice SA sides.length sc) := hE.cell 5
  have hp := CCrash hL hB0 a
  obtain ⟨y, hy⟩ : ∃ y, y = Tick_e c p.down a := ⟨_, rfl⟩
  rw [← hy] at hp
  have HP := Lib.hid hp
  have HY : Hid (y ≠ 0 → crashP c p a = p) := Lib.hid fun hne => by
    have h1 := crash_zero (by rw [← hy]; exact hne)
    exact h1
  have HREF : Hid (y = 0 → RefS p (crashP c p a) (6) false) := Lib.hid fun h0 => ⟨fun e => Bool.noConfusion e, fun _ hk => absurd hk (by decide), fun _ _ => crash_last a⟩
  clear hp hy
  clear hwa hw0 hba hbb hEa hE hZ hb0 hL h hr hs hr0 hi0 hBF hc _hm _hbn _hsn _hn hs0 hB0 hB hsa hzl
  go_enter Try.func33, Try.ntmps33
  go_upto_region 1 with fail
  rw [← HWA.out]
  go_upto_region 6 with fail
  rw [← HW0.out]
  go_upto_region 18 with (go_at_call 37; refine HP.out.mono ?_; rintro _ w1 ⟨rfl, hn⟩; have HN := Lib.hid hn; clear hn)
  clear x0 x1 x2 x3 x4 x5
  have hZ1 := HZ.out.chg HN.out.choose_spec.2.2 HNF.out
  have z0 : w1.cell? ⟨wa.heap.size, 0, none⟩ = some (.int .i64 0) := hZ1.cell 0
  have z1 : w1.cell? ⟨wa.heap.size, 1, none⟩ = some (.int .i64 0) := hZ1.cell 1
  have z2 : w1.cell? ⟨wa.heap.size, 2, none⟩ = some (.int .i64 0) := hZ1.cell 2
  have z3 : w1.cell? ⟨wa.heap.size, 3, none⟩ = some (.int .i64 0) := hZ1.cell 3
  have z4 : w1.cell? ⟨wa.heap.size, 4, none⟩ = some (.slice none 0 0) := hZ1.cell 4
  by_cases hy0 : y = 0
  · have hrf := Lib.hid (HREF.out hy0)
    subst hy0
    go_wp2
    go_ret2
    exact ⟨false, _, rfl, hrf.out, HN.out.behind HB0.out⟩
  · have hz := HY.out hy0
    have e1 : (y == 0) = false := by simpa using hy0
    have e2 : (y != 0) = true := by simpa using hy0
    have hpp := hz
    clear hz
    have HPP := Lib.hid hpp
    clear hpp hy0
    go_wp2_with (go_at_call 55; refine (HAL.out _ _ _).mono ?_; rintro _ w2 ⟨rfl, hb2⟩; have HB2 := Lib.hid hb2; clear hb2)
    go_ret2
    exact ⟨true, _, rfl, ⟨fun _ => HPP.out, fun e => Bool.noConfusion e, fun e => Bool.noConfusion e⟩, (HN.out.over HB2.out).behind HB0.out⟩
set_option maxRecDepth 100000 in
set_option maxHeartbeats 1600000 in
theorem refused_7 {w : World} {B : Nat} {c : ECfg} {D m : Nat} {p : PV} {F : Nat → Prop} (hc : c.Ok) (h : LiveP w B c D m p F) (hB : B ≤ w.heap.size) (hm : m ≤ 4398046511104) (a b n : Int) (BA SA : Option Addr) (bc sc : Nat) (bs : List UInt8) (sides : List Int) (_hn : n ≤ 9223372036854775807) (hr : RdB w B BA bs.length bs) (_hbn : bs.length ≤ 140737488351232) (hs : RdI w B SA sides.length sides) (_hsn : sides.length ≤ 17592186043904) : Calls Try.prog 33 #[.pointer (some ⟨D, 0, none⟩), .agg #[.int .i64 7, .int .i64 a, .int .i64 b, .int .i64 n, .slice BA bs.length bc, .slice SA sides.length sc]] w (RefR w F B c D m p (7)) := by
  have hba := one_box' w (.cells #[.int .i64 7, .int .i64 a, .int .i64 b, .int .i64 n, .slice BA bs.length bc, .slice SA sides.length sc] 33)
  have hEa := Blk.new w 33 #[.int .i64 7, .int .i64 a, .int .i64 b, .int .i64 n, .slice BA bs.length bc, .slice SA sides.length sc]
  obtain ⟨wa, hwa⟩ : ∃ wa, wa = w.alloc (.cells #[.int .i64 7, .int .i64 a, .int .i64 b, .int .i64 n, .slice BA bs.length bc, .slice SA sides.length sc] 33) := ⟨_, rfl⟩
  rw [← hwa] at hba hEa
  have hsa : wa.heap.size = w.heap.size + 1 := by rw [hwa]; simp
  have hbb := one_box' wa (.cells #[.int .i64 0, .int .i64 0, .int .i64 0, .int .i64 0, .slice none 0 0] 48)
  have hZ := Blk.new wa 48 #[.int .i64 0, .int .i64 0, .int .i64 0, .int .i64 0, .slice none 0 0]
  obtain ⟨w0, hw0⟩ : ∃ w0, w0 = wa.alloc (.cells #[.int .i64 0, .int .i64 0, .int .i64 0, .int .i64 0, .slice none 0 0] 48) := ⟨_, rfl⟩
  rw [← hw0] at hbb hZ
  have hE := hEa.over hbb
  have hb0 := hba.trans (hbb.mono hba.size)
  have hL := h.below hb0
  have hs0 := hb0.size
  have hzl := hZ.lt
  have hB0 : B ≤ w0.heap.size := Nat.le_trans hB hs0
  have HWA := Lib.hid hwa
  have HW0 := Lib.hid hw0
  have HB0 := Lib.hid hb0
  have HZ := Lib.hid hZ
  have HNF : Hid (¬ F wa.heap.size) := Lib.hid fun hf => by have := h.pn.1 _ hf; omega
  have HZL : Hid (wa.heap.size < w0.heap.size ∧ w.heap.size ≤ wa.heap.size) := Lib.hid ⟨hzl, by omega⟩
  have hr0 := (hr.below (hb0.mono hB)).more hB0
  have hi0 := (hs.below (hb0.mono hB)).more hB0
  have hBF : 0 < bs.length → ∀ b o s, BA = some ⟨b, o, s⟩ → ¬ F b := fun hp b o s e hf => by
    obtain ⟨b2, o2, e', hlt, _⟩ := hr.at_ hp
    rw [e] at e'
    injection e' with e'
    injection e' with e'
    have := h.ab b hf
    omega
  have HAL := Lib.hid alike_zero
  have HL := Lib.hid hL
  have HC := Lib.hid hc
  have x0 : w0.cell? ⟨w.heap.size, 0, none⟩ = some (.int .i64 7) := hE.cell 0
  have x1 : w0.cell? ⟨w.heap.size, 1, none⟩ = some (.int .i64 a) := hE.cell 1
  have x2 : w0.cell? ⟨w.heap.size, 2, none⟩ = some (.int .i64 b) := hE.cell 2
  have x3 : w0.cell? ⟨w.heap.size, 3, none⟩ = some (.int .i64 n) := hE.cell 3
  have x4 : w0.cell? ⟨w.heap.size, 4, none⟩ = some (.slice BA bs.length bc) := hE.cell 4
  have x5 : w0.cell? ⟨w.heap.size, 5, none⟩ = some (.slice SA sides.length sc) := hE.cell 5
  have hp := CRest hL hB0 hm a
  obtain ⟨y, hy⟩ : ∃ y, y = Rest_e c p.down a := ⟨_, rfl⟩
  obtain ⟨r, hrr⟩ : ∃ r, r = Rest_r c p.down p.inc a := ⟨_, rfl⟩
  rw [← hrr] at hp
  rw [← hy] at hp
  have HP := Lib.hid hp
  have HY : Hid (y ≠ 0 → r = 0 ∧ restP c p a = p) := Lib.hid fun hne => by
    have h1 := rest_zero (by rw [← hy]; exact hne)
    exact ⟨hrr.trans h1.1, h1.2⟩
  have HREF : Hid (y = 0 → RefS p (restP c p a) (7) false) := Lib.hid fun h0 => ⟨fun e => Bool.noConfusion e, fun _ hk => absurd hk (by decide), fun _ _ => rest_last a⟩
  clear hp hy hrr
  clear hwa hw0 hba hbb hEa hE hZ hb0 hL h hr hs hr0 hi0 hBF hc hm _hbn _hsn _hn hs0 hB0 hB hsa hzl
  go_enter Try.func33, Try.ntmps33
  go_upto_region 1 with fail
  rw [← HWA.out]
  go_upto_region 6 with fail
  rw [← HW0.out]
  go_upto_region 18 with (go_at_call 17; refine HP.out.mono ?_; rintro _ w1 ⟨rfl, hn⟩; have HN := Lib.hid hn; clear hn)
  clear x0 x1 x2 x3 x4 x5
  have hZ1 := HZ.out.chg HN.out.choose_spec.2.2 HNF.out
  have z0 : w1.cell? ⟨wa.heap.size, 0, none⟩ = some (.int .i64 0) := hZ1.cell 0
  have z1 : w1.cell? ⟨wa.heap.size, 1, none⟩ = some (.int .i64 0) := hZ1.cell 1
  have z2 : w1.cell? ⟨wa.heap.size, 2, none⟩ = some (.int .i64 0) := hZ1.cell 2
  have z3 : w1.cell? ⟨wa.heap.size, 3, none⟩ = some (.int .i64 0) := hZ1.cell 3
  have z4 : w1.cell? ⟨wa.heap.size, 4, none⟩ = some (.slice none 0 0) := hZ1.cell 4
  by_cases hy0 : y = 0
  · have hrf := Lib.hid (HREF.out hy0)
    subst hy0
    go_wp2
    go_ret2
    exact ⟨false, _, rfl, hrf.out, HN.out.behind HB0.out⟩
  · have hz := HY.out hy0
    have e1 : (y == 0) = false := by simpa using hy0
    have e2 : (y != 0) = true := by simpa using hy0
    obtain ⟨rfl, hpp⟩ := hz
    have HPP := Lib.hid hpp
    clear hpp hy0
    go_wp2_with (go_at_call 55; refine (HAL.out _ _ _).mono ?_; rintro _ w2 ⟨rfl, hb2⟩; have HB2 := Lib.hid hb2; clear hb2)
    go_ret2
    exact ⟨true, _, rfl, ⟨fun _ => HPP.out, fun e => Bool.noConfusion e, fun e => Bool.noConfusion e⟩, (HN.out.over HB2.out).behind HB0.out⟩
set_option maxRecDepth 100000 in
set_option maxHeartbeats 1600000 in
theorem refused_10 {w : World} {B : Nat} {c : ECfg} {D m : Nat} {p : PV} {F : Nat → Prop} (hc : c.Ok) (h : LiveP w B c D m p F) (hB : B ≤ w.heap.size) (hm : m ≤ 4398046511104) (a b n : Int) (BA SA : Option Addr) (bc sc : Nat) (bs : List UInt8) (sides : List Int) (_hn : n ≤ 9223372036854775807) (hr : RdB w B BA bs.length bs) (hbn : bs.length ≤ 140737488351232) (hs : RdI w B SA sides.length sides) (_hsn : sides.length ≤ 17592186043904) : Calls Try.prog 33 #[.pointer (some ⟨D, 0, none⟩), .agg #[.int .i64 10, .int .i64 a, .int .i64 b, .int .i64 n, .slice BA bs.length bc, .slice SA sides.length sc]] w (RefR w F B c D m p (10)) := by
  have hba := one_box' w (.cells #[.int .i64 10, .int .i64 a, .int .i64 b, .int .i64 n, .slice BA bs.length bc, .slice SA sides.length sc] 33)
  have hEa := Blk.new w 33 #[.int .i64 10, .int .i64 a, .int .i64 b, .int .i64 n, .slice BA bs.length bc, .slice SA sides.length sc]
  obtain ⟨wa, hwa⟩ : ∃ wa, wa = w.alloc (.cells #[.int .i64 10, .int .i64 a, .int .i64 b, .int .i64 n, .slice BA bs.length bc, .slice SA sides.length sc] 33) := ⟨_, rfl⟩
  rw [← hwa] at hba hEa
  have hsa : wa.heap.size = w.heap.size + 1 := by rw [hwa]; simp
  have hbb := one_box' wa (.cells #[.int .i64 0, .int .i64 0, .int .i64 0, .int .i64 0, .slice none 0 0] 48)
  have hZ := Blk.new wa 48 #[.int .i64 0, .int .i64 0, .int .i64 0, .int .i64 0, .slice none 0 0]
  obtain ⟨w0, hw0⟩ : ∃ w0, w0 = wa.alloc (.cells #[.int .i64 0, .int .i64 0, .int .i64 0, .int .i64 0, .slice none 0 0] 48) := ⟨_, rfl⟩
  rw [← hw0] at hbb hZ
  have hE := hEa.over hbb
  have hb0 := hba.trans (hbb.mono hba.size)
  have hL := h.below hb0
  have hs0 := hb0.size
  have hzl := hZ.lt
  have hB0 : B ≤ w0.heap.size := Nat.le_trans hB hs0
  have HWA := Lib.hid hwa
  have HW0 := Lib.hid hw0
  have HB0 := Lib.hid hb0
  have HZ := Lib.hid hZ
  have HNF : Hid (¬ F wa.heap.size) := Lib.hid fun hf => by have := h.pn.1 _ hf; omega
  have HZL : Hid (wa.heap.size < w0.heap.size ∧ w.heap.size ≤ wa.heap.size) := Lib.hid ⟨hzl, by omega⟩
  have hr0 := (hr.below (hb0.mono hB)).more hB0
  have hi0 := (hs.below (hb0.mono hB)).more hB0
  have hBF : 0 < bs.length → ∀ b o s, BA = some ⟨b, o, s⟩ → ¬ F b := fun hp b o s e hf => by
    obtain ⟨b2, o2, e', hlt, _⟩ := hr.at_ hp
    rw [e] at e'
    injection e' with e'
    injection e' with e'
    have := h.ab b hf
    omega
  have HAL := Lib.hid alike_zero
  have HL := Lib.hid hL
  have HC := Lib.hid hc
  have x0 : w0.cell? ⟨w.heap.size, 0, none⟩ = some (.int .i64 10) := hE.cell 0
  have x1 : w0.cell? ⟨w.heap.size, 1, none⟩ = some (.int .i64 a) := hE.cell 1
  have x2 : w0.cell? ⟨w.heap.size, 2, none⟩ = some (.int .i64 b) := hE.cell 2
  have x3 : w0.cell? ⟨w.heap.size, 3, none⟩ = some (.int .i64 n) := hE.cell 3
  have x4 : w0.cell? ⟨w.heap.size, 4, none⟩ = some (.slice BA bs.length bc) := hE.cell 4
  have x5 : w0.cell? ⟨w.heap.size, 5, none⟩ = some (.slice SA sides.length sc) := hE.cell 5
  have hp := CPost hc hL hB0 hm a b BA bc bs hr0 hbn hBF
  obtain ⟨y, hy⟩ : ∃ y, y = postE c p a b bs.length true := ⟨_, rfl⟩
  obtain ⟨r, hrr⟩ : ∃ r, r = postR c p a b bs.length true := ⟨_, rfl⟩
  rw [← hrr] at hp
  rw [← hy] at hp
  have HP := Lib.hid hp
  have HY : Hid (y ≠ 0 → r = 0 ∧ postP c p a b bs true = p) := Lib.hid fun hne => by
    have h1 := post_zero (by rw [← hy]; exact hne)
    exact ⟨hrr.trans h1.1, h1.2⟩
  have HREF : Hid (y = 0 → RefS p (postP c p a b bs true) (10) false) := Lib.hid fun h0 => ⟨fun e => Bool.noConfusion e, fun _ _ => post_new (hy ▸ h0), fun _ hk => absurd (.inl rfl) hk⟩
  clear hp hy hrr
  clear hwa hw0 hba hbb hEa hE hZ hb0 hL h hr hs hr0 hi0 hBF hc hm hbn _hsn _hn hs0 hB0 hB hsa hzl
  go_enter Try.func33, Try.ntmps33
  go_upto_region 1 with fail
  rw [← HWA.out]
  go_upto_region 6 with fail
  rw [← HW0.out]
  go_upto_region 18 with (go_at_call 20; refine HP.out.mono ?_; rintro _ w1 ⟨rfl, hn⟩; have HN := Lib.hid hn; clear hn)
  clear x0 x1 x2 x3 x4 x5
  have hZ1 := HZ.out.chg HN.out.choose_spec.2.2 HNF.out
  have z0 : w1.cell? ⟨wa.heap.size, 0, none⟩ = some (.int .i64 0) := hZ1.cell 0
  have z1 : w1.cell? ⟨wa.heap.size, 1, none⟩ = some (.int .i64 0) := hZ1.cell 1
  have z2 : w1.cell? ⟨wa.heap.size, 2, none⟩ = some (.int .i64 0) := hZ1.cell 2
  have z3 : w1.cell? ⟨wa.heap.size, 3, none⟩ = some (.int .i64 0) := hZ1.cell 3
  have z4 : w1.cell? ⟨wa.heap.size, 4, none⟩ = some (.slice none 0 0) := hZ1.cell 4
  by_cases hy0 : y = 0
  · have hrf := Lib.hid (HREF.out hy0)
    subst hy0
    go_wp2
    go_ret2
    exact ⟨false, _, rfl, hrf.out, HN.out.behind HB0.out⟩
  · have hz := HY.out hy0
    have e1 : (y == 0) = false := by simpa using hy0
    have e2 : (y != 0) = true := by simpa using hy0
    obtain ⟨rfl, hpp⟩ := hz
    have HPP := Lib.hid hpp
    clear hpp hy0
    go_wp2_with (go_at_call 55; refine (HAL.out _ _ _).mono ?_; rintro _ w2 ⟨rfl, hb2⟩; have HB2 := Lib.hid hb2; clear hb2)
    go_ret2
    exact ⟨true, _, rfl, ⟨fun _ => HPP.out, fun e => Bool.noConfusion e, fun e => Bool.noConfusion e⟩, (HN.out.over HB2.out).behind HB0.out⟩
theorem five_chg (w : World) (g : Nat) (v0 v1 v2 v3 v4 : Value) : Chg (fun k => k = g) w (((((w.setCell ⟨g, 0, none⟩ v0).setCell ⟨g, 1, none⟩ v1).setCell ⟨g, 2, none⟩ v2).setCell ⟨g, 3, none⟩ v3).setCell ⟨g, 4, none⟩ v4) :=
  (((((Chg.refl (fun k => k = g) w).setCell (p := ⟨g, 0, none⟩) (.inl rfl) _).setCell (p := ⟨g, 1, none⟩) (.inl rfl) _).setCell (p := ⟨g, 2, none⟩) (.inl rfl) _).setCell (p := ⟨g, 3, none⟩) (.inl rfl) _).setCell (p := ⟨g, 4, none⟩) (.inl rfl) _
set_option maxRecDepth 100000 in
set_option maxHeartbeats 1600000 in
theorem refused_12 {w : World} {B : Nat} {c : ECfg} {D m : Nat} {p : PV} {F : Nat → Prop} (hc : c.Ok) (h : LiveP w B c D m p F) (hB : B ≤ w.heap.size) (hm : m ≤ 4398046511104) (a b n : Int) (BA SA : Option Addr) (bc sc : Nat) (bs : List UInt8) (sides : List Int) (_hn : n ≤ 9223372036854775807) (hr : RdB w B BA bs.length bs) (_hbn : bs.length ≤ 140737488351232) (hs : RdI w B SA sides.length sides) (_hsn : sides.length ≤ 17592186043904) : Calls Try.prog 33 #[.pointer (some ⟨D, 0, none⟩), .agg #[.int .i64 12, .int .i64 a, .int .i64 b, .int .i64 n, .slice BA bs.length bc, .slice SA sides.length sc]] w (RefR w F B c D m p (12)) := by
  have hba := one_box' w (.cells #[.int .i64 12, .int .i64 a, .int .i64 b, .int .i64 n, .slice BA bs.length bc, .slice SA sides.length sc] 33)
  have hEa := Blk.new w 33 #[.int .i64 12, .int .i64 a, .int .i64 b, .int .i64 n, .slice BA bs.length bc, .slice SA sides.length sc]
  obtain ⟨wa, hwa⟩ : ∃ wa, wa = w.alloc (.cells #[.int .i64 12, .int .i64 a, .int .i64 b, .int .i64 n, .slice BA bs.length bc, .slice SA sides.length sc] 33) := ⟨_, rfl⟩
  rw [← hwa] at hba hEa
  have hsa : wa.heap.size = w.heap.size + 1 := by rw [hwa]; simp
  have hbb := one_box' wa (.cells #[.int .i64 0, .int .i64 0, .int .i64 0, .int .i64 0, .slice none 0 0] 48)
  have hZ := Blk.new wa 48 #[.int .i64 0, .int .i64 0, .int .i64 0, .int .i64 0, .slice none 0 0]
  obtain ⟨w0, hw0⟩ : ∃ w0, w0 = wa.alloc (.cells #[.int .i64 0, .int .i64 0, .int .i64 0, .int .i64 0, .slice none 0 0] 48) := ⟨_, rfl⟩
  rw [← hw0] at hbb hZ
  have hE := hEa.over hbb
  have hb0 := hba.trans (hbb.mono hba.size)
  have hL := h.below hb0
  have hs0 := hb0.size
  have hzl := hZ.lt
  have hB0 : B ≤ w0.heap.size := Nat.le_trans hB hs0
  have HWA := Lib.hid hwa
  have HW0 := Lib.hid hw0
  have HB0 := Lib.hid hb0
  have HZ := Lib.hid hZ
  have HNF : Hid (¬ F wa.heap.size) := Lib.hid fun hf => by have := h.pn.1 _ hf; omega
  have HZL : Hid (wa.heap.size < w0.heap.size ∧ w.heap.size ≤ wa.heap.size) := Lib.hid ⟨hzl, by omega⟩
  have hr0 := (hr.below (hb0.mono hB)).more hB0
  have hi0 := (hs.below (hb0.mono hB)).more hB0
  have hBF : 0 < bs.length → ∀ b o s, BA = some ⟨b, o, s⟩ → ¬ F b := fun hp b o s e hf => by
    obtain ⟨b2, o2, e', hlt, _⟩ := hr.at_ hp
    rw [e] at e'
    injection e' with e'
    injection e' with e'
    have := h.ab b hf
    omega
  have HAL := Lib.hid alike_zero
  have HL := Lib.hid hL
  have HC := Lib.hid hc
  have x0 : w0.cell? ⟨w.heap.size, 0, none⟩ = some (.int .i64 12) := hE.cell 0
  have x1 : w0.cell? ⟨w.heap.size, 1, none⟩ = some (.int .i64 a) := hE.cell 1
  have x2 : w0.cell? ⟨w.heap.size, 2, none⟩ = some (.int .i64 b) := hE.cell 2
  have x3 : w0.cell? ⟨w.heap.size, 3, none⟩ = some (.int .i64 n) := hE.cell 3
  have x4 : w0.cell? ⟨w.heap.size, 4, none⟩ = some (.slice BA bs.length bc) := hE.cell 4
  have x5 : w0.cell? ⟨w.heap.size, 5, none⟩ = some (.slice SA sides.length sc) := hE.cell 5
  have hp := CTake hc hL hB0 hm a
  obtain ⟨y, hy⟩ : ∃ y, y = (takeD c p a).1 := ⟨_, rfl⟩
  obtain ⟨f, hf⟩ : ∃ f, f = (takeD c p a).2.1 := ⟨_, rfl⟩
  obtain ⟨p2, hp2⟩ : ∃ p2, p2 = (takeD c p a).2.2 := ⟨_, rfl⟩
  rw [← hy, ← hf, ← hp2] at hp
  have HP := Lib.hid hp
  have HY : Hid (y ≠ 0 → p2 = p ∧ f = Flt.zero) := Lib.hid fun hne => by
    have h1 := take_err (c := c) (p := p) (a := a) (by rw [← hy]; exact hne)
    exact ⟨hp2.trans h1.1, hf.trans h1.2⟩
  have HREF : Hid (RefS p p2 12 false) := Lib.hid ⟨fun e => Bool.noConfusion e, fun _ hk => absurd hk (by decide), fun _ _ => by rw [hp2]; exact take_last a⟩
  clear hp hy hf hp2
  clear hwa hw0 hba hbb hEa hE hZ hb0 hL h hr hs hr0 hi0 hBF hc hm _hbn _hsn _hn hs0 hB0 hB hsa hzl
  go_enter Try.func33, Try.ntmps33
  go_upto_region 1 with fail
  rw [← HWA.out]
  go_upto_region 6 with fail
  rw [← HW0.out]
  go_upto_region 15 with fail
  have HZ9 := HZ
  by_cases hy0 : y = 0
  · subst hy0
    go_upto_region 15 with fail
    go_wp2_with (go_at_call 38; refine HP.out.mono ?_; rintro _ w1 ⟨A, cap, rfl, hn⟩; have HN := Lib.hid hn; clear hn; have hZ1 := HZ.out.chg HN.out.choose_spec.2.2 HNF.out; have z0 : w1.cell? ⟨wa.heap.size, 0, none⟩ = some (.int .i64 0) := hZ1.cell 0; have z1 : w1.cell? ⟨wa.heap.size, 1, none⟩ = some (.int .i64 0) := hZ1.cell 1; have z2 : w1.cell? ⟨wa.heap.size, 2, none⟩ = some (.int .i64 0) := hZ1.cell 2; have z3 : w1.cell? ⟨wa.heap.size, 3, none⟩ = some (.int .i64 0) := hZ1.cell 3; have z4 : w1.cell? ⟨wa.heap.size, 4, none⟩ = some (.slice none 0 0) := hZ1.cell 4; have f0 : w1.frozen? ⟨wa.heap.size, 0, none⟩ = false := hZ1.frozen 0; have f1 : w1.frozen? ⟨wa.heap.size, 1, none⟩ = false := hZ1.frozen 1; have f2 : w1.frozen? ⟨wa.heap.size, 2, none⟩ = false := hZ1.frozen 2; have f3 : w1.frozen? ⟨wa.heap.size, 3, none⟩ = false := hZ1.frozen 3; have f4 : w1.frozen? ⟨wa.heap.size, 4, none⟩ = false := hZ1.frozen 4)
    go_ret2
    exact ⟨false, _, rfl, HREF.out, LiveC.fin HB0.out HN.out (five_chg _ _ _ _ _ _ _) HNF.out HZL.out.1 HZL.out.2⟩
  · obtain ⟨rfl, rfl⟩ := HY.out hy0
    have e1 : (y == 0) = false := by simpa using hy0
    have e2 : (y != 0) = true := by simpa using hy0
    have HP0 : Hid (Calls Try.prog 38 #[.pointer (some ⟨D, 0, none⟩), .int .i64 a] w0 fun e w' => ∃ A cap, e = .returned (.tuple #[.agg #[.int .i64 0, .int .i64 0, .int .i64 0, .int .i64 0, .slice A 0 cap], .int .i64 y]) ∧ LiveC w0 F B c D m p2 w') := HP
    clear HP hy0
    go_wp2_with (first
      | (go_at_call 38; refine HP0.out.mono ?_; rintro _ w1 ⟨A, cap, rfl, hn⟩; have HN := Lib.hid hn; clear hn; have hZ1 := HZ.out.chg HN.out.choose_spec.2.2 HNF.out; have z0 : w1.cell? ⟨wa.heap.size, 0, none⟩ = some (.int .i64 0) := hZ1.cell 0; have z1 : w1.cell? ⟨wa.heap.size, 1, none⟩ = some (.int .i64 0) := hZ1.cell 1; have z2 : w1.cell? ⟨wa.heap.size, 2, none⟩ = some (.int .i64 0) := hZ1.cell 2; have z3 : w1.cell? ⟨wa.heap.size, 3, none⟩ = some (.int .i64 0) := hZ1.cell 3; have z4 : w1.cell? ⟨wa.heap.size, 4, none⟩ = some (.slice none 0 0) := hZ1.cell 4; have f0 : w1.frozen? ⟨wa.heap.size, 0, none⟩ = false := hZ1.frozen 0; have f1 : w1.frozen? ⟨wa.heap.size, 1, none⟩ = false := hZ1.frozen 1; have f2 : w1.frozen? ⟨wa.heap.size, 2, none⟩ = false := hZ1.frozen 2; have f3 : w1.frozen? ⟨wa.heap.size, 3, none⟩ = false := hZ1.frozen 3; have f4 : w1.frozen? ⟨wa.heap.size, 4, none⟩ = false := hZ1.frozen 4)
      | (go_at_call 55; refine (HAL.out _ _ _).mono ?_; rintro _ w2 ⟨rfl, hb2⟩; have HB2 := Lib.hid hb2; clear hb2))
    go_ret2
    exact ⟨true, _, rfl, ⟨fun _ => rfl, fun e => Bool.noConfusion e, fun e => Bool.noConfusion e⟩, (LiveC.fin HB0.out HN.out (five_chg _ _ _ _ _ _ _) HNF.out HZL.out.1 HZL.out.2).over HB2.out⟩
set_option maxRecDepth 100000 in
set_option maxHeartbeats 1600000 in
theorem refused_do {w : World} {B : Nat} {c : ECfg} {D m : Nat} {p : PV} {F : Nat → Prop} (hc : c.Ok) (h : LiveP w B c D m p F) (hB : B ≤ w.heap.size) (hm : m ≤ 4398046511104) (kd : Int) (a b n : Int) (BA SA : Option Addr) (bc sc : Nat) (bs : List UInt8) (sides : List Int) (hk1 : 20 < kd) (hk2 : kd ≤ 60) (hn : n ≤ 9223372036854775807) (hr : RdB w B BA bs.length bs) (hbn : bs.length ≤ 140737488351232) (hs : RdI w B SA sides.length sides) (hsn : sides.length ≤ 17592186043904) : Calls Try.prog 33 #[.pointer (some ⟨D, 0, none⟩), .agg #[.int .i64 kd, .int .i64 a, .int .i64 b, .int .i64 n, .slice BA bs.length bc, .slice SA sides.length sc]] w (RefR w F B c D m p (kd)) := by
  have hba := one_box' w (.cells #[.int .i64 kd, .int .i64 a, .int .i64 b, .int .i64 n, .slice BA bs.length bc, .slice SA sides.length sc] 33)
  have hEa := Blk.new w 33 #[.int .i64 kd, .int .i64 a, .int .i64 b, .int .i64 n, .slice BA bs.length bc, .slice SA sides.length sc]
  obtain ⟨wa, hwa⟩ : ∃ wa, wa = w.alloc (.cells #[.int .i64 kd, .int .i64 a, .int .i64 b, .int .i64 n, .slice BA bs.length bc, .slice SA sides.length sc] 33) := ⟨_, rfl⟩
  rw [← hwa] at hba hEa
  have hsa : wa.heap.size = w.heap.size + 1 := by rw [hwa]; simp
  have hbb := one_box' wa (.cells #[.int .i64 0, .int .i64 0, .int .i64 0, .int .i64 0, .slice none 0 0] 48)
  have hZ := Blk.new wa 48 #[.int .i64 0, .int .i64 0, .int .i64 0, .int .i64 0, .slice none 0 0]
  obtain ⟨w0, hw0⟩ : ∃ w0, w0 = wa.alloc (.cells #[.int .i64 0, .int .i64 0, .int .i64 0, .int .i64 0, .slice none 0 0] 48) := ⟨_, rfl⟩
  rw [← hw0] at hbb hZ
  have hE := hEa.over hbb
  have hb0 := hba.trans (hbb.mono hba.size)
  have hL := h.below hb0
  have hs0 := hb0.size
  have hzl := hZ.lt
  have hB0 : B ≤ w0.heap.size := Nat.le_trans hB hs0
  have HWA := Lib.hid hwa
  have HW0 := Lib.hid hw0
  have HB0 := Lib.hid hb0
  have HZ := Lib.hid hZ
  have HNF : Hid (¬ F wa.heap.size) := Lib.hid fun hf => by have := h.pn.1 _ hf; omega
  have HZL : Hid (wa.heap.size < w0.heap.size ∧ w.heap.size ≤ wa.heap.size) := Lib.hid ⟨hzl, by omega⟩
  have hr0 := (hr.below (hb0.mono hB)).more hB0
  have hi0 := (hs.below (hb0.mono hB)).more hB0
  have hBF : 0 < bs.length → ∀ b o s, BA = some ⟨b, o, s⟩ → ¬ F b := fun hp b o s e hf => by
    obtain ⟨b2, o2, e', hlt, _⟩ := hr.at_ hp
    rw [e] at e'
    injection e' with e'
    injection e' with e'
    have := h.ab b hf
    omega
  have HAL := Lib.hid alike_zero
  have HL := Lib.hid hL
  have HC := Lib.hid hc
  have x0 : w0.cell? ⟨w.heap.size, 0, none⟩ = some (.int .i64 kd) := hE.cell 0
  have x1 : w0.cell? ⟨w.heap.size, 1, none⟩ = some (.int .i64 a) := hE.cell 1
  have x2 : w0.cell? ⟨w.heap.size, 2, none⟩ = some (.int .i64 b) := hE.cell 2
  have x3 : w0.cell? ⟨w.heap.size, 3, none⟩ = some (.int .i64 n) := hE.cell 3
  have x4 : w0.cell? ⟨w.heap.size, 4, none⟩ = some (.slice BA bs.length bc) := hE.cell 4
  have x5 : w0.cell? ⟨w.heap.size, 5, none⟩ = some (.slice SA sides.length sc) := hE.cell 5
  have e5 : (kd == 5) = false := by simp; omega
  have f5 : ¬ kd = 5 := by omega
  have e6 : (kd == 6) = false := by simp; omega
  have f6 : ¬ kd = 6 := by omega
  have e7 : (kd == 7) = false := by simp; omega
  have f7 : ¬ kd = 7 := by omega
  have e10 : (kd == 10) = false := by simp; omega
  have f10 : ¬ kd = 10 := by omega
  have e11 : (kd == 11) = false := by simp; omega
  have f11 : ¬ kd = 11 := by omega
  have e12 : (kd == 12) = false := by simp; omega
  have f12 : ¬ kd = 12 := by omega
  have HEV := Lib.hid (event_any kd a b n BA SA bc sc bs sides (by omega) hr0 hbn hi0 hsn)
  have HX := Lib.hid (And.intro hm (And.intro hB0 (And.intro hbn (And.intro hsn hn))))
  obtain ⟨y, hy⟩ : ∃ y, y = (doD c p ⟨kd - 20, a, b, n, bs, sides⟩).1 := ⟨_, rfl⟩
  obtain ⟨p2, hp2⟩ : ∃ p2, p2 = (doD c p ⟨kd - 20, a, b, n, bs, sides⟩).2 := ⟨_, rfl⟩
  have HQ : Hid (y = (doD c p ⟨kd - 20, a, b, n, bs, sides⟩).1 ∧ p2 = (doD c p ⟨kd - 20, a, b, n, bs, sides⟩).2) := Lib.hid ⟨hy, hp2⟩
  have HREF : Hid (RefS p p2 kd (y != 0)) := Lib.hid (by
    by_cases h0 : y = 0
    · rw [h0]
      refine ⟨fun e => (by simp at e), fun _ hk => ?_, fun _ hk => ?_⟩
      · rw [hp2]
        exact do_new (by rw [← hy]; exact h0) (by show kd - 20 = 17 ∨ kd - 20 = 13; omega)
      · rw [hp2]
        exact do_old (by show kd - 20 ≠ 17; omega) (by show kd - 20 ≠ 13; omega)
    · have e : (y != 0) = true := by simpa using h0
      rw [e]
      exact ⟨fun _ => by rw [hp2]; exact do_err (by rw [← hy]; exact h0), fun e => Bool.noConfusion e, fun e => Bool.noConfusion e⟩)
  clear hy hp2
  clear hwa hw0 hba hbb hEa hE hZ hb0 hL h hr hs hr0 hi0 hBF hc hm hbn hsn hn hs0 hB0 hB hsa hzl
  go_enter Try.func33, Try.ntmps33
  go_upto_region 1 with fail
  rw [← HWA.out]
  go_upto_region 6 with fail
  rw [← HW0.out]
  go_upto_region 17 with fail
  go_upto_region 18 with (first
    | (go_at_call 39; refine HEV.out.mono ?_; rintro _ w1 ⟨g, cap, hh, caps, rfl, hSB, hSI, hb1⟩; have HG := Lib.hid (And.intro hSB (And.intro hSI hb1)); clear hSB hSI hb1; have HP := Lib.hid (CDo HC.out HL.out HX.out.2.1 HX.out.1 HX.out.2.2.2.2 HX.out.2.2.1 HX.out.2.2.2.1 HG.out.1 HG.out.2.1 HG.out.2.2 (kd - 20) a b); rw [← HQ.out.1, ← HQ.out.2] at HP)
    | (go_at_call 19; refine HP.out.mono ?_; rintro _ w2 ⟨rfl, hn⟩; have HN := Lib.hid hn; clear hn))
  clear x0 x1 x2 x3 x4 x5
  have hZ1 := HZ.out.chg HN.out.choose_spec.2.2 HNF.out
  have z0 : w2.cell? ⟨wa.heap.size, 0, none⟩ = some (.int .i64 0) := hZ1.cell 0
  have z1 : w2.cell? ⟨wa.heap.size, 1, none⟩ = some (.int .i64 0) := hZ1.cell 1
  have z2 : w2.cell? ⟨wa.heap.size, 2, none⟩ = some (.int .i64 0) := hZ1.cell 2
  have z3 : w2.cell? ⟨wa.heap.size, 3, none⟩ = some (.int .i64 0) := hZ1.cell 3
  have z4 : w2.cell? ⟨wa.heap.size, 4, none⟩ = some (.slice none 0 0) := hZ1.cell 4
  by_cases hy0 : y = 0
  · have hrf := HREF.out
    rw [show (y != 0) = false by simpa using hy0] at hrf
    have HRF := Lib.hid hrf
    clear hrf HREF HQ HP
    subst hy0
    go_wp2
    go_ret2
    exact ⟨false, _, rfl, HRF.out, HN.out.behind HB0.out⟩
  · have e1 : (y == 0) = false := by simpa using hy0
    have e2 : (y != 0) = true := by simpa using hy0
    have hrf := HREF.out
    rw [e2] at hrf
    have HRF := Lib.hid hrf
    clear hrf HREF HQ HP hy0
    go_wp2_with (go_at_call 55; refine (HAL.out _ _ _).mono ?_; rintro _ w3 ⟨rfl, hb2⟩; have HB2 := Lib.hid hb2; clear hb2)
    go_ret2
    exact ⟨true, _, rfl, HRF.out, (HN.out.over HB2.out).behind HB0.out⟩
set_option maxRecDepth 100000 in
set_option maxHeartbeats 1600000 in
theorem refused_11 {w : World} {B : Nat} {c : ECfg} {D m : Nat} {p : PV} {F : Nat → Prop} (hc : c.Ok) (h : LiveP w B c D m p F) (hB : B ≤ w.heap.size) (hm : m ≤ 4398046511104) (a b n : Int) (BA SA : Option Addr) (bc sc : Nat) (bs : List UInt8) (sides : List Int) (_hn : n ≤ 9223372036854775807) (hr : RdB w B BA bs.length bs) (_hbn : bs.length ≤ 140737488351232) (hs : RdI w B SA sides.length sides) (_hsn : sides.length ≤ 17592186043904) : Calls Try.prog 33 #[.pointer (some ⟨D, 0, none⟩), .agg #[.int .i64 11, .int .i64 a, .int .i64 b, .int .i64 n, .slice BA bs.length bc, .slice SA sides.length sc]] w (RefR w F B c D m p (11)) := by
  have hba := one_box' w (.cells #[.int .i64 11, .int .i64 a, .int .i64 b, .int .i64 n, .slice BA bs.length bc, .slice SA sides.length sc] 33)
  have hEa := Blk.new w 33 #[.int .i64 11, .int .i64 a, .int .i64 b, .int .i64 n, .slice BA bs.length bc, .slice SA sides.length sc]
  obtain ⟨wa, hwa⟩ : ∃ wa, wa = w.alloc (.cells #[.int .i64 11, .int .i64 a, .int .i64 b, .int .i64 n, .slice BA bs.length bc, .slice SA sides.length sc] 33) := ⟨_, rfl⟩
  rw [← hwa] at hba hEa
  have hsa : wa.heap.size = w.heap.size + 1 := by rw [hwa]; simp
  have hbb := one_box' wa (.cells #[.int .i64 0, .int .i64 0, .int .i64 0, .int .i64 0, .slice none 0 0] 48)
  have hZ := Blk.new wa 48 #[.int .i64 0, .int .i64 0, .int .i64 0, .int .i64 0, .slice none 0 0]
  obtain ⟨w0, hw0⟩ : ∃ w0, w0 = wa.alloc (.cells #[.int .i64 0, .int .i64 0, .int .i64 0, .int .i64 0, .slice none 0 0] 48) := ⟨_, rfl⟩
  rw [← hw0] at hbb hZ
  have hE := hEa.over hbb
  have hb0 := hba.trans (hbb.mono hba.size)
  have hL := h.below hb0
  have hs0 := hb0.size
  have hzl := hZ.lt
  have hB0 : B ≤ w0.heap.size := Nat.le_trans hB hs0
  have HWA := Lib.hid hwa
  have HW0 := Lib.hid hw0
  have HB0 := Lib.hid hb0
  have HZ := Lib.hid hZ
  have HNF : Hid (¬ F wa.heap.size) := Lib.hid fun hf => by have := h.pn.1 _ hf; omega
  have HZL : Hid (wa.heap.size < w0.heap.size ∧ w.heap.size ≤ wa.heap.size) := Lib.hid ⟨hzl, by omega⟩
  have hr0 := (hr.below (hb0.mono hB)).more hB0
  have hi0 := (hs.below (hb0.mono hB)).more hB0
  have hBF : 0 < bs.length → ∀ b o s, BA = some ⟨b, o, s⟩ → ¬ F b := fun hp b o s e hf => by
    obtain ⟨b2, o2, e', hlt, _⟩ := hr.at_ hp
    rw [e] at e'
    injection e' with e'
    injection e' with e'
    have := h.ab b hf
    omega
  have HAL := Lib.hid alike_zero
  have HL := Lib.hid hL
  have HC := Lib.hid hc
  have x0 : w0.cell? ⟨w.heap.size, 0, none⟩ = some (.int .i64 11) := hE.cell 0
  have x1 : w0.cell? ⟨w.heap.size, 1, none⟩ = some (.int .i64 a) := hE.cell 1
  have x2 : w0.cell? ⟨w.heap.size, 2, none⟩ = some (.int .i64 b) := hE.cell 2
  have x3 : w0.cell? ⟨w.heap.size, 3, none⟩ = some (.int .i64 n) := hE.cell 3
  have x4 : w0.cell? ⟨w.heap.size, 4, none⟩ = some (.slice BA bs.length bc) := hE.cell 4
  have x5 : w0.cell? ⟨w.heap.size, 5, none⟩ = some (.slice SA sides.length sc) := hE.cell 5
  have HP := Lib.hid (playC_11 hc hL hB0 hm a b n BA SA bc sc bs sides)
  have HREF : Hid (RefS p (roundP p) (11) false) := Lib.hid ⟨fun e => Bool.noConfusion e, fun _ hk => absurd hk (by decide), fun _ _ => rfl⟩
  clear hwa hw0 hba hbb hEa hE hZ hb0 hL h hr hs hr0 hi0 hBF hc hm _hbn _hsn _hn hs0 hB0 hB hsa hzl
  go_enter Try.func33, Try.ntmps33
  go_upto_region 1 with fail
  rw [← HWA.out]
  go_upto_region 6 with fail
  rw [← HW0.out]
  go_wp2_with (go_at_call 16; refine HP.out.mono ?_; rintro _ w1 ⟨rfl, hn⟩; have HN := Lib.hid hn; clear hn)
  go_ret2
  exact ⟨false, _, rfl, HREF.out, HN.out.behind HB0.out⟩
set_option maxRecDepth 100000 in
set_option maxHeartbeats 1600000 in
theorem refused_none1 {w : World} {B : Nat} {c : ECfg} {D m : Nat} {p : PV} {F : Nat → Prop} (hc : c.Ok) (h : LiveP w B c D m p F) (hB : B ≤ w.heap.size) (hm : m ≤ 4398046511104) (kd : Int) (a b n : Int) (BA SA : Option Addr) (bc sc : Nat) (bs : List UInt8) (sides : List Int) (hk : kd ≠ 5 ∧ kd ≠ 6 ∧ kd ≠ 7 ∧ kd ≠ 10 ∧ kd ≠ 11 ∧ kd ≠ 12) (hk1 : ¬ 20 < kd) (_hn : n ≤ 9223372036854775807) (hr : RdB w B BA bs.length bs) (_hbn : bs.length ≤ 140737488351232) (hs : RdI w B SA sides.length sides) (_hsn : sides.length ≤ 17592186043904) : Calls Try.prog 33 #[.pointer (some ⟨D, 0, none⟩), .agg #[.int .i64 kd, .int .i64 a, .int .i64 b, .int .i64 n, .slice BA bs.length bc, .slice SA sides.length sc]] w (RefR w F B c D m p (kd)) := by
  have hba := one_box' w (.cells #[.int .i64 kd, .int .i64 a, .int .i64 b, .int .i64 n, .slice BA bs.length bc, .slice SA sides.length sc] 33)
  have hEa := Blk.new w 33 #[.int .i64 kd, .int .i64 a, .int .i64 b, .int .i64 n, .slice BA bs.length bc, .slice SA sides.length sc]
  obtain ⟨wa, hwa⟩ : ∃ wa, wa = w.alloc (.cells #[.int .i64 kd, .int .i64 a, .int .i64 b, .int .i64 n, .slice BA bs.length bc, .slice SA sides.length sc] 33) := ⟨_, rfl⟩
  rw [← hwa] at hba hEa
  have hsa : wa.heap.size = w.heap.size + 1 := by rw [hwa]; simp
  have hbb := one_box' wa (.cells #[.int .i64 0, .int .i64 0, .int .i64 0, .int .i64 0, .slice none 0 0] 48)
  have hZ := Blk.new wa 48 #[.int .i64 0, .int .i64 0, .int .i64 0, .int .i64 0, .slice none 0 0]
  obtain ⟨w0, hw0⟩ : ∃ w0, w0 = wa.alloc (.cells #[.int .i64 0, .int .i64 0, .int .i64 0, .int .i64 0, .slice none 0 0] 48) := ⟨_, rfl⟩
  rw [← hw0] at hbb hZ
  have hE := hEa.over hbb
  have hb0 := hba.trans (hbb.mono hba.size)
  have hL := h.below hb0
  have hs0 := hb0.size
  have hzl := hZ.lt
  have hB0 : B ≤ w0.heap.size := Nat.le_trans hB hs0
  have HWA := Lib.hid hwa
  have HW0 := Lib.hid hw0
  have HB0 := Lib.hid hb0
  have HZ := Lib.hid hZ
  have HNF : Hid (¬ F wa.heap.size) := Lib.hid fun hf => by have := h.pn.1 _ hf; omega
  have HZL : Hid (wa.heap.size < w0.heap.size ∧ w.heap.size ≤ wa.heap.size) := Lib.hid ⟨hzl, by omega⟩
  have hr0 := (hr.below (hb0.mono hB)).more hB0
  have hi0 := (hs.below (hb0.mono hB)).more hB0
  have hBF : 0 < bs.length → ∀ b o s, BA = some ⟨b, o, s⟩ → ¬ F b := fun hp b o s e hf => by
    obtain ⟨b2, o2, e', hlt, _⟩ := hr.at_ hp
    rw [e] at e'
    injection e' with e'
    injection e' with e'
    have := h.ab b hf
    omega
  have HAL := Lib.hid alike_zero
  have HL := Lib.hid hL
  have HC := Lib.hid hc
  have x0 : w0.cell? ⟨w.heap.size, 0, none⟩ = some (.int .i64 kd) := hE.cell 0
  have x1 : w0.cell? ⟨w.heap.size, 1, none⟩ = some (.int .i64 a) := hE.cell 1
  have x2 : w0.cell? ⟨w.heap.size, 2, none⟩ = some (.int .i64 b) := hE.cell 2
  have x3 : w0.cell? ⟨w.heap.size, 3, none⟩ = some (.int .i64 n) := hE.cell 3
  have x4 : w0.cell? ⟨w.heap.size, 4, none⟩ = some (.slice BA bs.length bc) := hE.cell 4
  have x5 : w0.cell? ⟨w.heap.size, 5, none⟩ = some (.slice SA sides.length sc) := hE.cell 5
  have e5 : (kd == 5) = false := by simp; omega
  have f5 : ¬ kd = 5 := by omega
  have e6 : (kd == 6) = false := by simp; omega
  have f6 : ¬ kd = 6 := by omega
  have e7 : (kd == 7) = false := by simp; omega
  have f7 : ¬ kd = 7 := by omega
  have e10 : (kd == 10) = false := by simp; omega
  have f10 : ¬ kd = 10 := by omega
  have e11 : (kd == 11) = false := by simp; omega
  have f11 : ¬ kd = 11 := by omega
  have e12 : (kd == 12) = false := by simp; omega
  have f12 : ¬ kd = 12 := by omega
  have HP := Lib.hid (playC_none1 hc hL hB0 hm kd a b n BA SA bc sc bs sides hk hk1)
  have HREF : Hid (RefS p (p) (kd) false) := Lib.hid ⟨fun e => Bool.noConfusion e, fun _ hk => absurd hk (by omega), fun _ _ => rfl⟩
  clear hwa hw0 hba hbb hEa hE hZ hb0 hL h hr hs hr0 hi0 hBF hc hm _hbn _hsn _hn hs0 hB0 hB hsa hzl
  go_enter Try.func33, Try.ntmps33
  go_upto_region 1 with fail
  rw [← HWA.out]
  go_upto_region 6 with fail
  rw [← HW0.out]
  go_wp2_with (go_at_call 16; refine HP.out.mono ?_; rintro _ w1 ⟨rfl, hn⟩; have HN := Lib.hid hn; clear hn)
  go_ret2
  exact ⟨false, _, rfl, HREF.out, HN.out.behind HB0.out⟩
set_option maxRecDepth 100000 in
set_option maxHeartbeats 1600000 in
theorem refused_none2 {w : World} {B : Nat} {c : ECfg} {D m : Nat} {p : PV} {F : Nat → Prop} (hc : c.Ok) (h : LiveP w B c D m p F) (hB : B ≤ w.heap.size) (hm : m ≤ 4398046511104) (kd : Int) (a b n : Int) (BA SA : Option Addr) (bc sc : Nat) (bs : List UInt8) (sides : List Int) (hk1 : 20 < kd) (hk2 : ¬ kd ≤ 60) (_hn : n ≤ 9223372036854775807) (hr : RdB w B BA bs.length bs) (_hbn : bs.length ≤ 140737488351232) (hs : RdI w B SA sides.length sides) (_hsn : sides.length ≤ 17592186043904) : Calls Try.prog 33 #[.pointer (some ⟨D, 0, none⟩), .agg #[.int .i64 kd, .int .i64 a, .int .i64 b, .int .i64 n, .slice BA bs.length bc, .slice SA sides.length sc]] w (RefR w F B c D m p (kd)) := by
  have hba := one_box' w (.cells #[.int .i64 kd, .int .i64 a, .int .i64 b, .int .i64 n, .slice BA bs.length bc, .slice SA sides.length sc] 33)
  have hEa := Blk.new w 33 #[.int .i64 kd, .int .i64 a, .int .i64 b, .int .i64 n, .slice BA bs.length bc, .slice SA sides.length sc]
  obtain ⟨wa, hwa⟩ : ∃ wa, wa = w.alloc (.cells #[.int .i64 kd, .int .i64 a, .int .i64 b, .int .i64 n, .slice BA bs.length bc, .slice SA sides.length sc] 33) := ⟨_, rfl⟩
  rw [← hwa] at hba hEa
  have hsa : wa.heap.size = w.heap.size + 1 := by rw [hwa]; simp
  have hbb := one_box' wa (.cells #[.int .i64 0, .int .i64 0, .int .i64 0, .int .i64 0, .slice none 0 0] 48)
  have hZ := Blk.new wa 48 #[.int .i64 0, .int .i64 0, .int .i64 0, .int .i64 0, .slice none 0 0]
  obtain ⟨w0, hw0⟩ : ∃ w0, w0 = wa.alloc (.cells #[.int .i64 0, .int .i64 0, .int .i64 0, .int .i64 0, .slice none 0 0] 48) := ⟨_, rfl⟩
  rw [← hw0] at hbb hZ
  have hE := hEa.over hbb
  have hb0 := hba.trans (hbb.mono hba.size)
  have hL := h.below hb0
  have hs0 := hb0.size
  have hzl := hZ.lt
  have hB0 : B ≤ w0.heap.size := Nat.le_trans hB hs0
  have HWA := Lib.hid hwa
  have HW0 := Lib.hid hw0
  have HB0 := Lib.hid hb0
  have HZ := Lib.hid hZ
  have HNF : Hid (¬ F wa.heap.size) := Lib.hid fun hf => by have := h.pn.1 _ hf; omega
  have HZL : Hid (wa.heap.size < w0.heap.size ∧ w.heap.size ≤ wa.heap.size) := Lib.hid ⟨hzl, by omega⟩
  have hr0 := (hr.below (hb0.mono hB)).more hB0
  have hi0 := (hs.below (hb0.mono hB)).more hB0
  have hBF : 0 < bs.length → ∀ b o s, BA = some ⟨b, o, s⟩ → ¬ F b := fun hp b o s e hf => by
    obtain ⟨b2, o2, e', hlt, _⟩ := hr.at_ hp
    rw [e] at e'
    injection e' with e'
    injection e' with e'
    have := h.ab b hf
    omega
  have HAL := Lib.hid alike_zero
  have HL := Lib.hid hL
  have HC := Lib.hid hc
  have x0 : w0.cell? ⟨w.heap.size, 0, none⟩ = some (.int .i64 kd) := hE.cell 0
  have x1 : w0.cell? ⟨w.heap.size, 1, none⟩ = some (.int .i64 a) := hE.cell 1
  have x2 : w0.cell? ⟨w.heap.size, 2, none⟩ = some (.int .i64 b) := hE.cell 2
  have x3 : w0.cell? ⟨w.heap.size, 3, none⟩ = some (.int .i64 n) := hE.cell 3
  have x4 : w0.cell? ⟨w.heap.size, 4, none⟩ = some (.slice BA bs.length bc) := hE.cell 4
  have x5 : w0.cell? ⟨w.heap.size, 5, none⟩ = some (.slice SA sides.length sc) := hE.cell 5
  have e5 : (kd == 5) = false := by simp; omega
  have f5 : ¬ kd = 5 := by omega
  have e6 : (kd == 6) = false := by simp; omega
  have f6 : ¬ kd = 6 := by omega
  have e7 : (kd == 7) = false := by simp; omega
  have f7 : ¬ kd = 7 := by omega
  have e10 : (kd == 10) = false := by simp; omega
  have f10 : ¬ kd = 10 := by omega
  have e11 : (kd == 11) = false := by simp; omega
  have f11 : ¬ kd = 11 := by omega
  have e12 : (kd == 12) = false := by simp; omega
  have f12 : ¬ kd = 12 := by omega
  have HP := Lib.hid (playC_none2 hc hL hB0 hm kd a b n BA SA bc sc bs sides hk1 hk2)
  have HREF : Hid (RefS p (p) (kd) false) := Lib.hid ⟨fun e => Bool.noConfusion e, fun _ hk => absurd hk (by omega), fun _ _ => rfl⟩
  clear hwa hw0 hba hbb hEa hE hZ hb0 hL h hr hs hr0 hi0 hBF hc hm _hbn _hsn _hn hs0 hB0 hB hsa hzl
  go_enter Try.func33, Try.ntmps33
  go_upto_region 1 with fail
  rw [← HWA.out]
  go_upto_region 6 with fail
  rw [← HW0.out]
  go_wp2_with (go_at_call 16; refine HP.out.mono ?_; rintro _ w1 ⟨rfl, hn⟩; have HN := Lib.hid hn; clear hn)
  go_ret2
  exact ⟨false, _, rfl, HREF.out, HN.out.behind HB0.out⟩
theorem refused_any {w : World} {B : Nat} {c : ECfg} {D m : Nat} {p : PV} {F : Nat → Prop} (hc : c.Ok) (h : LiveP w B c D m p F) (hB : B ≤ w.heap.size) (hm : m ≤ 4398046511104) (kd : Int) (a b n : Int) (BA SA : Option Addr) (bc sc : Nat) (bs : List UInt8) (sides : List Int) (hn : n ≤ 9223372036854775807) (hr : RdB w B BA bs.length bs) (hbn : bs.length ≤ 140737488351232) (hs : RdI w B SA sides.length sides) (hsn : sides.length ≤ 17592186043904) : Calls Try.prog 33 #[.pointer (some ⟨D, 0, none⟩), .agg #[.int .i64 kd, .int .i64 a, .int .i64 b, .int .i64 n, .slice BA bs.length bc, .slice SA sides.length sc]] w (RefR w F B c D m p kd) := by
  by_cases h1 : 20 < kd
  · by_cases h2 : kd ≤ 60
    · exact refused_do hc h hB hm kd a b n BA SA bc sc bs sides h1 h2 hn hr hbn hs hsn
    · exact refused_none2 hc h hB hm kd a b n BA SA bc sc bs sides h1 h2 hn hr hbn hs hsn
  · by_cases h2 : kd ≠ 5 ∧ kd ≠ 6 ∧ kd ≠ 7 ∧ kd ≠ 10 ∧ kd ≠ 11 ∧ kd ≠ 12
    · exact refused_none1 hc h hB hm kd a b n BA SA bc sc bs sides h2 h1 hn hr hbn hs hsn
    · rcases (by omega : kd = 5 ∨ kd = 6 ∨ kd = 7 ∨ kd = 10 ∨ kd = 11 ∨ kd = 12) with rfl | rfl | rfl | rfl | rfl | rfl
      · exact refused_5 hc h hB hm a b n BA SA bc sc bs sides hn hr hbn hs hsn
      · exact refused_6 hc h hB hm a b n BA SA bc sc bs sides hn hr hbn hs hsn
      · exact refused_7 hc h hB hm a b n BA SA bc sc bs sides hn hr hbn hs hsn
      · exact refused_10 hc h hB hm a b n BA SA bc sc bs sides hn hr hbn hs hsn
      · exact refused_11 hc h hB hm a b n BA SA bc sc bs sides hn hr hbn hs hsn
      · exact refused_12 hc h hB hm a b n BA SA bc sc bs sides hn hr hbn hs hsn
end Go.Proofs.Ytgfhmfhhobhojaa
namespace Go.Proofs.Ytgfhmfhhobhojaa
open Go.ChangeShapes Go.WideShapes Go.ChangeAt Go.RowKit
theorem rest_first {c : ECfg} (hc : c.Ok) : Rest_e c PV.new.down 0 = 33 ∧ Rest_r c PV.new.down PV.new.inc 0 = 0 ∧ restP c PV.new 0 = PV.new ∧ upA c PV.new.down 0 = true ∧ numA c PV.new.inc 0 = 1 := by
  have hb : hasB c 0 = true := by have := hc.1; simp [hasB]; omega
  have e : Rest_e c PV.new.down 0 = 33 := by
    unfold Rest_e
    rw [if_pos hb]
    rfl
  refine ⟨e, ?_, ?_, ?_, ?_⟩
  · exact (rest_zero (by rw [e]; decide)).1
  · exact (rest_zero (by rw [e]; decide)).2
  · unfold upA; rw [hb]; rfl
  · unfold numA; rw [if_pos hb]; rfl
theorem sight_store (w4 : World) (c : ECfg) (p : PV) {v : Value} (hv : v.oneCell' = true) : ∃ w5, Sem.run Try.prog (storeCells ⟨w4.heap.size, 0, none⟩ (sight c p v).toList) (w4.alloc (.cells Try.zeroCells75 75)) = .ok () w5 ∧ Blk w5 w4.heap.size 75 (sight c p v) ∧ Below w4.heap.size w4 w5 := by
  have hB := Blk.new w4 75 Try.zeroCells75
  have hb := one_box' w4 (.cells Try.zeroCells75 75)
  obtain ⟨w5, h1, h2, h3⟩ := row_put (P := Try.prog) hB (cs := sight c p v) (by rw [sight, rg_size]; kernel_rfl) (fun u hu => by rw [sight] at hu; exact rg_list_one (fun i => half_one c p hv _ _ _ _ _ i) u hu)
  exact ⟨w5, h1, h2, hb.trans (h3.to_below hb.size fun q e => by omega)⟩
theorem sight_exec {W : World} {c : ECfg} {p : PV} {v : Value} {S : Nat} {a : Act} {op : Oper} {x : Operand} (ho : op.op = .load 75 x) (hx : a.eval x = .pointer (some ⟨S, 0, none⟩)) (h : Blk W S 75 (sight c p v)) : Sem.run Try.prog (execOp a.eval op) W = .ok (.value (.agg (sight c p v))) W := by
  have h1 := run_loadAt_mid (P := Try.prog) W S 0 75 (sight c p v).toList _ (fun j u hj => by rw [Nat.zero_add, h.cell, ← Array.getElem?_toList]; exact hj) Try.underlying75 rfl (by rw [Array.length_toList, sight, rg_size]; kernel_rfl)
  rw [Array.toArray_toList] at h1
  unfold execOp
  simp only [ho, hx, Sem.run_bind, h1, Result.andThen_ok, Sem.run_pure]
set_option maxRecDepth 100000 in
set_option maxHeartbeats 1600000 in
theorem Rl_none {w : World} (x0 x1 : Int) (h0 : ¬ NetOk x0 x1) (A : Option Addr) (n cap : Nat) : Calls Try.prog 14 #[.agg #[.int .i64 x0, .int .i64 x1, .slice A n cap]] w (TrueOk w) := by
  have hb0 := one_box' w (.cells #[.int .i64 x0, .int .i64 x1, .slice A n cap] 24)
  have hR := Blk.new w 24 #[.int .i64 x0, .int .i64 x1, .slice A n cap]
  obtain ⟨w0, hw0⟩ : ∃ w0, w0 = w.alloc (.cells #[.int .i64 x0, .int .i64 x1, .slice A n cap] 24) := ⟨_, rfl⟩
  rw [← hw0] at hb0 hR
  have HW := Lib.hid hw0
  have HB0 := Lib.hid hb0
  have r0 : w0.cell? ⟨w.heap.size, 0, none⟩ = some (.int .i64 x0) := hR.cell 0
  have r1 : w0.cell? ⟨w.heap.size, 1, none⟩ = some (.int .i64 x1) := hR.cell 1
  have HNEW := Lib.hid (New_no (w := w0) x0 x1 h0)
  have hd : x0 < 1 ∨ (1 ≤ x0 ∧ 16 < x0) ∨ (1 ≤ x0 ∧ x0 ≤ 16 ∧ x1 < 1) ∨ (1 ≤ x0 ∧ x0 ≤ 16 ∧ 1 ≤ x1 ∧ 20000 < x1) := by
    unfold NetOk at h0
    omega
  clear hw0 hR hb0 h0
  go_enter Try.func14, Try.ntmps14
  go_upto_region 1 with fail
  rw [← HW.out]
  go_upto_region 2 with (go_at_call 15; refine HNEW.out.mono ?_; rintro _ _ ⟨rfl, rfl⟩)
  rcases hd with h1 | ⟨h1, h2⟩ | ⟨h1, h2, h3⟩ | ⟨h1, h2, h3, h4⟩
  · go_wp2
    go_ret
    exact ⟨rfl, HB0.out⟩
  · have g1 : ¬ x0 < 1 := by omega
    go_wp2
    go_ret
    exact ⟨rfl, HB0.out⟩
  · have g1 : ¬ x0 < 1 := by omega
    have g2 : ¬ 16 < x0 := by omega
    go_wp2
    go_ret
    exact ⟨rfl, HB0.out⟩
  · have g1 : ¬ x0 < 1 := by omega
    have g2 : ¬ 16 < x0 := by omega
    have g3 : ¬ x1 < 1 := by omega
    go_wp2
    go_ret
    exact ⟨rfl, HB0.out⟩

set_option maxRecDepth 100000 in
set_option maxHeartbeats 6400000 in
theorem Rl_yes {w : World} {c : ECfg} (hc : c.Ok) (A : Option Addr) (n cap : Nat) (hcap : n ≤ cap) (hcm : cap * 80 ≤ 140737488351232) (HO : Hid (EOps w w.heap.size 140737488351232 17592186043904 A n)) :
    Calls Try.prog 14 #[.agg #[.int .i64 (c.n : Int), .int .i64 (c.room : Int), .slice A n cap]] w (TrueOk w) := by
  have hb0 := one_box' w (.cells #[.int .i64 (c.n : Int), .int .i64 (c.room : Int), .slice A n cap] 24)
  have hR := Blk.new w 24 #[.int .i64 (c.n : Int), .int .i64 (c.room : Int), .slice A n cap]
  obtain ⟨w0, hw0⟩ : ∃ w0, w0 = w.alloc (.cells #[.int .i64 (c.n : Int), .int .i64 (c.room : Int), .slice A n cap] 24) := ⟨_, rfl⟩
  rw [← hw0] at hb0 hR
  have HW := Lib.hid hw0
  have hs0 := hb0.size
  have HOP : Hid (EOps w0 w.heap.size 140737488351232 17592186043904 A n) := HO.out.below hb0
  have HR := Lib.hid hR
  have HB0 := Lib.hid hb0
  have HC := Lib.hid hc
  have HNEW := Lib.hid (New_yes (w := w0) hc)
  have HRF := Lib.hid (rest_first hc)
  have r0 : w0.cell? ⟨w.heap.size, 0, none⟩ = some (.int .i64 (c.n : Int)) := hR.cell 0
  have r1 : w0.cell? ⟨w.heap.size, 1, none⟩ = some (.int .i64 (c.room : Int)) := hR.cell 1
  have g1 : ¬ (c.n : Int) < 1 := by have := hc.1; omega
  have g2 : ¬ (16 : Int) < (c.n : Int) := by have := hc.2.1; omega
  have g3 : ¬ (c.room : Int) < 1 := by have := hc.2.2.1; omega
  have g4 : ¬ (20000 : Int) < (c.room : Int) := by have := hc.2.2.2; omega
  clear hw0 hR hb0 hc
  go_enter Try.func14, Try.ntmps14
  go_upto_region 1 with fail
  rw [← HW.out]
  go_upto_region 2 with (go_at_call 15; refine HNEW.out.mono ?_; rintro _ w1 ⟨D, F1, rfl, hp, hF, hb1⟩; have HP1 := Lib.hid (And.intro hp (And.intro hF hb1)); clear hp hF hb1)
  have hR1 := HR.out.over HP1.out.2.2
  clear r0 r1
  have r0 : w1.cell? ⟨w.heap.size, 0, none⟩ = some (.int .i64 (c.n : Int)) := hR1.cell 0
  have r1 : w1.cell? ⟨w.heap.size, 1, none⟩ = some (.int .i64 (c.room : Int)) := hR1.cell 1
  have HX1 : Hid (LiveX w1 w0.heap.size c D 0 PV.new) := Lib.hid (LiveX.new HC.out HP1.out.1 HP1.out.2.1 HP1.out.2.2)
  have hrs := XRest HX1.out (by omega) 0
  rw [HRF.out.1, HRF.out.2.1, HRF.out.2.2.1] at hrs
  have HRS := Lib.hid hrs
  clear hrs hR1
  go_upto_region 7 with (go_at_call 17; refine HRS.out.mono ?_; rintro _ w2 ⟨rfl, hn⟩; have HX2 := Lib.hid hn; clear hn)
  clear r0 r1 g1 g2 g3 g4
  have hup := XUp HX2.out.1 0
  have hin := XInc HX2.out.1 0
  rw [HRF.out.2.2.2.1] at hup
  rw [HRF.out.2.2.2.2] at hin
  have HUP := Lib.hid hup
  have HIN := Lib.hid hin
  clear hup hin
  have HST : Hid (∃ p F, p.last + 1 = 1 ∧ LiveP w2 w0.heap.size c D (0 + 1) p F) := by
    obtain ⟨⟨_, F, h⟩, _⟩ := HX2.out
    exact Lib.hid ⟨_, F, rfl, h⟩
  have HSB : Hid (Below w0.heap.size w0 w2) := Lib.hid (HP1.out.2.2.trans HX2.out.2)
  go_upto_region 9 with (first
    | (go_at_call 18; refine HUP.out.mono ?_; rintro _ _ ⟨rfl, rfl⟩)
    | (go_at_call 32; refine HIN.out.mono ?_; rintro _ _ ⟨rfl, rfl⟩))
  go_wp2_with fail
  go_loopw [6, 7] (fun nx i wr => ∃ (k z : Nat), k ≤ n ∧ i = .int .i64 (k : Int) ∧ nx = .int .i64 (z : Int) ∧ Hid (∃ p F, p.last + 1 = z ∧ LiveP wr w0.heap.size c D (k + 1) p F) ∧ Hid (Below w0.heap.size w0 wr)) (fun _ i _ => n - (intOf i).toNat)
  case atStart => exact ⟨0, 1, by omega, rfl, rfl, HST, HSB⟩
  case round =>
    clear HST HSB
    obtain ⟨k, z, hk, rfl, rfl, HT, HB⟩ := hrel
    have r2 : wr.cell? ⟨w.heap.size, 2, none⟩ = some (.slice A n cap) := (HR.out.over HB.out).cell 2
    have hsr := HB.out.size
    by_cases hlt : k < n
    · have hI : (k : Int) < (n : Int) := by omega
      obtain ⟨b, off, rfl, hbl, hops⟩ := (HOP.out.below (HB.out.mono hs0)) (by omega)
      obtain ⟨kd, q, qq, nn, BA, bc, bs, SA, sc, sides, hop⟩ := hops k hlt
      have o0 := hop.c0
      have o1 := hop.c1
      have o2 := hop.c2
      have o3 := hop.c3
      have o4 := hop.c4
      have o5 := hop.c5
      obtain ⟨p, F, hz, hL⟩ := HT.out
      have hbo := one_box' wr (.cells #[.int .i64 kd, .int .i64 q, .int .i64 qq, .int .i64 nn, .slice BA bs.length bc, .slice SA sides.length sc] 33)
      have hEo := Blk.new wr 33 #[.int .i64 kd, .int .i64 q, .int .i64 qq, .int .i64 nn, .slice BA bs.length bc, .slice SA sides.length sc]
      obtain ⟨w3, hw3⟩ : ∃ w3, w3 = wr.alloc (.cells #[.int .i64 kd, .int .i64 q, .int .i64 qq, .int .i64 nn, .slice BA bs.length bc, .slice SA sides.length sc] 33) := ⟨_, rfl⟩
      rw [← hw3] at hbo hEo
      have HW3 := Lib.hid hw3
      have HE3 := Lib.hid hEo
      have HL3 := Lib.hid (hL.below hbo)
      have HNO : Hid (¬ F wr.heap.size) := Lib.hid fun hf => Nat.lt_irrefl _ (hL.pn.1 _ hf)
      have hs3 := hbo.size
      have HB3 := Lib.hid (HB.out.trans (hbo.mono hsr))
      have HZ := Lib.hid hz
      have HM : Hid (k + 1 ≤ 4398046511104) := Lib.hid (by omega)
      have HSZ : Hid (w0.heap.size ≤ w3.heap.size) := Lib.hid (by omega)
      have HFL : Hid (∀ j, F j → j < wr.heap.size) := Lib.hid hL.pn.1
      have HREF : Hid (∀ W F', LiveP W w0.heap.size c D (k + 1) p F' → Below w0.heap.size wr W → Calls Try.prog 33 #[.pointer (some ⟨D, 0, none⟩), .agg #[.int .i64 kd, .int .i64 q, .int .i64 qq, .int .i64 nn, .slice BA bs.length bc, .slice SA sides.length sc]] W (RefR W F' w0.heap.size c D (k + 1) p kd)) := Lib.hid fun W F' hW hbW =>
        refused_any HC.out hW (Nat.le_trans hsr hbW.size) HM.out kd q qq nn BA SA bc sc bs sides hop.nb.2 ((hop.rb.more hs0).below hbW) hop.mb ((hop.rs.more hs0).below hbW) hop.ms
      have x0 : w3.cell? ⟨wr.heap.size, 0, none⟩ = some (.int .i64 kd) := hEo.cell 0
      have x3 : w3.cell? ⟨wr.heap.size, 3, none⟩ = some (.int .i64 nn) := hEo.cell 3
      have HBW : Hid (Below w0.heap.size wr w3) := Lib.hid (hbo.mono hsr)
      have hnb := hop.nb
      clear hw3 hbo hEo hL hz hop hops HT
      go_upto_region 14 with fail
      rw [← HW3.out]
      clear o0 o1 o2 o3 o4 o5 r2
      by_cases hev : nn.tmod 2 = 0
      · have hev1 : (nn.tmod 2 == 0) = true := by simpa using hev
        have hev2 : (IntKind.i64.wrap (nn.tmod 2) == 0) = true := by rw [hev]; decide
        clear hev
        have HF1 := Lib.hid (LFlights HC.out HL3.out HM.out)
        have hwl3 := HL3.out.inv.ways
        go_upto_region 16 with (go_at_call 23; refine HF1.out.mono ?_; rintro _ w4 ⟨A4, cap4, rfl, hfl, hb4⟩; have HB4 := Lib.hid hb4; clear hfl hb4)
        clear hev1 hev2 x0 x3
        have hE4 := HE3.out.over HB4.out
        have x0 : w4.cell? ⟨wr.heap.size, 0, none⟩ = some (.int .i64 kd) := hE4.cell 0
        have x1 : w4.cell? ⟨wr.heap.size, 1, none⟩ = some (.int .i64 q) := hE4.cell 1
        have x2 : w4.cell? ⟨wr.heap.size, 2, none⟩ = some (.int .i64 qq) := hE4.cell 2
        have x3 : w4.cell? ⟨wr.heap.size, 3, none⟩ = some (.int .i64 nn) := hE4.cell 3
        have x4 : w4.cell? ⟨wr.heap.size, 4, none⟩ = some (.slice BA bs.length bc) := hE4.cell 4
        have x5 : w4.cell? ⟨wr.heap.size, 5, none⟩ = some (.slice SA sides.length sc) := hE4.cell 5
        have HBW4 := Lib.hid (HBW.out.trans (HB4.out.mono HSZ.out))
        have HRE := Lib.hid (HREF.out w4 F (HL3.out.below HB4.out) HBW4.out)
        clear hE4
        go_upto_region 17 with (go_at_call 33; refine HRE.out.mono ?_; rintro _ w5 ⟨bad, p', rfl, hrs, hlc⟩; have HRS := Lib.hid hrs; have HLC := Lib.hid hlc; clear hrs hlc)
        obtain ⟨G, hlg, hg1, hg2⟩ := HLC.out
        have HLG := Lib.hid hlg
        have HBG : Hid (Below w0.heap.size w0 w5) := Lib.hid ((HB.out.trans HBW4.out).trans (hg2.to_below (Nat.le_trans HSZ.out HB4.out.size) (fun i hi => HL3.out.ab i hi)))
        have hE5 := (HE3.out.over HB4.out).chg hg2 HNO.out
        clear x0 x1 x2 x3 x4 x5
        have x0 : w5.cell? ⟨wr.heap.size, 0, none⟩ = some (.int .i64 kd) := hE5.cell 0
        clear hlg hg1 hg2 hE5 HLC
        go_upto_region 19 with fail
        cases bad with
        | true =>
          have HNX : Hid (∃ p F, p.last + 1 = z ∧ LiveP w5 w0.heap.size c D (k + 1 + 1) p F) := Lib.hid ⟨p', G, by rw [HRS.out.no rfl]; exact HZ.out, HLG.out⟩
          clear x0
          go_wp2_with fail
          go_roundw
          case rel => first | exact ⟨k + 1, z, by omega, by go_num, by go_num, HNX, HBG⟩ | ((repeat apply Exists.intro); exact ⟨⟨k + 1, z, by omega, by go_num, by go_num, HNX, HBG⟩, rfl⟩)
          case measure => simp [intOf] <;> omega
        | false =>
          rcases (by omega : kd = 10 ∨ kd = 37 ∨ kd = 33 ∨ (kd ≠ 10 ∧ kd ≠ 37 ∧ kd ≠ 33)) with rfl | rfl | rfl | hno
          · obtain ⟨hla, f, hway, hfid⟩ := HRS.out.new rfl (.inl rfl)
            have HFL2 := Lib.hid (LFlights HC.out HLG.out (by have := HM.out; omega))
            have hwl := HLG.out.inv.ways
            have hwl2 : p'.way.length = p.way.length + 1 := by rw [hway]; simp
            have HW2 := Lib.hid (And.intro hway (And.intro hfid (And.intro hla hwl2)))
            rw [hwl2] at HFL2
            clear hla hway hfid
            go_upto_region 21 with (go_at_call 23; refine HFL2.out.mono ?_; rintro _ w7 ⟨A7, cap7, rfl, hfl, hb7⟩; have HF7 := Lib.hid hfl; have HB7 := Lib.hid hb7; clear hfl hb7)
            obtain ⟨g, bA, bcc, hA7, _, c0, _⟩ := HF7.out.at_ p.way.length f (by rw [HW2.out.1]; simp)
            subst hA7
            rw [show f.id = z by rw [HW2.out.2.1]; exact HZ.out] at c0
            have e1 : (((p.way.length : Int) + 1) != ((p.way.length : Int) + 1)) = false := by simp
            have e2 : ((z : Int) != (z : Int)) = false := by simp
            have hiw : IntKind.i64.wrap ((p.way.length : Int) + 1) = (p.way.length : Int) + 1 := IntWalk.i64_in _ (by have := HM.out; omega)
            have hiw2 : IntKind.i64.wrap (((p.way.length + 1 : Nat) : Int) - 1) = (p.way.length : Int) := by rw [show (((p.way.length + 1 : Nat) : Int) - 1) = (p.way.length : Int) by omega]; exact IntWalk.i64_in _ (by have := HM.out; omega)
            have hzb : z ≤ 4398046511106 := by have := HM.out; have h1 := HZ.out; have h2 := HL3.out.inv.lasts; omega
            have HNX : Hid (∃ p F, p.last + 1 = z + 1 ∧ LiveP w7 w0.heap.size c D (k + 1 + 1) p F) := Lib.hid ⟨p', G, by rw [HW2.out.2.2.1, HZ.out], HLG.out.below HB7.out⟩
            have HNB : Hid (Below w0.heap.size w0 w7) := Lib.hid (HBG.out.trans (HB7.out.mono HBG.out.size))
            go_upto_region 23 with fail
            clear c0 e1 e2 hiw hiw2
            clear x0
            go_wp2_with fail
            go_roundw
            case rel => first | exact ⟨k + 1, z + 1, by omega, by go_num, by go_num, HNX, HNB⟩ | ((repeat apply Exists.intro); exact ⟨⟨k + 1, z + 1, by omega, by go_num, by go_num, HNX, HNB⟩, rfl⟩)
            case measure => simp [intOf] <;> omega
          · obtain ⟨hla, f, hway, hfid⟩ := HRS.out.new rfl (.inr (.inl rfl))
            have HFL2 := Lib.hid (LFlights HC.out HLG.out (by have := HM.out; omega))
            have hwl := HLG.out.inv.ways
            have hwl2 : p'.way.length = p.way.length + 1 := by rw [hway]; simp
            have HW2 := Lib.hid (And.intro hway (And.intro hfid (And.intro hla hwl2)))
            rw [hwl2] at HFL2
            clear hla hway hfid
            go_upto_region 21 with (go_at_call 23; refine HFL2.out.mono ?_; rintro _ w7 ⟨A7, cap7, rfl, hfl, hb7⟩; have HF7 := Lib.hid hfl; have HB7 := Lib.hid hb7; clear hfl hb7)
            obtain ⟨g, bA, bcc, hA7, _, c0, _⟩ := HF7.out.at_ p.way.length f (by rw [HW2.out.1]; simp)
            subst hA7
            rw [show f.id = z by rw [HW2.out.2.1]; exact HZ.out] at c0
            have e1 : (((p.way.length : Int) + 1) != ((p.way.length : Int) + 1)) = false := by simp
            have e2 : ((z : Int) != (z : Int)) = false := by simp
            have hiw : IntKind.i64.wrap ((p.way.length : Int) + 1) = (p.way.length : Int) + 1 := IntWalk.i64_in _ (by have := HM.out; omega)
            have hiw2 : IntKind.i64.wrap (((p.way.length + 1 : Nat) : Int) - 1) = (p.way.length : Int) := by rw [show (((p.way.length + 1 : Nat) : Int) - 1) = (p.way.length : Int) by omega]; exact IntWalk.i64_in _ (by have := HM.out; omega)
            have hzb : z ≤ 4398046511106 := by have := HM.out; have h1 := HZ.out; have h2 := HL3.out.inv.lasts; omega
            have HNX : Hid (∃ p F, p.last + 1 = z + 1 ∧ LiveP w7 w0.heap.size c D (k + 1 + 1) p F) := Lib.hid ⟨p', G, by rw [HW2.out.2.2.1, HZ.out], HLG.out.below HB7.out⟩
            have HNB : Hid (Below w0.heap.size w0 w7) := Lib.hid (HBG.out.trans (HB7.out.mono HBG.out.size))
            go_upto_region 23 with fail
            clear c0 e1 e2 hiw hiw2
            clear x0
            go_wp2_with fail
            go_roundw
            case rel => first | exact ⟨k + 1, z + 1, by omega, by go_num, by go_num, HNX, HNB⟩ | ((repeat apply Exists.intro); exact ⟨⟨k + 1, z + 1, by omega, by go_num, by go_num, HNX, HNB⟩, rfl⟩)
            case measure => simp [intOf] <;> omega
          · obtain ⟨hla, f, hway, hfid⟩ := HRS.out.new rfl (.inr (.inr rfl))
            have HFL2 := Lib.hid (LFlights HC.out HLG.out (by have := HM.out; omega))
            have hwl := HLG.out.inv.ways
            have hwl2 : p'.way.length = p.way.length + 1 := by rw [hway]; simp
            have HW2 := Lib.hid (And.intro hway (And.intro hfid (And.intro hla hwl2)))
            rw [hwl2] at HFL2
            clear hla hway hfid
            go_upto_region 21 with (go_at_call 23; refine HFL2.out.mono ?_; rintro _ w7 ⟨A7, cap7, rfl, hfl, hb7⟩; have HF7 := Lib.hid hfl; have HB7 := Lib.hid hb7; clear hfl hb7)
            obtain ⟨g, bA, bcc, hA7, _, c0, _⟩ := HF7.out.at_ p.way.length f (by rw [HW2.out.1]; simp)
            subst hA7
            rw [show f.id = z by rw [HW2.out.2.1]; exact HZ.out] at c0
            have e1 : (((p.way.length : Int) + 1) != ((p.way.length : Int) + 1)) = false := by simp
            have e2 : ((z : Int) != (z : Int)) = false := by simp
            have hiw : IntKind.i64.wrap ((p.way.length : Int) + 1) = (p.way.length : Int) + 1 := IntWalk.i64_in _ (by have := HM.out; omega)
            have hiw2 : IntKind.i64.wrap (((p.way.length + 1 : Nat) : Int) - 1) = (p.way.length : Int) := by rw [show (((p.way.length + 1 : Nat) : Int) - 1) = (p.way.length : Int) by omega]; exact IntWalk.i64_in _ (by have := HM.out; omega)
            have hzb : z ≤ 4398046511106 := by have := HM.out; have h1 := HZ.out; have h2 := HL3.out.inv.lasts; omega
            have HNX : Hid (∃ p F, p.last + 1 = z + 1 ∧ LiveP w7 w0.heap.size c D (k + 1 + 1) p F) := Lib.hid ⟨p', G, by rw [HW2.out.2.2.1, HZ.out], HLG.out.below HB7.out⟩
            have HNB : Hid (Below w0.heap.size w0 w7) := Lib.hid (HBG.out.trans (HB7.out.mono HBG.out.size))
            go_upto_region 23 with fail
            clear c0 e1 e2 hiw hiw2
            clear x0
            go_wp2_with fail
            go_roundw
            case rel => first | exact ⟨k + 1, z + 1, by omega, by go_num, by go_num, HNX, HNB⟩ | ((repeat apply Exists.intro); exact ⟨⟨k + 1, z + 1, by omega, by go_num, by go_num, HNX, HNB⟩, rfl⟩)
            case measure => simp [intOf] <;> omega
          · obtain ⟨n10, n37, n33⟩ := hno
            have d1 : (kd == 10) = false := by simpa using n10
            have d2 : (kd == 37) = false := by simpa using n37
            have d3 : (kd == 33) = false := by simpa using n33
            have HNX : Hid (∃ p F, p.last + 1 = z ∧ LiveP w5 w0.heap.size c D (k + 1 + 1) p F) := Lib.hid ⟨p', G, by rw [HRS.out.old rfl (by omega)]; exact HZ.out, HLG.out⟩
            go_upto_region 12 with fail
            clear x0 d1 d2 d3 n10 n37 n33
            go_wp2_with fail
            go_roundw
            case rel => first | exact ⟨k + 1, z, by omega, by go_num, by go_num, HNX, HBG⟩ | ((repeat apply Exists.intro); exact ⟨⟨k + 1, z, by omega, by go_num, by go_num, HNX, HBG⟩, rfl⟩)
            case measure => simp [intOf] <;> omega
      · have hev1 : (nn.tmod 2 == 0) = false := by simpa using hev
        have hev2 : (IntKind.i64.wrap (nn.tmod 2) == 0) = false := by
          have e : IntKind.i64.wrap (nn.tmod 2) = nn.tmod 2 := IntWalk.i64_in _ (by have := Int.tmod_lt_of_pos nn (by decide : (0 : Int) < 2); have h2 := Int.lt_tmod_of_pos nn (by decide : (0 : Int) < 2); omega)
          rw [e]; simpa using hev
        clear hev
        have HLK := Lib.hid (look_any HC.out ⟨HSZ.out, F, HL3.out⟩ HM.out)
        go_upto_region 25 with (go_at_call 34; refine HLK.out.mono ?_; rintro _ w4 ⟨v, rfl, hfl, hb4⟩; obtain ⟨A4, cap4, rfl, _⟩ := hfl.at_; have HF4 := Lib.hid hfl; have HB4 := Lib.hid hb4; clear hfl hb4; obtain ⟨w5, hst, hS5, hb5⟩ := sight_store w4 c p (v := .slice A4 p.way.length cap4) rfl; have HS5 := Lib.hid hS5; have HB5 := Lib.hid hb5; clear hS5 hb5)
        clear hst hev1 hev2 x0 x3
        obtain ⟨v, hv⟩ : ∃ v, v = Value.slice A4 p.way.length cap4 := ⟨_, rfl⟩
        rw [← hv] at HF4 HS5 ⊢
        clear hv
        obtain ⟨S, hS⟩ : ∃ S, S = w4.heap.size := ⟨_, rfl⟩
        rw [← hS] at HS5 ⊢
        have HSS : Hid (w3.heap.size ≤ S) := Lib.hid (by rw [hS]; exact HB4.out.size)
        clear hS
        have HBW5 := Lib.hid ((HB4.out.trans (HB5.out.mono HB4.out.size)))
        have hE5 := HE3.out.over HBW5.out
        have x0 : w5.cell? ⟨wr.heap.size, 0, none⟩ = some (.int .i64 kd) := hE5.cell 0
        have x1 : w5.cell? ⟨wr.heap.size, 1, none⟩ = some (.int .i64 q) := hE5.cell 1
        have x2 : w5.cell? ⟨wr.heap.size, 2, none⟩ = some (.int .i64 qq) := hE5.cell 2
        have x3 : w5.cell? ⟨wr.heap.size, 3, none⟩ = some (.int .i64 nn) := hE5.cell 3
        have x4 : w5.cell? ⟨wr.heap.size, 4, none⟩ = some (.slice BA bs.length bc) := hE5.cell 4
        have x5 : w5.cell? ⟨wr.heap.size, 5, none⟩ = some (.slice SA sides.length sc) := hE5.cell 5
        have HRE := Lib.hid (HREF.out w5 F (HL3.out.below HBW5.out) (HBW.out.trans (HBW5.out.mono HSZ.out)))
        clear hE5
        go_upto_region 26 with (go_at_call 33; refine HRE.out.mono ?_; rintro _ w6 ⟨bad, p', rfl, hrs, hlc⟩; have HRS := Lib.hid hrs; have HLC := Lib.hid hlc; clear hrs hlc)
        obtain ⟨G, hlg, hg1, hg2⟩ := HLC.out
        have hnf : ∀ i, wr.heap.size ≤ i → ¬ F i := fun i hi hf => by have := HFL.out i hf; omega
        have HS6 := Lib.hid (HS5.out.chg hg2 (hnf S (by have := HSS.out; omega)))
        have HF6 : Hid (FlNew w6 w3.heap.size v p.way) := Lib.hid ((HF4.out.over HB5.out).chg hg2 fun i hi _ => hnf i (by omega))
        have HLG6 := Lib.hid hlg
        have HBG6 : Hid (Below w0.heap.size w0 w6) := Lib.hid ((HB3.out.trans (HBW5.out.mono HSZ.out)).trans (hg2.to_below (Nat.le_trans HSZ.out HBW5.out.size) (fun i hi => HL3.out.ab i hi)))
        have HE6 := Lib.hid ((HE3.out.over HBW5.out).chg hg2 HNO.out)
        clear x0 x1 x2 x3 x4 x5 hlg hg1 hg2 HLC hnf
        cases bad with
        | true =>
          have hpp : p' = p := HRS.out.no rfl
          subst hpp
          obtain ⟨wd, hwd⟩ : ∃ wd, wd = w6.drew := ⟨_, rfl⟩
          have HWD := Lib.hid hwd
          have hbd : Below w6.heap.size w6 wd := by rw [hwd]; exact below_drewN (Below.refl _ _) 1
          have hSd : Blk w6.drew S 75 (sight c p' v) := HS6.out
          have HLK2 := Lib.hid (look_any HC.out ⟨Nat.le_trans HBG6.out.size hbd.size, G, HLG6.out.below hbd⟩ (by have := HM.out; omega))
          have HFd := Lib.hid (HF6.out.over hbd)
          have HBD := Lib.hid hbd
          have hwl := HLG6.out.inv.room
          have hrm := HC.out.2.2.2
          have HWL : Hid (p'.way.length ≤ 1099511627776) := Lib.hid (by omega)
          clear hwd hbd hwl hrm
          refine wp_region_held_drew (S := fun w' => Blk w' S 75 (sight c p' v)) (by kernel_rfl) hSd (fun hHeld => ?_)
          rw [← HWD.out] at hHeld ⊢
          refine wpAnyH_take (i := 0) (oi := ?oi0a) (v := ?v0a) ?hi0a (by kernel_rfl) (by kernel_rfl) (by kernel_rfl) ?hq0a ?hy0a (by assumption) ?rest0a
          case hi0a => (simp only [List.getElem?_toArray, List.getElem?_cons_zero]; rfl)
          case hy0a => (refine Or.inl ⟨by rfl, ?_⟩; intro w hSw; (try dsimp only at hSw); go_simp; try with_reducible rfl)
          case hq0a => exact fun _ _ _ h => h
          try simp only [Act.put, List.setIfInBounds_toArray, List.set_cons_zero, List.set_cons_succ]
          refine wpAnyH_take (i := 1) (oi := ?oi1a) (v := ?v1a) ?hi1a (by kernel_rfl) (by kernel_rfl) (by kernel_rfl) ?hq1a ?hy1a (by assumption) ?rest1a
          case hi1a => (simp only [List.getElem?_toArray, List.getElem?_cons_zero, List.getElem?_cons_succ]; rfl)
          case hy1a => (refine Or.inl ⟨by rfl, ?_⟩; intro w hSw; (try dsimp only at hSw); go_simp; try with_reducible rfl)
          case hq1a => exact fun _ _ _ h => h
          try simp only [Act.put, List.setIfInBounds_toArray, List.set_cons_zero, List.set_cons_succ]
          refine wpAnyH_take (i := 2) (oi := ?oi2a) (v := ?v2a) ?hi2a (by kernel_rfl) (by kernel_rfl) (by kernel_rfl) ?hq2a ?hy2a (by assumption) ?rest2a
          case hi2a => (simp only [List.getElem?_toArray, List.getElem?_cons_zero, List.getElem?_cons_succ]; rfl)
          case hy2a => (refine Or.inl ⟨by rfl, ?_⟩; intro w hSw; (try dsimp only at hSw); go_simp; try with_reducible rfl)
          case hq2a => exact fun _ _ _ h => h
          try simp only [Act.put, List.setIfInBounds_toArray, List.set_cons_zero, List.set_cons_succ]
          refine wpAnyH_take (i := 3) (oi := ?oi3a) (v := ?v3a) ?hi3a (by kernel_rfl) (by kernel_rfl) (by kernel_rfl) ?hq3a ?hy3a (by assumption) ?rest3a
          case hi3a => (simp only [List.getElem?_toArray, List.getElem?_cons_zero, List.getElem?_cons_succ]; rfl)
          case hy3a => (refine Or.inl ⟨by rfl, ?_⟩; intro w hSw; (try dsimp only at hSw); go_simp; try with_reducible rfl)
          case hq3a => exact fun _ _ _ h => h
          try simp only [Act.put, List.setIfInBounds_toArray, List.set_cons_zero, List.set_cons_succ]
          refine wpAnyH_take (i := 4) (oi := ?oi4a) (v := ?v4a) ?hi4a (by kernel_rfl) (by kernel_rfl) (by kernel_rfl) ?hq4a ?hy4a (by assumption) ?rest4a
          case hi4a => (simp only [List.getElem?_toArray, List.getElem?_cons_zero, List.getElem?_cons_succ]; rfl)
          case hy4a => (refine Or.inl ⟨by rfl, ?_⟩; intro w hSw; (try dsimp only at hSw); go_simp; try with_reducible rfl)
          case hq4a => exact fun _ _ _ h => h
          try simp only [Act.put, List.setIfInBounds_toArray, List.set_cons_zero, List.set_cons_succ]
          refine wpAnyH_take (i := 5) (oi := ?oi5z) (v := .agg (sight c p' v)) ?hi5z (by kernel_rfl) (by kernel_rfl) (by kernel_rfl) ?hq5z ?hy5z (by assumption) ?rest5z
          case hi5z => (simp only [List.getElem?_toArray, List.getElem?_cons_zero, List.getElem?_cons_succ]; rfl)
          case hy5z =>
            exact .inl ⟨by rfl, fun W hW => sight_exec rfl rfl hW⟩
          case hq5z => exact fun _ _ _ h => h
          try simp only [Act.put, List.setIfInBounds_toArray, List.set_cons_zero, List.set_cons_succ]
          refine wpAnyH_take (i := 6) (oi := ?oi6a) (v := ?v6a) ?hi6a (by kernel_rfl) (by kernel_rfl) (by kernel_rfl) ?hq6a ?hy6a (by assumption) ?rest6a
          case hi6a => (simp only [List.getElem?_toArray, List.getElem?_cons_zero, List.getElem?_cons_succ]; rfl)
          case hy6a => (refine Or.inl ⟨by rfl, ?_⟩; intro w hSw; (try dsimp only at hSw); go_simp; try with_reducible rfl)
          case hq6a => exact fun _ _ _ h => h
          try simp only [Act.put, List.setIfInBounds_toArray, List.set_cons_zero, List.set_cons_succ]
          refine wpAnyH_ready (rs := [7]) (by kernel_rfl) (by simp) ?_
          refine AllReadyH.cons (o := ?o7p0) ?ho7p0 (fun K hK => ?st7p0) ?mo7p0
          case ho7p0 => (simp only [List.getElem?_toArray, List.getElem?_cons_zero, List.getElem?_cons_succ]; rfl)
          · skip
            go_simp
            refine HLK2.out.mono ?_
            rintro _ w7 ⟨v2, rfl, hfl2, hb7⟩
            have HIS := Lib.hid (is_any (c := c) (HFd.out.over hb7) hfl2 HWL.out)
            have HB7 := Lib.hid hb7
            have hS7 := (show Blk wd S 75 (sight c p' v) from hHeld).over hb7
            clear hfl2 hb7
            go_simp
            refine hK.out _ _ hS7 (fun hHeld1 => ?_)
            clear hK K
            try simp only [Act.put, List.setIfInBounds_toArray, List.set_cons_zero, List.set_cons_succ]
            refine wpAnyH_ready (rs := [8]) (by kernel_rfl) (by simp) ?_
            refine AllReadyH.cons (o := ?o8p1) ?ho8p1 (fun K hK => ?st8p1) ?mo8p1
            case ho8p1 => (simp only [List.getElem?_toArray, List.getElem?_cons_zero, List.getElem?_cons_succ]; rfl)
            · skip
              go_simp
              refine HIS.out.mono ?_
              rintro _ w8 ⟨rfl, hb8⟩
              have HLG : Hid (LiveP w8 w0.heap.size c D (k + 1 + 1) p' G) := Lib.hid (((HLG6.out.below HBD.out).below HB7.out).below hb8)
              have HBG : Hid (Below w0.heap.size w0 w8) := Lib.hid (HBG6.out.trans (((HBD.out.trans (HB7.out.mono HBD.out.size)).trans (hb8.mono (Nat.le_trans HBD.out.size HB7.out.size))).mono HBG6.out.size))
              have hE8 := ((HE6.out.over HBD.out).over HB7.out).over hb8
              have hS8 := hS7.over hb8
              clear hb8
              go_simp
              refine hK.out _ _ hS8 (fun hHeld2 => ?_)
              clear hK K
              try simp only [Act.put, List.setIfInBounds_toArray, List.set_cons_zero, List.set_cons_succ]
              refine wpAnyH_take (i := 9) (oi := ?oi9b) (v := ?v9b) ?hi9b (by kernel_rfl) (by kernel_rfl) (by kernel_rfl) ?hq9b ?hy9b (by assumption) ?rest9b
              case hi9b => (simp only [List.getElem?_toArray, List.getElem?_cons_zero, List.getElem?_cons_succ]; rfl)
              case hy9b => (refine Or.inl ⟨by rfl, ?_⟩; intro w hSw; (try dsimp only at hSw); go_simp; try with_reducible rfl)
              case hq9b => exact fun _ _ _ h => h
              try simp only [Act.put, List.setIfInBounds_toArray, List.set_cons_zero, List.set_cons_succ]
              refine wpAnyH_take (i := 10) (oi := ?oi10b) (v := ?v10b) ?hi10b (by kernel_rfl) (by kernel_rfl) (by kernel_rfl) ?hq10b ?hy10b (by assumption) ?rest10b
              case hi10b => (simp only [List.getElem?_toArray, List.getElem?_cons_zero, List.getElem?_cons_succ]; rfl)
              case hy10b => (refine Or.inl ⟨by rfl, ?_⟩; intro w hSw; (try dsimp only at hSw); go_simp; try with_reducible rfl)
              case hq10b => exact fun _ _ _ h => h
              try simp only [Act.put, List.setIfInBounds_toArray, List.set_cons_zero, List.set_cons_succ]
              refine wpAnyH_take (i := 11) (oi := ?oi11b) (v := ?v11b) ?hi11b (by kernel_rfl) (by kernel_rfl) (by kernel_rfl) ?hq11b ?hy11b (by assumption) ?rest11b
              case hi11b => (simp only [List.getElem?_toArray, List.getElem?_cons_zero, List.getElem?_cons_succ]; rfl)
              case hy11b => (refine Or.inl ⟨by rfl, ?_⟩; intro w hSw; (try dsimp only at hSw); go_simp; try with_reducible rfl)
              case hq11b => exact fun _ _ _ h => h
              try simp only [Act.put, List.setIfInBounds_toArray, List.set_cons_zero, List.set_cons_succ]
              refine wpAnyH_done (by kernel_rfl) ?_ _
              have x0 : w8.cell? ⟨wr.heap.size, 0, none⟩ = some (.int .i64 kd) := hE8.cell 0
              clear hE8 hS8 hS7 hHeld hHeld1 hHeld2 hSd
              go_upto_region 28 with fail
              have HNX : Hid (∃ p F, p.last + 1 = z ∧ LiveP w8 w0.heap.size c D (k + 1 + 1) p F) := Lib.hid ⟨p', G, HZ.out, HLG.out⟩
              clear x0
              go_wp2_with fail
              go_roundw
              case rel => first | exact ⟨k + 1, z, by omega, by go_num, by go_num, HNX, HBG⟩ | ((repeat apply Exists.intro); exact ⟨⟨k + 1, z, by omega, by go_num, by go_num, HNX, HBG⟩, rfl⟩)
              case measure => simp [intOf] <;> omega
            · exact AllReadyH.nil
          · exact AllReadyH.nil
        | false =>
          go_upto_region 26 with fail
          go_quiet (fail)
          obtain ⟨w8, hw8⟩ : ∃ w8, w8 = w6.drewN nq := ⟨_, rfl⟩
          have hb8 : Below w6.heap.size w6 w8 := by rw [hw8]; exact below_drewN (Below.refl _ _) nq
          have HLG : Hid (LiveP w8 w0.heap.size c D (k + 1 + 1) p' G) := Lib.hid (HLG6.out.below hb8)
          have HBG : Hid (Below w0.heap.size w0 w8) := Lib.hid (HBG6.out.trans (hb8.mono HBG6.out.size))
          have x0 : w8.cell? ⟨wr.heap.size, 0, none⟩ = some (.int .i64 kd) := (HE6.out.over hb8).cell 0
          rw [← hw8]
          clear hw8 hb8
          go_upto_region 28 with fail
          rcases (by omega : kd = 10 ∨ kd = 37 ∨ kd = 33 ∨ (kd ≠ 10 ∧ kd ≠ 37 ∧ kd ≠ 33)) with rfl | rfl | rfl | hno
          · have hzb : z ≤ 4398046511106 := by have := HM.out; have h1 := HZ.out; have h2 := HL3.out.inv.lasts; omega
            have HNX : Hid (∃ p F, p.last + 1 = z + 1 ∧ LiveP w8 w0.heap.size c D (k + 1 + 1) p F) := Lib.hid ⟨p', G, by rw [(HRS.out.new rfl (.inl rfl)).1, HZ.out], HLG.out⟩
            go_upto_region 29 with fail
            clear x0
            go_wp2_with fail
            go_roundw
            case rel => first | exact ⟨k + 1, z + 1, by omega, by go_num, by go_num, HNX, HBG⟩ | ((repeat apply Exists.intro); exact ⟨⟨k + 1, z + 1, by omega, by go_num, by go_num, HNX, HBG⟩, rfl⟩)
            case measure => simp [intOf] <;> omega
          · have hzb : z ≤ 4398046511106 := by have := HM.out; have h1 := HZ.out; have h2 := HL3.out.inv.lasts; omega
            have HNX : Hid (∃ p F, p.last + 1 = z + 1 ∧ LiveP w8 w0.heap.size c D (k + 1 + 1) p F) := Lib.hid ⟨p', G, by rw [(HRS.out.new rfl (.inr (.inl rfl))).1, HZ.out], HLG.out⟩
            go_upto_region 29 with fail
            clear x0
            go_wp2_with fail
            go_roundw
            case rel => first | exact ⟨k + 1, z + 1, by omega, by go_num, by go_num, HNX, HBG⟩ | ((repeat apply Exists.intro); exact ⟨⟨k + 1, z + 1, by omega, by go_num, by go_num, HNX, HBG⟩, rfl⟩)
            case measure => simp [intOf] <;> omega
          · have hzb : z ≤ 4398046511106 := by have := HM.out; have h1 := HZ.out; have h2 := HL3.out.inv.lasts; omega
            have HNX : Hid (∃ p F, p.last + 1 = z + 1 ∧ LiveP w8 w0.heap.size c D (k + 1 + 1) p F) := Lib.hid ⟨p', G, by rw [(HRS.out.new rfl (.inr (.inr rfl))).1, HZ.out], HLG.out⟩
            go_upto_region 29 with fail
            clear x0
            go_wp2_with fail
            go_roundw
            case rel => first | exact ⟨k + 1, z + 1, by omega, by go_num, by go_num, HNX, HBG⟩ | ((repeat apply Exists.intro); exact ⟨⟨k + 1, z + 1, by omega, by go_num, by go_num, HNX, HBG⟩, rfl⟩)
            case measure => simp [intOf] <;> omega
          · obtain ⟨n10, n37, n33⟩ := hno
            have d1 : (kd == 10) = false := by simpa using n10
            have d2 : (kd == 37) = false := by simpa using n37
            have d3 : (kd == 33) = false := by simpa using n33
            have HNX : Hid (∃ p F, p.last + 1 = z ∧ LiveP w8 w0.heap.size c D (k + 1 + 1) p F) := Lib.hid ⟨p', G, by rw [HRS.out.old rfl (by omega)]; exact HZ.out, HLG.out⟩
            go_upto_region 12 with fail
            clear x0 d1 d2 d3 n10 n37 n33
            go_wp2_with fail
            go_roundw
            case rel => first | exact ⟨k + 1, z, by omega, by go_num, by go_num, HNX, HBG⟩ | ((repeat apply Exists.intro); exact ⟨⟨k + 1, z, by omega, by go_num, by go_num, HNX, HBG⟩, rfl⟩)
            case measure => simp [intOf] <;> omega
    · go_wp2
      go_ret
      exact ⟨rfl, HB0.out.trans (HB.out.mono hs0)⟩

theorem EtherRefusals_walk {H : Type} {enc : TypeId × Value → H} (x0 x1 : Int) (A2 : Option Addr) (n2 k2 : Nat) (x2 : List (List Value)) (w : World) (_b0 : -9223372036854775808 ≤ x0) (_t0 : x0 ≤ 9223372036854775807) (_b1 : -9223372036854775808 ≤ x1) (_t1 : x1 ≤ 9223372036854775807) (p2 : n2 ≤ k2) (q2 : k2 * 80 ≤ 140737488351232) (l2 : x2.length = n2) (r2 : Rd w w.heap.size 6 A2 n2 x2.flatten) (s2 : ∀ y ∈ x2, y.length = 6 ∧ ∃ d, Fit enc Try.prog w 33 y d) :
    Calls Try.prog 14 #[.agg #[.int .i64 x0, .int .i64 x1, .slice A2 n2 k2]] w (TrueOk w) := by
  by_cases hok : NetOk x0 x1
  · obtain ⟨c, hc, rfl, rfl⟩ := hok.cfg
    exact Rl_yes hc A2 n2 k2 p2 q2 (Lib.hid (eops_open l2 r2 s2))
  · exact Rl_none x0 x1 hok A2 n2 k2
end Go.Proofs.Ytgfhmfhhobhojaa
