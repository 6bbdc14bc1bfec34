/-
  frag.read: a chunk taken apart.
-/
import Derived.Test.YtgapkphkcncgeaaDoorJPutR
import Derived.Test.YtgapkphkcncgeaaDoorJBlob
import Derived.Outline
import Derived.RegionTactic
import Derived.ChangeAlike
import Derived.StillTailTactics
namespace Go.Proofs.YtgapkphkcncgeaaDoor
open Go.RowKit

theorem or_i64 (a b : Nat) (ha : a < 9223372036854775808) (hb : b < 9223372036854775808) : bits .or .i64 (a : Int) (b : Int) = ((a ||| b : Nat) : Int) := by
  have hx : a ||| b < 2 ^ 63 := Nat.or_lt_two_pow ha hb
  show IntKind.i64.wrap ((BitVec.ofInt 64 (a : Int) ||| BitVec.ofInt 64 (b : Int)).toNat : Int) = _
  rw [BitVec.toNat_or, BitVec.ofInt_natCast, BitVec.ofInt_natCast, BitVec.toNat_ofNat, BitVec.toNat_ofNat, Nat.mod_eq_of_lt (by omega), Nat.mod_eq_of_lt (by omega), IntKind.wrap_i64]
  omega
theorem or_small (a b : Nat) (ha : a < 4294967296) (hb : b < 4294967296) : bits .or .i64 (a : Int) (b : Int) = ((a ||| b : Nat) : Int) := or_i64 a b (Nat.lt_trans ha (by decide)) (Nat.lt_trans hb (by decide))
theorem or_shift (v c m : Nat) (hv : v < 2 ^ m) : c * 2 ^ m ||| v = c * 2 ^ m + v := by
  rw [← Nat.shiftLeft_eq, ← Nat.shiftLeft_add_eq_or_of_lt hv]
theorem p8 : 2 ^ 8 = 256 := by decide
theorem p16 : 2 ^ 16 = 65536 := by decide
theorem p24 : 2 ^ 24 = 16777216 := by decide
theorem or_n8 (v c : Nat) (hv : v < 256) : c * 256 ||| v = c * 256 + v := by have h := or_shift v c 8 (by rw [p8]; exact hv); rw [p8] at h; exact h
theorem or_n16 (v c : Nat) (hv : v < 65536) : c * 65536 ||| v = c * 65536 + v := by have h := or_shift v c 16 (by rw [p16]; exact hv); rw [p16] at h; exact h
theorem or_n24 (v c : Nat) (hv : v < 16777216) : c * 16777216 ||| v = c * 16777216 + v := by have h := or_shift v c 24 (by rw [p24]; exact hv); rw [p24] at h; exact h
theorem or_256 (a b : Nat) (ha : a < 256) (hb : b < 256) : bits .or .i64 ((a : Int) * 256) (b : Int) = (a : Int) * 256 + (b : Int) := by
  have h := or_small (a * 256) b (by omega) (by omega)
  rw [or_n8 b a hb, Int.natCast_mul, Int.natCast_add, Int.natCast_mul] at h
  exact h
theorem or_four (a b c d : Nat) (ha : a < 256) (hb : b < 256) (hc : c < 256) (hd : d < 256) :
    bits .or .i64 ((a : Int) * 16777216) ((b : Int) * 65536) = (a : Int) * 16777216 + (b : Int) * 65536 ∧ bits .or .i64 ((a : Int) * 16777216 + (b : Int) * 65536) ((c : Int) * 256) = (a : Int) * 16777216 + (b : Int) * 65536 + (c : Int) * 256 ∧ bits .or .i64 ((a : Int) * 16777216 + (b : Int) * 65536 + (c : Int) * 256) (d : Int) = (a : Int) * 16777216 + (b : Int) * 65536 + (c : Int) * 256 + (d : Int) := by
  have h1 := or_small (a * 16777216) (b * 65536) (by omega) (by omega)
  rw [or_n24 (b * 65536) a (by omega), Int.natCast_add, Int.natCast_mul, Int.natCast_mul b] at h1
  have h2 := or_small ((a * 256 + b) * 65536) (c * 256) (by omega) (by omega)
  have e6 : (a * 256 + b) * 65536 = a * 16777216 + b * 65536 := by rw [Nat.add_mul, Nat.mul_assoc]
  rw [or_n16 (c * 256) (a * 256 + b) (by omega), e6, Int.natCast_add, Int.natCast_add, Int.natCast_mul a, Int.natCast_mul b, Int.natCast_mul c] at h2
  have h3 := or_small ((a * 65536 + b * 256 + c) * 256) d (by omega) (by omega)
  have e7 : (a * 65536 + b * 256 + c) * 256 = a * 16777216 + b * 65536 + c * 256 := by rw [Nat.add_mul, Nat.add_mul, Nat.mul_assoc, Nat.mul_assoc]
  rw [or_n8 d (a * 65536 + b * 256 + c) hd, e7, Int.natCast_add, Int.natCast_add, Int.natCast_add, Int.natCast_mul a, Int.natCast_mul b, Int.natCast_mul c] at h3
  exact ⟨h1, h2, h3⟩
/-- A region that only reads ahead of its last operations, walked in the text's order. -/
theorem region_tail {P : Program} {id : Nat} {Q : Exit → Act → World → Prop} {a : Act} {w : World} {l : List Oper} (n : Nat) (hm : P.follows .mixedOrders = true) (hB : Region.lexTailB .any l.toArray n = true)
    (h : wpStill P l.toArray w.drew (fun a' => wpList P l.toArray Q (l.drop n) a' w.drew) (l.take n) a) : (Code.region id l.toArray true).wp P Q a w := wp_region_still_tail n hm hB h
theorem wraps (a b c d : Nat) (ha : a < 256) (hb : b < 256) (hc : c < 256) (hd : d < 256) : IntKind.i64.wrap (a : Int) = (a : Int) ∧ IntKind.i64.wrap (b : Int) = (b : Int) ∧ IntKind.i64.wrap (c : Int) = (c : Int) ∧ IntKind.i64.wrap (d : Int) = (d : Int) ∧
    IntKind.i64.wrap ((a : Int) * 16777216) = (a : Int) * 16777216 ∧ IntKind.i64.wrap ((b : Int) * 65536) = (b : Int) * 65536 ∧ IntKind.i64.wrap ((c : Int) * 256) = (c : Int) * 256 :=
  ⟨IntWalk.i64_in _ (by omega), IntWalk.i64_in _ (by omega), IntWalk.i64_in _ (by omega), IntWalk.i64_in _ (by omega), IntWalk.i64_in _ (by omega), IntWalk.i64_in _ (by omega), IntWalk.i64_in _ (by omega)⟩
/-- What read answers where the chunk has the form. -/
def ReadsP (w : World) (X : Option Addr) (n cap : Nat) (bs : List UInt8) (e : Ending) (w' : World) : Prop :=
  e = .returned (.tuple #[.agg #[.int .i64 (cSize bs : Int), .int .i64 (cSum bs : Int), .slice X (n - 8) (cap - 8)], .int .i64 (cAt bs : Int), .bool true]) ∧ Below w.heap.size w w'
def ReadsNo (w : World) (e : Ending) (w' : World) : Prop := ∃ (s m a : Int) (X : Option Addr) (k c : Nat), e = .returned (.tuple #[.agg #[.int .i64 s, .int .i64 m, .slice X k c], .int .i64 a, .bool false]) ∧ Below w.heap.size w w'
theorem below_set {B : Nat} {a w : World} (h : Below B a w) (g i : Nat) (hg : B ≤ g) (v : Value) : Below B a (w.setCell ⟨g, i, none⟩ v) := h.setCell (p := ⟨g, i, none⟩) hg v
theorem below_d3 {B : Nat} {a w : World} (h : Below B a w) : Below B a w.drew.drew.drew := below_drewN (below_drewN (below_drewN h 1) 1) 1
theorem six_sets {w W : World} {B : Nat} (hb : Below B w W) (g : Nat) (hg : B ≤ g) {t : TypeId} {a0 a1 a2 : Value} (hB : Blk W g t #[a0, a1, a2]) (v0 v1 v2 v3 v4 v5 : Value) :
    ∃ W9, W9 = ((((((W.setCell ⟨g, 0, none⟩ v0).setCell ⟨g, 1, none⟩ v1).setCell ⟨g, 2, none⟩ v2).setCell ⟨g, 0, none⟩ v3).setCell ⟨g, 1, none⟩ v4).setCell ⟨g, 2, none⟩ v5).drew.drew.drew ∧ Below B w W9 ∧ W9.cell? ⟨g, 0, none⟩ = some v3 ∧ W9.cell? ⟨g, 1, none⟩ = some v4 ∧ W9.cell? ⟨g, 2, none⟩ = some v5 := by
  have h1 := below_set hb g 0 hg v0
  have h2 := below_set h1 g 1 hg v1
  have h3 := below_set h2 g 2 hg v2
  have h4 := below_set h3 g 0 hg v3
  have h5 := below_set h4 g 1 hg v4
  have h6 := below_set h5 g 2 hg v5
  have hk := (((((hB.set_ 0 v0).set_ 1 v1).set_ 2 v2).set_ 0 v3).set_ 1 v4).set_ 2 v5
  simp only [List.setIfInBounds_toArray, List.set_cons_zero, List.set_cons_succ] at hk
  clear h1 h2 h3 h4 h5 hB hb
  revert h6 hk
  generalize (((((W.setCell ⟨g, 0, none⟩ v0).setCell ⟨g, 1, none⟩ v1).setCell ⟨g, 2, none⟩ v2).setCell ⟨g, 0, none⟩ v3).setCell ⟨g, 1, none⟩ v4).setCell ⟨g, 2, none⟩ v5 = Y
  intro h6 hk
  exact ⟨_, rfl, below_d3 h6, hk.cell 0, hk.cell 1, hk.cell 2⟩
def ReadsAny (w : World) (X : Option Addr) (n cap : Nat) (bs : List UInt8) (e : Ending) (w' : World) : Prop := if Form bs then ReadsP w X n cap bs e w' else ReadsNo w e w'
theorem ReadsAny.yes {w : World} {X : Option Addr} {n cap : Nat} {bs : List UInt8} {e : Ending} {w' : World} (h : ReadsAny w X n cap bs e w') (hf : Form bs) : ReadsP w X n cap bs e w' := by unfold ReadsAny at h; rwa [if_pos hf] at h
theorem ReadsAny.no {w : World} {X : Option Addr} {n cap : Nat} {bs : List UInt8} {e : Ending} {w' : World} (h : ReadsAny w X n cap bs e w') (hf : ¬ Form bs) : ReadsNo w e w' := by unfold ReadsAny at h; rwa [if_neg hf] at h
theorem ReadsAny.mk_no {w : World} {X Y : Option Addr} {n cap k c : Nat} {bs : List UInt8} {w' : World} {s m a : Int} (hf : ¬ Form bs) (hb : Below w.heap.size w w') : ReadsAny w X n cap bs (.returned (.tuple #[.agg #[.int .i64 s, .int .i64 m, .slice Y k c], .int .i64 a, .bool false])) w' := by
  unfold ReadsAny; rw [if_neg hf]; exact ⟨_, _, _, _, _, _, rfl, hb⟩
theorem ReadsAny.mk_end {w : World} {X : Option Addr} {n cap S T U : Nat} {bs : List UInt8} {w' : World} {b : Bool} (hS : cSize bs = S) (hT : cAt bs = T) (hU : cSum bs = U) (hf : b = true ↔ Form bs) (hb : Below w.heap.size w w') : ReadsAny w X n cap bs (.returned (.tuple #[.agg #[.int .i64 (S : Int), .int .i64 (U : Int), .slice X (n - 8) (cap - 8)], .int .i64 (T : Int), .bool b])) w' := by
  subst hS hT hU
  unfold ReadsAny
  by_cases h : Form bs
  · rw [if_pos h]; exact ⟨by rw [hf.2 h], hb⟩
  · rw [if_neg h]
    have : b = false := by cases b; rfl; exact absurd (hf.1 rfl) h
    exact ⟨_, _, _, _, _, _, by rw [this], hb⟩
set_option maxRecDepth 100000 in
set_option maxHeartbeats 1600000 in
theorem read_short (A : Option Addr) (n cap : Nat) (w : World) (h : n < 8) : Calls Tryd.prog 34 #[.slice A n cap] w (ReadsNo w) := by
  have h' : (n : Int) < 8 := by omega
  go_enter Tryd.func34, Tryd.ntmps34
  go_wp2
  refine bodyPost_ret (v := .tuple #[.agg #[.int .i64 0, .int .i64 0, .slice none 0 0], .int .i64 0, .bool false]) (by simp [results, Tryd.results34, go_sem]) rfl ?_
  exact ⟨_, _, _, _, _, _, rfl, one_box' _ _⟩
set_option maxRecDepth 100000 in
set_option maxHeartbeats 3200000 in
theorem read_any (A : Option Addr) (n cap : Nat) (bs : List UInt8) (w : World) (hr : RdB w w.heap.size A n bs) (hc : n ≤ cap) (hm : cap ≤ 9223372036854775807) (h8 : 8 ≤ n) :
    Calls Tryd.prog 34 #[.slice A n cap] w (ReadsAny w (if cap = 8 then A else A.map (·.add (8 * 1))) n cap bs) := by
  obtain ⟨b, off, c0, rfl, hb, hk0, hc0⟩ := hr.byte (k := 0) (by omega)
  obtain ⟨_, _, c1, e1, _, hk1, hc1⟩ := hr.byte (k := 1) (by omega)
  obtain ⟨_, _, c2, e2, _, hk2, hc2⟩ := hr.byte (k := 2) (by omega)
  obtain ⟨_, _, c3, e3, _, hk3, hc3⟩ := hr.byte (k := 3) (by omega)
  obtain ⟨_, _, c4, e4, _, hk4, hc4⟩ := hr.byte (k := 4) (by omega)
  obtain ⟨_, _, c5, e5, _, hk5, hc5⟩ := hr.byte (k := 5) (by omega)
  obtain ⟨_, _, c6, e6, _, hk6, hc6⟩ := hr.byte (k := 6) (by omega)
  obtain ⟨_, _, c7, e7, _, hk7, hc7⟩ := hr.byte (k := 7) (by omega)
  cases e1; cases e2; cases e3; cases e4; cases e5; cases e6; cases e7
  have hl := hr.lenB
  have hS : cSize bs = c0.toNat * 256 + c1.toNat := by unfold cSize; rw [by_at hk0, by_at hk1]
  have hT : cAt bs = c2.toNat * 256 + c3.toNat := by unfold cAt; rw [by_at hk2, by_at hk3]
  have hU : cSum bs = c4.toNat * 16777216 + c5.toNat * 65536 + c6.toNat * 256 + c7.toNat := by unfold cSum; rw [by_at hk4, by_at hk5, by_at hk6, by_at hk7]
  have l0 := c0.toNat_lt
  have l1 := c1.toNat_lt
  have l2 := c2.toNat_lt
  have l3 := c3.toNat_lt
  have l4 := c4.toNat_lt
  have l5 := c5.toNat_lt
  have l6 := c6.toNat_lt
  have l7 := c7.toNat_lt
  have o1 := or_256 c0.toNat c1.toNat (by omega) l1
  have o2 := or_256 c2.toNat c3.toNat (by omega) l3
  obtain ⟨o3, o4, o5⟩ := or_four c4.toNat c5.toNat c6.toNat c7.toNat l4 l5 l6 l7
  generalize hX : (if cap = 8 then some (⟨b, off, none⟩ : Addr) else (some (⟨b, off, none⟩ : Addr)).map (·.add (8 * 1))) = X
  have hsl : ∀ W, Sem.run Tryd.prog (Instr.slice 22 (.slice (some ⟨b, off, none⟩) n cap) (some (.int .i64 8)) none none) W = .ok (.slice X (n - 8) (cap - 8)) W := by
    intro W
    rw [run_slice_l (P := Tryd.prog) W 22 (some ⟨b, off, none⟩) n cap Tryd.underlying22 .i64 8 (by omega) (by omega), ← hX]
    rfl
  clear hk0 hk1 hk2 hk3 hk4 hk5 hk6 hk7 hX
  have HL := Lib.hid hl
  have HS := Lib.hid hS
  have HT := Lib.hid hT
  have HU := Lib.hid hU
  clear hl hS hT hU
  generalize c0.toNat = x0 at *
  generalize c1.toNat = x1 at *
  generalize c2.toNat = x2 at *
  generalize c3.toNat = x3 at *
  generalize c4.toNat = x4 at *
  generalize c5.toNat = x5 at *
  generalize c6.toNat = x6 at *
  generalize c7.toNat = x7 at *
  replace o1 := o1.trans (show (x0 : Int) * 256 + (x1 : Int) = (cSize bs : Int) by rw [HS.out]; omega)
  replace o2 := o2.trans (show (x2 : Int) * 256 + (x3 : Int) = (cAt bs : Int) by rw [HT.out]; omega)
  replace o5 := o5.trans (show (x4 : Int) * 16777216 + (x5 : Int) * 65536 + (x6 : Int) * 256 + (x7 : Int) = (cSum bs : Int) by rw [HU.out]; omega)
  have hFm := Lib.hid (show Form bs ↔ (8 ≤ n ∧ cSize bs ≤ 4000 ∧ cAt bs % 248 = 0 ∧ (cAt bs < cSize bs ∨ cAt bs = 0) ∧ n = 8 + min 248 (cSize bs - cAt bs)) by unfold Form; rw [HL.out])
  have hz1 := cSize_lt bs
  have hz2 := cAt_lt bs
  have hz3 := cSum_lt bs
  clear HS HT HU
  generalize hS : cSize bs = S at *
  generalize hT : cAt bs = T at *
  generalize hU : cSum bs = U at *
  have HS := Lib.hid hS
  have HT := Lib.hid hT
  have HU := Lib.hid hU
  clear hS hT hU
  have h8' : ¬ (n : Int) < 8 := by omega
  have g0 : 0 < n := by omega
  have g1 : (1 : Int) < (n : Int) := by omega
  have g2 : (2 : Int) < (n : Int) := by omega
  have g3 : (3 : Int) < (n : Int) := by omega
  have g4 : (4 : Int) < (n : Int) := by omega
  have g5 : (5 : Int) < (n : Int) := by omega
  have g6 : (6 : Int) < (n : Int) := by omega
  have g7 : (7 : Int) < (n : Int) := by omega
  rw [Nat.add_zero] at hc0
  obtain ⟨W, hW⟩ : ∃ W, W = w.alloc (.cells #[.int .i64 0, .int .i64 0, .slice none 0 0] 66) := ⟨_, rfl⟩
  have hbW : Below w.heap.size w W := by rw [hW]; exact one_box' _ _
  have hB0 : Blk W w.heap.size 66 #[.int .i64 0, .int .i64 0, .slice none 0 0] := by rw [hW]; exact Blk.new _ _ _
  have hcb := (bcell hbW).1
  replace hc0 := (hcb _ _ hb).trans hc0
  replace hc1 := (hcb _ _ hb).trans hc1
  replace hc2 := (hcb _ _ hb).trans hc2
  replace hc3 := (hcb _ _ hb).trans hc3
  replace hc4 := (hcb _ _ hb).trans hc4
  replace hc5 := (hcb _ _ hb).trans hc5
  replace hc6 := (hcb _ _ hb).trans hc6
  replace hc7 := (hcb _ _ hb).trans hc7
  have p0 : W.cell? ⟨w.heap.size, 0, none⟩ = some (.int .i64 0) := hB0.cell 0
  have p1 : W.cell? ⟨w.heap.size, 1, none⟩ = some (.int .i64 0) := hB0.cell 1
  have p2 : W.cell? ⟨w.heap.size, 2, none⟩ = some (.slice none 0 0) := hB0.cell 2
  have f0 := hB0.frozen 0
  have f1 := hB0.frozen 1
  have f2 := hB0.frozen 2
  have HW := Lib.hid hW
  clear hcb
  go_enter Tryd.func34, Tryd.ntmps34
  go_wp2_with fail
  rw [← hW]
  clear hW
  refine region_tail 11 (by kernel_rfl) (by kernel_rfl) ?_
  simp only [List.take_succ_cons, List.take_zero, List.drop_succ_cons, List.drop_zero]
  repeat still_step
  refine wpStill_nil ?_
  go_wp2_with fail
  rw [o1]
  clear o1
  go_region
  go_wp2_with fail
  obtain ⟨q4, q5, q6, q7, r4, r5, r6⟩ := wraps x4 x5 x6 x7 l4 l5 l6 l7
  refine region_tail 23 (by kernel_rfl) (by kernel_rfl) ?_
  simp only [List.take_succ_cons, List.take_zero, List.drop_succ_cons, List.drop_zero]
  repeat still_step
  refine wpStill_nil ?_
  clear q4 q5 q6 q7 r4 r5 r6
  clear o2 o3 o4 o5 l0 l1 l2 l3 l4 l5 l6 l7
  have hge : w.heap.size ≤ w.heap.size := Nat.le_refl _
  go_wp2
  all_goals
    obtain ⟨W9, hW9, hb9, k0, k1, k2⟩ := six_sets hbW w.heap.size hge hB0 (.int .i64 S) (.int .i64 U) (.slice X (n - 8) (cap - 8)) (.int .i64 S) (.int .i64 U) (.slice X (n - 8) (cap - 8))
    rw [← hW9]
    clear hW9 p0 p1 p2 f0 f1 f2 hc0 hc1 hc2 hc3 hc4 hc5 hc6 hc7 hB0 hbW hr
  any_goals
    refine bodyPost_ret (v := .tuple #[.agg #[.int .i64 S, .int .i64 U, .slice X (n - 8) (cap - 8)], .int .i64 0, .bool false]) (by simp [results, Tryd.results34, k0, k1, k2, go_sem]; done) rfl (ReadsAny.mk_no ?_ hb9)
    rw [hFm.out]
    omega
  any_goals
    refine bodyPost_ret (v := .tuple #[.agg #[.int .i64 S, .int .i64 U, .slice X (n - 8) (cap - 8)], .int .i64 T, .bool ((((n - 8 : Nat)) : Int) == 248)]) (by simp [results, Tryd.results34, k0, k1, k2, go_sem]; done) rfl (ReadsAny.mk_end HS.out HT.out HU.out ?_ hb9)
    rw [hFm.out, beq_iff_eq]
    omega
  any_goals
    refine bodyPost_ret (v := .tuple #[.agg #[.int .i64 S, .int .i64 U, .slice X (n - 8) (cap - 8)], .int .i64 T, .bool ((((n - 8 : Nat)) : Int) == (S : Int) - (T : Int))]) (by simp [results, Tryd.results34, k0, k1, k2, go_sem]; done) rfl (ReadsAny.mk_end HS.out HT.out HU.out ?_ hb9)
    rw [hFm.out, beq_iff_eq]
    omega
end Go.Proofs.YtgapkphkcncgeaaDoor
