/-
  EtherRefusals' helpers: look, walked. And: EtherRefusals' helpers: look.
-/
import Derived.Test.YtgfhmfhhobhojaaEOnP
import Derived.ChangeKeysEq
import Derived.Deep.MidRow
namespace Go.Proofs.Ytgfhmfhhobhojaa
open Go.ChangeShapes Go.WideShapes Go.ChangeAt Go.RowKit
/-- What look has told so far: u1, u2, u3 nodes, n1, n2 paths. -/
def halfF (c : ECfg) (p : PV) (v : Value) (u1 u2 u3 n1 n2 i : Nat) : Value :=
  if i = 0 then .int .i64 (p.clock : Int)
  else if i < 18 then .bool (decide (i - 1 < u1) && upA c p.down ((i - 1 : Nat) : Int))
  else if i < 35 then .int .i64 (if i - 18 < u2 then numA c p.inc ((i - 18 : Nat) : Int) else 0)
  else if i < 52 then .int .i64 (if i - 35 < u3 then numA c p.tk ((i - 35 : Nat) : Int) else 0)
  else if i < 341 then .bool (decide (i - 52 < n1) && openB c p.shut (((i - 52) / 17 : Nat) : Int) (((i - 52) % 17 : Nat) : Int))
  else if i < 630 then .int .i64 (if i - 341 < n2 then delayA c p.slow (((i - 341) / 17 : Nat) : Int) (((i - 341) % 17 : Nat) : Int) else 0)
  else v
theorem half_cells (c : ECfg) (p : PV) (v : Value) : (Try.zeroCells75.setIfInBounds 0 (.int .i64 (p.clock : Int))).setIfInBounds 630 v = rg 631 (halfF c p v 0 0 0 0 0) := by
  have hz : Try.zeroCells75 = rg 631 fun i => if i = 0 then .int .i64 0 else if i < 18 then .bool false else if i < 52 then .int .i64 0 else if i < 341 then .bool false else if i < 630 then .int .i64 0 else .slice none 0 0 := by kernel_rfl
  rw [hz]
  apply Array.ext_getElem?
  intro i
  rw [Array.getElem?_setIfInBounds, Array.getElem?_setIfInBounds]
  by_cases hi : i < 631
  · rw [rg_at _ hi, rg_at _ hi]
    by_cases h1 : i = 630
    · subst h1
      rw [if_pos rfl, if_pos (by simp [rg_size])]
      rfl
    · rw [if_neg (Ne.symm h1)]
      by_cases h0 : i = 0
      · subst h0
        rw [if_pos rfl, if_pos (by simp [rg_size])]
        rfl
      · rw [if_neg (Ne.symm h0)]
        unfold halfF
        simp only [Nat.not_lt_zero, decide_false, Bool.false_and, if_false, if_neg h0]
        repeat' split
        all_goals first | rfl | omega
  · rw [Array.getElem?_eq_none (by rw [rg_size]; omega), Array.getElem?_eq_none (by rw [rg_size]; omega)]
    split
    · split
      · rename_i h; simp [rg_size] at h; omega
      · rfl
    · split
      · split
        · rename_i h; simp [rg_size] at h; omega
        · rfl
      · rfl
section
variable (c : ECfg) (p : PV) (v : Value) {u1 u2 u3 n1 n2 : Nat}
theorem half_1 (h : u1 < 17) : (rg 631 (halfF c p v u1 u2 u3 n1 n2)).setIfInBounds (1 + u1) (.bool (upA c p.down (u1 : Int))) = rg 631 (halfF c p v (u1 + 1) u2 u3 n1 n2) := by
  refine rg_set ?_ fun j _ hj => ?_
  · unfold halfF
    rw [if_neg (by omega), if_pos (by omega), show 1 + u1 - 1 = u1 by omega]
    simp
  · unfold halfF
    by_cases h0 : j = 0
    · rw [if_pos h0, if_pos h0]
    · rw [if_neg h0, if_neg h0]
      by_cases h1 : j < 18
      · rw [if_pos h1, if_pos h1, show decide (j - 1 < u1 + 1) = decide (j - 1 < u1) from decide_eq_decide.2 (by omega)]
      · rw [if_neg h1, if_neg h1]
theorem half_2 (h : u2 < 17) : (rg 631 (halfF c p v u1 u2 u3 n1 n2)).setIfInBounds (18 + u2) (.int .i64 (numA c p.inc (u2 : Int))) = rg 631 (halfF c p v u1 (u2 + 1) u3 n1 n2) := by
  refine rg_set ?_ fun j _ hj => ?_
  · unfold halfF
    rw [if_neg (by omega), if_neg (by omega), if_pos (by omega), show 18 + u2 - 18 = u2 by omega, if_pos (by omega)]
  · unfold halfF
    by_cases h1 : j < 18
    · repeat' split
      all_goals first | rfl | omega
    · simp only [if_neg (show ¬ j = 0 by omega), if_neg (show ¬ j < 18 by omega)]
      by_cases h2 : j < 35
      · rw [if_pos h2, if_pos h2]
        by_cases h3 : j - 18 < u2
        · rw [if_pos h3, if_pos (by omega)]
        · rw [if_neg h3, if_neg (by omega)]
      · rw [if_neg h2, if_neg h2]
theorem half_3 (h : u3 < 17) : (rg 631 (halfF c p v u1 u2 u3 n1 n2)).setIfInBounds (35 + u3) (.int .i64 (numA c p.tk (u3 : Int))) = rg 631 (halfF c p v u1 u2 (u3 + 1) n1 n2) := by
  refine rg_set ?_ fun j _ hj => ?_
  · unfold halfF
    rw [if_neg (by omega), if_neg (by omega), if_neg (by omega), if_pos (by omega), show 35 + u3 - 35 = u3 by omega, if_pos (by omega)]
  · unfold halfF
    by_cases h1 : j < 35
    · repeat' split
      all_goals first | rfl | omega
    · simp only [if_neg (show ¬ j = 0 by omega), if_neg (show ¬ j < 18 by omega), if_neg (show ¬ j < 35 by omega)]
      by_cases h2 : j < 52
      · rw [if_pos h2, if_pos h2]
        by_cases h3 : j - 35 < u3
        · rw [if_pos h3, if_pos (by omega)]
        · rw [if_neg h3, if_neg (by omega)]
      · rw [if_neg h2, if_neg h2]
theorem half_4 {k q : Nat} (hk : k < 17) (hq : q < 17) : (rg 631 (halfF c p v u1 u2 u3 (k * 17 + q) n2)).setIfInBounds (52 + k * 17 + q) (.bool (openB c p.shut (k : Int) (q : Int))) = rg 631 (halfF c p v u1 u2 u3 (k * 17 + q + 1) n2) := by
  refine rg_set ?_ fun j _ hj => ?_
  · unfold halfF
    rw [if_neg (by omega), if_neg (by omega), if_neg (by omega), if_neg (by omega), if_pos (by omega), show 52 + k * 17 + q - 52 = k * 17 + q by omega, show (k * 17 + q) / 17 = k by omega, show (k * 17 + q) % 17 = q by omega]
    simp
  · unfold halfF
    by_cases h1 : j < 52
    · repeat' split
      all_goals first | rfl | omega
    · simp only [if_neg (show ¬ j = 0 by omega), if_neg (show ¬ j < 18 by omega), if_neg (show ¬ j < 35 by omega), if_neg (show ¬ j < 52 by omega)]
      by_cases h2 : j < 341
      · rw [if_pos h2, if_pos h2, show decide (j - 52 < k * 17 + q + 1) = decide (j - 52 < k * 17 + q) from decide_eq_decide.2 (by omega)]
      · rw [if_neg h2, if_neg h2]
theorem half_5 {k q : Nat} (hk : k < 17) (hq : q < 17) : (rg 631 (halfF c p v u1 u2 u3 n1 (k * 17 + q))).setIfInBounds (341 + k * 17 + q) (.int .i64 (delayA c p.slow (k : Int) (q : Int))) = rg 631 (halfF c p v u1 u2 u3 n1 (k * 17 + q + 1)) := by
  refine rg_set ?_ fun j _ hj => ?_
  · unfold halfF
    rw [if_neg (by omega), if_neg (by omega), if_neg (by omega), if_neg (by omega), if_neg (by omega), if_pos (by omega), show 341 + k * 17 + q - 341 = k * 17 + q by omega, show (k * 17 + q) / 17 = k by omega, show (k * 17 + q) % 17 = q by omega, if_pos (by omega)]
  · unfold halfF
    by_cases h1 : j < 341
    · repeat' split
      all_goals first | rfl | omega
    · simp only [if_neg (show ¬ j = 0 by omega), if_neg (show ¬ j < 18 by omega), if_neg (show ¬ j < 35 by omega), if_neg (show ¬ j < 52 by omega), if_neg (show ¬ j < 341 by omega)]
      by_cases h2 : j < 630
      · rw [if_pos h2, if_pos h2]
        by_cases h3 : j - 341 < k * 17 + q
        · rw [if_pos h3, if_pos (by omega)]
        · rw [if_neg h3, if_neg (by omega)]
      · rw [if_neg h2, if_neg h2]
end
/-- The sight, while it is made, in block S behind w1. -/
structure Sg (w1 : World) (c : ECfg) (p : PV) (v : Value) (S u1 u2 u3 n1 n2 : Nat) (wr : World) : Prop where
  blk : Blk wr S 75 (rg 631 (halfF c p v u1 u2 u3 n1 n2))
  below : Below w1.heap.size w1 wr
theorem Sg.put {w1 wr : World} {c : ECfg} {p : PV} {v : Value} {S u1 u2 u3 n1 n2 v1 v2 v3 m1 m2 i : Nat} {u : Value} (h : Sg w1 c p v S u1 u2 u3 n1 n2 wr) (hS : w1.heap.size ≤ S) (he : (rg 631 (halfF c p v u1 u2 u3 n1 n2)).setIfInBounds i u = rg 631 (halfF c p v v1 v2 v3 m1 m2)) : Sg w1 c p v S v1 v2 v3 m1 m2 (wr.setCell ⟨S, i, none⟩ u) :=
  ⟨by rw [← he]; exact h.blk.set_ i u, h.below.setCell (p := ⟨S, i, none⟩) hS u⟩
theorem Sg.over {w1 wr w' : World} {c : ECfg} {p : PV} {v : Value} {S u1 u2 u3 n1 n2 : Nat} (h : Sg w1 c p v S u1 u2 u3 n1 n2 wr) (hb : Below wr.heap.size wr w') : Sg w1 c p v S u1 u2 u3 n1 n2 w' :=
  ⟨h.blk.over hb, h.below.trans (hb.mono h.below.size)⟩
theorem Sg.cell {w1 wr : World} {c : ECfg} {p : PV} {v : Value} {S u1 u2 u3 n1 n2 : Nat} (h : Sg w1 c p v S u1 u2 u3 n1 n2 wr) {i : Nat} (hi : i < 631) : wr.cell? ⟨S, i, none⟩ = some (halfF c p v u1 u2 u3 n1 n2 i) := by
  rw [h.blk.cell, rg_at _ hi]
end Go.Proofs.Ytgfhmfhhobhojaa
namespace Go.Proofs.Ytgfhmfhhobhojaa
open Go.ChangeShapes Go.WideShapes Go.ChangeAt Go.RowKit
/-- A list of packets that stands by itself, behind B. -/
def FlNew (w : World) (B : Nat) (v : Value) (l : List Flt) : Prop := ∃ H : List (Flt × Nat), H.map (·.1) = l ∧ w.ownsRow B 48 5 v H.length (rowsP H) ∧ (∀ x ∈ H, Blk w x.2 5 (bvs x.1.bs).toArray) ∧ ∀ x ∈ H, B ≤ x.2
theorem FlNew.chg {w w' : World} {B : Nat} {v : Value} {l : List Flt} {S : Nat → Prop} (h : FlNew w B v l) (hc : Chg S w w') (hS : ∀ k, B ≤ k → k < w.heap.size → ¬ S k) : FlNew w' B v l := by
  obtain ⟨H, h1, h2, h3, h4⟩ := h
  refine ⟨H, h1, own_chg h2 hc fun g hg => ?_, fun x hx => (h3 x hx).chg hc (hS _ (h4 x hx) (h3 x hx).lt), h4⟩
  have h5 := own_block_lt h2 hg
  exact hS g h5.2.1 h5.1
theorem FlNew.over {w w' : World} {B : Nat} {v : Value} {l : List Flt} (h : FlNew w B v l) (hb : Below w.heap.size w w') : FlNew w' B v l := h.chg (Chg.of_below hb fun _ => False) fun _ _ _ h => h
theorem FlNew.weak {w : World} {B B' : Nat} {v : Value} {l : List Flt} (h : FlNew w B v l) (hB : B' ≤ B) : FlNew w B' v l := by
  obtain ⟨H, h1, h2, h3, h4⟩ := h
  exact ⟨H, h1, own_base h2 hB, h3, fun x hx => Nat.le_trans hB (h4 x hx)⟩
theorem FlNew.at_ {w : World} {B : Nat} {v : Value} {l : List Flt} (h : FlNew w B v l) : ∃ A cap, v = .slice A l.length cap ∧ FlAt w A l.length l := by
  obtain ⟨H, h1, h2, h3, _⟩ := h
  obtain ⟨A, cap, rfl, _⟩ := own_shape h2
  have hl : l.length = H.length := by rw [← h1, List.length_map]
  refine ⟨A, cap, by rw [hl], ?_⟩
  have h4 := FlAt.of_p h2 h3
  rw [h1] at h4
  rw [hl]; exact h4
def sight (c : ECfg) (p : PV) (v : Value) : Array Value := rg 631 (halfF c p v 17 17 17 289 289)
def LookR (w : World) (c : ECfg) (p : PV) (e : Ending) (w' : World) : Prop := ∃ v, e = .returned (.agg (sight c p v)) ∧ FlNew w' w.heap.size v p.way ∧ Below w.heap.size w w'
theorem XOpen {w : World} {B : Nat} {c : ECfg} {D m : Nat} {p : PV} (hc : c.Ok) (h : LiveX w B c D m p) (a b : Int) : Calls Try.prog 47 #[.pointer (some ⟨D, 0, none⟩), .int .i64 a, .int .i64 b] w fun e w' => e = .returned (.bool (openB c p.shut a b)) ∧ Below w.heap.size w w' := by
  obtain ⟨hB, F, h⟩ := h
  exact Open_any hc h.pn a b
theorem XDelay {w : World} {B : Nat} {c : ECfg} {D m : Nat} {p : PV} (hc : c.Ok) (h : LiveX w B c D m p) (a b : Int) : Calls Try.prog 57 #[.pointer (some ⟨D, 0, none⟩), .int .i64 a, .int .i64 b] w fun e w' => e = .returned (.int .i64 (delayA c p.slow a b)) ∧ Below w.heap.size w w' := by
  obtain ⟨hB, F, h⟩ := h
  exact Delay_any hc h.pn a b
theorem XInc {w : World} {B : Nat} {c : ECfg} {D m : Nat} {p : PV} (h : LiveX w B c D m p) (q : Int) : Calls Try.prog 32 #[.pointer (some ⟨D, 0, none⟩), .int .i64 q] w fun e w' => e = .returned (.int .i64 (numA c p.inc q)) ∧ w = w' := by
  obtain ⟨hB, F, h⟩ := h
  exact Inc_any h.pn q
theorem XTicks {w : World} {B : Nat} {c : ECfg} {D m : Nat} {p : PV} (h : LiveX w B c D m p) (q : Int) : Calls Try.prog 56 #[.pointer (some ⟨D, 0, none⟩), .int .i64 q] w fun e w' => e = .returned (.int .i64 (numA c p.tk q)) ∧ w = w' := by
  obtain ⟨hB, F, h⟩ := h
  exact Ticks_any h.pn q
theorem XClock {w : World} {B : Nat} {c : ECfg} {D m : Nat} {p : PV} (h : LiveX w B c D m p) : Calls Try.prog 24 #[.pointer (some ⟨D, 0, none⟩)] w fun e w' => e = .returned (.int .i64 (p.clock : Int)) ∧ w = w' := by
  obtain ⟨hB, F, h⟩ := h
  exact Clock_any h.pn
theorem XFlightsN {w : World} {B : Nat} {c : ECfg} {D m : Nat} {p : PV} (hc : c.Ok) (h : LiveX w B c D m p) (hm : m ≤ 4398046511104) : Calls Try.prog 23 #[.pointer (some ⟨D, 0, none⟩)] w fun e w' => ∃ v, e = .returned v ∧ FlNew w' w.heap.size v p.way ∧ Below w.heap.size w w' := by
  obtain ⟨hB, F, h⟩ := h
  refine (Flights_any h.pn (h.inv.fine hc hm)).mono ?_
  rintro e w' ⟨v, h1, h2, H, h3⟩
  exact ⟨v, h1, ⟨H, h3⟩, h2⟩
theorem half_one (c : ECfg) (p : PV) {v : Value} (hv : v.oneCell' = true) (u1 u2 u3 n1 n2 i : Nat) : (halfF c p v u1 u2 u3 n1 n2 i).oneCell' = true := by
  unfold halfF
  repeat' split
  all_goals first | exact hv | rfl
theorem rg_list_one {n : Nat} {f : Nat → Value} (h : ∀ i, (f i).oneCell' = true) : ∀ u ∈ (rg n f).toList, u.oneCell' = true := by
  intro u hu
  simp only [rg, List.mem_map] at hu
  obtain ⟨i, _, rfl⟩ := hu
  exact h i
theorem look_store (w1 : World) (c : ECfg) (p : PV) {v : Value} (hv : v.oneCell' = true) : ∃ w2, Sem.run Try.prog (storeCells ⟨w1.heap.size, 0, none⟩ ((Try.zeroCells75.toList.set 0 (.int .i64 (p.clock : Int))).set 630 v)) (w1.alloc (.cells Try.zeroCells75 75)) = .ok () w2 ∧ Sg w1 c p v w1.heap.size 0 0 0 0 0 w2 := by
  have hB := Blk.new w1 75 Try.zeroCells75
  have hb := one_box' w1 (.cells Try.zeroCells75 75)
  have hl : (Try.zeroCells75.toList.set 0 (.int .i64 (p.clock : Int))).set 630 v = (rg 631 (halfF c p v 0 0 0 0 0)).toList := by
    rw [← half_cells c p v, Array.toList_setIfInBounds, Array.toList_setIfInBounds]
  have hsz : Try.zeroCells75.size = 631 := by kernel_rfl
  have h1 := run_storeCells_from (P := Try.prog) w1.heap.size 75 ((Try.zeroCells75.toList.set 0 (.int .i64 (p.clock : Int))).set 630 v) 0 _ _ hB (by rw [hl, Array.length_toList, rg_size, hsz]) (by rw [hl]; exact rg_list_one fun i => half_one c p hv _ _ _ _ _ i)
  rw [List.take_zero, List.nil_append] at h1
  refine ⟨_, h1, ?_, below_setRow hb (Nat.le_refl _) _⟩
  rw [hl, Array.toArray_toList]
  exact setRow_heap _ _ _ _ _ _ hB
theorem wp_load_run {P : Program} {op : Oper} {a : Act} {w : World} {K : Act → World → Prop} {Q : Exit → Act → World → Prop} {v : Value} (ty : TypeId) (x : Operand) (ho : op.op = .load ty x) (hr : Sem.run P (Instr.loadAt ty (a.eval x)) w = .ok v w) (h : K (a.put op.dst v) w) : op.wp P a w K Q := by
  unfold Oper.wp execOp
  simp only [ho, Sem.run_bind, hr, Result.andThen_ok, Sem.run_pure]
  exact h
/-- A whole row is stored. -/
theorem row_put {P : Program} {w : World} {g t : Nat} {cur cs : Array Value} (h : Blk w g t cur) (hs : cs.size = cur.size) (h1 : ∀ u ∈ cs.toList, u.oneCell' = true) : ∃ w', Sem.run P (storeCells ⟨g, 0, none⟩ cs.toList) w = .ok () w' ∧ Blk w' g t cs ∧ Chg (fun k => k = g) w w' := by
  have h2 := run_storeCells_from (P := P) g t cs.toList 0 cur w h (by rw [Array.length_toList]; omega) h1
  rw [List.take_zero, List.nil_append, Array.toArray_toList] at h2
  exact ⟨w.setRow g cs, h2, setRow_heap _ _ _ _ _ _ h, ⟨rfl, rfl, rfl, by simp, fun k _ hk => setRow_other _ _ _ _ hk⟩⟩
set_option maxRecDepth 100000 in
set_option maxHeartbeats 3200000 in
theorem look_any {w : World} {B : Nat} {c : ECfg} {D m : Nat} {p : PV} (hc : c.Ok) (h : LiveX w B c D m p) (hm : m ≤ 4398046511104) : Calls Try.prog 34 #[.pointer (some ⟨D, 0, none⟩)] w (LookR w c p) := by
  have hb0 := one_box' w (.cells Try.zeroCells75 75)
  have hR := Blk.new w 75 Try.zeroCells75
  obtain ⟨w0, hw0⟩ : ∃ w0, w0 = w.alloc (.cells Try.zeroCells75 75) := ⟨_, rfl⟩
  rw [← hw0] at hb0 hR
  have HX := Lib.hid (h.below hb0)
  have HW0 := Lib.hid hw0
  have HB0 := Lib.hid hb0
  have HR := Lib.hid hR
  have HC := Lib.hid hc
  have HCK := Lib.hid (XClock HX.out)
  have HFL := Lib.hid (XFlightsN hc HX.out hm)
  clear hw0 hb0 hR h hc
  go_enter Try.func34, Try.ntmps34
  go_upto_region 1 with fail
  rw [← HW0.out]
  go_upto_region 2 with (first
    | (go_at_call 24; refine HCK.out.mono ?_; rintro _ _ ⟨rfl, rfl⟩)
    | (go_at_call 23; refine HFL.out.mono ?_; rintro _ w1 ⟨v, rfl, hfl, hb1⟩; obtain ⟨A, cap, rfl, _⟩ := hfl.at_; have HF1 := Lib.hid hfl; have HB1 := Lib.hid hb1; clear hfl hb1; obtain ⟨w2, hst, hsg⟩ := look_store w1 c p (v := .slice A p.way.length cap) rfl; have HSG := Lib.hid hsg; clear hsg))
  obtain ⟨S, hS⟩ : ∃ S, S = w1.heap.size := ⟨_, rfl⟩
  rw [← hS] at HSG ⊢
  have HS := Lib.hid (Nat.le_of_eq hS.symm)
  clear hst hS
  obtain ⟨v, hv⟩ : ∃ v, v = Value.slice A p.way.length cap := ⟨_, rfl⟩
  rw [← hv] at HSG HF1 ⊢
  have HV1 : Hid (v.oneCell' = true) := Lib.hid (by rw [hv]; rfl)
  clear hv
  have HX1 := Lib.hid (HX.out.below HB1.out)
  have HST : Hid (Sg w1 c p v S 0 0 0 (0 * 17) (0 * 17) w2) := HSG
  clear HSG
  go_wp2_with fail
  go_loopw [4, 5] (fun i _ wr => ∃ k : Nat, k ≤ 17 ∧ i = .int .i64 (k : Int) ∧ Hid (Sg w1 c p v S k k k (k * 17) (k * 17) wr)) (fun i _ _ => 17 - (intOf i).toNat)
  case atStart => exact ⟨0, by omega, rfl, HST⟩
  case round =>
    clear HST
    obtain ⟨k, hk, rfl, HT⟩ := hrel
    by_cases hlt : k < 17
    · have hI : (k : Int) < 17 := by omega
      have HXr := Lib.hid (HX1.out.below HT.out.below)
      have HU := Lib.hid (XUp HXr.out (k : Int))
      have c1 : wr.cell? ⟨S, 1 + k, none⟩ = some _ := HT.out.cell (by omega)
      have f1 : wr.frozen? ⟨S, 1 + k, none⟩ = false := HT.out.blk.frozen _
      obtain ⟨w3, hw3⟩ : ∃ w3, w3 = wr.setCell ⟨S, 1 + k, none⟩ (.bool (upA c p.down (k : Int))) := ⟨_, rfl⟩
      have HT3 : Hid (Sg w1 c p v S (k + 1) k k (k * 17) (k * 17) w3) := Lib.hid (by rw [hw3]; exact HT.out.put HS.out (half_1 c p v hlt))
      have HW3 := Lib.hid hw3
      clear hw3
      go_upto_region 6 with (go_at_call 18; refine HU.out.mono ?_; rintro _ _ ⟨rfl, rfl⟩)
      rw [← HW3.out]
      clear c1 f1
      have HU2 := Lib.hid (XInc (HX1.out.below HT3.out.below) (k : Int))
      have c1 : w3.cell? ⟨S, 18 + k, none⟩ = some _ := HT3.out.cell (by omega)
      have f1 : w3.frozen? ⟨S, 18 + k, none⟩ = false := HT3.out.blk.frozen _
      obtain ⟨w4, hw4⟩ : ∃ w4, w4 = w3.setCell ⟨S, 18 + k, none⟩ (.int .i64 (numA c p.inc (k : Int))) := ⟨_, rfl⟩
      have HT4 : Hid (Sg w1 c p v S (k + 1) (k + 1) k (k * 17) (k * 17) w4) := Lib.hid (by rw [hw4]; exact HT3.out.put HS.out (half_2 c p v hlt))
      have HW4 := Lib.hid hw4
      clear hw4
      go_upto_region 7 with (go_at_call 32; refine HU2.out.mono ?_; rintro _ _ ⟨rfl, rfl⟩)
      rw [← HW4.out]
      clear c1 f1
      have HU3 := Lib.hid (XTicks (HX1.out.below HT4.out.below) (k : Int))
      have c1 : w4.cell? ⟨S, 35 + k, none⟩ = some _ := HT4.out.cell (by omega)
      have f1 : w4.frozen? ⟨S, 35 + k, none⟩ = false := HT4.out.blk.frozen _
      obtain ⟨w5, hw5⟩ : ∃ w5, w5 = w4.setCell ⟨S, 35 + k, none⟩ (.int .i64 (numA c p.tk (k : Int))) := ⟨_, rfl⟩
      have HT5 : Hid (Sg w1 c p v S (k + 1) (k + 1) (k + 1) (k * 17 + 0) (k * 17 + 0) w5) := Lib.hid (by rw [hw5]; exact HT4.out.put HS.out (half_3 c p v hlt))
      have HW5 := Lib.hid hw5
      clear hw5
      go_upto_region 8 with (go_at_call 56; refine HU3.out.mono ?_; rintro _ _ ⟨rfl, rfl⟩)
      rw [← HW5.out]
      clear c1 f1
      go_wp2_with fail
      go_loopw [5] (fun i wr => ∃ q : Nat, q ≤ 17 ∧ i = .int .i64 (q : Int) ∧ Hid (Sg w1 c p v S (k + 1) (k + 1) (k + 1) (k * 17 + q) (k * 17 + q) wr)) (fun i _ => 17 - (intOf i).toNat)
      case atStart => exact ⟨0, by omega, rfl, HT5⟩
      case round =>
        clear HT5 HW3 HW4 HW5 HT3 HT4 HU HU2 HU3 HXr
        obtain ⟨q, hq, rfl, HR2⟩ := hrel
        by_cases hlq : q < 17
        · have hIq : (q : Int) < 17 := by omega
          go_upto_region 11 with fail
          obtain ⟨wd, hwd⟩ : ∃ wd, wd = wr.drew := ⟨_, rfl⟩
          have hTd : Sg w1 c p v S (k + 1) (k + 1) (k + 1) (k * 17 + q) (k * 17 + q) wd := by
            rw [hwd]; exact ⟨HR2.out.blk, below_drewN HR2.out.below 1⟩
          have HTD := Lib.hid hTd
          have HWD := Lib.hid hwd
          have HOP := Lib.hid (XOpen HC.out (HX1.out.below hTd.below) (k : Int) (q : Int))
          clear hwd hTd
          refine wp_region_held_drew (S := fun _ => True) (by kernel_rfl) trivial (fun hHeld => ?_)
          rw [← HWD.out]
          refine wpAnyH_take (i := 0) (oi := ?oi0a) (v := ?v0a) ?hi0a (by kernel_rfl) (by kernel_rfl) (by kernel_rfl) ?hq0a ?hy0a (by assumption) ?rest0a
          case hi0a => (simp only [List.getElem?_toArray, List.getElem?_cons_zero]; rfl)
          case hy0a => (refine Or.inl ⟨by rfl, ?_⟩; intro w hSw; (try dsimp only at hSw); go_simp; try with_reducible rfl)
          case hq0a => exact fun _ _ _ h => h
          try simp only [Act.put, List.setIfInBounds_toArray, List.set_cons_zero, List.set_cons_succ]
          refine wpAnyH_take (i := 1) (oi := ?oi1a) (v := ?v1a) ?hi1a (by kernel_rfl) (by kernel_rfl) (by kernel_rfl) ?hq1a ?hy1a (by assumption) ?rest1a
          case hi1a => (simp only [List.getElem?_toArray, List.getElem?_cons_zero, List.getElem?_cons_succ]; rfl)
          case hy1a => (refine Or.inl ⟨by rfl, ?_⟩; intro w hSw; (try dsimp only at hSw); go_simp; try with_reducible rfl)
          case hq1a => exact fun _ _ _ h => h
          try simp only [Act.put, List.setIfInBounds_toArray, List.set_cons_zero, List.set_cons_succ]
          refine wpAnyH_take (i := 2) (oi := ?oi2a) (v := ?v2a) ?hi2a (by kernel_rfl) (by kernel_rfl) (by kernel_rfl) ?hq2a ?hy2a (by assumption) ?rest2a
          case hi2a => (simp only [List.getElem?_toArray, List.getElem?_cons_zero, List.getElem?_cons_succ]; rfl)
          case hy2a => (refine Or.inl ⟨by rfl, ?_⟩; intro w hSw; (try dsimp only at hSw); go_simp; try with_reducible rfl)
          case hq2a => exact fun _ _ _ h => h
          try simp only [Act.put, List.setIfInBounds_toArray, List.set_cons_zero, List.set_cons_succ]
          refine wpAnyH_take (i := 3) (oi := ?oi3a) (v := ?v3a) ?hi3a (by kernel_rfl) (by kernel_rfl) (by kernel_rfl) ?hq3a ?hy3a (by assumption) ?rest3a
          case hi3a => (simp only [List.getElem?_toArray, List.getElem?_cons_zero, List.getElem?_cons_succ]; rfl)
          case hy3a => (refine Or.inl ⟨by rfl, ?_⟩; intro w hSw; (try dsimp only at hSw); go_simp; try with_reducible rfl)
          case hq3a => exact fun _ _ _ h => h
          try simp only [Act.put, List.setIfInBounds_toArray, List.set_cons_zero, List.set_cons_succ]
          refine wpAnyH_take (i := 4) (oi := ?oi4a) (v := ?v4a) ?hi4a (by kernel_rfl) (by kernel_rfl) (by kernel_rfl) ?hq4a ?hy4a (by assumption) ?rest4a
          case hi4a => (simp only [List.getElem?_toArray, List.getElem?_cons_zero, List.getElem?_cons_succ]; rfl)
          case hy4a => (refine Or.inl ⟨by rfl, ?_⟩; intro w hSw; (try dsimp only at hSw); go_simp; try with_reducible rfl)
          case hq4a => exact fun _ _ _ h => h
          try simp only [Act.put, List.setIfInBounds_toArray, List.set_cons_zero, List.set_cons_succ]
          refine wpAnyH_take (i := 6) (oi := ?oi6a) (v := ?v6a) ?hi6a (by kernel_rfl) (by kernel_rfl) (by kernel_rfl) ?hq6a ?hy6a (by assumption) ?rest6a
          case hi6a => (simp only [List.getElem?_toArray, List.getElem?_cons_zero, List.getElem?_cons_succ]; rfl)
          case hy6a => (refine Or.inl ⟨by rfl, ?_⟩; intro w hSw; (try dsimp only at hSw); go_simp; try with_reducible rfl)
          case hq6a => exact fun _ _ _ h => h
          try simp only [Act.put, List.setIfInBounds_toArray, List.set_cons_zero, List.set_cons_succ]
          refine wpAnyH_take (i := 7) (oi := ?oi7a) (v := ?v7a) ?hi7a (by kernel_rfl) (by kernel_rfl) (by kernel_rfl) ?hq7a ?hy7a (by assumption) ?rest7a
          case hi7a => (simp only [List.getElem?_toArray, List.getElem?_cons_zero, List.getElem?_cons_succ]; rfl)
          case hy7a => (refine Or.inl ⟨by rfl, ?_⟩; intro w hSw; (try dsimp only at hSw); go_simp; try with_reducible rfl)
          case hq7a => exact fun _ _ _ h => h
          try simp only [Act.put, List.setIfInBounds_toArray, List.set_cons_zero, List.set_cons_succ]
          refine wpAnyH_ready (rs := [5]) (by kernel_rfl) (by simp) ?_
          refine AllReadyH.cons (o := ?o5pa) ?ho5pa (fun K hK => ?st5pa) ?mo5pa
          case ho5pa => (simp only [List.getElem?_toArray, List.getElem?_cons_zero, List.getElem?_cons_succ]; rfl)
          · skip
            go_simp
            refine HOP.out.mono ?_
            rintro _ w6 ⟨rfl, hb6⟩
            have hT6 := HTD.out.over hb6
            have c1 : w6.cell? ⟨S, 52 + k * 17 + q, none⟩ = some _ := hT6.cell (by omega)
            have f1 : w6.frozen? ⟨S, 52 + k * 17 + q, none⟩ = false := hT6.blk.frozen _
            obtain ⟨w7, hwn⟩ : ∃ w7, w7 = w6.setCell ⟨S, 52 + k * 17 + q, none⟩ (.bool (openB c p.shut (k : Int) (q : Int))) := ⟨_, rfl⟩
            have HT7 : Hid (Sg w1 c p v S (k + 1) (k + 1) (k + 1) (k * 17 + (q + 1)) (k * 17 + q) w7) := Lib.hid (by rw [hwn]; exact hT6.put HS.out (half_4 c p v hlt hlq))
            have Hw7 := Lib.hid hwn
            clear hb6 hT6 hwn
            go_simp
            refine hK.out _ _ trivial (fun hHeld1 => ?_)
            clear hK K
            try simp only [Act.put, List.setIfInBounds_toArray, List.set_cons_zero, List.set_cons_succ]
            refine wpAnyH_take (i := 8) (oi := ?oi8b) (v := ?v8b) ?hi8b (by kernel_rfl) (by kernel_rfl) (by kernel_rfl) ?hq8b ?hy8b (by assumption) ?rest8b
            case hi8b => (simp only [List.getElem?_toArray, List.getElem?_cons_zero, List.getElem?_cons_succ]; rfl)
            case hy8b => (refine Or.inl ⟨by rfl, ?_⟩; intro w hSw; (try dsimp only at hSw); go_simp; try with_reducible rfl)
            case hq8b => exact fun _ _ _ h => h
            try simp only [Act.put, List.setIfInBounds_toArray, List.set_cons_zero, List.set_cons_succ]
            refine wpAnyH_ready (rs := [9]) (by kernel_rfl) (by simp) ?_
            refine AllReadyH.cons (o := ?o9qa) ?ho9qa (fun K hK => ?st9qa) ?mo9qa
            case ho9qa => (simp only [List.getElem?_toArray, List.getElem?_cons_zero, List.getElem?_cons_succ]; rfl)
            · skip
              go_simp
              rw [← Hw7.out]
              refine hK.out _ _ trivial (fun hHeld2 => ?_)
              clear hK K c1 f1 Hw7
              try simp only [Act.put, List.setIfInBounds_toArray, List.set_cons_zero, List.set_cons_succ]
              refine wpAnyH_done (by kernel_rfl) ?_ _
              clear HTD HOP HR2
              go_upto_region 12 with fail
              obtain ⟨wd, hwd⟩ : ∃ wd, wd = w7.drew := ⟨_, rfl⟩
              have hTd : Sg w1 c p v S (k + 1) (k + 1) (k + 1) (k * 17 + (q + 1)) (k * 17 + q) wd := by
                rw [hwd]; exact ⟨HT7.out.blk, below_drewN HT7.out.below 1⟩
              have HTD := Lib.hid hTd
              have HWD := Lib.hid hwd
              have HOP := Lib.hid (XDelay HC.out (HX1.out.below hTd.below) (k : Int) (q : Int))
              clear hwd hTd
              refine wp_region_held_drew (S := fun _ => True) (by kernel_rfl) trivial (fun hHeld => ?_)
              rw [← HWD.out]
              refine wpAnyH_take (i := 0) (oi := ?oi0c) (v := ?v0c) ?hi0c (by kernel_rfl) (by kernel_rfl) (by kernel_rfl) ?hq0c ?hy0c (by assumption) ?rest0c
              case hi0c => (simp only [List.getElem?_toArray, List.getElem?_cons_zero]; rfl)
              case hy0c => (refine Or.inl ⟨by rfl, ?_⟩; intro w hSw; (try dsimp only at hSw); go_simp; try with_reducible rfl)
              case hq0c => exact fun _ _ _ h => h
              try simp only [Act.put, List.setIfInBounds_toArray, List.set_cons_zero, List.set_cons_succ]
              refine wpAnyH_take (i := 1) (oi := ?oi1c) (v := ?v1c) ?hi1c (by kernel_rfl) (by kernel_rfl) (by kernel_rfl) ?hq1c ?hy1c (by assumption) ?rest1c
              case hi1c => (simp only [List.getElem?_toArray, List.getElem?_cons_zero, List.getElem?_cons_succ]; rfl)
              case hy1c => (refine Or.inl ⟨by rfl, ?_⟩; intro w hSw; (try dsimp only at hSw); go_simp; try with_reducible rfl)
              case hq1c => exact fun _ _ _ h => h
              try simp only [Act.put, List.setIfInBounds_toArray, List.set_cons_zero, List.set_cons_succ]
              refine wpAnyH_take (i := 2) (oi := ?oi2c) (v := ?v2c) ?hi2c (by kernel_rfl) (by kernel_rfl) (by kernel_rfl) ?hq2c ?hy2c (by assumption) ?rest2c
              case hi2c => (simp only [List.getElem?_toArray, List.getElem?_cons_zero, List.getElem?_cons_succ]; rfl)
              case hy2c => (refine Or.inl ⟨by rfl, ?_⟩; intro w hSw; (try dsimp only at hSw); go_simp; try with_reducible rfl)
              case hq2c => exact fun _ _ _ h => h
              try simp only [Act.put, List.setIfInBounds_toArray, List.set_cons_zero, List.set_cons_succ]
              refine wpAnyH_take (i := 3) (oi := ?oi3c) (v := ?v3c) ?hi3c (by kernel_rfl) (by kernel_rfl) (by kernel_rfl) ?hq3c ?hy3c (by assumption) ?rest3c
              case hi3c => (simp only [List.getElem?_toArray, List.getElem?_cons_zero, List.getElem?_cons_succ]; rfl)
              case hy3c => (refine Or.inl ⟨by rfl, ?_⟩; intro w hSw; (try dsimp only at hSw); go_simp; try with_reducible rfl)
              case hq3c => exact fun _ _ _ h => h
              try simp only [Act.put, List.setIfInBounds_toArray, List.set_cons_zero, List.set_cons_succ]
              refine wpAnyH_take (i := 4) (oi := ?oi4c) (v := ?v4c) ?hi4c (by kernel_rfl) (by kernel_rfl) (by kernel_rfl) ?hq4c ?hy4c (by assumption) ?rest4c
              case hi4c => (simp only [List.getElem?_toArray, List.getElem?_cons_zero, List.getElem?_cons_succ]; rfl)
              case hy4c => (refine Or.inl ⟨by rfl, ?_⟩; intro w hSw; (try dsimp only at hSw); go_simp; try with_reducible rfl)
              case hq4c => exact fun _ _ _ h => h
              try simp only [Act.put, List.setIfInBounds_toArray, List.set_cons_zero, List.set_cons_succ]
              refine wpAnyH_take (i := 6) (oi := ?oi6c) (v := ?v6c) ?hi6c (by kernel_rfl) (by kernel_rfl) (by kernel_rfl) ?hq6c ?hy6c (by assumption) ?rest6c
              case hi6c => (simp only [List.getElem?_toArray, List.getElem?_cons_zero, List.getElem?_cons_succ]; rfl)
              case hy6c => (refine Or.inl ⟨by rfl, ?_⟩; intro w hSw; (try dsimp only at hSw); go_simp; try with_reducible rfl)
              case hq6c => exact fun _ _ _ h => h
              try simp only [Act.put, List.setIfInBounds_toArray, List.set_cons_zero, List.set_cons_succ]
              refine wpAnyH_take (i := 7) (oi := ?oi7c) (v := ?v7c) ?hi7c (by kernel_rfl) (by kernel_rfl) (by kernel_rfl) ?hq7c ?hy7c (by assumption) ?rest7c
              case hi7c => (simp only [List.getElem?_toArray, List.getElem?_cons_zero, List.getElem?_cons_succ]; rfl)
              case hy7c => (refine Or.inl ⟨by rfl, ?_⟩; intro w hSw; (try dsimp only at hSw); go_simp; try with_reducible rfl)
              case hq7c => exact fun _ _ _ h => h
              try simp only [Act.put, List.setIfInBounds_toArray, List.set_cons_zero, List.set_cons_succ]
              refine wpAnyH_ready (rs := [5]) (by kernel_rfl) (by simp) ?_
              refine AllReadyH.cons (o := ?o5pc) ?ho5pc (fun K hK => ?st5pc) ?mo5pc
              case ho5pc => (simp only [List.getElem?_toArray, List.getElem?_cons_zero, List.getElem?_cons_succ]; rfl)
              · skip
                go_simp
                refine HOP.out.mono ?_
                rintro _ wz ⟨rfl, hb6⟩
                have hT6 := HTD.out.over hb6
                have c1 : wz.cell? ⟨S, 341 + k * 17 + q, none⟩ = some _ := hT6.cell (by omega)
                have f1 : wz.frozen? ⟨S, 341 + k * 17 + q, none⟩ = false := hT6.blk.frozen _
                obtain ⟨w8, hwn⟩ : ∃ w8, w8 = wz.setCell ⟨S, 341 + k * 17 + q, none⟩ (.int .i64 (delayA c p.slow (k : Int) (q : Int))) := ⟨_, rfl⟩
                have HT8 : Hid (Sg w1 c p v S (k + 1) (k + 1) (k + 1) (k * 17 + (q + 1)) (k * 17 + (q + 1)) w8) := Lib.hid (by rw [hwn]; exact hT6.put HS.out (half_5 c p v hlt hlq))
                have Hw8 := Lib.hid hwn
                clear hb6 hT6 hwn
                go_simp
                refine hK.out _ _ trivial (fun hHeld1 => ?_)
                clear hK K
                try simp only [Act.put, List.setIfInBounds_toArray, List.set_cons_zero, List.set_cons_succ]
                refine wpAnyH_take (i := 8) (oi := ?oi8d) (v := ?v8d) ?hi8d (by kernel_rfl) (by kernel_rfl) (by kernel_rfl) ?hq8d ?hy8d (by assumption) ?rest8d
                case hi8d => (simp only [List.getElem?_toArray, List.getElem?_cons_zero, List.getElem?_cons_succ]; rfl)
                case hy8d => (refine Or.inl ⟨by rfl, ?_⟩; intro w hSw; (try dsimp only at hSw); go_simp; try with_reducible rfl)
                case hq8d => exact fun _ _ _ h => h
                try simp only [Act.put, List.setIfInBounds_toArray, List.set_cons_zero, List.set_cons_succ]
                refine wpAnyH_ready (rs := [9]) (by kernel_rfl) (by simp) ?_
                refine AllReadyH.cons (o := ?o9qc) ?ho9qc (fun K hK => ?st9qc) ?mo9qc
                case ho9qc => (simp only [List.getElem?_toArray, List.getElem?_cons_zero, List.getElem?_cons_succ]; rfl)
                · skip
                  go_simp
                  rw [← Hw8.out]
                  refine hK.out _ _ trivial (fun hHeld2 => ?_)
                  clear hK K c1 f1 Hw8
                  try simp only [Act.put, List.setIfInBounds_toArray, List.set_cons_zero, List.set_cons_succ]
                  refine wpAnyH_done (by kernel_rfl) ?_ _
                  clear HT7 HTD HOP
                  go_wp2_with fail
                  go_roundw
                  case rel => first | exact ⟨q + 1, by omega, by go_num, HT8⟩ | ((repeat apply Exists.intro); exact ⟨⟨q + 1, by omega, by go_num, HT8⟩, rfl⟩)
                  case measure => simp [intOf] <;> omega
                · exact AllReadyH.nil
              · exact AllReadyH.nil
            · exact AllReadyH.nil
          · exact AllReadyH.nil
        · obtain rfl : q = 17 := by omega
          have HN : Hid (Sg w1 c p v S (k + 1) (k + 1) (k + 1) ((k + 1) * 17) ((k + 1) * 17) wr) := Lib.hid (by
            have h1 := HR2.out
            rwa [show k * 17 + 17 = (k + 1) * 17 by omega] at h1)
          go_wp2
          go_roundw
          case rel => first | exact ⟨k + 1, by omega, by go_num, HN⟩ | ((repeat apply Exists.intro); exact ⟨⟨k + 1, by omega, by go_num, HN⟩, rfl⟩)
          case measure => simp [intOf] <;> omega
    · obtain rfl : k = 17 := by omega
      have hne : S ≠ w.heap.size := fun e => by
        have h1 := HS.out
        have h2 := HR.out.lt
        have h3 := HB1.out.size
        omega
      have hRr := (HR.out.over HB1.out).over HT.out.below
      have hld := run_loadAt_mid (P := Try.prog) wr S 0 75 (sight c p v).toList _ (fun j u hj => by rw [Nat.zero_add, HT.out.blk.cell, ← Array.getElem?_toList]; exact hj) Try.underlying75 rfl (by rw [Array.length_toList, sight, rg_size]; kernel_rfl)
      rw [Array.toArray_toList] at hld
      obtain ⟨we, hwe, hRe⟩ := row_put (P := Try.prog) hRr (cs := sight c p v) (by rw [sight, rg_size]; kernel_rfl) (fun u hu => by rw [sight] at hu; exact rg_list_one (fun i => half_one c p HV1.out _ _ _ _ _ i) u hu)
      have hR0 := HR.out.lt
      have hs0 := HB0.out.size
      have hRsz : w.heap.size < w0.heap.size := hR0
      have HFIN : Hid (LookR w c p (.returned (.agg (sight c p v))) we ∧ Blk we w.heap.size 75 (sight c p v)) := by
        have hf := ((HF1.out.over HT.out.below).chg hRe.2 fun q hq _ e => by omega)
        have hb : Below w.heap.size w we := ((HB0.out.trans (HB1.out.mono hs0)).trans (HT.out.below.mono (Nat.le_trans hs0 HB1.out.size))).trans (hRe.2.to_below (Nat.le_trans (Nat.le_trans hs0 HB1.out.size) HT.out.below.size) fun q e => by omega)
        exact Lib.hid ⟨⟨v, rfl, hf.weak hs0, hb⟩, hRe.1⟩
      clear hRe hRr hR0 hRsz hs0 hne
      go_wp2_with fail
      refine wp_load_run 75 _ rfl hld ?_
      go_wp2_with fail
      clear hwe hld
      exact bodyPost_ret (results_cell_row (P := Try.prog) rfl _ we w.heap.size 75 (sight c p v) (0, 0) _ rfl HFIN.out.2 Try.underlying75 rfl (by rw [sight, rg_size]; kernel_rfl)) rfl HFIN.out.1
end Go.Proofs.Ytgfhmfhhobhojaa
