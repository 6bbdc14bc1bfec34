/-
  Valid messages by rising sender and number: the program's walk and the reference's.
-/
import Derived.Test.YtffcepaegcllmaaDoorPackV3
import Derived.StillTailTactics
import Derived.Deep.QuietTactic
import Derived.BigQuiet
import Derived.Outline
namespace Go.Proofs.YtffcepaegcllmaaDoor
open Go.RowKit

/-- A region that only reads ahead of its last operations, walked in the text's order. -/
theorem region_tail {P : Program} {id : Nat} {Q : Exit → Act → World → Prop} {a : Act} {w : World} {l : List Oper} (n : Nat) (hm : P.follows .mixedOrders = true) (hB : Region.lexTailB .any l.toArray n = true)
    (h : wpStill P l.toArray w.drew (fun a' => wpList P l.toArray Q (l.drop n) a' w.drew) (l.take n) a) : (Code.region id l.toArray true).wp P Q a w := wp_region_still_tail n hm hB h
def stepB (ml : List Msg) (k : Nat) : Bool := match ml[k]? with
  | none => true
  | some b => msgB b && (match (if k = 0 then none else ml[k - 1]?) with
    | none => true
    | some a => beforeB a b)
def risK (ml : List Msg) : Nat → Bool
  | 0 => true
  | k + 1 => risK ml k && stepB ml k
def rises (ml : List Msg) : Bool := risK ml ml.length
theorem risK_no {ml : List Msg} {k : Nat} (h : stepB ml k = false) : ∀ n, k < n → risK ml n = false
  | 0, hn => absurd hn (by omega)
  | n + 1, hn => by
    unfold risK
    by_cases e : k = n
    · subst e; rw [h, Bool.and_false]
    · rw [risK_no h n (by omega), Bool.false_and]
theorem stepB_zero {ml : List Msg} {b : Msg} (hb : ml[0]? = some b) : stepB ml 0 = msgB b := by simp [stepB, hb]
theorem stepB_succ {ml : List Msg} {a b : Msg} {k : Nat} (ha : ml[k]? = some a) (hb : ml[k + 1]? = some b) : stepB ml (k + 1) = (msgB b && beforeB a b) := by simp [stepB, ha, hb]
def forwardB (e l i c : Int) (ml : List Msg) : Bool := rises ml && wholeB e l i c && decide (1 ≤ ml.length) && decide (ml.length ≤ 128)
theorem MsgsAt.more {w : World} {B B' : Nat} {A : Option Addr} {n : Nat} {ml : List Msg} (h : MsgsAt w B A n ml) (hB : B ≤ B') : MsgsAt w B' A n ml :=
  ⟨h.1, fun m hm => ⟨(h.2.1 m hm).rd.more hB, (h.2.1 m hm).le, (h.2.1 m hm).cap, (h.2.1 m hm).sm⟩, fun hn => by
    obtain ⟨b, off, e, hlt, hc⟩ := h.2.2 hn
    exact ⟨b, off, e, by omega, hc⟩⟩
set_option maxRecDepth 100000 in
theorem before_any (a b : Msg) (w : World) : Calls Tryd.prog 128 #[.agg #[.int .i64 a.s, .int .i64 a.q, .int .i64 a.t, .slice a.A a.n a.cap], .agg #[.int .i64 b.s, .int .i64 b.q, .int .i64 b.t, .slice b.A b.n b.cap]] w fun r w' => r = .returned (.bool (beforeB a b)) ∧ Below w.heap.size w w' := by
  go_enter Tryd.func128, Tryd.ntmps128
  go_wp2
  all_goals go_ret
  all_goals
    refine ⟨ret_bool ?_, (one_box _ _).trans ((one_box _ _).mono (by simp))⟩
    simp_all [beforeB] <;> first | omega | (rw [Bool.eq_iff_iff]; simp; done) | (rw [Bool.eq_iff_iff]; simp; omega)
set_option maxRecDepth 100000 in
set_option maxHeartbeats 3200000 in
theorem validForward_any (e l i c : Int) (Am : Option Addr) (nm km : Nat) (ml : List Msg) (w : World) (hm : MsgsAt w w.heap.size Am nm ml) (hnm : nm ≤ 140737488351232) :
    Calls Tryd.prog 95 #[.agg #[.int .i64 e, .int .i64 l, .int .i64 i, .int .i64 c, .slice Am nm km]] w fun r w' => r = .returned (.bool (forwardB e l i c ml)) ∧ Below w.heap.size w w' := by
  have HL := Lib.hid hm.1
  have hb0 := one_box w (.cells #[.int .i64 e, .int .i64 l, .int .i64 i, .int .i64 c, .slice Am nm km] 43)
  have hO := Blk.new w 43 #[.int .i64 e, .int .i64 l, .int .i64 i, .int .i64 c, .slice Am nm km]
  obtain ⟨w0, hw0⟩ : ∃ w0, w0 = w.alloc (.cells #[.int .i64 e, .int .i64 l, .int .i64 i, .int .i64 c, .slice Am nm km] 43) := ⟨_, rfl⟩
  rw [← hw0] at hb0 hO
  have hz0 : w0.heap.size = w.heap.size + 1 := by rw [hw0]; simp
  have HW0 := Lib.hid hw0
  clear hw0
  have hm0 := hm.below hb0
  have HM := Lib.hid hm0
  go_enter Tryd.func95, Tryd.ntmps95
  go_wp2_with fail
  rw [← HW0.out]
  go_loopw [3, 4, 8] (fun _ _ i wr => ∃ k : Nat, k ≤ nm ∧ i = .int .i64 (k : Int) ∧ Hid (risK ml k = true) ∧ Below w0.heap.size w0 wr) (fun _ _ i _ => nm - (intOf i).toNat)
  case atStart => exact ⟨0, by omega, rfl, rfl, Below.refl _ _⟩
  case round =>
    obtain ⟨k, hk, rfl, HA, hbr⟩ := hrel
    have hOr := hO.over hbr
    have hsz := hbr.size
    have hOl := hOr.lt
    by_cases hlt : k < nm
    · obtain ⟨b, off, rfl, hbl, hcell⟩ := HM.out.2.2 (by omega)
      obtain ⟨m, hmk⟩ : ∃ m, ml[k]? = some m := ⟨_, List.getElem?_eq_getElem (by rw [HL.out]; exact hlt)⟩
      obtain ⟨d0, d1, d2, d3⟩ := hcell k m hmk
      have c0 := ((bcell hbr).1 b _ (by omega)).trans d0
      have c1 := ((bcell hbr).1 b _ (by omega)).trans d1
      have c2 := ((bcell hbr).1 b _ (by omega)).trans d2
      have c3 := ((bcell hbr).1 b _ (by omega)).trans d3
      have hltI : (k : Int) < (nm : Int) := by omega
      have hbl2 : b < wr.heap.size := by omega
      have HMK := Lib.hid hmk
      have HCELL := Lib.hid hcell
      clear hmk hcell d0 d1 d2 d3
      by_cases hv : msgB m = true
      · have HX := Lib.hid hv
        clear hv
        go_wp2_with fail
        refine (validData_any m.s m.q m.t m.A m.n m.cap _).mono ?_
        rintro _ w2 ⟨he, hb2⟩
        rw [show datB m.s m.q m.t m.n = msgB m from rfl, HX.out] at he
        subst he
        have hB1 := Blk.new wr 82 #[.int .i64 m.s, .int .i64 m.q, .int .i64 m.t, .slice m.A m.n m.cap]
        have hB2 := hB1.over hb2
        have hb12 := box_below hb2
        have hO2 := hOr.over hb12
        have hbr2 := Below.then hbr hb12
        clear hB1 hb2 c0 c1 c2 c3
        have q0 : w2.cell? ⟨w.heap.size, 0, none⟩ = some (.int .i64 e) := by rw [hO2.cell]; rfl
        have q1 : w2.cell? ⟨w.heap.size, 1, none⟩ = some (.int .i64 l) := by rw [hO2.cell]; rfl
        have q2 : w2.cell? ⟨w.heap.size, 2, none⟩ = some (.int .i64 i) := by rw [hO2.cell]; rfl
        have q3 : w2.cell? ⟨w.heap.size, 3, none⟩ = some (.int .i64 c) := by rw [hO2.cell]; rfl
        have q4 : w2.cell? ⟨w.heap.size, 4, none⟩ = some (.slice (some ⟨b, off, none⟩) nm km) := by rw [hO2.cell]; rfl
        have d0 : w2.cell? ⟨wr.heap.size, 0, none⟩ = some (.int .i64 m.s) := by rw [hB2.cell]; rfl
        have d1 : w2.cell? ⟨wr.heap.size, 1, none⟩ = some (.int .i64 m.q) := by rw [hB2.cell]; rfl
        have d2 : w2.cell? ⟨wr.heap.size, 2, none⟩ = some (.int .i64 m.t) := by rw [hB2.cell]; rfl
        have d3 : w2.cell? ⟨wr.heap.size, 3, none⟩ = some (.slice m.A m.n m.cap) := by rw [hB2.cell]; rfl
        have hs2 := hbr2.size
        by_cases hk0 : k = 0
        · subst hk0
          have HN := Lib.hid (show risK ml (0 + 1) = true by
            unfold risK
            rw [stepB_zero HMK.out, HX.out]
            rfl)
          go_wp2_with fail
          go_quiet (fail)
          have hbr3 := below_drewN hbr2 nq
          go_wp2
          go_roundw
          case rel => exact ⟨0 + 1, by omega, by go_num, HN.out, hbr3⟩
          case measure => simp [intOf] <;> omega
        · obtain ⟨a, ha⟩ : ∃ a, ml[k - 1]? = some a := ⟨_, List.getElem?_eq_getElem (by rw [HL.out]; omega)⟩
          obtain ⟨d0', d1', d2', d3'⟩ := HCELL.out (k - 1) a ha
          have e0 := ((bcell hbr2).1 b _ (by omega)).trans d0'
          have e1 := ((bcell hbr2).1 b _ (by omega)).trans d1'
          have e2 := ((bcell hbr2).1 b _ (by omega)).trans d2'
          have e3 := ((bcell hbr2).1 b _ (by omega)).trans d3'
          clear d0' d1' d2' d3'
          have hk1 : 0 < k := by omega
          have hk7 : (1 : Int) ≤ (k : Int) := by omega
          have hk8 : 1 ≤ k := by omega
          have hk5 : decide (0 < k) = true := by simpa using hk1
          have hk2 : (0 : Int) ≤ (k : Int) - 1 := by omega
          have hk3 : (k : Int) - 1 < (nm : Int) := by omega
          have hk4 : ((k : Int) - 1).toNat = k - 1 := by omega
          have HAA := Lib.hid ha
          clear ha
          by_cases hbf : beforeB a m = true
          · have HN := Lib.hid (show risK ml (k + 1) = true by
              unfold risK
              obtain ⟨k', rfl⟩ : ∃ k', k = k' + 1 := ⟨k - 1, by omega⟩
              rw [HA.out, stepB_succ (show ml[k']? = some a by simpa using HAA.out) HMK.out, HX.out, hbf]
              rfl)
            have HBF := Lib.hid hbf
            clear hbf
            go_wp2_with fail
            have hwr : IntKind.i64.wrap ((k : Int) - 1) = (k : Int) - 1 := IntWalk.i64_in _ (by omega)
            refine region_tail 10 (by kernel_rfl) (by kernel_rfl) ?_
            simp only [List.take_succ_cons, List.take_zero, List.drop_succ_cons, List.drop_zero]
            repeat (first | still_step | (refine wpStill_step (fun K hK => ?_); rw [if_pos (by kernel_rfl)]; go_simp; refine hK _ ?_; clear hK K))
            refine wpStill_nil ?_
            clear hwr
            go_wp2_with (go_at_call 128; refine (before_any a m _).mono ?_; rintro _ w3 ⟨he, hb3⟩; rw [HBF.out] at he; subst he; have hbr3 := Below.then (show Below w0.heap.size w0 w2.drew from below_drewN hbr2 1) hb3)
            go_roundw
            case rel => exact ⟨k + 1, by omega, by go_num, HN.out, hbr3⟩
            case measure => simp [intOf] <;> omega
          · have HBF := Lib.hid (show beforeB a m = false by simpa using hbf)
            have HN := Lib.hid (show rises ml = false by
              refine risK_no (k := k) ?_ _ (by rw [HL.out]; exact hlt)
              obtain ⟨k', rfl⟩ : ∃ k', k = k' + 1 := ⟨k - 1, by omega⟩
              rw [stepB_succ (show ml[k']? = some a by simpa using HAA.out) HMK.out, HBF.out, Bool.and_false])
            clear hbf
            go_wp2_with fail
            have hwr : IntKind.i64.wrap ((k : Int) - 1) = (k : Int) - 1 := IntWalk.i64_in _ (by omega)
            refine region_tail 10 (by kernel_rfl) (by kernel_rfl) ?_
            simp only [List.take_succ_cons, List.take_zero, List.drop_succ_cons, List.drop_zero]
            repeat (first | still_step | (refine wpStill_step (fun K hK => ?_); rw [if_pos (by kernel_rfl)]; go_simp; refine hK _ ?_; clear hK K))
            refine wpStill_nil ?_
            clear hwr
            go_wp2_with (go_at_call 128; refine (before_any a m _).mono ?_; rintro _ w3 ⟨he, hb3⟩; rw [HBF.out] at he; subst he; have hbr3 := Below.then (show Below w0.heap.size w0 w2.drew from below_drewN hbr2 1) hb3)
            go_ret
            refine ⟨ret_bool ?_, Below.then hb0 hbr3⟩
            unfold forwardB
            rw [HN.out]
            rfl
      · have HX := Lib.hid (show msgB m = false by simpa using hv)
        clear hv
        go_wp2_with fail
        refine (validData_any m.s m.q m.t m.A m.n m.cap _).mono ?_
        rintro _ w2 ⟨he, hb2⟩
        rw [show datB m.s m.q m.t m.n = msgB m from rfl, HX.out] at he
        subst he
        have hbn := Below.then hb0 (Below.then hbr (box_below hb2))
        clear hb2 c0 c1 c2 c3
        go_wp2
        go_ret
        refine ⟨ret_bool ?_, hbn⟩
        have : rises ml = false := by
          refine risK_no (k := k) ?_ _ (by rw [HL.out]; exact hlt)
          unfold stepB
          rw [HMK.out]
          simp [HX.out]
        simp [forwardB, this]
    · obtain rfl : k = nm := by omega
      have hR : rises ml = true := by unfold rises; rw [HL.out]; exact HA.out
      have HR := Lib.hid hR
      clear hR
      have q0 : wr.cell? ⟨w.heap.size, 0, none⟩ = some (.int .i64 e) := by rw [hOr.cell]; rfl
      have q1 : wr.cell? ⟨w.heap.size, 1, none⟩ = some (.int .i64 l) := by rw [hOr.cell]; rfl
      have q2 : wr.cell? ⟨w.heap.size, 2, none⟩ = some (.int .i64 i) := by rw [hOr.cell]; rfl
      have q3 : wr.cell? ⟨w.heap.size, 3, none⟩ = some (.int .i64 c) := by rw [hOr.cell]; rfl
      have q4 : wr.cell? ⟨w.heap.size, 4, none⟩ = some (.slice Am k km) := by rw [hOr.cell]; rfl
      go_wp2_with fail
      refine (whole_any _ _ _ _ _).mono ?_
      rintro _ w2 ⟨rfl, hb2⟩
      have hO2 := hOr.over hb2
      have hbn := Below.then hb0 (Below.then hbr hb2)
      clear q0 q1 q2 q3 q4
      have q0 : w2.cell? ⟨w.heap.size, 0, none⟩ = some (.int .i64 e) := by rw [hO2.cell]; rfl
      have q1 : w2.cell? ⟨w.heap.size, 1, none⟩ = some (.int .i64 l) := by rw [hO2.cell]; rfl
      have q2 : w2.cell? ⟨w.heap.size, 2, none⟩ = some (.int .i64 i) := by rw [hO2.cell]; rfl
      have q3 : w2.cell? ⟨w.heap.size, 3, none⟩ = some (.int .i64 c) := by rw [hO2.cell]; rfl
      have q4 : w2.cell? ⟨w.heap.size, 4, none⟩ = some (.slice Am k km) := by rw [hO2.cell]; rfl
      have hlt2 := hO2.lt
      go_wp2
      all_goals go_ret
      all_goals refine ⟨ret_bool ?_, hbn⟩
      all_goals
        have h1 := HR.out
        have h2 := HL.out
        simp_all [forwardB] <;> first | omega | (intros; omega) | (rw [Bool.eq_iff_iff]; simp; omega)
set_option maxRecDepth 100000 in
set_option maxHeartbeats 3200000 in
theorem rising_any (Am : Option Addr) (nm km : Nat) (ml : List Msg) (w : World) (hm : MsgsAt w w.heap.size Am nm ml) (hnm : nm ≤ 140737488351232) :
    Calls Tryd.prog 125 #[.slice Am nm km] w fun r w' => r = .returned (.bool (rises ml)) ∧ Below w.heap.size w w' := by
  have HL := Lib.hid hm.1
  have HM := Lib.hid hm
  go_enter Tryd.func125, Tryd.ntmps125
  go_wp2_with fail
  go_loopw [3] (fun i wr => ∃ k : Nat, k ≤ nm ∧ i = .int .i64 (k : Int) ∧ Hid (risK ml k = true) ∧ Below w.heap.size w wr) (fun i _ => nm - (intOf i).toNat)
  case atStart => exact ⟨0, by omega, rfl, rfl, Below.refl _ _⟩
  case round =>
    obtain ⟨k, hk, rfl, HA, hbr⟩ := hrel
    have hsz := hbr.size
    by_cases hlt : k < nm
    · obtain ⟨b, off, rfl, hbl, hcell⟩ := HM.out.2.2 (by omega)
      obtain ⟨m, hmk⟩ : ∃ m, ml[k]? = some m := ⟨_, List.getElem?_eq_getElem (by rw [HL.out]; exact hlt)⟩
      obtain ⟨d0, d1, d2, d3⟩ := hcell k m hmk
      have c0 := ((bcell hbr).1 b _ (by omega)).trans d0
      have c1 := ((bcell hbr).1 b _ (by omega)).trans d1
      have c2 := ((bcell hbr).1 b _ (by omega)).trans d2
      have c3 := ((bcell hbr).1 b _ (by omega)).trans d3
      have hltI : (k : Int) < (nm : Int) := by omega
      have hbl2 : b < wr.heap.size := by omega
      have HMK := Lib.hid hmk
      have HCELL := Lib.hid hcell
      clear hmk hcell d0 d1 d2 d3
      by_cases hv : msgB m = true
      · have HX := Lib.hid hv
        clear hv
        go_wp2_with fail
        refine (GoodData_any m.s m.q m.t m.A m.n m.cap _).mono ?_
        rintro _ w2 ⟨he, hb2⟩
        rw [show datB m.s m.q m.t m.n = msgB m from rfl, HX.out] at he
        subst he
        have hbr2 := Below.then hbr hb2
        clear c0 c1 c2 c3
        obtain ⟨d0', d1', _, _⟩ := HCELL.out k m HMK.out
        have c0 := ((bcell hbr2).1 b _ (by omega)).trans d0'
        have c1 := ((bcell hbr2).1 b _ (by omega)).trans d1'
        clear d0' d1'
        by_cases hk0 : k = 0
        · subst hk0
          have HN := Lib.hid (show risK ml (0 + 1) = true by
            unfold risK
            rw [stepB_zero HMK.out, HX.out]
            rfl)
          go_wp2_with fail
          go_quiet (fail)
          have hbr3 := below_drewN hbr2 nq
          go_wp2
          go_roundw
          case rel => exact ⟨0 + 1, by omega, by go_num, HN.out, hbr3⟩
          case measure => simp [intOf] <;> omega
        · obtain ⟨a, ha⟩ : ∃ a, ml[k - 1]? = some a := ⟨_, List.getElem?_eq_getElem (by rw [HL.out]; omega)⟩
          obtain ⟨d0', d1', _, _⟩ := HCELL.out (k - 1) a ha
          have e0 := ((bcell hbr2).1 b _ (by omega)).trans d0'
          have e1 := ((bcell hbr2).1 b _ (by omega)).trans d1'
          clear d0' d1'
          have hk1 : 0 < k := by omega
          have hk7 : (1 : Int) ≤ (k : Int) := by omega
          have hk8 : 1 ≤ k := by omega
          have hk5 : decide (0 < k) = true := by simpa using hk1
          have hk2 : (0 : Int) ≤ (k : Int) - 1 := by omega
          have hk3 : (k : Int) - 1 < (nm : Int) := by omega
          have hk4 : ((k : Int) - 1).toNat = k - 1 := by omega
          have HAA := Lib.hid ha
          clear ha
          go_wp2_with fail
          by_cases h1 : m.s < a.s
          · have hbf : beforeB a m = false := by
              simp only [beforeB, Bool.or_eq_false_iff, Bool.and_eq_false_iff, decide_eq_false_iff_not]; omega
            have f1 : decide (m.s < a.s) = true := by simpa using h1
            clear h1
            have HN := Lib.hid (show rises ml = false by
              refine risK_no (k := k) ?_ _ (by rw [HL.out]; exact hlt)
              obtain ⟨k', rfl⟩ : ∃ k', k = k' + 1 := ⟨k - 1, by omega⟩
              rw [stepB_succ (show ml[k']? = some a by simpa using HAA.out) HMK.out, hbf, Bool.and_false])
            clear hbf
            have hwr : IntKind.i64.wrap ((k : Int) - 1) = (k : Int) - 1 := IntWalk.i64_in _ (by omega)
            go_quiet (fail)
            clear hwr
            have hbr3 := below_drewN hbr2 nq
            go_wp2
            go_ret
            exact ⟨ret_bool HN.out.symm, hbr3⟩
          · have f1 : decide (m.s < a.s) = false := by simpa using h1
            by_cases h2 : m.s = a.s
            · have f2 : (m.s == a.s) = true := by simpa using h2
              by_cases h3 : m.q ≤ a.q
              · have hbf : beforeB a m = false := by
                  simp only [beforeB, Bool.or_eq_false_iff, Bool.and_eq_false_iff, decide_eq_false_iff_not]; omega
                have f3 : decide (m.q ≤ a.q) = true := by simpa using h3
                clear h1 h2 h3
                have HN := Lib.hid (show rises ml = false by
                  refine risK_no (k := k) ?_ _ (by rw [HL.out]; exact hlt)
                  obtain ⟨k', rfl⟩ : ∃ k', k = k' + 1 := ⟨k - 1, by omega⟩
                  rw [stepB_succ (show ml[k']? = some a by simpa using HAA.out) HMK.out, hbf, Bool.and_false])
                clear hbf
                have hwr : IntKind.i64.wrap ((k : Int) - 1) = (k : Int) - 1 := IntWalk.i64_in _ (by omega)
                go_quiet (fail)
                clear hwr
                have hbr3 := below_drewN hbr2 nq
                go_wp2
                go_ret
                exact ⟨ret_bool HN.out.symm, hbr3⟩
              · have hbf : beforeB a m = true := by
                  simp only [beforeB, Bool.or_eq_true, Bool.and_eq_true, decide_eq_true_eq]; omega
                have f3 : decide (m.q ≤ a.q) = false := by simpa using h3
                clear h1 h2 h3
                have HN := Lib.hid (show risK ml (k + 1) = true by
                  unfold risK
                  obtain ⟨k', rfl⟩ : ∃ k', k = k' + 1 := ⟨k - 1, by omega⟩
                  rw [HA.out, stepB_succ (show ml[k']? = some a by simpa using HAA.out) HMK.out, HX.out, hbf]
                  rfl)
                clear hbf
                have hwr : IntKind.i64.wrap ((k : Int) - 1) = (k : Int) - 1 := IntWalk.i64_in _ (by omega)
                go_quiet (fail)
                clear hwr
                have hbr3 := below_drewN hbr2 nq
                go_wp2
                go_roundw
                case rel => exact ⟨k + 1, by omega, by go_num, HN.out, hbr3⟩
                case measure => simp [intOf] <;> omega
            · have f2 : (m.s == a.s) = false := by simpa using h2
              have hbf : beforeB a m = true := by
                simp only [beforeB, Bool.or_eq_true, Bool.and_eq_true, decide_eq_true_eq]; omega
              clear h1 h2
              have HN := Lib.hid (show risK ml (k + 1) = true by
                unfold risK
                obtain ⟨k', rfl⟩ : ∃ k', k = k' + 1 := ⟨k - 1, by omega⟩
                rw [HA.out, stepB_succ (show ml[k']? = some a by simpa using HAA.out) HMK.out, HX.out, hbf]
                rfl)
              clear hbf
              have hwr : IntKind.i64.wrap ((k : Int) - 1) = (k : Int) - 1 := IntWalk.i64_in _ (by omega)
              go_quiet (fail)
              clear hwr
              have hbr3 := below_drewN hbr2 nq
              go_wp2
              go_roundw
              case rel => exact ⟨k + 1, by omega, by go_num, HN.out, hbr3⟩
              case measure => simp [intOf] <;> omega
      · have HX := Lib.hid (show msgB m = false by simpa using hv)
        clear hv
        go_wp2_with fail
        refine (GoodData_any m.s m.q m.t m.A m.n m.cap _).mono ?_
        rintro _ w2 ⟨he, hb2⟩
        rw [show datB m.s m.q m.t m.n = msgB m from rfl, HX.out] at he
        subst he
        have hbn := Below.then hbr hb2
        clear hb2 c0 c1 c2 c3
        go_wp2
        go_ret
        refine ⟨ret_bool ?_, hbn⟩
        have : rises ml = false := by
          refine risK_no (k := k) ?_ _ (by rw [HL.out]; exact hlt)
          unfold stepB
          rw [HMK.out]
          simp [HX.out]
        exact this.symm
    · obtain rfl : k = nm := by omega
      have hR : rises ml = true := by unfold rises; rw [HL.out]; exact HA.out
      have HR := Lib.hid hR
      clear hR
      go_wp2
      go_ret
      exact ⟨ret_bool HR.out.symm, hbr⟩
set_option maxRecDepth 100000 in
set_option maxHeartbeats 1600000 in
theorem goodForward_any (e l i c : Int) (Am : Option Addr) (nm km : Nat) (ml : List Msg) (w : World) (hm : MsgsAt w w.heap.size Am nm ml) (hnm : nm ≤ 140737488351232) :
    Calls Tryd.prog 81 #[.agg #[.int .i64 e, .int .i64 l, .int .i64 i, .int .i64 c, .slice Am nm km]] w fun r w' => r = .returned (.bool (forwardB e l i c ml)) ∧ Below w.heap.size w w' := by
  have HL := Lib.hid hm.1
  have hb0 := one_box w (.cells #[.int .i64 e, .int .i64 l, .int .i64 i, .int .i64 c, .slice Am nm km] 43)
  have hO := Blk.new w 43 #[.int .i64 e, .int .i64 l, .int .i64 i, .int .i64 c, .slice Am nm km]
  obtain ⟨w0, hw0⟩ : ∃ w0, w0 = w.alloc (.cells #[.int .i64 e, .int .i64 l, .int .i64 i, .int .i64 c, .slice Am nm km] 43) := ⟨_, rfl⟩
  rw [← hw0] at hb0 hO
  have HW0 := Lib.hid hw0
  clear hw0
  go_enter Tryd.func81, Tryd.ntmps81
  go_wp2_with fail
  rw [← HW0.out]
  refine (Whole_any _ _ _ _ _).mono ?_
  rintro _ w2 ⟨rfl, hb2⟩
  have hO2 := hO.over hb2
  have hbn := Below.then hb0 hb2
  have hm2 := MsgsAt.below hm (hb0.trans (hb2.mono hb0.size))
  have q0 : w2.cell? ⟨w.heap.size, 0, none⟩ = some (.int .i64 e) := by rw [hO2.cell]; rfl
  have q1 : w2.cell? ⟨w.heap.size, 1, none⟩ = some (.int .i64 l) := by rw [hO2.cell]; rfl
  have q2 : w2.cell? ⟨w.heap.size, 2, none⟩ = some (.int .i64 i) := by rw [hO2.cell]; rfl
  have q3 : w2.cell? ⟨w.heap.size, 3, none⟩ = some (.int .i64 c) := by rw [hO2.cell]; rfl
  have q4 : w2.cell? ⟨w.heap.size, 4, none⟩ = some (.slice Am nm km) := by rw [hO2.cell]; rfl
  have hlt2 := hO2.lt
  have hs2 := hbn.size
  have hwi : withinB (nm : Int) 1 128 = (decide (1 ≤ ml.length) && decide (ml.length ≤ 128)) := by
    rw [HL.out]; unfold withinB; rw [Bool.eq_iff_iff]; simp <;> omega
  have HWI := Lib.hid hwi
  clear hwi
  go_wp2_with (first
    | (go_at_call 73; refine (Within_any _ _ _ _).mono ?_; rintro _ _ ⟨he, rfl⟩; rw [HWI.out] at he; subst he)
    | (go_at_call 125; refine (rising_any Am nm km ml _ (MsgsAt.more hm2 hs2) hnm).mono ?_; rintro _ w3 ⟨rfl, hb3⟩))
  all_goals go_ret
  all_goals refine ⟨ret_bool ?_, ?_⟩
  all_goals try first | exact hbn | exact Below.then hbn hb3
  all_goals
    simp_all [forwardB] <;> first | omega | (intros; omega) | (rw [Bool.eq_iff_iff]; simp; done) | (rw [Bool.eq_iff_iff]; simp; omega)
end Go.Proofs.YtffcepaegcllmaaDoor
