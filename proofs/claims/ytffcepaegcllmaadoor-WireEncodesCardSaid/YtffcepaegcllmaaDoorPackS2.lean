/-
  The reference's comparisons of proposals, contents, frames: alike ones are told so.
-/
import Derived.Test.YtffcepaegcllmaaDoorPackS
namespace Go.Proofs.YtffcepaegcllmaaDoor
open Go.RowKit

theorem two_box (w : World) (o o' : Obj) : Below w.heap.size w ((w.alloc o).alloc o') := Below.then (one_box w o) (one_box _ o')
set_option maxRecDepth 100000 in
set_option maxHeartbeats 1600000 in
theorem SamePropose_yes (A1 A1' A2 A2' : Option Addr) (n1 k1 n1' k1' n2 k2 n2' k2' B B' : Nat) (l1 l2 : List Int) (c1 c2 c3 d1 d2 d3 d4 : Int) (w : World) (h1 : RdI w B A1 n1 l1) (h1' : RdI w B' A1' n1' l1) (h2 : RdI w B A2 n2 l2) (h2' : RdI w B' A2' n2' l2) (hB : B ≤ w.heap.size) (hB' : B' ≤ w.heap.size) (hn1 : n1 ≤ 9223372036854775807) (hn2 : n2 ≤ 9223372036854775807) :
    Calls Tryd.prog 43 #[.agg #[.slice A1 n1 k1, .int .i64 c1, .int .i64 c2, .int .i64 c3, .int .i64 d1, .int .i64 d2, .int .i64 d3, .int .i64 d4, .slice A2 n2 k2], .agg #[.slice A1' n1' k1', .int .i64 c1, .int .i64 c2, .int .i64 c3, .int .i64 d1, .int .i64 d2, .int .i64 d3, .int .i64 d4, .slice A2' n2' k2']] w fun e w' => e = .returned (.bool true) ∧ Below w.heap.size w w' := by
  have hw := two_box w (.cells #[.slice A1 n1 k1, .int .i64 c1, .int .i64 c2, .int .i64 c3, .int .i64 d1, .int .i64 d2, .int .i64 d3, .int .i64 d4, .slice A2 n2 k2] 30) (.cells #[.slice A1' n1' k1', .int .i64 c1, .int .i64 c2, .int .i64 c3, .int .i64 d1, .int .i64 d2, .int .i64 d3, .int .i64 d4, .slice A2' n2' k2'] 30)
  go_enter Tryd.func43, Tryd.ntmps43
  go_wp2_with fail
  refine (SameInts_yes A1 A1' n1 n1' k1 k1' B B' l1 _ (h1.below (hw.mono hB)) (h1'.below (hw.mono hB')) hn1).mono ?_
  rintro _ w1 ⟨rfl, hb1⟩
  obtain ⟨hc1, hf1⟩ := bcell hb1
  have hw1 := Below.then hw hb1
  go_wp2_with (go_at_call 42; refine (SameInts_yes A2 A2' n2 n2' k2 k2' B B' l2 _ (h2.below (hw1.mono hB)) (h2'.below (hw1.mono hB')) hn2).mono ?_; rintro _ w2 ⟨rfl, hb2⟩)
  all_goals go_ret
  all_goals exact ⟨rfl, Below.then hw1 hb2⟩
set_option maxRecDepth 100000 in
set_option maxHeartbeats 1600000 in
theorem SameFlush_yes (A1 A1' A2 A2' : Option Addr) (n1 k1 n1' k1' n2 k2 n2' k2' B B' : Nat) (l1 : List (Int × Int)) (l2 : List Int) (d1 d2 d3 d4 c1 : Int) (w : World) (h1 : SlotsAt w B A1 n1 l1) (h1' : SlotsAt w B' A1' n1' l1) (h2 : RdI w B A2 n2 l2) (h2' : RdI w B' A2' n2' l2) (hB : B ≤ w.heap.size) (hB' : B' ≤ w.heap.size) (hn1 : n1 ≤ 9223372036854775807) (hn2 : n2 ≤ 9223372036854775807) :
    Calls Tryd.prog 44 #[.agg #[.int .i64 d1, .int .i64 d2, .int .i64 d3, .int .i64 d4, .int .i64 c1, .slice A1 n1 k1, .slice A2 n2 k2], .agg #[.int .i64 d1, .int .i64 d2, .int .i64 d3, .int .i64 d4, .int .i64 c1, .slice A1' n1' k1', .slice A2' n2' k2']] w fun e w' => e = .returned (.bool true) ∧ Below w.heap.size w w' := by
  have hw := two_box w (.cells #[.int .i64 d1, .int .i64 d2, .int .i64 d3, .int .i64 d4, .int .i64 c1, .slice A1 n1 k1, .slice A2 n2 k2] 33) (.cells #[.int .i64 d1, .int .i64 d2, .int .i64 d3, .int .i64 d4, .int .i64 c1, .slice A1' n1' k1', .slice A2' n2' k2'] 33)
  go_enter Tryd.func44, Tryd.ntmps44
  go_wp2_with fail
  refine (SameSlots_yes A1 A1' n1 n1' k1 k1' B B' l1 _ (h1.below (hw.mono hB)) (h1'.below (hw.mono hB')) (Nat.le_trans hB hw.size) (Nat.le_trans hB' hw.size) hn1).mono ?_
  rintro _ w1 ⟨rfl, hb1⟩
  obtain ⟨hc1, hf1⟩ := bcell hb1
  have hw1 := Below.then hw hb1
  go_wp2_with (go_at_call 42; refine (SameInts_yes A2 A2' n2 n2' k2 k2' B B' l2 _ (h2.below (hw1.mono hB)) (h2'.below (hw1.mono hB')) hn2).mono ?_; rintro _ w2 ⟨rfl, hb2⟩)
  all_goals go_ret
  all_goals exact ⟨rfl, Below.then hw1 hb2⟩
set_option maxRecDepth 100000 in
set_option maxHeartbeats 1600000 in
theorem SameFrame_yes (A1 A1' : Option Addr) (n1 k1 n1' k1' B B' : Nat) (l1 : List UInt8) (d1 d2 d3 d4 c1 : Int) (w : World) (h1 : RdB w B A1 n1 l1) (h1' : RdB w B' A1' n1' l1) (hB : B ≤ w.heap.size) (hB' : B' ≤ w.heap.size) (hn1 : n1 ≤ 9223372036854775807) :
    Calls Tryd.prog 45 #[.agg #[.int .i64 d1, .int .i64 d2, .int .i64 d3, .int .i64 d4, .int .i64 c1, .slice A1 n1 k1], .agg #[.int .i64 d1, .int .i64 d2, .int .i64 d3, .int .i64 d4, .int .i64 c1, .slice A1' n1' k1']] w fun e w' => e = .returned (.bool true) ∧ Below w.heap.size w w' := by
  have hw := two_box w (.cells #[.int .i64 d1, .int .i64 d2, .int .i64 d3, .int .i64 d4, .int .i64 c1, .slice A1 n1 k1] 38) (.cells #[.int .i64 d1, .int .i64 d2, .int .i64 d3, .int .i64 d4, .int .i64 c1, .slice A1' n1' k1'] 38)
  go_enter Tryd.func45, Tryd.ntmps45
  go_wp2_with (go_at_call 14; refine (SameBytes_b A1 A1' n1 n1' k1 k1' B B' l1 _ (h1.below (hw.mono hB)) (h1'.below (hw.mono hB')) hn1).mono ?_; rintro _ w2 ⟨rfl, hb2⟩)
  all_goals go_ret
  all_goals exact ⟨rfl, Below.then hw hb2⟩
end Go.Proofs.YtffcepaegcllmaaDoor
