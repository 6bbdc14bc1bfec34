/-
  JournalApplies: both costs, walked.
-/
import Derived.Test.YtpkdalpjfcopbaaDoorAPure
import Derived.Test.YtpkdalpjfcopbaaDoorTy
import Derived.Test.YtpkdalpjfcopbaaDoorProg
import Derived.Test.YtpkdalpjfcopbaaDoorApp
import Derived.Test.YtpkdalpjfcopbaaDoorFrame
import Derived.Lib.Hide
import Derived.IntWalk
import Derived.Deep.QuietTactic
import Derived.BigQuiet
import Derived.WalkSpells
import Derived.WalkLawsBesides
import Derived.Outline
import Derived.RegionTactic
import Derived.BigRegion
import Derived.Deep.CutRange
import Derived.StillTailTactics
import Derived.Deep.RegionHeld3
import Derived.Laws.IdiomStrings
import Derived.Lib.BufferRead
namespace Go.Proofs.YtpkdalpjfcopbaaDoor
open Go.RowKit
theorem one_box' (w : World) (o : Obj) : Below w.heap.size w (w.alloc o) := (Below.refl _ _).alloc (Nat.le_refl _) o
/-- A list of writes in memory. -/
structure WsAt (w : World) (A : Option Addr) (n : Nat) (ws : List Wr) : Prop where
  len : n = ws.length
  at_ : ∀ k x, ws[k]? = some x → ∃ g o bA bc, A = some ⟨g, o, none⟩ ∧ g < w.heap.size ∧ w.cell? ⟨g, o + k * 3, none⟩ = some (.int .i64 x.file) ∧ w.cell? ⟨g, o + k * 3 + 1, none⟩ = some (.bool x.start) ∧ w.cell? ⟨g, o + k * 3 + 2, none⟩ = some (.slice bA x.bs.length bc) ∧ RdB w w.heap.size bA x.bs.length x.bs ∧ x.bs.length ≤ bc
theorem WsAt.below {w w' : World} {A : Option Addr} {n : Nat} {ws : List Wr} (h : WsAt w A n ws) (hb : Below w.heap.size w w') : WsAt w' A n ws := by
  refine ⟨h.len, fun k x hk => ?_⟩
  obtain ⟨g, o, bA, bc, e, hg, c0, c1, c2, hr, hcp⟩ := h.at_ k x hk
  exact ⟨g, o, bA, bc, e, Nat.lt_of_lt_of_le hg hb.size, (hb.cell (p := ⟨g, o + k * 3, none⟩) hg).trans c0, (hb.cell (p := ⟨g, o + k * 3 + 1, none⟩) hg).trans c1, (hb.cell (p := ⟨g, o + k * 3 + 2, none⟩) hg).trans c2, (hr.below hb).more hb.size, hcp⟩
theorem cost_take {ws : List Wr} {k : Nat} {x : Wr} (h : ws[k]? = some x) : costW (ws.take (k + 1)) = costW (ws.take k) + x.cost := by
  rw [List.take_add_one, h]
  simp [costW]
theorem costW_le (ws : List Wr) (k : Nat) : costW (ws.take k) ≤ costW ws := by
  rw [costW, costW, List.map_take]
  conv => rhs; rw [← List.take_append_drop k (ws.map Wr.cost), List.sum_append]
  omega
set_option maxRecDepth 100000 in
set_option maxHeartbeats 3200000 in
theorem PCost_any {w : World} (A : Option Addr) (n cap : Nat) (ws : List Wr) (h : WsAt w A n ws) (hc : costW ws ≤ 4611686018427387904) (hn : n ≤ 1099511627776) : Calls Tryd.prog 36 #[.slice A n cap] w fun e w' => e = .returned (.int .i64 (costW ws : Int)) ∧ Below w.heap.size w w' := by
  have H := Lib.hid h
  have HL : Hid (n = ws.length) := Lib.hid h.len
  clear h
  go_enter Tryd.func36, Tryd.ntmps36
  go_wp2_with fail
  go_loopw [3, 8] (fun s i wr => ∃ k : Nat, k ≤ n ∧ i = .int .i64 (k : Int) ∧ s = .int .i64 (costW (ws.take k) : Int) ∧ Hid (Below w.heap.size w wr)) (fun _ i _ => n - (intOf i).toNat)
  case atStart => exact ⟨0, by omega, rfl, by simp [costW], Lib.hid (Below.refl _ _)⟩
  case round =>
    obtain ⟨k, hk, rfl, rfl, HW⟩ := hrel
    have hle := costW_le ws k
    by_cases hlt : k < n
    · have hI : (k : Int) < (n : Int) := by omega
      obtain ⟨x, hx⟩ : ∃ x, ws[k]? = some x := ⟨ws[k]'(by rw [← HL.out]; exact hlt), List.getElem?_eq_getElem _⟩
      obtain ⟨g, o, bA, bc, rfl, _, c0, c1, c2, hr⟩ := (H.out.below HW.out).at_ k x hx
      
      have ht := cost_take hx
      have hle2 := costW_le ws (k + 1)
      obtain ⟨q, hq⟩ : ∃ q, q = costW (ws.take k) := ⟨_, rfl⟩
      rw [← hq] at ht hle ⊢
      clear hr hq hx
      have hb2 := one_box' wr (.cells #[.int .i64 x.file, .bool x.start, .slice bA x.bs.length bc] 94)
      have hE := Blk.new wr 94 #[.int .i64 x.file, .bool x.start, .slice bA x.bs.length bc]
      obtain ⟨w2, hw2⟩ : ∃ w2, w2 = wr.alloc (.cells #[.int .i64 x.file, .bool x.start, .slice bA x.bs.length bc] 94) := ⟨_, rfl⟩
      rw [← hw2] at hb2 hE
      have HN : Hid (Below w.heap.size w w2) := Lib.hid (HW.out.trans (hb2.mono HW.out.size))
      have hz0 : w2.cell? ⟨wr.heap.size, 0, none⟩ = some (.int .i64 x.file) := hE.cell 0
      have hz1 : w2.cell? ⟨wr.heap.size, 1, none⟩ = some (.bool x.start) := hE.cell 1
      have hz2 : w2.cell? ⟨wr.heap.size, 2, none⟩ = some (.slice bA x.bs.length bc) := hE.cell 2
      have HW2 := Lib.hid hw2
      clear hb2 hE hw2
      go_upto_region 5 with fail
      rw [← HW2.out]
      clear c0 c1 c2
      by_cases f0 : x.file = 0
      · have d0 : (x.file == 0) = true := by simpa using f0
        have b0 : (x.file != 0) = false := by simpa using f0
        have hok : x.ok = true := by simp [Wr.ok, f0]
        have hcx : x.cost = (if x.start = true then 1 else 0) + x.bs.length := by unfold Wr.cost; rw [if_pos hok]
        cases hs : x.start with
        | true =>
          rw [hs] at hz1 hcx
          have hcx2 : costW (ws.take (k + 1)) = q + x.bs.length + 1 := by rw [ht, hcx]; simp; omega
          have w1 : IntKind.i64.wrap ((q : Int) + 1) = (q : Int) + 1 := IntWalk.i64_in _ (by omega)
          have w2 : IntKind.i64.wrap ((q : Int) + 1 + (x.bs.length : Int)) = (q : Int) + 1 + (x.bs.length : Int) := IntWalk.i64_in _ (by omega)
          have HX := Lib.hid hcx2
          clear ht hle2 hcx hcx2 hok
          go_wp2
          go_roundw
          case rel => exact ⟨k + 1, by omega, by go_num, by rw [HX.out] <;> first | rfl | (congr 1; omega) | congr 1, HN⟩
          case measure => simp [intOf] <;> omega
        | false =>
          rw [hs] at hz1 hcx
          have hcx2 : costW (ws.take (k + 1)) = q + x.bs.length := by rw [ht, hcx]; simp
          have w1 : IntKind.i64.wrap ((q : Int) + (x.bs.length : Int)) = (q : Int) + (x.bs.length : Int) := IntWalk.i64_in _ (by omega)
          have HX := Lib.hid hcx2
          clear ht hle2 hcx hcx2 hok
          go_wp2
          go_roundw
          case rel => exact ⟨k + 1, by omega, by go_num, by rw [HX.out] <;> first | rfl | (congr 1; omega) | congr 1, HN⟩
          case measure => simp [intOf] <;> omega
      · have d0 : (x.file == 0) = false := by simpa using f0
        have b0 : (x.file != 0) = true := by simpa using f0
        by_cases f1 : x.file = 1
        · have d1 : (x.file == 1) = true := by simpa using f1
          have b1 : (x.file != 1) = false := by simpa using f1
          have hok : x.ok = true := by simp [Wr.ok, f1]
          have hcx : x.cost = (if x.start = true then 1 else 0) + x.bs.length := by unfold Wr.cost; rw [if_pos hok]
          cases hs : x.start with
          | true =>
            rw [hs] at hz1 hcx
            have hcx2 : costW (ws.take (k + 1)) = q + x.bs.length + 1 := by rw [ht, hcx]; simp; omega
            have w1 : IntKind.i64.wrap ((q : Int) + 1) = (q : Int) + 1 := IntWalk.i64_in _ (by omega)
            have w2 : IntKind.i64.wrap ((q : Int) + 1 + (x.bs.length : Int)) = (q : Int) + 1 + (x.bs.length : Int) := IntWalk.i64_in _ (by omega)
            have HX := Lib.hid hcx2
            clear ht hle2 hcx hcx2 hok
            go_wp2
            go_roundw
            case rel => exact ⟨k + 1, by omega, by go_num, by rw [HX.out] <;> first | rfl | (congr 1; omega) | congr 1, HN⟩
            case measure => simp [intOf] <;> omega
          | false =>
            rw [hs] at hz1 hcx
            have hcx2 : costW (ws.take (k + 1)) = q + x.bs.length := by rw [ht, hcx]; simp
            have w1 : IntKind.i64.wrap ((q : Int) + (x.bs.length : Int)) = (q : Int) + (x.bs.length : Int) := IntWalk.i64_in _ (by omega)
            have HX := Lib.hid hcx2
            clear ht hle2 hcx hcx2 hok
            go_wp2
            go_roundw
            case rel => exact ⟨k + 1, by omega, by go_num, by rw [HX.out] <;> first | rfl | (congr 1; omega) | congr 1, HN⟩
            case measure => simp [intOf] <;> omega
        · have d1 : (x.file == 1) = false := by simpa using f1
          have b1 : (x.file != 1) = true := by simpa using f1
          have hok : x.ok = false := by simp [Wr.ok, f0, f1]
          have hcx : costW (ws.take (k + 1)) = q := by rw [ht]; simp [Wr.cost, hok]
          have HX := Lib.hid hcx
          clear ht hle2 hcx hok
          go_wp2
          go_roundw
          case rel => exact ⟨k + 1, by omega, by go_num, by rw [HX.out] <;> first | rfl | (congr 1; omega) | congr 1, HN⟩
          case measure => simp [intOf] <;> omega
    · obtain rfl : k = n := by omega
      have HT : Hid (ws.take k = ws) := Lib.hid (by rw [HL.out, List.take_length])
      rw [HT.out]
      go_wp2
      go_ret
      exact ⟨rfl, HW.out⟩
end Go.Proofs.YtpkdalpjfcopbaaDoor
