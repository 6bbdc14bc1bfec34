/-
  The document's detector: other, Left, fits, Tick, Leave, Heard, New.
-/
import Derived.Test.YtfjpmoigpnmeoaaDRef2
namespace Go.Proofs.Ytfjpmoigpnmeoaa
open Go.RowKit
variable {w : World} {F : Nat → Prop} {c : Cfg} {K : Nat} {l : List Ev} {v : Value}

set_option maxRecDepth 100000 in
set_option maxHeartbeats 1600000 in
theorem other_any (h : RD w F c K l v) (_hn : c.n ≤ 16) (_hsf : c.self < c.n) (q : Int) :
    Calls Try.prog 64 #[.pointer (some ⟨K, 0, none⟩), .int .i64 q] w fun e w' => e = .returned (.bool (otherB c q)) ∧ w = w' := by
  obtain ⟨c0, c1, c2, c3, c4, c5, c6⟩ := h.cell
  clear h
  by_cases h0 : 0 ≤ q
  · by_cases h1 : q < (c.n : Int)
    · by_cases h2 : q = (c.self : Int)
      · have HO : Hid (otherB c q = false) := Lib.hid (by simp [otherB, h2])
        have hb : (q != (c.self : Int)) = false := by simpa using h2
        clear h2
        go_enter Try.func64, Try.ntmps64
        go_wp2
        go_ret
        exact ⟨ret_bool HO.out.symm, rfl⟩
      · have HO : Hid (otherB c q = true) := Lib.hid (by simp [otherB]; omega)
        have hb : (q != (c.self : Int)) = true := by simpa using h2
        clear h2
        go_enter Try.func64, Try.ntmps64
        go_wp2
        go_ret
        exact ⟨ret_bool HO.out.symm, rfl⟩
    · have HO : Hid (otherB c q = false) := Lib.hid (by simp [otherB]; omega)
      go_enter Try.func64, Try.ntmps64
      go_wp2
      go_ret
      exact ⟨ret_bool HO.out.symm, rfl⟩
  · have HO : Hid (otherB c q = false) := Lib.hid (by simp [otherB]; omega)
    go_enter Try.func64, Try.ntmps64
    go_wp2
    go_ret
    exact ⟨ret_bool HO.out.symm, rfl⟩
def hasL (l : List Ev) : Bool := l.any fun x => decide (x.kind = 3)
theorem hasL_take {l : List Ev} {k : Nat} {x : Ev} (h : hasL (l.take k) = false) (hx : l[k]? = some x) (h3 : x.kind ≠ 3) : hasL (l.take (k + 1)) = false := by
  unfold hasL at *
  rw [List.take_add_one, hx, List.any_append, h]
  simp [h3]
theorem hasL_at {l : List Ev} {k : Nat} {x : Ev} (hx : l[k]? = some x) (h3 : x.kind = 3) : hasL l = true := by
  unfold hasL
  rw [List.any_eq_true]
  exact ⟨x, List.mem_of_getElem? hx, by simp [h3]⟩
set_option maxRecDepth 100000 in
set_option maxHeartbeats 1600000 in
theorem Left_any (h : RD w F c K l v) (hn : l.length ≤ 140737488355328) :
    Calls Try.prog 65 #[.pointer (some ⟨K, 0, none⟩)] w fun e w' => e = .returned (.bool (hasL l)) ∧ w = w' := by
  obtain ⟨A, cap, rfl, hcp, hcm⟩ := own_shape h.row
  obtain ⟨c0, c1, c2, c3, c4, c5, c6⟩ := h.cell
  have HD := Lib.hid h
  have HLN : Hid (l.take l.length = l) := Lib.hid (List.take_length ..)
  generalize hLN : l.length = n at *
  have HLL := Lib.hid hLN
  clear hLN h
  go_enter Try.func65, Try.ntmps65
  go_wp2_with fail
  go_loop [3] (fun i => ∃ k : Nat, k ≤ n ∧ i = .int .i64 (k : Int) ∧ Hid (hasL (l.take k) = false)) (fun i => n - (intOf i).toNat)
  case atStart => exact ⟨0, by omega, rfl, Lib.hid (by simp [hasL])⟩
  case round =>
    obtain ⟨k, hk, rfl, HN⟩ := hrel
    by_cases hlt : k < n
    · have hI : (k : Int) < (n : Int) := by omega
      obtain ⟨g, cap', cur, hv, _⟩ := own_parts HD.out.row (by rw [HLL.out]; omega)
      simp only [Value.slice.injEq] at hv
      obtain ⟨rfl, _, rfl⟩ := hv
      obtain ⟨x, hx⟩ : ∃ x, l[k]? = some x := ⟨_, List.getElem?_eq_getElem (by rw [HLL.out]; exact hlt)⟩
      obtain ⟨e0, e1, e2, e3, e4⟩ := HD.out.ev hx
      by_cases h3 : x.kind = 3
      · have b3 : (x.kind == 3) = true := by simpa using h3
        have HX := Lib.hid (hasL_at hx h3)
        clear h3 hx
        go_wp2
        go_ret
        exact ⟨ret_bool HX.out.symm, rfl⟩
      · have b3 : (x.kind == 3) = false := by simpa using h3
        have HX := Lib.hid (hasL_take HN.out hx h3)
        clear h3 hx
        go_wp2
        go_round
        case rel => exact ⟨k + 1, by omega, by go_num, HX⟩
        case measure => simp [intOf] <;> omega
    · obtain rfl : k = n := by omega
      have HX : Hid (hasL l = false) := Lib.hid (by have := HN.out; rwa [HLN.out] at this)
      go_wp2
      go_ret
      exact ⟨ret_bool HX.out.symm, rfl⟩

end Go.Proofs.Ytfjpmoigpnmeoaa
