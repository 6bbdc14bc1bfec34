/-
  The reference's comparisons of lists of numbers, slots, messages: alike lists are told so.
-/
import Derived.Test.YtffcepaegcllmaaDoorPackV4
import Derived.Test.YtffcepaegcllmaaDoorSame
namespace Go.Proofs.YtffcepaegcllmaaDoor
open Go.RowKit

set_option maxRecDepth 100000 in
set_option maxHeartbeats 800000 in
theorem SameInts_yes (A A' : Option Addr) (n n' cap cap' B B' : Nat) (l : List Int) (w : World) (hr : RdI w B A n l) (hr' : RdI w B' A' n' l) (hn : n ≤ 9223372036854775807) :
    Calls Tryd.prog 42 #[.slice A n cap, .slice A' n' cap'] w fun e w' => e = .returned (.bool true) ∧ Below w.heap.size w w' := by
  obtain rfl : n = n' := by rw [← hr.lenI, ← hr'.lenI]
  have hm2 : ((n : Int) != (n : Int)) = false := by simp
  go_enter Tryd.func42, Tryd.ntmps42
  go_wp2
  go_loopw [5] (fun i wr => ∃ k : Nat, k ≤ n ∧ i = .int .i64 k ∧ ∃ d, wr = w.drewN d) (fun i _ => n - (intOf i).toNat)
  case atStart => exact ⟨0, by omega, rfl, 0, rfl⟩
  case round =>
    obtain ⟨k, hk, rfl, d, hd⟩ := hrel
    have hq := hr.eqd hd
    have hq' := hr'.eqd hd
    have HD := Lib.hid hd
    clear hd
    by_cases hlt : k < n
    · obtain ⟨b', off', c, rfl, hb', hck, hcell'⟩ := hq'.int hlt
      obtain ⟨b, off, c1, rfl, hb, hck1, hcell⟩ := hq.int hlt
      obtain rfl : c1 = c := by
        rw [hck] at hck1
        exact (Option.some.inj hck1).symm
      clear hck hck1
      have hlt1 : (k : Int) < (n : Int) := by omega
      have hne : (c1 != c1) = false := by simp
      go_wp2
      go_quiet (fail)
      go_wp2
      go_roundw
      case rel => exact ⟨k + 1, by omega, by go_num, _, by rw [HD.out, World.drewN_drewN]⟩
      case measure => simp [intOf]; omega
    · go_wp2
      go_ret
      exact ⟨rfl, by rw [HD.out]; exact below_drewN (Below.refl _ _) d⟩
set_option maxRecDepth 100000 in
set_option maxHeartbeats 800000 in
theorem SameSlots_yes (A A' : Option Addr) (n n' cap cap' B B' : Nat) (l : List (Int × Int)) (w : World) (hr : SlotsAt w B A n l) (hr' : SlotsAt w B' A' n' l) (hB : B ≤ w.heap.size) (hB' : B' ≤ w.heap.size) (hn : n ≤ 9223372036854775807) :
    Calls Tryd.prog 101 #[.slice A n cap, .slice A' n' cap'] w fun e w' => e = .returned (.bool true) ∧ Below w.heap.size w w' := by
  obtain rfl : n = n' := by rw [← hr.1, ← hr'.1]
  have hm2 : ((n : Int) != (n : Int)) = false := by simp
  have HL := Lib.hid hr.1
  go_enter Tryd.func101, Tryd.ntmps101
  go_wp2
  go_loopw [5] (fun i wr => ∃ k : Nat, k ≤ n ∧ i = .int .i64 k ∧ Below w.heap.size w wr) (fun i _ => n - (intOf i).toNat)
  case atStart => exact ⟨0, by omega, rfl, Below.refl _ _⟩
  case round =>
    obtain ⟨k, hk, rfl, hbr⟩ := hrel
    by_cases hlt : k < n
    · obtain ⟨x, hx⟩ : ∃ x, l[k]? = some x := ⟨_, List.getElem?_eq_getElem (by rw [HL.out]; exact hlt)⟩
      obtain ⟨b, off, rfl, hb, hc⟩ := hr.2 (by omega)
      obtain ⟨b', off', rfl, hb', hc'⟩ := hr'.2 (by omega)
      obtain ⟨d0, d1⟩ := hc k x hx
      obtain ⟨d0', d1'⟩ := hc' k x hx
      have c0 := ((bcell hbr).1 b _ (by omega)).trans d0
      have c1 := ((bcell hbr).1 b _ (by omega)).trans d1
      have c0' := ((bcell hbr).1 b' _ (by omega)).trans d0'
      have c1' := ((bcell hbr).1 b' _ (by omega)).trans d1'
      clear d0 d1 d0' d1' hc hc' hx
      have hlt1 : (k : Int) < (n : Int) := by omega
      have hsz := hbr.size
      go_wp2_with fail
      go_quiet (fail)
      have hbn := below_drewN hbr nq
      go_wp2
      go_roundw
      case rel => exact ⟨k + 1, by omega, by go_num, hbn⟩
      case measure => simp [intOf] <;> omega
    · go_wp2
      go_ret
      exact ⟨rfl, hbr⟩
/-- What two messages tell alike, wherever their bodies lie. -/
def Msg.key (m : Msg) : Int × Int × Int × List UInt8 := (m.s, m.q, m.t, m.body)
set_option maxRecDepth 100000 in
set_option maxHeartbeats 1600000 in
theorem SameDatas_yes (A A' : Option Addr) (n n' cap cap' B B' : Nat) (l l' : List Msg) (w : World) (hr : MsgsAt w B A n l) (hr' : MsgsAt w B' A' n' l') (hl : l.map Msg.key = l'.map Msg.key) (hB : B ≤ w.heap.size) (hB' : B' ≤ w.heap.size) (hn : n ≤ 9223372036854775807) :
    Calls Tryd.prog 46 #[.slice A n cap, .slice A' n' cap'] w fun e w' => e = .returned (.bool true) ∧ Below w.heap.size w w' := by
  obtain rfl : n = n' := by rw [← hr.1, ← hr'.1, ← List.length_map (f := Msg.key), hl, List.length_map]
  have hm2 : ((n : Int) != (n : Int)) = false := by simp
  have HL := Lib.hid hr.1
  have HL' := Lib.hid hr'.1
  have HM := Lib.hid hl
  have HR := Lib.hid hr
  have HR' := Lib.hid hr'
  clear hl
  go_enter Tryd.func46, Tryd.ntmps46
  go_wp2
  go_loopw [5] (fun i wr => ∃ k : Nat, k ≤ n ∧ i = .int .i64 k ∧ Below w.heap.size w wr) (fun i _ => n - (intOf i).toNat)
  case atStart => exact ⟨0, by omega, rfl, Below.refl _ _⟩
  case round =>
    obtain ⟨k, hk, rfl, hbr⟩ := hrel
    by_cases hlt : k < n
    · obtain ⟨x, hx⟩ : ∃ x, l[k]? = some x := ⟨_, List.getElem?_eq_getElem (by rw [HL.out]; exact hlt)⟩
      obtain ⟨y, hy⟩ : ∃ y, l'[k]? = some y := ⟨_, List.getElem?_eq_getElem (by rw [HL'.out]; exact hlt)⟩
      have hxy : x.key = y.key := by
        have h1 : (l.map Msg.key)[k]? = some x.key := by rw [List.getElem?_map, hx]; rfl
        have h2 : (l'.map Msg.key)[k]? = some y.key := by rw [List.getElem?_map, hy]; rfl
        rw [HM.out, h2] at h1
        exact (Option.some.inj h1).symm
      obtain ⟨b, off, rfl, hb, hc⟩ := HR.out.2.2 (by omega)
      obtain ⟨b', off', rfl, hb', hc'⟩ := HR'.out.2.2 (by omega)
      obtain ⟨d0, d1, d2, d3⟩ := hc k x hx
      obtain ⟨d0', d1', d2', d3'⟩ := hc' k y hy
      have hmx := HR.out.2.1 x (List.mem_of_getElem? hx)
      have hmy := HR'.out.2.1 y (List.mem_of_getElem? hy)
      obtain ⟨xs, xq, xt, xA, xn, xc, xb⟩ := x
      obtain ⟨ys, yq, yt, yA, yn, yc, yb⟩ := y
      simp only [Msg.key, Prod.mk.injEq] at hxy
      obtain ⟨rfl, rfl, rfl, rfl⟩ := hxy
      have hrx := hmx.rd.below (hbr.mono hB)
      have hry := hmy.rd.below (hbr.mono hB')
      have hnx : xn ≤ 9223372036854775807 := by have := hmx.le; have := hmx.cap; simp only at *; omega
      have c0 := ((bcell hbr).1 b _ (by omega)).trans d0
      have c1 := ((bcell hbr).1 b _ (by omega)).trans d1
      have c2 := ((bcell hbr).1 b _ (by omega)).trans d2
      have c3 := ((bcell hbr).1 b _ (by omega)).trans d3
      have c0' := ((bcell hbr).1 b' _ (by omega)).trans d0'
      have c1' := ((bcell hbr).1 b' _ (by omega)).trans d1'
      have c2' := ((bcell hbr).1 b' _ (by omega)).trans d2'
      have c3' := ((bcell hbr).1 b' _ (by omega)).trans d3'
      simp only at c0 c1 c2 c3 c0' c1' c2' c3' hrx hry
      clear d0 d1 d2 d3 d0' d1' d2' d3' hc hc' hx hy hmx hmy
      have hlt1 : (k : Int) < (n : Int) := by omega
      have hsz := hbr.size
      go_wp2_with fail
      refine region_tail 8 (by kernel_rfl) (by kernel_rfl) ?_
      simp only [List.take_succ_cons, List.take_zero, List.drop_succ_cons, List.drop_zero]
      repeat still_step
      refine wpStill_nil ?_
      go_wp2_with (go_at_call 102; refine (SameData_yes _ _ _ _ _ _ _ _ _ _ _ _ _ (hrx.dn 1) (hry.dn 1) (Nat.le_trans hB hsz) (Nat.le_trans hB' hsz) hnx).mono ?_; rintro _ w2 ⟨rfl, hb2⟩; have hbn := Below.then (show Below w.heap.size w wr.drew from below_drewN hbr 1) hb2)
      go_roundw
      case rel => exact ⟨k + 1, by omega, by go_num, hbn⟩
      case measure => simp [intOf] <;> omega
    · go_wp2
      go_ret
      exact ⟨rfl, hbr⟩
end Go.Proofs.YtffcepaegcllmaaDoor
