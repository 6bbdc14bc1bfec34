/-
  DecodeItem of any text.
-/
import Derived.Test.YtjafmcahlmopiaaDecI2
namespace Go.Proofs.Ytjafmcahlmopiaa
open Go.RowKit

theorem dec2_facts (w : World) (er : Int) : Blk ((w.alloc (.cells itemZ 52)).alloc (.cells #[.int .i64 er] 23)) w.heap.size 52 itemZ ∧
    Blk ((w.alloc (.cells itemZ 52)).alloc (.cells #[.int .i64 er] 23)) (w.heap.size + 1) 23 #[.int .i64 er] ∧ Below w.heap.size w ((w.alloc (.cells itemZ 52)).alloc (.cells #[.int .i64 er] 23)) := by
  have h2 := Blk.new (w.alloc (.cells itemZ 52)) 23 #[.int .i64 er]
  have hz1 : (w.alloc (.cells itemZ 52)).heap.size = w.heap.size + 1 := by simp
  rw [hz1] at h2
  exact ⟨(Blk.new w _ _).alloc _, h2, Chg.to_below (S := fun _ => False) ((((Chg.refl (fun _ => False) w).alloc _).alloc _)) (Nat.le_refl _) (fun k h => h.elim)⟩
set_option maxRecDepth 100000 in
set_option maxHeartbeats 1600000 in
theorem DecodeItem_long (A : Option Addr) (n cap : Nat) (w : World) (h3 : 300 < n) :
    Calls Try.prog 29 #[.slice A n cap] w (DecAns w (.zero, 17)) := by
  have hI : (300 : Int) < (n : Int) := by omega
  have hmf : ∀ (fn : Fn) (first cap : Array Value) (w : World), (Instr.makeFunc fn first cap).run Try.prog w = .ok (.func fn first cap) w := fun _ _ _ _ => rfl
  obtain ⟨h1, h2, hb⟩ := dec2_facts w 17
  have H1 := Lib.hid h1
  have H2 := Lib.hid h2
  have HB := Lib.hid hb
  clear h1 h2 hb
  go_enter_defers Try.func29, Try.ntmps29
  go_wp2_with fail
  exact itemEarly w _ w.heap.size (w.heap.size + 1) _ 17 rfl rfl H1.out H2.out HB.out
set_option maxRecDepth 100000 in
set_option maxHeartbeats 1600000 in
theorem DecodeItem_empty (A : Option Addr) (cap : Nat) (w : World) :
    Calls Try.prog 29 #[.slice A 0 cap] w (DecAns w (.zero, 10)) := by
  have hmf : ∀ (fn : Fn) (first cap : Array Value) (w : World), (Instr.makeFunc fn first cap).run Try.prog w = .ok (.func fn first cap) w := fun _ _ _ _ => rfl
  obtain ⟨h1, h2, hb⟩ := dec2_facts w 10
  have H1 := Lib.hid h1
  have H2 := Lib.hid h2
  have HB := Lib.hid hb
  clear h1 h2 hb
  go_enter_defers Try.func29, Try.ntmps29
  go_wp2_with fail
  exact itemEarly w _ w.heap.size (w.heap.size + 1) _ 10 rfl rfl H1.out H2.out HB.out
theorem DecodeItem_any (A : Option Addr) (n cap : Nat) (bs : List UInt8) (w : World) (hr : RdB w w.heap.size A n bs) (hn : n ≤ cap) (hc : n ≤ 140737488351232) :
    Calls Try.prog 29 #[.slice A n cap] w (DecAns w (decItem bs)) := by
  have hl := hr.lenB
  by_cases h3 : 300 < n
  · rw [show decItem bs = (.zero, 17) by unfold decItem; rw [if_pos (by omega)]]
    exact DecodeItem_long A n cap w h3
  · cases bs with
    | nil =>
      obtain rfl : n = 0 := by simpa using hl.symm
      exact DecodeItem_empty A cap w
    | cons b bs =>
      by_cases h1 : b = 1
      · subst h1
        exact DecodeItem_1 A n cap bs w hr hn hc (by omega)
      · by_cases h2 : b = 2
        · subst h2
          exact DecodeItem_2 A n cap bs w hr hn hc (by omega)
        · rw [show decItem (b :: bs) = (.zero, 12) by unfold decItem; rw [if_neg (by omega)]; simp only [if_neg h1, if_neg h2]]
          exact DecodeItem_else A n cap b bs w hr hn hc (by omega) h1 h2
end Go.Proofs.Ytjafmcahlmopiaa
