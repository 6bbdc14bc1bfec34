/-
  The program's attempt: a reading that may be left by damage.
-/
import Derived.Test.YtpkdalpjfcopbaaDoorKHead
namespace Go.Proofs.YtpkdalpjfcopbaaDoor
open Go.RowKit
theorem asDam (q : Int) (w : World) : (Instr.typeAssert (.iface 135 (.agg #[.int .i64 q])) 20 135 true).run Tryd.prog w = .ok (.tuple #[.agg #[.int .i64 q], .bool true]) w := by kernel_rfl
set_option maxRecDepth 100000 in
theorem tryI (p : Addr) (w : World) :
    CallsD Tryd.prog 84 #[.pointer (some p)] .returning w fun e u' w' => e = .returned (.tuple #[]) ∧ u' = .returning ∧ w' = w := by
  refine callsD_of_wpS Tryd.func84 rfl fun c₀ cs hu => ?_
  simp only [Tryd.ntmps84, List.size_toArray, List.length_cons, List.length_nil, Nat.reduceAdd, Nat.reduceSub, Array.replicate_succ,
     Array.replicate_zero, List.push_toArray, List.append_toArray, List.nil_append, List.cons_append]
  apply wpS_seq
  apply wpS_region
  simp [wpOpsS, go_sem, recoverD, hu, Exit.thenS]
  refine wpS_of_wp ?_
  go_wp2_with fail
  refine ⟨rfl, .returning, ?_, .tuple #[], results_none rfl _ _ _, rfl, rfl, rfl⟩
  cases c₀
  simp_all
set_option maxRecDepth 100000 in
set_option maxHeartbeats 1600000 in
theorem tryP (p : Nat) (b : Bool) (q : Int) (w : World) (hp : Blk w p 4 #[.bool b]) (older : List PanicEntry) :
    CallsD Tryd.prog 84 #[.pointer (some ⟨p, 0, none⟩)] (.panicking ({ v := .iface 135 (.agg #[.int .i64 q]), recovered := false } :: older)) w fun e u' w' =>
      e = .returned (.tuple #[]) ∧ u' = .panicking ({ v := .iface 135 (.agg #[.int .i64 q]), recovered := true } :: older) ∧ Blk w' p 4 #[.bool false] ∧ Chg (fun k => k = p) w w' := by
  refine callsD_of_wpS Tryd.func84 rfl fun c₀ cs hu => ?_
  have hT := asDam q w
  have c0 : w.cell? ⟨p, 0, none⟩ = some (.bool b) := hp.cell 0
  have f0 := hp.frozen 0
  have hlt := hp.lt
  simp only [Tryd.ntmps84, List.size_toArray, List.length_cons, List.length_nil, Nat.reduceAdd, Nat.reduceSub, Array.replicate_succ,
     Array.replicate_zero, List.push_toArray, List.append_toArray, List.nil_append, List.cons_append]
  apply wpS_seq
  apply wpS_region
  simp [wpOpsS, go_sem, recoverD, hu, Exit.thenS]
  refine wpS_of_wp ?_
  go_wp2_with fail
  exact ⟨rfl, _, rfl, .tuple #[], results_none rfl _ _ _, rfl, rfl, (hp.set_ 0 (.bool false)).alloc _, ((Chg.refl (fun k => k = p) w).setCell (p := ⟨p, 0, none⟩) (.inl rfl) (.bool false)).alloc _⟩
theorem tryResults (t2 : Nat) (tmps : Array Value) (w : World) (b : Bool) (h2 : tmps.getD 2 undef = .pointer (some ⟨t2, 0, none⟩)) (hq : Blk w t2 4 #[.bool b]) :
    (results Tryd.f79 tmps).run Tryd.prog w = .ok (.bool b) w := by
  have d0 : w.cell? ⟨t2, 0, none⟩ = some (.bool b) := hq.cell 0
  simp only [results]
  rw [show Tryd.f79.results = #[.cell 2 4] from rfl]
  rw [Array.getD_eq_getD_getElem?] at h2
  simp [h2, d0, go_sem]
def Tried (w : World) (Q : Bool → World → Prop) (e : Ending) (w' : World) : Prop := ∃ b W, e = .returned (.bool b) ∧ Q b W ∧ Chg (fun k => k = w.heap.size) W w'
set_option maxRecDepth 100000 in
set_option maxHeartbeats 1600000 in
theorem attempt_any (F : Nat) (caps : Array Value) (w : World) (Q : Bool → World → Prop) (hcf : ∀ args W, Sem.run Tryd.prog (callFunc F args) W = .ok (.enter F args) W)
    (h : Calls Tryd.prog F caps (w.alloc (.cells #[.bool false] 4)) (fun e W => ((e = .returned (.tuple #[]) ∧ Q true W) ∨ (Dam e ∧ Q false W)) ∧ Blk W w.heap.size 4 #[.bool false])) :
    Calls Tryd.prog 79 #[.func (.func F) #[] caps] w (Tried w Q) := by
  have hmf : ∀ (fn : Fn) (first cap : Array Value) (w : World), (Instr.makeFunc fn first cap).run Tryd.prog w = .ok (.func fn first cap) w := fun _ _ _ _ => rfl
  have H := Lib.hid h
  clear h
  go_enter_defers Tryd.func79, Tryd.ntmps79
  go_wp2_with fail
  refine H.out.mono ?_
  clear H
  rintro e W ⟨hq | hq, hB⟩
  · obtain ⟨rfl, hQ⟩ := hq
    have c0 : W.cell? ⟨w.heap.size, 0, none⟩ = some (.bool false) := hB.cell 0
    have f0 := hB.frozen 0
    have HQ := Lib.hid hQ
    have HB := Lib.hid hB
    clear hQ hB
    go_wp2_with fail
    refine leaves_cons (f := 84) (args := #[.pointer (some ⟨w.heap.size, 0, none⟩)]) (by simp) (by simp [go_sem]) ?_
    refine (tryI ⟨w.heap.size, 0, none⟩ _).mono ?_
    rintro e u' w2 ⟨rfl, rfl, rfl⟩
    exact ⟨_, tryResults w.heap.size _ _ true rfl (HB.out.set_ 0 (.bool true)), true, W, rfl, HQ.out, (Chg.refl (fun k => k = w.heap.size) W).setCell (p := ⟨w.heap.size, 0, none⟩) (.inl rfl) (.bool true)⟩
  · obtain ⟨⟨q, rfl⟩, hQ⟩ := hq
    show bodyPostD _ _ _ _ _ _
    refine leaves_cons (f := 84) (args := #[.pointer (some ⟨w.heap.size, 0, none⟩)]) (by simp) (by simp [go_sem]) ?_
    refine (tryP w.heap.size false q W hB []).mono ?_
    rintro e u' w2 ⟨rfl, rfl, hB2, hc2⟩
    exact ⟨_, tryResults w.heap.size _ _ false rfl hB2, false, W, rfl, hQ, hc2⟩
end Go.Proofs.YtpkdalpjfcopbaaDoor
