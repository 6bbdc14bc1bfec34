/-
  What gives up is caught: the reason, DecodeItem's closure.
-/
import Derived.Test.YtjafmcahlmopiaaReadD
import Derived.Defers
import Derived.Recover
namespace Go.Proofs.Ytjafmcahlmopiaa
open Go.RowKit

theorem asErr (v : Value) (w : World) : (Instr.typeAssert (.iface 23 v) 20 23 true).run Try.prog w = .ok (.tuple #[v, .bool true]) w := by kernel_rfl
set_option maxRecDepth 100000 in
theorem reason_any (er : Int) (w : World) : Calls Try.prog 58 #[.iface 23 (.int .i64 er)] w fun e w' => e = .returned (.int .i64 er) ∧ w' = w := by
  have hT : (Instr.typeAssert (.iface 23 (.int .i64 er)) 20 23 true).run Try.prog w = .ok (.tuple #[.int .i64 er, .bool true]) w := asErr _ _
  go_enter Try.func58, Try.ntmps58
  go_wp2
  go_ret
  exact ⟨rfl, rfl⟩

def itemZ : Array Value := #[.int .i64 0, .int .i64 0, .int .i64 0, .int .i64 0, .slice none 0 0, .int .i64 0, .int .i64 0, .int .i64 0, .int .i64 0]

set_option maxRecDepth 100000 in
theorem catchI_idle (p q : Addr) (w : World) :
    CallsD Try.prog 57 #[.pointer (some p), .pointer (some q)] .returning w fun e u' w' => e = .returned (.tuple #[]) ∧ u' = .returning ∧ w' = w := by
  refine callsD_of_wpS Try.func57 rfl fun c₀ cs hu => ?_
  simp only [Try.ntmps57, List.size_toArray, List.length_cons, List.length_nil, Nat.reduceAdd, Nat.reduceSub, Array.replicate_succ,
     Array.replicate_zero, List.push_toArray, List.append_toArray, List.nil_append, List.cons_append]
  apply wpS_seq
  apply wpS_region
  simp [wpOpsS, go_sem, recoverD, hu, Exit.thenS]
  refine wpS_of_wp ?_
  go_wp2_with fail
  refine ⟨rfl, .returning, ?_, .tuple #[], results_none rfl _ _ _, rfl, rfl, rfl⟩
  cases c₀
  simp_all

theorem set9 (cp : Array Value) (h : cp.size = 9) : ((((((((cp.setIfInBounds 0 (.int .i64 0)).setIfInBounds 1 (.int .i64 0)).setIfInBounds 2 (.int .i64 0)).setIfInBounds 3 (.int .i64 0)).setIfInBounds 4 (.slice none 0 0)).setIfInBounds 5 (.int .i64 0)).setIfInBounds 6 (.int .i64 0)).setIfInBounds 7 (.int .i64 0)).setIfInBounds 8 (.int .i64 0) = itemZ := by
  obtain ⟨l⟩ := cp
  match l, h with
  | [_, _, _, _, _, _, _, _, _], _ => simp [itemZ]
theorem set1 (cp : Array Value) (h : cp.size = 1) (u : Value) : cp.setIfInBounds 0 u = #[u] := by
  obtain ⟨l⟩ := cp
  match l, h with
  | [_], _ => rfl
set_option maxRecDepth 100000 in
set_option maxHeartbeats 1600000 in
theorem catchI_panicking (p q : Nat) (cp cq : Array Value) (er : Int) (w : World) (hp : Blk w p 52 cp) (hq : Blk w q 23 cq) (hpz : cp.size = 9) (hqz : cq.size = 1) (hpq : p ≠ q) (older : List PanicEntry) :
    CallsD Try.prog 57 #[.pointer (some ⟨p, 0, none⟩), .pointer (some ⟨q, 0, none⟩)] (.panicking ({ v := .iface 23 (.int .i64 er), recovered := false } :: older)) w fun e u' w' =>
      e = .returned (.tuple #[]) ∧ u' = .panicking ({ v := .iface 23 (.int .i64 er), recovered := true } :: older) ∧ Blk w' p 52 itemZ ∧ Blk w' q 23 #[.int .i64 er] ∧ Chg (fun k => k = p ∨ k = q) w w' := by
  refine callsD_of_wpS Try.func57 rfl fun c₀ cs hu => ?_
  simp only [Try.ntmps57, List.size_toArray, List.length_cons, List.length_nil, Nat.reduceAdd, Nat.reduceSub, Array.replicate_succ,
     Array.replicate_zero, List.push_toArray, List.append_toArray, List.nil_append, List.cons_append]
  apply wpS_seq
  apply wpS_region
  simp [wpOpsS, go_sem, recoverD, hu, Exit.thenS]
  refine wpS_of_wp ?_
  go_wp2_with fail
  obtain ⟨u0, c0⟩ : ∃ u, w.cell? ⟨p, 0, none⟩ = some u := by rw [hp.cell]; exact ⟨_, Array.getElem?_eq_getElem (by omega)⟩
  have f0 := hp.frozen 0
  obtain ⟨u1, c1⟩ : ∃ u, w.cell? ⟨p, 1, none⟩ = some u := by rw [hp.cell]; exact ⟨_, Array.getElem?_eq_getElem (by omega)⟩
  have f1 := hp.frozen 1
  obtain ⟨u2, c2⟩ : ∃ u, w.cell? ⟨p, 2, none⟩ = some u := by rw [hp.cell]; exact ⟨_, Array.getElem?_eq_getElem (by omega)⟩
  have f2 := hp.frozen 2
  obtain ⟨u3, c3⟩ : ∃ u, w.cell? ⟨p, 3, none⟩ = some u := by rw [hp.cell]; exact ⟨_, Array.getElem?_eq_getElem (by omega)⟩
  have f3 := hp.frozen 3
  obtain ⟨u4, c4⟩ : ∃ u, w.cell? ⟨p, 4, none⟩ = some u := by rw [hp.cell]; exact ⟨_, Array.getElem?_eq_getElem (by omega)⟩
  have f4 := hp.frozen 4
  obtain ⟨u5, c5⟩ : ∃ u, w.cell? ⟨p, 5, none⟩ = some u := by rw [hp.cell]; exact ⟨_, Array.getElem?_eq_getElem (by omega)⟩
  have f5 := hp.frozen 5
  obtain ⟨u6, c6⟩ : ∃ u, w.cell? ⟨p, 6, none⟩ = some u := by rw [hp.cell]; exact ⟨_, Array.getElem?_eq_getElem (by omega)⟩
  have f6 := hp.frozen 6
  obtain ⟨u7, c7⟩ : ∃ u, w.cell? ⟨p, 7, none⟩ = some u := by rw [hp.cell]; exact ⟨_, Array.getElem?_eq_getElem (by omega)⟩
  have f7 := hp.frozen 7
  obtain ⟨u8, c8⟩ : ∃ u, w.cell? ⟨p, 8, none⟩ = some u := by rw [hp.cell]; exact ⟨_, Array.getElem?_eq_getElem (by omega)⟩
  have f8 := hp.frozen 8
  obtain ⟨v0, d0⟩ : ∃ u, w.cell? ⟨q, 0, none⟩ = some u := by rw [hq.cell]; exact ⟨_, Array.getElem?_eq_getElem (by omega)⟩
  have g0 := hq.frozen 0
  refine (reason_any er w).mono ?_
  rintro _ w2 ⟨rfl, hw2⟩
  rw [hw2]
  clear hw2 w2
  go_wp2_with fail
  have hch : Chg (fun k => k = p ∨ k = q) w w := Chg.refl _ _
  have hp := hp.set_ 0 (.int .i64 0)
  have hq := hq.far (p := ⟨p, 0, none⟩) (fun h => hpq h.symm) (.int .i64 0)
  have hch := hch.setCell (p := ⟨p, 0, none⟩) (.inl (.inl rfl)) (.int .i64 0)
  have hp := hp.set_ 1 (.int .i64 0)
  have hq := hq.far (p := ⟨p, 1, none⟩) (fun h => hpq h.symm) (.int .i64 0)
  have hch := hch.setCell (p := ⟨p, 1, none⟩) (.inl (.inl rfl)) (.int .i64 0)
  have hp := hp.set_ 2 (.int .i64 0)
  have hq := hq.far (p := ⟨p, 2, none⟩) (fun h => hpq h.symm) (.int .i64 0)
  have hch := hch.setCell (p := ⟨p, 2, none⟩) (.inl (.inl rfl)) (.int .i64 0)
  have hp := hp.set_ 3 (.int .i64 0)
  have hq := hq.far (p := ⟨p, 3, none⟩) (fun h => hpq h.symm) (.int .i64 0)
  have hch := hch.setCell (p := ⟨p, 3, none⟩) (.inl (.inl rfl)) (.int .i64 0)
  have hp := hp.set_ 4 (.slice none 0 0)
  have hq := hq.far (p := ⟨p, 4, none⟩) (fun h => hpq h.symm) (.slice none 0 0)
  have hch := hch.setCell (p := ⟨p, 4, none⟩) (.inl (.inl rfl)) (.slice none 0 0)
  have hp := hp.set_ 5 (.int .i64 0)
  have hq := hq.far (p := ⟨p, 5, none⟩) (fun h => hpq h.symm) (.int .i64 0)
  have hch := hch.setCell (p := ⟨p, 5, none⟩) (.inl (.inl rfl)) (.int .i64 0)
  have hp := hp.set_ 6 (.int .i64 0)
  have hq := hq.far (p := ⟨p, 6, none⟩) (fun h => hpq h.symm) (.int .i64 0)
  have hch := hch.setCell (p := ⟨p, 6, none⟩) (.inl (.inl rfl)) (.int .i64 0)
  have hp := hp.set_ 7 (.int .i64 0)
  have hq := hq.far (p := ⟨p, 7, none⟩) (fun h => hpq h.symm) (.int .i64 0)
  have hch := hch.setCell (p := ⟨p, 7, none⟩) (.inl (.inl rfl)) (.int .i64 0)
  have hp := hp.set_ 8 (.int .i64 0)
  have hq := hq.far (p := ⟨p, 8, none⟩) (fun h => hpq h.symm) (.int .i64 0)
  have hch := hch.setCell (p := ⟨p, 8, none⟩) (.inl (.inl rfl)) (.int .i64 0)
  refine ⟨rfl, _, rfl, .tuple #[], results_none rfl _ _ _, rfl, rfl, ?_, ?_, ?_⟩
  · have := hp.far (p := ⟨q, 0, none⟩) hpq (.int .i64 er)
    rw [set9 cp hpz] at this
    exact this
  · have := hq.set_ 0 (.int .i64 er)
    rw [set1 cq hqz] at this
    exact this
  · exact hch.setCell (p := ⟨q, 0, none⟩) (.inl (.inr rfl)) _
end Go.Proofs.Ytjafmcahlmopiaa
