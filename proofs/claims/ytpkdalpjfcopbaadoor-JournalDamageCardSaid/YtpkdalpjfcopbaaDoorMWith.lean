/-
  with: the desk's disk with other bytes in its present file.
-/
import Derived.Test.YtpkdalpjfcopbaaDoorMDeskP
import Derived.Test.YtpkdalpjfcopbaaDoorMHurt
import Derived.Test.YtpkdalpjfcopbaaDoorMGiven
namespace Go.Proofs.YtpkdalpjfcopbaaDoor
open Go.RowKit
/-- What a disk gives is of a bounded size. -/
theorem giveR_le (f : Fls) : (giveR f).length ≤ 65536 ∧ ∀ x ∈ giveR f, x.body.length ≤ 65536 := by
  unfold giveR
  cases hp : pickR f with
  | none => exact ⟨by simp, fun x hx => by cases hx⟩
  | some y =>
    obtain ⟨k, x⟩ := y
    obtain ⟨_, ht, _⟩ := pickR_told hp
    have h1 := congrArg List.length ht.text
    rw [textB_length, List.length_take] at h1
    have h2 := bodies_le x.recs
    have h3 := ht.hi
    have h4 := ht.len
    refine ⟨by dsimp only; omega, fun r hr => ?_⟩
    have hk : 1 ≤ r.kind ∧ r.kind ≤ 4 ∧ r.body.length ≤ 4200 := by simpa [Rc.ok] using ht.ok r hr
    omega
/-- given, whatever the disk. -/
theorem given_all {w : World} {f : Fls} {A0 A1 : Option Addr} {c0 c1 : Nat} (hR0 : RdB w w.heap.size A0 f.a.length f.a) (hR1 : RdB w w.heap.size A1 f.b.length f.b) (h0 : f.a.length ≤ 140737488351232) (h1 : f.b.length ≤ 140737488351232) (hnib : Nibs w) :
    Calls Tryd.prog 38 #[.agg #[.slice A0 f.a.length c0, .slice A1 f.b.length c1]] w fun e W' => ∃ A c K, e = .returned (.slice A K.length c) ∧ RcOwn W' w.heap.size (.slice A K.length c) K ∧ K.map Rk.rc = giveR f ∧ Below w.heap.size w W' :=
  given_any hR0 hR1 h0 h1 hnib (giveR_le f).1 (giveR_le f).2
set_option maxRecDepth 100000 in
set_option maxHeartbeats 3200000 in
theorem with_any {w : World} {tg jg : Nat} {A0 A1 : Option Addr} {n0 c0 n1 c1 : Nat} {vb : Value} {file : Nat} (hB : Blk w tg 63 #[.pointer (some ⟨jg, 0, none⟩), .slice A0 n0 c0, .slice A1 n1 c1, vb, .int .i64 (file : Int)]) (C : Option Addr) (n c : Nat) :
    Calls Tryd.prog 43 #[.pointer (some ⟨tg, 0, none⟩), .slice C n c] w fun e w' => e = .returned (.agg (if file = 0 then #[.slice C n c, .slice A1 n1 c1] else #[.slice A0 n0 c0, .slice C n c])) ∧ Below w.heap.size w w' := by
  have p1 : w.cell? ⟨tg, 1, none⟩ = some (.slice A0 n0 c0) := hB.cell 1
  have p2 : w.cell? ⟨tg, 2, none⟩ = some (.slice A1 n1 c1) := hB.cell 2
  have p4 : w.cell? ⟨tg, 4, none⟩ = some (.int .i64 (file : Int)) := hB.cell 4
  have hlt := hB.lt
  by_cases hf : file = 0
  · subst hf
    go_enter Tryd.func43, Tryd.ntmps43
    go_wp2
    have hN := Blk.new w 24 #[.slice C n c, .slice A1 n1 c1]
    have y0 : (w.alloc (.cells #[.slice C n c, .slice A1 n1 c1] 24)).cell? ⟨w.heap.size, 0, none⟩ = some (.slice C n c) := hN.cell 0
    have y1 : (w.alloc (.cells #[.slice C n c, .slice A1 n1 c1] 24)).cell? ⟨w.heap.size, 1, none⟩ = some (.slice A1 n1 c1) := hN.cell 1
    exact bodyPost_ret (v := .agg #[.slice C n c, .slice A1 n1 c1]) (by simp [results, Tryd.results43, y0, y1, go_sem]) rfl ⟨rfl, one_box' _ _⟩
  · have hf2 : ((file : Int) == 0) = false := by simpa using hf
    go_enter Tryd.func43, Tryd.ntmps43
    go_wp2
    have hN := Blk.new w 24 #[.slice A0 n0 c0, .slice C n c]
    have y0 : (w.alloc (.cells #[.slice A0 n0 c0, .slice C n c] 24)).cell? ⟨w.heap.size, 0, none⟩ = some (.slice A0 n0 c0) := hN.cell 0
    have y1 : (w.alloc (.cells #[.slice A0 n0 c0, .slice C n c] 24)).cell? ⟨w.heap.size, 1, none⟩ = some (.slice C n c) := hN.cell 1
    exact bodyPost_ret (v := .agg #[.slice A0 n0 c0, .slice C n c]) (by simp [results, Tryd.results43, y0, y1, go_sem]) rfl ⟨rfl, one_box' _ _⟩
end Go.Proofs.YtpkdalpjfcopbaaDoor
