/-
  DetectOwn: an append that tells whether the row had room; what two appends onto one row leave.
-/
import Derived.Test.YtfjpmoigpnmeoaaDOwnA
namespace Go.Proofs.Ytfjpmoigpnmeoaa
open Go.RowKit
def capOf : Value → Nat
  | .slice _ _ c => c
  | _ => 0
section
variable {P : Program} (w : World)
/-- The append's world: in place, or the row stands as it stood and the new one lies in a new block. -/
def RoomAt (w w' : World) (v v' : Value) (k : Nat) : Prop :=
  (v'.ownBlock = v.ownBlock ∧ k ≤ capOf v) ∨ (¬ k ≤ capOf v ∧ w.grownBy w' none ∧ ∃ g, v'.ownBlock = some g ∧ w.heap.size ≤ g)
theorem run_append_room (base : Nat) (t ty e : TypeId) (i : TypeInfo) (z : Value) (size bytes : Nat) (ht : P.underlying t = some (.slice e)) (hi : P.info? e = some i) (hz : i.zero = some z)
    (hsize : i.size = size) (hby : i.bytes = bytes) (hzs : z.cells.size = size) (hsz : 0 < size)
    (v : Value) (n : Nat) (xs : List Value) (hown : w.ownsRow base e size v n xs)
    (B : Nat) (A : Option Addr) (m c : Nat) (news : List Value) (hr : Rd w B size A m news) (h1 : ∀ u ∈ news, u.oneCell' = true) (hm0 : 0 < m)
    (h63 : n + m ≤ maxLen) (hbytes : (n + m) * bytes ≤ 140737488355328) (hbase : base ≤ w.heap.size) :
    ∃ v' w', (Builtin.append_ #[t, t] ty #[v, .slice A m c]).run P w = .ok v' w' ∧ w'.ownsRow base e size v' (n + m) (xs ++ news) ∧ w'.ownsRow base e size v n xs ∧ w.grownBy w' v.ownBlock ∧ RoomAt w w' v v' (n + m) := by
  obtain ⟨b0, o0, rfl, hbl, hcs⟩ := hr.at_ hm0
  have hcells : ∀ j u, news[j]? = some u → w.cell? ((⟨b0, o0, none⟩ : Addr).add j) = some u := fun j u hu => by
    rw [addr_add]; exact hcs j u hu
  rcases hown.2 with ⟨h0, hn0⟩ | ⟨g, cap, cur, hv, hg, hh, hnc, hcm, hcs', htk⟩
  · obtain ⟨v', w', hrun, h2, h3, _, h5⟩ := run_append_own_at (P := P) w base t ty e i z size bytes ht hi hz hsize hby hzs hsz v n xs hown ⟨b0, o0, none⟩ m c news hr.len hcells h1 h63 hbytes hbase
    obtain ⟨g', cap', cur', hv', hg', _⟩ := own_parts h2 (by omega)
    have hob : v'.ownBlock = some g' := by rw [hv']; rfl
    refine ⟨v', w', hrun, h2, ⟨hown.1, .inl ⟨h0, hn0⟩⟩, h3, .inr ⟨by rw [h0]; simp only [capOf]; omega, by rw [h0] at h3; exact h3, ?_⟩⟩
    rcases h5 with h5 | h5
    · rw [h0, hob] at h5; simp [Value.ownBlock] at h5
    · exact ⟨_, h5, Nat.le_refl _⟩
  · by_cases hroom : n + m ≤ cap
    · subst hv
      obtain ⟨w', hrun, h2, h3⟩ := run_append_fits (P := P) w base t ty e i size ht hi hsize g n cap xs hown ⟨b0, o0, none⟩ m c news hr.len hcells h1 hroom
      exact ⟨_, w', hrun, h2, own_prefix h2 hown.1, h3, .inl ⟨rfl, hroom⟩⟩
    · subst hv
      have holds : ∀ j u, xs[j]? = some u → w.cell? ((⟨g, 0, none⟩ : Addr).add j) = some u := hown.cells (g := g) rfl
      obtain ⟨v', w', hrun, h2, h3⟩ := run_append_arg_grows (P := P) w t ty e i z size bytes ht hi hz hsize hby hzs hsz ⟨g, 0, none⟩ n cap xs hown.1 holds ⟨b0, o0, none⟩ m c news hr.len hcells (by omega) h63 hbytes
      obtain ⟨g', cap', cur', hv', hg', _⟩ := own_parts h2 (by omega)
      exact ⟨v', w', hrun, own_base h2 hbase, own_chg hown (Chg.of_grown h3) (fun _ _ => by simp), ⟨h3.os, h3.tape, h3.output, h3.size, fun k hk _ => h3.block k hk (by simp)⟩, .inr ⟨hroom, h3, g', by rw [hv']; rfl, hg'⟩⟩
theorem appRoom {ops : Array Oper} {rest : List Oper} {o : Oper} {a : Act} {Q : Exit → Act → World → Prop} (hgd : o.guard = none) (s x : Operand) (t : TypeId)
    (ho : o.op = .call { callee := .builtin .append, args := #[s, x], argTypes := #[t, t] })
    (base : Nat) (e : TypeId) (i : TypeInfo) (z : Value) (size bytes : Nat) (ht : P.underlying t = some (.slice e)) (hi : P.info? e = some i) (hz : i.zero = some z)
    (hsize : i.size = size) (hby : i.bytes = bytes) (hzs : z.cells.size = size) (hsz : 0 < size)
    (v : Value) (n : Nat) (xs : List Value) (hs : a.eval s = v) (hown : w.ownsRow base e size v n xs)
    (B : Nat) (A : Option Addr) (m c : Nat) (news : List Value) (hx : a.eval x = .slice A m c) (hr : Rd w B size A m news) (h1 : ∀ u ∈ news, u.oneCell' = true) (hm0 : 0 < m)
    (h63 : n + m ≤ maxLen) (hbytes : (n + m) * bytes ≤ 140737488355328) (hbase : base ≤ w.heap.size)
    (h : ∀ v' w', w'.ownsRow base e size v' (n + m) (xs ++ news) → w'.ownsRow base e size v n xs → w.grownBy w' v.ownBlock → RoomAt w w' v v' (n + m) → wpList P ops Q rest (a.put o.dst v') w') : wpList P ops Q (o :: rest) a w :=
  wpList_plain hgd fun _ hK => by
    obtain ⟨v', w', hrun, h2, h3, h4, h5⟩ := run_append_room (P := P) w base t o.type e i z size bytes ht hi hz hsize hby hzs hsz v n xs hown B A m c news hr h1 hm0 h63 hbytes hbase
    unfold Oper.wp execOp
    simp only [ho, resolve, invoke, builtin, Sem.run_bind, Sem.run_pure, Result.andThen_ok, List.map_toArray, List.map_cons, List.map_nil, hs, hx, hrun]
    exact hK _ _ (h v' w' h2 h3 h4 h5)
end
/-- Two appends onto one row: the first one's row is as it was made. -/
theorem own_twice {w0 w1 w1' w2 : World} {base : Nat} {e : TypeId} {v v1 v2 : Value} {n : Nat} {xs : List Value} {u : Value} (h1 : w1.ownsRow base e 1 v1 (n + 1) (xs ++ [u])) (hr1 : RoomAt w0 w1 v v1 (n + 1)) (hb : Below w1.heap.size w1 w1') (hg : w1'.grownBy w2 v.ownBlock) (h2 : w2.ownsRow base e 1 v2 (n + 1) (xs ++ [u])) (hr2 : RoomAt w1' w2 v v2 (n + 1)) (hv : ∀ g, v.ownBlock = some g → g < w0.heap.size) :
    w2.ownsRow base e 1 v1 (n + 1) (xs ++ [u]) ∨ ∃ c1 c2 g, v1 = .slice (some ⟨g, 0, none⟩) (n + 1) c1 ∧ v2 = .slice (some ⟨g, 0, none⟩) (n + 1) c2 := by
  have h1' := own_over h1 hb
  rcases hr1 with ⟨e1, hc1⟩ | ⟨hc1, hgn, g, hg1, hg2⟩
  · rcases hr2 with ⟨e2, _⟩ | ⟨hc2, _⟩
    · right
      obtain ⟨g1, c1, _, hv1, _⟩ := own_parts h1 (by omega)
      obtain ⟨g2, c2, _, hv2, _⟩ := own_parts h2 (by omega)
      rw [hv1] at e1
      rw [hv2, ← e1] at e2
      simp only [Value.ownBlock, Option.some.injEq] at e2
      exact ⟨c1, c2, g1, hv1, by rw [hv2, e2]⟩
    · exact absurd hc1 hc2
  · left
    refine own_chg h1' (Chg.of_grown hg) fun k hk hs => ?_
    have h3 := hv k hs.symm
    rw [hg1] at hk
    injection hk with hk
    omega
end Go.Proofs.Ytfjpmoigpnmeoaa
