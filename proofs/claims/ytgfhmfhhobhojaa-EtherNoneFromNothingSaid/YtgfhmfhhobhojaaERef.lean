/-
  The document's network in memory.
-/
import Derived.Test.YtgfhmfhhobhojaaENew
namespace Go.Proofs.Ytgfhmfhhobhojaa
open Go.RowKit
def netF (c : ECfg) (r : RV) (v : Value) (i : Nat) : Value :=
  if i = 0 then .int .i64 (c.n : Int) else if i = 1 then .int .i64 (c.room : Int) else if i = 2 then .int .i64 (r.now : Int)
  else if i < 19 then .bool (r.up (i - 3)) else if i < 35 then .int .i64 (r.inc (i - 19) : Int) else if i < 51 then .int .i64 (r.tk (i - 35) : Int)
  else if i < 307 then .bool (r.shut ((i - 51) / 16) ((i - 51) % 16)) else if i < 563 then .int .i64 (r.slow ((i - 307) / 16) ((i - 307) % 16) : Int) else v
section
variable (c : ECfg) (r : RV) (v : Value)
theorem netF_up {k : Nat} (h : k < 16) : netF c r v (3 + k) = .bool (r.up k) := by
  unfold netF; rw [if_neg (by omega), if_neg (by omega), if_neg (by omega), if_pos (by omega), show 3 + k - 3 = k by omega]
theorem netF_inc {k : Nat} (h : k < 16) : netF c r v (19 + k) = .int .i64 (r.inc k : Int) := by
  unfold netF; rw [if_neg (by omega), if_neg (by omega), if_neg (by omega), if_neg (by omega), if_pos (by omega), show 19 + k - 19 = k by omega]
theorem netF_tk {k : Nat} (h : k < 16) : netF c r v (35 + k) = .int .i64 (r.tk k : Int) := by
  unfold netF; rw [if_neg (by omega), if_neg (by omega), if_neg (by omega), if_neg (by omega), if_neg (by omega), if_pos (by omega), show 35 + k - 35 = k by omega]
theorem netF_shut {k l : Nat} (h : k < 16) (h' : l < 16) : netF c r v (51 + k * 16 + l) = .bool (r.shut k l) := by
  unfold netF; rw [if_neg (by omega), if_neg (by omega), if_neg (by omega), if_neg (by omega), if_neg (by omega), if_neg (by omega), if_pos (by omega), show (51 + k * 16 + l - 51) / 16 = k by omega, show (51 + k * 16 + l - 51) % 16 = l by omega]
theorem netF_slow {k l : Nat} (h : k < 16) (h' : l < 16) : netF c r v (307 + k * 16 + l) = .int .i64 (r.slow k l : Int) := by
  unfold netF; rw [if_neg (by omega), if_neg (by omega), if_neg (by omega), if_neg (by omega), if_neg (by omega), if_neg (by omega), if_neg (by omega), if_pos (by omega), show (307 + k * 16 + l - 307) / 16 = k by omega, show (307 + k * 16 + l - 307) % 16 = l by omega]
theorem netF_all : netF c r v 563 = v := by
  unfold netF; rw [if_neg (by omega), if_neg (by omega), if_neg (by omega), if_neg (by omega), if_neg (by omega), if_neg (by omega), if_neg (by omega), if_neg (by omega)]
theorem net_now (k : Nat) : (rg 564 (netF c r v)).setIfInBounds 2 (.int .i64 (k : Int)) = rg 564 (netF c { r with now := k } v) :=
  rg_set (by simp [netF]) fun j _ hj => by simp [netF, hj]
theorem net_all (u : Value) : (rg 564 (netF c r v)).setIfInBounds 563 u = rg 564 (netF c r u) :=
  rg_set (netF_all c r u) fun j hj hn => by
    have : j < 563 := by omega
    simp [netF, this]
theorem net_up {k : Nat} (h : k < 16) (x : Bool) : (rg 564 (netF c r v)).setIfInBounds (3 + k) (.bool x) = rg 564 (netF c { r with up := updB r.up k x } v) :=
  rg_set (by rw [netF_up c _ v h]; simp [updB]) fun j _ hj => by
    unfold netF updB
    by_cases h1 : 3 ≤ j ∧ j < 19
    · rw [if_neg (by omega), if_neg (by omega), if_neg (by omega), if_pos h1.2, if_neg (by omega), if_neg (by omega), if_neg (by omega), if_pos h1.2]
      dsimp only
      rw [if_neg (by omega)]
    · by_cases h2 : j < 19
      · rcases (show j = 0 ∨ j = 1 ∨ j = 2 by omega) with rfl | rfl | rfl <;> simp
      · simp [h2]
theorem net_inc {k : Nat} (h : k < 16) (x : Nat) : (rg 564 (netF c r v)).setIfInBounds (19 + k) (.int .i64 (x : Int)) = rg 564 (netF c { r with inc := updN r.inc k x } v) :=
  rg_set (by rw [netF_inc c _ v h]; simp [updN]) fun j _ hj => by
    unfold netF updN
    by_cases h1 : 19 ≤ j ∧ j < 35
    · rw [if_neg (by omega), if_neg (by omega), if_neg (by omega), if_neg (by omega), if_pos h1.2, if_neg (by omega), if_neg (by omega), if_neg (by omega), if_neg (by omega), if_pos h1.2]
      dsimp only
      rw [if_neg (by omega)]
    · by_cases h2 : j < 19
      · simp [h2]
      · have h3 : ¬ j < 35 := by omega
        simp [h2, h3]
theorem net_tk {k : Nat} (h : k < 16) (x : Nat) : (rg 564 (netF c r v)).setIfInBounds (35 + k) (.int .i64 (x : Int)) = rg 564 (netF c { r with tk := updN r.tk k x } v) :=
  rg_set (by rw [netF_tk c _ v h]; simp [updN]) fun j _ hj => by
    unfold netF updN
    by_cases h1 : 35 ≤ j ∧ j < 51
    · rw [if_neg (by omega), if_neg (by omega), if_neg (by omega), if_neg (by omega), if_neg (by omega), if_pos h1.2, if_neg (by omega), if_neg (by omega), if_neg (by omega), if_neg (by omega), if_neg (by omega), if_pos h1.2]
      dsimp only
      rw [if_neg (by omega)]
    · by_cases h2 : j < 35
      · simp [h2]
      · have h3 : ¬ j < 51 := by omega
        simp [h2, h3]
theorem net_shut {k l : Nat} (h : k < 16) (h' : l < 16) (x : Bool) : (rg 564 (netF c r v)).setIfInBounds (51 + k * 16 + l) (.bool x) = rg 564 (netF c { r with shut := updS r.shut k l x } v) :=
  rg_set (by rw [netF_shut c _ v h h']; simp [updS]) fun j _ hj => by
    unfold netF updS
    by_cases h1 : 51 ≤ j ∧ j < 307
    · have e : ¬ ((j - 51) / 16 = k ∧ (j - 51) % 16 = l) := fun e => hj (by omega)
      rw [if_neg (by omega), if_neg (by omega), if_neg (by omega), if_neg (by omega), if_neg (by omega), if_neg (by omega), if_pos h1.2, if_neg (by omega), if_neg (by omega), if_neg (by omega), if_neg (by omega), if_neg (by omega), if_neg (by omega), if_pos h1.2]
      dsimp only
      rw [if_neg e]
    · by_cases h2 : j < 51
      · simp [h2]
      · have h3 : ¬ j < 307 := by omega
        simp [h2, h3]
theorem net_slow {k l : Nat} (h : k < 16) (h' : l < 16) (x : Nat) : (rg 564 (netF c r v)).setIfInBounds (307 + k * 16 + l) (.int .i64 (x : Int)) = rg 564 (netF c { r with slow := upd2 r.slow k l x } v) :=
  rg_set (by rw [netF_slow c _ v h h']; simp [upd2]) fun j _ hj => by
    unfold netF upd2
    by_cases h1 : 307 ≤ j ∧ j < 563
    · have e : ¬ ((j - 307) / 16 = k ∧ (j - 307) % 16 = l) := fun e => hj (by omega)
      rw [if_neg (by omega), if_neg (by omega), if_neg (by omega), if_neg (by omega), if_neg (by omega), if_neg (by omega), if_neg (by omega), if_pos h1.2, if_neg (by omega), if_neg (by omega), if_neg (by omega), if_neg (by omega), if_neg (by omega), if_neg (by omega), if_neg (by omega), if_pos h1.2]
      dsimp only
      rw [if_neg e]
    · by_cases h2 : j < 307
      · simp [h2]
      · have h3 : ¬ j < 563 := by omega
        simp [h2, h3]
end
/-- A packet as the document keeps it: its bytes' slice u. -/
def Flt.rowR (f : Flt) (g : Bool) (u : Value) : List Value := [.int .i64 (f.id : Int), .int .i64 (f.src : Int), .int .i64 (f.dst : Int), .int .i64 (f.due : Int), u, .bool g]
abbrev Pkt := (Flt × Bool) × Value
def rowsR (X : List Pkt) : List Value := (X.map fun x => x.1.1.rowR x.1.2 x.2).flatten
theorem rowsR_append (X Y : List Pkt) : rowsR (X ++ Y) = rowsR X ++ rowsR Y := by simp [rowsR]
theorem rowsR_length (X : List Pkt) : (rowsR X).length = X.length * 6 := by
  induction X with
  | nil => rfl
  | cons x t ih => simp only [rowsR, List.map_cons, List.flatten_cons, List.length_append] at ih ⊢; rw [ih]; simp [Flt.rowR]; omega
theorem info_packet : (Try.prog.info? 115).map (fun i => (i.zero, i.size, i.bytes)) = some (some (.agg #[.int .i64 0, .int .i64 0, .int .i64 0, .int .i64 0, .slice none 0 0, .bool false]), 6, 64) := by kernel_rfl
theorem u_packets : Try.prog.underlying 104 = some (.slice 115) := Try.underlying104
/-- The document's network in block D; all of it in F. -/
structure RN (w : World) (F : Nat → Prop) (c : ECfg) (D : Nat) (r : RV) (v : Value) (X : List Pkt) : Prop where
  blk : Blk w D 106 (rg 564 (netF c r v))
  all : X.map (·.1) = r.all
  row : w.ownsRow 0 115 6 v X.length (rowsR X)
  bytes : ∀ x ∈ X, w.ownsRow 0 5 1 x.2 x.1.1.bs.length (bvs x.1.1.bs)
  apart : X.Pairwise fun x y => ∀ g, x.2.ownBlock = some g → y.2.ownBlock ≠ some g
  fd : F D
  fv : ∀ g, v.ownBlock = some g → F g
  fx : ∀ x ∈ X, ∀ g, x.2.ownBlock = some g → F g
def RNx (w : World) (F : Nat → Prop) (c : ECfg) (D : Nat) (r : RV) : Prop := (∀ k, F k → k < w.heap.size) ∧ ∃ v X, RN w F c D r v X
section
variable {w w' : World} {F F' S' : Nat → Prop} {c : ECfg} {D : Nat} {r r' : RV} {v : Value} {X : List Pkt}
theorem RN.chg (h : RN w F c D r v X) (hc : Chg S' w w') (hS : ∀ k, F k → ¬ S' k) : RN w' F c D r v X :=
  ⟨h.blk.chg hc (hS _ h.fd), h.all, own_chg h.row hc fun g hg => hS g (h.fv g hg), fun x hx => own_chg (h.bytes x hx) hc fun g hg => hS g (h.fx x hx g hg), h.apart, h.fd, h.fv, h.fx⟩
theorem RNx.chg (h : RNx w F c D r) (hc : Chg S' w w') (hS : ∀ k, F k → ¬ S' k) : RNx w' F c D r := by
  obtain ⟨h0, v, X, h⟩ := h
  exact ⟨fun k hk => Nat.lt_of_lt_of_le (h0 k hk) hc.size, v, X, h.chg hc hS⟩
theorem RN.below (h : RN w F c D r v X) (_hF : ∀ k, F k → k < w.heap.size) (hb : Below w.heap.size w w') : RN w' F c D r v X := h.chg (Chg.of_below hb fun _ => False) fun _ _ h => h
theorem RNx.below (h : RNx w F c D r) (hb : Below w.heap.size w w') : RNx w' F c D r := h.chg (Chg.of_below hb fun _ => False) fun _ _ h => h
theorem RN.cell (h : RN w F c D r v X) : w.cell? ⟨D, 0, none⟩ = some (.int .i64 (c.n : Int)) ∧ w.cell? ⟨D, 1, none⟩ = some (.int .i64 (c.room : Int)) ∧ w.cell? ⟨D, 2, none⟩ = some (.int .i64 (r.now : Int)) ∧ w.cell? ⟨D, 563, none⟩ = some v := by
  refine ⟨?_, ?_, ?_, ?_⟩
  · rw [h.blk.cell, rg_at _ (by omega)]; rfl
  · rw [h.blk.cell, rg_at _ (by omega)]; rfl
  · rw [h.blk.cell, rg_at _ (by omega)]; rfl
  · rw [h.blk.cell, rg_at _ (by omega), netF_all]
theorem RN.node (h : RN w F c D r v X) {k : Nat} (hk : k < 16) : w.cell? ⟨D, 3 + k, none⟩ = some (.bool (r.up k)) ∧ w.cell? ⟨D, 19 + k, none⟩ = some (.int .i64 (r.inc k : Int)) ∧ w.cell? ⟨D, 35 + k, none⟩ = some (.int .i64 (r.tk k : Int)) := by
  refine ⟨?_, ?_, ?_⟩
  · rw [h.blk.cell, rg_at _ (by omega), netF_up c r v hk]
  · rw [h.blk.cell, rg_at _ (by omega), netF_inc c r v hk]
  · rw [h.blk.cell, rg_at _ (by omega), netF_tk c r v hk]
theorem RN.path (h : RN w F c D r v X) {k l : Nat} (hk : k < 16) (hl : l < 16) : w.cell? ⟨D, 51 + k * 16 + l, none⟩ = some (.bool (r.shut k l)) ∧ w.cell? ⟨D, 307 + k * 16 + l, none⟩ = some (.int .i64 (r.slow k l : Int)) := by
  refine ⟨?_, ?_⟩
  · rw [h.blk.cell, rg_at _ (by omega), netF_shut c r v hk hl]
  · rw [h.blk.cell, rg_at _ (by omega), netF_slow c r v hk hl]
theorem RN.vne (h : RN w F c D r v X) {g : Nat} (hg : v.ownBlock = some g) : g ≠ D ∧ ∀ x ∈ X, x.2.ownBlock ≠ some g := by
  obtain ⟨_, _, cur, hB⟩ := own_block_lt h.row hg
  refine ⟨hB.ne_ h.blk (by decide), fun x hx e => ?_⟩
  obtain ⟨_, _, cur', hB'⟩ := own_block_lt (h.bytes x hx) e
  exact hB'.ne_ hB (by decide) rfl
theorem RN.xne (h : RN w F c D r v X) {x : Pkt} (hx : x ∈ X) {g : Nat} (hg : x.2.ownBlock = some g) : g ≠ D := by
  obtain ⟨_, _, cur, hB⟩ := own_block_lt (h.bytes x hx) hg
  exact hB.ne_ h.blk (by decide)
/-- A store into the network's own block that turns the view alone. -/
theorem RN.setD {i : Nat} {u : Value} (h : RN w F c D r v X) (he : (rg 564 (netF c r v)).setIfInBounds i u = rg 564 (netF c r' v)) (ha : r'.all = r.all) : RN (w.setCell ⟨D, i, none⟩ u) F c D r' v X :=
  ⟨by rw [← he]; exact h.blk.set_ i u, by rw [ha]; exact h.all, own_chg h.row ((Chg.refl (fun k => k = D) w).setCell (.inl rfl) u) fun g hg e => (h.vne hg).1 e, fun x hx => own_chg (h.bytes x hx) ((Chg.refl (fun k => k = D) w).setCell (.inl rfl) u) fun g hg e => h.xne hx hg e, h.apart, h.fd, h.fv, h.fx⟩
theorem RN.len (h : RN w F c D r v X) : r.all.length = X.length := by rw [← h.all, List.length_map]
theorem RN.pkt (h : RN w F c D r v X) {k : Nat} (hk : k < X.length) :
    ∃ g cap f q u, v = .slice (some ⟨g, 0, none⟩) X.length cap ∧ X[k]? = some ((f, q), u) ∧ r.all[k]? = some (f, q) ∧ w.cell? ⟨g, k * 6, none⟩ = some (.int .i64 (f.id : Int)) ∧ w.cell? ⟨g, k * 6 + 1, none⟩ = some (.int .i64 (f.src : Int)) ∧ w.cell? ⟨g, k * 6 + 2, none⟩ = some (.int .i64 (f.dst : Int)) ∧ w.cell? ⟨g, k * 6 + 3, none⟩ = some (.int .i64 (f.due : Int)) ∧ w.cell? ⟨g, k * 6 + 4, none⟩ = some u ∧ w.cell? ⟨g, k * 6 + 5, none⟩ = some (.bool q) := by
  obtain ⟨g, cap, cur, rfl, hg, hB, hle, hcm, hsz, htk⟩ := own_parts h.row (by omega)
  have hall := flat_at (z := 6) (es := X.map fun x => x.1.1.rowR x.1.2 x.2) (fun x hx => by
    simp only [List.mem_map] at hx
    obtain ⟨y, _, rfl⟩ := hx
    rfl) k
  have hr := h.row.cells (g := g) rfl
  have hx : X[k]? = some X[k] := List.getElem?_eq_getElem hk
  have hc : ∀ (i : Nat) (u : Value), i < 6 → (X[k].1.1.rowR X[k].1.2 X[k].2)[i]? = some u → w.cell? ⟨g, k * 6 + i, none⟩ = some u := fun i u hi hu => by
    have h1 := hr (k * 6 + i) u ((hall i hi).trans (by rw [List.getElem?_map, hx]; exact hu))
    rw [addr_add, Nat.zero_add] at h1
    exact h1
  refine ⟨g, cap, X[k].1.1, X[k].1.2, X[k].2, rfl, hx, ?_, hc 0 _ (by omega) rfl, hc 1 _ (by omega) rfl, hc 2 _ (by omega) rfl, hc 3 _ (by omega) rfl, hc 4 _ (by omega) rfl, hc 5 _ (by omega) rfl⟩
  rw [← h.all, List.getElem?_map, hx]; rfl
theorem RNx.of (h : RN w F c D r v X) (hF : ∀ k, F k → k < w.heap.size) : RNx w F c D r := ⟨hF, v, X, h⟩
end
end Go.Proofs.Ytgfhmfhhobhojaa
