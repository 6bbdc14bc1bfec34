/-
  The network in memory: the program's.
-/
import Derived.Test.YtgfhmfhhobhojaaEMap
import Derived.Lib.Hide
import Derived.Test.YtgfhmfhhobhojaaStruct
namespace Go.Proofs.Ytgfhmfhhobhojaa
open Go.RowKit

theorem one_box' (w : World) (o : Obj) : Below w.heap.size w (w.alloc o) := (Below.refl _ _).alloc (Nat.le_refl _) o
/-- A block of n cells, by place. -/
def rg (n : Nat) (f : Nat → Value) : Array Value := ((List.range n).map f).toArray
theorem rg_size (n : Nat) (f : Nat → Value) : (rg n f).size = n := by simp [rg]
theorem rg_at {n : Nat} (f : Nat → Value) {k : Nat} (h : k < n) : (rg n f)[k]? = some (f k) := by simp [rg, h]
theorem rg_congr {n : Nat} {f g : Nat → Value} (h : ∀ k, k < n → f k = g k) : rg n f = rg n g := by
  apply Array.ext_getElem?
  intro i
  by_cases hi : i < n
  · rw [rg_at f hi, rg_at g hi, h i hi]
  · have h1 : ∀ g, (rg n g)[i]? = none := fun g => by rw [Array.getElem?_eq_none (by rw [rg_size]; omega)]
    rw [h1, h1]
theorem rg_set {n : Nat} {f g : Nat → Value} {k : Nat} {u : Value} (hk : g k = u) (h : ∀ j, j < n → j ≠ k → f j = g j) : (rg n f).setIfInBounds k u = rg n g := by
  apply Array.ext_getElem?
  intro i
  rw [Array.getElem?_setIfInBounds]
  by_cases hi : i < n
  · by_cases e : k = i
    · subst e
      rw [if_pos rfl, if_pos (by rw [rg_size]; exact hi), rg_at _ hi, hk]
    · rw [if_neg e, rg_at f hi, rg_at g hi, h i hi (Ne.symm e)]
  · have h1 : ∀ g, (rg n g)[i]? = none := fun g => by rw [Array.getElem?_eq_none (by rw [rg_size]; omega)]
    rw [h1, h1]
    split <;> simp [rg_size] <;> omega
theorem rg_replicate (n : Nat) (u : Value) : Array.replicate n u = rg n fun _ => u := by
  apply Array.ext_getElem?
  intro i
  by_cases hi : i < n
  · rw [rg_at _ hi]; simp [hi]
  · rw [Array.getElem?_eq_none (by rw [Array.size_replicate]; omega), Array.getElem?_eq_none (by rw [rg_size]; omega)]

/-- The nodes' block: three cells a node. -/
def peerF (p : PV) (i : Nat) : Value := if i % 3 = 0 then .bool (p.down (i / 3)) else if i % 3 = 1 then .int .i64 (p.inc (i / 3) : Int) else .int .i64 (p.tk (i / 3) : Int)
theorem peer_0 (p : PV) (k : Nat) : peerF p (k * 3) = .bool (p.down k) := by
  unfold peerF
  rw [if_pos (by omega), show k * 3 / 3 = k by omega]
theorem peer_1 (p : PV) (k : Nat) : peerF p (k * 3 + 1) = .int .i64 (p.inc k : Int) := by
  unfold peerF
  rw [if_neg (by omega), if_pos (by omega), show (k * 3 + 1) / 3 = k by omega]
theorem peer_2 (p : PV) (k : Nat) : peerF p (k * 3 + 2) = .int .i64 (p.tk k : Int) := by
  unfold peerF
  rw [if_neg (by omega), if_neg (by omega), show (k * 3 + 2) / 3 = k by omega]
def updB (f : Nat → Bool) (k : Nat) (v : Bool) : Nat → Bool := fun j => if j = k then v else f j
def updN (f : Nat → Nat) (k v : Nat) : Nat → Nat := fun j => if j = k then v else f j
theorem peer_set0 (p : PV) (k : Nat) (v : Bool) (n : Nat) : (rg n (peerF p)).setIfInBounds (k * 3) (.bool v) = rg n (peerF { p with down := updB p.down k v }) := by
  refine rg_set (by rw [peer_0]; simp [updB]) fun j _ hj => ?_
  unfold peerF updB
  by_cases h0 : j % 3 = 0
  · rw [if_pos h0, if_pos h0]; dsimp only; rw [if_neg (by omega)]
  · rw [if_neg h0, if_neg h0]
theorem peer_set1 (p : PV) (k : Nat) (v : Nat) (n : Nat) : (rg n (peerF p)).setIfInBounds (k * 3 + 1) (.int .i64 (v : Int)) = rg n (peerF { p with inc := updN p.inc k v }) := by
  refine rg_set (by rw [peer_1]; simp [updN]) fun j _ hj => ?_
  unfold peerF updN
  by_cases h0 : j % 3 = 0
  · rw [if_pos h0, if_pos h0]
  · rw [if_neg h0, if_neg h0]
    by_cases h1 : j % 3 = 1
    · rw [if_pos h1, if_pos h1]; dsimp only; rw [if_neg (by omega)]
    · rw [if_neg h1, if_neg h1]
theorem peer_set2 (p : PV) (k : Nat) (v : Nat) (n : Nat) : (rg n (peerF p)).setIfInBounds (k * 3 + 2) (.int .i64 (v : Int)) = rg n (peerF { p with tk := updN p.tk k v }) := by
  refine rg_set (by rw [peer_2]; simp [updN]) fun j _ hj => ?_
  unfold peerF updN
  by_cases h0 : j % 3 = 0
  · rw [if_pos h0, if_pos h0]
  · rw [if_neg h0, if_neg h0]
    by_cases h1 : j % 3 = 1
    · rw [if_pos h1, if_pos h1]
    · rw [if_neg h1, if_neg h1]; dsimp only; rw [if_neg (by omega)]
/-- A packet as it lies in the list; its bytes in block y. -/
def Flt.row (f : Flt) (y : Nat) : List Value := [.int .i64 (f.id : Int), .int .i64 (f.src : Int), .int .i64 (f.dst : Int), .int .i64 (f.due : Int), .slice (some ⟨y, 0, none⟩) f.bs.length f.bs.length]
def rowsP (L : List (Flt × Nat)) : List Value := (L.map fun x => x.1.row x.2).flatten
theorem rowsP_app (L : List (Flt × Nat)) (x : Flt × Nat) : rowsP (L ++ [x]) = rowsP L ++ x.1.row x.2 := by simp [rowsP]
theorem row_oneP (f : Flt) (y : Nat) : ∀ u ∈ f.row y, u.oneCell' = true := by
  intro u hu
  simp only [Flt.row, List.mem_cons, List.not_mem_nil, or_false] at hu
  rcases hu with rfl | rfl | rfl | rfl | rfl <;> rfl
theorem info_flight : (Try.prog.info? 48).map (fun i => (i.zero, i.size, i.bytes)) = some (some (.agg #[.int .i64 0, .int .i64 0, .int .i64 0, .int .i64 0, .slice none 0 0]), 5, 56) := by kernel_rfl
theorem u_flights : Try.prog.underlying 43 = some (.slice 48) := Try.underlying43
theorem info_u8 : (Try.prog.info? 5).map (fun i => (i.zero, i.size, i.bytes)) = some (some (.int .u8 0), 1, 1) := by kernel_rfl
theorem u_bytes : Try.prog.underlying 30 = some (.slice 5) := Try.underlying30
def netP (c : ECfg) (p : PV) (P S L : Nat) (v : Value) : Array Value := #[.int .i64 (c.room : Int), .int .i64 (p.clock : Int), .int .i64 (p.last : Int), .slice (some ⟨P, 0, none⟩) c.n c.n, .map (some S), .map (some L), v]
/-- The program's network in block D: the nodes' block, its two maps, its list of packets and the blocks of their bytes: all of it in F. m: so many steps at most. -/
structure PN (w : World) (F : Nat → Prop) (c : ECfg) (D : Nat) (p : PV) (m : Nat) (P S L : Nat) (v : Value) (X : List (Flt × Nat)) : Prop where
  blk : Blk w D 81 (netP c p P S L v)
  peers : Blk w P 83 (rg (c.n * 3) (peerF p))
  shut : MapZ w S (256 + m) (fun a b => if p.shut a b = true then 1 else 0)
  slow : MapZ w L (256 + m) p.slow
  way : X.map (·.1) = p.way
  row : w.ownsRow 0 48 5 v X.length (rowsP X)
  bytes : ∀ x ∈ X, Blk w x.2 5 (bvs x.1.bs).toArray
  nodup : (X.map (·.2)).Nodup
  ne : S ≠ L
  fd : F D
  fp : F P
  fs : F S
  fl : F L
  fv : ∀ g, v.ownBlock = some g → F g
  fx : ∀ x ∈ X, F x.2
def PNx (w : World) (F : Nat → Prop) (c : ECfg) (D : Nat) (p : PV) (m : Nat) : Prop := (∀ k, F k → k < w.heap.size) ∧ ∃ P S L v X, PN w F c D p m P S L v X
section
variable {w w' : World} {F F' S' : Nat → Prop} {c : ECfg} {D : Nat} {p p' : PV} {m : Nat} {P S L : Nat} {v : Value} {X : List (Flt × Nat)}
theorem PN.chg (h : PN w F c D p m P S L v X) (hc : Chg S' w w') (hS : ∀ k, F k → ¬ S' k) : PN w' F c D p m P S L v X :=
  ⟨h.blk.chg hc (hS _ h.fd), h.peers.chg hc (hS _ h.fp), h.shut.chg hc (hS _ h.fs), h.slow.chg hc (hS _ h.fl), h.way, own_chg h.row hc fun g hg => hS g (h.fv g hg), fun x hx => (h.bytes x hx).chg hc (hS _ (h.fx x hx)), h.nodup, h.ne, h.fd, h.fp, h.fs, h.fl, h.fv, h.fx⟩
theorem PNx.chg (h : PNx w F c D p m) (hc : Chg S' w w') (hS : ∀ k, F k → ¬ S' k) : PNx w' F c D p m := by
  obtain ⟨h0, P, S, L, v, X, h⟩ := h
  exact ⟨fun k hk => Nat.lt_of_lt_of_le (h0 k hk) hc.size, P, S, L, v, X, h.chg hc hS⟩
theorem PN.below (h : PN w F c D p m P S L v X) (_hF : ∀ k, F k → k < w.heap.size) (hb : Below w.heap.size w w') : PN w' F c D p m P S L v X := h.chg (Chg.of_below hb fun _ => False) fun _ _ h => h
theorem PNx.below (h : PNx w F c D p m) (hb : Below w.heap.size w w') : PNx w' F c D p m := h.chg (Chg.of_below hb fun _ => False) fun _ _ h => h
theorem PN.mono {m' : Nat} (h : PN w F c D p m P S L v X) (hm : m ≤ m') : PN w F c D p m' P S L v X :=
  ⟨h.blk, h.peers, h.shut.mono (by omega), h.slow.mono (by omega), h.way, h.row, h.bytes, h.nodup, h.ne, h.fd, h.fp, h.fs, h.fl, h.fv, h.fx⟩
theorem PNx.mono {m' : Nat} (h : PNx w F c D p m) (hm : m ≤ m') : PNx w F c D p m' := by
  obtain ⟨h0, P, S, L, v, X, h⟩ := h
  exact ⟨h0, P, S, L, v, X, h.mono hm⟩
/-- What the walk reads. -/
theorem PN.cell (h : PN w F c D p m P S L v X) : w.cell? ⟨D, 0, none⟩ = some (.int .i64 (c.room : Int)) ∧ w.cell? ⟨D, 1, none⟩ = some (.int .i64 (p.clock : Int)) ∧ w.cell? ⟨D, 2, none⟩ = some (.int .i64 (p.last : Int)) ∧ w.cell? ⟨D, 3, none⟩ = some (.slice (some ⟨P, 0, none⟩) c.n c.n) ∧ w.cell? ⟨D, 4, none⟩ = some (.map (some S)) ∧ w.cell? ⟨D, 5, none⟩ = some (.map (some L)) ∧ w.cell? ⟨D, 6, none⟩ = some v :=
  ⟨h.blk.cell 0, h.blk.cell 1, h.blk.cell 2, h.blk.cell 3, h.blk.cell 4, h.blk.cell 5, h.blk.cell 6⟩
theorem PN.peer (h : PN w F c D p m P S L v X) {k : Nat} (hk : k < c.n) : w.cell? ⟨P, k * 3, none⟩ = some (.bool (p.down k)) ∧ w.cell? ⟨P, k * 3 + 1, none⟩ = some (.int .i64 (p.inc k : Int)) ∧ w.cell? ⟨P, k * 3 + 2, none⟩ = some (.int .i64 (p.tk k : Int)) := by
  refine ⟨?_, ?_, ?_⟩
  · rw [h.peers.cell, rg_at _ (by omega), peer_0]
  · rw [h.peers.cell, rg_at _ (by omega), peer_1]
  · rw [h.peers.cell, rg_at _ (by omega), peer_2]
theorem PN.flt (h : PN w F c D p m P S L v X) {k : Nat} (hk : k < X.length) :
    ∃ g cap f y, v = .slice (some ⟨g, 0, none⟩) X.length cap ∧ X[k]? = some (f, y) ∧ p.way[k]? = some f ∧ w.cell? ⟨g, k * 5, none⟩ = some (.int .i64 (f.id : Int)) ∧ w.cell? ⟨g, k * 5 + 1, none⟩ = some (.int .i64 (f.src : Int)) ∧ w.cell? ⟨g, k * 5 + 2, none⟩ = some (.int .i64 (f.dst : Int)) ∧ w.cell? ⟨g, k * 5 + 3, none⟩ = some (.int .i64 (f.due : Int)) ∧ w.cell? ⟨g, k * 5 + 4, none⟩ = some (.slice (some ⟨y, 0, none⟩) f.bs.length f.bs.length) := by
  obtain ⟨g, cap, cur, rfl, hg, hB, hle, hcm, hsz, htk⟩ := own_parts h.row (by omega)
  have hall := flat_at (z := 5) (es := X.map fun x => x.1.row x.2) (fun x hx => by
    simp only [List.mem_map] at hx
    obtain ⟨y, _, rfl⟩ := hx
    rfl) k
  have hr := h.row.cells (g := g) rfl
  have hx : X[k]? = some X[k] := List.getElem?_eq_getElem hk
  have hc : ∀ (i : Nat) (u : Value), i < 5 → (X[k].1.row X[k].2)[i]? = some u → w.cell? ⟨g, k * 5 + i, none⟩ = some u := fun i u hi hu => by
    have h1 := hr (k * 5 + i) u ((hall i hi).trans (by rw [List.getElem?_map, hx]; exact hu))
    rw [addr_add, Nat.zero_add] at h1
    exact h1
  refine ⟨g, cap, X[k].1, X[k].2, rfl, hx, ?_, hc 0 _ (by omega) rfl, hc 1 _ (by omega) rfl, hc 2 _ (by omega) rfl, hc 3 _ (by omega) rfl, hc 4 _ (by omega) rfl⟩
  rw [← h.way, List.getElem?_map, hx]; rfl
theorem PN.len (h : PN w F c D p m P S L v X) : p.way.length = X.length := by rw [← h.way, List.length_map]
theorem PNx.of (h : PN w F c D p m P S L v X) (hF : ∀ k, F k → k < w.heap.size) : PNx w F c D p m := ⟨hF, P, S, L, v, X, h⟩
/-- Only what the view says counts. -/
theorem PN.dp (h : PN w F c D p m P S L v X) : D ≠ P := h.blk.ne_ h.peers (by decide)
theorem MapZ.ne_blk {b n g : Nat} {f : Nat → Nat → Nat} {t : TypeId} {cs : Array Value} (h : MapZ w b n f) (hB : Blk w g t cs) : b ≠ g := by
  rintro rfl
  obtain ⟨D, ⟨es, clock, h1, _⟩, _⟩ := h
  unfold Blk at hB
  rw [h1] at hB
  cases hB
theorem MapZ.setCell {b n : Nat} {f : Nat → Nat → Nat} (h : MapZ w b n f) {a : Addr} (ha : b ≠ a.block) (u : Value) : MapZ (w.setCell a u) b n f := by
  obtain ⟨D, h1, h2⟩ := h
  exact ⟨D, h1.setCell ha u, h2⟩
/-- Blocks of the list's rows and of bytes are none of the others. -/
theorem PN.vne (h : PN w F c D p m P S L v X) {g : Nat} (hg : v.ownBlock = some g) : g ≠ D ∧ g ≠ P ∧ (∀ x ∈ X, x.2 ≠ g) := by
  obtain ⟨_, _, cur, hB⟩ := own_block_lt h.row hg
  exact ⟨hB.ne_ h.blk (by decide), hB.ne_ h.peers (by decide), fun x hx => (h.bytes x hx).ne_ hB (by decide)⟩
theorem own_far {base : Nat} {e : TypeId} {size : Nat} {u : Value} {n : Nat} {xs : List Value} (h : w.ownsRow base e size v n xs) {a : Addr} (ha : ∀ g, v.ownBlock = some g → g ≠ a.block) : (w.setCell a u).ownsRow base e size v n xs :=
  own_chg h ((Chg.refl (fun k => k = a.block) w).setCell (.inl rfl) u) fun g hg => ha g hg
/-- A store into the network's own block: clock and count. -/
theorem PN.setD {i : Nat} {u : Value} (h : PN w F c D p m P S L v X) (he : (netP c p P S L v).setIfInBounds i u = netP c p' P S L v) (hp : peerF p' = peerF p) (hs : p'.shut = p.shut) (hl : p'.slow = p.slow) (hw : p'.way = p.way) : PN (w.setCell ⟨D, i, none⟩ u) F c D p' m P S L v X :=
  ⟨by rw [← he]; exact h.blk.set_ i u, by rw [hp]; exact h.peers.far h.dp.symm u, by rw [hs]; exact h.shut.setCell (h.shut.ne_blk h.blk) u, by rw [hl]; exact h.slow.setCell (h.slow.ne_blk h.blk) u, by rw [hw]; exact h.way, own_far h.row fun g hg => (h.vne hg).1, fun x hx => (h.bytes x hx).far ((h.bytes x hx).ne_ h.blk (by decide)) u, h.nodup, h.ne, h.fd, h.fp, h.fs, h.fl, h.fv, h.fx⟩
/-- A store into the nodes' block. -/
theorem PN.setP {i : Nat} {u : Value} (h : PN w F c D p m P S L v X) (he : (rg (c.n * 3) (peerF p)).setIfInBounds i u = rg (c.n * 3) (peerF p')) (hn : netP c p' P S L v = netP c p P S L v) (hs : p'.shut = p.shut) (hl : p'.slow = p.slow) (hw : p'.way = p.way) : PN (w.setCell ⟨P, i, none⟩ u) F c D p' m P S L v X :=
  ⟨by rw [hn]; exact h.blk.far h.dp u, by rw [← he]; exact h.peers.set_ i u, by rw [hs]; exact h.shut.setCell (h.shut.ne_blk h.peers) u, by rw [hl]; exact h.slow.setCell (h.slow.ne_blk h.peers) u, by rw [hw]; exact h.way, own_far h.row fun g hg => (h.vne hg).2.1, fun x hx => (h.bytes x hx).far ((h.bytes x hx).ne_ h.peers (by decide)) u, h.nodup, h.ne, h.fd, h.fp, h.fs, h.fl, h.fv, h.fx⟩
/-- The map of the closed paths has turned. -/
theorem PN.setS (h : PN w F c D p m P S L v X) (hg : w.grownBy w' (some S)) (hz : MapZ w' S (256 + m) (fun a b => if p'.shut a b = true then 1 else 0)) (hn : netP c p' P S L v = netP c p P S L v) (hpp : peerF p' = peerF p) (hl : p'.slow = p.slow) (hw : p'.way = p.way) : PN w' F c D p' m P S L v X :=
  have hc : Chg (fun k => some k = some S) w w' := Chg.of_grown hg
  have hne : ∀ {g : Nat} {t : TypeId} {cs : Array Value}, Blk w g t cs → ¬ (some g = some S) := fun hB e => h.shut.ne_blk hB (by injection e with e; exact e.symm)
  ⟨by rw [hn]; exact h.blk.chg hc (hne h.blk), by rw [hpp]; exact h.peers.chg hc (hne h.peers), hz, by rw [hl]; exact h.slow.chg hc (fun e => h.ne (by injection e with e; exact e.symm)), by rw [hw]; exact h.way, own_chg h.row hc fun g hg => by
    obtain ⟨_, _, cur, hB⟩ := own_block_lt h.row hg
    exact hne hB, fun x hx => (h.bytes x hx).chg hc (hne (h.bytes x hx)), h.nodup, h.ne, h.fd, h.fp, h.fs, h.fl, h.fv, h.fx⟩
theorem PN.setL (h : PN w F c D p m P S L v X) (hg : w.grownBy w' (some L)) (hz : MapZ w' L (256 + m) p'.slow) (hn : netP c p' P S L v = netP c p P S L v) (hpp : peerF p' = peerF p) (hs : p'.shut = p.shut) (hw : p'.way = p.way) : PN w' F c D p' m P S L v X :=
  have hc : Chg (fun k => some k = some L) w w' := Chg.of_grown hg
  have hne : ∀ {g : Nat} {t : TypeId} {cs : Array Value}, Blk w g t cs → ¬ (some g = some L) := fun hB e => h.slow.ne_blk hB (by injection e with e; exact e.symm)
  ⟨by rw [hn]; exact h.blk.chg hc (hne h.blk), by rw [hpp]; exact h.peers.chg hc (hne h.peers), by rw [hs]; exact h.shut.chg hc (fun e => h.ne (by injection e with e)), hz, by rw [hw]; exact h.way, own_chg h.row hc fun g hg => by
    obtain ⟨_, _, cur, hB⟩ := own_block_lt h.row hg
    exact hne hB, fun x hx => (h.bytes x hx).chg hc (hne (h.bytes x hx)), h.nodup, h.ne, h.fd, h.fp, h.fs, h.fl, h.fv, h.fx⟩
end
end Go.Proofs.Ytgfhmfhhobhojaa
