/-
  DetectMutual: what the law keeps in memory.
-/
import Derived.Test.YtfjpmoigpnmeoaaDRepP
import Derived.Test.YtfjpmoigpnmeoaaDMutP
import Derived.IntWalk
namespace Go.Proofs.Ytfjpmoigpnmeoaa
open Go.RowKit
/-- A beat that was told, its list in block g. -/
structure Bt where
  tick : Int
  hs : List Int
  g : Nat
def Bt.row (b : Bt) : List Value := [.int .i64 b.tick, .slice (some ⟨b.g, 0, none⟩) 2 2]
def rowsB (L : List Bt) : List Value := (L.map Bt.row).flatten
theorem rowsB_app (L : List Bt) (b : Bt) : rowsB (L ++ [b]) = rowsB L ++ b.row := by simp [rowsB]
theorem bt_one (b : Bt) : ∀ u ∈ b.row, u.oneCell' = true := by
  intro u hu
  simp only [Bt.row, List.mem_cons, List.not_mem_nil, or_false] at hu
  rcases hu with rfl | rfl <;> rfl
theorem info_bt : (Try.prog.info? 37).map (fun i => (i.zero, i.size, i.bytes)) = some (some (.agg #[.int .i64 0, .slice none 0 0]), 2, 32) := by kernel_rfl
theorem u_bts : Try.prog.underlying 52 = some (.slice 37) := Try.underlying52
theorem bts_at {w : World} {B : Nat} {v : Value} {L : List Bt} {j : Nat} {b : Bt} (h : w.ownsRow B 37 2 v L.length (rowsB L)) (hj : L[j]? = some b) :
    ∃ g cap, v = .slice (some ⟨g, 0, none⟩) L.length cap ∧ w.cell? ⟨g, j * 2, none⟩ = some (.int .i64 b.tick) ∧ w.cell? ⟨g, j * 2 + 1, none⟩ = some (.slice (some ⟨b.g, 0, none⟩) 2 2) := by
  have hlt := (List.getElem?_eq_some_iff.1 hj).1
  obtain ⟨g, cap, cur, rfl, hg, hB, hle, hcm, hsz, htk⟩ := own_parts h (by omega)
  have hall := flat_at (z := 2) (es := L.map Bt.row) (fun x hx => by
    simp only [List.mem_map] at hx
    obtain ⟨y, _, rfl⟩ := hx
    rfl) j
  have hr := h.cells (g := g) rfl
  have hc : ∀ (i : Nat) (u : Value), i < 2 → b.row[i]? = some u → w.cell? ⟨g, j * 2 + i, none⟩ = some u := fun i u hi hu => by
    have h1 := hr (j * 2 + i) u ((hall i hi).trans (by rw [List.getElem?_map, hj]; exact hu))
    rw [addr_add, Nat.zero_add] at h1
    exact h1
  exact ⟨g, cap, rfl, hc 0 _ (by omega) rfl, hc 1 _ (by omega) rfl⟩
/-- All that the law keeps but the two detectors, whose blocks lie in [lo, hi). -/
structure MuR (w : World) (lo hi I P T S : Nat) (c : Nat → Cfg) (D : Nat → Nat) (v : Nat → Value) (L : Nat → List Bt) (said : Nat → Bool) : Prop where
  inc : Blk w I 3 #[.int .i64 (c 0).inc, .int .i64 (c 1).inc]
  ds : Blk w P 28 #[.pointer (some ⟨D 0, 0, none⟩), .pointer (some ⟨D 1, 0, none⟩)]
  told : Blk w T 52 #[v 0, v 1]
  sd : Blk w S 4 #[.bool (said 0), .bool (said 1)]
  own : ∀ m, m < 2 → w.ownsRow hi 37 2 (v m) (L m).length (rowsB (L m))
  ap : ∀ g, (v 0).ownBlock = some g → (v 1).ownBlock = some g → False
  hs : ∀ m, m < 2 → ∀ b ∈ L m, Blk w b.g 3 (rg 2 fun j => .int .i64 (b.hs.getD j 0)) ∧ hi ≤ b.g ∧ b.hs.length = 2
  at_ : I < lo ∧ hi ≤ P ∧ hi ≤ T ∧ hi ≤ S
section
variable {w w' : World} {lo hi I P T S : Nat} {c : Nat → Cfg} {D : Nat → Nat} {v : Nat → Value} {L : Nat → List Bt} {said : Nat → Bool}
theorem two_cases {m : Nat} (h : m < 2) : m = 0 ∨ m = 1 := by omega
theorem MuR.over (h : MuR w lo hi I P T S c D v L said) (hb : Below w.heap.size w w') : MuR w' lo hi I P T S c D v L said :=
  ⟨h.inc.over hb, h.ds.over hb, h.told.over hb, h.sd.over hb, fun m hm => own_over (h.own m hm) hb, h.ap, fun m hm b hB => ⟨(h.hs m hm b hB).1.over hb, (h.hs m hm b hB).2⟩, h.at_⟩
theorem MuR.chg {X : Nat → Prop} (h : MuR w lo hi I P T S c D v L said) (hc : Chg X w w') (hX : ∀ k, X k → lo ≤ k ∧ k < hi) : MuR w' lo hi I P T S c D v L said := by
  obtain ⟨a1, a2, a3, a4⟩ := h.at_
  exact ⟨h.inc.chg hc (fun e => by have := hX _ e; omega), h.ds.chg hc (fun e => by have := hX _ e; omega), h.told.chg hc (fun e => by have := hX _ e; omega), h.sd.chg hc (fun e => by have := hX _ e; omega),
    fun m hm => own_chg (h.own m hm) hc fun g hg e => (by have := (own_block_lt (h.own m hm) hg).2.1; have := hX _ e; omega), h.ap, fun m hm b hB => ⟨(h.hs m hm b hB).1.chg hc (fun e => by have := (h.hs m hm b hB).2.1; have := hX _ e; omega), (h.hs m hm b hB).2⟩, h.at_⟩
theorem MuR.incC (h : MuR w lo hi I P T S c D v L said) {m : Nat} (hm : m < 2) : w.cell? ⟨I, m, none⟩ = some (.int .i64 (c m).inc) := by
  rcases two_cases hm with rfl | rfl
  · exact h.inc.cell 0
  · exact h.inc.cell 1
theorem MuR.dsC (h : MuR w lo hi I P T S c D v L said) {m : Nat} (hm : m < 2) : w.cell? ⟨P, m, none⟩ = some (.pointer (some ⟨D m, 0, none⟩)) := by
  rcases two_cases hm with rfl | rfl
  · exact h.ds.cell 0
  · exact h.ds.cell 1
theorem MuR.toldC (h : MuR w lo hi I P T S c D v L said) {m : Nat} (hm : m < 2) : w.cell? ⟨T, m, none⟩ = some (v m) := by
  rcases two_cases hm with rfl | rfl
  · exact h.told.cell 0
  · exact h.told.cell 1
theorem MuR.saidC (h : MuR w lo hi I P T S c D v L said) {m : Nat} (hm : m < 2) : w.cell? ⟨S, m, none⟩ = some (.bool (said m)) := by
  rcases two_cases hm with rfl | rfl
  · exact h.sd.cell 0
  · exact h.sd.cell 1
/-- 'said[m] = b' -/
theorem MuR.setS (h : MuR w lo hi I P T S c D v L said) {m : Nat} (hm : m < 2) (b : Bool) : MuR (w.setCell ⟨S, m, none⟩ (.bool b)) lo hi I P T S c D v L (updN said m b) := by
  have hc : Chg (fun k => k = S) w (w.setCell ⟨S, m, none⟩ (.bool b)) := (Chg.refl (fun k => k = S) w).setCell (p := ⟨S, m, none⟩) (.inl rfl) _
  have ne : ∀ {g t : Nat} {cs : Array Value}, Blk w g t cs → t ≠ 4 → ¬ g = S := fun hB ht e => by subst e; exact hB.ne_ h.sd ht rfl
  refine ⟨h.inc.chg hc (ne h.inc (by decide)), h.ds.chg hc (ne h.ds (by decide)), h.told.chg hc (ne h.told (by decide)), ?_, fun i hi' => own_chg (h.own i hi') hc fun g hg => ?_, h.ap, fun i hi' x hx => ⟨(h.hs i hi' x hx).1.chg hc (ne (h.hs i hi' x hx).1 (by decide)), (h.hs i hi' x hx).2⟩, h.at_⟩
  · rcases two_cases hm with rfl | rfl
    · exact h.sd.set_ 0 _
    · exact h.sd.set_ 1 _
  · obtain ⟨_, _, cur, hB⟩ := own_block_lt (h.own i hi') hg
    exact ne hB (by decide)
/-- 'told[m] = append(told[m], b)' -/
theorem MuR.app (h : MuR w lo hi I P T S c D v L said) {m : Nat} (hm : m < 2) {b : Bt} (hb : Blk w b.g 3 (rg 2 fun j => .int .i64 (b.hs.getD j 0)) ∧ hi ≤ b.g ∧ b.hs.length = 2) {w1 : World} {u : Value} (ho : w1.ownsRow hi 37 2 u ((L m).length + 1) (rowsB (L m) ++ b.row))
    (hc : Chg (fun k => some k = (v m).ownBlock) w w1) (hu : ∀ g, u.ownBlock = some g → (v m).ownBlock = some g ∨ w.heap.size ≤ g) :
    w1.frozen? ⟨T, m, none⟩ = false ∧ w1.cell? ⟨T, m, none⟩ = some (v m) ∧ MuR (w1.setCell ⟨T, m, none⟩ u) lo hi I P T S c D (updN v m u) (updN L m (L m ++ [b])) said ∧ Chg (fun k => hi ≤ k) w (w1.setCell ⟨T, m, none⟩ u) ∧ (∀ (g t : Nat) (cs : Array Value), Blk w g t cs → ((v m).ownBlock = some g → False) → t ≠ 52 → Blk w1 g t cs ∧ Blk (w1.setCell ⟨T, m, none⟩ u) g t cs) := by
  have ne1 : ∀ {g t : Nat} {cs : Array Value}, Blk w g t cs → t ≠ 37 → ¬ some g = (v m).ownBlock := fun hB ht e => by
    obtain ⟨_, _, cur, hB2⟩ := own_block_lt (h.own m hm) e.symm
    exact hB.ne_ hB2 ht rfl
  have hT := h.told.chg hc (ne1 h.told (by decide))
  have hcs : Chg (fun k => k = T) w1 (w1.setCell ⟨T, m, none⟩ u) := (Chg.refl (fun k => k = T) w1).setCell (p := ⟨T, m, none⟩) (.inl rfl) _
  have ne2 : ∀ {g t : Nat} {cs : Array Value}, Blk w1 g t cs → t ≠ 52 → ¬ g = T := fun hB ht e => by subst e; exact hB.ne_ hT ht rfl
  have nu : ∀ g, u.ownBlock = some g → ¬ g = T := fun g hg => by
    obtain ⟨_, _, cur, hB⟩ := own_block_lt ho hg
    exact ne2 hB (by decide)
  have hoT := h.at_.2.2.1
  refine ⟨hT.frozen m, ?_, ⟨?_, ?_, ?_, ?_, fun i hi' => ?_, fun g h0 h1 => ?_, fun i hi' x hx => ?_, h.at_⟩, ?_, fun g t cs hB hn ht => ?_⟩
  · rcases two_cases hm with rfl | rfl
    · exact hT.cell 0
    · exact hT.cell 1
  · have h1 := h.inc.chg hc (ne1 h.inc (by decide))
    exact h1.chg hcs (ne2 h1 (by decide))
  · have h1 := h.ds.chg hc (ne1 h.ds (by decide))
    exact h1.chg hcs (ne2 h1 (by decide))
  · rcases two_cases hm with rfl | rfl
    · exact hT.set_ 0 u
    · exact hT.set_ 1 u
  · have h1 := h.sd.chg hc (ne1 h.sd (by decide))
    exact h1.chg hcs (ne2 h1 (by decide))
  · by_cases e : i = m
    · subst e
      rw [updN_same, updN_same, rowsB_app, List.length_append]
      exact own_chg ho hcs fun g hg => nu g hg
    · rw [updN_other _ _ e, updN_other _ _ e]
      have h1 := own_chg (h.own i hi') hc fun g hg e2 => by
        have e3 : (i = 0 ∧ m = 1) ∨ (i = 1 ∧ m = 0) := by omega
        rcases e3 with ⟨rfl, rfl⟩ | ⟨rfl, rfl⟩
        · exact h.ap g hg e2.symm
        · exact h.ap g e2.symm hg
      refine own_chg h1 hcs fun g hg => ?_
      obtain ⟨_, _, cur, hB⟩ := own_block_lt h1 hg
      exact ne2 hB (by decide)
  · rcases two_cases hm with rfl | rfl
    · rw [updN_same] at h0
      rw [updN_other _ _ (by decide)] at h1
      rcases hu g h0 with e | e
      · exact h.ap g e h1
      · have := (own_block_lt (h.own 1 (by omega)) h1).1; omega
    · rw [updN_same] at h1
      rw [updN_other _ _ (by decide)] at h0
      rcases hu g h1 with e | e
      · exact h.ap g h0 e
      · have := (own_block_lt (h.own 0 (by omega)) h0).1; omega
  · have key : ∀ x : Bt, Blk w x.g 3 (rg 2 fun j => .int .i64 (x.hs.getD j 0)) ∧ hi ≤ x.g ∧ x.hs.length = 2 → Blk (w1.setCell ⟨T, m, none⟩ u) x.g 3 (rg 2 fun j => .int .i64 (x.hs.getD j 0)) ∧ hi ≤ x.g ∧ x.hs.length = 2 := fun x hx => by
      have h1 := hx.1.chg hc (ne1 hx.1 (by decide))
      exact ⟨h1.chg hcs (ne2 h1 (by decide)), hx.2⟩
    by_cases e : i = m
    · subst e
      rw [updN_same] at hx
      rcases List.mem_append.1 hx with hx | hx
      · exact key x (h.hs i hi' x hx)
      · simp only [List.mem_cons, List.not_mem_nil, or_false] at hx
        subst hx
        exact key x hb
    · rw [updN_other _ _ e] at hx
      exact key x (h.hs i hi' x hx)
  · refine (hc.mono fun k _ e => ?_).thenS hcs fun k _ e => by rw [e]; exact hoT
    exact (own_block_lt (h.own m hm) e.symm).2.1
  · have h1 := hB.chg hc fun e => hn e.symm
    exact ⟨h1, h1.chg hcs (ne2 h1 ht)⟩
end
theorem Live.chgO {X : Nat → Prop} {w0 w w' : World} {F : Nat → Prop} {c : Cfg} {D : Nat} {d : DSt} {m : Nat} (h : Live w0 w F c D d m) (hc : Chg X w w') (hn : ∀ k, F k → ¬ X k) (hX : ∀ k, X k → w0.heap.size ≤ k) : Live w0 w' F c D d m :=
  ⟨h.p.chg hc hn, h.ok, h.fw, h.below.trans (hc.to_below h.below.size hX)⟩
theorem Live.up2 {w0 w : World} {F : Nat → Prop} {c : Cfg} {D : Nat} {d : DSt} {m m' : Nat} (h : Live w0 w F c D d m) (hm : m ≤ m') : Live w0 w F c D d m' := ⟨h.p, h.ok.mono hm, h.fw, h.below⟩
/-- The two detectors. -/
structure MuL (w0 w : World) (lo hi : Nat) (F : Nat → Nat → Prop) (D : Nat → Nat) (c : Nat → Cfg) (d : Nat → DSt) (N : Nat) : Prop where
  live : ∀ m, m < 2 → Live w0 w (F m) (c m) (D m) (d m) N
  rng : ∀ m, m < 2 → ∀ k, F m k → lo ≤ k ∧ k < hi
  dis : ∀ k, F 0 k → F 1 k → False
  lo : w0.heap.size ≤ lo ∧ lo ≤ hi
section
variable {w0 w w' : World} {lo hi N : Nat} {F : Nat → Nat → Prop} {D : Nat → Nat} {c : Nat → Cfg} {d : Nat → DSt}
theorem MuL.over (h : MuL w0 w lo hi F D c d N) (hb : Below w.heap.size w w') : MuL w0 w' lo hi F D c d N := ⟨fun m hm => (h.live m hm).over hb, h.rng, h.dis, h.lo⟩
theorem MuL.chg (h : MuL w0 w lo hi F D c d N) (hc : Chg (fun k => hi ≤ k) w w') : MuL w0 w' lo hi F D c d N :=
  ⟨fun m hm => (h.live m hm).chgO hc (fun k hk e => by have := h.rng m hm k hk; omega) (fun k e => by have h2 := h.lo; omega), h.rng, h.dis, h.lo⟩
theorem MuL.up (h : MuL w0 w lo hi F D c d N) : MuL w0 w lo hi F D c d (N + 1) := ⟨fun m hm => (h.live m hm).up2 (by omega), h.rng, h.dis, h.lo⟩
/-- One of them has made a step. -/
theorem MuL.step (h : MuL w0 w lo hi F D c d N) {m : Nat} (hm : m < 2) {x : DSt} (hl : Live w0 w' (F m) (c m) (D m) x N) (hc : Chg (F m) w w') : MuL w0 w' lo hi F D c (updN d m x) N := by
  refine ⟨fun i hi' => ?_, h.rng, h.dis, h.lo⟩
  by_cases e : i = m
  · subst e; rw [updN_same]; exact hl
  · rw [updN_other _ _ e]
    refine (h.live i hi').chgO hc (fun k h1 h2 => ?_) fun k e => (h.live m hm).fw k e
    have e3 : (i = 0 ∧ m = 1) ∨ (i = 1 ∧ m = 0) := by omega
    rcases e3 with ⟨rfl, rfl⟩ | ⟨rfl, rfl⟩
    · exact h.dis k h1 h2
    · exact h.dis k h2 h1
end
end Go.Proofs.Ytfjpmoigpnmeoaa
