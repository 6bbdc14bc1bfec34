/-
  DetectTurns: what alone keeps.
-/
import Derived.Test.YtfjpmoigpnmeoaaDTurH
import Derived.Test.YtfjpmoigpnmeoaaDOwnB
namespace Go.Proofs.Ytfjpmoigpnmeoaa
open Go.RowKit
def mkI (k : Nat) : Int := -1000 - (k : Int)
def repI (n k : Nat) : List Int := List.replicate n (mkI k)
theorem repI_len (n k : Nat) : (repI n k).length = n := by simp [repI]
theorem repI_succ (n k : Nat) : repI (n + 1) k = repI n k ++ [mkI k] := by simp [repI, List.replicate_succ']
theorem rep_set {l : List Int} {m k : Nat} (h : m < l.length) : (repI m k ++ l.drop m).set m (mkI k) = repI (m + 1) k ++ l.drop (m + 1) := by
  rw [List.set_append_right _ _ (by rw [repI_len]; exact Nat.le_refl _), repI_len, Nat.sub_self, List.drop_eq_getElem_cons h, List.set_cons_zero, repI_succ, List.append_assoc]
  rfl
/-- The lists that came, while they are written: f tells what each holds. -/
structure AlA (w : World) (B : Nat) (F : Nat → Prop) (H : Nat) (vG vW vM vR : Value) (K : List Gt) (f : Nat → List Int) : Prop where
  blk : Blk w H 80 #[vG, vW, vM, vR]
  hB : B ≤ H
  hF : ¬ F H
  got : w.ownsRow B 22 1 vG K.length (K.map Gt.g)
  nF : ∀ g, vG.ownBlock = some g → ¬ F g
  eg : ∀ (k : Nat) (x : Gt), K[k]? = some x → w.ownsRow B 3 1 x.g x.l.length (ivs (f k))
  gg : ∀ (k k' : Nat) (x x' : Gt), K[k]? = some x → K[k']? = some x' → k ≠ k' → Apart x.g x'.g
  nFe : ∀ (k : Nat) (x : Gt), K[k]? = some x → ∀ g, x.g.ownBlock = some g → ¬ F g
section
variable {w w' : World} {B : Nat} {F : Nat → Prop} {H : Nat} {vG vW vM vR : Value} {K : List Gt} {f : Nat → List Int}
theorem HeldW.ala (h : HeldW w B F H vG vW vM vR K) : AlA w B F H vG vW vM vR K fun k => match K[k]? with | some x => x.l | none => [] :=
  ⟨h.blk, h.hB, h.hF, h.got, h.nF.1, fun k x hk => by simp only [hk]; exact h.eg k x hk, h.gg, fun k x hk => (h.nFe k x hk).1⟩
theorem AlA.over (h : AlA w B F H vG vW vM vR K f) (hb : Below w.heap.size w w') : AlA w' B F H vG vW vM vR K f :=
  ⟨h.blk.over hb, h.hB, h.hF, own_over h.got hb, h.nF, fun k x hk => own_over (h.eg k x hk) hb, h.gg, h.nFe⟩
theorem AlA.cong {f' : Nat → List Int} (h : AlA w B F H vG vW vM vR K f) (he : ∀ (k : Nat) (x : Gt), K[k]? = some x → f' k = f k) : AlA w B F H vG vW vM vR K f' :=
  ⟨h.blk, h.hB, h.hF, h.got, h.nF, fun k x hk => by rw [he k x hk]; exact h.eg k x hk, h.gg, h.nFe⟩
/-- One cell of list i is written. -/
theorem AlA.set_ (h : AlA w B F H vG vW vM vR K f) {i : Nat} {x : Gt} (hx : K[i]? = some x) {g j : Nat} (hA : x.A = some ⟨g, 0, none⟩) (hj : j < x.l.length) (v : Int) :
    w.frozen? ⟨g, j, none⟩ = false ∧ (∃ u, w.cell? ⟨g, j, none⟩ = some u) ∧ AlA (w.setCell ⟨g, j, none⟩ (.int .i64 v)) B F H vG vW vM vR K (updN f i ((f i).set j v)) ∧ Chg (fun k => B ≤ k ∧ ¬ F k) w (w.setCell ⟨g, j, none⟩ (.int .i64 v)) := by
  have ho := h.eg i x hx
  have hxg : x.g = .slice (some ⟨g, 0, none⟩) x.l.length x.cap := by unfold Gt.g; rw [hA]
  have hog : x.g.ownBlock = some g := by rw [hxg]; rfl
  obtain ⟨_, hBg, cur, hC⟩ := own_block_lt ho hog
  have hfl : (f i).length = x.l.length := by have := ho.1; rw [ivs_length] at this; omega
  have hlt : j < cur.size := by
    rw [hxg] at ho
    obtain ⟨g', cap', cur', hv, _, hB', hle, _, hsz, _⟩ := own_parts ho (by omega)
    simp only [Value.slice.injEq, Option.some.injEq, Addr.mk.injEq, and_true, true_and] at hv
    obtain ⟨rfl, rfl⟩ := hv
    have e : w.heap[g]? = some (.cells cur 3 (0, 0)) := hC
    have e' : w.heap[g]? = some (.cells cur' 3 (0, 0)) := hB'
    rw [e] at e'
    injection e' with e'
    injection e' with e' _ _
    subst e'
    omega
  have hc : Chg (fun k => k = g) w (w.setCell ⟨g, j, none⟩ (.int .i64 v)) := (Chg.refl (fun k => k = g) w).setCell (p := ⟨g, j, none⟩) (.inl rfl) _
  refine ⟨hC.frozen j, ⟨cur[j], (hC.cell j).trans (Array.getElem?_eq_getElem hlt)⟩, ⟨h.blk.chg hc fun e => ?_, h.hB, h.hF, own_chg h.got hc fun g' hg' e => ?_, h.nF, fun k y hk => ?_, h.gg, h.nFe⟩, hc.mono fun k _ e => ?_⟩
  · subst e
    exact hC.ne_ h.blk (by decide) rfl
  · obtain ⟨_, _, cur2, hC2⟩ := own_block_lt h.got hg'
    subst e
    exact hC.ne_ hC2 (by decide) rfl
  · by_cases e : k = i
    · subst e
      rw [hx] at hk
      injection hk with hk
      subst hk
      rw [updN_same]
      have e2 : ivs ((f k).set j v) = (ivs (f k)).set j (.int .i64 v) := by simp [ivs, List.map_set]
      rw [e2, hxg]
      rw [hxg] at ho
      exact own_set ho j _ hj
    · rw [updN_other _ _ e]
      exact own_chg (h.eg k y hk) hc fun g' hg' e2 => h.gg k i y x hk hx e g' hg' (by rw [e2]; exact hog)
  · rw [e]
    exact ⟨hBg, h.nFe i x hx g hog⟩
/-- What is read of the row of lists. -/
theorem row_at {e n : Nat} {v : Value} {L : List Value} {i : Nat} {u : Value} (h : w.ownsRow B e 1 v n L) (hi : L[i]? = some u) : ∃ g cap, v = .slice (some ⟨g, 0, none⟩) n cap ∧ w.cell? ⟨g, i, none⟩ = some u ∧ g < w.heap.size := by
  have hlt := (List.getElem?_eq_some_iff.1 hi).1
  have hn := h.1
  obtain ⟨g, cap, cur, hv, _, hB, _, _, _, ht⟩ := own_parts h (by omega)
  refine ⟨g, cap, hv, ?_, hB.lt⟩
  rw [hB.cell, ← Array.getElem?_toList]
  rw [← ht, List.getElem?_take] at hi
  split at hi
  · exact hi
  · cases hi
end
/-- The lists, the first M.length of them grown; all hold their marks. -/
structure AlB (w : World) (B : Nat) (F : Nat → Prop) (H : Nat) (vG vW vM vR : Value) (K : List Gt) (M : List Value) : Prop where
  blk : Blk w H 80 #[vG, vW, vM, vR]
  hB : B ≤ H
  hF : ¬ F H
  got : w.ownsRow B 22 1 vG K.length (K.map Gt.g)
  nF : ∀ g, vG.ownBlock = some g → ¬ F g
  mr : w.ownsRow B 22 1 vM M.length M
  gm : Apart vG vM
  nM : ∀ g, vM.ownBlock = some g → ¬ F g
  rest : ∀ (k : Nat) (x : Gt), K[k]? = some x → M.length ≤ k → w.ownsRow B 3 1 x.g x.l.length (ivs (repI x.l.length k))
  done : ∀ (k : Nat) (x : Gt) (m : Value), K[k]? = some x → M[k]? = some m → RdI w w.heap.size x.A x.l.length (repI x.l.length k) ∧ (∃ Am cm, m = .slice Am (x.l.length + 64) cm) ∧ w.ownsRow B 3 1 m (x.l.length + 64) (ivs (repI (x.l.length + 64) k))
  ap : ∀ (k k' : Nat) (m : Value) (x' : Gt), M[k]? = some m → K[k']? = some x' → M.length ≤ k' → Apart m x'.g
  tb : ∀ (k : Nat) (x : Gt), K[k]? = some x → ∀ g, x.g.ownBlock = some g → B ≤ g ∧ ∃ cur, Blk w g 3 cur
  gg : ∀ (k k' : Nat) (x x' : Gt), K[k]? = some x → K[k']? = some x' → k ≠ k' → Apart x.g x'.g
  nFe : ∀ (k : Nat) (x : Gt), K[k]? = some x → ∀ g, x.g.ownBlock = some g → ¬ F g
section
variable {w w' : World} {B : Nat} {F : Nat → Prop} {H : Nat} {vG vW vM vR : Value} {K : List Gt} {M : List Value} {f : Nat → List Int}
theorem AlA.alb (h : AlA w B F H vG vW (.slice none 0 0) vR K f) (hf : ∀ (k : Nat) (x : Gt), K[k]? = some x → f k = repI x.l.length k) : AlB w B F H vG vW (.slice none 0 0) vR K [] :=
  ⟨h.blk, h.hB, h.hF, h.got, h.nF, ⟨by simp, .inl ⟨rfl, rfl⟩⟩, fun g _ e => by simp [Value.ownBlock] at e, fun g e => by simp [Value.ownBlock] at e, fun k x hk _ => by rw [← hf k x hk]; exact h.eg k x hk, fun k x m _ hm => by simp at hm, fun k k' m x' hm => by simp at hm,
    fun k x hk g hg => by
      obtain ⟨_, h2, cur, h3⟩ := own_block_lt (h.eg k x hk) hg
      exact ⟨h2, cur, h3⟩, h.gg, h.nFe⟩
theorem AlB.over (h : AlB w B F H vG vW vM vR K M) (hb : Below w.heap.size w w') : AlB w' B F H vG vW vM vR K M :=
  ⟨h.blk.over hb, h.hB, h.hF, own_over h.got hb, h.nF, own_over h.mr hb, h.gm, h.nM, fun k x hk hi => own_over (h.rest k x hk hi) hb, fun k x m hk hm => by
    obtain ⟨a, b, c⟩ := h.done k x m hk hm
    exact ⟨(a.below hb).more hb.size, b, own_over c hb⟩, h.ap, fun k x hk g hg => by
    obtain ⟨a, cur, b⟩ := h.tb k x hk g hg
    exact ⟨a, cur, b.over hb⟩, h.gg, h.nFe⟩
/-- List i is on its way: its block alone may have turned, and the list that came stands still. -/
structure AlT (ws w : World) (B : Nat) (x : Gt) (i : Nat) (v : Value) (n : Nat) : Prop where
  chg : Chg (fun k => some k = x.g.ownBlock) ws w
  own : w.ownsRow B 3 1 v n (ivs (repI n i))
  gx : w.ownsRow B 3 1 x.g x.l.length (ivs (repI x.l.length i))
  va : ∀ g, v.ownBlock = some g → x.g.ownBlock = some g ∨ ws.heap.size ≤ g
  sm : ∀ g, v.ownBlock = some g → x.g.ownBlock = some g → v = .slice (some ⟨g, 0, none⟩) n x.cap ∧ x.A = some ⟨g, 0, none⟩
  le : x.l.length ≤ n
  lt : ∀ g, x.g.ownBlock = some g → g < ws.heap.size
theorem repI_split {n m k : Nat} (h : m ≤ n) : repI n k = repI m k ++ repI (n - m) k := by
  unfold repI
  rw [List.replicate_append_replicate]
  congr 1
  omega
theorem slice_own {w : World} {B e n : Nat} {v : Value} {xs : List Value} (h : w.ownsRow B e 1 v n xs) {g : Nat} (hg : v.ownBlock = some g) : ∃ cap cur, v = .slice (some ⟨g, 0, none⟩) n cap ∧ Blk w g e cur ∧ cur.size = cap := by
  rcases h.2 with ⟨h0, _⟩ | ⟨g', cap, cur, hv, _, hB, _, _, hs, _⟩
  · rw [h0] at hg; simp [Value.ownBlock] at hg
  · rw [hv] at hg
    simp only [Value.ownBlock, Option.some.injEq] at hg
    subst hg
    exact ⟨cap, cur, hv, hB, by rw [hs, Nat.mul_one]⟩
theorem AlT.app {ws : World} {x : Gt} {i n : Nat} {v u : Value} (h : AlT ws w B x i v n) (ho : w'.ownsRow B 3 1 u (n + 1) (ivs (repI n i) ++ [.int .i64 (mkI i)])) (hold : w'.ownsRow B 3 1 v n (ivs (repI n i))) (hg : w.grownBy w' v.ownBlock) (hat : RoomAt w w' v u (n + 1)) : AlT ws w' B x i u (n + 1) := by
  have hc := Chg.of_grown hg
  have hs := h.chg.size
  have hgx : w'.ownsRow B 3 1 x.g x.l.length (ivs (repI x.l.length i)) := by
    cases hx : x.g.ownBlock with
    | none => exact own_chg h.gx hc fun g hg => by rw [hx] at hg; cases hg
    | some g =>
      by_cases hv : v.ownBlock = some g
      · obtain ⟨e1, e2⟩ := h.sm g hv hx
        rw [e1] at hold
        have e3 : n = x.l.length + (n - x.l.length) := by have := h.le; omega
        rw [repI_split h.le, ivs_append] at hold
        have e4 : w'.ownsRow B 3 1 (.slice (some ⟨g, 0, none⟩) (x.l.length + (n - x.l.length)) x.cap) (x.l.length + (n - x.l.length)) (ivs (repI x.l.length i) ++ ivs (repI (n - x.l.length) i)) := by rw [← e3]; exact hold
        have e5 := own_prefix e4 (by rw [ivs_length, repI_len, Nat.mul_one])
        unfold Gt.g
        rw [e2]
        exact e5
      · exact own_chg h.gx hc fun g' hg' e => hv (by rw [← e, ← hg', hx])
  refine ⟨h.chg.thenS hc fun k hk e => ?_, by rw [repI_succ, ivs_append]; exact ho, hgx, fun g hgu => ?_, fun g hgu hgxo => ?_, by have := h.le; omega, h.lt⟩
  · rcases h.va k e.symm with h1 | h1
    · exact h1.symm
    · omega
  · rcases hat with ⟨e, _⟩ | ⟨_, _, s, e, hsz⟩
    · exact h.va g (e ▸ hgu)
    · rw [e] at hgu
      injection hgu with hgu
      exact .inr (by omega)
  · rcases hat with ⟨e, _⟩ | ⟨_, _, s, e, hsz⟩
    · obtain ⟨e1, e2⟩ := h.sm g (e ▸ hgu) hgxo
      obtain ⟨cu, cur, hu, hB, hsz⟩ := slice_own ho hgu
      obtain ⟨cv, cur2, hv, hB2, hsz2⟩ := slice_own hold (e ▸ hgu)
      rw [e1] at hv
      simp only [Value.slice.injEq, true_and] at hv
      have e3 : w'.heap[g]? = some (.cells cur 3 (0, 0)) := hB
      have e4 : w'.heap[g]? = some (.cells cur2 3 (0, 0)) := hB2
      rw [e3] at e4
      injection e4 with e4
      injection e4 with e4 _ _
      subst e4
      refine ⟨?_, e2⟩
      rw [hu]
      congr 1
      omega
    · rw [e] at hgu
      injection hgu with hgu
      have := h.lt g hgxo
      omega
theorem AlT.over {ws : World} {x : Gt} {i n : Nat} {v : Value} (h : AlT ws w B x i v n) (hb : Below w.heap.size w w') : AlT ws w' B x i v n :=
  ⟨h.chg.thenS (Chg.of_below hb (fun _ => False)) fun _ _ e => e.elim, own_over h.own hb, own_over h.gx hb, h.va, h.sm, h.le, h.lt⟩
/-- A change that spares the blocks of ints. -/
def IntSafe (S : Nat → Prop) (a : World) : Prop := ∀ g cur, Blk a g 3 cur → ¬ S g
theorem own_int {S : Nat → Prop} {a b : World} {v : Value} {n : Nat} {xs : List Value} (h : a.ownsRow B 3 1 v n xs) (hc : Chg S a b) (hs : IntSafe S a) : b.ownsRow B 3 1 v n xs :=
  own_chg h hc fun g hg => by
    obtain ⟨_, _, cur, hC⟩ := own_block_lt h hg
    exact hs g cur hC
theorem rd_int {S : Nat → Prop} {a b : World} {A : Option Addr} {n : Nat} {l : List Int} (h : RdI a a.heap.size A n l) (hb : 0 < n → ∀ g o s, A = some ⟨g, o, s⟩ → ∃ cur, Blk a g 3 cur) (hc : Chg S a b) (hs : IntSafe S a) : RdI b b.heap.size A n l :=
  (Rd.chgZ h hc (Nat.le_refl _) fun hn g o s e _ => by
    obtain ⟨cur, hC⟩ := hb hn g o s e
    exact hs g cur hC).more hc.size
theorem own_of_A {x : Gt} {g o : Nat} {s : Option Nat} (e : x.A = some ⟨g, o, s⟩) : x.g.ownBlock = some g := by unfold Gt.g; rw [e]; rfl
/-- The append to More. -/
theorem AlB.next {ws : World} (h : AlB ws B F H vG vW vM vR K M) {x : Gt} (hx : K[M.length]? = some x) {v : Value} (ht : AlT ws w B x M.length v (x.l.length + 64)) (hFb : ∀ k, F k → k < ws.heap.size) {w1 : World} {u : Value} (ho : w1.ownsRow B 22 1 u (M.length + 1) (M ++ [v]))
    (hc : Chg (fun k => some k = vM.ownBlock) w w1) (hu : ∀ g, u.ownBlock = some g → vM.ownBlock = some g ∨ w.heap.size ≤ g) :
    w1.frozen? ⟨H, 2, none⟩ = false ∧ w1.cell? ⟨H, 2, none⟩ = some vM ∧ AlB (w1.setCell ⟨H, 2, none⟩ u) B F H vG vW u vR K (M ++ [v]) ∧ Chg (fun k => B ≤ k ∧ ¬ F k) ws (w1.setCell ⟨H, 2, none⟩ u) := by
  have hws := ht.chg.size
  have ty : ∀ {g t : Nat} {cs : Array Value}, Blk ws g t cs → t ≠ 3 → ¬ some g = x.g.ownBlock := fun hB hne e => by
    obtain ⟨_, cur, hC⟩ := h.tb _ x hx _ e.symm
    exact hB.ne_ hC hne rfl
  have hH := h.blk.chg ht.chg (ty h.blk (by decide))
  have rowk : ∀ {y : Value} {m : Nat} {ys : List Value}, ws.ownsRow B 22 1 y m ys → w.ownsRow B 22 1 y m ys := fun hy => own_chg hy ht.chg fun g hg => by
    obtain ⟨_, _, cur, hC⟩ := own_block_lt hy hg
    exact ty hC (by decide)
  have hG := rowk h.got
  have hM := rowk h.mr
  have tbw : ∀ (k : Nat) (y : Gt), K[k]? = some y → ∀ g, y.g.ownBlock = some g → B ≤ g ∧ ∃ cur, Blk w g 3 cur := fun k y hk g hg => by
    by_cases e : k = M.length
    · subst e
      rw [hx] at hk
      injection hk with hk
      subst hk
      obtain ⟨_, h2, cur, h3⟩ := own_block_lt ht.gx hg
      exact ⟨h2, cur, h3⟩
    · obtain ⟨h1, cur, h2⟩ := h.tb k y hk g hg
      exact ⟨h1, cur, h2.chg ht.chg fun e2 => h.gg k M.length y x hk hx e g hg e2.symm⟩
  have safe1 : IntSafe (fun k => some k = vM.ownBlock) w := fun g cur hC e => by
    obtain ⟨_, _, cur2, hC2⟩ := own_block_lt hM e.symm
    exact hC.ne_ hC2 (by decide) rfl
  have hH1 := hH.chg hc fun e => by
    obtain ⟨_, _, cur2, hC2⟩ := own_block_lt hM e.symm
    exact hH.ne_ hC2 (by decide) rfl
  have hG1 := own_chg hG hc fun g hg e => h.gm g hg e.symm
  have hcH : Chg (fun k => k = H) w1 (w1.setCell ⟨H, 2, none⟩ u) := (Chg.refl (fun k => k = H) w1).setCell (p := ⟨H, 2, none⟩) (.inl rfl) u
  have safe2 : IntSafe (fun k => k = H) w1 := fun g cur hC e => by subst e; exact hC.ne_ hH1 (by decide) rfl
  have farL : ∀ {y : Value} {m : Nat} {ys : List Value}, w1.ownsRow B 22 1 y m ys → (w1.setCell ⟨H, 2, none⟩ u).ownsRow B 22 1 y m ys := fun hy => own_chg hy hcH fun g hg e => by
    obtain ⟨_, _, cur, hC⟩ := own_block_lt hy hg
    subst e
    exact hC.ne_ hH1 (by decide) rfl
  have oi : ∀ {y : Value} {m : Nat} {ys : List Value}, w.ownsRow B 3 1 y m ys → (w1.setCell ⟨H, 2, none⟩ u).ownsRow B 3 1 y m ys := fun hy => own_int (own_int hy hc safe1) hcH safe2
  have tb1 : ∀ (k : Nat) (y : Gt), K[k]? = some y → ∀ g, y.g.ownBlock = some g → B ≤ g ∧ ∃ cur, Blk w1 g 3 cur := fun k y hk g hg => by
    obtain ⟨h1, cur, h2⟩ := tbw k y hk g hg
    exact ⟨h1, cur, h2.chg hc (safe1 g cur h2)⟩
  have ri : ∀ (k : Nat) (y : Gt) (n : Nat) (l : List Int), K[k]? = some y → RdI w w.heap.size y.A n l → RdI (w1.setCell ⟨H, 2, none⟩ u) (w1.setCell ⟨H, 2, none⟩ u).heap.size y.A n l := fun k y n l hk hr =>
    rd_int (rd_int hr (fun _ g o s e => (tbw k y hk g (own_of_A e)).2) hc safe1) (fun _ g o s e => (tb1 k y hk g (own_of_A e)).2) hcH safe2
  have sn : ∀ {k : Nat} {m : Value}, (M ++ [v])[k]? = some m → M[k]? = some m ∧ k < M.length ∨ (k = M.length ∧ m = v) := fun {k m} hk => by
    rcases Nat.lt_or_ge k M.length with h1 | h1
    · rw [List.getElem?_append_left h1] at hk
      exact .inl ⟨hk, h1⟩
    · rw [List.getElem?_append_right h1] at hk
      have : k - M.length = 0 := by
        have := (List.getElem?_eq_some_iff.1 hk).1
        simp at this
        omega
      rw [this] at hk
      simp at hk
      exact .inr ⟨by omega, hk.symm⟩
  refine ⟨hH1.frozen 2, hH1.cell 2, ⟨hH1.set_ 2 u, h.hB, h.hF, farL hG1, h.nF, by rw [List.length_append]; exact farL ho, fun g h1 h2 => ?_, fun g hg hf => ?_, fun k y hk hi => ?_, fun k y m hk hm => ?_, fun k k' m y hm hk' hi => ?_, fun k y hk g hg => ?_, h.gg, h.nFe⟩, ?_⟩
  · rcases hu g h2 with e | e
    · exact h.gm g h1 e
    · have := (own_block_lt hG h1).1; omega
  · rcases hu g hg with e | e
    · exact h.nM g e hf
    · have := hFb g hf; omega
  · rw [List.length_append, List.length_singleton] at hi
    exact oi (own_chg (h.rest k y hk (by omega)) ht.chg fun g hg e => h.gg k M.length y x hk hx (by omega) g hg e.symm)
  · rcases sn hm with ⟨hm, hlt⟩ | ⟨rfl, rfl⟩
    · obtain ⟨r1, r2, r3⟩ := h.done k y m hk hm
      refine ⟨ri k y _ _ hk ((Rd.chgZ r1 ht.chg (Nat.le_refl _) fun _ g o s e _ e2 => h.gg k M.length y x hk hx (by omega) g (own_of_A e) e2.symm).more hws), r2, oi (own_chg r3 ht.chg fun g hg e => h.ap k M.length m x hm hx (Nat.le_refl _) g hg e.symm)⟩
    · rw [hx] at hk
      injection hk with hk
      subst hk
      obtain ⟨Am, cm, hv, _, _⟩ := own_shape ht.own
      exact ⟨ri _ x _ _ hx (Rd.of_own (c := x.cap) ht.gx), ⟨Am, cm, hv⟩, oi ht.own⟩
  · rw [List.length_append, List.length_singleton] at hi
    rcases sn hm with ⟨hm, hlt⟩ | ⟨rfl, rfl⟩
    · exact h.ap k k' m y hm hk' (by omega)
    · intro g h1 h2
      rcases ht.va g h1 with e | e
      · exact h.gg M.length k' x y hx hk' (by omega) g e h2
      · obtain ⟨_, cur, hC⟩ := h.tb k' y hk' g h2
        have := hC.lt
        omega
  · obtain ⟨h1, cur, h2⟩ := tb1 k y hk g hg
    exact ⟨h1, cur, h2.chg hcH (safe2 g cur h2)⟩
  · refine ((ht.chg.mono fun k _ e => ?_).thenS hc fun k hk e => ?_).thenS hcH fun k _ e => ?_
    · exact ⟨(h.tb _ x hx k e.symm).1, h.nFe _ x hx k e.symm⟩
    · exact ⟨(own_block_lt hM e.symm).2.1, h.nM k e.symm⟩
    · rw [e]; exact ⟨h.hB, h.hF⟩
end
end Go.Proofs.Ytfjpmoigpnmeoaa
