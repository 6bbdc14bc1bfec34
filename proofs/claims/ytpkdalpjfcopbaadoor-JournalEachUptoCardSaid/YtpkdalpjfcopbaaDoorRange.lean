/-
  A range over a function whose rounds are told what lies behind the value that is handed to them: one round; the statement. No program text.
-/
import Derived.RangeFuncNested
import Derived.RangeFuncLeaves
namespace Go.Proofs.YtpkdalpjfcopbaaDoor
open Go.RowKit
/-- The record of a loop that is not within a round, in one of its states. -/
def recOf (fn : FuncId) (tmps : Array Value) (ps : Array Tmp) (assign body : Code) (d : Nat) (st : LoopState) (pe : Option Code) : Loop := { state := st, pending := pe, fn := fn, tmps := tmps, params := ps, assign := assign, body := body, defers := d }
/-- The two blocks of book-keeping: the record at d + 1, the rounds' deferred calls at d. -/
def Kept (R : LoopState → Option Code → Loop) (d : Nat) (st : LoopState) (pe : Option Code) (W : World) : Prop := W.heap[d + 1]? = some (.loop (R st pe)) ∧ W.heap[d]? = some (.deferred (some []))
section
variable {α : Type} {F : Fence} {n : Nat} {P : Program} {fn : FuncId} {tmps : Array Value} {ps : Array Tmp} {assign body : Code} {B d : Nat}
theorem Kept.put {R : LoopState → Option Code → Loop} {st st' : LoopState} {pe pe' : Option Code} {W : World} (h : Kept R d st pe W) : Kept R d st' pe' (W.putObj (d + 1) (.loop (R st' pe'))) :=
  ⟨World.putObj_heap_same (Array.getElem?_eq_some_iff.1 h.1).1, (World.putObj_heap_other (by omega)).trans h.2⟩
theorem Kept.from {R : LoopState → Option Code → Loop} {st : LoopState} {pe : Option Code} {W W' : World} (h : Kept R d st pe W) (hB : B ≤ d) (hk : KeepsFrom B W W') : Kept R d st pe W' :=
  ⟨hk.same _ _ (by omega) h.1 rfl, hk.same _ _ hB h.2 rfl⟩
theorem Kept.abides {R : LoopState → Option Code → Loop} {st : LoopState} {pe : Option Code} {W W' : World} {row : Option Nat} (h : Kept R d st pe W) (hg : W.grownBy W' row) (hr : ∀ r, row = some r → ∃ o : Obj, W.heap[r]? = some o ∧ o.isWalk = true) : Kept R d st pe W' :=
  ⟨(grownBy_keeps hg hr h.1 rfl).trans h.1, (grownBy_keeps hg hr h.2 rfl).trans h.2⟩
/-- What is asked of a round's body, by the way it is left. -/
def leftV (B : Nat) (Kp : World → World → Prop) (I : List α → World → Prop) (Ix : Code → List α → World → Prop) (xs : List α) (W : World) : Exit → Act → World → Prop := ownPostG B Kp I Ix xs W
/-- ONE ROUND, out of the walks of its assignments and its body. -/
theorem round_v {encs : α → Array Value} {Kp : World → World → Prop} {I : List α → World → Prop} {Ix : Code → List α → World → Prop} {Ax : α → Act → World → Prop} (hfn : F.fn fn) (hB : B ≤ d) (hps : ∀ x, (encs x).size = ps.size)
    (hKt : ∀ {A B C : World}, Kp A B → Kp B C → Kp A C) (hKb : ∀ (W : World) (l : Nat) (o o' : Obj), B ≤ l → W.heap[l]? = some o → o.isCells = false → o.isWalk = false → Kp W (W.putObj l o'))
    (hI : OwnFrom B I) (hIx : ∀ c, OwnFrom B (Ix c)) (hAx : ∀ x a', OwnFrom B (fun (_ : Unit) W => Ax x a' W)) {pre : List α} {x : α} {W : World}
    (hassign : ∀ K : Act → World → Prop, (∀ a' W', KeepsFrom B W W' → Kp W W' → I pre W' → Ax x a' W' → K a' W') →
      assign.wpIn (F.inRound (d + 1)) n P (Exit.then K (fun _ _ _ => False)) { tmps := (ps.zip (encs x)).foldl (fun t (p, v) => t.setIfInBounds p v) tmps, defers := [] } W)
    (hbody : ∀ (a' : Act) (W' : World), I pre W' → Ax x a' W' → body.wpIn (F.inRound (d + 1)) n P (leftV B Kp I Ix (pre ++ [x]) W') a' W')
    (hk : Kept (recOf fn tmps ps assign body d) d .ready none W) :
    YieldAt F n P (d + 1) (encs x) W fun e W' => (e = .returned (.bool true) ∧ (I (pre ++ [x]) W' ∧ Kept (recOf fn tmps ps assign body d) d .ready none W') ∧ Kp W W') ∨
      (e = .returned (.bool false) ∧ ∃ c, Ix c (pre ++ [x]) W' ∧ Kept (recOf fn tmps ps assign body d) d .done (some c) W') := by
  refine ⟨fn, _, assign, body, run_yield hk.1 (hps x), roundIn_of_wpIn hfn (hassign _ fun a' Wa hf hp hi hax => ?_)⟩
  have ha := hk.from hB hf
  refine ⟨_, run_beginRound ha.1 rfl, ?_⟩
  have hbz : Kept (recOf fn tmps ps assign body d) d .busy none (Wa.putObj (d + 1) (.loop (recOf fn tmps ps assign body d .busy none))) := ha.put
  have hp2 : Kp Wa (Wa.putObj (d + 1) (.loop (recOf fn tmps ps assign body d .busy none))) := hKb _ _ _ _ (by omega) ha.1 rfl rfl
  refine wpIn_mono (hbody a' _ (hI.putObj _ hi (by omega) ha.1 rfl) ((hAx x a').putObj (s := ()) _ hax (by omega) ha.1 rfl)) fun e a3 W3 h3 => ?_
  have fin : ∀ (jump : Option Code), KeepsFrom B (Wa.putObj (d + 1) (.loop (recOf fn tmps ps assign body d .busy none))) W3 →
      (Instr.endRound (d + 1) jump).run P W3 = .ok (.bool jump.isNone) (W3.putObj (d + 1) (.loop (recOf fn tmps ps assign body d (if jump.isNone then .ready else .done) jump))) ∧
        Kept (recOf fn tmps ps assign body d) d .busy none W3 := fun jump hk3 => ⟨run_endRound jump (hbz.from hB hk3).1, hbz.from hB hk3⟩
  have gone : ∀ (c : Code), KeepsFrom B (Wa.putObj (d + 1) (.loop (recOf fn tmps ps assign body d .busy none))) W3 → Ix c (pre ++ [x]) W3 →
      ∃ v w', (Instr.endRound (d + 1) (some c)).run P W3 = .ok v w' ∧ ((Ending.returned v = .returned (.bool true) ∧ (I (pre ++ [x]) w' ∧ Kept (recOf fn tmps ps assign body d) d .ready none w') ∧ Kp W w') ∨
        (Ending.returned v = .returned (.bool false) ∧ ∃ c, Ix c (pre ++ [x]) w' ∧ Kept (recOf fn tmps ps assign body d) d .done (some c) w')) := fun c hk3 hx => by
    obtain ⟨hr, h4⟩ := fin (some c) hk3
    exact ⟨_, _, hr, .inr ⟨rfl, c, (hIx c).putObj _ hx (by omega) h4.1 rfl, h4.put⟩⟩
  cases e with
  | normal =>
    obtain ⟨hk3, hkp3, hi3⟩ := h3
    obtain ⟨hr, h4⟩ := fin none hk3
    exact ⟨_, _, hr, .inl ⟨rfl, ⟨hI.putObj _ hi3 (by omega) h4.1 rfl, h4.put⟩, hKt hp (hKt (hKt hp2 hkp3) (hKb _ _ _ _ (by omega) h4.1 rfl rfl))⟩⟩
  | ret => exact gone .ret h3.1 h3.2
  | exit id => exact gone (.exit id) h3.1 h3.2
  | goto t => exact gone (.goto t) h3.1 h3.2
  | panic ch => exact h3.elim
  | outgrown => exact h3.elim
end
/-- What an iterator gives, that tells each round what lies behind its value. -/
def SeqV {α : Type} (F : Fence) (n : Nat) (P : Program) (g : Nat) (lb : Array Value) (encs : α → Array Value) (Kp : World → World → Prop) (V : List α → α → World → Prop) (S : List α → Prop) (w : World) : Prop :=
  ∀ (l : Nat) (J Jx : List α → World → Prop) (W : World), Below w.heap.size w W → AbidesFrom W.heap.size J → AbidesFrom W.heap.size Jx →
    (∀ pre x W1, J pre W1 → V pre x W1 → YieldAt F (n - 1) P l (encs x) W1 fun e W' => (e = .returned (.bool true) ∧ J (pre ++ [x]) W' ∧ Kp W1 W') ∨ (e = .returned (.bool false) ∧ Jx (pre ++ [x]) W')) →
    J [] W → CallsIn F n P g (#[.func (.yield l) #[] #[]] ++ lb) W fun e W' => (∃ v, e = .returned v) ∧ ((∃ xs, S xs ∧ J xs W') ∨ (∃ pre, Jx pre W'))
/-- THE STATEMENT. -/
theorem range_v {α : Type} {F : Fence} {n : Nat} {P : Program} {g : Operand} {ps : Array Tmp} {assign body : Code} {Q : Exit → Act → World → Prop} {a : Act} {w : World}
    (hro : F.round = none) (h1 : 1 ≤ n) {gf : Nat} {lb : Array Value} (hg : a.eval g = .func (.func gf) #[] lb) (hFg : F.fn gf) (eg : ∀ args w, (callFunc gf args).run P w = .ok (.enter gf args) w)
    {encs : α → Array Value} {Kp : World → World → Prop} {V : List α → α → World → Prop} {S : List α → Prop} {w0 : World} (hseq : SeqV F (n - 1) P gf lb encs Kp V S w0) (hb0 : Below w0.heap.size w0 w)
    (hKt : ∀ {A B C : World}, Kp A B → Kp B C → Kp A C) (hKb : ∀ (W : World) (l : Nat) (o o' : Obj), w.heap.size ≤ l → W.heap[l]? = some o → o.isCells = false → o.isWalk = false → Kp W (W.putObj l o')) (hps : ∀ x, (encs x).size = ps.size)
    (I : List α → World → Prop) (Ix : Code → List α → World → Prop) (hI : OwnFrom w.heap.size I) (hIx : ∀ c, OwnFrom w.heap.size (Ix c)) (h0 : I [] w) (Ax : List α → α → Act → World → Prop) (hAx : ∀ pre x a', OwnFrom w.heap.size (fun (_ : Unit) W => Ax pre x a' W))
    (hassign : ∀ (l : Nat) (pre : List α) (x : α) (W : World) (K : Act → World → Prop), I pre W → V pre x W → (∀ a' W', KeepsFrom w.heap.size W W' → Kp W W' → I pre W' → Ax pre x a' W' → K a' W') →
      assign.wpIn (F.inRound l) (n - 1 - 1) P (Exit.then K (fun _ _ _ => False)) { tmps := (ps.zip (encs x)).foldl (fun t (p, v) => t.setIfInBounds p v) a.tmps, defers := [] } W)
    (hbody : ∀ (l : Nat) (pre : List α) (x : α) (a' : Act) (W : World), I pre W → Ax pre x a' W → body.wpIn (F.inRound l) (n - 1 - 1) P (leftV w.heap.size Kp I Ix (pre ++ [x]) W) a' W)
    (hdone : ∀ (D : Nat) (xs : List α) (W : World), w.heap.size ≤ D → S xs → I xs W → W.heap[D]? = some (.deferred (some [])) → Q .normal { a with defers := { target := .collected D, args := #[] } :: a.defers } W)
    (hstop : ∀ (D : Nat) (c : Code) (pre : List α) (W : World), w.heap.size ≤ D → Ix c pre W → W.heap[D]? = some (.deferred (some [])) → c.wpIn F n P Q { a with defers := { target := .collected D, args := #[] } :: a.defers } W) :
    (Code.rangeFunc g ps assign body).wpIn F n P Q a w := by
  refine wpIn_rangeFunc fun fn hfn => ?_
  rw [hro]
  obtain ⟨W1, hW1⟩ : ∃ W1, (w.alloc (.deferred (some []))).alloc (.loop (recOf fn a.tmps ps assign body w.heap.size .ready none)) = W1 := ⟨_, rfl⟩
  have hs1 : w.heap.size ≤ W1.heap.size := by rw [← hW1]; simp; omega
  have hk1 : Kept (recOf fn a.tmps ps assign body w.heap.size) w.heap.size .ready none W1 := by
    rw [← hW1]
    refine ⟨?_, (Below.heap_alloc _ _ _ (by simp)).trans (World.alloc_heap_new w _)⟩
    have h := World.alloc_heap_new (w.alloc (.deferred (some []))) (.loop (recOf fn a.tmps ps assign body w.heap.size .ready none))
    rwa [World.size_alloc] at h
  have hi1 : I [] W1 := by rw [← hW1]; exact hI.alloc _ (hI.alloc _ h0)
  have hb1 : Below w0.heap.size w0 W1 := by
    rw [← hW1]
    exact hb0.trans ((((Below.refl _ w).alloc (Nat.le_refl _) _).alloc (by simp) _).mono hb0.size)
  have fromW : ∀ {A : World} {row : Option Nat}, (∀ r, row = some r → W1.heap.size ≤ r ∧ ∃ o : Obj, A.heap[r]? = some o ∧ o.isWalk = true) → ∀ r, row = some r → w.heap.size ≤ r ∧ ∃ o : Obj, A.heap[r]? = some o ∧ o.isCells = false := fun hr r e => by
    obtain ⟨hB, o, ho, hw⟩ := hr r e
    exact ⟨by omega, o, ho, Obj.not_cells_of_walk hw⟩
  refine ⟨w.heap.size + 1, [{ target := .collected w.heap.size, args := #[] }], W1, { target := .fn (.func gf) lb, args := #[.func (.yield (w.heap.size + 1)) #[] #[]] }, W1, gf, #[.func (.yield (w.heap.size + 1)) #[] #[]] ++ lb, W1, ?_, ?_, ?_, ?_, fun _ => h1, ?_⟩
  · rw [← hW1]
    exact run_enterLoop_outer _ _ _ _ _
  · simp only [resolve, hg]
    simp [go_sem]
  · intro f' hf'
    simp [Target.leads] at hf'
    subst hf'
    exact hFg
  · simp [invoke, go_sem, eg]
  · refine (hseq (w.heap.size + 1) (fun pre W => I pre W ∧ Kept (recOf fn a.tmps ps assign body w.heap.size) w.heap.size .ready none W)
      (fun pre W => ∃ c, Ix c pre W ∧ Kept (recOf fn a.tmps ps assign body w.heap.size) w.heap.size .done (some c) W) W1 hb1
      (fun s A C row hs hg' hr => ⟨hI s A C row hs.1 hg' (fromW hr), hs.2.abides hg' fun r e => (hr r e).2⟩)
      (fun s A C row ⟨c, hc, hk⟩ hg' hr => ⟨c, hIx c s A C row hc hg' (fromW hr), hk.abides hg' fun r e => (hr r e).2⟩)
      (fun pre x W ⟨hi, hk⟩ hv => round_v (Kp := Kp) (I := I) (Ix := Ix) (Ax := Ax pre) (pre := pre) (x := x) (W := W) hfn (Nat.le_refl _) hps hKt hKb hI hIx (hAx pre) (fun K hK => hassign _ pre x W K hi hv hK) (fun a' W' h h' => hbody _ pre x a' W' h h') hk) ⟨hi1, hk1⟩).mono ?_
    rintro e W2 ⟨⟨v, rfl⟩, (⟨xs, hS, hi, hk⟩ | ⟨pre, c, hi, hk⟩)⟩
    · exact ⟨none, _, run_endLoop (P := P) hk.1 (by simp [recOf]), hdone _ xs _ (Nat.le_refl _) hS (hI.putObj _ hi (by omega) hk.1 rfl) ((World.putObj_heap_other (by omega)).trans hk.2)⟩
    · exact ⟨some c, _, run_endLoop (P := P) hk.1 (by simp [recOf]), hstop _ c pre _ (Nat.le_refl _) ((hIx c).putObj _ hi (by omega) hk.1 rfl) ((World.putObj_heap_other (by omega)).trans hk.2)⟩
end Go.Proofs.YtpkdalpjfcopbaaDoor
