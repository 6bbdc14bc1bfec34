/-
  The function that Each gives, as an iterator: each round is told where its record's body lies. And: A range over a function whose rounds are told what lies behind the value that is handed to them: one round; the statement. No program text.
-/
import Derived.RangeFuncNested
import Derived.RangeFuncLeaves
import Derived.RangeFuncBound
import Derived.RangeFuncCalls
import Derived.Shelf.Abstract
import Derived.Shelf.RegionOpen
import Derived.WalkKit
import Derived.OwnWalkIn
import Derived.TacticsInMore
import Derived.LoopNIn
import Derived.LoopIn
import Derived.Test.YtpkdalpjfcopbaaDoorMEach
namespace Go.Proofs.YtpkdalpjfcopbaaDoor
open Go.RowKit
/-- The record of a loop that is not within a round, in one of its states. -/
def recOf (fn : FuncId) (tmps : Array Value) (ps : Array Tmp) (assign body : Code) (d : Nat) (st : LoopState) (pe : Option Code) : Loop := { state := st, pending := pe, fn := fn, tmps := tmps, params := ps, assign := assign, body := body, defers := d }
/-- The two blocks of book-keeping: the record at d + 1, the rounds' deferred calls at d. -/
def Kept (R : LoopState → Option Code → Loop) (d : Nat) (st : LoopState) (pe : Option Code) (W : World) : Prop := W.heap[d + 1]? = some (.loop (R st pe)) ∧ W.heap[d]? = some (.deferred (some []))
section
variable {α : Type} {F : Fence} {n : Nat} {P : Program} {fn : FuncId} {tmps : Array Value} {ps : Array Tmp} {assign body : Code} {B d : Nat}
theorem Kept.put {R : LoopState → Option Code → Loop} {st st' : LoopState} {pe pe' : Option Code} {W : World} (h : Kept R d st pe W) : Kept R d st' pe' (W.putObj (d + 1) (.loop (R st' pe'))) :=
  ⟨World.putObj_heap_same (Array.getElem?_eq_some_iff.1 h.1).1, (World.putObj_heap_other (by omega)).trans h.2⟩
theorem Kept.from {R : LoopState → Option Code → Loop} {st : LoopState} {pe : Option Code} {W W' : World} (h : Kept R d st pe W) (hB : B ≤ d) (hk : KeepsFrom B W W') : Kept R d st pe W' :=
  ⟨hk.same _ _ (by omega) h.1 rfl, hk.same _ _ hB h.2 rfl⟩
theorem Kept.abides {R : LoopState → Option Code → Loop} {st : LoopState} {pe : Option Code} {W W' : World} {row : Option Nat} (h : Kept R d st pe W) (hg : W.grownBy W' row) (hr : ∀ r, row = some r → ∃ o : Obj, W.heap[r]? = some o ∧ o.isWalk = true) : Kept R d st pe W' :=
  ⟨(grownBy_keeps hg hr h.1 rfl).trans h.1, (grownBy_keeps hg hr h.2 rfl).trans h.2⟩
/-- What is asked of a round's body, by the way it is left. -/
def leftV (B : Nat) (Kp : World → World → Prop) (I : List α → World → Prop) (Ix : Code → List α → World → Prop) (xs : List α) (W : World) : Exit → Act → World → Prop := ownPostG B Kp I Ix xs W
/-- ONE ROUND, out of the walks of its assignments and its body. -/
theorem round_v {encs : α → Array Value} {Kp : World → World → Prop} {I : List α → World → Prop} {Ix : Code → List α → World → Prop} {Ax : α → Act → World → Prop} (hfn : F.fn fn) (hB : B ≤ d) (hps : ∀ x, (encs x).size = ps.size)
    (hKt : ∀ {A B C : World}, Kp A B → Kp B C → Kp A C) (hKb : ∀ (W : World) (l : Nat) (o o' : Obj), B ≤ l → W.heap[l]? = some o → o.isCells = false → o.isWalk = false → Kp W (W.putObj l o'))
    (hI : OwnFrom B I) (hIx : ∀ c, OwnFrom B (Ix c)) (hAx : ∀ x a', OwnFrom B (fun (_ : Unit) W => Ax x a' W)) {pre : List α} {x : α} {W : World}
    (hassign : ∀ K : Act → World → Prop, (∀ a' W', KeepsFrom B W W' → Kp W W' → I pre W' → Ax x a' W' → K a' W') →
      assign.wpIn (F.inRound (d + 1)) n P (Exit.then K (fun _ _ _ => False)) { tmps := (ps.zip (encs x)).foldl (fun t (p, v) => t.setIfInBounds p v) tmps, defers := [] } W)
    (hbody : ∀ (a' : Act) (W' : World), I pre W' → Ax x a' W' → body.wpIn (F.inRound (d + 1)) n P (leftV B Kp I Ix (pre ++ [x]) W') a' W')
    (hk : Kept (recOf fn tmps ps assign body d) d .ready none W) :
    YieldAt F n P (d + 1) (encs x) W fun e W' => (e = .returned (.bool true) ∧ (I (pre ++ [x]) W' ∧ Kept (recOf fn tmps ps assign body d) d .ready none W') ∧ Kp W W') ∨
      (e = .returned (.bool false) ∧ ∃ c, Ix c (pre ++ [x]) W' ∧ Kept (recOf fn tmps ps assign body d) d .done (some c) W') := by
  refine ⟨fn, _, assign, body, run_yield hk.1 (hps x), roundIn_of_wpIn hfn (hassign _ fun a' Wa hf hp hi hax => ?_)⟩
  have ha := hk.from hB hf
  refine ⟨_, run_beginRound ha.1 rfl, ?_⟩
  have hbz : Kept (recOf fn tmps ps assign body d) d .busy none (Wa.putObj (d + 1) (.loop (recOf fn tmps ps assign body d .busy none))) := ha.put
  have hp2 : Kp Wa (Wa.putObj (d + 1) (.loop (recOf fn tmps ps assign body d .busy none))) := hKb _ _ _ _ (by omega) ha.1 rfl rfl
  refine wpIn_mono (hbody a' _ (hI.putObj _ hi (by omega) ha.1 rfl) ((hAx x a').putObj (s := ()) _ hax (by omega) ha.1 rfl)) fun e a3 W3 h3 => ?_
  have fin : ∀ (jump : Option Code), KeepsFrom B (Wa.putObj (d + 1) (.loop (recOf fn tmps ps assign body d .busy none))) W3 →
      (Instr.endRound (d + 1) jump).run P W3 = .ok (.bool jump.isNone) (W3.putObj (d + 1) (.loop (recOf fn tmps ps assign body d (if jump.isNone then .ready else .done) jump))) ∧
        Kept (recOf fn tmps ps assign body d) d .busy none W3 := fun jump hk3 => ⟨run_endRound jump (hbz.from hB hk3).1, hbz.from hB hk3⟩
  have gone : ∀ (c : Code), KeepsFrom B (Wa.putObj (d + 1) (.loop (recOf fn tmps ps assign body d .busy none))) W3 → Ix c (pre ++ [x]) W3 →
      ∃ v w', (Instr.endRound (d + 1) (some c)).run P W3 = .ok v w' ∧ ((Ending.returned v = .returned (.bool true) ∧ (I (pre ++ [x]) w' ∧ Kept (recOf fn tmps ps assign body d) d .ready none w') ∧ Kp W w') ∨
        (Ending.returned v = .returned (.bool false) ∧ ∃ c, Ix c (pre ++ [x]) w' ∧ Kept (recOf fn tmps ps assign body d) d .done (some c) w')) := fun c hk3 hx => by
    obtain ⟨hr, h4⟩ := fin (some c) hk3
    exact ⟨_, _, hr, .inr ⟨rfl, c, (hIx c).putObj _ hx (by omega) h4.1 rfl, h4.put⟩⟩
  cases e with
  | normal =>
    obtain ⟨hk3, hkp3, hi3⟩ := h3
    obtain ⟨hr, h4⟩ := fin none hk3
    exact ⟨_, _, hr, .inl ⟨rfl, ⟨hI.putObj _ hi3 (by omega) h4.1 rfl, h4.put⟩, hKt hp (hKt (hKt hp2 hkp3) (hKb _ _ _ _ (by omega) h4.1 rfl rfl))⟩⟩
  | ret => exact gone .ret h3.1 h3.2
  | exit id => exact gone (.exit id) h3.1 h3.2
  | goto t => exact gone (.goto t) h3.1 h3.2
  | panic ch => exact h3.elim
  | outgrown => exact h3.elim
end
/-- What an iterator gives, that tells each round what lies behind its value. -/
def SeqV {α : Type} (F : Fence) (n : Nat) (P : Program) (g : Nat) (lb : Array Value) (encs : α → Array Value) (Kp : World → World → Prop) (V : List α → α → World → Prop) (S : List α → Prop) (w : World) : Prop :=
  ∀ (l : Nat) (J Jx : List α → World → Prop) (W : World), Below w.heap.size w W → AbidesFrom W.heap.size J → AbidesFrom W.heap.size Jx →
    (∀ pre x W1, J pre W1 → V pre x W1 → YieldAt F (n - 1) P l (encs x) W1 fun e W' => (e = .returned (.bool true) ∧ J (pre ++ [x]) W' ∧ Kp W1 W') ∨ (e = .returned (.bool false) ∧ Jx (pre ++ [x]) W')) →
    J [] W → CallsIn F n P g (#[.func (.yield l) #[] #[]] ++ lb) W fun e W' => (∃ v, e = .returned v) ∧ ((∃ xs, S xs ∧ J xs W') ∨ (∃ pre, Jx pre W'))
/-- THE STATEMENT. -/
theorem range_v {α : Type} {F : Fence} {n : Nat} {P : Program} {g : Operand} {ps : Array Tmp} {assign body : Code} {Q : Exit → Act → World → Prop} {a : Act} {w : World}
    (hro : F.round = none) (h1 : 1 ≤ n) {gf : Nat} {lb : Array Value} (hg : a.eval g = .func (.func gf) #[] lb) (hFg : F.fn gf) (eg : ∀ args w, (callFunc gf args).run P w = .ok (.enter gf args) w)
    {encs : α → Array Value} {Kp : World → World → Prop} {V : List α → α → World → Prop} {S : List α → Prop} {w0 : World} (hseq : SeqV F (n - 1) P gf lb encs Kp V S w0) (hb0 : Below w0.heap.size w0 w)
    (hKt : ∀ {A B C : World}, Kp A B → Kp B C → Kp A C) (hKb : ∀ (W : World) (l : Nat) (o o' : Obj), w.heap.size ≤ l → W.heap[l]? = some o → o.isCells = false → o.isWalk = false → Kp W (W.putObj l o')) (hps : ∀ x, (encs x).size = ps.size)
    (I : List α → World → Prop) (Ix : Code → List α → World → Prop) (hI : OwnFrom w.heap.size I) (hIx : ∀ c, OwnFrom w.heap.size (Ix c)) (h0 : I [] w) (Ax : List α → α → Act → World → Prop) (hAx : ∀ pre x a', OwnFrom w.heap.size (fun (_ : Unit) W => Ax pre x a' W))
    (hassign : ∀ (l : Nat) (pre : List α) (x : α) (W : World) (K : Act → World → Prop), I pre W → V pre x W → (∀ a' W', KeepsFrom w.heap.size W W' → Kp W W' → I pre W' → Ax pre x a' W' → K a' W') →
      assign.wpIn (F.inRound l) (n - 1 - 1) P (Exit.then K (fun _ _ _ => False)) { tmps := (ps.zip (encs x)).foldl (fun t (p, v) => t.setIfInBounds p v) a.tmps, defers := [] } W)
    (hbody : ∀ (l : Nat) (pre : List α) (x : α) (a' : Act) (W : World), I pre W → Ax pre x a' W → body.wpIn (F.inRound l) (n - 1 - 1) P (leftV w.heap.size Kp I Ix (pre ++ [x]) W) a' W)
    (hdone : ∀ (D : Nat) (xs : List α) (W : World), w.heap.size ≤ D → S xs → I xs W → W.heap[D]? = some (.deferred (some [])) → Q .normal { a with defers := { target := .collected D, args := #[] } :: a.defers } W)
    (hstop : ∀ (D : Nat) (c : Code) (pre : List α) (W : World), w.heap.size ≤ D → Ix c pre W → W.heap[D]? = some (.deferred (some [])) → c.wpIn F n P Q { a with defers := { target := .collected D, args := #[] } :: a.defers } W) :
    (Code.rangeFunc g ps assign body).wpIn F n P Q a w := by
  refine wpIn_rangeFunc fun fn hfn => ?_
  rw [hro]
  obtain ⟨W1, hW1⟩ : ∃ W1, (w.alloc (.deferred (some []))).alloc (.loop (recOf fn a.tmps ps assign body w.heap.size .ready none)) = W1 := ⟨_, rfl⟩
  have hs1 : w.heap.size ≤ W1.heap.size := by rw [← hW1]; simp; omega
  have hk1 : Kept (recOf fn a.tmps ps assign body w.heap.size) w.heap.size .ready none W1 := by
    rw [← hW1]
    refine ⟨?_, (Below.heap_alloc _ _ _ (by simp)).trans (World.alloc_heap_new w _)⟩
    have h := World.alloc_heap_new (w.alloc (.deferred (some []))) (.loop (recOf fn a.tmps ps assign body w.heap.size .ready none))
    rwa [World.size_alloc] at h
  have hi1 : I [] W1 := by rw [← hW1]; exact hI.alloc _ (hI.alloc _ h0)
  have hb1 : Below w0.heap.size w0 W1 := by
    rw [← hW1]
    exact hb0.trans ((((Below.refl _ w).alloc (Nat.le_refl _) _).alloc (by simp) _).mono hb0.size)
  have fromW : ∀ {A : World} {row : Option Nat}, (∀ r, row = some r → W1.heap.size ≤ r ∧ ∃ o : Obj, A.heap[r]? = some o ∧ o.isWalk = true) → ∀ r, row = some r → w.heap.size ≤ r ∧ ∃ o : Obj, A.heap[r]? = some o ∧ o.isCells = false := fun hr r e => by
    obtain ⟨hB, o, ho, hw⟩ := hr r e
    exact ⟨by omega, o, ho, Obj.not_cells_of_walk hw⟩
  refine ⟨w.heap.size + 1, [{ target := .collected w.heap.size, args := #[] }], W1, { target := .fn (.func gf) lb, args := #[.func (.yield (w.heap.size + 1)) #[] #[]] }, W1, gf, #[.func (.yield (w.heap.size + 1)) #[] #[]] ++ lb, W1, ?_, ?_, ?_, ?_, fun _ => h1, ?_⟩
  · rw [← hW1]
    exact run_enterLoop_outer _ _ _ _ _
  · simp only [resolve, hg]
    simp [go_sem]
  · intro f' hf'
    simp [Target.leads] at hf'
    subst hf'
    exact hFg
  · simp [invoke, go_sem, eg]
  · refine (hseq (w.heap.size + 1) (fun pre W => I pre W ∧ Kept (recOf fn a.tmps ps assign body w.heap.size) w.heap.size .ready none W)
      (fun pre W => ∃ c, Ix c pre W ∧ Kept (recOf fn a.tmps ps assign body w.heap.size) w.heap.size .done (some c) W) W1 hb1
      (fun s A C row hs hg' hr => ⟨hI s A C row hs.1 hg' (fromW hr), hs.2.abides hg' fun r e => (hr r e).2⟩)
      (fun s A C row ⟨c, hc, hk⟩ hg' hr => ⟨c, hIx c s A C row hc hg' (fromW hr), hk.abides hg' fun r e => (hr r e).2⟩)
      (fun pre x W ⟨hi, hk⟩ hv => round_v (Kp := Kp) (I := I) (Ix := Ix) (Ax := Ax pre) (pre := pre) (x := x) (W := W) hfn (Nat.le_refl _) hps hKt hKb hI hIx (hAx pre) (fun K hK => hassign _ pre x W K hi hv hK) (fun a' W' h h' => hbody _ pre x a' W' h h') hk) ⟨hi1, hk1⟩).mono ?_
    rintro e W2 ⟨⟨v, rfl⟩, (⟨xs, hS, hi, hk⟩ | ⟨pre, c, hi, hk⟩)⟩
    · exact ⟨none, _, run_endLoop (P := P) hk.1 (by simp [recOf]), hdone _ xs _ (Nat.le_refl _) hS (hI.putObj _ hi (by omega) hk.1 rfl) ((World.putObj_heap_other (by omega)).trans hk.2)⟩
    · exact ⟨some c, _, run_endLoop (P := P) hk.1 (by simp [recOf]), hstop _ c pre _ (Nat.le_refl _) ((hIx c).putObj _ hi (by omega) hk.1 rfl) ((World.putObj_heap_other (by omega)).trans hk.2)⟩
end Go.Proofs.YtpkdalpjfcopbaaDoor
namespace Go.Proofs.YtpkdalpjfcopbaaDoor
open Go.RowKit Go.Shelf
attribute [local go_sem] Oper.semAt_some
/-- A record as a round gets it: its number, what it is, its body's list; between which blocks that lies. -/
structure Gv where
  i : Nat
  rc : Rc
  A : Option Addr
  c : Nat
  lo : Nat
  hi : Nat
def Gv.cells (x : Gv) : Array Value := #[.int .i64 x.rc.kind, .slice x.A x.rc.body.length x.c]
def Gv.encs (x : Gv) : Array Value := #[.int .i64 (x.i : Int), .agg #[.int .i64 x.rc.kind, .slice x.A x.rc.body.length x.c]]
/-- What a round may know. -/
def VGv (recs : List Rc) (base : Nat) (pre : List Gv) (x : Gv) (W : World) : Prop :=
  x.i = pre.length ∧ recs[x.i]? = some x.rc ∧ W.ownsRow x.lo 5 1 (.slice x.A x.rc.body.length x.c) x.rc.body.length (bvs x.rc.body) ∧ W.heap.size ≤ x.hi ∧ base ≤ x.lo ∧ ∀ y ∈ pre, y.hi ≤ x.lo
/-- All have come. -/
def SGv (recs : List Rc) (xs : List Gv) : Prop := xs.map Gv.rc = recs
/-- Blocks of Keep lie as they lay. -/
def KpOf (Keep : Nat → Prop) (W W' : World) : Prop := Chg (fun k => ¬ Keep k) W W'
theorem kpOf_t {Keep : Nat → Prop} {A B C : World} (h : KpOf Keep A B) (k : KpOf Keep B C) : KpOf Keep A C := Chg.trans h k
theorem kpOf_b {Keep : Nat → Prop} {B : Nat} (hK : ∀ k, Keep k → k < B) (W : World) (l : Nat) (o o' : Obj) (hl : B ≤ l) (_ : W.heap[l]? = some o) (_ : o.isCells = false) (_ : o.isWalk = false) : KpOf Keep W (W.putObj l o') :=
  ⟨rfl, rfl, rfl, by simp, fun k _ hn => World.putObj_heap_other fun e => hn fun h => by have := hK k h; omega⟩
theorem take_next {recs : List Rc} {pre : List Gv} {x : Gv} {k : Nat} (h : pre.map Gv.rc = recs.take k) (hx : recs[k]? = some x.rc) : (pre ++ [x]).map Gv.rc = recs.take (k + 1) := by
  rw [List.map_append, h, List.take_add_one, hx]
  rfl
theorem round_keeps {w wr W2 W3 : World} {base : Nat} {Keep : Nat → Prop} (hkeep : ∀ g, base ≤ g → g < w.heap.size → Keep g) (h : Chg (fun g => ¬ (base ≤ g ∧ g < w.heap.size)) w wr) (hb : Below wr.heap.size wr W2) (hk : KpOf Keep W2 W3) : Chg (fun g => ¬ (base ≤ g ∧ g < w.heap.size)) w W3 :=
  Chg.trans (Chg.trans h (Chg.of_below hb _)) (Chg.mono hk fun k _ hn h => hn (hkeep k h.1 h.2))
theorem round_hi {pre : List Gv} {wr W2 W3 : World} {x : Gv} (h : ∀ y ∈ pre, y.hi ≤ wr.heap.size) (h1 : wr.heap.size ≤ W2.heap.size) (h2 : W2.heap.size ≤ W3.heap.size) (hx : x.hi = W2.heap.size := by rfl) : ∀ y ∈ pre ++ [x], y.hi ≤ W3.heap.size := fun y hy => by
  rcases List.mem_append.1 hy with hy | hy
  · have := h y hy; omega
  · obtain rfl : y = x := by simpa using hy
    omega
/-- An append onto no list, within a fence. -/
theorem stepIn_append {F : Fence} {n : Nat} {P : Program} {w : World} {ops : Array Oper} {o : Oper} {a : Act} {K : Act → World → Prop} {Q : Exit → Act → World → Prop} {E : Prop} (hgd : o.guard = none) (s x : Operand) (t : TypeId)
    (ho : o.op = .call { callee := .builtin .append, args := #[s, x], argTypes := #[t, t] })
    (base : Nat) (e : TypeId) (i : TypeInfo) (z : Value) (size bytes : Nat) (ht : P.underlying t = some (.slice e)) (hi : P.info? e = some i) (hz : i.zero = some z)
    (hsize : i.size = size) (hby : i.bytes = bytes) (hzs : z.cells.size = size) (hsz : 0 < size)
    (v : Value) (k : Nat) (xs : List Value) (hs : a.eval s = v) (hown : w.ownsRow base e size v k xs)
    (B : Nat) (A : Option Addr) (m c : Nat) (news : List Value) (hx : a.eval x = .slice A m c) (hr : Rd w B size A m news) (h1 : ∀ u ∈ news, u.oneCell' = true)
    (h63 : k + m ≤ maxLen) (hbytes : (k + m) * bytes ≤ 140737488355328) (hbase : base ≤ w.heap.size)
    (h : ∀ v' w', w'.ownsRow base e size v' (k + m) (xs ++ news) → w.grownBy w' v.ownBlock → K (a.put o.dst v') w') :
    if Region.wanted o (yielded ops a.tmps) = true then Oper.wpIn F n P o a w K Q else E := by
  have hw : Region.wanted o (yielded ops a.tmps) = true := by simp [Region.wanted, hgd]
  rw [if_pos hw]
  obtain ⟨v', w', hrun, h2, h3, h4⟩ := run_append_any (P := P) w base t o.type e i z size bytes ht hi hz hsize hby hzs hsz v k xs hown B A m c news hr h1 h63 hbytes hbase
  unfold Oper.wpIn
  refine ⟨by simp [Oper.about, ho, resolve, Target.leads, Sem.run_pure], ?_⟩
  rw [Oper.semAt_plain F _ _ (by rw [ho]; intro c hc'; cases hc')]
  simp only [execOp, ho, resolve, invoke, builtin, Sem.run_bind, Sem.run_pure, Result.andThen_ok, List.map_toArray, List.map_cons, List.map_nil, hs, hx, hrun]
  exact h v' w' h2 h3
set_option maxRecDepth 100000 in
set_option maxHeartbeats 3200000 in
theorem each1_seq {w : World} {fg base : Nat} {r : LV} {K : List Rk} {f : Fls} {Keep : Nat → Prop} (n : Nat) (hB : Blk w fg 87 (LV.cells r)) (hK : w.ownsK base r K f) (hkeep : ∀ g, base ≤ g → g < w.heap.size → Keep g) (hlen : K.length ≤ 65536) (hbl : ∀ x ∈ giveR f, x.body.length ≤ 65536) :
    SeqV Fence.wide n Tryd.prog 47 #[.pointer (some ⟨fg, 0, none⟩)] Gv.encs (KpOf Keep) (VGv (giveR f) w.heap.size) (SGv (giveR f)) w := by
  intro l J Jx W hW hJ hJx hY h0
  obtain ⟨i0, hi0, hz0, hz1, hz2⟩ := info_parts info_u8
  have HB := Lib.hid (hB.over hW)
  have HK := Lib.hid hK
  have HKW : Hid (Chg (fun g => ¬ (base ≤ g ∧ g < w.heap.size)) w W) := Lib.hid (Chg.of_below hW _)
  have HY := Lib.hid hY
  have HJ := Lib.hid hJ
  have HJX := Lib.hid hJx
  have HBL := Lib.hid hbl
  have HKP := Lib.hid hkeep
  have HWB := Lib.hid hW
  have hml : r.m = K.length := hK.len
  have HML := Lib.hid hml
  have c3 : W.cell? ⟨fg, 3, none⟩ = some (.slice r.A r.m r.c) := HB.out.cell 3
  have H0 : Hid (J [] W) := Lib.hid h0
  have hm6 : r.m ≤ 65536 := by omega
  clear hB hK hkeep hbl hW hJ hJx hY h0 hml
  refine callsIn_of_wp Tryd.func47 rfl trivial ?_ rfl
  simp only [Tryd.ntmps47, List.size_toArray, List.length_cons, List.length_nil, Nat.reduceAdd, Nat.reduceSub, Array.replicate_succ, Array.replicate_zero, List.push_toArray, List.append_toArray, List.nil_append, List.cons_append]
  gi_wp2
  gi_loopw [8] (fun i wr => ∃ (k : Nat) (pre : List Gv), i = .int .i64 (k : Int) ∧ k ≤ r.m ∧ pre.length = k ∧ pre.map Gv.rc = (giveR f).take k ∧ Hid (J pre wr) ∧ Hid (Chg (fun g => ¬ (base ≤ g ∧ g < w.heap.size)) w wr) ∧ Hid (∀ y ∈ pre, y.hi ≤ wr.heap.size) ∧ Hid (w.heap.size ≤ wr.heap.size)) (fun i _ => r.m - (intOf i).toNat)
  case atStart => exact ⟨0, [], rfl, by omega, rfl, by simp, H0, HKW, Lib.hid (by simp), Lib.hid HWB.out.size⟩
  case round =>
    clear H0 HKW c3
    obtain ⟨k, pre, rfl, hk, hpl, hpm, HJR, HCR, HYH, HWS⟩ := hrel
    have HKR : Hid (wr.ownsK base r K f) := Lib.hid ⟨HK.out.own.chg HCR.out (fun g h1 h2 hn => hn ⟨h1, h2⟩), HK.out.len, HK.out.rc⟩
    have HPM := Lib.hid (And.intro hpl hpm)
    clear hpl hpm
    by_cases hlt : k < r.m
    · have hI : (k : Int) < (r.m : Int) := by omega
      have hro := HKR.out.own
      rw [HML.out] at hro
      obtain ⟨xk, hxk⟩ : ∃ x, K[k]? = some x := ⟨K[k]'(by rw [← HML.out]; exact hlt), List.getElem?_eq_getElem _⟩
      have hmap : (K.map Rk.rc)[k]? = some xk.rc := by rw [List.getElem?_map, hxk]; rfl
      obtain ⟨q, o, bA, bc, hrA, hq, _, x0, x1, hrb, hle, _⟩ := (hro.rd (F := fun _ => False) fun _ _ _ h => h).at_ k xk.rc hmap
      have HGK : Hid ((giveR f)[k]? = some xk.rc) := Lib.hid (by rw [← HKR.out.rc]; exact hmap)
      have HRB := Lib.hid hrb
      have hbl2 : xk.rc.body.length ≤ 65536 := HBL.out _ (List.mem_of_getElem? HGK.out)
      have HRA := Lib.hid hrA
      rw [hrA]
      obtain ⟨w1, hw1⟩ : ∃ w1, w1 = wr.alloc (.cells #[.int .i64 xk.rc.kind, .slice bA xk.rc.body.length bc] 34) := ⟨_, rfl⟩
      have hb1 : Below wr.heap.size wr w1 := by rw [hw1]; exact one_box' _ _
      have hX1 : Blk w1 wr.heap.size 34 #[.int .i64 xk.rc.kind, .slice bA xk.rc.body.length bc] := by rw [hw1]; exact Blk.new _ _ _
      have hj1 : J pre w1 := by rw [hw1]; exact HJ.out pre wr _ none HJR.out (World.grownBy_alloc wr _ none) (fun _ e => by cases e)
      have HW1 := Lib.hid hw1
      have H1 := Lib.hid (And.intro hb1 (And.intro hX1 hj1))
      clear hro hxk hmap hrb hrA hw1 hb1 hX1 hj1
      gi_wp2
      rw [← HW1.out]
      refine wpIn_region_any (by kernel_rfl) ?_
      change wpAnyIn _ _ _ _ _ _ _ _ _ (World.drew w1)
      have hj1 : J pre w1.drew := HJ.out pre w1 _ none H1.out.2.2 ⟨rfl, rfl, rfl, Nat.le_refl _, fun _ _ _ => rfl⟩ (fun _ e => by cases e)
      obtain ⟨W0, hW0⟩ : ∃ W0, w1.drew = W0 := ⟨_, rfl⟩
      rw [hW0] at hj1 ⊢
      have hb0 : Below wr.heap.size wr W0 := by rw [← hW0]; exact H1.out.1.drew
      have hX0 : Blk W0 wr.heap.size 34 #[.int .i64 xk.rc.kind, .slice bA xk.rc.body.length bc] := by rw [← hW0]; exact H1.out.2.1.drew
      have HH := Lib.hid (And.intro hj1 (And.intro hb0 hX0))
      clear hW0 HW1 H1 hj1 hb0 hX0
      have c0 : W0.cell? ⟨wr.heap.size, 0, none⟩ = some (.int .i64 xk.rc.kind) := HH.out.2.2.cell 0
      have c1 : W0.cell? ⟨wr.heap.size, 1, none⟩ = some (.slice bA xk.rc.body.length bc) := HH.out.2.2.cell 1
      have hrd : Rd W0 W0.heap.size 1 bA xk.rc.body.length (bvs xk.rc.body) := HRB.out.over HH.out.2.1
      have HRD := Lib.hid hrd
      clear hrd
      (refine wpAnyIn_take (i := 0) (v := ?_) rfl rfl (by kernel_rfl) (by kernel_rfl) (by kernel_rfl) (fun _ _ _ h => h) ⟨Or.inl ⟨by rfl, ?_⟩, fun _ => rfl⟩ ?_; rotate_left; focus (intro wz; go_simp; try with_reducible rfl))
      (refine wpAnyIn_take (i := 1) (v := ?_) rfl rfl (by kernel_rfl) (by kernel_rfl) (by kernel_rfl) (fun _ _ _ h => h) ⟨Or.inl ⟨by rfl, ?_⟩, fun _ => rfl⟩ ?_; rotate_left; focus (intro wz; go_simp; try with_reducible rfl))
      (refine wpAnyIn_take (i := 2) (v := ?_) rfl rfl (by kernel_rfl) (by kernel_rfl) (by kernel_rfl) (fun _ _ _ h => h) ⟨Or.inl ⟨by rfl, ?_⟩, fun _ => rfl⟩ ?_; rotate_left; focus (intro wz; go_simp; try with_reducible rfl))
      (refine wpAnyIn_take (i := 4) (v := ?_) rfl rfl (by kernel_rfl) (by kernel_rfl) (by kernel_rfl) (fun _ _ _ h => h) ⟨Or.inl ⟨by rfl, ?_⟩, fun _ => rfl⟩ ?_; rotate_left; focus (intro wz; go_simp; try with_reducible rfl))
      (refine wpAnyIn_ready (rs := [3, 5]) (by kernel_rfl) (by simp) ?_; refine AllReadyIn.cons rfl (fun KZ hK => ?_) ?_)
      · go_simp
        refine hK _ _ ?_
        clear hK
        (refine wpAnyIn_ready (rs := [5]) (by kernel_rfl) (by simp) ?_; refine AllReadyIn.cons rfl (fun KZ hK => ?_) ?_)
        · go_simp
          refine hK _ _ ?_
          clear hK
          clear c0 c1
          (refine wpAnyIn_ready (rs := [6]) (by kernel_rfl) (by simp) ?_; refine AllReadyIn.cons rfl (fun KZ hK => ?_) ?_)
          · skip
            have hnil : W0.ownsRow W0.heap.size 5 1 (.slice none 0 0) 0 [] := ⟨by simp, .inl ⟨rfl, rfl⟩⟩
            refine stepIn_append (by rfl) _ _ 22 (by rfl) W0.heap.size 5 i0 _ 1 1 u_bytes hi0 hz0 hz1 hz2 rfl (by omega) _ 0 [] (by rfl) hnil W0.heap.size bA xk.rc.body.length bc (bvs xk.rc.body) (by rfl) HRD.out (bvs_one _) (by simp only [maxLen]; omega) (by omega) (Nat.le_refl _) ?_
            intro v2 W2 ho2 hg2
            rw [Nat.zero_add, List.nil_append] at ho2
            obtain ⟨A2, e2, rfl, _, _⟩ := own_shape ho2
            have hb2 : Below W0.heap.size W0 W2 := below_app hnil hg2 (Nat.le_refl _)
            have HH2 := Lib.hid (And.intro (HJ.out pre W0 W2 none HH.out.1 hg2 (fun _ e => by cases e)) (And.intro ho2 (And.intro (HH.out.2.1.trans (hb2.mono HH.out.2.1.size)) hb2.size)))
            have c0 : W2.cell? ⟨wr.heap.size, 0, none⟩ = some (.int .i64 xk.rc.kind) := (HH.out.2.2.over hb2).cell 0
            clear hnil ho2 hg2 hb2 HRD
            refine hK _ _ ?_
            clear hK
            (refine wpAnyIn_take (i := 7) (v := ?_) rfl rfl (by kernel_rfl) (by kernel_rfl) (by kernel_rfl) (fun _ _ _ h => h) ⟨Or.inl ⟨by rfl, ?_⟩, fun _ => rfl⟩ ?_; rotate_left; focus (intro wz; go_simp; try with_reducible rfl))
            (refine wpAnyIn_ready (rs := [8]) (by kernel_rfl) (by simp) ?_; refine AllReadyIn.cons rfl (fun KZ hK => ?_) ?_)
            · go_simp
              obtain ⟨fn, tmps, assign, code, hy, hR⟩ := HY.out pre ⟨k, xk.rc, A2, e2, W0.heap.size, W2.heap.size⟩ W2 HH2.out.1 ⟨HPM.out.1.symm, HGK.out, HH2.out.2.1, Nat.le_refl _, Nat.le_trans HWS.out HH.out.2.1.size, fun y hm => Nat.le_trans (HYH.out y hm) HH.out.2.1.size⟩
              simp only [Gv.encs] at hy
              rw [hy, Oper.uponIn_round]
              refine ⟨fun h => (by cases h), hR.mono ?_⟩
              clear hy hR
              rintro e W3 (⟨rfl, hJ3, hk3⟩ | ⟨rfl, hx3⟩)
              · refine hK _ _ ?_
                clear hK
                (refine wpAnyIn_take (i := 9) (v := ?_) rfl rfl (by kernel_rfl) (by kernel_rfl) (by kernel_rfl) (fun _ _ _ h => h) ⟨Or.inl ⟨by rfl, ?_⟩, fun _ => rfl⟩ ?_; rotate_left; focus (intro wz; go_simp; try with_reducible rfl))
                refine wpAnyIn_done (by kernel_rfl) ?_ _
                gi_wp2
                refine ⟨⟨k + 1, pre ++ [⟨k, xk.rc, A2, e2, W0.heap.size, W2.heap.size⟩], by push_cast; rfl, by omega, by rw [List.length_append, HPM.out.1]; rfl, take_next HPM.out.2 HGK.out, Lib.hid hJ3, Lib.hid (round_keeps HKP.out HCR.out HH2.out.2.2.1 hk3), Lib.hid (round_hi HYH.out (HH2.out.2.2.1.size) hk3.size), Lib.hid (Nat.le_trans HWS.out (Nat.le_trans HH2.out.2.2.1.size hk3.size))⟩, ?_⟩
                simp only [intOf]
                omega
              · refine hK _ _ ?_
                clear hK
                (refine wpAnyIn_take (i := 9) (v := ?_) rfl rfl (by kernel_rfl) (by kernel_rfl) (by kernel_rfl) (fun _ _ _ h => h) ⟨Or.inl ⟨by rfl, ?_⟩, fun _ => rfl⟩ ?_; rotate_left; focus (intro wz; go_simp; try with_reducible rfl))
                refine wpAnyIn_done (by kernel_rfl) ?_ _
                gi_wp2
                refine bodyPost_ret (results_none rfl _ _ _) rfl ?_
                exact ⟨⟨_, rfl⟩, .inr ⟨_, hx3⟩⟩
            · exact AllReadyIn.nil
          · exact AllReadyIn.nil
        · exact AllReadyIn.nil
      · refine AllReadyIn.cons rfl (fun K hK => ?_) AllReadyIn.nil
        go_simp
        refine hK _ _ ?_
        clear hK
        (refine wpAnyIn_ready (rs := [3, 6]) (by kernel_rfl) (by simp) ?_; refine AllReadyIn.cons rfl (fun KZ hK => ?_) ?_)
        · go_simp
          refine hK _ _ ?_
          clear hK
          clear c0 c1
          (refine wpAnyIn_ready (rs := [6]) (by kernel_rfl) (by simp) ?_; refine AllReadyIn.cons rfl (fun KZ hK => ?_) ?_)
          · skip
            have hnil : W0.ownsRow W0.heap.size 5 1 (.slice none 0 0) 0 [] := ⟨by simp, .inl ⟨rfl, rfl⟩⟩
            refine stepIn_append (by rfl) _ _ 22 (by rfl) W0.heap.size 5 i0 _ 1 1 u_bytes hi0 hz0 hz1 hz2 rfl (by omega) _ 0 [] (by rfl) hnil W0.heap.size bA xk.rc.body.length bc (bvs xk.rc.body) (by rfl) HRD.out (bvs_one _) (by simp only [maxLen]; omega) (by omega) (Nat.le_refl _) ?_
            intro v2 W2 ho2 hg2
            rw [Nat.zero_add, List.nil_append] at ho2
            obtain ⟨A2, e2, rfl, _, _⟩ := own_shape ho2
            have hb2 : Below W0.heap.size W0 W2 := below_app hnil hg2 (Nat.le_refl _)
            have HH2 := Lib.hid (And.intro (HJ.out pre W0 W2 none HH.out.1 hg2 (fun _ e => by cases e)) (And.intro ho2 (And.intro (HH.out.2.1.trans (hb2.mono HH.out.2.1.size)) hb2.size)))
            have c0 : W2.cell? ⟨wr.heap.size, 0, none⟩ = some (.int .i64 xk.rc.kind) := (HH.out.2.2.over hb2).cell 0
            clear hnil ho2 hg2 hb2 HRD
            refine hK _ _ ?_
            clear hK
            (refine wpAnyIn_take (i := 7) (v := ?_) rfl rfl (by kernel_rfl) (by kernel_rfl) (by kernel_rfl) (fun _ _ _ h => h) ⟨Or.inl ⟨by rfl, ?_⟩, fun _ => rfl⟩ ?_; rotate_left; focus (intro wz; go_simp; try with_reducible rfl))
            (refine wpAnyIn_ready (rs := [8]) (by kernel_rfl) (by simp) ?_; refine AllReadyIn.cons rfl (fun KZ hK => ?_) ?_)
            · go_simp
              obtain ⟨fn, tmps, assign, code, hy, hR⟩ := HY.out pre ⟨k, xk.rc, A2, e2, W0.heap.size, W2.heap.size⟩ W2 HH2.out.1 ⟨HPM.out.1.symm, HGK.out, HH2.out.2.1, Nat.le_refl _, Nat.le_trans HWS.out HH.out.2.1.size, fun y hm => Nat.le_trans (HYH.out y hm) HH.out.2.1.size⟩
              simp only [Gv.encs] at hy
              rw [hy, Oper.uponIn_round]
              refine ⟨fun h => (by cases h), hR.mono ?_⟩
              clear hy hR
              rintro e W3 (⟨rfl, hJ3, hk3⟩ | ⟨rfl, hx3⟩)
              · refine hK _ _ ?_
                clear hK
                (refine wpAnyIn_take (i := 9) (v := ?_) rfl rfl (by kernel_rfl) (by kernel_rfl) (by kernel_rfl) (fun _ _ _ h => h) ⟨Or.inl ⟨by rfl, ?_⟩, fun _ => rfl⟩ ?_; rotate_left; focus (intro wz; go_simp; try with_reducible rfl))
                refine wpAnyIn_done (by kernel_rfl) ?_ _
                gi_wp2
                refine ⟨⟨k + 1, pre ++ [⟨k, xk.rc, A2, e2, W0.heap.size, W2.heap.size⟩], by push_cast; rfl, by omega, by rw [List.length_append, HPM.out.1]; rfl, take_next HPM.out.2 HGK.out, Lib.hid hJ3, Lib.hid (round_keeps HKP.out HCR.out HH2.out.2.2.1 hk3), Lib.hid (round_hi HYH.out (HH2.out.2.2.1.size) hk3.size), Lib.hid (Nat.le_trans HWS.out (Nat.le_trans HH2.out.2.2.1.size hk3.size))⟩, ?_⟩
                simp only [intOf]
                omega
              · refine hK _ _ ?_
                clear hK
                (refine wpAnyIn_take (i := 9) (v := ?_) rfl rfl (by kernel_rfl) (by kernel_rfl) (by kernel_rfl) (fun _ _ _ h => h) ⟨Or.inl ⟨by rfl, ?_⟩, fun _ => rfl⟩ ?_; rotate_left; focus (intro wz; go_simp; try with_reducible rfl))
                refine wpAnyIn_done (by kernel_rfl) ?_ _
                gi_wp2
                refine bodyPost_ret (results_none rfl _ _ _) rfl ?_
                exact ⟨⟨_, rfl⟩, .inr ⟨_, hx3⟩⟩
            · exact AllReadyIn.nil
          · exact AllReadyIn.nil
        · refine AllReadyIn.cons rfl (fun K hK => ?_) AllReadyIn.nil
          clear c0 c1
          have hnil : W0.ownsRow W0.heap.size 5 1 (.slice none 0 0) 0 [] := ⟨by simp, .inl ⟨rfl, rfl⟩⟩
          refine stepIn_append (by rfl) _ _ 22 (by rfl) W0.heap.size 5 i0 _ 1 1 u_bytes hi0 hz0 hz1 hz2 rfl (by omega) _ 0 [] (by rfl) hnil W0.heap.size bA xk.rc.body.length bc (bvs xk.rc.body) (by rfl) HRD.out (bvs_one _) (by simp only [maxLen]; omega) (by omega) (Nat.le_refl _) ?_
          intro v2 W2 ho2 hg2
          rw [Nat.zero_add, List.nil_append] at ho2
          obtain ⟨A2, e2, rfl, _, _⟩ := own_shape ho2
          have hb2 : Below W0.heap.size W0 W2 := below_app hnil hg2 (Nat.le_refl _)
          have HH2 := Lib.hid (And.intro (HJ.out pre W0 W2 none HH.out.1 hg2 (fun _ e => by cases e)) (And.intro ho2 (And.intro (HH.out.2.1.trans (hb2.mono HH.out.2.1.size)) hb2.size)))
          have c0 : W2.cell? ⟨wr.heap.size, 0, none⟩ = some (.int .i64 xk.rc.kind) := (HH.out.2.2.over hb2).cell 0
          clear hnil ho2 hg2 hb2 HRD
          refine hK _ _ ?_
          clear hK
          (refine wpAnyIn_ready (rs := [3]) (by kernel_rfl) (by simp) ?_; refine AllReadyIn.cons rfl (fun KZ hK => ?_) ?_)
          · go_simp
            refine hK _ _ ?_
            clear hK
            (refine wpAnyIn_take (i := 7) (v := ?_) rfl rfl (by kernel_rfl) (by kernel_rfl) (by kernel_rfl) (fun _ _ _ h => h) ⟨Or.inl ⟨by rfl, ?_⟩, fun _ => rfl⟩ ?_; rotate_left; focus (intro wz; go_simp; try with_reducible rfl))
            (refine wpAnyIn_ready (rs := [8]) (by kernel_rfl) (by simp) ?_; refine AllReadyIn.cons rfl (fun KZ hK => ?_) ?_)
            · go_simp
              obtain ⟨fn, tmps, assign, code, hy, hR⟩ := HY.out pre ⟨k, xk.rc, A2, e2, W0.heap.size, W2.heap.size⟩ W2 HH2.out.1 ⟨HPM.out.1.symm, HGK.out, HH2.out.2.1, Nat.le_refl _, Nat.le_trans HWS.out HH.out.2.1.size, fun y hm => Nat.le_trans (HYH.out y hm) HH.out.2.1.size⟩
              simp only [Gv.encs] at hy
              rw [hy, Oper.uponIn_round]
              refine ⟨fun h => (by cases h), hR.mono ?_⟩
              clear hy hR
              rintro e W3 (⟨rfl, hJ3, hk3⟩ | ⟨rfl, hx3⟩)
              · refine hK _ _ ?_
                clear hK
                (refine wpAnyIn_take (i := 9) (v := ?_) rfl rfl (by kernel_rfl) (by kernel_rfl) (by kernel_rfl) (fun _ _ _ h => h) ⟨Or.inl ⟨by rfl, ?_⟩, fun _ => rfl⟩ ?_; rotate_left; focus (intro wz; go_simp; try with_reducible rfl))
                refine wpAnyIn_done (by kernel_rfl) ?_ _
                gi_wp2
                refine ⟨⟨k + 1, pre ++ [⟨k, xk.rc, A2, e2, W0.heap.size, W2.heap.size⟩], by push_cast; rfl, by omega, by rw [List.length_append, HPM.out.1]; rfl, take_next HPM.out.2 HGK.out, Lib.hid hJ3, Lib.hid (round_keeps HKP.out HCR.out HH2.out.2.2.1 hk3), Lib.hid (round_hi HYH.out (HH2.out.2.2.1.size) hk3.size), Lib.hid (Nat.le_trans HWS.out (Nat.le_trans HH2.out.2.2.1.size hk3.size))⟩, ?_⟩
                simp only [intOf]
                omega
              · refine hK _ _ ?_
                clear hK
                (refine wpAnyIn_take (i := 9) (v := ?_) rfl rfl (by kernel_rfl) (by kernel_rfl) (by kernel_rfl) (fun _ _ _ h => h) ⟨Or.inl ⟨by rfl, ?_⟩, fun _ => rfl⟩ ?_; rotate_left; focus (intro wz; go_simp; try with_reducible rfl))
                refine wpAnyIn_done (by kernel_rfl) ?_ _
                gi_wp2
                refine bodyPost_ret (results_none rfl _ _ _) rfl ?_
                exact ⟨⟨_, rfl⟩, .inr ⟨_, hx3⟩⟩
            · exact AllReadyIn.nil
          · exact AllReadyIn.nil
    · obtain rfl : k = r.m := by omega
      gi_wp2
      go_end0
      refine ⟨⟨_, rfl⟩, .inl ⟨pre, ?_, HJR.out⟩⟩
      unfold SGv
      rw [HPM.out.2, List.take_of_length_le]
      rw [← HKR.out.rc, List.length_map, ← HML.out]
      exact Nat.le_refl _
end Go.Proofs.YtpkdalpjfcopbaaDoor
