/-
  A map from paths to numbers, as the program keeps it.
-/
import Derived.Test.YtgfhmfhhobhojaaEPure
import Derived.Test.YtgfhmfhhobhojaaProg
import Derived.Test.YtgfhmfhhobhojaaApp
import Derived.Test.YtgfhmfhhobhojaaFrame
import Derived.Maps.OwnSet
import Derived.DeepKeys4
namespace Go.Proofs.Ytgfhmfhhobhojaa
open Go.RowKit Go.Maps

def pathV (p q : Nat) : Value := .agg #[.int .i64 (p : Int), .int .i64 (q : Int)]
def kl (p q : Nat) : Lit := .string (keyBytes [.int .i64 (p : Int), .int .i64 (q : Int)])
theorem kl_all : ((List.range 16).all fun p => (List.range 16).all fun q => match keyOf Try.prog 89 (pathV p q) with | some (.string s) => decide (s = keyBytes [.int .i64 (p : Int), .int .i64 (q : Int)]) | _ => false) = true := by kernel_rfl
theorem kl_key {p q : Nat} (hp : p < 16) (hq : q < 16) : keyOf Try.prog 89 (pathV p q) = some (kl p q) := by
  have h := kl_all
  simp only [List.all_eq_true, List.mem_range] at h
  have h2 := h p hp q hq
  unfold kl
  split at h2
  · next s hk => rw [hk, of_decide_eq_true h2]
  · cases h2
theorem path_row : (89 : TypeId) < Try.prog.types.size := of_decide_eq_true (by kernel_rfl)
theorem path_deep : Try.prog.keyTypeAt 2 89 = true := by kernel_rfl
theorem path_law : Keyed Try.prog 89 := Keyed.of_law (deep_law_laid laidOut (m := 2) (by omega) path_row path_deep (by rw [Try.underlying89]))
theorem u_map : Try.prog.underlying 79 = some (.map 89 3) := by kernel_rfl
theorem u_int' : Try.prog.underlying 3 = some (.int .i64) := by kernel_rfl
theorem zero_int (w : World) : (zeroValue 3).run Try.prog w = .ok (.int .i64 0) w := by kernel_rfl
theorem pathV_inj {p q p' q' : Nat} (h : pathV p q = pathV p' q') : p = p' ∧ q = q' := by
  unfold pathV at h
  simp only [Value.agg.injEq, Array.mk.injEq, List.cons.injEq, Value.int.injEq, true_and, and_true] at h
  omega
theorem kl_inj {p q p' q' : Nat} (hp : p < 16) (hq : q < 16) (hp' : p' < 16) (hq' : q' < 16) (h : kl p q = kl p' q') : p = p' ∧ q = q' :=
  pathV_inj (path_law.inj (kl_key hp hq) (by rw [h]; exact kl_key hp' hq'))
def upd2 (f : Nat → Nat → Nat) (p q v : Nat) : Nat → Nat → Nat := fun a b => if a = p ∧ b = q then v else f a b
abbrev MapO (w : World) (b n : Nat) (D : DataW Unit) : Prop := w.ownsMap Try.prog 89 (plainElem Try.prog 3) b n D
/-- Block b is a map of at most n entries; at the path p, q it has f p q. -/
def MapZ (w : World) (b n : Nat) (f : Nat → Nat → Nat) : Prop := ∃ D, MapO w b n D ∧ ∀ p q, p < 16 → q < 16 → D.atKey (kl p q) (.lit (.int .i64 0)) = .lit (.int .i64 (f p q : Int))
section
variable {w w' : World} {b n : Nat} {f : Nat → Nat → Nat}
theorem MapZ.mono {n' : Nat} (h : MapZ w b n f) (hn : n ≤ n') : MapZ w b n' f := by
  obtain ⟨D, h1, h2⟩ := h
  exact ⟨D, h1.mono hn, h2⟩
theorem MapZ.lt (h : MapZ w b n f) : b < w.heap.size := by
  obtain ⟨D, h1, _⟩ := h
  exact h1.lt
theorem MapZ.chg {S : Nat → Prop} (h : MapZ w b n f) (hc : Chg S w w') (hb : ¬ S b) : MapZ w' b n f := by
  obtain ⟨D, ⟨es, clock, h1, h2⟩, h3⟩ := h
  have hlt : b < w.heap.size := (Array.getElem?_eq_some_iff.1 h1).1
  exact ⟨D, ⟨es, clock, (hc.block b hlt hb).trans h1, h2⟩, h3⟩
theorem MapZ.congr {g : Nat → Nat → Nat} (h : MapZ w b n f) (he : ∀ p q, p < 16 → q < 16 → f p q = g p q) : MapZ w b n g := by
  obtain ⟨D, h1, h2⟩ := h
  exact ⟨D, h1, fun p q hp hq => by rw [h2 p q hp hq, he p q hp hq]⟩
theorem MapZ.made (w : World) : MapZ (w.alloc (.map #[] 0)) w.heap.size 0 (fun _ _ => 0) :=
  ⟨.map [], World.ownsMap_made w _ _ _, fun _ _ _ _ => rfl⟩
theorem MapZ.look (h : MapZ w b n f) {p q : Nat} (hp : p < 16) (hq : q < 16) : (Instr.lookup 79 (.map (some b)) (pathV p q) false).run Try.prog w = .ok (.int .i64 (f p q : Int)) w := by
  obtain ⟨D, h1, h2⟩ := h
  obtain ⟨c, hrun, hat, _⟩ := h1.lookup_int path_law u_map u_int' (zero_int w) (kl_key hp hq)
  rw [h2 p q hp hq] at hat
  simp only [DataW.lit.injEq, Lit.int.injEq, true_and] at hat
  rw [hrun, ← hat]
theorem MapZ.store (h : MapZ w b n f) {p q v : Nat} (hp : p < 16) (hq : q < 16) (hn : n < maxLen) (hv : v ≤ 9223372036854775807) :
    ∃ w', (Instr.mapUpdate 79 (.map (some b)) (pathV p q) (.int .i64 (v : Int))).run Try.prog w = .ok () w' ∧ MapZ w' b (n + 1) (upd2 f p q v) ∧ w.grownBy w' (some b) := by
  obtain ⟨D, h1, h2⟩ := h
  have hwf : (Lit.int .i64 (v : Int)).wf = true := WalkArith.wf_i64 (by omega)
  obtain ⟨w', hrun, hown, hg⟩ := h1.update path_law u_map hn (kl_key hp hq) (plainElem_int (H := Unit) u_int' hwf)
  refine ⟨w', hrun, ⟨_, hown, fun p' q' hp' hq' => ?_⟩, hg⟩
  unfold upd2
  by_cases he : p' = p ∧ q' = q
  · obtain ⟨rfl, rfl⟩ := he
    rw [if_pos ⟨rfl, rfl⟩]
    exact atKey_put_same h1.isMap (path_law.key (kl_key hp hq)) _ _
  · rw [if_neg he, atKey_put_other (fun e => he (kl_inj hp' hq' hp hq e)), h2 p' q' hp' hq']
theorem MapZ.drop (h : MapZ w b n f) {p q : Nat} (hp : p < 16) (hq : q < 16) (ty : TypeId) :
    ∃ w', (Builtin.delete_ #[79, 89] ty #[.map (some b), pathV p q]).run Try.prog w = .ok (.tuple #[]) w' ∧ MapZ w' b n (upd2 f p q 0) ∧ w.grownBy w' (some b) := by
  obtain ⟨D, h1, h2⟩ := h
  obtain ⟨w', hrun, hown, hg⟩ := h1.drop path_law u_map (kl_key hp hq) ty
  refine ⟨w', hrun, ⟨_, hown, fun p' q' hp' hq' => ?_⟩, hg.grown⟩
  unfold upd2
  by_cases he : p' = p ∧ q' = q
  · obtain ⟨rfl, rfl⟩ := he
    rw [if_pos ⟨rfl, rfl⟩]
    exact atKey_del_same _
  · rw [if_neg he, atKey_del_other (fun e => he (kl_inj hp' hq' hp hq e)), h2 p' q' hp' hq']
theorem MapZ.clear_ (h : MapZ w b n f) (ty : TypeId) :
    ∃ w', (Builtin.clear_ #[79] ty #[.map (some b)]).run Try.prog w = .ok (.tuple #[]) w' ∧ MapZ w' b 0 (fun _ _ => 0) ∧ w.grownBy w' (some b) := by
  obtain ⟨D, ⟨es, clock, hb, F, hs, hD⟩, h2⟩ := h
  refine ⟨ChangeMaps.setBlock w b (.map #[] clock), ?_, ⟨.map [], ⟨#[], clock, ChangeMaps.heap_setBlock_same hb _, ⟨by simp, MapKept.stamped_empty clock, by simp⟩, Nat.le_refl _, rfl⟩, fun _ _ _ _ => rfl⟩, ⟨rfl, rfl, rfl, by simp [ChangeMaps.setBlock], fun i _ hi => ChangeMaps.heap_setBlock_other hb _ (fun e => hi (by rw [e]))⟩⟩
  simp [Builtin.clear_, run_underlying u_map, MapKept.run_getObj_map hb, MapKept.run_setObj_map _ hb, Result.andThen]
  rfl
end
section
variable {w : World} {b n : Nat} {f : Nat → Nat → Nat} {ops : Array Oper} {rest : List Oper} {o : Oper} {a : Act} {Q : Exit → Act → World → Prop}
theorem mapPut (hg : o.guard = none) (m x v : Operand) (hop : o.op = Op.mapUpdate 79 m x v) (hm : a.eval m = .map (some b)) (h : MapZ w b n f) (hn : n < maxLen) {p q z : Nat} (hp : p < 16) (hq : q < 16) (hx : a.eval x = pathV p q) (hv : a.eval v = .int .i64 (z : Int)) (hz : z ≤ 9223372036854775807)
    (hK : ∀ w', MapZ w' b (n + 1) (upd2 f p q z) → w.grownBy w' (some b) → wpList Try.prog ops Q rest (a.put o.dst undef) w') : wpList Try.prog ops Q (o :: rest) a w := by
  refine wpList_plain hg fun K' hK' => ?_
  obtain ⟨w', hrun, r1, r2⟩ := h.store hp hq hn hz
  unfold Oper.wp
  simp [execOp, hop, hm, hx, hv, hrun, Result.andThen]
  exact hK' _ _ (hK w' r1 r2)
theorem mapDel (hg : o.guard = none) (m x : Operand) (hop : o.op = Op.call { callee := Callee.builtin Builtin.delete, args := #[m, x], argTypes := #[79, 89] }) (hm : a.eval m = .map (some b)) (h : MapZ w b n f) {p q : Nat} (hp : p < 16) (hq : q < 16) (hx : a.eval x = pathV p q)
    (hK : ∀ w', MapZ w' b n (upd2 f p q 0) → w.grownBy w' (some b) → wpList Try.prog ops Q rest (a.put o.dst (.tuple #[])) w') : wpList Try.prog ops Q (o :: rest) a w := by
  refine wpList_plain hg fun K' hK' => ?_
  obtain ⟨w', hrun, r1, r2⟩ := h.drop hp hq o.type
  unfold Oper.wp
  simp [execOp, hop, resolve, invoke, builtin, hm, hx, hrun, Result.andThen]
  exact hK' _ _ (hK w' r1 r2)
theorem mapClear (hg : o.guard = none) (m : Operand) (hop : o.op = Op.call { callee := Callee.builtin Builtin.clear, args := #[m], argTypes := #[79] }) (hm : a.eval m = .map (some b)) (h : MapZ w b n f)
    (hK : ∀ w', MapZ w' b 0 (fun _ _ => 0) → w.grownBy w' (some b) → wpList Try.prog ops Q rest (a.put o.dst (.tuple #[])) w') : wpList Try.prog ops Q (o :: rest) a w := by
  refine wpList_plain hg fun K' hK' => ?_
  obtain ⟨w', hrun, r1, r2⟩ := h.clear_ o.type
  unfold Oper.wp
  simp [execOp, hop, resolve, invoke, builtin, hm, hrun, Result.andThen]
  exact hK' _ _ (hK w' r1 r2)
end
end Go.Proofs.Ytgfhmfhhobhojaa
