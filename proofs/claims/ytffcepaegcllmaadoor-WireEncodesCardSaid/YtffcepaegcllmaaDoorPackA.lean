/-
  A packet with its lists elsewhere is as valid as before; a whole struct loaded in a drawn region.
-/
import Derived.Test.YtffcepaegcllmaaDoorPackT
import Derived.Deep.RegionHeld3
import Derived.Deep.MidRow
namespace Go.Proofs.YtffcepaegcllmaaDoor
open Go.RowKit
def Msg.kk (m : Msg) : Int × Int × Int × Nat := (m.s, m.q, m.t, m.n)
theorem kk_of_key {ml ml' : List Msg} (h : ml.map Msg.key = ml'.map Msg.key) (h1 : ∀ m ∈ ml, m.body.length = m.n) (h2 : ∀ m ∈ ml', m.body.length = m.n) : ml.map Msg.kk = ml'.map Msg.kk := by
  have e : ∀ l : List Msg, (∀ m ∈ l, m.body.length = m.n) → l.map Msg.kk = (l.map Msg.key).map (fun x => (x.1, x.2.1, x.2.2.1, x.2.2.2.length)) := fun l hl => by
    rw [List.map_map]
    exact List.map_congr_left (fun m hm => by simp [Msg.kk, Msg.key, hl m hm])
  rw [e ml h1, e ml' h2, h]
theorem step_alike {ml ml' : List Msg} (h : ml.map Msg.kk = ml'.map Msg.kk) (k : Nat) : stepB ml k = stepB ml' k := by
  have hk : ∀ i : Nat, (ml[i]?).map Msg.kk = (ml'[i]?).map Msg.kk := fun i => by rw [← List.getElem?_map, h, List.getElem?_map]
  have hb : ∀ {a b x y : Msg}, a.kk = b.kk → x.kk = y.kk → msgB a = msgB b ∧ beforeB x a = beforeB y b := fun ha hx => by
    simp only [Msg.kk, Prod.mk.injEq] at ha hx
    obtain ⟨a1, a2, a3, a4⟩ := ha
    obtain ⟨x1, x2, x3, x4⟩ := hx
    unfold msgB beforeB
    rw [a1, a2, a3, a4, x1, x2]
    exact ⟨rfl, rfl⟩
  unfold stepB
  have h1 := hk k
  cases ha : ml[k]? with
  | none =>
    rw [ha] at h1
    cases hb' : ml'[k]? with
    | none => rfl
    | some b => rw [hb'] at h1; cases h1
  | some a =>
    rw [ha] at h1
    cases hb' : ml'[k]? with
    | none => rw [hb'] at h1; cases h1
    | some b =>
      rw [hb'] at h1
      have hab : a.kk = b.kk := Option.some.inj h1
      dsimp only
      rw [(hb hab hab).1]
      congr 1
      by_cases hz : k = 0
      · rw [if_pos hz, if_pos hz]
      · rw [if_neg hz, if_neg hz]
        have h2 := hk (k - 1)
        cases hx : ml[k - 1]? with
        | none =>
          rw [hx] at h2
          cases hy : ml'[k - 1]? with
          | none => rfl
          | some y => rw [hy] at h2; cases h2
        | some x =>
          rw [hx] at h2
          cases hy : ml'[k - 1]? with
          | none => rw [hy] at h2; cases h2
          | some y =>
            rw [hy] at h2
            exact (hb hab (Option.some.inj h2)).2
theorem forward_alike {ml ml' : List Msg} (h : ml.map Msg.kk = ml'.map Msg.kk) (e l i c : Int) : forwardB e l i c ml = forwardB e l i c ml' := by
  have hl : ml.length = ml'.length := by rw [← List.length_map (f := Msg.kk), h, List.length_map]
  have hr : ∀ n, risK ml n = risK ml' n := fun n => by
    induction n with
    | zero => rfl
    | succ n ih => unfold risK; rw [ih, step_alike h n]
  unfold forwardB rises
  rw [hl, hr]
theorem valid_lay (p : Pk) {hA : Option Addr} {hc : Nat} {pA : Option Addr} {pc : Nat} {vA : Option Addr} {vc : Nat} {sA : Option Addr} {sc : Nat} {eA : Option Addr} {ec : Nat} {bA : Option Addr} {bc : Nat} {mA : Option Addr} {mc : Nat} (D : PkD) {ml : List Msg} (h : ml.map Msg.kk = D.msgs.map Msg.kk) : validB (p.lay hA hc pA pc vA vc sA sc eA ec bA bc mA mc) { D with msgs := ml } = validB p D := by
  have hk : kindB (p.lay hA hc pA pc vA vc sA sc eA ec bA bc mA mc) { D with msgs := ml } = kindB p D := by
    unfold kindB
    dsimp only [Pk.lay]
    rw [forward_alike h]
  unfold validB
  rw [hk]
  rfl
theorem PkIn.bodies {w : World} {B : Nat} {p : Pk} {D : PkD} (h : PkIn w B p D) : ∀ m ∈ D.msgs, m.body.length = m.n := fun m hm => (h.rm.2.1 m hm).rd.lenB
theorem codeB_bd (b : Bool) : -9223372036854775808 ≤ codeB b ∧ codeB b ≤ 9223372036854775807 := by cases b <;> decide
theorem blk_range {w : World} {g : Nat} {t : TypeId} {cs : Array Value} (h : Blk w g t cs) : w.rangeAt g 0 cs.toList := fun j v hv => by
  rw [Nat.zero_add, h.cell, ← Array.getElem?_toList]
  exact hv
theorem yields_load {P : Program} {ops : Array Oper} {S : World → Prop} {op : Oper} {a : Act} (hw : Region.wanted op (yielded ops a.tmps) = true) (ty : TypeId) (x : Operand) (ho : op.op = .load ty x)
    (g : Nat) (hx : a.eval x = .pointer (some ⟨g, 0, none⟩)) (cs : Array Value) (d : TypeDesc) {t : TypeId} (hS : ∀ w, S w → Blk w g t cs) (hu : P.underlying ty = some d) (hd : d.isRow = true) (hi : (P.info? ty).map (·.size) = some cs.size) : YieldsIf P ops S op (.agg cs) a := by
  have h := yieldsIf_load_mid (ops := ops) hw ty x ho g 0 hx cs.toList d (fun w hw' => blk_range (hS w hw')) hu hd (by rw [Array.length_toList]; exact hi)
  rw [Array.toArray_toList] at h
  exact h
end Go.Proofs.YtffcepaegcllmaaDoor
