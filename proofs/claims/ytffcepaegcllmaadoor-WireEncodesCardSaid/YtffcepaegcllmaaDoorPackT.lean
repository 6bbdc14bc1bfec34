/-
  The reference's Twin: a packet like the one given, all its lists in memory of their own.
-/
import Derived.Test.YtffcepaegcllmaaDoorPackP
import Derived.Test.YtffcepaegcllmaaDoorPackG
import Derived.Test.YtffcepaegcllmaaDoorTy
import Derived.Test.YtffcepaegcllmaaDoorInts
import Derived.Deep.CutBlock
namespace Go.Proofs.YtffcepaegcllmaaDoor
open Go.RowKit
theorem info_int : (Tryd.prog.info? 3).map (fun i => (i.zero, i.size, i.bytes)) = some (some (.int .i64 0), 1, 8) := by kernel_rfl
theorem info_slot : (Tryd.prog.info? 115).map (fun i => (i.zero, i.size, i.bytes)) = some (some (.agg #[.int .i64 0, .int .i64 0]), 2, 16) := by kernel_rfl
theorem info_data : (Tryd.prog.info? 82).map (fun i => (i.zero, i.size, i.bytes)) = some (some (.agg #[.int .i64 0, .int .i64 0, .int .i64 0, .slice none 0 0]), 4, 48) := by kernel_rfl
theorem u_slots : Tryd.prog.underlying 31 = some (.slice 115) := Tryd.underlying31
theorem u_datas : Tryd.prog.underlying 41 = some (.slice 82) := Tryd.underlying41
theorem appN2 {P : Program} {ops : Array Oper} {rest : List Oper} {o : Oper} {a : Act} {Q : Exit → Act → World → Prop} (W : World) (hgd : o.guard = none) (s x : Operand) (t : TypeId)
    (ho : o.op = .call { callee := .builtin .append, args := #[s, x], argTypes := #[t, t] })
    (base : Nat) (e : TypeId) (i : TypeInfo) (z : Value) (size bytes : Nat) (ht : P.underlying t = some (.slice e)) (hi : P.info? e = some i) (hz : i.zero = some z)
    (hsize : i.size = size) (hby : i.bytes = bytes) (hzs : z.cells.size = size) (hsz : 0 < size)
    (v : Value) (n : Nat) (xs : List Value) (hs : a.eval s = v) (hown : W.ownsRow base e size v n xs)
    (us : Array Value) (hu : us.size = size) (hx : a.eval x = .slice (some ⟨W.heap.size, 0, none⟩) 1 1) (h1 : ∀ u ∈ us.toList, u.oneCell' = true)
    (h63 : n + 1 ≤ maxLen) (hbytes : (n + 1) * bytes ≤ 140737488355328) (hbase : base ≤ W.heap.size)
    (h : ∀ v' w', w'.ownsRow base e size v' (n + 1) (xs ++ us.toList) → Below base W w' → W.grownBy w' v.ownBlock → (v'.ownBlock = v.ownBlock ∨ v'.ownBlock = some (W.heap.size + 1)) → wpList P ops Q rest (a.put o.dst v') w') :
    wpList P ops Q (o :: rest) a (W.alloc (.cells us e)) := by
  have hown2 : (W.alloc (.cells us e)).ownsRow base e size v n xs := hown.alloc _
  refine wpList_append_any (P := P) _ hgd s x t ho base e i z size bytes ht hi hz hsize hby hzs hsz v n xs hs hown2 (W.heap.size + 1) (some ⟨W.heap.size, 0, none⟩) 1 1 us.toList hx ?_ h1 h63 hbytes (by simp; omega) ?_
  · refine ⟨by simp [hu], fun _ => ⟨W.heap.size, 0, rfl, by omega, fun j y hj => ?_⟩⟩
    rw [Nat.zero_add, (Blk.new W e us).cell j, ← Array.getElem?_toList]
    exact hj
  · intro v' w' h2 h3 h4
    have hal : W.grownBy (W.alloc (.cells us e)) v.ownBlock := ⟨rfl, rfl, rfl, by simp, fun k hk _ => Below.heap_alloc _ _ _ hk⟩
    exact h v' w' h2 (((Below.refl _ _).alloc hbase _).trans (below_app hown2 h3 (by simp; omega)))
      ⟨h3.os.trans hal.os, h3.tape.trans hal.tape, h3.output.trans hal.output, Nat.le_trans hal.size h3.size, fun k hk hn => (h3.block k (by simp; omega) hn).trans (hal.block k hk hn)⟩ (by simpa using h4)
/-- Slots as their cells. -/
def rowsS (l : List (Int × Int)) : List Value := (l.map fun x => [Value.int .i64 x.1, Value.int .i64 x.2]).flatten
theorem rowsS_length (l : List (Int × Int)) : (rowsS l).length = l.length * 2 := by
  induction l with
  | nil => rfl
  | cons x r ih => simp [rowsS] at ih ⊢; omega
theorem rowsS_at {l : List (Int × Int)} {k : Nat} {x : Int × Int} (h : l[k]? = some x) : (rowsS l)[k * 2]? = some (.int .i64 x.1) ∧ (rowsS l)[k * 2 + 1]? = some (.int .i64 x.2) := by
  induction l generalizing k with
  | nil => simp at h
  | cons y r ih =>
    have e : rowsS (y :: r) = .int .i64 y.1 :: .int .i64 y.2 :: rowsS r := by simp [rowsS]
    rw [e]
    cases k with
    | zero =>
      simp at h
      subst h
      exact ⟨rfl, rfl⟩
    | succ k =>
      rw [List.getElem?_cons_succ] at h
      obtain ⟨a, b⟩ := ih h
      rw [show (k + 1) * 2 = k * 2 + 1 + 1 by omega]
      simp only [List.getElem?_cons_succ]
      exact ⟨a, b⟩
theorem rowsS_one (l : List (Int × Int)) : ∀ u ∈ rowsS l, u.oneCell' = true := by
  intro u hu
  simp only [rowsS, List.mem_flatten, List.mem_map] at hu
  obtain ⟨r, ⟨x, _, rfl⟩, hr⟩ := hu
  simp at hr
  rcases hr with rfl | rfl <;> rfl
/-- A list of slots is read as its cells. -/
theorem SlotsAt.rd {w : World} {B n : Nat} {A : Option Addr} {l : List (Int × Int)} (h : SlotsAt w B A n l) : Rd w B 2 A n (rowsS l) := by
  refine ⟨by rw [rowsS_length, h.1], fun hn => ?_⟩
  obtain ⟨b, off, e, hlt, hc⟩ := h.2 hn
  refine ⟨b, off, e, hlt, fun j u hu => ?_⟩
  have hj : j < l.length * 2 := by rw [← rowsS_length]; exact (List.getElem?_eq_some_iff.1 hu).1
  obtain ⟨x, hx⟩ : ∃ x, l[j / 2]? = some x := ⟨_, List.getElem?_eq_getElem (by omega)⟩
  obtain ⟨c1, c2⟩ := hc _ _ hx
  obtain ⟨r1, r2⟩ := rowsS_at hx
  by_cases h2 : j % 2 = 0
  · rw [show j = j / 2 * 2 by omega] at hu ⊢
    rw [r1] at hu
    cases hu
    exact c1
  · rw [show j = j / 2 * 2 + 1 by omega] at hu ⊢
    rw [r2] at hu
    cases hu
    rw [← Nat.add_assoc]
    exact c2
theorem SlotsAt.of_rd {w : World} {B n : Nat} {A : Option Addr} {l : List (Int × Int)} (h : Rd w B 2 A n (rowsS l)) : SlotsAt w B A n l := by
  have hl := h.1
  rw [rowsS_length] at hl
  refine ⟨by omega, fun hn => ?_⟩
  obtain ⟨b, off, e, hlt, hc⟩ := h.2 hn
  refine ⟨b, off, e, hlt, fun k x hx => ?_⟩
  obtain ⟨r1, r2⟩ := rowsS_at hx
  exact ⟨hc _ _ r1, by have := hc _ _ r2; rwa [← Nat.add_assoc] at this⟩
/-- A packet of nothing. -/
abbrev zeroCells : Array Value := #[.int .i64 0, .int .i64 0, .int .i64 0, .int .i64 0, .int .i64 0, .int .i64 0, .slice none 0 0, .slice none 0 0, .int .i64 0, .int .i64 0, .int .i64 0, .int .i64 0, .int .i64 0, .int .i64 0, .int .i64 0, .slice none 0 0, .int .i64 0, .int .i64 0, .int .i64 0, .int .i64 0, .int .i64 0, .slice none 0 0, .slice none 0 0, .int .i64 0, .int .i64 0, .int .i64 0, .int .i64 0, .int .i64 0, .int .i64 0, .int .i64 0, .int .i64 0, .int .i64 0, .int .i64 0, .int .i64 0, .slice none 0 0, .int .i64 0, .int .i64 0, .int .i64 0, .int .i64 0, .int .i64 0, .int .i64 0, .int .i64 0, .int .i64 0, .int .i64 0, .slice none 0 0]
/-- Twin under way: the packet given, the room for the answer, the packet that is made. -/
structure TwSt (w wr : World) (p q : Pk) : Prop where
  P : Blk wr w.heap.size 45 p.cells
  R : Blk wr (w.heap.size + 1) 45 zeroCells
  Q : Blk wr (w.heap.size + 2) 45 q.cells
  bw : Below w.heap.size w wr
theorem below_setRow {w : World} {B g : Nat} {cs : Array Value} (hg : B ≤ g) : Below B w (w.setRow g cs) := ⟨rfl, rfl, rfl, by simp, fun k hk => setRow_other w g k cs (by omega)⟩
theorem tw_start {w : World} {p : Pk} : TwSt w ((((w.alloc (.cells p.cells 45)).alloc (.cells zeroCells 45)).alloc (.cells zeroCells 45)).setRow (w.heap.size + 2) p.cells) p p := by
  obtain ⟨a, ha⟩ : ∃ a, a = w.alloc (.cells p.cells 45) := ⟨_, rfl⟩
  obtain ⟨b, hb⟩ : ∃ b, b = a.alloc (.cells zeroCells 45) := ⟨_, rfl⟩
  have sa : a.heap.size = w.heap.size + 1 := by rw [ha]; simp
  have sb : b.heap.size = w.heap.size + 2 := by rw [hb, World.size_alloc, sa]
  have hP : Blk a w.heap.size 45 p.cells := by rw [ha]; exact Blk.new _ _ _
  have hR : Blk b (w.heap.size + 1) 45 zeroCells := by rw [hb, ← sa]; exact Blk.new _ _ _
  have hPb : Blk b w.heap.size 45 p.cells := by rw [hb]; exact hP.alloc _
  have hQ := Blk.new b 45 zeroCells
  rw [sb] at hQ
  rw [← ha, ← hb]
  refine ⟨(setRow_other _ _ _ _ (by omega)).trans (hPb.alloc _), (setRow_other _ _ _ _ (by omega)).trans (hR.alloc _), setRow_heap _ _ _ _ _ _ hQ, ?_⟩
  refine Below.trans ?_ (below_setRow (by omega))
  rw [hb, ha]
  exact (((Below.refl _ _).alloc (Nat.le_refl _) _).alloc (by simp) _).alloc (by simp; omega) _
theorem TwSt.chg {w wr wr' : World} {p q q' : Pk} (h : TwSt w wr p q) (hc : Chg (fun k => k = w.heap.size + 2) wr wr') (hQ : Blk wr' (w.heap.size + 2) 45 q'.cells) : TwSt w wr' p q' :=
  ⟨h.P.chg hc (by omega), h.R.chg hc (by omega), hQ, h.bw.trans (hc.to_below h.bw.size fun k e => by omega)⟩
theorem own_far {w : World} {v : Value} {xs : List Value} {n base : Nat} {e : TypeId} {size : Nat} {u : Value} (h : w.ownsRow base e size v n xs) {a : Addr} (ha : ∀ g, v.ownBlock = some g → g ≠ a.block) : (w.setCell a u).ownsRow base e size v n xs :=
  own_chg h ((Chg.refl (fun k => k = a.block) w).setCell (.inl rfl) u) fun g hg => ha g hg
/-- A fresh list in one of the packet's fields. -/
theorem tw_step {W w' : World} {e : TypeId} {sz n g i : Nat} {A : Option Addr} {c : Nat} {xs : List Value} {cells : Array Value} (hQ : Blk W g 45 cells) (hg : (W.alloc (.cells #[] e)).grownBy w' (some W.heap.size)) (ho : w'.ownsRow W.heap.size e sz (.slice A n c) n xs) :
    Chg (fun k => k = g) W (w'.setCell ⟨g, i, none⟩ (.slice A n c)) ∧ Blk (w'.setCell ⟨g, i, none⟩ (.slice A n c)) g 45 (cells.setIfInBounds i (.slice A n c)) ∧ (w'.setCell ⟨g, i, none⟩ (.slice A n c)).ownsRow W.heap.size e sz (.slice A n c) n xs := by
  have hgl := hQ.lt
  have hQ' : Blk w' g 45 cells := (hQ.alloc _).grown hg (fun h => by injection h with h; omega)
  have hc := Chg.of_grown hg
  have hW : Chg (fun _ => False) W w' := ⟨hc.os, hc.tape, hc.output, Nat.le_trans (by simp) hc.size, fun k hk _ => (hc.block k (by simp; omega) (fun h => by injection h with h; omega)).trans (Below.heap_alloc _ _ _ hk)⟩
  refine ⟨⟨hW.os, hW.tape, hW.output, by simpa using hW.size, fun k hk hn => (Below.heap_setCell w' ⟨g, i, none⟩ _ k hn).trans (hW.block k hk id)⟩, hQ'.set_ i _, own_far ho fun g' hg' e' => by
    have := (own_block_lt ho hg').2.1
    have e2 : g' = g := e'
    omega⟩

/-- The same, the list from a call. -/
theorem tw_call {W w' : World} {e : TypeId} {sz n g i : Nat} {A : Option Addr} {c : Nat} {xs : List Value} {cells : Array Value} (hQ : Blk W g 45 cells) (hb : Below W.heap.size W w') (ho : w'.ownsRow W.heap.size e sz (.slice A n c) n xs) :
    Chg (fun k => k = g) W (w'.setCell ⟨g, i, none⟩ (.slice A n c)) ∧ Blk (w'.setCell ⟨g, i, none⟩ (.slice A n c)) g 45 (cells.setIfInBounds i (.slice A n c)) ∧ (w'.setCell ⟨g, i, none⟩ (.slice A n c)).ownsRow W.heap.size e sz (.slice A n c) n xs := by
  have hgl := hQ.lt
  refine ⟨⟨hb.os, hb.tape, hb.output, by simpa using hb.size, fun k hk hn => (Below.heap_setCell w' ⟨g, i, none⟩ _ k hn).trans (hb.block k hk)⟩, (hQ.over hb).set_ i _, own_far ho fun g' hg' e' => by
    have := (own_block_lt ho hg').2.1
    have e2 : g' = g := e'
    omega⟩
/-- Messages as their cells. -/
def Msg.cells (m : Msg) : List Value := [.int .i64 m.s, .int .i64 m.q, .int .i64 m.t, .slice m.A m.n m.cap]
def rowsM (l : List Msg) : List Value := (l.map Msg.cells).flatten
theorem rowsM_snoc (l : List Msg) (m : Msg) : rowsM (l ++ [m]) = rowsM l ++ m.cells := by simp [rowsM]
theorem rowsM_at {l : List Msg} {k i : Nat} {m : Msg} (h : l[k]? = some m) (hi : i < 4) : (rowsM l)[k * 4 + i]? = m.cells[i]? := by
  induction l generalizing k with
  | nil => simp at h
  | cons y r ih =>
    have e : rowsM (y :: r) = y.cells ++ rowsM r := by simp [rowsM]
    rw [e]
    cases k with
    | zero =>
      simp at h
      subst h
      rw [Nat.zero_mul, Nat.zero_add, List.getElem?_append_left (by simp [Msg.cells]; omega)]
    | succ k =>
      rw [List.getElem?_cons_succ] at h
      rw [List.getElem?_append_right (by simp [Msg.cells]; omega), ← ih h]
      congr 1
      simp [Msg.cells]
      omega
/-- Messages, their list and their bodies in memory of their own. -/
structure MsOwn (w : World) (base : Nat) (v : Value) (ml : List Msg) : Prop where
  own : w.ownsRow base 82 4 v ml.length (rowsM ml)
  bod : ∀ (k : Nat) (m : Msg), ml[k]? = some m → w.ownsRow base 5 1 (.slice m.A m.n m.cap) m.n (bvs m.body)
theorem MsOwn.chg {w w' : World} {base : Nat} {v : Value} {ml : List Msg} {S : Nat → Prop} (h : MsOwn w base v ml) (hc : Chg S w w') (hS : ∀ g, base ≤ g → g < w.heap.size → ¬ S g) : MsOwn w' base v ml :=
  ⟨own_chg h.own hc fun g hg => hS g (own_block_lt h.own hg).2.1 (own_block_lt h.own hg).1, fun k m hk => own_chg (h.bod k m hk) hc fun g hg => hS g (own_block_lt (h.bod k m hk) hg).2.1 (own_block_lt (h.bod k m hk) hg).1⟩
theorem MsOwn.snoc {w w' : World} {base : Nat} {v v2 : Value} {ml : List Msg} {m : Msg} (h : MsOwn w base v ml) (hc : Chg (fun k => some k = v.ownBlock) w w') (hw : w'.ownsRow base 82 4 v2 (ml.length + 1) (rowsM ml ++ m.cells)) (hx : w.ownsRow base 5 1 (.slice m.A m.n m.cap) m.n (bvs m.body)) : MsOwn w' base v2 (ml ++ [m]) := by
  have key : ∀ {n : Nat} {x : Value} {xs : List Value}, w.ownsRow base 5 1 x n xs → w'.ownsRow base 5 1 x n xs := fun ho => own_chg ho hc fun g hg e => by
    have h1 := own_isT ho hg
    have h2 := own_isT h.own e.symm
    exact absurd (h1.eq_ h2) (by decide)
  refine ⟨by rw [List.length_append, rowsM_snoc]; exact hw, fun k r hk => ?_⟩
  by_cases hl : k < ml.length
  · rw [List.getElem?_append_left hl] at hk
    exact key (h.bod k r hk)
  · have hk2 := (List.getElem?_eq_some_iff.1 hk).1
    rw [List.length_append] at hk2
    obtain rfl : k = ml.length := by simp at hk2; omega
    simp at hk
    subst hk
    exact key hx
theorem MsOwn.at_ {w : World} {base n c : Nat} {A : Option Addr} {ml : List Msg} (h : MsOwn w base (.slice A n c) ml) (hl : ml.length = n) (hsm : ∀ m ∈ ml, m.n ≤ 140737488351232) : MsgsAt w w.heap.size A n ml := by
  subst hl
  have hr : Rd w w.heap.size 4 A ml.length (rowsM ml) := Rd.of_own h.own
  refine ⟨rfl, fun m hm => ?_, fun hn => ?_⟩
  · obtain ⟨k, hk⟩ := List.getElem?_of_mem hm
    have ho := h.bod k m hk
    obtain ⟨A', cap', e, h1, h2⟩ := own_shape ho
    injection e with e1 e2 e3
    subst e1 e3
    exact ⟨Rd.of_own ho, h1, h2, hsm m hm⟩
  · obtain ⟨b, off, e, hlt, hc⟩ := hr.2 hn
    refine ⟨b, off, e, hlt, fun k m hk => ?_⟩
    have c : ∀ i, i < 4 → w.cell? ⟨b, off + (k * 4 + i), none⟩ = m.cells[i]? := fun i hi => by
      have hx := rowsM_at hk hi
      have hs : ∃ u, m.cells[i]? = some u := ⟨_, List.getElem?_eq_getElem (by simp [Msg.cells]; omega)⟩
      obtain ⟨u, hu⟩ := hs
      rw [hu] at hx ⊢
      exact hc _ _ hx
    exact ⟨by have := c 0 (by omega); simpa [Msg.cells] using this, by have := c 1 (by omega); rw [Nat.add_assoc]; exact this, by have := c 2 (by omega); rw [Nat.add_assoc]; exact this, by have := c 3 (by omega); rw [Nat.add_assoc]; exact this⟩
theorem tw_keep {w x x' : World} {e : TypeId} {sz n : Nat} {v : Value} {xs : List Value} (ho : x.ownsRow (w.heap.size + 3) e sz v n xs) (hc : Chg (fun k => k = w.heap.size + 2) x x') : x'.ownsRow (w.heap.size + 3) e sz v n xs :=
  own_chg ho hc fun g hg h => by
    have := (own_block_lt ho hg).2.1
    omega
theorem chg_setRow {w : World} {g : Nat} {cs : Array Value} : Chg (fun k => k = g) w (w.setRow g cs) := ⟨rfl, rfl, rfl, by simp, fun k _ hn => setRow_other w g k cs hn⟩
theorem tw_round {S : Nat → Prop} {x y z v : World} (h : Chg S x y) (h1 : Chg (fun _ => False) y z) (h2 : Below x.heap.size z v) : Chg S x v :=
  ⟨h2.os.trans (h1.os.trans h.os), h2.tape.trans (h1.tape.trans h.tape), h2.output.trans (h1.output.trans h.output), Nat.le_trans h.size (Nat.le_trans h1.size h2.size), fun k hk hn => (h2.block k hk).trans ((h1.block k (Nat.lt_of_lt_of_le hk h.size) id).trans (h.block k hk hn))⟩
/-- What Twin hands out. -/
def TwinP (w : World) (p : Pk) (D : PkD) (e : Ending) (w' : World) : Prop :=
  ∃ (hA : Option Addr) (hc : Nat) (pA : Option Addr) (pc : Nat) (vA : Option Addr) (vc : Nat) (sA : Option Addr) (sc : Nat) (eA : Option Addr) (ec : Nat) (bA : Option Addr) (bc : Nat) (mA : Option Addr) (mc : Nat) (ml : List Msg),
    e = .returned (.agg (p.lay hA hc pA pc vA vc sA sc eA ec bA bc mA mc).cells) ∧ Below w.heap.size w w' ∧ PkIn w' w'.heap.size (p.lay hA hc pA pc vA vc sA sc eA ec bA bc mA mc) { D with msgs := ml } ∧ D.msgs.map Msg.key = ml.map Msg.key
/-- A packet whose lists lie in memory of their own. -/
structure PkOwn (w : World) (base : Nat) (q : Pk) (D : PkD) : Prop where
  oh : w.ownsRow base 3 1 (.slice q.hA q.hn q.hc) q.hn (ivs D.hears)
  op : w.ownsRow base 3 1 (.slice q.pA q.pn q.pc) q.pn (ivs D.set)
  ov : w.ownsRow base 3 1 (.slice q.vA q.vn q.vc) q.vn (ivs D.vec)
  os : w.ownsRow base 115 2 (.slice q.sA q.sn q.sc) q.sn (rowsS D.slots)
  oe : w.ownsRow base 3 1 (.slice q.eA q.en q.ec) q.en (ivs D.got)
  ob : w.ownsRow base 5 1 (.slice q.bA q.bn q.bc) q.bn (bvs D.body)
  om : MsOwn w base (.slice q.mA q.mn q.mc) D.msgs
  lm : D.msgs.length = q.mn
  sm : ∀ m ∈ D.msgs, m.n ≤ 140737488351232
theorem PkOwn.in_ {w : World} {base : Nat} {q : Pk} {D : PkD} (h : PkOwn w base q D) : PkIn w w.heap.size q D :=
  ⟨Rd.of_own h.oh, Rd.of_own h.op, Rd.of_own h.ov, SlotsAt.of_rd (Rd.of_own h.os), Rd.of_own h.oe, Rd.of_own h.ob, h.om.at_ h.lm h.sm⟩
/-- What Twin hands out, the lists in memory of their own. -/
def TwinO (w : World) (p : Pk) (D : PkD) (e : Ending) (w' : World) : Prop :=
  ∃ (hA : Option Addr) (hc : Nat) (pA : Option Addr) (pc : Nat) (vA : Option Addr) (vc : Nat) (sA : Option Addr) (sc : Nat) (eA : Option Addr) (ec : Nat) (bA : Option Addr) (bc : Nat) (mA : Option Addr) (mc : Nat) (ml : List Msg),
    e = .returned (.agg (p.lay hA hc pA pc vA vc sA sc eA ec bA bc mA mc).cells) ∧ Below w.heap.size w w' ∧ PkOwn w' w.heap.size (p.lay hA hc pA pc vA vc sA sc eA ec bA bc mA mc) { D with msgs := ml } ∧ D.msgs.map Msg.key = ml.map Msg.key
/-- The lists' sizes. -/
structure PkSz (p : Pk) : Prop where
  hh : p.hn * 8 ≤ 140737488351232
  pp : p.pn * 8 ≤ 140737488351232
  vv : p.vn * 8 ≤ 140737488351232
  ss : p.sn * 16 ≤ 140737488351232
  ee : p.en * 8 ≤ 140737488351232
  bb : p.bn ≤ 140737488351232
  mm : p.mn * 48 ≤ 140737488351232
theorem PkSz.le {p : Pk} (h : PkSz p) : PkLe p := ⟨by have := h.hh; omega, by have := h.pp; omega, by have := h.vv; omega, by have := h.ss; omega, by have := h.ee; omega, h.bb, by have := h.mm; omega⟩

set_option maxRecDepth 100000 in
set_option maxHeartbeats 6400000 in
theorem TwinO_any (p : Pk) (D : PkD) (w : World) (hin : PkIn w w.heap.size p D) (hsz : PkSz p) :
    Calls Tryd.prog 10 #[.agg p.cells] w (TwinO w p D) := by
  have HIN : Hid (∀ W, Below w.heap.size w W → PkIn W w.heap.size p D) := Lib.hid fun W hW => hin.below hW
  have HSZ := Lib.hid hsz
  clear hin hsz
  obtain ⟨i0, hi0, hz0, hz1, hz2⟩ := info_parts info_int
  obtain ⟨i1, hi1, hy0, hy1, hy2⟩ := info_parts info_slot
  obtain ⟨i2, hi2, hx0, hx1, hx2⟩ := info_parts info_data
  go_enter Tryd.func10, Tryd.ntmps10
  go_upto_region 1 with fail
  obtain ⟨w2, hw2⟩ : ∃ x, x = (w.alloc (.cells p.cells 45)).alloc (.cells zeroCells 45) := ⟨_, rfl⟩
  rw [← hw2]
  have HP0 : Hid (Blk w2 w.heap.size 45 p.cells) := Lib.hid (by rw [hw2]; exact (Blk.new _ _ _).alloc _)
  have HQ0 : Hid (Blk (w2.alloc (.cells zeroCells 45)) w2.heap.size 45 zeroCells) := Lib.hid (Blk.new _ _ _)
  have HW2 := Lib.hid hw2
  clear hw2
  go_cut [3] from 6 to 75 (fun v wc => v = .pointer (some ⟨w.heap.size + 2, 0, none⟩) ∧ Hid (TwSt w wc p p))
  case first =>
    as_aux_lemma =>
      go_wp2_with (first | (refine wpList_load_on (by rfl) 45 _ (by rfl) w.heap.size (by rfl) 45 p.cells (0, 0) _ HP0.out Tryd.underlying45 rfl (by kernel_rfl) ?_; simp only [Act.put, List.setIfInBounds_toArray, List.set_cons_zero, List.set_cons_succ]) | (refine wpList_store_row (by rfl) 45 _ _ (by rfl) (w2.heap.size) p.cells (by rfl) (by rfl) 45 zeroCells HQ0.out (by kernel_rfl) rfl (by kernel_rfl) ?_; simp only [Act.put]))
      go_meet
      refine ⟨?_, ?_⟩
      · rw [HW2.out, World.size_alloc, World.size_alloc]
      · exact Lib.hid (by
          have h := tw_start (w := w) (p := p)
          rw [← HW2.out] at h
          have e : w2.heap.size = w.heap.size + 2 := by rw [HW2.out, World.size_alloc, World.size_alloc]
          rw [e]
          exact h)
  case rest =>
    obtain ⟨rfl, HT0⟩ := hcut
    clear HP0 HQ0 HW2
    apply_assumption
    rename World => x0

    have c6 : (x0.alloc (.cells #[] 3)).cell? ⟨w.heap.size, 6, none⟩ = some (.slice p.hA p.hn p.hc) := (HT0.out.P.alloc _).cell 6
    go_upto_region 2 with fail
    go_cut [] from 6 to 75 (fun wc => ∃ (hA : Option Addr) (hc : Nat), Hid (Chg (fun k => k = w.heap.size + 2) x0 wc ∧ Blk wc (w.heap.size + 2) 45 (p.lay hA hc p.pA p.pc p.vA p.vc p.sA p.sc p.eA p.ec p.bA p.bc p.mA p.mc).cells ∧ wc.ownsRow x0.heap.size 3 1 (.slice hA p.hn hc) p.hn (ivs D.hears)))
    case first =>
      as_aux_lemma =>
        go_wp2_with (at_builtin; (refine wpList_append_any _ rfl _ _ 24 (by rfl) x0.heap.size 3 i0 _ 1 8 u_ints hi0 hz0 hz1 hz2 rfl (by omega) _ 0 [] (by rfl) (ownsRow_empty x0 x0.heap.size 3 1 (Nat.le_refl _)) w.heap.size p.hA p.hn p.hc (ivs D.hears) (by rfl) (HIN.out _ (HT0.out.bw.alloc HT0.out.bw.size _)).rh (ivs_one D.hears) (by simp only [maxLen]; have := HSZ.out.hh; omega) (by have := HSZ.out.hh; omega) (by simp) ?_; intro v1 wa hown hg _; have hown2 : wa.ownsRow x0.heap.size 3 1 v1 p.hn (ivs D.hears) := (by simpa using hown); obtain ⟨A1, c1, rfl, _, _⟩ := own_shape hown2; have HG := Lib.hid (And.intro hg hown2); have hQa : Blk wa (w.heap.size + 2) 45 (p.lay p.hA p.hc p.pA p.pc p.vA p.vc p.sA p.sc p.eA p.ec p.bA p.bc p.mA p.mc).cells := (HT0.out.Q.alloc _).grown hg (fun h => by have h2 : w.heap.size + 2 = x0.heap.size := Option.some.inj h; have := HT0.out.Q.lt; omega); have z0 := hQa.cell 6; have z1 := hQa.frozen 6; clear hown hg hown2 hQa; go_simp))
        go_meet
        exact ⟨A1, c1, Lib.hid (tw_step (i := 6) HT0.out.Q HG.out.1 HG.out.2)⟩
    case rest =>
      obtain ⟨hA, hc, HC1⟩ := hcut
      clear c6
      apply_assumption
      rename World => x1
      have HOh : Hid (∀ W, Chg (fun k => k = w.heap.size + 2) x1 W → W.ownsRow (w.heap.size + 3) 3 1 (.slice hA p.hn hc) p.hn (ivs D.hears)) := Lib.hid fun W hW => tw_keep (own_base HC1.out.2.2 HT0.out.Q.lt) hW
      have HT1 := Lib.hid (HT0.out.chg HC1.out.1 HC1.out.2.1)
      clear HC1 HT0
      have c7 : (x1.alloc (.cells #[] 3)).cell? ⟨w.heap.size, 7, none⟩ = some (.slice p.pA p.pn p.pc) := (HT1.out.P.alloc _).cell 7
      go_upto_region 3 with fail
      go_cut [] from 6 to 75 (fun wc => ∃ (pA : Option Addr) (pc : Nat), Hid (Chg (fun k => k = w.heap.size + 2) x1 wc ∧ Blk wc (w.heap.size + 2) 45 (p.lay hA hc pA pc p.vA p.vc p.sA p.sc p.eA p.ec p.bA p.bc p.mA p.mc).cells ∧ wc.ownsRow x1.heap.size 3 1 (.slice pA p.pn pc) p.pn (ivs D.set)))
      case first =>
        as_aux_lemma =>
          go_wp2_with (at_builtin; (refine wpList_append_any _ rfl _ _ 24 (by rfl) x1.heap.size 3 i0 _ 1 8 u_ints hi0 hz0 hz1 hz2 rfl (by omega) _ 0 [] (by rfl) (ownsRow_empty x1 x1.heap.size 3 1 (Nat.le_refl _)) w.heap.size p.pA p.pn p.pc (ivs D.set) (by rfl) (HIN.out _ (HT1.out.bw.alloc HT1.out.bw.size _)).rp (ivs_one D.set) (by simp only [maxLen]; have := HSZ.out.pp; omega) (by have := HSZ.out.pp; omega) (by simp) ?_; intro v1 wa hown hg _; have hown2 : wa.ownsRow x1.heap.size 3 1 v1 p.pn (ivs D.set) := (by simpa using hown); obtain ⟨A1, c1, rfl, _, _⟩ := own_shape hown2; have HG := Lib.hid (And.intro hg hown2); have hQa : Blk wa (w.heap.size + 2) 45 (p.lay hA hc p.pA p.pc p.vA p.vc p.sA p.sc p.eA p.ec p.bA p.bc p.mA p.mc).cells := (HT1.out.Q.alloc _).grown hg (fun h => by have h2 : w.heap.size + 2 = x1.heap.size := Option.some.inj h; have := HT1.out.Q.lt; omega); have z0 := hQa.cell 7; have z1 := hQa.frozen 7; clear hown hg hown2 hQa; go_simp))
          go_meet
          exact ⟨A1, c1, Lib.hid (tw_step (i := 7) HT1.out.Q HG.out.1 HG.out.2)⟩
      case rest =>
        obtain ⟨pA, pc, HC2⟩ := hcut
        clear c7
        apply_assumption
        rename World => x2
        replace HOh : Hid (∀ W, Chg (fun k => k = w.heap.size + 2) x2 W → _) := Lib.hid fun W hW => HOh.out W (HC2.out.1.trans hW)
        have HOp : Hid (∀ W, Chg (fun k => k = w.heap.size + 2) x2 W → W.ownsRow (w.heap.size + 3) 3 1 (.slice pA p.pn pc) p.pn (ivs D.set)) := Lib.hid fun W hW => tw_keep (own_base HC2.out.2.2 HT1.out.Q.lt) hW
        have HT2 := Lib.hid (HT1.out.chg HC2.out.1 HC2.out.2.1)
        clear HC2 HT1
        have c15 : (x2.alloc (.cells #[] 3)).cell? ⟨w.heap.size, 15, none⟩ = some (.slice p.vA p.vn p.vc) := (HT2.out.P.alloc _).cell 15
        go_upto_region 4 with fail
        go_cut [] from 6 to 75 (fun wc => ∃ (vA : Option Addr) (vc : Nat), Hid (Chg (fun k => k = w.heap.size + 2) x2 wc ∧ Blk wc (w.heap.size + 2) 45 (p.lay hA hc pA pc vA vc p.sA p.sc p.eA p.ec p.bA p.bc p.mA p.mc).cells ∧ wc.ownsRow x2.heap.size 3 1 (.slice vA p.vn vc) p.vn (ivs D.vec)))
        case first =>
          as_aux_lemma =>
            go_wp2_with (at_builtin; (refine wpList_append_any _ rfl _ _ 24 (by rfl) x2.heap.size 3 i0 _ 1 8 u_ints hi0 hz0 hz1 hz2 rfl (by omega) _ 0 [] (by rfl) (ownsRow_empty x2 x2.heap.size 3 1 (Nat.le_refl _)) w.heap.size p.vA p.vn p.vc (ivs D.vec) (by rfl) (HIN.out _ (HT2.out.bw.alloc HT2.out.bw.size _)).rv (ivs_one D.vec) (by simp only [maxLen]; have := HSZ.out.vv; omega) (by have := HSZ.out.vv; omega) (by simp) ?_; intro v1 wa hown hg _; have hown2 : wa.ownsRow x2.heap.size 3 1 v1 p.vn (ivs D.vec) := (by simpa using hown); obtain ⟨A1, c1, rfl, _, _⟩ := own_shape hown2; have HG := Lib.hid (And.intro hg hown2); have hQa : Blk wa (w.heap.size + 2) 45 (p.lay hA hc pA pc p.vA p.vc p.sA p.sc p.eA p.ec p.bA p.bc p.mA p.mc).cells := (HT2.out.Q.alloc _).grown hg (fun h => by have h2 : w.heap.size + 2 = x2.heap.size := Option.some.inj h; have := HT2.out.Q.lt; omega); have z0 := hQa.cell 15; have z1 := hQa.frozen 15; clear hown hg hown2 hQa; go_simp))
            go_meet
            exact ⟨A1, c1, Lib.hid (tw_step (i := 15) HT2.out.Q HG.out.1 HG.out.2)⟩
        case rest =>
          obtain ⟨vA, vc, HC3⟩ := hcut
          clear c15
          apply_assumption
          rename World => x3
          replace HOh : Hid (∀ W, Chg (fun k => k = w.heap.size + 2) x3 W → _) := Lib.hid fun W hW => HOh.out W (HC3.out.1.trans hW)
          replace HOp : Hid (∀ W, Chg (fun k => k = w.heap.size + 2) x3 W → _) := Lib.hid fun W hW => HOp.out W (HC3.out.1.trans hW)
          have HOv : Hid (∀ W, Chg (fun k => k = w.heap.size + 2) x3 W → W.ownsRow (w.heap.size + 3) 3 1 (.slice vA p.vn vc) p.vn (ivs D.vec)) := Lib.hid fun W hW => tw_keep (own_base HC3.out.2.2 HT2.out.Q.lt) hW
          have HT3 := Lib.hid (HT2.out.chg HC3.out.1 HC3.out.2.1)
          clear HC3 HT2
          have c21 : (x3.alloc (.cells #[] 115)).cell? ⟨w.heap.size, 21, none⟩ = some (.slice p.sA p.sn p.sc) := (HT3.out.P.alloc _).cell 21
          go_upto_region 5 with fail
          go_cut [] from 6 to 75 (fun wc => ∃ (sA : Option Addr) (sc : Nat), Hid (Chg (fun k => k = w.heap.size + 2) x3 wc ∧ Blk wc (w.heap.size + 2) 45 (p.lay hA hc pA pc vA vc sA sc p.eA p.ec p.bA p.bc p.mA p.mc).cells ∧ wc.ownsRow x3.heap.size 115 2 (.slice sA p.sn sc) p.sn (rowsS D.slots)))
          case first =>
            as_aux_lemma =>
              go_wp2_with (at_builtin; (refine wpList_append_any _ rfl _ _ 31 (by rfl) x3.heap.size 115 i1 _ 2 16 u_slots hi1 hy0 hy1 hy2 rfl (by omega) _ 0 [] (by rfl) (ownsRow_empty x3 x3.heap.size 115 2 (Nat.le_refl _)) w.heap.size p.sA p.sn p.sc (rowsS D.slots) (by rfl) (HIN.out _ (HT3.out.bw.alloc HT3.out.bw.size _)).rs.rd (rowsS_one D.slots) (by simp only [maxLen]; have := HSZ.out.ss; omega) (by have := HSZ.out.ss; omega) (by simp) ?_; intro v1 wa hown hg _; have hown2 : wa.ownsRow x3.heap.size 115 2 v1 p.sn (rowsS D.slots) := (by simpa using hown); obtain ⟨A1, c1, rfl, _, _⟩ := own_shape hown2; have HG := Lib.hid (And.intro hg hown2); have hQa : Blk wa (w.heap.size + 2) 45 (p.lay hA hc pA pc vA vc p.sA p.sc p.eA p.ec p.bA p.bc p.mA p.mc).cells := (HT3.out.Q.alloc _).grown hg (fun h => by have h2 : w.heap.size + 2 = x3.heap.size := Option.some.inj h; have := HT3.out.Q.lt; omega); have z0 := hQa.cell 21; have z1 := hQa.frozen 21; clear hown hg hown2 hQa; go_simp))
              go_meet
              exact ⟨A1, c1, Lib.hid (tw_step (i := 21) HT3.out.Q HG.out.1 HG.out.2)⟩
          case rest =>
            obtain ⟨sA, sc, HC4⟩ := hcut
            clear c21
            apply_assumption
            rename World => x4
            replace HOh : Hid (∀ W, Chg (fun k => k = w.heap.size + 2) x4 W → _) := Lib.hid fun W hW => HOh.out W (HC4.out.1.trans hW)
            replace HOp : Hid (∀ W, Chg (fun k => k = w.heap.size + 2) x4 W → _) := Lib.hid fun W hW => HOp.out W (HC4.out.1.trans hW)
            replace HOv : Hid (∀ W, Chg (fun k => k = w.heap.size + 2) x4 W → _) := Lib.hid fun W hW => HOv.out W (HC4.out.1.trans hW)
            have HOs : Hid (∀ W, Chg (fun k => k = w.heap.size + 2) x4 W → W.ownsRow (w.heap.size + 3) 115 2 (.slice sA p.sn sc) p.sn (rowsS D.slots)) := Lib.hid fun W hW => tw_keep (own_base HC4.out.2.2 HT3.out.Q.lt) hW
            have HT4 := Lib.hid (HT3.out.chg HC4.out.1 HC4.out.2.1)
            clear HC4 HT3
            have c22 : (x4.alloc (.cells #[] 3)).cell? ⟨w.heap.size, 22, none⟩ = some (.slice p.eA p.en p.ec) := (HT4.out.P.alloc _).cell 22
            go_upto_region 6 with fail
            go_cut [] from 6 to 75 (fun wc => ∃ (eA : Option Addr) (ec : Nat), Hid (Chg (fun k => k = w.heap.size + 2) x4 wc ∧ Blk wc (w.heap.size + 2) 45 (p.lay hA hc pA pc vA vc sA sc eA ec p.bA p.bc p.mA p.mc).cells ∧ wc.ownsRow x4.heap.size 3 1 (.slice eA p.en ec) p.en (ivs D.got)))
            case first =>
              as_aux_lemma =>
                go_wp2_with (at_builtin; (refine wpList_append_any _ rfl _ _ 24 (by rfl) x4.heap.size 3 i0 _ 1 8 u_ints hi0 hz0 hz1 hz2 rfl (by omega) _ 0 [] (by rfl) (ownsRow_empty x4 x4.heap.size 3 1 (Nat.le_refl _)) w.heap.size p.eA p.en p.ec (ivs D.got) (by rfl) (HIN.out _ (HT4.out.bw.alloc HT4.out.bw.size _)).re (ivs_one D.got) (by simp only [maxLen]; have := HSZ.out.ee; omega) (by have := HSZ.out.ee; omega) (by simp) ?_; intro v1 wa hown hg _; have hown2 : wa.ownsRow x4.heap.size 3 1 v1 p.en (ivs D.got) := (by simpa using hown); obtain ⟨A1, c1, rfl, _, _⟩ := own_shape hown2; have HG := Lib.hid (And.intro hg hown2); have hQa : Blk wa (w.heap.size + 2) 45 (p.lay hA hc pA pc vA vc sA sc p.eA p.ec p.bA p.bc p.mA p.mc).cells := (HT4.out.Q.alloc _).grown hg (fun h => by have h2 : w.heap.size + 2 = x4.heap.size := Option.some.inj h; have := HT4.out.Q.lt; omega); have z0 := hQa.cell 22; have z1 := hQa.frozen 22; clear hown hg hown2 hQa; go_simp))
                go_meet
                exact ⟨A1, c1, Lib.hid (tw_step (i := 22) HT4.out.Q HG.out.1 HG.out.2)⟩
            case rest =>
              obtain ⟨eA, ec, HC5⟩ := hcut
              clear c22
              apply_assumption
              rename World => x5
              replace HOh : Hid (∀ W, Chg (fun k => k = w.heap.size + 2) x5 W → _) := Lib.hid fun W hW => HOh.out W (HC5.out.1.trans hW)
              replace HOp : Hid (∀ W, Chg (fun k => k = w.heap.size + 2) x5 W → _) := Lib.hid fun W hW => HOp.out W (HC5.out.1.trans hW)
              replace HOv : Hid (∀ W, Chg (fun k => k = w.heap.size + 2) x5 W → _) := Lib.hid fun W hW => HOv.out W (HC5.out.1.trans hW)
              replace HOs : Hid (∀ W, Chg (fun k => k = w.heap.size + 2) x5 W → _) := Lib.hid fun W hW => HOs.out W (HC5.out.1.trans hW)
              have HOe : Hid (∀ W, Chg (fun k => k = w.heap.size + 2) x5 W → W.ownsRow (w.heap.size + 3) 3 1 (.slice eA p.en ec) p.en (ivs D.got)) := Lib.hid fun W hW => tw_keep (own_base HC5.out.2.2 HT4.out.Q.lt) hW
              have HT5 := Lib.hid (HT4.out.chg HC5.out.1 HC5.out.2.1)
              clear HC5 HT4
              have c34 : x5.cell? ⟨w.heap.size, 34, none⟩ = some (.slice p.bA p.bn p.bc) := HT5.out.P.cell 34
              have HCP := Lib.hid (Copied_any p.bA p.bn p.bc D.body x5 ((HIN.out _ HT5.out.bw).rb.more HT5.out.bw.size) (by have := HSZ.out.bb; omega))
              go_upto_region 7 with fail
              go_cut [] from 6 to 75 (fun wc => ∃ (bA : Option Addr) (bc : Nat), Hid (Chg (fun k => k = w.heap.size + 2) x5 wc ∧ Blk wc (w.heap.size + 2) 45 (p.lay hA hc pA pc vA vc sA sc eA ec bA bc p.mA p.mc).cells ∧ wc.ownsRow x5.heap.size 5 1 (.slice bA p.bn bc) p.bn (bvs D.body)))
              case first =>
                as_aux_lemma =>
                  go_wp2_with (go_at_call 31; (refine HCP.out.mono ?_; rintro _ wa ⟨v1, rfl, hown, hb⟩; obtain ⟨A1, c1, rfl, _, _⟩ := own_shape hown; have HG := Lib.hid (And.intro hb hown); have hQa : Blk wa (w.heap.size + 2) 45 (p.lay hA hc pA pc vA vc sA sc eA ec p.bA p.bc p.mA p.mc).cells := HT5.out.Q.over hb; have z0 := hQa.cell 34; have z1 := hQa.frozen 34; clear hown hb hQa; go_simp))
                  go_meet
                  exact ⟨A1, c1, Lib.hid (tw_call (i := 34) HT5.out.Q HG.out.1 HG.out.2)⟩
              case rest =>
                obtain ⟨bA, bc, HC6⟩ := hcut
                clear c34 HCP
                apply_assumption
                rename World => x6
                replace HOh : Hid (∀ W, Chg (fun k => k = w.heap.size + 2) x6 W → _) := Lib.hid fun W hW => HOh.out W (HC6.out.1.trans hW)
                replace HOp : Hid (∀ W, Chg (fun k => k = w.heap.size + 2) x6 W → _) := Lib.hid fun W hW => HOp.out W (HC6.out.1.trans hW)
                replace HOv : Hid (∀ W, Chg (fun k => k = w.heap.size + 2) x6 W → _) := Lib.hid fun W hW => HOv.out W (HC6.out.1.trans hW)
                replace HOs : Hid (∀ W, Chg (fun k => k = w.heap.size + 2) x6 W → _) := Lib.hid fun W hW => HOs.out W (HC6.out.1.trans hW)
                replace HOe : Hid (∀ W, Chg (fun k => k = w.heap.size + 2) x6 W → _) := Lib.hid fun W hW => HOe.out W (HC6.out.1.trans hW)
                have HOb : Hid (∀ W, Chg (fun k => k = w.heap.size + 2) x6 W → W.ownsRow (w.heap.size + 3) 5 1 (.slice bA p.bn bc) p.bn (bvs D.body)) := Lib.hid fun W hW => tw_keep (own_base HC6.out.2.2 HT5.out.Q.lt) hW
                have HT6 := Lib.hid (HT5.out.chg HC6.out.1 HC6.out.2.1)
                clear HC6 HT5
                have z0 := HT6.out.Q.cell 44
                have z1 := HT6.out.Q.frozen 44
                go_upto_region 8 with fail
                go_cut [] from 6 to 75 (fun wc => Hid (Chg (fun k => k = w.heap.size + 2) x6 wc ∧ Blk wc (w.heap.size + 2) 45 (Pk.cells { (p.lay hA hc pA pc vA vc sA sc eA ec bA bc p.mA p.mc) with mA := none, mn := 0, mc := 0 })))
                case first =>
                  as_aux_lemma =>
                    go_wp2_with fail
                    go_meet
                    exact Lib.hid ⟨(Chg.refl (fun k => k = w.heap.size + 2) x6).setCell (.inl rfl) _, HT6.out.Q.set_ 44 _⟩
                case rest =>
                  have HC7 := hcut
                  clear hcut z0 z1
                  apply_assumption
                  rename World => x7
                  replace HOh : Hid (∀ W, Chg (fun k => k = w.heap.size + 2) x7 W → _) := Lib.hid fun W hW => HOh.out W (HC7.out.1.trans hW)
                  replace HOp : Hid (∀ W, Chg (fun k => k = w.heap.size + 2) x7 W → _) := Lib.hid fun W hW => HOp.out W (HC7.out.1.trans hW)
                  replace HOv : Hid (∀ W, Chg (fun k => k = w.heap.size + 2) x7 W → _) := Lib.hid fun W hW => HOv.out W (HC7.out.1.trans hW)
                  replace HOs : Hid (∀ W, Chg (fun k => k = w.heap.size + 2) x7 W → _) := Lib.hid fun W hW => HOs.out W (HC7.out.1.trans hW)
                  replace HOe : Hid (∀ W, Chg (fun k => k = w.heap.size + 2) x7 W → _) := Lib.hid fun W hW => HOe.out W (HC7.out.1.trans hW)
                  replace HOb : Hid (∀ W, Chg (fun k => k = w.heap.size + 2) x7 W → _) := Lib.hid fun W hW => HOb.out W (HC7.out.1.trans hW)
                  have HT7 := Lib.hid (HT6.out.chg HC7.out.1 HC7.out.2)
                  clear HC7 HT6
                  have HLN : Hid (D.msgs.length = p.mn) := Lib.hid (HIN.out x7 HT7.out.bw).rm.1
                  go_wp2_with fail
                  go_loopw [4, 5] (fun i _ wr => ∃ (j : Nat) (mA : Option Addr) (mc : Nat) (ml : List Msg), j ≤ p.mn ∧ i = .int .i64 (j : Int) ∧ Hid (Blk wr (w.heap.size + 2) 45 (Pk.cells { (p.lay hA hc pA pc vA vc sA sc eA ec bA bc p.mA p.mc) with mA := mA, mn := j, mc := mc }) ∧ MsOwn wr x7.heap.size (.slice mA j mc) ml ∧ ml.map Msg.key = (D.msgs.take j).map Msg.key ∧ Chg (fun k => k = w.heap.size + 2) x7 wr ∧ ∀ m ∈ ml, m.n ≤ 140737488351232)) (fun i _ _ => p.mn - (intOf i).toNat)
                  case atStart => exact ⟨0, none, 0, [], by omega, rfl, Lib.hid ⟨HT7.out.Q, ⟨⟨by simp [rowsM], .inl ⟨rfl, rfl⟩⟩, fun k m h => by simp at h⟩, by simp, Chg.refl _ _, fun m h => by cases h⟩⟩
                  case round =>
                    obtain ⟨j, mA, mc, ml, hj, rfl, HJ⟩ := hrel
                    have HTr : Hid (TwSt w wr p { (p.lay hA hc pA pc vA vc sA sc eA ec bA bc p.mA p.mc) with mA := mA, mn := j, mc := mc }) := Lib.hid (HT7.out.chg HJ.out.2.2.2.1 HJ.out.1)
                    have hml : ml.length = j := by rw [← List.length_map (f := Msg.key), HJ.out.2.2.1, List.length_map, List.length_take, HLN.out]; omega
                    have HML := Lib.hid hml
                    clear hml
                    have hpb : p.mn ≤ 140737488351232 := by have := HSZ.out.mm; omega
                    have y44 : wr.cell? ⟨w.heap.size, 44, none⟩ = some (.slice p.mA p.mn p.mc) := HTr.out.P.cell 44
                    by_cases hlt : j < p.mn
                    · have hI : (j : Int) < (p.mn : Int) := by omega
                      obtain ⟨m, hm⟩ : ∃ m, D.msgs[j]? = some m := ⟨_, List.getElem?_eq_getElem (by rw [HLN.out]; exact hlt)⟩
                      obtain ⟨b, off, he, hbl, hcl⟩ := (HIN.out wr HTr.out.bw).rm.2.2 (by omega)
                      obtain ⟨m0, m1, m2, m3⟩ := hcl j m hm
                      have HM := Lib.hid ((HIN.out wr HTr.out.bw).rm.2.1 m (List.mem_of_getElem? hm))
                      have HMJ := Lib.hid hm
                      rw [he] at y44
                      clear hm hcl he
                      obtain ⟨wd, hwd⟩ : ∃ x, x = wr.alloc (.cells #[.int .i64 m.s, .int .i64 m.q, .int .i64 m.t, .slice m.A m.n m.cap] 82) := ⟨_, rfl⟩
                      have HD0 : Hid (Blk wd wr.heap.size 82 #[.int .i64 m.s, .int .i64 m.q, .int .i64 m.t, .slice m.A m.n m.cap]) := Lib.hid (by rw [hwd]; exact Blk.new _ _ _)
                      have HBd : Hid (Below wr.heap.size wr wd ∧ wd.heap.size = wr.heap.size + 1) := Lib.hid ⟨by rw [hwd]; exact one_box _ _, by rw [hwd]; simp⟩
                      have HWD := Lib.hid hwd
                      have HCP := Lib.hid (Copied_any m.A m.n m.cap m.body wd ((HM.out.rd.below (HBd.out.1.mono HTr.out.bw.size)).more (Nat.le_trans HTr.out.bw.size HBd.out.1.size)) (by have := HM.out.sm; omega))
                      clear hwd
                      go_upto_block 1 with fail
                      refine wp_block ?_
                      go_upto_region 14 with (rw [← HWD.out]; go_at_call 31; (refine HCP.out.mono ?_; rintro _ wb ⟨v2, rfl, ho2, hb2⟩; obtain ⟨A2, c2, rfl, _, hcm⟩ := own_shape ho2; have H2 := Lib.hid (And.intro ho2 (And.intro hb2 hcm)); have hDb := HD0.out.over hb2; have z0 := hDb.cell 3; have z1 := hDb.frozen 3; clear ho2 hb2 hDb hcm; go_simp))
                      clear z0 z1 y44 m0 m1 m2 m3
                      obtain ⟨wc, hwc⟩ : ∃ x, x = wb.setCell ⟨wr.heap.size, 3, none⟩ (.slice A2 m.n c2) := ⟨_, rfl⟩
                      rw [← hwc]
                      have HDc : Hid (Blk wc wr.heap.size 82 #[.int .i64 m.s, .int .i64 m.q, .int .i64 m.t, .slice A2 m.n c2]) := Lib.hid (by rw [hwc]; exact (HD0.out.over H2.out.2.1).set_ 3 _)
                      have HCc : Hid (Chg (fun _ => False) wr wc) := Lib.hid (by rw [hwc]; exact (Chg.of_below (Below.then HBd.out.1 H2.out.2.1) _).setCell (.inr (Nat.le_refl _)) _)
                      have HQc : Hid (Blk wc (w.heap.size + 2) 45 (Pk.cells { (p.lay hA hc pA pc vA vc sA sc eA ec bA bc p.mA p.mc) with mA := mA, mn := j, mc := mc })) := Lib.hid (HTr.out.Q.chg HCc.out id)
                      have HMc : Hid (MsOwn wc x7.heap.size (.slice mA j mc) ml) := Lib.hid (HJ.out.2.1.chg HCc.out fun _ _ _ h => h)
                      have HOc : Hid (wc.ownsRow x7.heap.size 5 1 (.slice A2 m.n c2) m.n (bvs m.body)) := Lib.hid (by rw [hwc]; exact own_base (own_far H2.out.1 fun g hg e => by have h1 := (own_block_lt H2.out.1 hg).2.1; have e2 : g = wr.heap.size := e; have := HBd.out.2; omega) (Nat.le_trans HJ.out.2.2.2.1.size HBd.out.1.size))
                      clear hwc
                      have HX : Hid (w.heap.size + 2 < x7.heap.size ∧ x7.heap.size ≤ wc.heap.size) := Lib.hid ⟨HT7.out.Q.lt, Nat.le_trans HJ.out.2.2.2.1.size HCc.out.size⟩
                      have e44 : wc.cell? ⟨w.heap.size + 2, 44, none⟩ = some (.slice mA j mc) := HQc.out.cell 44
                      have d0 : wc.cell? ⟨wr.heap.size, 0, none⟩ = some (.int .i64 m.s) := HDc.out.cell 0
                      have d1 : wc.cell? ⟨wr.heap.size, 1, none⟩ = some (.int .i64 m.q) := HDc.out.cell 1
                      have d2 : wc.cell? ⟨wr.heap.size, 2, none⟩ = some (.int .i64 m.t) := HDc.out.cell 2
                      have d3 : wc.cell? ⟨wr.heap.size, 3, none⟩ = some (.slice A2 m.n c2) := HDc.out.cell 3
                      go_wp2_with (at_builtin; (refine appN2 wc (by rfl) _ _ 41 (by rfl) x7.heap.size 82 i2 _ 4 48 u_datas hi2 hx0 hx1 hx2 rfl (by omega) _ j (rowsM ml) (by rfl) (by have h := HMc.out.own; rw [HML.out] at h; exact h) #[.int .i64 m.s, .int .i64 m.q, .int .i64 m.t, .slice A2 m.n c2] rfl (by rfl) (by simp; exact ⟨rfl, rfl, rfl, rfl⟩) (by simp only [maxLen]; have := HSZ.out.mm; omega) (by have := HSZ.out.mm; omega) HX.out.2 ?_; intro v3 w3 ho3 hb3 hg3 _; obtain ⟨A3, c3, rfl, _, _⟩ := own_shape ho3; have H3 := Lib.hid (And.intro ho3 (And.intro hb3 hg3)); have hQ3 := HQc.out.below hb3 HX.out.1; have z0 := hQ3.cell 44; have z1 := hQ3.frozen 44; clear ho3 hb3 hg3 hQ3; go_simp))
                      go_roundw
                      case rel =>
                        have hQ3 := HQc.out.below H3.out.2.1 HX.out.1
                        have hs := MsOwn.snoc (m := ⟨m.s, m.q, m.t, A2, m.n, c2, m.body⟩) HMc.out (Chg.of_grown H3.out.2.2) (by rw [HML.out]; exact H3.out.1) HOc.out
                        refine ⟨j + 1, A3, c3, ml ++ [⟨m.s, m.q, m.t, A2, m.n, c2, m.body⟩], by omega, by go_num, Lib.hid ⟨hQ3.set_ 44 _, hs.chg ((Chg.refl (fun k => k = w.heap.size + 2) w3).setCell (.inl rfl) _) (fun g h1 _ e => by have := HX.out.1; have e2 : g = w.heap.size + 2 := e; omega), ?_, (tw_round HJ.out.2.2.2.1 HCc.out H3.out.2.1).setCell (.inl rfl) _, ?_⟩⟩
                        · rw [List.map_append, HJ.out.2.2.1, List.take_add_one, HMJ.out, List.map_append]; rfl
                        · intro m1 hm1
                          rcases List.mem_append.1 hm1 with h | h
                          · exact HJ.out.2.2.2.2 m1 h
                          · rw [List.mem_singleton] at h; subst h; exact HM.out.sm
                      case measure => simp [intOf] <;> omega
                    · obtain rfl : j = p.mn := by omega
                      have hI : ¬ (p.mn : Int) < (p.mn : Int) := by omega
                      have hD : decide ((p.mn : Int) < (p.mn : Int)) = false := by simp
                      have HFIN : Hid (TwinO w p D (.returned (.agg (Pk.cells { (p.lay hA hc pA pc vA vc sA sc eA ec bA bc p.mA p.mc) with mA := mA, mn := p.mn, mc := mc }))) (wr.setRow (w.heap.size + 1) (Pk.cells { (p.lay hA hc pA pc vA vc sA sc eA ec bA bc p.mA p.mc) with mA := mA, mn := p.mn, mc := mc }))) := Lib.hid (by
                        have hcs : Chg (fun k => k = w.heap.size + 1) wr (wr.setRow (w.heap.size + 1) (Pk.cells { (p.lay hA hc pA pc vA vc sA sc eA ec bA bc p.mA p.mc) with mA := mA, mn := p.mn, mc := mc })) := chg_setRow
                        have tr : ∀ {e : TypeId} {sz n : Nat} {v : Value} {xs : List Value}, wr.ownsRow (w.heap.size + 3) e sz v n xs → (wr.setRow (w.heap.size + 1) (Pk.cells { (p.lay hA hc pA pc vA vc sA sc eA ec bA bc p.mA p.mc) with mA := mA, mn := p.mn, mc := mc })).ownsRow (w.heap.size + 3) e sz v n xs := fun ho => own_chg ho hcs fun g hg h => by
                          have := (own_block_lt ho hg).2.1
                          have e2 : g = w.heap.size + 1 := h
                          omega
                        have hC := HJ.out.2.2.2.1
                        have hX := HT7.out.Q.lt
                        have hms := HJ.out.2.1.chg hcs (fun g h1 _ h => by have e2 : g = w.heap.size + 1 := h; omega)
                        refine ⟨hA, hc, pA, pc, vA, vc, sA, sc, eA, ec, bA, bc, mA, mc, ml, rfl, HTr.out.bw.trans (below_setRow (by omega)), ⟨own_base (tr (HOh.out wr hC)) (by omega), own_base (tr (HOp.out wr hC)) (by omega), own_base (tr (HOv.out wr hC)) (by omega), own_base (tr (HOs.out wr hC)) (by omega), own_base (tr (HOe.out wr hC)) (by omega), own_base (tr (HOb.out wr hC)) (by omega), ⟨own_base hms.own (by omega), fun k m hk => own_base (hms.bod k m hk) (by omega)⟩, HML.out, HJ.out.2.2.2.2⟩, ?_⟩
                        rw [HJ.out.2.2.1, List.take_of_length_le (by rw [HLN.out]; omega)])
                      go_wp2_with (first | (refine wpList_load_on (by rfl) 45 _ (by rfl) (w.heap.size + 2) (by rfl) 45 (Pk.cells { (p.lay hA hc pA pc vA vc sA sc eA ec bA bc p.mA p.mc) with mA := mA, mn := p.mn, mc := mc }) (0, 0) _ HJ.out.1 Tryd.underlying45 rfl (by kernel_rfl) ?_; simp only [Act.put, List.setIfInBounds_toArray, List.set_cons_zero, List.set_cons_succ]) | (refine wpList_store_row (by rfl) 45 _ _ (by rfl) (w.heap.size + 1) (Pk.cells { (p.lay hA hc pA pc vA vc sA sc eA ec bA bc p.mA p.mc) with mA := mA, mn := p.mn, mc := mc }) (by rfl) (by rfl) 45 zeroCells HTr.out.R (by kernel_rfl) rfl (by kernel_rfl) ?_; simp only [Act.put]))
                      exact bodyPost_ret (results_cell_row (P := Tryd.prog) rfl _ (wr.setRow (w.heap.size + 1) (Pk.cells { (p.lay hA hc pA pc vA vc sA sc eA ec bA bc p.mA p.mc) with mA := mA, mn := p.mn, mc := mc })) (w.heap.size + 1) 45 (Pk.cells { (p.lay hA hc pA pc vA vc sA sc eA ec bA bc p.mA p.mc) with mA := mA, mn := p.mn, mc := mc }) (0, 0) _ rfl (setRow_heap _ _ _ _ _ _ HTr.out.R) Tryd.underlying45 rfl (by kernel_rfl)) rfl HFIN.out
theorem Twin_any (p : Pk) (D : PkD) (w : World) (hin : PkIn w w.heap.size p D) (hsz : PkSz p) :
    Calls Tryd.prog 10 #[.agg p.cells] w (TwinP w p D) := by
  refine (TwinO_any p D w hin hsz).mono ?_
  rintro e w' ⟨hA, hc, pA, pc, vA, vc, sA, sc, eA, ec, bA, bc, mA, mc, ml, h1, h2, h3, h4⟩
  exact ⟨hA, hc, pA, pc, vA, vc, sA, sc, eA, ec, bA, bc, mA, mc, ml, h1, h2, h3.in_, h4⟩
end Go.Proofs.YtffcepaegcllmaaDoor
