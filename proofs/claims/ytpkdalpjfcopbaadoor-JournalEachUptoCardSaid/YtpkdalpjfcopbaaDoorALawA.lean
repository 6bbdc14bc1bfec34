/-
  JournalApplies: what the law keeps: copies with spare room, rows of writes, results.
-/
import Derived.Test.YtpkdalpjfcopbaaDoorAAppP
namespace Go.Proofs.YtpkdalpjfcopbaaDoor
open Go.RowKit
/-- A list that spare made. -/
def SpAt (w : World) (g cap : Nat) (bs : List UInt8) : Prop := ∃ cur rest, Blk w g 5 cur ∧ cur.toList = bvs (bs ++ sms 64) ++ rest ∧ bs.length + 64 ≤ cap ∧ cap ≤ maxLen
def ee (n : Nat) : List UInt8 := List.replicate n 238
/-- A list written full. -/
def FuAt (w : World) (g n : Nat) : Prop := ∃ cur rest, Blk w g 5 cur ∧ cur.toList = bvs (ee n) ++ rest
section
variable {w w' : World} {g cap n : Nat} {bs : List UInt8}
theorem SpAt.blk (h : SpAt w g cap bs) : ∃ cur, Blk w g 5 cur := by
  obtain ⟨cur, _, h1, _⟩ := h
  exact ⟨cur, h1⟩
theorem FuAt.blk (h : FuAt w g n) : ∃ cur, Blk w g 5 cur := by
  obtain ⟨cur, _, h1, _⟩ := h
  exact ⟨cur, h1⟩
theorem SpAt.over (h : SpAt w g cap bs) (hb : Below w.heap.size w w') : SpAt w' g cap bs := by
  obtain ⟨cur, rest, h1, h2⟩ := h
  exact ⟨cur, rest, h1.over hb, h2⟩
theorem FuAt.over (h : FuAt w g n) (hb : Below w.heap.size w w') : FuAt w' g n := by
  obtain ⟨cur, rest, h1, h2⟩ := h
  exact ⟨cur, rest, h1.over hb, h2⟩
theorem SpAt.chg {S : Nat → Prop} (h : SpAt w g cap bs) (hc : Chg S w w') (hn : ¬ S g) : SpAt w' g cap bs := by
  obtain ⟨cur, rest, h1, h2⟩ := h
  exact ⟨cur, rest, h1.chg hc hn, h2⟩
theorem FuAt.chg {S : Nat → Prop} (h : FuAt w g n) (hc : Chg S w w') (hn : ¬ S g) : FuAt w' g n := by
  obtain ⟨cur, rest, h1, h2⟩ := h
  exact ⟨cur, rest, h1.chg hc hn, h2⟩
theorem rd_front {cur : Array Value} {l : List UInt8} {rest : List Value} (h1 : Blk w g 5 cur) (h2 : cur.toList = bvs l ++ rest) : RdB w w.heap.size (some ⟨g, 0, none⟩) l.length l :=
  ⟨by rw [bvs_length]; omega, fun _ => ⟨g, 0, rfl, h1.lt, fun j u hu => by
    rw [Nat.zero_add, h1.cell, ← Array.getElem?_toList, h2, List.getElem?_append_left (List.getElem?_eq_some_iff.1 hu).1]
    exact hu⟩⟩
theorem SpAt.rd (h : SpAt w g cap bs) : RdB w w.heap.size (some ⟨g, 0, none⟩) bs.length bs := by
  obtain ⟨cur, rest, h1, h2, _⟩ := h
  exact rd_front (rest := bvs (sms 64) ++ rest) h1 (by rw [h2, bvs_append, List.append_assoc])
theorem ee_length (n : Nat) : (ee n).length = n := by simp [ee]
theorem FuAt.rd (h : FuAt w g n) : RdB w w.heap.size (some ⟨g, 0, none⟩) n (ee n) := by
  obtain ⟨cur, rest, h1, h2⟩ := h
  have := rd_front h1 h2
  rwa [ee_length] at this
end
theorem spare_sp (A : Option Addr) (cap : Nat) (bs : List UInt8) (w : World) (hr : RdB w w.heap.size A bs.length bs) (hn : bs.length ≤ 140737488351232) :
    Calls Tryd.prog 11 #[.slice A bs.length cap] w fun e w' => ∃ g cap', e = .returned (.slice (some ⟨g, 0, none⟩) bs.length cap') ∧ w.heap.size ≤ g ∧ SpAt w' g cap' bs ∧ Below w.heap.size w w' :=
  (spare_any A bs.length cap bs w hr hn).mono fun _e _w' ⟨g, cap', cur, rest, h1, h2, h3, h4, h5, h6, h7⟩ => ⟨g, cap', h1, h2, ⟨cur, rest, h5, h6, h3, h4⟩, h7⟩
theorem intact_sp {g cap' : Nat} (A : Option Addr) (cap B : Nat) (bs : List UInt8) (w : World) (h : SpAt w g cap' bs) (hr : RdB w B A bs.length bs) :
    Calls Tryd.prog 16 #[.slice (some ⟨g, 0, none⟩) bs.length cap', .slice A bs.length cap] w fun e w' => e = .returned (.bool true) ∧ w = w' := by
  obtain ⟨cur, rest, h1, h2, h3, h4⟩ := h
  exact intact_yes g bs.length cap' A cap B bs cur rest w h1 h2 h3 h4 hr
theorem full_sp {g cap' : Nat} (bs : List UInt8) (w : World) (h : SpAt w g cap' bs) (hn : bs.length ≤ 4611686018427387904) :
    Calls Tryd.prog 18 #[.slice (some ⟨g, 0, none⟩) bs.length cap', .int .u8 238] w fun e w' => e = .returned (.tuple #[]) ∧ FuAt w' g bs.length ∧ Chg (fun j => j = g) w w' := by
  obtain ⟨cur, rest, h1, h2, h3, h4⟩ := h
  have hsz : bs.length ≤ cur.size := by
    have := congrArg List.length h2
    rw [Array.length_toList, List.length_append, bvs_length, List.length_append] at this
    omega
  refine (full_any g bs.length cap' cur 238 h1 hsz hn).mono fun e w' ⟨h5, h6⟩ => ⟨h5, ?_, h6.chg⟩
  obtain ⟨c, h7, h8⟩ := h6.blk
  refine ⟨c, cur.toList.drop bs.length, h7, ?_⟩
  rw [h8]
  simp [bvs, ee]
/-- A row of the law's list of writes. -/
structure Rw where
  x : Wr
  g : Nat
  cap : Nat
def Rw.cells (r : Rw) : List Value := [.int .i64 r.x.file, .bool r.x.start, .slice (some ⟨r.g, 0, none⟩) r.x.bs.length r.cap]
def rowsW (K : List Rw) : List Value := (K.map Rw.cells).flatten
theorem rowsW_snoc (K : List Rw) (r : Rw) : rowsW (K ++ [r]) = rowsW K ++ r.cells := by simp [rowsW]
theorem rowsW_at {K : List Rw} {k : Nat} {r : Rw} (hk : K[k]? = some r) (j : Nat) (hj : j < 3) : (rowsW K)[k * 3 + j]? = r.cells[j]? := by
  induction K generalizing k with
  | nil => simp at hk
  | cons q K ih =>
    cases k with
    | zero =>
      simp only [List.getElem?_cons_zero, Option.some.injEq] at hk
      subst hk
      have e : rowsW (q :: K) = q.cells ++ rowsW K := by simp [rowsW]
      rw [e, Nat.zero_mul, Nat.zero_add, List.getElem?_append_left (by simp [Rw.cells]; omega)]
    | succ k =>
      rw [List.getElem?_cons_succ] at hk
      have e : rowsW (q :: K) = q.cells ++ rowsW K := by simp [rowsW]
      rw [e, List.getElem?_append_right (by simp [Rw.cells]; omega), ← ih hk]
      congr 1
      simp [Rw.cells]
      omega
/-- The rows' lists, the first u of them written full; all behind B, apart from one another. -/
structure RowsU (B : Nat) (K : List Rw) (u : Nat) (w : World) : Prop where
  sp : ∀ (k : Nat) (r : Rw), K[k]? = some r → u ≤ k → SpAt w r.g r.cap r.x.bs
  fu : ∀ (k : Nat) (r : Rw), K[k]? = some r → k < u → FuAt w r.g r.x.bs.length
  lo : ∀ (k : Nat) (r : Rw), K[k]? = some r → B ≤ r.g
  pw : ∀ (k k' : Nat) (r r' : Rw), K[k]? = some r → K[k']? = some r' → k ≠ k' → r.g ≠ r'.g
section
variable {B u : Nat} {K : List Rw} {w w' : World}
theorem RowsU.lt (h : RowsU B K u w) {k : Nat} {r : Rw} (hk : K[k]? = some r) : r.g < w.heap.size := by
  by_cases hu : u ≤ k
  · obtain ⟨cur, hB⟩ := (h.sp k r hk hu).blk
    exact hB.lt
  · obtain ⟨cur, hB⟩ := (h.fu k r hk (by omega)).blk
    exact hB.lt
theorem RowsU.over (h : RowsU B K u w) (hb : Below w.heap.size w w') : RowsU B K u w' :=
  ⟨fun k r hk hu => (h.sp k r hk hu).over hb, fun k r hk hu => (h.fu k r hk hu).over hb, h.lo, h.pw⟩
theorem RowsU.chg {S : Nat → Prop} (h : RowsU B K u w) (hc : Chg S w w') (hn : ∀ (k : Nat) (r : Rw), K[k]? = some r → ¬ S r.g) : RowsU B K u w' :=
  ⟨fun k r hk hu => (h.sp k r hk hu).chg hc (hn k r hk), fun k r hk hu => (h.fu k r hk hu).chg hc (hn k r hk), h.lo, h.pw⟩
theorem RowsU.nil : RowsU B [] 0 w := ⟨fun k r h => by simp at h, fun k r h => by simp at h, fun k r h => by simp at h, fun k k' r r' h => by simp at h⟩
theorem snoc_cases {K : List Rw} {q r : Rw} {k : Nat} (h : (K ++ [q])[k]? = some r) : K[k]? = some r ∨ (k = K.length ∧ r = q) := by
  rcases Nat.lt_or_ge k K.length with hk | hk
  · rw [List.getElem?_append_left hk] at h
    exact .inl h
  · rw [List.getElem?_append_right hk] at h
    have : k - K.length = 0 := by
      have := (List.getElem?_eq_some_iff.1 h).1
      simp at this
      omega
    rw [this] at h
    simp at h
    exact .inr ⟨by omega, h.symm⟩
theorem RowsU.snoc (h : RowsU B K 0 w) (hb : Below w.heap.size w w') {q : Rw} (hq : SpAt w' q.g q.cap q.x.bs) (hg : w.heap.size ≤ q.g) (hB : B ≤ w.heap.size) : RowsU B (K ++ [q]) 0 w' := by
  refine ⟨fun k r hk _ => ?_, fun k r hk hu => absurd hu (by omega), fun k r hk => ?_, fun k k' r r' hk hk' hne => ?_⟩
  · rcases snoc_cases hk with hk | ⟨_, rfl⟩
    · exact (h.sp k r hk (by omega)).over hb
    · exact hq
  · rcases snoc_cases hk with hk | ⟨_, rfl⟩
    · exact h.lo k r hk
    · omega
  · rcases snoc_cases hk with e1 | ⟨e1, e2⟩ <;> rcases snoc_cases hk' with e3 | ⟨e3, e4⟩
    · exact h.pw k k' r r' e1 e3 hne
    · have := h.lt e1
      rw [e4]
      omega
    · have := h.lt e3
      rw [e2]
      omega
    · omega
theorem RowsU.step (h : RowsU B K u w) {q : Rw} (hq : K[u]? = some q) (hc : Chg (fun j => j = q.g) w w') (hf : FuAt w' q.g q.x.bs.length) : RowsU B K (u + 1) w' := by
  refine ⟨fun k r hk hu => (h.sp k r hk (by omega)).chg hc (h.pw k u r q hk hq (by omega)), fun k r hk hu => ?_, h.lo, h.pw⟩
  by_cases hku : k = u
  · subst hku
    rw [hq] at hk
    injection hk with hk
    subst hk
    exact hf
  · exact (h.fu k r hk (by omega)).chg hc (h.pw k u r q hk hq hku)
end
/-- The writes as the rows tell them behind 'full'. -/
def Wr.ee (x : Wr) : Wr := { x with bs := Go.Proofs.YtpkdalpjfcopbaaDoor.ee x.bs.length }
theorem ee_cost (ws : List Wr) : costW (ws.map Wr.ee) = costW ws := by
  unfold costW
  rw [List.map_map]
  congr 1
  apply List.map_congr_left
  intro x _
  have e1 : x.ee.ok = x.ok := rfl
  have e2 : x.ee.start = x.start := rfl
  have e3 : x.ee.bs.length = x.bs.length := ee_length _
  simp only [Function.comp, Wr.cost, e1, e2, e3]
theorem rows_cells {w : World} {base : Nat} {A : Option Addr} {cap : Nat} {K : List Rw} (ho : w.ownsRow base 94 3 (.slice A K.length cap) K.length (rowsW K)) {k : Nat} {r : Rw} (hk : K[k]? = some r) :
    ∃ q, A = some ⟨q, 0, none⟩ ∧ q < w.heap.size ∧ w.cell? ⟨q, 0 + k * 3, none⟩ = some (.int .i64 r.x.file) ∧ w.cell? ⟨q, 0 + k * 3 + 1, none⟩ = some (.bool r.x.start) ∧ w.cell? ⟨q, 0 + k * 3 + 2, none⟩ = some (.slice (some ⟨r.g, 0, none⟩) r.x.bs.length r.cap) := by
  have hlt := (List.getElem?_eq_some_iff.1 hk).1
  obtain ⟨q, cap', cur, hv, _, hB, _, _, h1, h2⟩ := own_parts ho (by omega)
  simp only [Value.slice.injEq, true_and] at hv
  obtain ⟨rfl, rfl⟩ := hv
  have key : ∀ j, j < 3 → w.cell? ⟨q, k * 3 + j, none⟩ = r.cells[j]? := fun j hj => by
    rw [hB.cell, ← rowsW_at hk j hj, ← h2, List.getElem?_take, if_pos (by omega), Array.getElem?_toList]
  exact ⟨q, rfl, hB.lt, by rw [Nat.zero_add]; exact key 0 (by omega), by rw [Nat.zero_add]; exact key 1 (by omega), by rw [Nat.zero_add]; exact key 2 (by omega)⟩
theorem WsAt.of_sp {w : World} {base B : Nat} {A : Option Addr} {cap : Nat} {K : List Rw} (ho : w.ownsRow base 94 3 (.slice A K.length cap) K.length (rowsW K)) (hr : RowsU B K 0 w) : WsAt w A K.length (K.map Rw.x) := by
  refine ⟨by simp, fun k x hx => ?_⟩
  rw [List.getElem?_map, Option.map_eq_some_iff] at hx
  obtain ⟨r, hk, rfl⟩ := hx
  obtain ⟨q, rfl, hq, c0, c1, c2⟩ := rows_cells ho hk
  have hs := hr.sp k r hk (by omega)
  obtain ⟨_, _, _, _, h1, _⟩ := id hs
  exact ⟨q, 0, some ⟨r.g, 0, none⟩, r.cap, rfl, hq, c0, c1, c2, hs.rd, by omega⟩
theorem WsAt.of_fu {w : World} {base B : Nat} {A : Option Addr} {cap : Nat} {K : List Rw} (ho : w.ownsRow base 94 3 (.slice A K.length cap) K.length (rowsW K)) (hr : RowsU B K K.length w) (hcap : ∀ (k : Nat) (r : Rw), K[k]? = some r → r.x.bs.length ≤ r.cap) : WsAt w A K.length ((K.map Rw.x).map Wr.ee) := by
  refine ⟨by simp, fun k x hx => ?_⟩
  rw [List.getElem?_map, Option.map_eq_some_iff] at hx
  obtain ⟨y, hy, rfl⟩ := hx
  rw [List.getElem?_map, Option.map_eq_some_iff] at hy
  obtain ⟨r, hk, rfl⟩ := hy
  obtain ⟨q, rfl, hq, c0, c1, c2⟩ := rows_cells ho hk
  have hs := hr.fu k r hk (List.getElem?_eq_some_iff.1 hk).1
  have e : (r.x.ee).bs.length = r.x.bs.length := by simp [Wr.ee, ee_length]
  exact ⟨q, 0, some ⟨r.g, 0, none⟩, r.cap, rfl, hq, c0, c1, by rw [e]; exact c2, by rw [e]; exact hs.rd, by rw [e]; exact hcap k r hk⟩
/-- A disk that the law keeps in a box, its lists with memory of their own. -/
structure DkAt (w : World) (base X : Nat) (A0 : Option Addr) (c0 : Nat) (A1 : Option Addr) (c1 : Nat) (f : Fls) : Prop where
  box : Blk w X 24 #[.slice A0 f.a.length c0, .slice A1 f.b.length c1]
  oa : w.ownsRow base 5 1 (.slice A0 f.a.length c0) f.a.length (bvs f.a)
  ob : w.ownsRow base 5 1 (.slice A1 f.b.length c1) f.b.length (bvs f.b)
section
variable {w w' : World} {base X : Nat} {A0 A1 : Option Addr} {c0 c1 : Nat} {f : Fls}
theorem DkAt.over (h : DkAt w base X A0 c0 A1 c1 f) (hb : Below w.heap.size w w') : DkAt w' base X A0 c0 A1 c1 f := ⟨h.box.over hb, own_over h.oa hb, own_over h.ob hb⟩
theorem DkAt.chg {g : Nat} (h : DkAt w base X A0 c0 A1 c1 f) (hc : Chg (fun j => j = g) w w') (hg : g < base) (hX : X ≠ g) : DkAt w' base X A0 c0 A1 c1 f :=
  ⟨h.box.chg hc hX, own_chg h.oa hc (fun j hj e => by have := (own_block_lt h.oa hj).2.1; omega), own_chg h.ob hc (fun j hj e => by have := (own_block_lt h.ob hj).2.1; omega)⟩
end
/-- The law's own: the box of what came in, the box of the copy, the two copies. -/
structure Pre (w : World) (DA DB : Option Addr) (ca cb : Nat) (f : Fls) (C ga gb pa pb : Nat) (wr : World) : Prop where
  x0 : Blk wr w.heap.size 24 #[.slice DA f.a.length ca, .slice DB f.b.length cb]
  c : Blk wr C 24 #[.slice (some ⟨ga, 0, none⟩) f.a.length pa, .slice (some ⟨gb, 0, none⟩) f.b.length pb]
  sa : SpAt wr ga pa f.a
  sb : SpAt wr gb pb f.b
  ge : w.heap.size ≤ ga ∧ w.heap.size ≤ gb ∧ ga ≠ gb
  bw : Below w.heap.size w wr
theorem Pre.over {w wr w' : World} {DA DB : Option Addr} {ca cb : Nat} {f : Fls} {C ga gb pa pb : Nat} (h : Pre w DA DB ca cb f C ga gb pa pb wr) (hb : Below wr.heap.size wr w') : Pre w DA DB ca cb f C ga gb pa pb w' :=
  ⟨h.x0.over hb, h.c.over hb, h.sa.over hb, h.sb.over hb, h.ge, h.bw.trans (hb.mono h.bw.size)⟩
theorem Pre.chg {w wr w' : World} {DA DB : Option Addr} {ca cb : Nat} {f : Fls} {C ga gb pa pb g : Nat} (h : Pre w DA DB ca cb f C ga gb pa pb wr) (hg : ∃ cur, Blk wr g 5 cur) (hc : Chg (fun j => j = g) wr w') (h1 : ga ≠ g) (h2 : gb ≠ g) (h3 : w.heap.size ≤ g) : Pre w DA DB ca cb f C ga gb pa pb w' := by
  obtain ⟨cur, hB⟩ := hg
  exact ⟨h.x0.chg hc (hB.ne_ h.x0 (by decide) ·.symm), h.c.chg hc (hB.ne_ h.c (by decide) ·.symm), h.sa.chg hc h1, h.sb.chg hc h2, h.ge, h.bw.trans (hc.to_below h.bw.size fun k e => by omega)⟩
theorem list_choose {α β : Type} {P : α → β → Prop} : ∀ (l : List α), (∀ y ∈ l, ∃ x, P y x) → ∃ xs : List β, xs.length = l.length ∧ ∀ (k : Nat) (x : β), xs[k]? = some x → ∃ y, l[k]? = some y ∧ P y x
  | [], _ => ⟨[], rfl, fun k x h => by simp at h⟩
  | y :: l, h => by
    obtain ⟨x, hx⟩ := h y (by simp)
    obtain ⟨xs, h1, h2⟩ := list_choose l fun z hz => h z (by simp [hz])
    refine ⟨x :: xs, by simp [h1], fun k z hz => ?_⟩
    cases k with
    | zero =>
      simp only [List.getElem?_cons_zero, Option.some.injEq] at hz
      subst hz
      exact ⟨y, by simp, hx⟩
    | succ k =>
      rw [List.getElem?_cons_succ] at hz ⊢
      exact h2 k z hz
end Go.Proofs.YtpkdalpjfcopbaaDoor
