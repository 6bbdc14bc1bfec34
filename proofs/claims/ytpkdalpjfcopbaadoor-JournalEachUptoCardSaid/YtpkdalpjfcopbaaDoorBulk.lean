/-
  What the bound of the second form gives: readings of bounded bulk, opened. (Began as the kit's UptoLemmas.)
-/
import Derived.Test.YtpkdalpjfcopbaaDoorRows
import Derived.Test.YtpkdalpjfcopbaaDoorStruct
namespace Go.Proofs.YtpkdalpjfcopbaaDoor
open Go.ChangeShapes Go.WideShapes Go.ChangeAt Go.RowKit
theorem bulk_one {H : Type} (d : DataW H) : 1 ≤ Rows.uptoBulk d := by
  cases d with
  | lit l => cases l <;> simp [Rows.uptoBulk]
  | nil => simp [Rows.uptoBulk]
  | ptr d => simp [Rows.uptoBulk]
  | slice elems spare => simp [Rows.uptoBulk]
  | agg parts => simp [Rows.uptoBulk]
  | iface t d => simp [Rows.uptoBulk]
  | map entries => simp [Rows.uptoBulk]
  | held h => simp [Rows.uptoBulk]
theorem bulk_part {H : Type} {d : DataW H} {l : List (DataW H)} (h : d ∈ l) : Rows.uptoBulk d ≤ Rows.uptoBulkAll l := by
  induction l with
  | nil => cases h
  | cons x r ih =>
    simp only [Rows.uptoBulkAll]
    cases List.mem_cons.1 h with
    | inl e => subst e; omega
    | inr e => have := ih e; omega
theorem bulk_len {H : Type} (l : List (DataW H)) : l.length ≤ Rows.uptoBulkAll l := by
  induction l with
  | nil => simp [Rows.uptoBulkAll]
  | cons x r ih => have := bulk_one x; simp only [Rows.uptoBulkAll, List.length_cons]; omega
theorem bulk_bound {H : Type} {l : List (DataW H)} (hk : Rows.uptoSmall H l = true) : Rows.uptoBulkAll l ≤ 1048576 := by
  simpa [Rows.uptoSmall] using hk
/-- 'Fit', of bulk at most 1048576. -/
def FitU {H : Type} (enc : TypeId × Value → H) (P : Program) (W : World) (t : TypeId) (cs : List Value) (d : DataW H) : Prop := Fit enc P W t cs d ∧ Rows.uptoBulk d ≤ 1048576
section
variable {H : Type} {enc : TypeId × Value → H} {P : Program} {W : World}
theorem FitU.of_trod {t : TypeId} {v : Value} {d : DataW H} {p : List MemPlace} (h : DataW.Trod enc P W 0 (fun _ => true) true t v d p) {ts : List TypeId} {ds : List (DataW H)} (hz : (DataW.weightsEach P ts ds).all (· ≤ reachBytes) = true) (hk : Rows.uptoSmall H ds = true)
    {j : Nat} (ht : ts[j]? = some t) (hd : ds[j]? = some d) : FitU enc P W t v.cells.toList d :=
  ⟨Fit.of_trod h hz ht hd, Nat.le_trans (bulk_part (List.mem_of_getElem? hd)) (bulk_bound hk)⟩
theorem FitU.structLen {t : TypeId} {fs : Array Field} {cs : List Value} {d : DataW H} (ht : P.underlying t = some (.struct fs)) (h : FitU enc P W t cs d) {n : Nat} (hn : P.cellsOf t = n) : cs.length = n := Fit.structLen ht h.1 hn
theorem FitU.i64 {t : TypeId} {cs : List Value} {d : DataW H} (ht : P.underlying t = some (.int .i64)) (h : FitU enc P W t cs d) : ∃ x : Int, cs = [.int .i64 x] ∧ -9223372036854775808 ≤ x ∧ x ≤ 9223372036854775807 := h.1.i64 ht
theorem FitU.bool_ {t : TypeId} {cs : List Value} {d : DataW H} (ht : P.underlying t = some .bool) (h : FitU enc P W t cs d) : ∃ b, cs = [.bool b] := h.1.bool_ ht
theorem FitU.fld {t : TypeId} {fs : Array Field} {cs : List Value} {d : DataW H} (ht : P.underlying t = some (.struct fs)) (h : FitU enc P W t cs d) (i : Nat) {f : Field} (hf : fs[i]? = some f) {T o z : Nat} (hT : f.type = T) (ho : f.offset = o) (hz : P.cellsOf T = z) :
    ∃ di, FitU enc P W T ((cs.drop o).take z) di := by
  subst hT ho hz
  obtain ⟨⟨⟨fuel, ps, hx⟩, hw⟩, hb⟩ := h
  obtain ⟨xs, m, _, hd, hl, hlen, hfld⟩ := DataW.trod_struct ht hx
  have hi := hfld i f hf
  have hlt : i < xs.length := by rw [hlen]; exact (Array.getElem?_eq_some_iff.1 hf).1
  rw [List.getElem?_eq_getElem hlt] at hi
  simp only [Prod.mk.injEq] at hd
  obtain ⟨rfl, rfl⟩ := hd
  refine ⟨xs[i].1, ⟨⟨m, xs[i].2, hi⟩, fun n hn => hw n ?_⟩, ?_⟩
  · simp only [DataW.weights, ht]
    exact DataW.weights_mem_each (j := i) (t := f.type) (d := xs[i].1) (by rw [List.getElem?_map, Array.getElem?_toList, hf]; rfl) (by rw [List.getElem?_map, List.getElem?_eq_getElem hlt]; rfl) n hn
  · have h1 := bulk_part (List.mem_map.2 ⟨xs[i], List.getElem_mem hlt, rfl⟩ : xs[i].1 ∈ xs.map (·.1))
    simp only [Rows.uptoBulk] at hb
    omega
/-- A slice holds no more than the bulk. -/
theorem FitU.len {t e : TypeId} {A : Option Addr} {n cap : Nat} {d : DataW H} (ht : P.underlying t = some (.slice e)) (h : FitU enc P W t [.slice A n cap] d) : n ≤ 1048576 := by
  obtain ⟨⟨⟨fuel, ps, hf⟩, _⟩, hb⟩ := h
  rcases DataW.trod_slice ht hf with ⟨e1, _⟩ | ⟨a, n', cap', elems, rest, m, _, e1, hx, _, hle, hmx, hel, helem, hsp, _⟩
  · simp only [List.cons.injEq, Value.slice.injEq, and_true] at e1
    omega
  · simp only [List.cons.injEq, Value.slice.injEq, and_true] at e1
    simp only [Prod.mk.injEq] at hx
    obtain ⟨rfl, rfl⟩ := hx
    have h1 := bulk_len (elems.map (·.1))
    simp only [Rows.uptoBulk] at hb
    rw [List.length_map] at h1
    omega
theorem FitU.bytes {t e : TypeId} {cs : List Value} {d : DataW H} (ht : P.underlying t = some (.slice e)) (he : P.underlying e = some (.int .u8)) (hc : P.cellsOf e = 1) (hb1 : P.bytesOf e = 1) (h : FitU enc P W t cs d) :
    ∃ (A : Option Addr) (n cap : Nat) (bs : List UInt8), cs = [.slice A n cap] ∧ n ≤ 1048576 ∧ n ≤ cap ∧ cap ≤ 140737488351232 ∧ RdB W W.heap.size A n bs := by
  obtain ⟨A, n, cap, bs, rfl, h1, h2, h3⟩ := h.1.bytes ht he hc hb1
  exact ⟨A, n, cap, bs, rfl, h.len ht, h1, h2, h3⟩
theorem FitU.ints {t e : TypeId} {cs : List Value} {d : DataW H} (ht : P.underlying t = some (.slice e)) (he : P.underlying e = some (.int .i64)) (hc : P.cellsOf e = 1) (hb8 : P.bytesOf e = 8) (h : FitU enc P W t cs d) :
    ∃ (A : Option Addr) (n cap : Nat) (is : List Int), cs = [.slice A n cap] ∧ n ≤ 1048576 ∧ n ≤ cap ∧ cap * 8 ≤ 140737488351232 ∧ RdI W W.heap.size A n is ∧ ∀ x ∈ is, -9223372036854775808 ≤ x ∧ x ≤ 9223372036854775807 := by
  obtain ⟨A, n, cap, is, rfl, h1, h2, h3, h4⟩ := h.1.ints ht he hc hb8
  exact ⟨A, n, cap, is, rfl, h.len ht, h1, h2, h3, h4⟩
theorem FitU.rows {t e : TypeId} {cs : List Value} {d : DataW H} {z y : Nat} (ht : P.underlying t = some (.slice e)) (hc : P.cellsOf e = z) (hby : P.bytesOf e = y) (hz : 0 < z) (h : FitU enc P W t cs d) :
    ∃ (A : Option Addr) (n cap : Nat) (es : List (List Value)), cs = [.slice A n cap] ∧ n ≤ 1048576 ∧ n ≤ cap ∧ cap * y ≤ 140737488351232 ∧ es.length = n ∧ Rd W W.heap.size z A n es.flatten ∧ ∀ x ∈ es, x.length = z ∧ ∃ d, FitU enc P W e x d := by
  subst hc hby
  have hlen := h
  obtain ⟨⟨⟨fuel, ps, hf⟩, hw⟩, hbk⟩ := h
  have hlt := DataW.trod_lt fuel t cs _ hf
  rcases DataW.trod_slice ht hf with ⟨rfl, _⟩ | ⟨a, n, cap, elems, rest, m, _, rfl, hx, _, hle, hmx, hel, helem, hsp, _⟩
  · exact ⟨none, 0, 0, [], rfl, by omega, by omega, by omega, rfl, Rd.nil_ _, fun x hx => by cases hx⟩
  · have hn1 := hlen.len ht
    simp only [Prod.mk.injEq] at hx
    obtain ⟨rfl, rfl⟩ := hx
    have hrest := (hsp rfl).1
    have hwt : cap * P.bytesOf e ≤ reachBytes := by
      have := hw ((elems.map (·.1)).length * P.bytesOf e + (rest.map (·.1)).length * P.bytesOf e) (by
        simp only [DataW.weights, ht, ← Nat.add_mul]
        exact List.mem_cons_self)
      rw [List.length_map, List.length_map, ← Nat.add_mul, hel, hrest] at this
      rwa [show n + (cap - n) = cap by omega] at this
    have hone : ∀ i, i < n → ∃ ci, W.cells? 0 (a.add (i * P.cellsOf e)) (P.cellsOf e) = some ci ∧ ∃ x, elems[i]? = some x ∧ DataW.trod enc P W 0 (fun _ => true) true m e ci = some x := by
      intro i hi
      have := helem i hi
      rw [List.getElem?_eq_getElem (by omega)] at this
      rw [Option.bind_eq_some_iff] at this
      obtain ⟨ci, h1, h2⟩ := this
      exact ⟨ci, h1, _, List.getElem?_eq_getElem (by omega), h2⟩
    have hes : ∀ y ∈ (List.range n).map (fun i => (W.cells? 0 (a.add (i * P.cellsOf e)) (P.cellsOf e)).getD []), y.length = P.cellsOf e ∧ ∃ d, FitU enc P W e y d := by
      intro y hy
      simp only [List.mem_map, List.mem_range] at hy
      obtain ⟨i, hi, rfl⟩ := hy
      obtain ⟨ci, h1, x, h2, h3⟩ := hone i hi
      rw [h1]
      refine ⟨(World.cells?_some h1).2.1, x.1, ⟨⟨m, x.2, h3⟩, fun k hk => hw k ?_⟩, ?_⟩
      · simp only [DataW.weights, ht, List.mem_cons, List.mem_append]
        exact .inr (.inl (wts_all hk (List.mem_map.2 ⟨x, List.mem_of_getElem? h2, rfl⟩)))
      · have h1 := bulk_part (List.mem_map.2 ⟨x, List.mem_of_getElem? h2, rfl⟩ : x.1 ∈ elems.map (·.1))
        simp only [Rows.uptoBulk] at hbk
        omega
    refine ⟨some a, n, cap, _, rfl, hn1, hle, hwt, by simp, ⟨?_, fun hn => ?_⟩, hes⟩
    · rw [flat_len (fun y hy => (hes y hy).1)]; simp
    · obtain ⟨b, off, spot⟩ := a
      obtain ⟨c0, h10, _, _, _⟩ := hone 0 hn
      have hc0 := (World.cells?_some h10).2
      have hs : spot = none := by
        have := hc0.2 0 hz
        rw [List.getElem?_eq_getElem (by rw [hc0.1]; exact hz)] at this
        simpa [Addr.add] using World.cell?_spot this
      subst hs
      refine ⟨b, off, rfl, row_lt (a := ⟨b, off, none⟩) (n := (elems.length + rest.length) * P.cellsOf e) hlt (Nat.mul_pos (by omega) hz), fun j u hj => ?_⟩
      have hjd : j = j / P.cellsOf e * P.cellsOf e + j % P.cellsOf e := by rw [Nat.mul_comm]; exact (Nat.div_add_mod _ _).symm
      have hr := Nat.mod_lt j hz
      generalize j / P.cellsOf e = i at hjd
      generalize j % P.cellsOf e = r at hjd hr
      subst hjd
      rw [flat_at (fun y hy => (hes y hy).1) i r hr] at hj
      simp only [List.getElem?_map, Option.bind_eq_some_iff, Option.map_eq_some_iff] at hj
      obtain ⟨y, ⟨k, hk, rfl⟩, hu⟩ := hj
      obtain ⟨hk1, rfl⟩ := List.getElem?_eq_some_iff.1 hk
      rw [List.length_range] at hk1
      rw [List.getElem_range] at hu
      obtain ⟨ci, h1, _, _, _⟩ := hone i hk1
      rw [h1, Option.getD_some] at hu
      have := (World.cells?_some h1).2.2 r hr
      rw [addr_add, addr_add, Nat.add_assoc] at this
      rw [this, hu]
end
end Go.Proofs.YtpkdalpjfcopbaaDoor
