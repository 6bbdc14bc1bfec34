/-
  Readings of structs and of slices of structs, opened field by field. No program text.
-/
import Derived.Test.YtffcepaegcllmaaDoorFrame
namespace Go.Proofs.YtffcepaegcllmaaDoor
open Go.ChangeShapes Go.WideShapes Go.ChangeAt Go.RowKit
section
variable {H : Type} {enc : TypeId × Value → H} {P : Program} {W : World}
theorem Fit.structLen {t : TypeId} {fs : Array Field} {cs : List Value} {d : DataW H} (ht : P.underlying t = some (.struct fs)) (h : Fit enc P W t cs d) {n : Nat} (hn : P.cellsOf t = n) : cs.length = n := by
  obtain ⟨⟨fuel, ps, hf⟩, _⟩ := h
  obtain ⟨xs, m, _, _, hl, _, _⟩ := DataW.trod_struct ht hf
  rw [hl, hn]
theorem Fit.fld {t : TypeId} {fs : Array Field} {cs : List Value} {d : DataW H} (ht : P.underlying t = some (.struct fs)) (h : Fit enc P W t cs d) (i : Nat) {f : Field} (hf : fs[i]? = some f) {T o z : Nat} (hT : f.type = T) (ho : f.offset = o) (hz : P.cellsOf T = z) :
    ∃ di, Fit enc P W T ((cs.drop o).take z) di := by
  subst hT ho hz
  obtain ⟨⟨fuel, ps, hx⟩, hw⟩ := h
  obtain ⟨xs, m, _, hd, hl, hlen, hfld⟩ := DataW.trod_struct ht hx
  have hi := hfld i f hf
  have hlt : i < xs.length := by rw [hlen]; exact (Array.getElem?_eq_some_iff.1 hf).1
  rw [List.getElem?_eq_getElem hlt] at hi
  simp only [Prod.mk.injEq] at hd
  obtain ⟨rfl, rfl⟩ := hd
  refine ⟨xs[i].1, ⟨m, xs[i].2, hi⟩, fun n hn => hw n ?_⟩
  simp only [DataW.weights, ht]
  exact DataW.weights_mem_each (j := i) (t := f.type) (d := xs[i].1) (by rw [List.getElem?_map, Array.getElem?_toList, hf]; rfl) (by rw [List.getElem?_map, List.getElem?_eq_getElem hlt]; rfl) n hn
theorem wts_all {e : TypeId} {x : DataW H} {n : Nat} (hn : n ∈ x.weights P e) : ∀ {l : List (DataW H)}, x ∈ l → n ∈ DataW.weightsAll P e l
  | [], h => by cases h
  | y :: l, h => by
    simp only [DataW.weightsAll, List.mem_append]
    rcases List.mem_cons.1 h with rfl | h
    · exact .inl hn
    · exact .inr (wts_all hn h)
theorem flat_at {α : Type} {z : Nat} : ∀ {es : List (List α)}, (∀ y ∈ es, y.length = z) → ∀ (i r : Nat), r < z → es.flatten[i * z + r]? = es[i]?.bind fun y => y[r]?
  | [], _, i, r, _ => by simp
  | y :: es, h, 0, r, hr => by
    rw [List.flatten_cons, List.getElem?_append_left (by rw [h y (by simp)]; omega)]
    simp
  | y :: es, h, i + 1, r, hr => by
    have hy := h y (by simp)
    rw [List.flatten_cons, List.getElem?_append_right (by rw [hy, Nat.succ_mul]; omega), hy, List.getElem?_cons_succ, ← flat_at (fun x hx => h x (by simp [hx])) i r hr]
    congr 1
    rw [Nat.succ_mul]; omega
theorem flat_len {α : Type} {z : Nat} : ∀ {es : List (List α)}, (∀ y ∈ es, y.length = z) → es.flatten.length = es.length * z
  | [], _ => by simp
  | y :: es, h => by
    rw [List.flatten_cons, List.length_append, flat_len (fun x hx => h x (by simp [hx])), h y (by simp), List.length_cons, Nat.succ_mul]; omega
/-- A slice of elements of z cells each, opened: what each element's cells are. -/
theorem Fit.rows {t e : TypeId} {cs : List Value} {d : DataW H} {z y : Nat} (ht : P.underlying t = some (.slice e)) (hc : P.cellsOf e = z) (hby : P.bytesOf e = y) (hz : 0 < z) (h : Fit enc P W t cs d) :
    ∃ (A : Option Addr) (n cap : Nat) (es : List (List Value)), cs = [.slice A n cap] ∧ n ≤ cap ∧ cap * y ≤ 140737488351232 ∧ es.length = n ∧ Rd W W.heap.size z A n es.flatten ∧ ∀ x ∈ es, x.length = z ∧ ∃ d, Fit enc P W e x d := by
  subst hc hby
  obtain ⟨⟨fuel, ps, hf⟩, hw⟩ := h
  have hlt := DataW.trod_lt fuel t cs _ hf
  rcases DataW.trod_slice ht hf with ⟨rfl, _⟩ | ⟨a, n, cap, elems, rest, m, _, rfl, hx, _, hle, hmx, hel, helem, hsp, _⟩
  · exact ⟨none, 0, 0, [], rfl, by omega, by omega, rfl, Rd.nil_ _, fun x hx => by cases hx⟩
  · simp only [Prod.mk.injEq] at hx
    obtain ⟨rfl, rfl⟩ := hx
    have hrest := (hsp rfl).1
    have hwt : cap * P.bytesOf e ≤ reachBytes := by
      have := hw ((elems.map (·.1)).length * P.bytesOf e + (rest.map (·.1)).length * P.bytesOf e) (by
        simp only [DataW.weights, ht, ← Nat.add_mul]
        exact List.mem_cons_self)
      rw [List.length_map, List.length_map, ← Nat.add_mul, hel, hrest] at this
      rwa [show n + (cap - n) = cap by omega] at this
    have hone : ∀ i, i < n → ∃ ci, W.cells? 0 (a.add (i * P.cellsOf e)) (P.cellsOf e) = some ci ∧ ∃ x, elems[i]? = some x ∧ DataW.trod enc P W 0 (fun _ => true) true m e ci = some x := by
      intro i hi
      have := helem i hi
      rw [List.getElem?_eq_getElem (by omega)] at this
      rw [Option.bind_eq_some_iff] at this
      obtain ⟨ci, h1, h2⟩ := this
      exact ⟨ci, h1, _, List.getElem?_eq_getElem (by omega), h2⟩
    have hes : ∀ y ∈ (List.range n).map (fun i => (W.cells? 0 (a.add (i * P.cellsOf e)) (P.cellsOf e)).getD []), y.length = P.cellsOf e ∧ ∃ d, Fit enc P W e y d := by
      intro y hy
      simp only [List.mem_map, List.mem_range] at hy
      obtain ⟨i, hi, rfl⟩ := hy
      obtain ⟨ci, h1, x, h2, h3⟩ := hone i hi
      rw [h1]
      refine ⟨(World.cells?_some h1).2.1, x.1, ⟨m, x.2, h3⟩, fun k hk => hw k ?_⟩
      simp only [DataW.weights, ht, List.mem_cons, List.mem_append]
      exact .inr (.inl (wts_all hk (List.mem_map.2 ⟨x, List.mem_of_getElem? h2, rfl⟩)))
    refine ⟨some a, n, cap, _, rfl, hle, hwt, by simp, ⟨?_, fun hn => ?_⟩, hes⟩
    · rw [flat_len (fun y hy => (hes y hy).1)]; simp
    · obtain ⟨b, off, spot⟩ := a
      obtain ⟨c0, h10, _, _, _⟩ := hone 0 hn
      have hc0 := (World.cells?_some h10).2
      have hs : spot = none := by
        have := hc0.2 0 hz
        rw [List.getElem?_eq_getElem (by rw [hc0.1]; exact hz)] at this
        simpa [Addr.add] using World.cell?_spot this
      subst hs
      refine ⟨b, off, rfl, row_lt (a := ⟨b, off, none⟩) (n := (elems.length + rest.length) * P.cellsOf e) hlt (Nat.mul_pos (by omega) hz), fun j u hj => ?_⟩
      have hjd : j = j / P.cellsOf e * P.cellsOf e + j % P.cellsOf e := by rw [Nat.mul_comm]; exact (Nat.div_add_mod _ _).symm
      have hr := Nat.mod_lt j hz
      generalize j / P.cellsOf e = i at hjd
      generalize j % P.cellsOf e = r at hjd hr
      subst hjd
      rw [flat_at (fun y hy => (hes y hy).1) i r hr] at hj
      simp only [List.getElem?_map, Option.bind_eq_some_iff, Option.map_eq_some_iff] at hj
      obtain ⟨y, ⟨k, hk, rfl⟩, hu⟩ := hj
      obtain ⟨hk1, rfl⟩ := List.getElem?_eq_some_iff.1 hk
      rw [List.length_range] at hk1
      rw [List.getElem_range] at hu
      obtain ⟨ci, h1, _, _, _⟩ := hone i hk1
      rw [h1, Option.getD_some] at hu
      have := (World.cells?_some h1).2.2 r hr
      rw [addr_add, addr_add, Nat.add_assoc] at this
      rw [this, hu]
end
end Go.Proofs.YtffcepaegcllmaaDoor
