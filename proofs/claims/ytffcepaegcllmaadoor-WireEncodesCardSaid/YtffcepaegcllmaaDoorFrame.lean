/-
  The frame of a law's proof: a call that answers true and leaves all old memory as it was meets the law's post. No program text.
-/
import Derived.Test.YtffcepaegcllmaaDoorRows
import Derived.Test.YtffcepaegcllmaaDoorMem
import Derived.WalkKit
import Derived.ProofKit
import Derived.OpenShut
import Derived.Deep.DeepHandedRow
import Derived.SizedLaws
import Derived.Deep.Slices
import Derived.Lib.LaidTab
namespace Go.Proofs.YtffcepaegcllmaaDoor
open Go.ChangeShapes Go.WideShapes Go.ChangeAt Go.RowKit

theorem own : ownKnob Tryd.prog.godebug = none := by kernel_rfl
theorem laidOut : laidOutB Tryd.prog = true := by kernel_rfl

section
variable {H : Type} {enc : TypeId × Value → H} {P : Program}
/-- All arguments read behind the call as they did, if nothing below the old heap's size has turned. -/
theorem trodAll_below (hl : laidOutB P = true) {W W' : World} (hb : Below W.heap.size W W') :
    ∀ (ts : List TypeId) (vs : List Value) (ds : List (DataW H)) (ps : List MemPlace), (ts.all fun t => P.readableRec t && decide (t < P.types.size)) = true →
      DataW.TrodAll enc P W 0 (fun _ => true) true ts vs ds ps → (∀ x ∈ ps, x.block < W.heap.size) → DataW.TrodAll enc P W' 0 (fun b => decide (b < W.heap.size)) true ts vs ds ps
  | [], vs, ds, ps, _, h, _ => by
    obtain ⟨rfl, rfl, rfl⟩ := trodAll_nil h
    exact trodAll_mk0
  | t :: ts, vs, ds, ps, hr, h, hlt => by
    obtain ⟨v, vs', d, ds', p, q, rfl, rfl, rfl, h0, h1⟩ := trodAll_cons h
    simp only [List.all_cons, Bool.and_eq_true, decide_eq_true_eq] at hr
    exact trodAll_cons_mk (Below.trod hl hr.1.1 hr.1.2 h0 hb (fun x hx => hlt x (by simp [hx]))) (trodAll_below hl hb ts vs' ds' q hr.2 h1 (fun x hx => hlt x (by simp [hx])))

theorem law_post {f : Func} {s : ChangeSpec} {tb : TypeId} (hvars : s.vars = []) (hres : f.resultTypes = #[tb]) (hub : P.underlying tb = some .bool) (hl : laidOutB P = true)
    (hr : (f.params.toList.all fun t => P.readableRec t && decide (t < P.types.size)) = true) {W W' : World} {args : Array Value} {ds gs : List (DataW H)} {before : List MemPlace}
    (hW : DataW.Whole enc P f.params.toList s.vars false W args.toList ds gs before) (hfn : s.fn H (ds ++ gs) = { results := [.lit (.bool true)], args := ds }) (hb : Below W.heap.size W W') :
    s.post enc P f false true false false W args (.bool true) W' := by
  have hlt : ∀ p ∈ before, p.block < W.heap.size := fun p hp => hW.lt p hp
  obtain ⟨p, q, hA, hV, rfl, hfz, hnd⟩ := id hW
  rw [hvars] at hV
  obtain ⟨rfl, rfl⟩ := trodVars_none hV
  refine ⟨ds, [], _, [], p, [], hW, ?_, ?_, ?_, hb.frame _, fun h => by cases h⟩
  · rw [hfn, hres]
    exact trodAll_mk1 (shut_bool hub _)
  · rw [hfn]
    exact trodAll_below hl hb _ _ _ _ hr hA (fun x hx => hlt x (by simp [hx]))
  · rw [hfn, hvars]
    rfl
end

/-! ### What a reading says of the cells that were read: 'Fit P W t cs d': the cells cs of type t read as d, each slice within the form's reach. -/
def Fit {H : Type} (enc : TypeId × Value → H) (P : Program) (W : World) (t : TypeId) (cs : List Value) (d : DataW H) : Prop :=
  (∃ fuel ps, DataW.trod enc P W 0 (fun _ => true) true fuel t cs = some (d, ps)) ∧ ∀ m ∈ d.weights P t, m ≤ reachBytes

section
variable {H : Type} {enc : TypeId × Value → H} {P : Program} {W : World}
theorem Fit.of_trod {t : TypeId} {v : Value} {d : DataW H} {p : List MemPlace} (h : DataW.Trod enc P W 0 (fun _ => true) true t v d p) {ts : List TypeId} {ds : List (DataW H)} (hz : (DataW.weightsEach P ts ds).all (· ≤ reachBytes) = true)
    {j : Nat} (ht : ts[j]? = some t) (hd : ds[j]? = some d) : Fit enc P W t v.cells.toList d := by
  obtain ⟨fuel, hf⟩ := h
  refine ⟨⟨fuel, p, hf⟩, fun m hm => ?_⟩
  have := List.all_eq_true.1 hz _ (DataW.weights_mem_each ht hd m hm)
  simpa using this

theorem Fit.int_ {t : TypeId} {k : IntKind} {cs : List Value} {d : DataW H} (ht : P.underlying t = some (.int k)) (h : Fit enc P W t cs d) : ∃ x, cs = [.int k x] ∧ (Lit.int k x).wf = true := by
  obtain ⟨⟨fuel, ps, hf⟩, _⟩ := h
  obtain ⟨x, h1, _, h3⟩ := DataW.trod_int ht hf
  exact ⟨x, h1, h3⟩
theorem wf_i64_bd {x : Int} (h : (Lit.int .i64 x).wf = true) : -9223372036854775808 ≤ x ∧ x ≤ 9223372036854775807 := by
  simp [Lit.wf, IntKind.min, IntKind.max, IntKind.signed, IntKind.bits] at h
  omega
theorem Fit.i64 {t : TypeId} {cs : List Value} {d : DataW H} (ht : P.underlying t = some (.int .i64)) (h : Fit enc P W t cs d) : ∃ x : Int, cs = [.int .i64 x] ∧ -9223372036854775808 ≤ x ∧ x ≤ 9223372036854775807 := by
  obtain ⟨x, h1, h2⟩ := h.int_ ht
  exact ⟨x, h1, (wf_i64_bd h2).1, (wf_i64_bd h2).2⟩
theorem Fit.u32 {t : TypeId} {cs : List Value} {d : DataW H} (ht : P.underlying t = some (.int .u32)) (h : Fit enc P W t cs d) : ∃ x : Int, cs = [.int .u32 x] ∧ 0 ≤ x ∧ x < 4294967296 := by
  obtain ⟨x, h1, h2⟩ := h.int_ ht
  refine ⟨x, h1, ?_⟩
  simp [Lit.wf, IntKind.min, IntKind.max, IntKind.signed, IntKind.bits] at h2
  omega
theorem Fit.bool_ {t : TypeId} {cs : List Value} {d : DataW H} (ht : P.underlying t = some .bool) (h : Fit enc P W t cs d) : ∃ b, cs = [.bool b] := by
  obtain ⟨⟨fuel, ps, hf⟩, _⟩ := h
  cases fuel with
  | zero => simp [DataW.trod] at hf
  | succ fuel =>
    simp only [DataW.trod, ht] at hf
    split at hf <;> first | (exact ⟨_, rfl⟩) | simp_all

theorem row_lt {a : Addr} {n : Nat} {ps : List MemPlace} (h : ∀ p ∈ MemPlace.row a n ++ ps, p.block < W.heap.size) (hn : 0 < n) : a.block < W.heap.size := by
  have : MemPlace.cell a.block (a.off + 0) ∈ MemPlace.row a n ++ ps := by
    simp only [MemPlace.row, List.mem_append, List.mem_map, List.mem_range]
    exact .inl ⟨0, hn, rfl⟩
  exact h _ this

/-- A slice of one-cell integers, opened. -/
theorem Fit.rowInts {t e : TypeId} {k : IntKind} {cs : List Value} {d : DataW H} (ht : P.underlying t = some (.slice e)) (he : P.underlying e = some (.int k)) (hc : P.cellsOf e = 1) (h : Fit enc P W t cs d) :
    ∃ (A : Option Addr) (n cap : Nat) (zs : List Int), cs = [.slice A n cap] ∧ n ≤ cap ∧ cap ≤ maxLen ∧ cap * P.bytesOf e ≤ reachBytes ∧ zs.length = n ∧ (∀ z ∈ zs, (Lit.int k z).wf = true) ∧
      (0 < n → ∃ b off, A = some ⟨b, off, none⟩ ∧ b < W.heap.size ∧ ∀ j z, zs[j]? = some z → W.cell? ⟨b, off + j, none⟩ = some (.int k z)) := by
  obtain ⟨⟨fuel, ps, hf⟩, hw⟩ := h
  have hlt := DataW.trod_lt fuel t cs _ hf
  rcases open_ints ht he hc hf with ⟨rfl, _⟩ | ⟨a, n, cap, zs, rfl, _, hl, hm, hz, hx, hcell, hwz⟩
  · exact ⟨none, 0, 0, [], rfl, by omega, by simp [maxLen], by simp, rfl, by simp, fun h => absurd h (by omega)⟩
  · simp only [if_true] at hz
    simp only [Prod.mk.injEq] at hx
    obtain ⟨rfl, rfl⟩ := hx
    have hwt : cap * P.bytesOf e ≤ reachBytes := by
      have := hw (((lits k (zs.take n) : List (DataW H)).length + (lits k (zs.drop n) : List (DataW H)).length) * P.bytesOf e) (by simp [DataW.weights, ht])
      have e1 : (lits k (zs.take n) : List (DataW H)).length + (lits k (zs.drop n) : List (DataW H)).length = cap := by
        simp [lits]; omega
      rwa [e1] at this
    refine ⟨some a, n, cap, zs.take n, rfl, hl, hm, hwt, by rw [List.length_take]; omega, fun z hz' => hwz z (List.mem_of_mem_take hz'), fun hn => ?_⟩
    obtain ⟨b, off, spot⟩ := a
    have h0 := hcell 0 (by omega)
    have hs : spot = none := by simpa [Addr.add] using World.cell?_spot h0
    subst hs
    refine ⟨b, off, rfl, row_lt (ps := []) (a := ⟨b, off, none⟩) (n := zs.length) (by simpa using hlt) (by omega), fun j z hj => ?_⟩
    have hj' : j < n := by
      have := (List.getElem?_eq_some_iff.1 hj).1
      rw [List.length_take] at this; omega
    rw [List.getElem?_take, if_pos hj'] at hj
    have := hcell j (by omega)
    rw [addr_add] at this
    rw [this]
    simp [List.getD, hj]
theorem wf_u8_bd {x : Int} (h : (Lit.int .u8 x).wf = true) : 0 ≤ x ∧ x ≤ 255 := by
  simp [Lit.wf, IntKind.min, IntKind.max, IntKind.signed, IntKind.bits] at h
  omega
/-- A list of bytes. -/
theorem Fit.bytes {t e : TypeId} {cs : List Value} {d : DataW H} (ht : P.underlying t = some (.slice e)) (he : P.underlying e = some (.int .u8)) (hc : P.cellsOf e = 1) (hb1 : P.bytesOf e = 1) (h : Fit enc P W t cs d) :
    ∃ (A : Option Addr) (n cap : Nat) (bs : List UInt8), cs = [.slice A n cap] ∧ n ≤ cap ∧ cap ≤ 140737488351232 ∧ RdB W W.heap.size A n bs := by
  obtain ⟨A, n, cap, zs, rfl, h1, _, h3, h4, h5, h6⟩ := h.rowInts ht he hc
  refine ⟨A, n, cap, zs.map fun z => UInt8.ofNat z.toNat, rfl, h1, by rw [hb1] at h3; simpa [reachBytes] using h3, ⟨by simp [bvs, h4], fun hn => ?_⟩⟩
  obtain ⟨b, off, rfl, hb, hcell⟩ := h6 hn
  refine ⟨b, off, rfl, hb, fun j u hu => ?_⟩
  simp only [bvs, List.map_map, List.getElem?_map, Option.map_eq_some_iff] at hu
  obtain ⟨z, hz, rfl⟩ := hu
  rw [hcell j z hz]
  have := wf_u8_bd (h5 z (List.mem_of_getElem? hz))
  simp only [Function.comp, Option.some.injEq, Value.int.injEq, true_and, UInt8.toNat_ofNat']
  rw [Nat.mod_eq_of_lt (by omega)]
  omega
/-- A list of ints. -/
theorem Fit.ints {t e : TypeId} {cs : List Value} {d : DataW H} (ht : P.underlying t = some (.slice e)) (he : P.underlying e = some (.int .i64)) (hc : P.cellsOf e = 1) (hb8 : P.bytesOf e = 8) (h : Fit enc P W t cs d) :
    ∃ (A : Option Addr) (n cap : Nat) (is : List Int), cs = [.slice A n cap] ∧ n ≤ cap ∧ cap * 8 ≤ 140737488351232 ∧ RdI W W.heap.size A n is ∧ ∀ x ∈ is, -9223372036854775808 ≤ x ∧ x ≤ 9223372036854775807 := by
  obtain ⟨A, n, cap, zs, rfl, h1, _, h3, h4, h5, h6⟩ := h.rowInts ht he hc
  refine ⟨A, n, cap, zs, rfl, h1, by rw [hb8] at h3; simpa [reachBytes] using h3, ⟨by simp [ivs, h4], fun hn => ?_⟩, fun x hx => wf_i64_bd (h5 x hx)⟩
  obtain ⟨b, off, rfl, hb, hcell⟩ := h6 hn
  refine ⟨b, off, rfl, hb, fun j u hu => ?_⟩
  simp only [ivs, List.getElem?_map, Option.map_eq_some_iff] at hu
  obtain ⟨z, hz, rfl⟩ := hu
  exact hcell j z hz
end
end Go.Proofs.YtffcepaegcllmaaDoor
