/-
  The program's Held, Reset, New.
-/
import Derived.Test.YtgapkphkcncgeaaDoorJTakeQ
import Derived.Test.YtgapkphkcncgeaaDoorJRest
import Derived.Lib.SliceRun
namespace Go.Proofs.YtgapkphkcncgeaaDoor
open Go.RowKit

set_option maxRecDepth 100000 in
set_option maxHeartbeats 1600000 in
theorem PHeld_any (J N : Nat) (F : Nat → Prop) (st : JSt) (s : Int) (w : World) (h : PJx w F N J st) (hok : PartsOk N st) :
    Calls Tryd.prog 22 #[.pointer (some ⟨J, 0, none⟩), .int .i64 s] w fun e w' => e = .returned (.int .i64 (heldS N st s : Int)) ∧ w = w' := by
  obtain ⟨hF, O, pg, cs, hj⟩ := h
  have hc0 : w.cell? ⟨J, 0, none⟩ = some (.slice (some ⟨O, 0, none⟩) N N) := by rw [hj.blk.cell]; rfl
  by_cases hs : s < 0 ∨ (N : Int) ≤ s
  · have HH := Lib.hid (show heldS N st s = 0 by unfold heldS; rw [if_pos hs])
    clear hj hF
    rcases hs with hs | hs
    · go_enter Tryd.func22, Tryd.ntmps22
      go_wp2
      go_ret
      exact ⟨by rw [HH.out]; rfl, rfl⟩
    · have hs' : ¬ s < 0 := by omega
      go_enter Tryd.func22, Tryd.ntmps22
      go_wp2
      go_ret
      exact ⟨by rw [HH.out]; rfl, rfl⟩
  · obtain ⟨k, rfl⟩ := Int.eq_ofNat_of_zero_le (show 0 ≤ s by omega)
    have HH := Lib.hid (show heldS N st (k : Int) = (blobS (st k)).length by unfold heldS; rw [if_neg hs, Int.toNat_natCast])
    have hk : k < N := by omega
    have hs1 : (k : Int) < (N : Int) := by omega
    have hs2 : ¬ (k : Int) < 0 := by omega
    have hck : w.cell? ⟨O, k, none⟩ = some (openV st pg k) := by rw [hj.list.cell]; exact hj.at_ k hk
    by_cases hne : st k = []
    · have hop : openV st pg k = .pointer none := by unfold openV; rw [if_pos hne]
      have HL := Lib.hid (show (blobS (st k)).length = 0 by rw [hne]; rfl)
      rw [hop] at hck
      clear hop hne hs hj hF
      go_enter Tryd.func22, Tryd.ntmps22
      go_wp2
      go_ret
      exact ⟨by rw [HH.out, HL.out]; rfl, rfl⟩
    · obtain ⟨P, hP⟩ : ∃ P, P = (pg k).1 := ⟨_, rfl⟩
      have hop : openV st pg k = .pointer (some ⟨P, 0, none⟩) := by unfold openV; rw [if_neg hne, hP]
      rw [hop] at hck
      have hPB := hj.part k hk hne
      obtain ⟨K0, hK⟩ : ∃ K0, K0 = 248 * (st k).length := ⟨_, rfl⟩
      rw [← hP, ← hK] at hPB
      have p2 := hPB.cell 2
      replace p2 : w.cell? ⟨P, 2, none⟩ = some (.slice (some ⟨(pg k).2, 0, none⟩) K0 (cSize ((st k).headD []))) := p2
      have HL := Lib.hid (show (blobS (st k)).length = K0 by rw [hK]; exact (hok k hk).len)
      clear hop hne hs hj hF hP hK hPB
      generalize (pg k).2 = G at *
      generalize cSize ((st k).headD []) = S at *
      go_enter Tryd.func22, Tryd.ntmps22
      go_wp2
      go_ret
      exact ⟨by rw [HH.out, HL.out]; rfl, rfl⟩
theorem setCells_blk {g : Nat} {t : TypeId} : ∀ (vs : List Value) (o : Nat) (w : World) (cs : Array Value), Blk w g t cs → o + vs.length ≤ cs.size →
    ∃ cs', Blk (w.setCells g o vs) g t cs' ∧ cs'.size = cs.size ∧ (∀ j, j < o → cs'[j]? = cs[j]?) ∧ (∀ (j : Nat) (v : Value), vs[j]? = some v → cs'[o + j]? = some v) ∧ Chg (fun k => k = g) w (w.setCells g o vs)
  | [], o, w, cs, h, _ => ⟨cs, h, rfl, fun _ _ => rfl, fun j v hv => by simp at hv, Chg.refl _ _⟩
  | v :: r, o, w, cs, h, hl => by
    simp only [List.length_cons] at hl
    obtain ⟨cs', h1, h2, h3, h4, h5⟩ := setCells_blk r (o + 1) (w.setCell ⟨g, o, none⟩ v) (cs.setIfInBounds o v) (h.set_ o v) (by rw [Array.size_setIfInBounds]; omega)
    refine ⟨cs', h1, by rw [h2, Array.size_setIfInBounds], fun j hj => ?_, fun j u hu => ?_, ((Chg.refl (fun k => k = g) w).setCell (p := ⟨g, o, none⟩) (.inl rfl) v).trans h5⟩
    · rw [h3 j (by omega), Array.getElem?_setIfInBounds_ne (by omega)]
    · match j, hu with
      | 0, hu =>
        simp only [List.getElem?_cons_zero, Option.some.injEq] at hu
        subst hu
        rw [Nat.add_zero, h3 o (by omega), Array.getElem?_setIfInBounds_self_of_lt (by omega)]
      | j + 1, hu =>
        rw [List.getElem?_cons_succ] at hu
        rw [← h4 j u hu]
        congr 1
        omega
theorem zero_ptr (w : World) : (zeroValue 69).run Tryd.prog w = .ok (.pointer none) w := by kernel_rfl

set_option maxRecDepth 100000 in
set_option maxHeartbeats 1600000 in
theorem PReset_any (J N : Nat) (F : Nat → Prop) (st : JSt) (w : World) (h : PJx w F N J st) (hN : 1 ≤ N) :
    Calls Tryd.prog 24 #[.pointer (some ⟨J, 0, none⟩)] w fun e w' => e = .returned (.tuple #[]) ∧ PJx w' F N J (fun _ => []) ∧ Moved w w' F F := by
  obtain ⟨hF, O, pg, cs, hj⟩ := h
  have hc0 : w.cell? ⟨J, 0, none⟩ = some (.slice (some ⟨O, 0, none⟩) N N) := by rw [hj.blk.cell]; rfl
  have hcl : ∀ ty, (Builtin.clear_ #[59] ty #[.slice (some ⟨O, 0, none⟩) N N]).run Tryd.prog w = .ok (.tuple #[]) (w.setCells O 0 (List.replicate N (.pointer none))) :=
    fun ty => Lib.run_clear_slice w _ 69 ty (.pointer none) Tryd.underlying59 zero_ptr rfl rfl O 0 N N (by omega) (fun t ht => by
      rw [Nat.zero_add, hj.list.cell, Array.getElem?_eq_getElem (by rw [hj.size]; exact ht)]; rfl) (fun t ht => hj.list.frozen _)
  go_enter Tryd.func24, Tryd.ntmps24
  obtain ⟨cs', h1, h2, h3, h4, h5⟩ := setCells_blk (List.replicate N (.pointer none)) 0 w cs hj.list (by rw [List.length_replicate, hj.size]; omega)
  have HX := Lib.hid (show PJx (w.setCells O 0 (List.replicate N (.pointer none))) F N J (fun _ => []) ∧ Moved w (w.setCells O 0 (List.replicate N (.pointer none))) F F from
    ⟨⟨fun k hk => Nat.lt_of_lt_of_le (hF k hk) h5.size, O, pg, cs', hj.blk.chg h5 (hj.blk.ne_ hj.list (by decide)), h1, by rw [h2, hj.size], fun s hs => by
      have := h4 s (.pointer none) (by rw [List.getElem?_replicate, if_pos hs])
      rw [Nat.zero_add] at this
      rw [this]; simp [openV], fun s _ h => absurd rfl h, fun s _ h => absurd rfl h, fun s t _ _ h => absurd rfl h, hj.fj, fun s _ h => absurd rfl h⟩, ⟨fun k hk => .inl hk, h5.mono fun k _ e => by subst e; exact hj.fj.2⟩⟩)
  clear h1 h2 h3 h4 h5 hj
  go_wp2
  go_end0
  exact ⟨rfl, HX.out.1, HX.out.2⟩

set_option maxRecDepth 100000 in
set_option maxHeartbeats 800000 in
theorem PNew_no (x : Int) (w : World) (h : x < 1 ∨ 16 < x) :
    Calls Tryd.prog 17 #[.int .i64 x] w fun e w' => e = .returned (.tuple #[.pointer none, .int .i64 1]) ∧ w = w' := by
  rcases h with h | h
  · go_enter Tryd.func17, Tryd.ntmps17
    go_wp2
    go_ret2
    exact ⟨rfl, rfl⟩
  · have h' : ¬ x < 1 := by omega
    go_enter Tryd.func17, Tryd.ntmps17
    go_wp2
    go_ret2
    exact ⟨rfl, rfl⟩
def NewsP (w : World) (N : Nat) (e : Ending) (w' : World) : Prop := ∃ (J : Nat) (F : Nat → Prop), e = .returned (.tuple #[.pointer (some ⟨J, 0, none⟩), .int .i64 0]) ∧ PJx w' F N J (fun _ => []) ∧ (∀ k, F k → w.heap.size ≤ k) ∧ Below w.heap.size w w'
theorem info_ptr : (Tryd.prog.info? 69).map (fun i => (i.zero, i.size, i.bytes)) = some (some (.pointer none), 1, 8) := by kernel_rfl
set_option maxRecDepth 100000 in
set_option maxHeartbeats 800000 in
theorem PNew_yes (N : Nat) (w : World) (h1 : 1 ≤ N) (h2 : N ≤ 16) :
    Calls Tryd.prog 17 #[.int .i64 (N : Int)] w (NewsP w N) := by
  obtain ⟨i0, hi0, hz0, hz1, hz2⟩ := info_parts info_ptr
  have hmk := run_make_rowN (P := Tryd.prog) 59 69 i0 (.pointer none) Tryd.underlying59 hi0 hz0 .i64 .i64 N N (by omega) (by rw [hz2]; omega) (by omega)
  rw [hz1] at hmk
  simp only [Nat.mul_one] at hmk
  have h1' : ¬ (N : Int) < 1 := by omega
  have h2' : ¬ 16 < (N : Int) := by omega
  go_enter Tryd.func17, Tryd.ntmps17
  go_wp2
  go_ret2
  have hB1 : Blk (w.alloc (Obj.cells (madeCells #[Value.pointer none] N) 69)) w.heap.size 69 (madeCells #[Value.pointer none] N) := Blk.new _ _ _
  have hb1 : Below w.heap.size w (w.alloc (Obj.cells (madeCells #[Value.pointer none] N) 69)) := one_box' _ _
  have hz : (w.alloc (Obj.cells (madeCells #[Value.pointer none] N) 69)).heap.size = w.heap.size + 1 := by simp
  generalize (w.alloc (Obj.cells (madeCells #[Value.pointer none] N) 69)) = w1 at hB1 hb1 hz ⊢
  have hB2 := Blk.new w1 61 #[Value.slice (some ⟨w.heap.size, 0, none⟩) N N]
  have hb2 := one_box' w1 (Obj.cells #[Value.slice (some ⟨w.heap.size, 0, none⟩) N N] 61)
  have hB1' := hB1.over hb2
  have hz2 : (w1.alloc (Obj.cells #[Value.slice (some ⟨w.heap.size, 0, none⟩) N N] 61)).heap.size = w.heap.size + 2 := by simp [hz]
  rw [hz] at hB2
  refine ⟨w.heap.size + 1, fun k => k = w.heap.size ∨ k = w.heap.size + 1, rfl, ⟨fun k hk => by rw [hz2]; omega, w.heap.size, fun _ => (0, 0), _, hB2, hB1', by simp [size_madeCells], fun s hs => ?_, fun s _ h => absurd rfl h, fun s _ h => absurd rfl h, fun s t _ _ h => absurd rfl h, ⟨.inr rfl, .inl rfl⟩, fun s _ h => absurd rfl h⟩, fun k hk => by omega, hb1.trans (hb2.mono (by omega))⟩
  rw [← Array.getElem?_toList, toList_madeCells_one, List.getElem?_replicate, if_pos hs]
  simp [openV]
end Go.Proofs.YtgapkphkcncgeaaDoor
