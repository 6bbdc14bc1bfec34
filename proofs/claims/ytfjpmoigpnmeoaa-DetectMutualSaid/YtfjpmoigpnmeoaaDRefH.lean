/-
  The document's detector: Tick, Leave, Heard.
-/
import Derived.Test.YtfjpmoigpnmeoaaDRefF
namespace Go.Proofs.Ytfjpmoigpnmeoaa
open Go.RowKit
variable {w : World} {F : Nat → Prop} {c : Cfg} {K : Nat} {l : List Ev} {v : Value}

/-- 'out = append(out, x)', an element of several cells: where the new row lies. -/
theorem appN2 {P : Program} {ops : Array Oper} {rest : List Oper} {o : Oper} {a : Act} {Q : Exit → Act → World → Prop} (W : World) (hgd : o.guard = none) (s x : Operand) (t : TypeId)
    (ho : o.op = .call { callee := .builtin .append, args := #[s, x], argTypes := #[t, t] })
    (base : Nat) (e : TypeId) (i : TypeInfo) (z : Value) (size bytes : Nat) (ht : P.underlying t = some (.slice e)) (hi : P.info? e = some i) (hz : i.zero = some z)
    (hsize : i.size = size) (hby : i.bytes = bytes) (hzs : z.cells.size = size) (hsz : 0 < size)
    (v : Value) (n : Nat) (xs : List Value) (hs : a.eval s = v) (hown : W.ownsRow base e size v n xs)
    (us : Array Value) (hu : us.size = size) (hx : a.eval x = .slice (some ⟨W.heap.size, 0, none⟩) 1 1) (h1 : ∀ u ∈ us.toList, u.oneCell' = true)
    (h63 : n + 1 ≤ maxLen) (hbytes : (n + 1) * bytes ≤ 140737488355328) (hbase : base ≤ W.heap.size)
    (h : ∀ v' w', w'.ownsRow base e size v' (n + 1) (xs ++ us.toList) → Below base W w' → W.grownBy w' v.ownBlock → (v'.ownBlock = v.ownBlock ∨ v'.ownBlock = some (W.heap.size + 1)) → wpList P ops Q rest (a.put o.dst v') w') :
    wpList P ops Q (o :: rest) a (W.alloc (.cells us e)) := by
  have hown2 : (W.alloc (.cells us e)).ownsRow base e size v n xs := hown.alloc _
  refine wpList_append_any (P := P) _ hgd s x t ho base e i z size bytes ht hi hz hsize hby hzs hsz v n xs hs hown2 (W.heap.size + 1) (some ⟨W.heap.size, 0, none⟩) 1 1 us.toList hx ?_ h1 h63 hbytes (by simp; omega) ?_
  · refine ⟨by simp [hu], fun _ => ⟨W.heap.size, 0, rfl, by omega, fun j y hj => ?_⟩⟩
    rw [Nat.zero_add, (Blk.new W e us).cell j, ← Array.getElem?_toList]
    exact hj
  · intro v' w' h2 h3 h4
    have hal : W.grownBy (W.alloc (.cells us e)) v.ownBlock := ⟨rfl, rfl, rfl, by simp, fun k hk _ => Below.heap_alloc _ _ _ hk⟩
    exact h v' w' h2 (((Below.refl _ _).alloc hbase _).trans (below_app hown2 h3 (by simp; omega)))
      ⟨h3.os.trans hal.os, h3.tape.trans hal.tape, h3.output.trans hal.output, Nat.le_trans hal.size h3.size, fun k hk hn => (h3.block k (by simp; omega) hn).trans (hal.block k hk hn)⟩ (by simpa using h4)
def Moved (w w' : World) (F F' : Nat → Prop) : Prop := (∀ k, F' k → F k ∨ w.heap.size ≤ k) ∧ Chg F w w'
theorem Moved.refl (w : World) (F : Nat → Prop) : Moved w w F F := ⟨fun _ h => .inl h, Chg.refl _ _⟩
theorem Moved.of_below {w w' : World} (F : Nat → Prop) (hb : Below w.heap.size w w') : Moved w w' F F := ⟨fun _ h => .inl h, Chg.of_below hb _⟩
theorem info_past : (Try.prog.info? 113).map (fun i => (i.zero, i.size, i.bytes)) = some (some (.agg #[.int .i64 0, .int .i64 0, .int .i64 0, .int .i64 0, .bool false]), 5, 40) := by kernel_rfl
theorem u_pasts : Try.prog.underlying 105 = some (.slice 113) := Try.underlying105
theorem evC_one (x : Ev) : ∀ u ∈ evC x, u.oneCell' = true := by
  intro u hu
  simp only [evC, List.mem_cons, List.not_mem_nil, or_false] at hu
  rcases hu with rfl | rfl | rfl | rfl | rfl <;> rfl
theorem RDx.app {w w0 w1 : World} {x : Ev} {v' : Value} (h : RD w F c K l v) (hF : ∀ k, F k → k < w.heap.size) (hl : ∀ x ∈ l, x.Ok) (hx : x.Ok) (hb : Below w.heap.size w w0) (hown : w1.ownsRow 0 113 5 v' (l.length + 1) (evV l ++ evC x)) (hg : w0.grownBy w1 v.ownBlock)
    (hat : v'.ownBlock = v.ownBlock ∨ v'.ownBlock = some (w0.heap.size + 1)) :
    ∃ F', RDx (w1.setCell ⟨K, 6, none⟩ v') F' c K (l ++ [x]) ∧ Moved w (w1.setCell ⟨K, 6, none⟩ v') F F' := by
  have hs := hb.size
  have hs1 := hg.size
  have hch : Chg (fun k => some k = v.ownBlock) w w1 := (Chg.of_below hb _).trans (Chg.of_grown hg)
  have hKv : ∀ g, v.ownBlock = some g → g ≠ K := fun g hg' e => by
    have := (own_isT h.row hg').eq_ (e ▸ h.blk.isT)
    exact absurd this (by decide)
  have hK1 := h.blk.chg hch (fun e => hKv K e.symm rfl)
  have hKv' : ∀ g, v'.ownBlock = some g → g ≠ K := fun g hg' e => by
    have := (own_isT hown hg').eq_ (e ▸ hK1.isT)
    exact absurd this (by decide)
  have hvl : ∀ g, v'.ownBlock = some g → g < w1.heap.size := fun g hg' => (own_block_lt hown hg').1
  refine ⟨fun k => F k ∨ (w.heap.size ≤ k ∧ k < w1.heap.size), ⟨fun k hk => ?_, fun y hy => ?_, v', ?_, ?_, .inl h.fk, fun g hg' => ?_⟩, fun k hk => hk.imp id And.left, ?_⟩
  · have e : (w1.setCell ⟨K, 6, none⟩ v').heap.size = w1.heap.size := by simp [World.setCell]
    rw [e]
    rcases hk with hk | hk
    · have := hF k hk; omega
    · exact hk.2
  · rcases List.mem_append.1 hy with hy | hy
    · exact hl y hy
    · rw [List.mem_singleton.1 hy]; exact hx
  · exact hK1.set_ 6 v'
  · rw [List.length_append, List.length_singleton, evV_snoc]
    exact own_chg hown ((Chg.refl (fun k => k = K) w1).setCell (p := ⟨K, 6, none⟩) (.inl rfl) v') fun g hg' => hKv' g hg'
  · rcases hat with hat | hat
    · rw [hat] at hg'; exact .inl (h.fr g hg')
    · right
      have := hvl g hg'
      rw [hat] at hg'
      injection hg' with hg'
      omega
  · exact (hch.mono fun k _ e => h.fr k e.symm).setCell (p := ⟨K, 6, none⟩) (.inl h.fk) v'
def StepsR (w : World) (F : Nat → Prop) (c : Cfg) (K : Nat) (l : List Ev) (x : Ev) (e : Ending) (w' : World) : Prop := e = .returned (.tuple #[]) ∧ ∃ F', RDx w' F' c K (l ++ [x]) ∧ Moved w w' F F'
set_option maxRecDepth 100000 in
set_option maxHeartbeats 1600000 in
theorem RTick_any (h : RD w F c K l v) (hF : ∀ k, F k → k < w.heap.size) (hl : ∀ x ∈ l, x.Ok) (hn : l.length < 3518437208883) :
    Calls Try.prog 48 #[.pointer (some ⟨K, 0, none⟩)] w (StepsR w F c K l ⟨1, 0, 0, 0, false⟩) := by
  obtain ⟨i0, hi0, hz0, hz1, hz2⟩ := info_parts info_past
  obtain ⟨c0, c1, c2, c3, c4, c5, c6⟩ := h.cell
  have hrow := h.row
  have kf := h.blk.frozen 6
  have hKl := h.blk.lt
  have HX := Lib.hid fun (w1 : World) (v' : Value) ho hg hat => RDx.app (w1 := w1) (v' := v') (x := ⟨1, 0, 0, 0, false⟩) h hF hl ⟨.inl rfl, fun e => by simp at e⟩ (Below.refl _ _) ho hg hat
  have HK := Lib.hid fun (w1 : World) (hg : w.grownBy w1 v.ownBlock) => (show w1.cell? ⟨K, 6, none⟩ = some v ∧ w1.frozen? ⟨K, 6, none⟩ = false from by
    have hb := h.blk.chg (Chg.of_grown hg) (fun e => by
      have := (own_isT h.row e.symm).eq_ h.blk.isT
      exact absurd this (by decide))
    exact ⟨hb.cell 6, hb.frozen 6⟩)
  generalize hL : l.length = L at *
  have HL := Lib.hid hL
  clear hL h hl
  obtain ⟨A, cap, rfl, hcp, hcm⟩ := own_shape hrow
  go_enter Try.func48, Try.ntmps48
  go_wp2_with (
    at_builtin
    refine appN2 w (by rfl) _ _ 105 (by rfl) 0 113 i0 _ 5 40 u_pasts hi0 hz0 hz1 hz2 rfl (by omega) _ _ _ (by rfl) hrow #[.int .i64 1, .int .i64 0, .int .i64 0, .int .i64 0, .bool false] rfl (by rfl) (evC_one ⟨1, 0, 0, 0, false⟩) (by simp only [maxLen]; omega) (by omega) (by omega) ?_
    intro v2 w2 hown2 _ hg2 hat2
    obtain ⟨k6, kf6⟩ := HK.out w2 hg2
    have HN := Lib.hid (HX.out w2 v2 hown2 hg2 hat2)
    obtain ⟨A2, cap2, rfl, _, _⟩ := own_shape hown2
    clear hown2 hg2 hat2)
  go_end0
  exact ⟨rfl, HN.out⟩
set_option maxRecDepth 100000 in
set_option maxHeartbeats 1600000 in
theorem RLeave_any (h : RD w F c K l v) (hF : ∀ k, F k → k < w.heap.size) (hl : ∀ x ∈ l, x.Ok) (hn : l.length < 3518437208883) :
    Calls Try.prog 49 #[.pointer (some ⟨K, 0, none⟩)] w (StepsR w F c K l ⟨3, 0, 0, 0, false⟩) := by
  obtain ⟨i0, hi0, hz0, hz1, hz2⟩ := info_parts info_past
  obtain ⟨c0, c1, c2, c3, c4, c5, c6⟩ := h.cell
  have hrow := h.row
  have HX := Lib.hid fun (w1 : World) (v' : Value) ho hg hat => RDx.app (w1 := w1) (v' := v') (x := ⟨3, 0, 0, 0, false⟩) h hF hl ⟨.inr (.inr rfl), fun e => by simp at e⟩ (Below.refl _ _) ho hg hat
  have HK := Lib.hid fun (w1 : World) (hg : w.grownBy w1 v.ownBlock) => (show w1.cell? ⟨K, 6, none⟩ = some v ∧ w1.frozen? ⟨K, 6, none⟩ = false from by
    have hb := h.blk.chg (Chg.of_grown hg) (fun e => by
      have := (own_isT h.row e.symm).eq_ h.blk.isT
      exact absurd this (by decide))
    exact ⟨hb.cell 6, hb.frozen 6⟩)
  generalize hL : l.length = L at *
  have HL := Lib.hid hL
  clear hL h hl
  obtain ⟨A, cap, rfl, hcp, hcm⟩ := own_shape hrow
  go_enter Try.func49, Try.ntmps49
  go_wp2_with (
    at_builtin
    refine appN2 w (by rfl) _ _ 105 (by rfl) 0 113 i0 _ 5 40 u_pasts hi0 hz0 hz1 hz2 rfl (by omega) _ _ _ (by rfl) hrow #[.int .i64 3, .int .i64 0, .int .i64 0, .int .i64 0, .bool false] rfl (by rfl) (evC_one ⟨3, 0, 0, 0, false⟩) (by simp only [maxLen]; omega) (by omega) (by omega) ?_
    intro v2 w2 hown2 _ hg2 hat2
    obtain ⟨k6, kf6⟩ := HK.out w2 hg2
    have HN := Lib.hid (HX.out w2 v2 hown2 hg2 hat2)
    obtain ⟨A2, cap2, rfl, _, _⟩ := own_shape hown2
    clear hown2 hg2 hat2)
  go_end0
  exact ⟨rfl, HN.out⟩
end Go.Proofs.Ytfjpmoigpnmeoaa
