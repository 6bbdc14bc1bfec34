/-
  JournalApplies: the two files in memory. And: JournalApplies: the law's helpers: full.
-/
import Derived.Test.YtpkdalpjfcopbaaDoorADisk
namespace Go.Proofs.YtpkdalpjfcopbaaDoor
open Go.RowKit
/-- The first k bytes are written over. -/
structure FullAt (w : World) (g : Nat) (cur : Array Value) (v : Value) (k : Nat) (wr : World) : Prop where
  chg : Chg (fun j => j = g) w wr
  blk : ∃ c, Blk wr g 5 c ∧ c.toList = List.replicate k v ++ cur.toList.drop k
theorem FullAt.step {w wr : World} {g k : Nat} {cur : Array Value} {v : Value} (h : FullAt w g cur v k wr) (hk : k < cur.size) : FullAt w g cur v (k + 1) (wr.setCell ⟨g, k, none⟩ v) := by
  obtain ⟨c, hB, hc⟩ := h.blk
  refine ⟨h.chg.setCell (p := ⟨g, k, none⟩) (.inl rfl) v, c.setIfInBounds k v, hB.set_ k v, ?_⟩
  rw [Array.toList_setIfInBounds, hc, List.set_append_right _ _ (by simp), List.length_replicate, Nat.sub_self, List.drop_eq_getElem_cons (by simpa using hk), List.set_cons_zero, List.replicate_succ', List.append_assoc]
  rfl
set_option maxRecDepth 100000 in
set_option maxHeartbeats 800000 in
theorem full_any {w : World} (g n cap : Nat) (cur : Array Value) (m : UInt8) (hB : Blk w g 5 cur) (hn : n ≤ cur.size) (hm : n ≤ 4611686018427387904) : Calls Tryd.prog 18 #[.slice (some ⟨g, 0, none⟩) n cap, .int .u8 (m.toNat : Int)] w fun e w' => e = .returned (.tuple #[]) ∧ FullAt w g cur (.int .u8 (m.toNat : Int)) n w' := by
  have HST : Hid (FullAt w g cur (.int .u8 (m.toNat : Int)) 0 w) := Lib.hid ⟨Chg.refl _ _, cur, hB, by simp⟩
  clear hB
  go_enter Tryd.func18, Tryd.ntmps18
  go_wp2_with fail
  go_loopw [4] (fun i wr => ∃ k : Nat, k ≤ n ∧ i = .int .i64 (k : Int) ∧ Hid (FullAt w g cur (.int .u8 (m.toNat : Int)) k wr)) (fun i _ => n - (intOf i).toNat)
  case atStart => exact ⟨0, by omega, rfl, HST⟩
  case round =>
    clear HST
    obtain ⟨k, hk, rfl, HT⟩ := hrel
    by_cases hlt : k < n
    · have hI : (k : Int) < (n : Int) := by omega
      obtain ⟨c, hC, hc⟩ := HT.out.blk
      have q0 : wr.frozen? ⟨g, k, none⟩ = false := hC.frozen k
      obtain ⟨u, hu⟩ : ∃ u, wr.cell? ⟨g, k, none⟩ = some u := by
        rw [hC.cell]
        have hl : k < c.size := by
          have : c.toList.length = c.size := by simp
          rw [← this, hc]
          simp
          omega
        exact ⟨c[k], Array.getElem?_eq_getElem hl⟩
      have HN := Lib.hid (HT.out.step (by omega))
      clear hC hc
      go_wp2
      go_roundw
      case rel => exact ⟨k + 1, by omega, by go_num, HN⟩
      case measure => simp [intOf] <;> omega
    · obtain rfl : k = n := by omega
      go_wp2
      go_end0
      exact ⟨rfl, HT.out⟩
end Go.Proofs.YtpkdalpjfcopbaaDoor
namespace Go.Proofs.YtpkdalpjfcopbaaDoor
open Go.RowKit
theorem region_tail {P : Program} {id : Nat} {Q : Exit → Act → World → Prop} {a : Act} {w : World} {l : List Oper} (n : Nat) (hm : P.follows .mixedOrders = true) (hB : Region.lexTailB .any l.toArray n = true)
    (h : wpStill P l.toArray w.drew (fun a' => wpList P l.toArray Q (l.drop n) a' w.drew) (l.take n) a) : (Code.region id l.toArray true).wp P Q a w := wp_region_still_tail n hm hB h
def vget (v0 v1 : Value) (i : Int) : Value := if i = 0 then v0 else v1
/-- A block of two lists of bytes, each with memory of its own. -/
structure Fl2 (w : World) (base D T : Nat) (v0 v1 : Value) (f : Fls) : Prop where
  blk : Blk w D T #[v0, v1]
  ge : base ≤ D
  o0 : w.ownsRow base 5 1 v0 f.a.length (bvs f.a)
  o1 : w.ownsRow base 5 1 v1 f.b.length (bvs f.b)
  ne : T ≠ 5
  ap : ∀ g, v0.ownBlock = some g → v1.ownBlock = some g → False
section
variable {w w' : World} {base D T : Nat} {v0 v1 : Value} {f : Fls}
theorem Fl2.cell (h : Fl2 w base D T v0 v1 f) {i : Int} (hi : i = 0 ∨ i = 1) : w.cell? ⟨D, i.toNat, none⟩ = some (vget v0 v1 i) := by
  rcases hi with rfl | rfl
  · exact h.blk.cell 0
  · exact h.blk.cell 1
theorem Fl2.own (h : Fl2 w base D T v0 v1 f) (i : Int) : w.ownsRow base 5 1 (vget v0 v1 i) (f.get i).length (bvs (f.get i)) := by
  unfold vget Fls.get
  split
  · exact h.o0
  · exact h.o1
theorem Fl2.below (h : Fl2 w base D T v0 v1 f) (hb : Below w.heap.size w w') : Fl2 w' base D T v0 v1 f :=
  ⟨h.blk.over hb, h.ge, own_over h.o0 hb, own_over h.o1 hb, h.ne, h.ap⟩
theorem Fl2.off (h : Fl2 w base D T v0 v1 f) {g : Nat} (i : Int) (hg : (vget v0 v1 i).ownBlock = some g) : g ≠ D ∧ g < w.heap.size ∧ base ≤ g := by
  obtain ⟨h1, h2, cur, h3⟩ := own_block_lt (h.own i) hg
  exact ⟨fun e => h.blk.ne_ h3 h.ne e.symm, h1, h2⟩
theorem vget_other {i : Int} (h : Fl2 w base D T v0 v1 f) {g : Nat} (h1 : (vget v0 v1 i).ownBlock = some g) (h2 : (if i = 0 then v1 else v0).ownBlock = some g) : False := by
  unfold vget at h1
  split at h1
  · rename_i e
    rw [if_pos e] at h2
    exact h.ap g h1 h2
  · rename_i e
    rw [if_neg e] at h2
    exact h.ap g h2 h1
/-- A list is laid over one of the two: it came from that one, or it is new, or it has no memory. -/
theorem Fl2.put (h : Fl2 w base D T v0 v1 f) {i : Int} (hi : i = 0 ∨ i = 1) {u : Value} {l : List UInt8} {w1 : World} (ho : w1.ownsRow base 5 1 u l.length (bvs l))
    (hc : Chg (fun k => some k = (vget v0 v1 i).ownBlock) w w1) (hu : ∀ g, u.ownBlock = some g → (vget v0 v1 i).ownBlock = some g ∨ w.heap.size ≤ g) :
    Fl2 (w1.setCell ⟨D, i.toNat, none⟩ u) base D T (if i = 0 then u else v0) (if i = 0 then v1 else u) (f.put i l) := by
  have hD : D < w.heap.size := h.blk.lt
  have hB : Blk w1 D T #[v0, v1] := h.blk.chg hc fun e => (h.off i e.symm).1 rfl
  have hun : ∀ g, u.ownBlock = some g → g ≠ D := fun g hg => by
    rcases hu g hg with e | e
    · exact (h.off i e).1
    · omega
  have far : ∀ {v : Value} {n : Nat} {xs : List Value}, w1.ownsRow base 5 1 v n xs → (∀ g, v.ownBlock = some g → g ≠ D) → (w1.setCell ⟨D, i.toNat, none⟩ u).ownsRow base 5 1 v n xs := fun ho hn =>
    own_chg ho ((Chg.refl (fun k => k = D) w1).setCell (p := ⟨D, i.toNat, none⟩) (.inl rfl) u) fun g hg e => hn g hg e
  have ho' := far ho hun
  rcases hi with rfl | rfl
  · have h1 : w1.ownsRow base 5 1 v1 f.b.length (bvs f.b) := own_chg h.o1 hc fun g hg e => h.ap g e.symm hg
    have hd1 : ∀ g, v1.ownBlock = some g → g ≠ D := fun g hg => (h.off (v0 := v0) 1 hg).1
    refine ⟨hB.set_ 0 u, h.ge, ho', far h1 hd1, h.ne, fun g h2 h3 => ?_⟩
    rcases hu g h2 with e | e
    · exact h.ap g e h3
    · have := (h.off (v0 := v0) 1 h3).2.1; omega
  · have h1 : w1.ownsRow base 5 1 v0 f.a.length (bvs f.a) := own_chg h.o0 hc fun g hg e => h.ap g hg e.symm
    have hd1 : ∀ g, v0.ownBlock = some g → g ≠ D := fun g hg => (h.off (v1 := v1) 0 hg).1
    refine ⟨hB.set_ 1 u, h.ge, far h1 hd1, ho', h.ne, fun g h2 h3 => ?_⟩
    rcases hu g h3 with e | e
    · exact h.ap g h2 e
    · have := (h.off (v1 := v1) 0 h2).2.1; omega
/-- What the two lists read as. -/
theorem Fl2.rd (h : Fl2 w base D T v0 v1 f) : ∃ A0 c0 A1 c1, v0 = .slice A0 f.a.length c0 ∧ v1 = .slice A1 f.b.length c1 ∧ RdB w w.heap.size A0 f.a.length f.a ∧ RdB w w.heap.size A1 f.b.length f.b := by
  obtain ⟨A0, c0, rfl, _, _⟩ := own_shape h.o0
  obtain ⟨A1, c1, rfl, _, _⟩ := own_shape h.o1
  exact ⟨A0, c0, A1, c1, rfl, rfl, Rd.of_own h.o0, Rd.of_own h.o1⟩
end
theorem hat_new {w : World} {v u : Value} {x : Value} (h : u.ownBlock = v.ownBlock ∨ u.ownBlock = some w.heap.size) (e : v = x) : ∀ g, u.ownBlock = some g → x.ownBlock = some g ∨ w.heap.size ≤ g := fun g hg => by
  subst e
  rcases h with h | h
  · exact .inl (h ▸ hg)
  · rw [h] at hg
    injection hg with hg
    exact .inr (by omega)
/-- An Apply under way: its result's block, the two files, all of it new. -/
structure ApSt (w : World) (R D T : Nat) (wr : World) (v0 v1 : Value) (f : Fls) : Prop where
  fl : Fl2 wr w.heap.size D T v0 v1 f
  res : Blk wr R 24 #[.slice none 0 0, .slice none 0 0]
  ge : w.heap.size ≤ R ∧ R ≠ D
  below : Below w.heap.size w wr
def GivesF (w : World) (f : Fls) (e : Ending) (w' : World) : Prop :=
  ∃ A0 c0 A1 c1, e = .returned (.agg #[.slice A0 f.a.length c0, .slice A1 f.b.length c1]) ∧ w'.ownsRow w.heap.size 5 1 (.slice A0 f.a.length c0) f.a.length (bvs f.a) ∧ w'.ownsRow w.heap.size 5 1 (.slice A1 f.b.length c1) f.b.length (bvs f.b) ∧
    (∀ g, (Value.slice A0 f.a.length c0).ownBlock = some g → (Value.slice A1 f.b.length c1).ownBlock = some g → False) ∧ Below w.heap.size w w'
section
variable {w wr w' : World} {R D T : Nat} {v0 v1 : Value} {f : Fls}
theorem ApSt.over (h : ApSt w R D T wr v0 v1 f) (hb : Below wr.heap.size wr w') : ApSt w R D T w' v0 v1 f :=
  ⟨h.fl.below hb, h.res.over hb, h.ge, h.below.trans (hb.mono h.below.size)⟩
theorem ApSt.put (h : ApSt w R D T wr v0 v1 f) {i : Int} (hi : i = 0 ∨ i = 1) {u : Value} {l : List UInt8} {w1 : World} (ho : w1.ownsRow w.heap.size 5 1 u l.length (bvs l))
    (hc : Chg (fun k => some k = (vget v0 v1 i).ownBlock) wr w1) (hu : ∀ g, u.ownBlock = some g → (vget v0 v1 i).ownBlock = some g ∨ wr.heap.size ≤ g) :
    ApSt w R D T (w1.setCell ⟨D, i.toNat, none⟩ u) (if i = 0 then u else v0) (if i = 0 then v1 else u) (f.put i l) := by
  have hcs : Chg (fun k => k = D) w1 (w1.setCell ⟨D, i.toNat, none⟩ u) := (Chg.refl (fun k => k = D) w1).setCell (p := ⟨D, i.toNat, none⟩) (.inl rfl) u
  refine ⟨h.fl.put hi ho hc hu, (h.res.chg hc fun e => ?_).chg hcs fun e => h.ge.2 e, h.ge, ?_⟩
  · obtain ⟨_, _, cur, hB⟩ := own_block_lt (h.fl.own i) e.symm
    exact hB.ne_ h.res (by decide) rfl
  · exact h.below.trans ((hc.to_below h.below.size fun k e => (h.fl.off i e.symm).2.2).trans (hcs.to_below (Nat.le_trans h.below.size hc.size) fun k e => by rw [e]; exact h.fl.ge))
theorem ApSt.blk4 (h : ApSt w R D T wr v0 v1 f) {i : Int} (_hi : i = 0 ∨ i = 1) {w1 : World} (hc : Chg (fun k => some k = (vget v0 v1 i).ownBlock) wr w1) : Blk w1 D T #[v0, v1] :=
  h.fl.blk.chg hc fun e => (h.fl.off i e.symm).1 rfl
/-- Another block stays. -/
theorem ApSt.box (h : ApSt w R D T wr v0 v1 f) {X t : Nat} {cs : Array Value} (hX : Blk wr X t cs) (ht : t ≠ 5) (i : Int) {w1 : World} (hc : Chg (fun k => some k = (vget v0 v1 i).ownBlock) wr w1) : Blk w1 X t cs :=
  hX.chg hc fun e => by
    obtain ⟨_, _, cur, hB⟩ := own_block_lt (h.fl.own i) e.symm
    exact hB.ne_ hX (Ne.symm ht) rfl
/-- The result is laid. -/
theorem ApSt.fin (h : ApSt w R D T wr v0 v1 f) {A0 A1 : Option Addr} {c0 c1 : Nat} (e0 : v0 = .slice A0 f.a.length c0) (e1 : v1 = .slice A1 f.b.length c1) :
    GivesF w f (.returned (.agg #[.slice A0 f.a.length c0, .slice A1 f.b.length c1])) ((wr.setCell ⟨R, 0, none⟩ v0).setCell ⟨R, 1, none⟩ v1) ∧ Blk ((wr.setCell ⟨R, 0, none⟩ v0).setCell ⟨R, 1, none⟩ v1) R 24 #[v0, v1] := by
  have hc : Chg (fun k => k = R) wr ((wr.setCell ⟨R, 0, none⟩ v0).setCell ⟨R, 1, none⟩ v1) := ((Chg.refl (fun k => k = R) wr).setCell (p := ⟨R, 0, none⟩) (.inl rfl) v0).setCell (p := ⟨R, 1, none⟩) (.inl rfl) v1
  have nr : ∀ {v : Value} {n : Nat} {xs : List Value}, wr.ownsRow w.heap.size 5 1 v n xs → ∀ g, v.ownBlock = some g → ¬ g = R := fun ho g hg e => by
    obtain ⟨_, _, cur, hB⟩ := own_block_lt ho hg
    subst e
    exact hB.ne_ h.res (by decide) rfl
  subst e0 e1
  exact ⟨⟨A0, c0, A1, c1, rfl, own_chg h.fl.o0 hc (nr h.fl.o0), own_chg h.fl.o1 hc (nr h.fl.o1), h.fl.ap, h.below.trans (hc.to_below h.below.size fun k e => by rw [e]; exact h.ge.1)⟩, (h.res.set_ 0 _).set_ 1 _⟩
end
/-- 'append(s, x)' with x in a cell of its own, inside a region that draws; tells where the row lies then. -/
theorem step_appn {P : Program} {ops : Array Oper} {o : Oper} {a : Act} {K : Act → World → Prop} {Q : Exit → Act → World → Prop} {E : Prop} (W : World) (hgd : o.guard = none) (s x : Operand) (t : TypeId)
    (ho : o.op = .call { callee := .builtin .append, args := #[s, x], argTypes := #[t, t] })
    (base : Nat) (e : TypeId) (i : TypeInfo) (z : Value) (bytes : Nat) (ht : P.underlying t = some (.slice e)) (hi : P.info? e = some i) (hz : i.zero = some z)
    (hsize : i.size = 1) (hby : i.bytes = bytes) (hzs : z.cells.size = 1)
    (v : Value) (n : Nat) (xs : List Value) (hs : a.eval s = v) (hown : W.ownsRow base e 1 v n xs)
    (u : Value) (hx : a.eval x = .slice (some ⟨W.heap.size, 0, none⟩) 1 1) (h1 : u.oneCell' = true)
    (h63 : n + 1 ≤ maxLen) (hbytes : (n + 1) * bytes ≤ 140737488355328) (hbase : base ≤ W.heap.size)
    (h : ∀ v' w', w'.ownsRow base e 1 v' (n + 1) (xs ++ [u]) → Chg (fun k => some k = v.ownBlock) W w' → (∀ g, v'.ownBlock = some g → v.ownBlock = some g ∨ W.heap.size ≤ g) → K (a.put o.dst v') w') :
    if Region.wanted o (yielded ops a.tmps) = true then Oper.wp P o a (W.alloc (.cells #[u] e)) K Q else E := by
  have hown2 : (W.alloc (.cells #[u] e)).ownsRow base e 1 v n xs := hown.alloc _
  refine step_append_any (P := P) _ hgd s x t ho base e i z 1 bytes ht hi hz hsize hby hzs (by omega) v n xs hs hown2 (W.heap.size + 1) (some ⟨W.heap.size, 0, none⟩) 1 1 [u] hx ?_ (by simpa using h1) h63 hbytes (by simp; omega) ?_
  · refine ⟨by simp, fun _ => ⟨W.heap.size, 0, rfl, by omega, fun j y hj => ?_⟩⟩
    match j, hj with
    | 0, hj =>
      simp only [List.getElem?_cons_zero, Option.some.injEq] at hj
      subst hj
      exact (Blk.new W e #[u]).cell 0
    | j + 1, hj => simp at hj
  · intro v' w' h2 h3 h4
    refine h v' w' h2 ((Chg.of_below (one_box' W (.cells #[u] e)) _).thenS (Chg.of_grown h3) fun k _ e => e) fun g hg => ?_
    rcases h4 with h4 | h4
    · exact .inl (h4 ▸ hg)
    · rw [h4] at hg
      injection hg with hg
      refine .inr ?_
      rw [← hg]
      simp
theorem wr_ok {x : Wr} : x.ok = true ↔ x.file = 0 ∨ x.file = 1 := by simp [Wr.ok]
end Go.Proofs.YtpkdalpjfcopbaaDoor
