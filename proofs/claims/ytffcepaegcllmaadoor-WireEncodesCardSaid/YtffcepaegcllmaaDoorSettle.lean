/-
  Book.Settle: all that was kept untouched shows what it showed; all of it is written full, then grown; and all is looked at again.
-/
import Derived.Test.YtffcepaegcllmaaDoorBook
namespace Go.Proofs.YtffcepaegcllmaaDoor
open Go.RowKit

theorem pg_cells_length (p : Pg) : p.cells.length = 5 := rfl
theorem flat_set (ps : List Pg) (k j : Nat) (p q : Pg) (u : Value) (h : ps[k]? = some p) (hj : j < 5) (hq : q.cells = p.cells.set j u) : (ps.set k q).flatMap Pg.cells = (ps.flatMap Pg.cells).set (k * 5 + j) u := by
  induction ps generalizing k with
  | nil => simp at h
  | cons r ps ih =>
    cases k with
    | zero =>
      simp only [List.getElem?_cons_zero, Option.some.injEq] at h
      subst h
      rw [List.set_cons_zero, List.flatMap_cons, List.flatMap_cons, hq, List.set_append_left _ _ (by rw [pg_cells_length]; omega)]
      simp
    | succ k =>
      rw [List.getElem?_cons_succ] at h
      rw [List.set_cons_succ, List.flatMap_cons, List.flatMap_cons, ih k h, List.set_append_right _ _ (by rw [pg_cells_length]; omega), pg_cells_length]
      congr 2
      omega
section
variable {K : Sort2} {w w' wr w4 : World} {FP : Nat → Prop} {gP cap k j L : Nat} {ps : List Pg} {cur : Array Value} {p q : Pg} {u gv : Value}
theorem ShelfIs.upd (h : ShelfIs K w FP ps (.slice (some ⟨gP, 0, none⟩) ps.length cap)) (hB : Blk w gP K.T cur) (hk : ps[k]? = some p) (hj : j < 5) (hq : q.cells = p.cells.set j u)
    (hB' : Blk w' gP K.T (cur.setIfInBounds (k * 5 + j) u)) (hok : PgOk K w' q) (hc : Chg (fun x => x = gP ∨ p.blks x) w w') (hbl : ∀ g, q.blks g → p.blks g ∨ w.heap.size ≤ g) (hnew : ∀ g, w.heap.size ≤ g → FP g) :
    ShelfIs K w' FP (ps.set k q) (.slice (some ⟨gP, 0, none⟩) ps.length cap) := by
  have hkl : k < ps.length := (List.getElem?_eq_some_iff.1 hk).1
  have hpm : p ∈ ps := List.mem_of_getElem? hk
  have hpe : ps[k] = p := (List.getElem?_eq_some_iff.1 hk).2
  have hap := List.pairwise_iff_getElem.1 h.apart
  have hfar : ∀ i (hi : i < ps.length), i ≠ k → ∀ g, ps[i].blks g → ¬ (g = gP ∨ p.blks g) := by
    rintro i hi hik g hg (hx | hx)
    · have ht := (h.pages _ (List.getElem_mem hi)).blk_isT hg
      subst hx
      exact K.ne (hB.isT.eq_ ht)
    · rcases Nat.lt_or_gt_of_ne hik with hlt | hlt
      · exact hap i k hi hkl hlt g hg (by rw [hpe]; exact hx)
      · exact hap k i hkl hi hlt g (by rw [hpe]; exact hx) hg
  refine ⟨?_, h.fr, ?_, ?_, ?_⟩
  · obtain ⟨g', cap', cur', hv, hb, hBx, h1, h2, h3, h4⟩ := own_parts h.rows (by omega)
    simp only [Value.slice.injEq, Option.some.injEq, Addr.mk.injEq, and_true, true_and] at hv
    obtain ⟨rfl, rfl⟩ := hv
    have hcc : cur' = cur := by
      unfold Blk at hBx hB
      rw [hBx] at hB
      injection hB with hB
      injection hB
    subst hcc
    refine ⟨by rw [flat_set ps k j p q u hk hj hq, List.length_set, List.length_set]; exact h.rows.1, .inr ⟨gP, cap, _, by rw [List.length_set], hb, hB', by rw [List.length_set]; exact h1, h2, by simpa using h3, ?_⟩⟩
    rw [Array.toList_setIfInBounds, List.take_set, List.length_set, h4, flat_set ps k j p q u hk hj hq]
  · intro x hx
    obtain ⟨i, hi, rfl⟩ := List.mem_iff_getElem.1 hx
    rw [List.length_set] at hi
    rw [List.getElem_set]
    split
    · exact hok
    · rename_i hne
      exact (h.pages _ (List.getElem_mem hi)).keep hc (hfar i hi (fun e => hne e.symm))
  · intro x hx g hg
    obtain ⟨i, hi, rfl⟩ := List.mem_iff_getElem.1 hx
    rw [List.length_set] at hi
    rw [List.getElem_set] at hg
    split at hg
    · rcases hbl g hg with hx | hx
      · exact h.fp p hpm g hx
      · exact hnew g hx
    · exact h.fp _ (List.getElem_mem hi) g hg
  · rw [List.pairwise_iff_getElem]
    intro i j' hi hj' hij
    rw [List.length_set] at hi hj'
    rw [List.getElem_set, List.getElem_set]
    split
    · rename_i e
      subst e
      rw [if_neg (by omega)]
      intro g hg hg'
      rcases hbl g hg with hx | hx
      · exact hap k j' hkl hj' hij g (by rw [hpe]; exact hx) hg'
      · have := ((h.pages _ (List.getElem_mem hj')).blk_lt hg').1; omega
    · split
      · rename_i e
        subst e
        intro g hg hg'
        rcases hbl g hg' with hx | hx
        · exact hap i k hi hkl hij g hg (by rw [hpe]; exact hx)
        · have := ((h.pages _ (List.getElem_mem hi)).blk_lt hg).1; omega
      · exact hap i j' hi hj' hij

theorem ShelfIs.filled_ (h : ShelfIs K wr FP ps (.slice (some ⟨gP, 0, none⟩) L cap)) (hL : ps.length = L)
    (hpk : ps[k]? = some p) (hBP : Blk wr gP K.T cur) (hB4 : Blk w4 gP K.T (cur.setIfInBounds (k * 5 + 4) (.bool true))) (hown4 : w4.ownsRow 0 K.E 1 p.bv p.n (K.mark p.id p.n))
    (hch4 : Chg (fun x => x = gP ∨ p.bv.ownBlock = some x) wr w4) (hnew : ∀ g, wr.heap.size ≤ g → FP g) :
    ShelfIs K w4 FP (ps.set k { p with bs := K.mark p.id p.n, st := 1 }) (.slice (some ⟨gP, 0, none⟩) L cap) := by
  subst hL
  have hok := h.pages p (List.mem_of_getElem? hpk)
  refine h.upd hBP hpk (j := 4) (by omega) rfl hB4 ?_ (hch4.mono fun x _ hx => hx.imp id fun hx => .inl hx) (fun g hg => ?_) hnew
  · exact ⟨hown4, hok.small, hok.id0, hok.id1, K.mkok _ _, fun h => by simp at h, fun _ => rfl, fun h => by simp at h, by simp, hok.gsl, hok.wsl⟩
  · rcases hg with hg | ⟨hg, _⟩ | ⟨hg, _⟩
    · exact .inl (.inl hg)
    · simp at hg
    · simp at hg
theorem ShelfIs.grown_ (h : ShelfIs K wr FP ps (.slice (some ⟨gP, 0, none⟩) L cap)) (hL : ps.length = L)
    (hpk : ps[k]? = some p) (hp1 : p.st = 1) (hBP : Blk wr gP K.T cur) (hB4 : Blk w4 gP K.T (cur.setIfInBounds (k * 5 + 1) gv)) (hown4 : w4.ownsRow 0 K.E 1 p.bv p.n p.bs)
    (hgr4 : w4.ownsRow 0 K.E 1 gv (p.n + 64) (p.bs ++ K.mark (p.id + 100000) 64)) (hat : gv.ownBlock = p.bv.ownBlock ∨ ∃ g, gv.ownBlock = some g ∧ wr.heap.size ≤ g)
    (hch4 : Chg (fun x => x = gP ∨ p.bv.ownBlock = some x) wr w4) (hnew : ∀ g, wr.heap.size ≤ g → FP g) :
    ShelfIs K w4 FP (ps.set k { p with gv := gv, st := 2 }) (.slice (some ⟨gP, 0, none⟩) L cap) := by
  subst hL
  have hok := h.pages p (List.mem_of_getElem? hpk)
  have hgs : ∃ A n c, gv = .slice A n c := by
    obtain ⟨A, c, e, _⟩ := own_shape hgr4
    exact ⟨A, _, c, e⟩
  refine h.upd hBP hpk (j := 1) (by omega) (by simp [Pg.cells, hp1]) hB4 ?_ (hch4.mono fun x _ hx => hx.imp id fun hx => .inl hx) (fun g hg => ?_) hnew
  · exact ⟨hown4, hok.small, hok.id0, hok.id1, hok.bytes, fun h => by simp at h, fun _ => hok.full (by omega), fun _ => hgr4, by simp, hgs, hok.wsl⟩
  · rcases hg with hg | ⟨hg, _⟩ | ⟨_, hg⟩
    · exact .inl (.inl hg)
    · simp at hg
    · simp only at hg
      rcases hat with hat | ⟨g', hat, hge⟩
      · exact .inl (.inl (hat ▸ hg))
      · rw [hat, Option.some.injEq] at hg
        subst hg
        exact .inr hge
end
theorem info_bool : (Tryd.prog.info? 4).map (fun i => (i.zero, i.size, i.bytes)) = some (some (.bool false), 1, 1) := by kernel_rfl
theorem u_bools : Tryd.prog.underlying 98 = some (.slice 4) := Tryd.underlying98
section
variable {w w' : World} {FP : Nat → Prop} {gb X gP k L M : Nat} {ps qs : List Pg} {next : Int} {pv iv : Value} {cX cur : Array Value} {p : Pg}
theorem BookIs.setX (h : BookIs w FP gb ps qs next pv iv) (hX : Blk w X 4 cX) (hF : FP X) (k : Nat) (u : Value) : BookIs (w.setCell ⟨X, k, none⟩ u) FP gb ps qs next pv iv ∧ Chg FP w (w.setCell ⟨X, k, none⟩ u) := by
  refine ⟨h.chg ((Chg.refl (fun x => x = X) w).setCell (p := ⟨X, k, none⟩) (.inl rfl) u) ?_, (Chg.refl FP w).setCell (p := ⟨X, k, none⟩) (.inl hF) u⟩
  rintro g _ _ ht rfl
  rcases ht with ht | ht | ht | ht | ht <;> exact absurd (ht.eq_ hX.isT) (by decide)
theorem pgS_T (K : Sort2) {w : World} {gP : Nat} {cur : Array Value} {p : Pg} (hB : Blk w gP K.T cur) (hok : PgOk K w p) {x : Nat} (h : x = gP ∨ p.bv.ownBlock = some x) : IsT w K.T x ∨ IsT w K.E x := by
  rcases h with rfl | h
  · exact .inl hB.isT
  · exact .inr (own_isT hok.own h)
theorem BookIs.stepB (h : BookIs w FP gb ps qs next pv iv) (hB : Blk w gP 95 cur) (hgP : FP gP) (hp : p ∈ ps) (hc : Chg (fun x => x = gP ∨ p.bv.ownBlock = some x) w w')
    {os' : List Pg} (hs : ShelfIs KB w' FP os' pv) : BookIs w' FP gb os' qs next pv iv ∧ Chg FP w w' ∧ ∀ X cX, Blk w X 4 cX → Blk w' X 4 cX := by
  have hok := h.B.pages p hp
  have hT : ∀ x, (x = gP ∨ p.bv.ownBlock = some x) → IsT w 95 x ∨ IsT w 5 x := fun x hx => pgS_T KB hB hok hx
  refine ⟨⟨h.blk.chg hc fun hx => ?_, fun k hk => h.new k (Nat.le_trans hc.size hk), h.fpb, hs, h.I.chg hc fun g _ _ ht hx => ?_⟩, hc.mono fun i _ hx => ?_, fun X cX hX => hX.chg hc fun hx => ?_⟩
  · rcases hT _ hx with ht | ht <;> exact absurd (ht.eq_ h.blk.isT) (by decide)
  · rcases hT _ hx with hx | hx <;> rcases ht with ht | ht <;> exact absurd (ht.eq_ hx) (by decide)
  · rcases hx with rfl | hx
    · exact hgP
    · exact h.B.fp p hp i (.inl hx)
  · rcases hT _ hx with ht | ht <;> exact absurd (ht.eq_ hX.isT) (by decide)
theorem BookIs.stepI (h : BookIs w FP gb ps qs next pv iv) (hB : Blk w gP 97 cur) (hgP : FP gP) (hp : p ∈ qs) (hc : Chg (fun x => x = gP ∨ p.bv.ownBlock = some x) w w')
    {os' : List Pg} (hs : ShelfIs KI w' FP os' iv) : BookIs w' FP gb ps os' next pv iv ∧ Chg FP w w' ∧ ∀ X cX, Blk w X 4 cX → Blk w' X 4 cX := by
  have hok := h.I.pages p hp
  have hT : ∀ x, (x = gP ∨ p.bv.ownBlock = some x) → IsT w 97 x ∨ IsT w 3 x := fun x hx => pgS_T KI hB hok hx
  refine ⟨⟨h.blk.chg hc fun hx => ?_, fun k hk => h.new k (Nat.le_trans hc.size hk), h.fpb, h.B.chg hc (fun g _ _ ht hx => ?_), hs⟩, hc.mono fun i _ hx => ?_, fun X cX hX => hX.chg hc fun hx => ?_⟩
  · rcases hT _ hx with ht | ht <;> exact absurd (ht.eq_ h.blk.isT) (by decide)
  · rcases hT _ hx with hx | hx <;> rcases ht with ht | ht <;> exact absurd (ht.eq_ hx) (by decide)
  · rcases hx with rfl | hx
    · exact hgP
    · exact h.I.fp p hp i (.inl hx)
  · rcases hT _ hx with ht | ht <;> exact absurd (ht.eq_ hX.isT) (by decide)
end
/-- What the first loop holds: below k all is written, and 'fresh' says which of it was so just now. -/
def St1 (k : Nat) (psk : List Pg) (cF : Array Value) : Prop := ∀ j p, psk[j]? = some p → (j < k → p.st ≠ 0 ∧ cF[j]? = some (.bool (p.st == 1))) ∧ (k ≤ j → p.st ≠ 1)
theorem St1.set_ {k : Nat} {psk : List Pg} {cF : Array Value} {p q : Pg} (h : St1 k psk cF) (hpk : psk[k]? = some p) (hk : k < cF.size) (hq : q.st ≠ 0) : St1 (k + 1) (psk.set k q) (cF.setIfInBounds k (.bool (q.st == 1))) := by
  have hkl : k < psk.length := (List.getElem?_eq_some_iff.1 hpk).1
  intro j r hr
  rw [List.getElem?_set] at hr
  split at hr
  · rename_i e
    subst e
    first | rw [if_pos hkl] at hr | skip
    simp only [Option.some.injEq] at hr
    subst hr
    exact ⟨fun _ => ⟨hq, Array.getElem?_setIfInBounds_self_of_lt hk⟩, fun h => by omega⟩
  · rename_i e
    obtain ⟨h1, h2⟩ := h j r hr
    refine ⟨fun hj => ⟨(h1 (by omega)).1, ?_⟩, fun hj => h2 (by omega)⟩
    rw [Array.getElem?_setIfInBounds_ne e]
    exact (h1 (by omega)).2
/-- What the third loop holds: below k all is grown. -/
def St2 (k : Nat) (psk : List Pg) (cF : Array Value) : Prop := ∀ j p, psk[j]? = some p → (j < k → p.st = 2) ∧ (k ≤ j → p.st ≠ 0 ∧ cF[j]? = some (.bool (p.st == 1)))
theorem St2.set_ {k : Nat} {psk : List Pg} {cF : Array Value} {p q : Pg} (h : St2 k psk cF) (hpk : psk[k]? = some p) (hq : q.st = 2) : St2 (k + 1) (psk.set k q) cF := by
  have hkl : k < psk.length := (List.getElem?_eq_some_iff.1 hpk).1
  intro j r hr
  rw [List.getElem?_set] at hr
  split at hr
  · rename_i e
    subst e
    first | rw [if_pos hkl] at hr | skip
    simp only [Option.some.injEq] at hr
    subst hr
    exact ⟨fun _ => hq, fun h => by omega⟩
  · rename_i e
    obtain ⟨h1, h2⟩ := h j r hr
    exact ⟨fun hj => h1 (by omega), fun hj => h2 (by omega)⟩
theorem set_self {psk : List Pg} {k : Nat} {p : Pg} (h : psk[k]? = some p) : psk.set k p = psk := by
  obtain ⟨h1, h2⟩ := List.getElem?_eq_some_iff.1 h
  rw [← h2, List.set_getElem_self]

set_option maxRecDepth 100000 in
set_option maxHeartbeats 6400000 in
theorem Settle_any (FP : Nat → Prop) (gb : Nat) (ps qs : List Pg) (next : Int) (pv iv : Value) (w : World) (hbk : BookIs w FP gb ps qs next pv iv) (hst : ∀ p ∈ ps, p.st ≠ 1) (hsq : ∀ p ∈ qs, p.st ≠ 1) (hlen : ps.length ≤ 96) (hlenq : qs.length ≤ 96) :
    Calls Tryd.prog 19 #[.pointer (some ⟨gb, 0, none⟩)] w fun e w' => e = .returned (.bool true) ∧ Chg FP w w' ∧ ∃ ps' qs', ps'.length = ps.length ∧ qs'.length = qs.length ∧ (∀ p ∈ ps', p.st = 2) ∧ (∀ p ∈ qs', p.st = 2) ∧ BookIs w' FP gb ps' qs' next pv iv := by
  obtain ⟨i0, hi0, hz0, hz1, hz2⟩ := info_parts info_bool
  obtain ⟨Ap, capp, rfl, hcp, _⟩ := own_shape hbk.B.rows
  obtain ⟨Aq, capq, rfl, hcq, _⟩ := own_shape hbk.I.rows
  have hmk := fun (n : Nat) (hn : n ≤ 96) W => run_make_rowN (P := Tryd.prog) 98 4 i0 (.bool false) u_bools hi0 hz0 .i64 .i64 n n (by omega) (by rw [hz2]; omega) (by omega) W
  rw [hz1] at hmk
  simp only [Nat.mul_one] at hmk
  have hm1 := hmk ps.length hlen
  have hm0 := hmk qs.length hlenq
  clear hmk
  have HBK := Lib.hid hbk
  generalize hL : ps.length = L at *
  have HL := Lib.hid hL
  clear hL
  generalize hM : qs.length = M at *
  have HM := Lib.hid hM
  clear hM hbk
  go_enter Tryd.func19, Tryd.ntmps19
  go_wp2_with fail
  refine (Intact_any FP gb ps qs next _ _ w HBK.out hst hsq (by rw [HL.out]; exact hlen) (by rw [HM.out]; exact hlenq)).mono ?_
  rintro _ w2 ⟨rfl, hb2⟩
  have hbk2 := HBK.out.below hb2
  have c0 : w2.cell? ⟨gb, 0, none⟩ = some (.slice Ap L capp) := by rw [hbk2.blk.cell]; rfl
  go_wp2_with fail
  clear c0
  have hal : Below w2.heap.size w2 (w2.alloc (.cells (madeCells #[.bool false] L) 4)) := (Below.refl _ _).alloc (Nat.le_refl _) _
  have HB : Hid (BookIs (w2.alloc (.cells (madeCells #[.bool false] L) 4)) FP gb ps qs next (.slice Ap L capp) (.slice Aq M capq)) := hbk2.below hal
  have HC : Hid (Chg FP w (w2.alloc (.cells (madeCells #[.bool false] L) 4))) := (Chg.of_below hb2 _).alloc _
  have HFB := Lib.hid (Blk.new w2 4 (madeCells #[.bool false] L))
  have hFF : FP w2.heap.size := hbk2.new _ (Nat.le_refl _)
  generalize hF : w2.heap.size = F at *
  obtain ⟨wF, hwF⟩ : ∃ wF, wF = w2.alloc (.cells (madeCells #[.bool false] L) 4) := ⟨_, rfl⟩
  rw [← hwF] at HB HC HFB ⊢
  clear hwF hF hal hbk2
  go_loopw [4] (fun i wr => ∃ (k : Nat) (psk : List Pg) (cF : Array Value), k ≤ L ∧ i = .int .i64 k ∧ Hid (psk.length = L) ∧ BookIs wr FP gb psk qs next (.slice Ap L capp) (.slice Aq M capq) ∧ Chg FP w wr ∧ Blk wr F 4 cF ∧ Hid (cF.size = L) ∧
      Hid (St1 k psk cF)) (fun i _ => L - (intOf i).toNat)
  case atStart => exact ⟨0, ps, _, by omega, rfl, HL, HB.out, HC.out, HFB.out, by simp [Hid, size_madeCells], fun j p hp => ⟨fun h => by omega, fun _ => hst p (List.mem_of_getElem? hp)⟩⟩
  case round =>
    obtain ⟨k, psk, cF, hk, rfl, HPL, hbr, hb, hBF, HCS, HSt⟩ := hrel
    have c0 : wr.cell? ⟨gb, 0, none⟩ = some (.slice Ap L capp) := by rw [hbr.blk.cell]; rfl
    have c1 : wr.cell? ⟨gb, 1, none⟩ = some (.slice Aq M capq) := by rw [hbr.blk.cell]; rfl
    by_cases hlt : k < L
    · obtain ⟨gP, cap, cur, p, hv, hgP, hBP, hpk, hpm, hcs, hsz, _⟩ := hbr.B.page (k := k) (by rw [HPL.out]; exact hlt)
      rw [HPL.out] at hv
      simp only [Value.slice.injEq, true_and] at hv
      obtain ⟨rfl, rfl⟩ := hv
      have hsz2 : k * 5 + 5 ≤ cur.size := by rw [HPL.out] at hsz; omega
      have d4 := hBP.cell (k * 5 + 4)
      rw [hcs 4 (by omega)] at d4
      simp only [Pg.cells, List.getElem?_cons_zero, List.getElem?_cons_succ] at d4
      have hfk : ∃ u, wr.cell? ⟨F, k, none⟩ = some u := by rw [hBF.cell]; exact ⟨_, Array.getElem?_eq_getElem (by rw [HCS.out]; exact hlt)⟩
      obtain ⟨uF, hfk⟩ := hfk
      have hff := hBF.frozen k
      have hltI : (k : Int) < (L : Int) := by omega
      have hkS := (HSt.out k p hpk).2 (Nat.le_refl _)
      have hok := hbr.B.pages p hpm
      have HPK := Lib.hid hpk
      have HCSs := Lib.hid hcs
      clear hpk hcs
      have hneF : gb ≠ F := hbr.blk.ne_ hBF (by decide)
      have hnePF : gP ≠ F := hBP.ne_ hBF (by decide)
      have q0 : ∀ u, (wr.setCell ⟨F, k, none⟩ u).cell? ⟨gb, 0, none⟩ = some (.slice (some ⟨gP, 0, none⟩) L capp) := fun u => by rw [(hbr.blk.far (p := ⟨F, k, none⟩) hneF u).cell]; rfl
      have q1 : ∀ u, (wr.setCell ⟨F, k, none⟩ u).cell? ⟨F, k, none⟩ = some u := fun u => by
        rw [(hBF.set_ k u).cell, Array.getElem?_setIfInBounds_self_of_lt (by rw [HCS.out]; exact hlt)]
      by_cases h0 : p.st = 0
      · simp only [h0, bne_self_eq_false] at d4
        have q0 := q0 (.bool true)
        have q1 := q1 (.bool true)
        have hBP2 := hBP.far (p := ⟨F, k, none⟩) hnePF (.bool true)
        have e0 := HCSs.out 0 (by omega)
        have e3 := HCSs.out 3 (by omega)
        have HE0 : Hid (cur[k * 5]? = some p.bv) := by rw [Nat.add_zero] at e0; exact e0
        have HE3 : Hid (cur[k * 5 + 3]? = some (.int .i64 p.id)) := e3
        clear e0 e3
        obtain ⟨hb1, r0⟩ := hbr.setX hBF hFF k (.bool true)
        have hok2 := hb1.B.pages p hpm
        go_wp2_with fail
        refine (fillB_any 0 gP (k * 5) _ cur p.bv p.n p.bs p.id _ hBP2 (by decide) HE0.out HE3.out (by omega) hok2.own hok.id0 (by have := hok.id1; omega) (by have := hok.small; simp only at this; omega)).mono ?_
        rintro _ w4 ⟨rfl, hB4, hown4, hch4⟩
        clear q0 q1 c0 c1 hff hfk d4
        go_wp2
        go_roundw
        case rel =>
          obtain ⟨r1, r2, r3⟩ := hb1.stepB hBP2 hgP hpm hch4 (hb1.B.filled_ HPL.out HPK.out hBP2 hB4 hown4 hch4 hb1.new)
          exact ⟨k + 1, _, _, by omega, by go_num, (List.length_set).trans HPL.out, r1, (hb.trans r0).trans r2, r3 _ _ (hBF.set_ k _), by rw [Hid, Array.size_setIfInBounds]; exact HCS.out, St1.set_ (q := { p with bs := bpl p.id p.n, st := 1 }) HSt.out HPK.out (by rw [HCS.out]; exact hlt) (by simp)⟩
        case measure => simp [intOf]; omega
      · have h2 : p.st = 2 := by have := hok.agg; omega
        simp only [h2, show ((2 : Nat) != 0) = true from rfl] at d4
        have q0 := q0 (.bool false)
        have q1 := q1 (.bool false)
        go_wp2_with fail
        go_roundw
        case rel =>
          obtain ⟨r1, r2⟩ := hbr.setX hBF hFF k (.bool false)
          refine ⟨k + 1, psk, _, by omega, by go_num, HPL, r1, hb.trans r2, hBF.set_ k _, by rw [Hid, Array.size_setIfInBounds]; exact HCS.out, ?_⟩
          have := St1.set_ (q := p) HSt.out HPK.out (by rw [HCS.out]; exact hlt) (by omega)
          rw [set_self HPK.out, h2] at this
          exact this
        case measure => simp [intOf]; omega
    · obtain rfl : L = k := by omega
      have HT : Hid (St2 0 psk cF) := fun j p hp => ⟨fun h => by omega, fun _ => (HSt.out j p hp).1 (by have := (List.getElem?_eq_some_iff.1 hp).1; rw [HPL.out] at this; exact this)⟩
      clear HSt
      go_wp2_with fail
      clear c0 c1
      have hal2 : Below wr.heap.size wr (wr.alloc (.cells (madeCells #[.bool false] M) 4)) := (Below.refl _ _).alloc (Nat.le_refl _) _
      have HB2 : Hid (BookIs (wr.alloc (.cells (madeCells #[.bool false] M) 4)) FP gb psk qs next (.slice Ap L capp) (.slice Aq M capq)) := hbr.below hal2
      have HC2 : Hid (Chg FP w (wr.alloc (.cells (madeCells #[.bool false] M) 4))) := hb.alloc _
      have HFB2 : Hid (Blk (wr.alloc (.cells (madeCells #[.bool false] M) 4)) F 4 cF) := hBF.alloc _
      have HGB := Lib.hid (Blk.new wr 4 (madeCells #[.bool false] M))
      have hGG : FP wr.heap.size := hbr.new _ (Nat.le_refl _)
      have HNE : Hid (F ≠ wr.heap.size) := fun h => by have := hBF.lt; omega
      generalize hG : wr.heap.size = G at *
      obtain ⟨wG, hwG⟩ : ∃ wG, wG = wr.alloc (.cells (madeCells #[.bool false] M) 4) := ⟨_, rfl⟩
      rw [← hwG] at HB2 HC2 HFB2 HGB ⊢
      clear hwG hG hal2 hbr hb hBF
      go_loopw [6] (fun i wr => ∃ (k : Nat) (qsk : List Pg) (cG : Array Value), k ≤ M ∧ i = .int .i64 k ∧ Hid (qsk.length = M) ∧ BookIs wr FP gb psk qsk next (.slice Ap L capp) (.slice Aq M capq) ∧ Chg FP w wr ∧ Blk wr F 4 cF ∧ Blk wr G 4 cG ∧ Hid (cG.size = M) ∧
          Hid (St1 k qsk cG)) (fun i _ => M - (intOf i).toNat)
      case atStart => exact ⟨0, qs, _, by omega, rfl, HM, HB2.out, HC2.out, HFB2.out, HGB.out, by simp [Hid, size_madeCells], fun j p hp => ⟨fun h => by omega, fun _ => hsq p (List.mem_of_getElem? hp)⟩⟩
      case round =>
        clear HB2 HC2 HFB2 HGB
        obtain ⟨k, qsk, cG, hk, rfl, HQL, hbr, hb, hBF, hBG, HCG, HSq⟩ := hrel
        have c0 : wr.cell? ⟨gb, 0, none⟩ = some (.slice Ap L capp) := by rw [hbr.blk.cell]; rfl
        have c1 : wr.cell? ⟨gb, 1, none⟩ = some (.slice Aq M capq) := by rw [hbr.blk.cell]; rfl
        by_cases hlt : k < M
        · obtain ⟨gP, cap, cur, p, hv, hgP, hBP, hpk, hpm, hcs, hsz, _⟩ := hbr.I.page (k := k) (by rw [HQL.out]; exact hlt)
          rw [HQL.out] at hv
          simp only [Value.slice.injEq, true_and] at hv
          obtain ⟨rfl, rfl⟩ := hv
          have hneX : F ≠ G := HNE.out
          have hsz2 : k * 5 + 5 ≤ cur.size := by rw [HQL.out] at hsz; omega
          have d4 := hBP.cell (k * 5 + 4)
          rw [hcs 4 (by omega)] at d4
          simp only [Pg.cells, List.getElem?_cons_zero, List.getElem?_cons_succ] at d4
          have hfk : ∃ u, wr.cell? ⟨G, k, none⟩ = some u := by rw [hBG.cell]; exact ⟨_, Array.getElem?_eq_getElem (by rw [HCG.out]; exact hlt)⟩
          obtain ⟨uF, hfk⟩ := hfk
          have hff := hBG.frozen k
          have hltI : (k : Int) < (M : Int) := by omega
          have hkS := (HSq.out k p hpk).2 (Nat.le_refl _)
          have hok := hbr.I.pages p hpm
          have HPK := Lib.hid hpk
          have HCSs := Lib.hid hcs
          clear hpk hcs
          have hneF : gb ≠ G := hbr.blk.ne_ hBG (by decide)
          have hnePF : gP ≠ G := hBP.ne_ hBG (by decide)
          have q0 : ∀ u, (wr.setCell ⟨G, k, none⟩ u).cell? ⟨gb, 1, none⟩ = some (.slice (some ⟨gP, 0, none⟩) M capq) := fun u => by rw [(hbr.blk.far (p := ⟨G, k, none⟩) hneF u).cell]; rfl
          have q1 : ∀ u, (wr.setCell ⟨G, k, none⟩ u).cell? ⟨G, k, none⟩ = some u := fun u => by
            rw [(hBG.set_ k u).cell, Array.getElem?_setIfInBounds_self_of_lt (by rw [HCG.out]; exact hlt)]
          by_cases h0 : p.st = 0
          · simp only [h0, bne_self_eq_false] at d4
            have q0 := q0 (.bool true)
            have q1 := q1 (.bool true)
            have hBP2 := hBP.far (p := ⟨G, k, none⟩) hnePF (.bool true)
            have e0 := HCSs.out 0 (by omega)
            have e3 := HCSs.out 3 (by omega)
            have HE0 : Hid (cur[k * 5]? = some p.bv) := by rw [Nat.add_zero] at e0; exact e0
            have HE3 : Hid (cur[k * 5 + 3]? = some (.int .i64 p.id)) := e3
            clear e0 e3
            obtain ⟨hb1, r0⟩ := hbr.setX hBG hGG k (.bool true)
            have hok2 := hb1.I.pages p hpm
            go_wp2_with fail
            refine (fillI_any 0 gP (k * 5) _ cur p.bv p.n p.bs p.id _ hBP2 (by decide) HE0.out HE3.out (by omega) hok2.own hok.id0 (by have := hok.id1; omega) (by have := hok.small; simp only at this; omega)).mono ?_
            rintro _ w4 ⟨rfl, hB4, hown4, hch4⟩
            clear q0 q1 c0 c1 hff hfk d4
            go_wp2
            go_roundw
            case rel =>
              obtain ⟨r1, r2, r3⟩ := hb1.stepI hBP2 hgP hpm hch4 (hb1.I.filled_ HQL.out HPK.out hBP2 hB4 hown4 hch4 hb1.new)
              exact ⟨k + 1, _, _, by omega, by go_num, (List.length_set).trans HQL.out, r1, (hb.trans r0).trans r2, r3 _ _ (hBF.far (p := ⟨G, k, none⟩) hneX _), r3 _ _ (hBG.set_ k _), by rw [Hid, Array.size_setIfInBounds]; exact HCG.out, St1.set_ (q := { p with bs := ipl p.id p.n, st := 1 }) HSq.out HPK.out (by rw [HCG.out]; exact hlt) (by simp)⟩
            case measure => simp [intOf]; omega
          · have h2 : p.st = 2 := by have := hok.agg; omega
            simp only [h2, show ((2 : Nat) != 0) = true from rfl] at d4
            have q0 := q0 (.bool false)
            have q1 := q1 (.bool false)
            go_wp2_with fail
            go_roundw
            case rel =>
              obtain ⟨r1, r2⟩ := hbr.setX hBG hGG k (.bool false)
              refine ⟨k + 1, qsk, _, by omega, by go_num, HQL, r1, hb.trans r2, hBF.far (p := ⟨G, k, none⟩) hneX _, hBG.set_ k _, by rw [Hid, Array.size_setIfInBounds]; exact HCG.out, ?_⟩
              have := St1.set_ (q := p) HSq.out HPK.out (by rw [HCG.out]; exact hlt) (by omega)
              rw [set_self HPK.out, h2] at this
              exact this
            case measure => simp [intOf]; omega
        · obtain rfl : M = k := by omega
          have HTq : Hid (St2 0 qsk cG) := fun j p hp => ⟨fun h => by omega, fun _ => (HSq.out j p hp).1 (by have := (List.getElem?_eq_some_iff.1 hp).1; rw [HQL.out] at this; exact this)⟩
          clear HSq
          go_wp2_with fail
          clear c0 c1
          have HB3 := Lib.hid hbr
          have HC3 := Lib.hid hb
          have HF3 := Lib.hid hBF
          have HG3 := Lib.hid hBG
          clear hbr hb hBF hBG
          go_loopw [7] (fun i wr => ∃ (k : Nat) (psm : List Pg), k ≤ L ∧ i = .int .i64 k ∧ Hid (psm.length = L) ∧ BookIs wr FP gb psm qsk next (.slice Ap L capp) (.slice Aq M capq) ∧ Chg FP w wr ∧ Blk wr F 4 cF ∧ Blk wr G 4 cG ∧
              Hid (St2 k psm cF)) (fun i _ => L - (intOf i).toNat)
          case atStart => exact ⟨0, psk, by omega, rfl, HPL, HB3.out, HC3.out, HF3.out, HG3.out, HT⟩
          case round =>
            clear HB3 HC3 HF3 HG3 HPL
            obtain ⟨k, psm, hk, rfl, HPL, hbr, hb, hBF, hBG, HSt⟩ := hrel
            have c0 : wr.cell? ⟨gb, 0, none⟩ = some (.slice Ap L capp) := by rw [hbr.blk.cell]; rfl
            have c1 : wr.cell? ⟨gb, 1, none⟩ = some (.slice Aq M capq) := by rw [hbr.blk.cell]; rfl
            by_cases hlt : k < L
            · obtain ⟨gP, cap, cur, p, hv, hgP, hBP, hpk, hpm, hcs, hsz, _⟩ := hbr.B.page (k := k) (by rw [HPL.out]; exact hlt)
              rw [HPL.out] at hv
              simp only [Value.slice.injEq, true_and] at hv
              obtain ⟨rfl, rfl⟩ := hv
              have hsz2 : k * 5 + 5 ≤ cur.size := by rw [HPL.out] at hsz; omega
              have HX := (HSt.out k p hpk).2 (Nat.le_refl _)
              have hfk : wr.cell? ⟨F, k, none⟩ = some (.bool (p.st == 1)) := by rw [hBF.cell]; exact HX.2
              have HX0 := HX.1
              clear HX
              have hltI : (k : Int) < (L : Int) := by omega
              have hok := hbr.B.pages p hpm
              have hag := hok.agg
              have HPK := Lib.hid hpk
              have HCSs := Lib.hid hcs
              clear hpk hcs
              by_cases h1 : p.st = 1
              · simp only [h1, beq_self_eq_true] at hfk
                have e0 := HCSs.out 0 (by omega)
                have e3 := HCSs.out 3 (by omega)
                have HE0 : Hid (cur[k * 5]? = some p.bv) := by rw [Nat.add_zero] at e0; exact e0
                have HE3 : Hid (cur[k * 5 + 3]? = some (.int .i64 p.id)) := e3
                clear e0 e3
                go_wp2_with fail
                refine (growB_any 0 gP (k * 5) _ cur p.bv p.n p.bs p.id _ hBP (by decide) HE0.out (by omega) HE3.out hok.own (by omega) hok.id0 (by have := hok.id1; omega) hok.small).mono ?_
                rintro _ w4 ⟨rfl, gv, hB4, hown4, hgr4, hat, hch4⟩
                clear c0 c1 hfk
                go_wp2
                go_roundw
                case rel =>
                  obtain ⟨r1, r2, r3⟩ := hbr.stepB hBP hgP hpm hch4 (hbr.B.grown_ HPL.out HPK.out h1 hBP hB4 hown4 hgr4 hat hch4 hbr.new)
                  exact ⟨k + 1, _, by omega, by go_num, (List.length_set).trans HPL.out, r1, hb.trans r2, r3 _ _ hBF, r3 _ _ hBG, St2.set_ (q := { p with gv := gv, st := 2 }) HSt.out HPK.out rfl⟩
                case measure => simp [intOf]; omega
              · have h2 : p.st = 2 := by omega
                simp only [h2, show ((2 : Nat) == 1) = false from rfl] at hfk
                go_wp2_with fail
                go_roundw
                case rel =>
                  have := St2.set_ (q := p) HSt.out HPK.out h2
                  rw [set_self HPK.out] at this
                  exact ⟨k + 1, psm, by omega, by go_num, HPL, hbr, hb, hBF, hBG, this⟩
                case measure => simp [intOf]; omega
            · obtain rfl : L = k := by omega
              have HDB : Hid (∀ p ∈ psm, p.st = 2) := fun p hp => by
                obtain ⟨j, hj, rfl⟩ := List.mem_iff_getElem.1 hp
                exact (HSt.out j _ (List.getElem?_eq_getElem hj)).1 (by rw [HPL.out] at hj; exact hj)
              go_wp2_with fail
              clear c0 c1
              have HB3 := Lib.hid hbr
              have HC3 := Lib.hid hb
              have HF3 := Lib.hid hBF
              have HG3 := Lib.hid hBG
              clear hbr hb hBF hBG
              go_loopw [8] (fun i wr => ∃ (k : Nat) (qsm : List Pg), k ≤ M ∧ i = .int .i64 k ∧ Hid (qsm.length = M) ∧ BookIs wr FP gb psm qsm next (.slice Ap L capp) (.slice Aq M capq) ∧ Chg FP w wr ∧ Blk wr F 4 cF ∧ Blk wr G 4 cG ∧
                  Hid (St2 k qsm cG)) (fun i _ => M - (intOf i).toNat)
              case atStart => exact ⟨0, qsk, by omega, rfl, HQL, HB3.out, HC3.out, HF3.out, HG3.out, HTq⟩
              case round =>
                clear HB3 HC3 HF3 HG3 HQL
                obtain ⟨k, qsm, hk, rfl, HQL, hbr, hb, hBF, hBG, HSq⟩ := hrel
                have c0 : wr.cell? ⟨gb, 0, none⟩ = some (.slice Ap L capp) := by rw [hbr.blk.cell]; rfl
                have c1 : wr.cell? ⟨gb, 1, none⟩ = some (.slice Aq M capq) := by rw [hbr.blk.cell]; rfl
                by_cases hlt : k < M
                · obtain ⟨gP, cap, cur, p, hv, hgP, hBP, hpk, hpm, hcs, hsz, _⟩ := hbr.I.page (k := k) (by rw [HQL.out]; exact hlt)
                  rw [HQL.out] at hv
                  simp only [Value.slice.injEq, true_and] at hv
                  obtain ⟨rfl, rfl⟩ := hv
                  have hsz2 : k * 5 + 5 ≤ cur.size := by rw [HQL.out] at hsz; omega
                  have HX := (HSq.out k p hpk).2 (Nat.le_refl _)
                  have hfk : wr.cell? ⟨G, k, none⟩ = some (.bool (p.st == 1)) := by rw [hBG.cell]; exact HX.2
                  have HX0 := HX.1
                  clear HX
                  have hltI : (k : Int) < (M : Int) := by omega
                  have hok := hbr.I.pages p hpm
                  have hag := hok.agg
                  have HPK := Lib.hid hpk
                  have HCSs := Lib.hid hcs
                  clear hpk hcs
                  by_cases h1 : p.st = 1
                  · simp only [h1, beq_self_eq_true] at hfk
                    have e0 := HCSs.out 0 (by omega)
                    have e3 := HCSs.out 3 (by omega)
                    have HE0 : Hid (cur[k * 5]? = some p.bv) := by rw [Nat.add_zero] at e0; exact e0
                    have HE3 : Hid (cur[k * 5 + 3]? = some (.int .i64 p.id)) := e3
                    clear e0 e3
                    go_wp2_with fail
                    refine (growI_any 0 gP (k * 5) _ cur p.bv p.n p.bs p.id _ hBP (by decide) HE0.out (by omega) HE3.out hok.own (by omega) hok.id0 (by have := hok.id1; omega) hok.small).mono ?_
                    rintro _ w4 ⟨rfl, gv, hB4, hown4, hgr4, hat, hch4⟩
                    clear c0 c1 hfk
                    go_wp2
                    go_roundw
                    case rel =>
                      obtain ⟨r1, r2, r3⟩ := hbr.stepI hBP hgP hpm hch4 (hbr.I.grown_ HQL.out HPK.out h1 hBP hB4 hown4 hgr4 hat hch4 hbr.new)
                      exact ⟨k + 1, _, by omega, by go_num, (List.length_set).trans HQL.out, r1, hb.trans r2, r3 _ _ hBF, r3 _ _ hBG, St2.set_ (q := { p with gv := gv, st := 2 }) HSq.out HPK.out rfl⟩
                    case measure => simp [intOf]; omega
                  · have h2 : p.st = 2 := by omega
                    simp only [h2, show ((2 : Nat) == 1) = false from rfl] at hfk
                    go_wp2_with fail
                    go_roundw
                    case rel =>
                      have := St2.set_ (q := p) HSq.out HPK.out h2
                      rw [set_self HPK.out] at this
                      exact ⟨k + 1, qsm, by omega, by go_num, HQL, hbr, hb, hBF, hBG, this⟩
                    case measure => simp [intOf]; omega
                · obtain rfl : M = k := by omega
                  have HDI : Hid (∀ p ∈ qsm, p.st = 2) := fun p hp => by
                    obtain ⟨j, hj, rfl⟩ := List.mem_iff_getElem.1 hp
                    exact (HSq.out j _ (List.getElem?_eq_getElem hj)).1 (by rw [HQL.out] at hj; exact hj)
                  go_wp2_with fail
                  clear c0 c1
                  refine (Intact_any FP gb psm qsm next _ _ wr hbr (fun p hp h => by rw [HDB.out p hp] at h; omega) (fun p hp h => by rw [HDI.out p hp] at h; omega) (by rw [HPL.out]; exact hlen) (by rw [HQL.out]; exact hlenq)).mono ?_
                  rintro _ w5 ⟨rfl, hb5⟩
                  go_wp2
                  go_ret
                  exact ⟨rfl, hb.thenS (Chg.of_below hb5 (fun _ => False)) (fun _ _ h => h.elim), psm, qsm, HPL.out, HQL.out, HDB.out, HDI.out, hbr.below hb5⟩
end Go.Proofs.YtffcepaegcllmaaDoor
