/-
  loosened: the packet with lists that have room behind them, all of them in the book.
-/
import Derived.Test.YtffcepaegcllmaaDoorBk
import Derived.Test.YtffcepaegcllmaaDoorPackT
namespace Go.Proofs.YtffcepaegcllmaaDoor
open Go.RowKit
theorem MsOwn.cht {w w' : World} {base b : Nat} {v : Value} {ml : List Msg} {ts : List TypeId} (h : MsOwn w base v ml) (hc : ChT ts b w w') (hd : 82 ∉ ts) (hu : 5 ∉ ts) : MsOwn w' base v ml :=
  ⟨own_cht h.own hc (.inl hd), fun k m hk => own_cht (h.bod k m hk) hc (.inl hu)⟩
theorem PkOwn.cht {w w' : World} {base b : Nat} {q : Pk} {D : PkD} {ts : List TypeId} (h : PkOwn w base q D) (hc : ChT ts b w w') (hi : 3 ∉ ts) (hs : 115 ∉ ts) (hd : 82 ∉ ts) (hu : 5 ∉ ts) : PkOwn w' base q D :=
  ⟨own_cht h.oh hc (.inl hi), own_cht h.op hc (.inl hi), own_cht h.ov hc (.inl hi), own_cht h.os hc (.inl hs), own_cht h.oe hc (.inl hi), own_cht h.ob hc (.inl hu), h.om.cht hc hd hu, h.lm, h.sm⟩
theorem PkOwn.below {w w' : World} {base : Nat} {q : Pk} {D : PkD} (h : PkOwn w base q D) (hb : Below w.heap.size w w') : PkOwn w' base q D :=
  h.cht (ts := []) (b := 0) (ChT.of_below hb) (by simp) (by simp) (by simp) (by simp)
/-- loosened under way. -/
structure LoSt (w wr : World) (gb base : Nat) (q : Pk) (D : PkD) : Prop where
  Q : Blk wr w.heap.size 45 q.cells
  R : Blk wr (w.heap.size + 1) 45 zeroCells
  own : PkOwn wr base q D
  bk : Bk wr gb (fun g => g < wr.heap.size)
  ch : ChT (82 :: bkTs) gb w wr
theorem LoSt.step {w wr y : World} {gb base i : Nat} {q q' : Pk} {D D' : PkD} {v : Value} (h : LoSt w wr gb base q D) (hc : ChT bkTs gb wr y) (hB : Bk y gb (fun g => g < y.heap.size)) (hQ : q.cells.setIfInBounds i v = q'.cells) (ho : PkOwn y base q D → PkOwn y base q' D') :
    LoSt w (y.setCell ⟨w.heap.size, i, none⟩ v) gb base q' D' := by
  have hQy : Blk y w.heap.size 45 q.cells := h.Q.cht hc (.inl (by decide))
  have hRy : Blk y (w.heap.size + 1) 45 zeroCells := h.R.cht hc (.inl (by decide))
  have hs : ChT [45] 0 y (y.setCell ⟨w.heap.size, i, none⟩ v) := (ChT.refl _ _ _).set hQy (by simp) (Nat.zero_le _) i v
  refine ⟨by rw [← hQ]; exact hQy.set_ i v, ?_, (ho (h.own.cht hc (by decide) (by decide) (by decide) (by decide))).cht hs (by decide) (by decide) (by decide) (by decide), ?_, ?_⟩
  · exact hRy.chg (S := fun k => k = w.heap.size) ((Chg.refl (fun k => k = w.heap.size) y).setCell (p := ⟨w.heap.size, i, none⟩) (.inl rfl) v) (by omega)
  · have := hB.cht hs (by decide)
    exact this.lt
  · exact Chg.setCell (h.ch.trans (hc.mono (fun t ht => List.mem_cons_of_mem _ ht) (Nat.le_refl _))).chg (.inr (Nat.le_refl _)) _
theorem rowsM_set {l : List Msg} {j : Nat} {m : Msg} {A : Option Addr} {c : Nat} (h : l[j]? = some m) : rowsM (l.set j { m with A := A, cap := c }) = (rowsM l).set (j * 4 + 3) (.slice A m.n c) := by
  induction l generalizing j with
  | nil => simp at h
  | cons y r ih =>
    have e : ∀ (z : Msg) (s : List Msg), rowsM (z :: s) = z.cells ++ rowsM s := fun z s => by simp [rowsM]
    cases j with
    | zero =>
      simp at h
      subst h
      rw [List.set_cons_zero, e, e, List.set_append_left _ _ (by simp [Msg.cells])]
      simp [Msg.cells]
    | succ j =>
      rw [List.getElem?_cons_succ] at h
      rw [List.set_cons_succ, e, e, ih h, List.set_append_right _ _ (by simp [Msg.cells]; omega)]
      congr 2
      simp [Msg.cells]
      omega
theorem MsOwn.put {w : World} {base g n c j : Nat} {ml : List Msg} {m : Msg} {A' : Option Addr} {c' : Nat} (h : MsOwn w base (.slice (some ⟨g, 0, none⟩) n c) ml) (hl : ml.length = n) (hj : ml[j]? = some m) (hb : w.ownsRow base 5 1 (.slice A' m.n c') m.n (bvs m.body)) :
    MsOwn (w.setCell ⟨g, j * 4 + 3, none⟩ (.slice A' m.n c')) base (.slice (some ⟨g, 0, none⟩) n c) (ml.set j { m with A := A', cap := c' }) := by
  subst hl
  have hst := (h.own.stored (j * 4 + 3) (.slice A' m.n c')).1
  have hne : ∀ {n : Nat} {x : Value} {xs : List Value}, w.ownsRow base 5 1 x n xs → (w.setCell ⟨g, j * 4 + 3, none⟩ (.slice A' m.n c')).ownsRow base 5 1 x n xs := fun ho => own_far ho fun g' hg' e' => by
    have h1 := own_isT ho hg'
    have h2 := own_isT h.own (g := g) rfl
    have e2 : g' = g := e'
    subst e2
    exact absurd (h1.eq_ h2) (by decide)
  refine ⟨by rw [rowsM_set hj, List.length_set]; exact hst, fun k r hk => ?_⟩
  rw [List.getElem?_set] at hk
  split at hk
  · split at hk
    · cases hk
      exact hne hb
    · cases hk
  · exact hne (h.bod k r hk)
theorem PkOwn.dataSet {w : World} {base g i : Nat} {q : Pk} {D : PkD} {ml : List Msg} {v : Value} {cs : Array Value} (h : PkOwn w base q D) (hB : Blk w g 82 cs) (hm : MsOwn (w.setCell ⟨g, i, none⟩ v) base (.slice q.mA q.mn q.mc) ml) (hl : ml.length = q.mn) (hs : ∀ m ∈ ml, m.n ≤ 140737488351232) : PkOwn (w.setCell ⟨g, i, none⟩ v) base q { D with msgs := ml } := by
  have hc : ChT [82] 0 w (w.setCell ⟨g, i, none⟩ v) := (ChT.refl _ _ _).set hB (by simp) (Nat.zero_le _) i v
  exact ⟨own_cht h.oh hc (.inl (by decide)), own_cht h.op hc (.inl (by decide)), own_cht h.ov hc (.inl (by decide)), own_cht h.os hc (.inl (by decide)), own_cht h.oe hc (.inl (by decide)), own_cht h.ob hc (.inl (by decide)), hm, hl, hs⟩
theorem region_tailL {P : Program} {id : Nat} {Q : Exit → Act → World → Prop} {a : Act} {w : World} {l : List Oper} (n : Nat) (hm : P.follows .mixedOrders = true) (hB : Region.lexTailB .any l.toArray n = true)
    (h : wpStill P l.toArray w.drew (fun a' => wpList P l.toArray Q (l.drop n) a' w.drew) (l.take n) a) : (Code.region id l.toArray true).wp P Q a w := wp_region_still_tail n hm hB h
theorem set_alike {α β : Type} {l : List α} {j : Nat} {m m' : α} {f : α → β} (h : l[j]? = some m) (he : f m' = f m) : (l.map f).set j (f m') = l.map f := by
  rw [he]
  apply List.ext_getElem?
  intro i
  rw [List.getElem?_set]
  split
  · rename_i e
    subst e
    split
    · rw [List.getElem?_map, h]; rfl
    · rename_i hl
      rw [List.getElem?_eq_none (by omega)]
  · rfl
/-- What loosened hands out. -/
def LoosenP (w : World) (gb base : Nat) (p : Pk) (D : PkD) (e : Ending) (w' : World) : Prop :=
  ∃ (hA : Option Addr) (hc : Nat) (pA : Option Addr) (pc : Nat) (vA : Option Addr) (vc : Nat) (sA : Option Addr) (sc : Nat) (eA : Option Addr) (ec : Nat) (bA : Option Addr) (bc : Nat) (mA : Option Addr) (mc : Nat) (ml : List Msg),
    e = .returned (.agg (p.lay hA hc pA pc vA vc sA sc eA ec bA bc mA mc).cells) ∧ PkOwn w' base (p.lay hA hc pA pc vA vc sA sc eA ec bA bc mA mc) { D with msgs := ml } ∧ D.msgs.map Msg.key = ml.map Msg.key ∧ Bk w' gb (fun g => g < w'.heap.size) ∧ ChT (82 :: bkTs) gb w w'
set_option maxRecDepth 100000 in
set_option maxHeartbeats 6400000 in
theorem loosened_any {w : World} {gb base : Nat} {p : Pk} {D : PkD} {P : Nat → Prop} (hB : Bk w gb P) (ho : PkOwn w base p D) (hb : base ≤ w.heap.size) (hgb : gb ≤ base) (hsz : PkSz p) :
    Calls Tryd.prog 9 #[.agg p.cells, .pointer (some ⟨gb, 0, none⟩)] w (LoosenP w gb base p D) := by
  have HSZ := Lib.hid (And.intro hsz (And.intro hb hgb))
  obtain ⟨x0, hx0⟩ : ∃ x, x = (w.alloc (.cells p.cells 45)).alloc (.cells zeroCells 45) := ⟨_, rfl⟩
  have HX0 := Lib.hid hx0
  have hb2 : Below w.heap.size w x0 := by rw [hx0]; exact (one_box _ _).trans ((one_box _ _).mono (by simp))
  have HT0 : Hid (LoSt w x0 gb base p D) := Lib.hid ⟨by rw [hx0]; exact (Blk.new _ _ _).alloc _, by rw [hx0]; have h := Blk.new (w.alloc (.cells p.cells 45)) 45 zeroCells; rw [World.size_alloc] at h; exact h, ho.below hb2, (hB.below hb2).lt, ChT.of_below hb2⟩
  clear hx0 hB ho hb2 hsz
  go_enter Tryd.func9, Tryd.ntmps9
  go_upto_region 1 with fail
  rw [← HX0.out]
  go_upto_region 1 with fail
  go_cut [] from 6 to 64 (fun wc => ∃ (hA : Option Addr) (hc : Nat), Hid (LoSt w wc gb base (p.lay hA hc p.pA p.pc p.vA p.vc p.sA p.sc p.eA p.ec p.bA p.bc p.mA p.mc) D))
  case first =>
    as_aux_lemma =>
      have HRM := Lib.hid (roomInts_any (c := p.hc) HT0.out.bk HT0.out.own.oh (Nat.le_trans HSZ.out.2.1 (ChT.size HT0.out.ch)) HSZ.out.1.hh)
      have c6 : x0.cell? ⟨w.heap.size, 6, none⟩ = some (.slice p.hA p.hn p.hc) := HT0.out.Q.cell 6
      go_wp2_with (go_at_call 36; refine HRM.out.mono ?_; rintro _ y ⟨A1, c1, rfl, ho1, hB1, hc1⟩; have H1 := Lib.hid (And.intro ho1 (And.intro hB1 hc1)); have hQ1 := HT0.out.Q.cht hc1 (.inl (by decide)); have z0 := hQ1.cell 6; have z1 := hQ1.frozen 6; clear ho1 hB1 hc1 hQ1; go_simp)
      go_meet
      exact ⟨A1, c1, Lib.hid (HT0.out.step (i := 6) H1.out.2.2 H1.out.2.1 rfl fun h => ⟨H1.out.1, h.op, h.ov, h.os, h.oe, h.ob, h.om, h.lm, h.sm⟩)⟩
  case rest =>
    obtain ⟨hA, hc, HT1⟩ := hcut
    clear HT0
    apply_assumption
    rename World => x1
    go_upto_region 2 with fail
    go_cut [] from 6 to 64 (fun wc => ∃ (pA : Option Addr) (pc : Nat), Hid (LoSt w wc gb base (p.lay hA hc pA pc p.vA p.vc p.sA p.sc p.eA p.ec p.bA p.bc p.mA p.mc) D))
    case first =>
      as_aux_lemma =>
        have HRM := Lib.hid (roomInts_any (c := p.pc) HT1.out.bk HT1.out.own.op (Nat.le_trans HSZ.out.2.1 (ChT.size HT1.out.ch)) HSZ.out.1.pp)
        have c7 : x1.cell? ⟨w.heap.size, 7, none⟩ = some (.slice p.pA p.pn p.pc) := HT1.out.Q.cell 7
        go_wp2_with (go_at_call 36; refine HRM.out.mono ?_; rintro _ y ⟨A1, c1, rfl, ho1, hB1, hc1⟩; have H1 := Lib.hid (And.intro ho1 (And.intro hB1 hc1)); have hQ1 := HT1.out.Q.cht hc1 (.inl (by decide)); have z0 := hQ1.cell 7; have z1 := hQ1.frozen 7; clear ho1 hB1 hc1 hQ1; go_simp)
        go_meet
        exact ⟨A1, c1, Lib.hid (HT1.out.step (i := 7) H1.out.2.2 H1.out.2.1 rfl fun h => ⟨h.oh, H1.out.1, h.ov, h.os, h.oe, h.ob, h.om, h.lm, h.sm⟩)⟩
    case rest =>
      obtain ⟨pA, pc, HT2⟩ := hcut
      clear HT1
      apply_assumption
      rename World => x2
      go_upto_region 3 with fail
      go_cut [] from 6 to 64 (fun wc => ∃ (vA : Option Addr) (vc : Nat), Hid (LoSt w wc gb base (p.lay hA hc pA pc vA vc p.sA p.sc p.eA p.ec p.bA p.bc p.mA p.mc) D))
      case first =>
        as_aux_lemma =>
          have HRM := Lib.hid (roomInts_any (c := p.vc) HT2.out.bk HT2.out.own.ov (Nat.le_trans HSZ.out.2.1 (ChT.size HT2.out.ch)) HSZ.out.1.vv)
          have c15 : x2.cell? ⟨w.heap.size, 15, none⟩ = some (.slice p.vA p.vn p.vc) := HT2.out.Q.cell 15
          go_wp2_with (go_at_call 36; refine HRM.out.mono ?_; rintro _ y ⟨A1, c1, rfl, ho1, hB1, hc1⟩; have H1 := Lib.hid (And.intro ho1 (And.intro hB1 hc1)); have hQ1 := HT2.out.Q.cht hc1 (.inl (by decide)); have z0 := hQ1.cell 15; have z1 := hQ1.frozen 15; clear ho1 hB1 hc1 hQ1; go_simp)
          go_meet
          exact ⟨A1, c1, Lib.hid (HT2.out.step (i := 15) H1.out.2.2 H1.out.2.1 rfl fun h => ⟨h.oh, h.op, H1.out.1, h.os, h.oe, h.ob, h.om, h.lm, h.sm⟩)⟩
      case rest =>
        obtain ⟨vA, vc, HT3⟩ := hcut
        clear HT2
        apply_assumption
        rename World => x3
        go_upto_region 4 with fail
        go_cut [] from 6 to 64 (fun wc => ∃ (eA : Option Addr) (ec : Nat), Hid (LoSt w wc gb base (p.lay hA hc pA pc vA vc p.sA p.sc eA ec p.bA p.bc p.mA p.mc) D))
        case first =>
          as_aux_lemma =>
            have HRM := Lib.hid (roomInts_any (c := p.ec) HT3.out.bk HT3.out.own.oe (Nat.le_trans HSZ.out.2.1 (ChT.size HT3.out.ch)) HSZ.out.1.ee)
            have c22 : x3.cell? ⟨w.heap.size, 22, none⟩ = some (.slice p.eA p.en p.ec) := HT3.out.Q.cell 22
            go_wp2_with (go_at_call 36; refine HRM.out.mono ?_; rintro _ y ⟨A1, c1, rfl, ho1, hB1, hc1⟩; have H1 := Lib.hid (And.intro ho1 (And.intro hB1 hc1)); have hQ1 := HT3.out.Q.cht hc1 (.inl (by decide)); have z0 := hQ1.cell 22; have z1 := hQ1.frozen 22; clear ho1 hB1 hc1 hQ1; go_simp)
            go_meet
            exact ⟨A1, c1, Lib.hid (HT3.out.step (i := 22) H1.out.2.2 H1.out.2.1 rfl fun h => ⟨h.oh, h.op, h.ov, h.os, H1.out.1, h.ob, h.om, h.lm, h.sm⟩)⟩
        case rest =>
          obtain ⟨eA, ec, HT4⟩ := hcut
          clear HT3
          apply_assumption
          rename World => x4
          go_upto_region 5 with fail
          go_cut [] from 6 to 64 (fun wc => ∃ (bA : Option Addr) (bc : Nat), Hid (LoSt w wc gb base (p.lay hA hc pA pc vA vc p.sA p.sc eA ec bA bc p.mA p.mc) D))
          case first =>
            as_aux_lemma =>
              have HRM := Lib.hid (roomBytes_any (c := p.bc) HT4.out.bk HT4.out.own.ob (Nat.le_trans HSZ.out.2.1 (ChT.size HT4.out.ch)) HSZ.out.1.bb)
              have c34 : x4.cell? ⟨w.heap.size, 34, none⟩ = some (.slice p.bA p.bn p.bc) := HT4.out.Q.cell 34
              go_wp2_with (go_at_call 37; refine HRM.out.mono ?_; rintro _ y ⟨A1, c1, rfl, ho1, hB1, hc1⟩; have H1 := Lib.hid (And.intro ho1 (And.intro hB1 hc1)); have hQ1 := HT4.out.Q.cht hc1 (.inl (by decide)); have z0 := hQ1.cell 34; have z1 := hQ1.frozen 34; clear ho1 hB1 hc1 hQ1; go_simp)
              go_meet
              exact ⟨A1, c1, Lib.hid (HT4.out.step (i := 34) H1.out.2.2 H1.out.2.1 rfl fun h => ⟨h.oh, h.op, h.ov, h.os, h.oe, H1.out.1, h.om, h.lm, h.sm⟩)⟩
          case rest =>
            obtain ⟨bA, bc, HT5⟩ := hcut
            clear HT4
            apply_assumption
            rename World => x5
            have hmn : p.mn ≤ 140737488351232 := HSZ.out.1.le.lm
            obtain ⟨mA, hmA⟩ : ∃ a, a = p.mA := ⟨_, rfl⟩
            have HMA := Lib.hid hmA
            clear hmA
            go_upto_region 6 with fail
            go_wp2_with fail
            go_loopw [5] (fun i wr => ∃ (j : Nat) (ml : List Msg), j ≤ p.mn ∧ i = .int .i64 (j : Int) ∧ Hid (LoSt w wr gb base (p.lay hA hc pA pc vA vc p.sA p.sc eA ec bA bc p.mA p.mc) { D with msgs := ml } ∧ D.msgs.map Msg.key = ml.map Msg.key)) (fun i _ => p.mn - (intOf i).toNat)
            case atStart => exact ⟨0, D.msgs, by omega, rfl, Lib.hid ⟨HT5.out, rfl⟩⟩
            case round =>
              obtain ⟨j, ml, hj, rfl, HJ⟩ := hrel
              have r44 : wr.cell? ⟨w.heap.size, 44, none⟩ = some (.slice mA p.mn p.mc) := by rw [HJ.out.1.Q.cell, HMA.out]; rfl
              have HLM : Hid (ml.length = p.mn) := Lib.hid HJ.out.1.own.lm
              by_cases hlt : j < p.mn
              · have hI : (j : Int) < (p.mn : Int) := by omega
                obtain ⟨m, hx⟩ : ∃ m, ml[j]? = some m := ⟨_, List.getElem?_eq_getElem (by rw [HLM.out]; exact hlt)⟩
                have HX := Lib.hid hx
                obtain ⟨g, cap, hv, _, _⟩ := HJ.out.1.own.om.own.form (by rw [HLM.out]; omega)
                have hg : p.mA = some ⟨g, 0, none⟩ := by injection hv
                clear hv
                rw [← HMA.out] at hg
                subst hg
                obtain ⟨wd, hwd⟩ : ∃ wd, wd = wr.drew := ⟨_, rfl⟩
                have HTd : Hid (LoSt w wd gb base (p.lay hA hc pA pc vA vc p.sA p.sc eA ec bA bc p.mA p.mc) { D with msgs := ml }) := Lib.hid (by
                  have h := HJ.out.1
                  have hc1 : Below wr.heap.size wr wd := by rw [hwd]; exact below_drewN (Below.refl _ _) 1
                  exact ⟨h.Q.over hc1, h.R.over hc1, h.own.below hc1, (h.bk.below hc1).lt, h.ch.trans (ChT.of_below hc1)⟩)
                have HWD := Lib.hid hwd
                have HOM : Hid (MsOwn wd base (.slice (some ⟨g, 0, none⟩) p.mn p.mc) ml) := Lib.hid (by have h := HTd.out.own.om; have e := HMA.out; simp only at h; rw [← e] at h; exact h)
                have m3 : wd.cell? ⟨g, j * 4 + 3, none⟩ = some (.slice m.A m.n m.cap) := by
                  have h := HOM.out.own
                  rw [HLM.out] at h
                  have h1 := h.cellAt (j * 4 + 3) (by omega)
                  rw [h1, rowsM_at hx (by omega)]
                  rfl
                have s44 : wd.cell? ⟨w.heap.size, 44, none⟩ = some (.slice (some ⟨g, 0, none⟩) p.mn p.mc) := by rw [HTd.out.Q.cell, HMA.out]; rfl
                have HRM := Lib.hid (roomBytes_any (c := m.cap) HTd.out.bk (HOM.out.bod j m hx) (Nat.le_trans HSZ.out.2.1 (ChT.size HTd.out.ch)) (HTd.out.own.sm m (List.mem_of_getElem? hx)))
                clear hx hwd
                go_upto_region 9 with fail
                refine wp_region_held_drew (S := fun W => W.cell? ⟨w.heap.size, 44, none⟩ = some (.slice (some ⟨g, 0, none⟩) p.mn p.mc)) (by kernel_rfl) (by rw [← HWD.out]; exact s44) (fun hsw => ?_)
                rw [← HWD.out] at hsw ⊢
                refine wpAnyH_take (i := 0) (oi := ?oi0s) (v := ?v0s) ?hi0s (by kernel_rfl) (by kernel_rfl) (by kernel_rfl) ?hq0s ?hy0s (by assumption) ?rest0s
                case hi0s => (simp only [List.getElem?_toArray, List.getElem?_cons_zero]; rfl)
                case hy0s => (refine Or.inl ⟨by rfl, ?_⟩; intro w hSw; (try dsimp only at hSw); go_simp; try with_reducible rfl)
                case hq0s => exact fun _ _ _ h => h
                try simp only [Act.put, List.setIfInBounds_toArray, List.set_cons_zero, List.set_cons_succ]
                refine wpAnyH_take (i := 1) (oi := ?oi1s) (v := ?v1s) ?hi1s (by kernel_rfl) (by kernel_rfl) (by kernel_rfl) ?hq1s ?hy1s (by assumption) ?rest1s
                case hi1s => (simp only [List.getElem?_toArray, List.getElem?_cons_zero, List.getElem?_cons_succ]; rfl)
                case hy1s => (refine Or.inl ⟨by rfl, ?_⟩; intro w hSw; (try dsimp only at hSw); go_simp; try with_reducible rfl)
                case hq1s => exact fun _ _ _ h => h
                try simp only [Act.put, List.setIfInBounds_toArray, List.set_cons_zero, List.set_cons_succ]
                refine wpAnyH_take (i := 2) (oi := ?oi2s) (v := ?v2s) ?hi2s (by kernel_rfl) (by kernel_rfl) (by kernel_rfl) ?hq2s ?hy2s (by assumption) ?rest2s
                case hi2s => (simp only [List.getElem?_toArray, List.getElem?_cons_zero, List.getElem?_cons_succ]; rfl)
                case hy2s => (refine Or.inl ⟨by rfl, ?_⟩; intro w hSw; (try dsimp only at hSw); go_simp; try with_reducible rfl)
                case hq2s => exact fun _ _ _ h => h
                try simp only [Act.put, List.setIfInBounds_toArray, List.set_cons_zero, List.set_cons_succ]
                refine wpAnyH_take (i := 3) (oi := ?oi3s) (v := ?v3s) ?hi3s (by kernel_rfl) (by kernel_rfl) (by kernel_rfl) ?hq3s ?hy3s (by assumption) ?rest3s
                case hi3s => (simp only [List.getElem?_toArray, List.getElem?_cons_zero, List.getElem?_cons_succ]; rfl)
                case hy3s => (refine Or.inl ⟨by rfl, ?_⟩; intro w hSw; (try dsimp only at hSw); go_simp; try with_reducible rfl)
                case hq3s => exact fun _ _ _ h => h
                try simp only [Act.put, List.setIfInBounds_toArray, List.set_cons_zero, List.set_cons_succ]
                refine wpAnyH_take (i := 4) (oi := ?oi4s) (v := ?v4s) ?hi4s (by kernel_rfl) (by kernel_rfl) (by kernel_rfl) ?hq4s ?hy4s (by assumption) ?rest4s
                case hi4s => (simp only [List.getElem?_toArray, List.getElem?_cons_zero, List.getElem?_cons_succ]; rfl)
                case hy4s => (refine Or.inl ⟨by rfl, ?_⟩; intro w hSw; (try dsimp only at hSw); go_simp; try with_reducible rfl)
                case hq4s => exact fun _ _ _ h => h
                try simp only [Act.put, List.setIfInBounds_toArray, List.set_cons_zero, List.set_cons_succ]
                refine wpAnyH_take (i := 5) (oi := ?oi5s) (v := ?v5s) ?hi5s (by kernel_rfl) (by kernel_rfl) (by kernel_rfl) ?hq5s ?hy5s (by assumption) ?rest5s
                case hi5s => (simp only [List.getElem?_toArray, List.getElem?_cons_zero, List.getElem?_cons_succ]; rfl)
                case hy5s => (refine Or.inl ⟨by rfl, ?_⟩; intro w hSw; (try dsimp only at hSw); go_simp; try with_reducible rfl)
                case hq5s => exact fun _ _ _ h => h
                try simp only [Act.put, List.setIfInBounds_toArray, List.set_cons_zero, List.set_cons_succ]
                refine wpAnyH_take (i := 6) (oi := ?oi6s) (v := ?v6s) ?hi6s (by kernel_rfl) (by kernel_rfl) (by kernel_rfl) ?hq6s ?hy6s (by assumption) ?rest6s
                case hi6s => (simp only [List.getElem?_toArray, List.getElem?_cons_zero, List.getElem?_cons_succ]; rfl)
                case hy6s => (refine Or.inl ⟨by rfl, ?_⟩; intro w hSw; (try dsimp only at hSw); go_simp; try with_reducible rfl)
                case hq6s => exact fun _ _ _ h => h
                try simp only [Act.put, List.setIfInBounds_toArray, List.set_cons_zero, List.set_cons_succ]
                refine wpAnyH_take (i := 7) (oi := ?oi7s) (v := ?v7s) ?hi7s (by kernel_rfl) (by kernel_rfl) (by kernel_rfl) ?hq7s ?hy7s (by assumption) ?rest7s
                case hi7s => (simp only [List.getElem?_toArray, List.getElem?_cons_zero, List.getElem?_cons_succ]; rfl)
                case hy7s => (refine Or.inl ⟨by rfl, ?_⟩; intro w hSw; (try dsimp only at hSw); go_simp; try with_reducible rfl)
                case hq7s => exact fun _ _ _ h => h
                try simp only [Act.put, List.setIfInBounds_toArray, List.set_cons_zero, List.set_cons_succ]
                refine wpAnyH_take (i := 8) (oi := ?oi8s) (v := ?v8s) ?hi8s (by kernel_rfl) (by kernel_rfl) (by kernel_rfl) ?hq8s ?hy8s (by assumption) ?rest8s
                case hi8s => (simp only [List.getElem?_toArray, List.getElem?_cons_zero, List.getElem?_cons_succ]; rfl)
                case hy8s => (refine Or.inl ⟨by rfl, ?_⟩; intro w hSw; (try dsimp only at hSw); go_simp; try with_reducible rfl)
                case hq8s => exact fun _ _ _ h => h
                try simp only [Act.put, List.setIfInBounds_toArray, List.set_cons_zero, List.set_cons_succ]
                refine wpAnyH_take (i := 9) (oi := ?oi9s) (v := ?v9s) ?hi9s (by kernel_rfl) (by kernel_rfl) (by kernel_rfl) ?hq9s ?hy9s (by assumption) ?rest9s
                case hi9s => (simp only [List.getElem?_toArray, List.getElem?_cons_zero, List.getElem?_cons_succ]; rfl)
                case hy9s => (refine Or.inl ⟨by rfl, ?_⟩; intro w hSw; (try dsimp only at hSw); go_simp; try with_reducible rfl)
                case hq9s => exact fun _ _ _ h => h
                try simp only [Act.put, List.setIfInBounds_toArray, List.set_cons_zero, List.set_cons_succ]
                refine wpAnyH_take (i := 11) (oi := ?oi11s) (v := ?v11s) ?hi11s (by kernel_rfl) (by kernel_rfl) (by kernel_rfl) ?hq11s ?hy11s (by assumption) ?rest11s
                case hi11s => (simp only [List.getElem?_toArray, List.getElem?_cons_zero, List.getElem?_cons_succ]; rfl)
                case hy11s => (refine Or.inl ⟨by rfl, ?_⟩; intro w hSw; (try dsimp only at hSw); go_simp; try with_reducible rfl)
                case hq11s => exact fun _ _ _ h => h
                try simp only [Act.put, List.setIfInBounds_toArray, List.set_cons_zero, List.set_cons_succ]
                refine wpAnyH_ready (rs := [10]) (by kernel_rfl) (by simp) ?_
                refine AllReadyH.cons (o := ?o10s) ?ho10s (fun K hK => ?st10s) ?mo10s
                case ho10s => (simp only [List.getElem?_toArray, List.getElem?_cons_zero, List.getElem?_cons_succ]; rfl)
                · skip
                  go_simp
                  refine hK.out _ _ s44 (fun _ => ?_)
                  clear hK K
                  try simp only [Act.put, List.setIfInBounds_toArray, List.set_cons_zero, List.set_cons_succ]
                  refine wpAnyH_ready (rs := [12]) (by kernel_rfl) (by simp) ?_
                  refine AllReadyH.cons (o := ?o12s) ?ho12s (fun K hK => ?st12s) ?mo12s
                  case ho12s => (simp only [List.getElem?_toArray, List.getElem?_cons_zero, List.getElem?_cons_succ]; rfl)
                  · skip
                    go_simp
                    refine HRM.out.mono ?_
                    rintro _ y ⟨A1, c1, rfl, ho1, hB1, hc1⟩
                    have H1 := Lib.hid (And.intro ho1 (And.intro hB1 hc1))
                    have hr1 := own_cht HOM.out.own hc1 (.inl (by decide))
                    rw [HLM.out] at hr1
                    have z0 := hr1.cellAt (j * 4 + 3) (by omega)
                    have z1 := hr1.frozenAt (j * 4 + 3)
                    rw [rowsM_at HX.out (by omega)] at z0
                    have y44 : y.cell? ⟨w.heap.size, 44, none⟩ = some (.slice (some ⟨g, 0, none⟩) p.mn p.mc) := by rw [(HTd.out.Q.cht hc1 (.inl (by decide))).cell, HMA.out]; rfl
                    clear ho1 hB1 hc1 hr1
                    go_simp
                    refine hK.out _ _ y44 (fun _ => ?_)
                    clear hK K
                    try simp only [Act.put, List.setIfInBounds_toArray, List.set_cons_zero, List.set_cons_succ]
                    refine wpAnyH_take (i := 13) (oi := ?oi13s) (v := ?v13s) ?hi13s (by kernel_rfl) (by kernel_rfl) (by kernel_rfl) ?hq13s ?hy13s (by assumption) ?rest13s
                    case hi13s => (simp only [List.getElem?_toArray, List.getElem?_cons_zero, List.getElem?_cons_succ]; rfl)
                    case hy13s => (refine Or.inl ⟨by rfl, ?_⟩; intro w hSw; (try dsimp only at hSw); go_simp; try with_reducible rfl)
                    case hq13s => exact fun _ _ _ h => h
                    try simp only [Act.put, List.setIfInBounds_toArray, List.set_cons_zero, List.set_cons_succ]
                    refine wpAnyH_take (i := 14) (oi := ?oi14s) (v := ?v14s) ?hi14s (by kernel_rfl) (by kernel_rfl) (by kernel_rfl) ?hq14s ?hy14s (by assumption) ?rest14s
                    case hi14s => (simp only [List.getElem?_toArray, List.getElem?_cons_zero, List.getElem?_cons_succ]; rfl)
                    case hy14s => (refine Or.inl ⟨by rfl, ?_⟩; intro w hSw; (try dsimp only at hSw); go_simp; try with_reducible rfl)
                    case hq14s => exact fun _ _ _ h => h
                    try simp only [Act.put, List.setIfInBounds_toArray, List.set_cons_zero, List.set_cons_succ]
                    refine wpAnyH_ready (rs := [15]) (by kernel_rfl) (by simp) ?_
                    refine AllReadyH.cons (o := ?o15s) ?ho15s (fun K hK => ?st15s) ?mo15s
                    case ho15s => (simp only [List.getElem?_toArray, List.getElem?_cons_zero, List.getElem?_cons_succ]; rfl)
                    · skip
                      have HTZ : Hid (LoSt w (y.setCell ⟨g, j * 4 + 3, none⟩ (.slice A1 m.n c1)) gb base (p.lay hA hc pA pc vA vc p.sA p.sc eA ec bA bc p.mA p.mc) { D with msgs := ml.set j { m with A := A1, cap := c1 } }) := Lib.hid (by
                        have hOy := HTd.out.own.cht H1.out.2.2 (by decide) (by decide) (by decide) (by decide)
                        have hMy := HOM.out.cht H1.out.2.2 (by decide) (by decide)
                        have hMz := hMy.put HLM.out HX.out H1.out.1
                        obtain ⟨_, _, cs, hBg⟩ := own_block_lt hMy.own (g := g) rfl
                        have hs : ChT [82] 0 y (y.setCell ⟨g, j * 4 + 3, none⟩ (.slice A1 m.n c1)) := (ChT.refl _ _ _).set hBg (by simp) (Nat.zero_le _) _ _
                        have hge := (own_block_lt hMy.own (g := g) rfl).2.1
                        refine ⟨(HTd.out.Q.cht H1.out.2.2 (.inl (by decide))).cht hs (.inl (by decide)), (HTd.out.R.cht H1.out.2.2 (.inl (by decide))).cht hs (.inl (by decide)), hOy.dataSet hBg ?_ (by rw [List.length_set]; exact HLM.out) fun r hr => ?_, (H1.out.2.1.cht hs (by decide)).lt, ?_⟩
                        · have e := HMA.out
                          simp only
                          rw [← e]
                          exact hMz
                        · rcases List.mem_or_eq_of_mem_set hr with h | h
                          · exact HTd.out.own.sm r h
                          · subst h
                            exact HTd.out.own.sm m (List.mem_of_getElem? HX.out)
                        · exact (HTd.out.ch.trans (H1.out.2.2.mono (fun t ht => List.mem_cons_of_mem _ ht) (Nat.le_refl _))).trans ((ChT.refl _ _ _).set hBg (by simp) (Nat.le_trans HSZ.out.2.2 hge) _ _))
                      have z44 : (y.setCell ⟨g, j * 4 + 3, none⟩ (.slice A1 m.n c1)).cell? ⟨w.heap.size, 44, none⟩ = some (.slice (some ⟨g, 0, none⟩) p.mn p.mc) := by rw [HTZ.out.Q.cell, HMA.out]; rfl
                      go_simp
                      refine hK.out _ _ z44 (fun _ => ?_)
                      clear hK K
                      refine wpAnyH_done (by kernel_rfl) ?_ _
                      go_wp2_with fail
                      go_roundw
                      case rel => exact ⟨j + 1, ml.set j { m with A := A1, cap := c1 }, by omega, by go_num, Lib.hid ⟨HTZ.out, by rw [HJ.out.2, List.map_set]; exact (set_alike HX.out rfl).symm⟩⟩
                      case measure => simp [intOf] <;> omega
                    exact AllReadyH.nil
                  exact AllReadyH.nil
                exact AllReadyH.nil
              · obtain rfl : j = p.mn := by omega
                have hI : ¬ (p.mn : Int) < (p.mn : Int) := by omega
                have hD : decide ((p.mn : Int) < (p.mn : Int)) = false := by simp
                have HFIN : Hid (LoosenP w gb base p D (.returned (.agg (p.lay hA hc pA pc vA vc p.sA p.sc eA ec bA bc p.mA p.mc).cells)) (wr.setRow (w.heap.size + 1) (p.lay hA hc pA pc vA vc p.sA p.sc eA ec bA bc p.mA p.mc).cells)) := Lib.hid (by
                  have h := HJ.out.1
                  have hs : ChT [45] 0 wr (wr.setRow (w.heap.size + 1) (p.lay hA hc pA pc vA vc p.sA p.sc eA ec bA bc p.mA p.mc).cells) := chg_setRow.mono fun k _ hk => by subst hk; exact ⟨Nat.zero_le _, _, by simp, h.R.isT⟩
                  refine ⟨hA, hc, pA, pc, vA, vc, p.sA, p.sc, eA, ec, bA, bc, p.mA, p.mc, ml, rfl, h.own.cht hs (by decide) (by decide) (by decide) (by decide), HJ.out.2, (h.bk.cht hs (by decide)).lt, ?_⟩
                  have hcs : Chg (fun k => k = w.heap.size + 1) wr (wr.setRow (w.heap.size + 1) (p.lay hA hc pA pc vA vc p.sA p.sc eA ec bA bc p.mA p.mc).cells) := chg_setRow
                  exact ⟨hcs.os.trans h.ch.chg.os, hcs.tape.trans h.ch.chg.tape, hcs.output.trans h.ch.chg.output, Nat.le_trans h.ch.chg.size hcs.size, fun k hk hn => (hcs.block k (Nat.lt_of_lt_of_le hk h.ch.chg.size) (fun e => absurd (show k = w.heap.size + 1 from e) (by omega))).trans (h.ch.chg.block k hk hn)⟩)
                go_wp2_with (first | (refine wpList_load_on (by rfl) 45 _ (by rfl) w.heap.size (by rfl) 45 (p.lay hA hc pA pc vA vc p.sA p.sc eA ec bA bc p.mA p.mc).cells (0, 0) _ HJ.out.1.Q Tryd.underlying45 rfl (by kernel_rfl) ?_; simp only [Act.put, List.setIfInBounds_toArray, List.set_cons_zero, List.set_cons_succ]) | (refine wpList_store_row (by rfl) 45 _ _ (by rfl) (w.heap.size + 1) (p.lay hA hc pA pc vA vc p.sA p.sc eA ec bA bc p.mA p.mc).cells (by rfl) (by rfl) 45 zeroCells HJ.out.1.R (by kernel_rfl) rfl (by kernel_rfl) ?_; simp only [Act.put]))
                exact bodyPost_ret (results_cell_row (P := Tryd.prog) rfl _ (wr.setRow (w.heap.size + 1) (p.lay hA hc pA pc vA vc p.sA p.sc eA ec bA bc p.mA p.mc).cells) (w.heap.size + 1) 45 (p.lay hA hc pA pc vA vc p.sA p.sc eA ec bA bc p.mA p.mc).cells (0, 0) _ rfl (setRow_heap _ _ _ _ _ _ HJ.out.1.R) Tryd.underlying45 rfl (by kernel_rfl)) rfl HFIN.out
end Go.Proofs.YtffcepaegcllmaaDoor
