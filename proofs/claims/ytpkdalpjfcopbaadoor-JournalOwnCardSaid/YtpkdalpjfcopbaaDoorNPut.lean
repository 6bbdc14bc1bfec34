/-
  JournalOwn's put: all lists of one time are written full, then grown.
-/
import Derived.Test.YtpkdalpjfcopbaaDoorNGrow
import Derived.Test.YtpkdalpjfcopbaaDoorKOpen
import Derived.Deep.CutBlock
namespace Go.Proofs.YtpkdalpjfcopbaaDoor
open Go.RowKit
/-- A cell of a block of some type. -/
structure CellT (w : World) (t : TypeId) (p : Addr) (v : Value) : Prop where
  ty : IsT w t p.block
  cell : w.cell? p = some v
theorem CellT.chg {w w' : World} {t : TypeId} {p : Addr} {v : Value} {S : Nat → Prop} (h : CellT w t p v) (hc : Chg S w w') (hS : ¬ S p.block) : CellT w' t p v := by
  have hb := hc.block p.block (World.block_lt_of_cell? w p h.cell) hS
  obtain ⟨cs, fz, ht⟩ := h.ty
  exact ⟨⟨cs, fz, hb.trans ht⟩, (World.cell?_of_block hb).trans h.cell⟩
/-- Lists that are new since a block, each with room of its own. -/
structure New (base : Nat) (w : World) (E : List Tv) : Prop where
  lo : ∀ (k : Nat) (e : Tv), E[k]? = some e → Lo w base e.A e.n e.c ∧ e.n ≤ 1099511627776
  pw : ∀ (k k' : Nat) (e e' : Tv) (g : Nat), E[k]? = some e → E[k']? = some e' → blkO e.A e.c = some g → blkO e'.A e'.c = some g → k = k'
/-- The writes' and the records' rows. -/
structure RowT (w : World) (t : TypeId) (z d : Nat) (A : Option Addr) (B : List Tv) : Prop where
  at_ : ∀ (i : Nat) (x : Tv), B[i]? = some x → ∃ g o, A = some ⟨g, o, none⟩ ∧ CellT w t ⟨g, o + i * z + d, none⟩ x.v
theorem RowT.chg {w w' : World} {t : TypeId} {z d : Nat} {A : Option Addr} {B : List Tv} {S : Nat → Prop} (h : RowT w t z d A B) (hc : Chg S w w') (hS : ∀ g, IsT w t g → ¬ S g) : RowT w' t z d A B :=
  ⟨fun i x hx => by
    obtain ⟨g, o, e, hC⟩ := h.at_ i x hx
    exact ⟨g, o, e, hC.chg hc (hS _ hC.ty)⟩⟩
structure Lq where
  A : Option Addr
  B : List Tv
  c : Nat
def Lq.v (x : Lq) : Value := .slice x.A x.B.length x.c
/-- The lists gathered so far. -/
structure Q1 (w : World) (s : Nat) (vt vm : Value) (T M D : List Tv) (vt' : Value) (wr : World) : Prop where
  so : StO wr s vt' vm (T ++ D) M
  chg : Chg (fun q => q = s ∨ some q = vt.ownBlock) w wr
  own : vt'.ownBlock = vt.ownBlock ∨ ∀ g, vt'.ownBlock = some g → w.heap.size ≤ g
section
variable {w wr w2 : World} {s : Nat} {vt vm vt' v2 : Value} {T M D : List Tv} {x : Tv}
theorem Q1.snoc (h : Q1 w s vt vm T M D vt' wr) (h0 : StO w s vt vm T M) (ho : w2.ownsRow 0 22 1 v2 ((T ++ D).length + 1) ((T ++ D).map Tv.v ++ [x.v])) (hg : wr.grownBy w2 vt'.ownBlock) (hn : v2.ownBlock = vt'.ownBlock ∨ ∃ q, v2.ownBlock = some q ∧ wr.heap.size ≤ q) : Q1 w s vt vm T M (D ++ [x]) v2 (w2.setCell ⟨s, 0, none⟩ v2) := by
  have hc := Chg.of_grown hg
  have hcs : Chg (fun k => k = s) w2 (w2.setCell ⟨s, 0, none⟩ v2) := (Chg.refl (fun k => k = s) w2).setCell (p := ⟨s, 0, none⟩) (.inl rfl) _
  have hsw := h.chg.size
  have hb2 : Blk w2 s 73 #[vt', vm] := h.so.blk.chg hc fun e => absurd ((own_isT h.so.tx e.symm).eq_ h.so.blk.isT) (by decide)
  have hm2 : w2.ownsRow 0 22 1 vm M.length (M.map Tv.v) := own_chg h.so.mo hc fun g hg' e => h.so.ne g e.symm hg'
  have off : ∀ {u : Value} {n : Nat} {xs : List Value}, w2.ownsRow 0 22 1 u n xs → ∀ g, u.ownBlock = some g → ¬ g = s := fun ho g hg e => by
    subst e
    exact absurd ((own_isT ho hg).eq_ hb2.isT) (by decide)
  refine ⟨⟨hb2.set_ 0 v2, ?_, own_chg hm2 hcs (off hm2), fun g h1 h2 => ?_⟩, ?_, ?_⟩
  · have := own_chg ho hcs (off ho)
    rw [← List.append_assoc, List.length_append, List.map_append]
    exact this
  · rcases hn with e | ⟨q, e, hq⟩
    · rw [e] at h1
      exact h.so.ne g h1 h2
    · rw [e] at h1
      injection h1 with h1
      subst h1
      have := (own_block_lt h0.mo h2).1
      omega
  · refine Chg.thenS (Chg.thenS h.chg hc fun i hi e => ?_) hcs fun i _ e => .inl e
    rcases h.own with e2 | e2
    · exact .inr (e.trans e2)
    · have := e2 i e.symm
      omega
  · rcases hn with e | ⟨q, e, hq⟩
    · rcases h.own with e2 | e2
      · exact .inl (e.trans e2)
      · exact .inr fun g hg' => e2 g (by rw [← e]; exact hg')
    · exact .inr fun g hg' => by
        rw [e] at hg'
        injection hg' with hg'
        omega
end
theorem Q1.drew {w wr : World} {s : Nat} {vt vm vt' : Value} {T M D : List Tv} (h : Q1 w s vt vm T M D vt' wr) : Q1 w s vt vm T M D vt' wr.drew := ⟨h.so.over (below_drewN (Below.refl _ _) 1), h.chg.drew, h.own⟩
theorem Q1.step {w wd w2 : World} {s : Nat} {vt vm vt' v2 : Value} {T M D : List Tv} {x : Tv} (h : Q1 w s vt vm T M D vt' wd) (h0 : StO w s vt vm T M) (ho : w2.ownsRow 0 22 1 v2 ((T ++ D).length + 1) ((T ++ D).map Tv.v ++ [.slice x.A x.n x.c])) (hg : wd.grownBy w2 vt'.ownBlock) (hn : v2.ownBlock = vt'.ownBlock ∨ v2.ownBlock = some (wd.heap.size + 1)) :
    w2.cell? ⟨s, 0, none⟩ = some vt' ∧ w2.frozen? ⟨s, 0, none⟩ = false ∧ Q1 w s vt vm T M (D ++ [x]) v2 (w2.setCell ⟨s, 0, none⟩ v2) := by
  have hb2 : Blk w2 s 73 #[vt', vm] := h.so.blk.chg (Chg.of_grown hg) fun e => absurd ((own_isT h.so.tx e.symm).eq_ h.so.blk.isT) (by decide)
  exact ⟨hb2.cell 0, hb2.frozen 0, h.snoc h0 ho hg (hn.imp id fun e => ⟨_, e, by omega⟩)⟩
theorem drew_chg {S : Nat → Prop} {w w' : World} (h : Chg S w.drew w') : Chg S w w' := ⟨h.os, h.tape, h.output, h.size, h.block⟩
theorem lq_pre {Ew : List Tv} {LL : List Lq} {j : Nat} {y : Lq} (h : LL[j]? = some y) (i : Nat) : ((Ew ++ ((LL.take j).map Lq.B).flatten) ++ y.B.take i).length ≤ (Ew ++ (LL.map Lq.B).flatten).length := by
  have h1 : LL = LL.take j ++ (y :: LL.drop (j + 1)) := by
    have hl := (List.getElem?_eq_some_iff.1 h)
    obtain ⟨hl, he⟩ := hl
    rw [← he, List.getElem_cons_drop, List.take_append_drop]
  have h2 : (LL.map Lq.B).flatten = ((LL.take j).map Lq.B).flatten ++ (y.B ++ ((LL.drop (j + 1)).map Lq.B).flatten) := by
    conv => lhs; rw [h1]
    rw [List.map_append, List.flatten_append]
    rfl
  rw [h2]
  simp only [List.length_append, List.length_take]
  omega
theorem lq_flat {LL : List Lq} {j : Nat} {y : Lq} (h : LL[j]? = some y) : y.B.length ≤ (LL.map Lq.B).flatten.length := by
  have h1 := lq_pre (Ew := []) h y.B.length
  rw [List.take_length, List.nil_append, List.nil_append, List.length_append] at h1
  omega
theorem not_row {w : World} {s : Nat} {vt vm : Value} {T M : List Tv} (h : StO w s vt vm T M) {t g : Nat} (ht : IsT w t g) (h1 : t ≠ 73) (h2 : t ≠ 22) : ¬ (g = s ∨ some g = vt.ownBlock) := fun e => by
  rcases e with rfl | e
  · exact h1 (ht.eq_ h.blk.isT)
  · exact h2 (ht.eq_ (own_isT h.tx e.symm))
theorem New.abs {base : Nat} {w : World} {T E : List Tv} (h : New base w E) : NewF base T.length w (T ++ E) := by
  refine ⟨fun k e hk he => ?_, fun k k' e e' g hk hk' he he' h1 h2 => ?_⟩
  · rw [List.getElem?_append_right hk] at he
    exact h.lo _ e he
  · rw [List.getElem?_append_right hk] at he
    rw [List.getElem?_append_right hk'] at he'
    have := h.pw _ _ e e' g he he' h1 h2
    omega
/-- The lists ahead of a place are full. -/
structure Q2 (w1 : World) (base fr : Nat) (TE : List Tv) (K i : Nat) (wr : World) : Prop where
  chg : Chg (EbF fr TE) w1 wr
  new : NewF base fr wr TE
  done : ∀ (j : Nat) (e : Tv), fr ≤ j → j < K → TE[j]? = some e → Lr wr e.A e.n (sg j e.n)
  part : ∀ e, TE[K]? = some e → Lr wr e.A i (sg K i)
theorem Q2.drew {w1 wr : World} {base fr K i : Nat} {TE : List Tv} (h : Q2 w1 base fr TE K i wr) : Q2 w1 base fr TE K i wr.drew := by
  have hb := below_drewN (Below.refl wr.heap.size wr) 1
  exact ⟨h.chg.drew, h.new.chg (Chg.of_below hb (fun _ => False)) fun _ _ h => h, fun j e h1 h2 h3 => (h.done j e h1 h2 h3).over hb, fun e he => (h.part e he).over hb⟩
theorem Q2.put {w1 wr : World} {base fr K i : Nat} {TE : List Tv} (h : Q2 w1 base fr TE K i wr) (hK : fr ≤ K) {e : Tv} (he : TE[K]? = some e) (hi : i < e.n) :
    ∃ g o u, e.A = some ⟨g, o, none⟩ ∧ wr.cell? ⟨g, o + i, none⟩ = some u ∧ wr.frozen? ⟨g, o + i, none⟩ = false ∧ Q2 w1 base fr TE K (i + 1) (wr.setCell ⟨g, o + i, none⟩ (.int .u8 ((sgn K i).toNat : Int))) ∧ IsT wr 5 g := by
  obtain ⟨g, o, hA, hb, hf, hs, hput⟩ := (h.new.lo K e hK he).1.fill (h.part e he) hi
  obtain ⟨u, hu⟩ := Option.isSome_iff_exists.1 hs
  refine ⟨g, o, u, hA, hu, hf, ⟨h.chg.setCell (.inl ⟨K, e, hK, he, hb⟩) _, ⟨fun k e2 hk he2 => ⟨(h.new.lo k e2 hk he2).1.any_set g _ _, (h.new.lo k e2 hk he2).2⟩, h.new.pw⟩, fun j e2 h1 h2 h3 => ?_, fun e2 he2 => ?_⟩, ((h.new.lo K e hK he).1.blk hb).2.2⟩
  · refine (h.done j e2 h1 h2 h3).far (fun hn hg => ?_) _ _
    have := h.new.pw j K e2 e g h1 hK h3 he (blkO_map hn (h.new.lo j e2 h1 h3).1.le hg) hb
    omega
  · rw [he] at he2
    injection he2 with he2
    subst he2
    rw [sg_succ]
    exact hput _
theorem Q2.next {w1 wr : World} {base fr K i : Nat} {TE : List Tv} (h : Q2 w1 base fr TE K i wr) {e : Tv} (he : TE[K]? = some e) (hi : i = e.n) : Q2 w1 base fr TE (K + 1) 0 wr := by
  refine ⟨h.chg, h.new, fun j e2 h1 h2 h3 => ?_, fun e2 _ => Lr.nil _ _⟩
  rcases Nat.lt_or_ge j K with h4 | h4
  · exact h.done j e2 h1 h4 h3
  · obtain rfl : j = K := by omega
    rw [he] at h3
    injection h3 with h3
    subst h3 hi
    exact h.part e he
/-- The store behind a put. -/
def PutS (w : World) (s : Nat) (vt vm : Value) (T M E : List Tv) (w' : World) : Prop :=
  ∃ vt' vm' Mn, StAt w' s vt' vm' (T ++ E) (M ++ Mn) ∧ (∀ g, vt'.ownBlock = some g → vt.ownBlock = some g ∨ w.heap.size ≤ g) ∧ ∀ g, vm'.ownBlock = some g → vm.ownBlock = some g ∨ w.heap.size ≤ g
/-- What has come of it all. -/
theorem put_end {w w1 w2 wc : World} {s base : Nat} {vt vm vt1 vm' : Value} {T M E Mn : List Tv} (hS : StAt w s vt vm T M) (_hE : New base w E) (h1 : Q1 w s vt vm T M E vt1 w1) (h2 : Q2 w1 base T.length (T ++ E) (T ++ E).length 0 w2) (h3 : Q3 w2 base T.length s (T ++ E) M vt1 vm (T ++ E).length Mn vm' wc)
    (hlow : ∀ (k : Nat) (t m : Tv), T[k]? = some t → M[k]? = some m → (∀ g, 0 < t.n → t.A.map (·.block) = some g → g < base) ∧ (∀ g, 0 < m.n → m.A.map (·.block) = some g → g < base)) (hfew : T.length + E.length ≤ 1099511627776) (_hb : base ≤ w.heap.size) :
    PutS w s vt vm T M E wc ∧ Chg (fun q => (q = s ∨ some q = vt.ownBlock ∨ some q = vm.ownBlock) ∨ ∃ (k : Nat) (e : Tv), E[k]? = some e ∧ blkO e.A e.c = some q) w wc := by
  have heb : ∀ q, EbF T.length (T ++ E) q → ∃ (k : Nat) (e : Tv), E[k]? = some e ∧ blkO e.A e.c = some q := fun q ⟨k, e, hk, he, hq⟩ => by
    rw [List.getElem?_append_right hk] at he
    exact ⟨_, e, he, hq⟩
  have hge : ∀ q, EbF T.length (T ++ E) q → base ≤ q := fun q hq => (h2.new.ty hq).1
  have hc : Chg (fun q => (q = s ∨ some q = vt.ownBlock ∨ some q = vm.ownBlock) ∨ EbF T.length (T ++ E) q) w wc := by
    refine Chg.thenS (Chg.thenS (h1.chg.mono fun q _ hq => .inl (hq.imp id .inl)) h2.chg fun q _ hq => .inr hq) h3.chg fun q _ hq => ?_
    rcases hq with (hq | hq) | hq
    · exact .inl (.inl hq)
    · exact .inl (.inr (.inr hq))
    · exact .inr hq
  have hlen := h3.len
  rw [List.length_append] at hlen
  have hl := hS.len
  have off : ∀ {g : Nat}, IsT w 5 g → g < base → ¬ ((g = s ∨ some g = vt.ownBlock ∨ some g = vm.ownBlock) ∨ EbF T.length (T ++ E) g) := fun ht hlt hq => by
    rcases hq with (hq | hq | hq) | hq
    · subst hq
      exact absurd (ht.eq_ hS.so.blk.isT) (by decide)
    · exact absurd (ht.eq_ (own_isT hS.so.tx hq.symm)) (by decide)
    · exact absurd (ht.eq_ (own_isT hS.so.mo hq.symm)) (by decide)
    · have := hge _ hq
      omega
  refine ⟨⟨vt1, vm', Mn, ⟨h3.so, by rw [List.length_append, List.length_append]; omega, fun k t m ht hm => ?_, by rw [List.length_append]; exact hfew⟩, fun g hg => h1.own.imp (fun e => by rw [← e]; exact hg) fun e => e g hg, fun g hg => h3.vmo.imp (fun e => by rw [← e]; exact hg) fun e => ?_⟩, hc.mono fun q _ hq => hq.imp id (heb q)⟩
  rotate_left
  · have e1 := e g hg
    have e2 := h1.chg.size
    have e3 := h2.chg.size
    omega
  rcases Nat.lt_or_ge k T.length with hk | hk
  · rw [List.getElem?_append_left hk] at ht
    rw [List.getElem?_append_left (by omega)] at hm
    have hd := hS.ok k t m ht hm
    obtain ⟨l1, l2⟩ := hlow k t m ht hm
    exact ⟨hd.tx.chg hc fun g hn hg hT => off hT (l1 g hn hg), hd.n, hd.mo.chg hc fun g hn hg hT => off hT (l2 g hn hg), hd.lt⟩
  · rw [List.getElem?_append_right (by omega)] at hm
    have h5 := (h3.done (k - T.length) t m (by rw [show T.length + (k - T.length) = k by omega]; exact ht) (by rw [← hl]; exact hm)).1
    rwa [show T.length + (k - T.length) = k by omega] at h5
theorem info_bs : (Tryd.prog.info? 22).map (fun i => (i.zero, i.size, i.bytes)) = some (some (.slice none 0 0), 1, 24) := by kernel_rfl
theorem u_bss : Tryd.prog.underlying 71 = some (.slice 22) := Tryd.underlying71
set_option maxRecDepth 100000 in
set_option maxHeartbeats 6400000 in
theorem put_any {w : World} {s base gl cw : Nat} {vt vm : Value} {T M Ew : List Tv} {LL : List Lq} {Aw : Option Addr} (hS : StAt w s vt vm T M) (hE : New base w (Ew ++ (LL.map Lq.B).flatten))
    (hw : RowT w 94 3 2 Aw Ew) (hgl : Blk w gl 25 (LL.map Lq.v).toArray) (hr : ∀ (j : Nat) (x : Lq), LL[j]? = some x → RowT w 34 2 1 x.A x.B) (hb : base ≤ w.heap.size)
    (hlow : ∀ (k : Nat) (t m : Tv), T[k]? = some t → M[k]? = some m → (∀ g, 0 < t.n → t.A.map (·.block) = some g → g < base) ∧ (∀ g, 0 < m.n → m.A.map (·.block) = some g → g < base))
    (hfew : T.length + (Ew ++ (LL.map Lq.B).flatten).length ≤ 1099511627776) (hLL : LL.length ≤ 1099511627776) :
    Calls Tryd.prog 40 #[.pointer (some ⟨s, 0, none⟩), .slice Aw Ew.length cw, .slice (some ⟨gl, 0, none⟩) LL.length LL.length] w fun e w' => e = .returned (.tuple #[]) ∧ PutS w s vt vm T M (Ew ++ (LL.map Lq.B).flatten) w' ∧
      Chg (fun q => (q = s ∨ some q = vt.ownBlock ∨ some q = vm.ownBlock) ∨ ∃ (k : Nat) (e : Tv), (Ew ++ (LL.map Lq.B).flatten)[k]? = some e ∧ blkO e.A e.c = some q) w w' := by
  obtain ⟨i1, hi1, hr0, hr1, hr2⟩ := info_parts info_bs
  obtain ⟨At, ct, rfl, _, _⟩ := own_shape hS.so.tx
  have H := Lib.hid hS
  have HW := Lib.hid hw
  have HR := Lib.hid hr
  have HGL := Lib.hid hgl
  have HE := Lib.hid hE
  have HLOW := Lib.hid hlow
  have s0 : w.cell? ⟨s, 0, none⟩ = some (.slice At T.length ct) := hS.so.blk.cell 0
  have HQ0 : Hid (Q1 w s (.slice At T.length ct) vm T M [] (.slice At T.length ct) w) := Lib.hid ⟨by rw [List.append_nil]; exact hS.so, Chg.refl _ _, .inl rfl⟩
  clear hS hw hr hgl hE hlow
  go_enter Tryd.func40, Tryd.ntmps40
  go_upto_block 0 with fail
  go_cut [7] from 15 to 40 (fun _ wx => ∃ vt', Hid (Q1 w s (.slice At T.length ct) vm T M Ew vt' wx))
  case first =>
    go_wp2_with fail
    go_loopw [7] (fun i wr => ∃ (k : Nat) (vt' : Value), i = .int .i64 (k : Int) ∧ k ≤ Ew.length ∧ Hid (Q1 w s (.slice At T.length ct) vm T M (Ew.take k) vt' wr)) (fun i _ => Ew.length - (intOf i).toNat)
    case atStart => exact ⟨0, _, rfl, by omega, HQ0⟩
    case round =>
      clear HQ0 s0
      obtain ⟨k, vt', rfl, hk, HQ⟩ := hrel
      obtain ⟨A', c', rfl, _, _⟩ := own_shape HQ.out.so.tx
      by_cases hlt : k < Ew.length
      · have hI : (k : Int) < (Ew.length : Int) := by omega
        obtain ⟨x, hx⟩ : ∃ x, Ew[k]? = some x := ⟨_, List.getElem?_eq_getElem hlt⟩
        obtain ⟨gw, ow, hAw, hC⟩ := HW.out.at_ k x hx
        have hC2 := hC.chg HQ.out.chg (not_row H.out.so hC.ty (by decide) (by decide))
        have HX := Lib.hid hx
        have HI := Lib.hid hI
        have HCT := Lib.hid hC2
        have hTD : (T ++ Ew.take k).length ≤ 1099511627776 := by rw [List.length_append, List.length_take]; rw [List.length_append] at hfew; omega
        subst hAw
        clear hC hC2 hx hI
        obtain ⟨D, hD⟩ : ∃ D, Ew.take k = D := ⟨_, rfl⟩
        rw [hD] at HQ hTD
        have HD := Lib.hid hD
        clear hD
        have hI := HI.out
        obtain ⟨N, hN⟩ : ∃ N, (T ++ D).length = N := ⟨_, rfl⟩
        rw [hN] at HQ hTD
        have HN := Lib.hid hN
        have hkb : k ≤ 1099511627776 := by rw [List.length_append] at hfew; omega
        clear hN
        go_upto_region 4 with fail
        obtain ⟨wd, hwd⟩ : ∃ wd, wd = wr.drew := ⟨_, rfl⟩
        have HQD : Hid (Q1 w s (.slice At T.length ct) vm T M D (.slice A' N c') wd) := Lib.hid (by rw [hwd]; exact HQ.out.drew)
        have HWD := Lib.hid hwd
        have HTX : Hid (wd.ownsRow 0 22 1 (.slice A' N c') N ((T ++ D).map Tv.v)) := Lib.hid (by have h1 := HQD.out.so.tx; rw [HN.out] at h1; exact h1)
        have HSF : Hid (∀ W, Chg (fun q => q = s ∨ some q = (Value.slice A' N c').ownBlock) wd W → (fun W : World => W.cell? ⟨gw, ow + k * 3 + 2, none⟩ = some (.slice x.A x.n x.c)) W) := Lib.hid fun W hW => (HCT.out.chg (drew_chg (HWD.out ▸ hW)) (not_row HQ.out.so HCT.out.ty (by decide) (by decide))).cell
        have c0 : wd.cell? ⟨s, 0, none⟩ = some (.slice A' N c') := HQD.out.so.blk.cell 0
        clear hwd
        refine wp_region_held_drew (S := fun W : World => W.cell? ⟨gw, ow + k * 3 + 2, none⟩ = some (.slice x.A x.n x.c)) (by kernel_rfl) (by rw [← HWD.out]; exact HSF.out _ (Chg.refl _ _)) (fun hsw => ?_)
        rw [← HWD.out] at hsw ⊢
        refine wpAnyH_take (i := 0) (oi := ?oi0pa) (v := ?v0pa) ?hi0pa (by kernel_rfl) (by kernel_rfl) (by kernel_rfl) ?hq0pa ?hy0pa (by assumption) ?rest0pa
        case hi0pa => (simp only [List.getElem?_toArray, List.getElem?_cons_zero]; rfl)
        case hy0pa => (refine Or.inl ⟨by rfl, ?_⟩; intro w hSw; (try dsimp only at hSw); go_simp; try with_reducible rfl)
        case hq0pa => exact fun _ _ _ h => h
        try simp only [Act.put, List.setIfInBounds_toArray, List.set_cons_zero, List.set_cons_succ]
        refine wpAnyH_take (i := 1) (oi := ?oi1pa) (v := ?v1pa) ?hi1pa (by kernel_rfl) (by kernel_rfl) (by kernel_rfl) ?hq1pa ?hy1pa (by assumption) ?rest1pa
        case hi1pa => (simp only [List.getElem?_toArray, List.getElem?_cons_zero, List.getElem?_cons_succ]; rfl)
        case hy1pa => (refine Or.inl ⟨by rfl, ?_⟩; intro w hSw; (try dsimp only at hSw); go_simp; try with_reducible rfl)
        case hq1pa => exact fun _ _ _ h => h
        try simp only [Act.put, List.setIfInBounds_toArray, List.set_cons_zero, List.set_cons_succ]
        refine wpAnyH_take (i := 2) (oi := ?oi2pa) (v := ?v2pa) ?hi2pa (by kernel_rfl) (by kernel_rfl) (by kernel_rfl) ?hq2pa ?hy2pa (by assumption) ?rest2pa
        case hi2pa => (simp only [List.getElem?_toArray, List.getElem?_cons_zero, List.getElem?_cons_succ]; rfl)
        case hy2pa => (refine Or.inl ⟨by rfl, ?_⟩; intro w hSw; (try dsimp only at hSw); go_simp; try with_reducible rfl)
        case hq2pa => exact fun _ _ _ h => h
        try simp only [Act.put, List.setIfInBounds_toArray, List.set_cons_zero, List.set_cons_succ]
        refine wpAnyH_take (i := 3) (oi := ?oi3pa) (v := ?v3pa) ?hi3pa (by kernel_rfl) (by kernel_rfl) (by kernel_rfl) ?hq3pa ?hy3pa (by assumption) ?rest3pa
        case hi3pa => (simp only [List.getElem?_toArray, List.getElem?_cons_zero, List.getElem?_cons_succ]; rfl)
        case hy3pa => (refine Or.inl ⟨by rfl, ?_⟩; intro w hSw; (try dsimp only at hSw); go_simp; try with_reducible rfl)
        case hq3pa => exact fun _ _ _ h => h
        try simp only [Act.put, List.setIfInBounds_toArray, List.set_cons_zero, List.set_cons_succ]
        refine wpAnyH_take (i := 5) (oi := ?oi5pa) (v := ?v5pa) ?hi5pa (by kernel_rfl) (by kernel_rfl) (by kernel_rfl) ?hq5pa ?hy5pa (by assumption) ?rest5pa
        case hi5pa => (simp only [List.getElem?_toArray, List.getElem?_cons_zero, List.getElem?_cons_succ]; rfl)
        case hy5pa => (refine Or.inl ⟨by rfl, ?_⟩; intro w hSw; (try dsimp only at hSw); go_simp; try with_reducible rfl)
        case hq5pa => exact fun _ _ _ h => h
        try simp only [Act.put, List.setIfInBounds_toArray, List.set_cons_zero, List.set_cons_succ]
        refine wpAnyH_take (i := 6) (oi := ?oi6pa) (v := ?v6pa) ?hi6pa (by kernel_rfl) (by kernel_rfl) (by kernel_rfl) ?hq6pa ?hy6pa (by assumption) ?rest6pa
        case hi6pa => (simp only [List.getElem?_toArray, List.getElem?_cons_zero, List.getElem?_cons_succ]; rfl)
        case hy6pa => (refine Or.inl ⟨by rfl, ?_⟩; intro w hSw; (try dsimp only at hSw); go_simp; try with_reducible rfl)
        case hq6pa => exact fun _ _ _ h => h
        try simp only [Act.put, List.setIfInBounds_toArray, List.set_cons_zero, List.set_cons_succ]
        refine wpAnyH_take (i := 7) (oi := ?oi7pa) (v := ?v7pa) ?hi7pa (by kernel_rfl) (by kernel_rfl) (by kernel_rfl) ?hq7pa ?hy7pa (by assumption) ?rest7pa
        case hi7pa => (simp only [List.getElem?_toArray, List.getElem?_cons_zero, List.getElem?_cons_succ]; rfl)
        case hy7pa => (refine Or.inl ⟨by rfl, ?_⟩; intro w hSw; (try dsimp only at hSw); go_simp; try with_reducible rfl)
        case hq7pa => exact fun _ _ _ h => h
        try simp only [Act.put, List.setIfInBounds_toArray, List.set_cons_zero, List.set_cons_succ]
        refine wpAnyH_take (i := 8) (oi := ?oi8pa) (v := ?v8pa) ?hi8pa (by kernel_rfl) (by kernel_rfl) (by kernel_rfl) ?hq8pa ?hy8pa (by assumption) ?rest8pa
        case hi8pa => (simp only [List.getElem?_toArray, List.getElem?_cons_zero, List.getElem?_cons_succ]; rfl)
        case hy8pa => (refine Or.inl ⟨by rfl, ?_⟩; intro w hSw; (try dsimp only at hSw); go_simp; try with_reducible rfl)
        case hq8pa => exact fun _ _ _ h => h
        try simp only [Act.put, List.setIfInBounds_toArray, List.set_cons_zero, List.set_cons_succ]
        refine wpAnyH_take (i := 9) (oi := ?oi9pa) (v := ?v9pa) ?hi9pa (by kernel_rfl) (by kernel_rfl) (by kernel_rfl) ?hq9pa ?hy9pa (by assumption) ?rest9pa
        case hi9pa => (simp only [List.getElem?_toArray, List.getElem?_cons_zero, List.getElem?_cons_succ]; rfl)
        case hy9pa => (refine Or.inl ⟨by rfl, ?_⟩; intro w hSw; (try dsimp only at hSw); go_simp; try with_reducible rfl)
        case hq9pa => exact fun _ _ _ h => h
        try simp only [Act.put, List.setIfInBounds_toArray, List.set_cons_zero, List.set_cons_succ]
        refine wpAnyH_ready (rs := [4, 10]) (by kernel_rfl) (by simp) ?_
        refine AllReadyH.cons (o := ?o4pb) ?ho4pb (fun K hK => ?st4pb) ?mo4pb
        case ho4pb => (simp only [List.getElem?_toArray, List.getElem?_cons_zero, List.getElem?_cons_succ]; rfl)
        · skip
          go_simp
          refine hK.out _ _ (HSF.out _ (Chg.refl _ _)) (fun _ => ?_)
          clear hK K
          try simp only [Act.put, List.setIfInBounds_toArray, List.set_cons_zero, List.set_cons_succ]
          refine wpAnyH_ready (rs := [10]) (by kernel_rfl) (by simp) ?_
          refine AllReadyH.cons (o := ?o10pc) ?ho10pc (fun K hK => ?st10pc) ?mo10pc
          case ho10pc => (simp only [List.getElem?_toArray, List.getElem?_cons_zero, List.getElem?_cons_succ]; rfl)
          · skip
            go_simp
            refine hK.out _ _ (HSF.out _ (Chg.of_below (one_box' wd _) _)) (fun _ => ?_)
            clear hK K c0
            try simp only [Act.put, List.setIfInBounds_toArray, List.set_cons_zero, List.set_cons_succ]
            refine wpAnyH_ready (rs := [11]) (by kernel_rfl) (by simp) ?_
            refine AllReadyH.cons (o := ?o11pu1) ?ho11pu1 (fun K hK => ?st11pu1) ?mo11pu1
            case ho11pu1 => (simp only [List.getElem?_toArray, List.getElem?_cons_zero, List.getElem?_cons_succ]; rfl)
            · skip
              refine step_appN wd (by rfl) _ _ 71 (by rfl) 0 22 i1 _ 1 24 u_bss hi1 hr0 hr1 hr2 rfl (by omega) _ _ _ (by rfl) HTX.out #[.slice x.A x.n x.c] rfl (by rfl) (by simp; rfl) (by simp only [maxLen]; omega) (by omega) (Nat.zero_le _) ?_
              intro v2 w2 ho2 _ hg2 hat2
              obtain ⟨A2, c2, rfl, _, _⟩ := own_shape ho2
              obtain ⟨q1, q2, q3⟩ := HQD.out.step H.out.so (by rw [HN.out]; exact ho2) hg2 hat2
              have HQ3 := Lib.hid q3
              have hs2 := HSF.out w2 (Chg.mono (Chg.of_grown hg2) fun q _ e => .inr e)
              have hs3 := HSF.out _ (Chg.setCell (S := fun q => q = s ∨ some q = (Value.slice A' N c').ownBlock) (Chg.mono (Chg.of_grown hg2) fun q _ e => .inr e) (p := ⟨s, 0, none⟩) (.inl (.inl rfl)) (.slice A2 (N + 1) c2))
              clear ho2 hg2 hat2 q3
              refine hK.out _ _ hs2 (fun _ => ?_)
              clear hK K
              try simp only [Act.put, List.setIfInBounds_toArray, List.set_cons_zero, List.set_cons_succ]
              refine wpAnyH_take (i := 12) (oi := ?oi12pu2) (v := ?v12pu2) ?hi12pu2 (by kernel_rfl) (by kernel_rfl) (by kernel_rfl) ?hq12pu2 ?hy12pu2 (by assumption) ?rest12pu2
              case hi12pu2 => (simp only [List.getElem?_toArray, List.getElem?_cons_zero, List.getElem?_cons_succ]; rfl)
              case hy12pu2 => (refine Or.inl ⟨by rfl, ?_⟩; intro w hSw; (try dsimp only at hSw); go_simp; try with_reducible rfl)
              case hq12pu2 => exact fun _ _ _ h => h
              try simp only [Act.put, List.setIfInBounds_toArray, List.set_cons_zero, List.set_cons_succ]
              refine wpAnyH_take (i := 13) (oi := ?oi13pu2) (v := ?v13pu2) ?hi13pu2 (by kernel_rfl) (by kernel_rfl) (by kernel_rfl) ?hq13pu2 ?hy13pu2 (by assumption) ?rest13pu2
              case hi13pu2 => (simp only [List.getElem?_toArray, List.getElem?_cons_zero, List.getElem?_cons_succ]; rfl)
              case hy13pu2 => (refine Or.inl ⟨by rfl, ?_⟩; intro w hSw; (try dsimp only at hSw); go_simp; try with_reducible rfl)
              case hq13pu2 => exact fun _ _ _ h => h
              try simp only [Act.put, List.setIfInBounds_toArray, List.set_cons_zero, List.set_cons_succ]
              refine wpAnyH_ready (rs := [14]) (by kernel_rfl) (by simp) ?_
              refine AllReadyH.cons (o := ?o14pu3) ?ho14pu3 (fun K hK => ?st14pu3) ?mo14pu3
              case ho14pu3 => (simp only [List.getElem?_toArray, List.getElem?_cons_zero, List.getElem?_cons_succ]; rfl)
              · skip
                go_simp
                refine hK.out _ _ hs3 (fun _ => ?_)
                clear hK K
                try simp only [Act.put, List.setIfInBounds_toArray, List.set_cons_zero, List.set_cons_succ]
                refine wpAnyH_done (by kernel_rfl) ?_ _
                go_wp2_with fail
                go_roundw
                case rel => exact ⟨k + 1, _, by go_num, hlt, Lib.hid (by rw [List.take_add_one, HX.out, HD.out]; exact HQ3.out)⟩
                case measure => simp [intOf] <;> omega
              exact AllReadyH.nil
            exact AllReadyH.nil
          exact AllReadyH.nil
        refine AllReadyH.cons (o := ?o10pd) ?ho10pd (fun K hK => ?st10pd) ?mo10pd
        case ho10pd => (simp only [List.getElem?_toArray, List.getElem?_cons_zero, List.getElem?_cons_succ]; rfl)
        · skip
          go_simp
          have c9 : (wd.alloc (.cells #[.slice x.A x.n x.c] 22)).cell? ⟨s, 0, none⟩ = some (.slice A' N c') := cell_over (one_box' wd _) c0
          refine hK.out _ _ (HSF.out _ (Chg.of_below (one_box' wd _) _)) (fun _ => ?_)
          clear hK K c0
          try simp only [Act.put, List.setIfInBounds_toArray, List.set_cons_zero, List.set_cons_succ]
          refine wpAnyH_ready (rs := [4]) (by kernel_rfl) (by simp) ?_
          refine AllReadyH.cons (o := ?o4pe) ?ho4pe (fun K hK => ?st4pe) ?mo4pe
          case ho4pe => (simp only [List.getElem?_toArray, List.getElem?_cons_zero, List.getElem?_cons_succ]; rfl)
          · skip
            go_simp
            refine hK.out _ _ (HSF.out _ (Chg.of_below (one_box' wd _) _)) (fun _ => ?_)
            clear hK K c9
            try simp only [Act.put, List.setIfInBounds_toArray, List.set_cons_zero, List.set_cons_succ]
            refine wpAnyH_ready (rs := [11]) (by kernel_rfl) (by simp) ?_
            refine AllReadyH.cons (o := ?o11pv1) ?ho11pv1 (fun K hK => ?st11pv1) ?mo11pv1
            case ho11pv1 => (simp only [List.getElem?_toArray, List.getElem?_cons_zero, List.getElem?_cons_succ]; rfl)
            · skip
              refine step_appN wd (by rfl) _ _ 71 (by rfl) 0 22 i1 _ 1 24 u_bss hi1 hr0 hr1 hr2 rfl (by omega) _ _ _ (by rfl) HTX.out #[.slice x.A x.n x.c] rfl (by rfl) (by simp; rfl) (by simp only [maxLen]; omega) (by omega) (Nat.zero_le _) ?_
              intro v2 w2 ho2 _ hg2 hat2
              obtain ⟨A2, c2, rfl, _, _⟩ := own_shape ho2
              obtain ⟨q1, q2, q3⟩ := HQD.out.step H.out.so (by rw [HN.out]; exact ho2) hg2 hat2
              have HQ3 := Lib.hid q3
              have hs2 := HSF.out w2 (Chg.mono (Chg.of_grown hg2) fun q _ e => .inr e)
              have hs3 := HSF.out _ (Chg.setCell (S := fun q => q = s ∨ some q = (Value.slice A' N c').ownBlock) (Chg.mono (Chg.of_grown hg2) fun q _ e => .inr e) (p := ⟨s, 0, none⟩) (.inl (.inl rfl)) (.slice A2 (N + 1) c2))
              clear ho2 hg2 hat2 q3
              refine hK.out _ _ hs2 (fun _ => ?_)
              clear hK K
              try simp only [Act.put, List.setIfInBounds_toArray, List.set_cons_zero, List.set_cons_succ]
              refine wpAnyH_take (i := 12) (oi := ?oi12pv2) (v := ?v12pv2) ?hi12pv2 (by kernel_rfl) (by kernel_rfl) (by kernel_rfl) ?hq12pv2 ?hy12pv2 (by assumption) ?rest12pv2
              case hi12pv2 => (simp only [List.getElem?_toArray, List.getElem?_cons_zero, List.getElem?_cons_succ]; rfl)
              case hy12pv2 => (refine Or.inl ⟨by rfl, ?_⟩; intro w hSw; (try dsimp only at hSw); go_simp; try with_reducible rfl)
              case hq12pv2 => exact fun _ _ _ h => h
              try simp only [Act.put, List.setIfInBounds_toArray, List.set_cons_zero, List.set_cons_succ]
              refine wpAnyH_take (i := 13) (oi := ?oi13pv2) (v := ?v13pv2) ?hi13pv2 (by kernel_rfl) (by kernel_rfl) (by kernel_rfl) ?hq13pv2 ?hy13pv2 (by assumption) ?rest13pv2
              case hi13pv2 => (simp only [List.getElem?_toArray, List.getElem?_cons_zero, List.getElem?_cons_succ]; rfl)
              case hy13pv2 => (refine Or.inl ⟨by rfl, ?_⟩; intro w hSw; (try dsimp only at hSw); go_simp; try with_reducible rfl)
              case hq13pv2 => exact fun _ _ _ h => h
              try simp only [Act.put, List.setIfInBounds_toArray, List.set_cons_zero, List.set_cons_succ]
              refine wpAnyH_ready (rs := [14]) (by kernel_rfl) (by simp) ?_
              refine AllReadyH.cons (o := ?o14pv3) ?ho14pv3 (fun K hK => ?st14pv3) ?mo14pv3
              case ho14pv3 => (simp only [List.getElem?_toArray, List.getElem?_cons_zero, List.getElem?_cons_succ]; rfl)
              · skip
                go_simp
                refine hK.out _ _ hs3 (fun _ => ?_)
                clear hK K
                try simp only [Act.put, List.setIfInBounds_toArray, List.set_cons_zero, List.set_cons_succ]
                refine wpAnyH_done (by kernel_rfl) ?_ _
                go_wp2_with fail
                go_roundw
                case rel => exact ⟨k + 1, _, by go_num, hlt, Lib.hid (by rw [List.take_add_one, HX.out, HD.out]; exact HQ3.out)⟩
                case measure => simp [intOf] <;> omega
              exact AllReadyH.nil
            exact AllReadyH.nil
          exact AllReadyH.nil
        exact AllReadyH.nil
      · have hI : ¬ (k : Int) < (Ew.length : Int) := by omega
        have hD : decide ((k : Int) < (Ew.length : Int)) = false := by simpa using hI
        have hke : k = Ew.length := by omega
        have HF := HQ
        rw [hke, List.take_length] at HF
        clear hke
        go_wp2_with fail
        go_meet
        exact ⟨_, HF⟩
  case rest =>
    obtain ⟨vt1, HQ0⟩ := hcut
    clear s0
    go_upto_block 2 with fail
    go_cut [8, 9] from 40 to 72 (fun _ _ wx => ∃ vt', Hid (Q1 w s (.slice At T.length ct) vm T M (Ew ++ (LL.map Lq.B).flatten) vt' wx))
    case first =>
      go_wp2_with fail
      go_loopw [8, 9] (fun j _ wr => ∃ (j' : Nat) (vt' : Value), j = .int .i64 (j' : Int) ∧ j' ≤ LL.length ∧ Hid (Q1 w s (.slice At T.length ct) vm T M (Ew ++ ((LL.take j').map Lq.B).flatten) vt' wr)) (fun j _ _ => LL.length - (intOf j).toNat)
      case atStart => exact ⟨0, _, rfl, by omega, Lib.hid (by rw [List.take_zero, List.map_nil, List.flatten_nil, List.append_nil]; exact HQ0.out)⟩
      case round =>
        clear HQ0
        obtain ⟨j, vt2, rfl, hj, HQ2⟩ := hrel
        by_cases hlt : j < LL.length
        · have hJ : (j : Int) < (LL.length : Int) := by omega
          obtain ⟨y, hy⟩ : ∃ y, LL[j]? = some y := ⟨_, List.getElem?_eq_getElem hlt⟩
          have hgc : CellT w 25 ⟨gl, j, none⟩ (.slice y.A y.B.length y.c) := ⟨HGL.out.isT, by rw [HGL.out.cell, List.getElem?_toArray, List.getElem?_map, hy]; rfl⟩
          have HGC := Lib.hid hgc
          have HRY := Lib.hid (HR.out j y hy)
          have hyl := lq_flat hy
          have HY := Lib.hid hy
          have hjb : j ≤ 1099511627776 := by omega
          have hyb : y.B.length ≤ 1099511627776 := by rw [List.length_append] at hfew; omega
          clear hgc hy
          go_wp2_with fail
          go_loopw [9] (fun i wr => ∃ (i' : Nat) (vt' : Value), i = .int .i64 (i' : Int) ∧ i' ≤ y.B.length ∧ Hid (Q1 w s (.slice At T.length ct) vm T M ((Ew ++ ((LL.take j).map Lq.B).flatten) ++ y.B.take i') vt' wr)) (fun i _ => y.B.length - (intOf i).toNat)
          case atStart => exact ⟨0, _, rfl, by omega, Lib.hid (by rw [List.take_zero, List.append_nil]; exact HQ2.out)⟩
          case round =>
            clear HQ2
            obtain ⟨i, vt', rfl, hi, HQ⟩ := hrel
            have HCG := Lib.hid (HGC.out.chg HQ.out.chg (not_row H.out.so HGC.out.ty (by decide) (by decide)))
            have g0 : wr.cell? ⟨gl, j, none⟩ = some (.slice y.A y.B.length y.c) := HCG.out.cell
            by_cases hlt2 : i < y.B.length
            · have hI : (i : Int) < (y.B.length : Int) := by omega
              obtain ⟨A', c', rfl, _, _⟩ := own_shape HQ.out.so.tx
              obtain ⟨x, hx⟩ : ∃ x, y.B[i]? = some x := ⟨_, List.getElem?_eq_getElem hlt2⟩
              obtain ⟨gb, ob, hAy, hC⟩ := HRY.out.at_ i x hx
              have HCT := Lib.hid (hC.chg HQ.out.chg (not_row H.out.so hC.ty (by decide) (by decide)))
              have hTD : (T ++ ((Ew ++ ((LL.take j).map Lq.B).flatten) ++ y.B.take i)).length ≤ 1099511627776 := by
                have := lq_pre (Ew := Ew) HY.out i
                rw [List.length_append]
                omega
              have HX := Lib.hid hx
              rw [hAy] at HCG g0
              have HIL := Lib.hid hI
              have hib : i ≤ 1099511627776 := by omega
              clear hx hC hAy
              obtain ⟨D, hD⟩ : ∃ D, (Ew ++ ((LL.take j).map Lq.B).flatten) ++ y.B.take i = D := ⟨_, rfl⟩
              rw [hD] at HQ hTD
              have HD := Lib.hid hD
              clear hD
              obtain ⟨N, hN⟩ : ∃ N, (T ++ D).length = N := ⟨_, rfl⟩
              rw [hN] at HQ hTD
              have HN := Lib.hid hN
              clear hN
              go_upto_region 11 with fail
              clear g0
              obtain ⟨wd, hwd⟩ : ∃ wd, wd = wr.drew := ⟨_, rfl⟩
              have HQD : Hid (Q1 w s (.slice At T.length ct) vm T M D (.slice A' N c') wd) := Lib.hid (by rw [hwd]; exact HQ.out.drew)
              have HWD := Lib.hid hwd
              have HTX : Hid (wd.ownsRow 0 22 1 (.slice A' N c') N ((T ++ D).map Tv.v)) := Lib.hid (by have h1 := HQD.out.so.tx; rw [HN.out] at h1; exact h1)
              have HSF : Hid (∀ W, Chg (fun q => q = s ∨ some q = (Value.slice A' N c').ownBlock) wd W → (fun W : World => W.cell? ⟨gl, j, none⟩ = some (.slice (some ⟨gb, ob, none⟩) y.B.length y.c) ∧ W.cell? ⟨gb, ob + i * 2 + 1, none⟩ = some (.slice x.A x.n x.c)) W) := Lib.hid fun W hW => ⟨(HCG.out.chg (drew_chg (HWD.out ▸ hW)) (not_row HQ.out.so HCG.out.ty (by decide) (by decide))).cell, (HCT.out.chg (drew_chg (HWD.out ▸ hW)) (not_row HQ.out.so HCT.out.ty (by decide) (by decide))).cell⟩
              have c0 : wd.cell? ⟨s, 0, none⟩ = some (.slice A' N c') := HQD.out.so.blk.cell 0
              clear hwd
              refine wp_region_held_drew (S := fun W : World => W.cell? ⟨gl, j, none⟩ = some (.slice (some ⟨gb, ob, none⟩) y.B.length y.c) ∧ W.cell? ⟨gb, ob + i * 2 + 1, none⟩ = some (.slice x.A x.n x.c)) (by kernel_rfl) (by rw [← HWD.out]; exact HSF.out _ (Chg.refl _ _)) (fun hsw => ?_)
              rw [← HWD.out] at hsw ⊢
              refine wpAnyH_take (i := 0) (oi := ?oi0qa) (v := ?v0qa) ?hi0qa (by kernel_rfl) (by kernel_rfl) (by kernel_rfl) ?hq0qa ?hy0qa (by assumption) ?rest0qa
              case hi0qa => (simp only [List.getElem?_toArray, List.getElem?_cons_zero]; rfl)
              case hy0qa => (refine Or.inl ⟨by rfl, ?_⟩; intro w hSw; (try dsimp only at hSw); go_simp; try with_reducible rfl)
              case hq0qa => exact fun _ _ _ h => h
              try simp only [Act.put, List.setIfInBounds_toArray, List.set_cons_zero, List.set_cons_succ]
              refine wpAnyH_take (i := 1) (oi := ?oi1qa) (v := ?v1qa) ?hi1qa (by kernel_rfl) (by kernel_rfl) (by kernel_rfl) ?hq1qa ?hy1qa (by assumption) ?rest1qa
              case hi1qa => (simp only [List.getElem?_toArray, List.getElem?_cons_zero, List.getElem?_cons_succ]; rfl)
              case hy1qa => (refine Or.inl ⟨by rfl, ?_⟩; intro w hSw; (try dsimp only at hSw); go_simp; try with_reducible rfl)
              case hq1qa => exact fun _ _ _ h => h
              try simp only [Act.put, List.setIfInBounds_toArray, List.set_cons_zero, List.set_cons_succ]
              refine wpAnyH_take (i := 2) (oi := ?oi2qa) (v := ?v2qa) ?hi2qa (by kernel_rfl) (by kernel_rfl) (by kernel_rfl) ?hq2qa ?hy2qa (by assumption) ?rest2qa
              case hi2qa => (simp only [List.getElem?_toArray, List.getElem?_cons_zero, List.getElem?_cons_succ]; rfl)
              case hy2qa => (refine Or.inl ⟨by rfl, ?_⟩; intro w hSw; (try dsimp only at hSw); go_simp; try with_reducible rfl)
              case hq2qa => exact fun _ _ _ h => h
              try simp only [Act.put, List.setIfInBounds_toArray, List.set_cons_zero, List.set_cons_succ]
              refine wpAnyH_take (i := 3) (oi := ?oi3qa) (v := ?v3qa) ?hi3qa (by kernel_rfl) (by kernel_rfl) (by kernel_rfl) ?hq3qa ?hy3qa (by assumption) ?rest3qa
              case hi3qa => (simp only [List.getElem?_toArray, List.getElem?_cons_zero, List.getElem?_cons_succ]; rfl)
              case hy3qa => (refine Or.inl ⟨by rfl, ?_⟩; intro w hSw; (try dsimp only at hSw); go_simp; try with_reducible rfl)
              case hq3qa => exact fun _ _ _ h => h
              try simp only [Act.put, List.setIfInBounds_toArray, List.set_cons_zero, List.set_cons_succ]
              refine wpAnyH_take (i := 5) (oi := ?oi5qa) (v := ?v5qa) ?hi5qa (by kernel_rfl) (by kernel_rfl) (by kernel_rfl) ?hq5qa ?hy5qa (by assumption) ?rest5qa
              case hi5qa => (simp only [List.getElem?_toArray, List.getElem?_cons_zero, List.getElem?_cons_succ]; rfl)
              case hy5qa => (refine Or.inl ⟨by rfl, ?_⟩; intro w hSw; (try dsimp only at hSw); go_simp; try with_reducible rfl)
              case hq5qa => exact fun _ _ _ h => h
              try simp only [Act.put, List.setIfInBounds_toArray, List.set_cons_zero, List.set_cons_succ]
              refine wpAnyH_take (i := 6) (oi := ?oi6qa) (v := ?v6qa) ?hi6qa (by kernel_rfl) (by kernel_rfl) (by kernel_rfl) ?hq6qa ?hy6qa (by assumption) ?rest6qa
              case hi6qa => (simp only [List.getElem?_toArray, List.getElem?_cons_zero, List.getElem?_cons_succ]; rfl)
              case hy6qa => (refine Or.inl ⟨by rfl, ?_⟩; intro w hSw; (try dsimp only at hSw); go_simp; try with_reducible rfl)
              case hq6qa => exact fun _ _ _ h => h
              try simp only [Act.put, List.setIfInBounds_toArray, List.set_cons_zero, List.set_cons_succ]
              refine wpAnyH_take (i := 7) (oi := ?oi7qa) (v := ?v7qa) ?hi7qa (by kernel_rfl) (by kernel_rfl) (by kernel_rfl) ?hq7qa ?hy7qa (by assumption) ?rest7qa
              case hi7qa => (simp only [List.getElem?_toArray, List.getElem?_cons_zero, List.getElem?_cons_succ]; rfl)
              case hy7qa => (refine Or.inl ⟨by rfl, ?_⟩; intro w hSw; (try dsimp only at hSw); go_simp; try with_reducible rfl)
              case hq7qa => exact fun _ _ _ h => h
              try simp only [Act.put, List.setIfInBounds_toArray, List.set_cons_zero, List.set_cons_succ]
              refine wpAnyH_take (i := 8) (oi := ?oi8qa) (v := ?v8qa) ?hi8qa (by kernel_rfl) (by kernel_rfl) (by kernel_rfl) ?hq8qa ?hy8qa (by assumption) ?rest8qa
              case hi8qa => (simp only [List.getElem?_toArray, List.getElem?_cons_zero, List.getElem?_cons_succ]; rfl)
              case hy8qa => (refine Or.inl ⟨by rfl, ?_⟩; intro w hSw; (try dsimp only at hSw); go_simp; try with_reducible rfl)
              case hq8qa => exact fun _ _ _ h => h
              try simp only [Act.put, List.setIfInBounds_toArray, List.set_cons_zero, List.set_cons_succ]
              refine wpAnyH_take (i := 9) (oi := ?oi9qa) (v := ?v9qa) ?hi9qa (by kernel_rfl) (by kernel_rfl) (by kernel_rfl) ?hq9qa ?hy9qa (by assumption) ?rest9qa
              case hi9qa => (simp only [List.getElem?_toArray, List.getElem?_cons_zero, List.getElem?_cons_succ]; rfl)
              case hy9qa => (refine Or.inl ⟨by rfl, ?_⟩; intro w hSw; (try dsimp only at hSw); go_simp; try with_reducible rfl)
              case hq9qa => exact fun _ _ _ h => h
              try simp only [Act.put, List.setIfInBounds_toArray, List.set_cons_zero, List.set_cons_succ]
              refine wpAnyH_take (i := 10) (oi := ?oi10qa) (v := ?v10qa) ?hi10qa (by kernel_rfl) (by kernel_rfl) (by kernel_rfl) ?hq10qa ?hy10qa (by assumption) ?rest10qa
              case hi10qa => (simp only [List.getElem?_toArray, List.getElem?_cons_zero, List.getElem?_cons_succ]; rfl)
              case hy10qa => (refine Or.inl ⟨by rfl, ?_⟩; intro w hSw; (try dsimp only at hSw); go_simp; try with_reducible rfl)
              case hq10qa => exact fun _ _ _ h => h
              try simp only [Act.put, List.setIfInBounds_toArray, List.set_cons_zero, List.set_cons_succ]
              refine wpAnyH_take (i := 11) (oi := ?oi11qa) (v := ?v11qa) ?hi11qa (by kernel_rfl) (by kernel_rfl) (by kernel_rfl) ?hq11qa ?hy11qa (by assumption) ?rest11qa
              case hi11qa => (simp only [List.getElem?_toArray, List.getElem?_cons_zero, List.getElem?_cons_succ]; rfl)
              case hy11qa => (refine Or.inl ⟨by rfl, ?_⟩; intro w hSw; (try dsimp only at hSw); go_simp; try with_reducible rfl)
              case hq11qa => exact fun _ _ _ h => h
              try simp only [Act.put, List.setIfInBounds_toArray, List.set_cons_zero, List.set_cons_succ]
              refine wpAnyH_take (i := 12) (oi := ?oi12qa) (v := ?v12qa) ?hi12qa (by kernel_rfl) (by kernel_rfl) (by kernel_rfl) ?hq12qa ?hy12qa (by assumption) ?rest12qa
              case hi12qa => (simp only [List.getElem?_toArray, List.getElem?_cons_zero, List.getElem?_cons_succ]; rfl)
              case hy12qa => (refine Or.inl ⟨by rfl, ?_⟩; intro w hSw; (try dsimp only at hSw); go_simp; try with_reducible rfl)
              case hq12qa => exact fun _ _ _ h => h
              try simp only [Act.put, List.setIfInBounds_toArray, List.set_cons_zero, List.set_cons_succ]
              refine wpAnyH_ready (rs := [4, 13]) (by kernel_rfl) (by simp) ?_
              refine AllReadyH.cons (o := ?o4qb) ?ho4qb (fun K hK => ?st4qb) ?mo4qb
              case ho4qb => (simp only [List.getElem?_toArray, List.getElem?_cons_zero, List.getElem?_cons_succ]; rfl)
              · skip
                go_simp
                refine hK.out _ _ (HSF.out _ (Chg.refl _ _)) (fun _ => ?_)
                clear hK K
                try simp only [Act.put, List.setIfInBounds_toArray, List.set_cons_zero, List.set_cons_succ]
                refine wpAnyH_ready (rs := [13]) (by kernel_rfl) (by simp) ?_
                refine AllReadyH.cons (o := ?o13qc) ?ho13qc (fun K hK => ?st13qc) ?mo13qc
                case ho13qc => (simp only [List.getElem?_toArray, List.getElem?_cons_zero, List.getElem?_cons_succ]; rfl)
                · skip
                  go_simp
                  refine hK.out _ _ (HSF.out _ (Chg.of_below (one_box' wd _) _)) (fun _ => ?_)
                  clear hK K c0
                  try simp only [Act.put, List.setIfInBounds_toArray, List.set_cons_zero, List.set_cons_succ]
                  refine wpAnyH_ready (rs := [14]) (by kernel_rfl) (by simp) ?_
                  refine AllReadyH.cons (o := ?o14qu1) ?ho14qu1 (fun K hK => ?st14qu1) ?mo14qu1
                  case ho14qu1 => (simp only [List.getElem?_toArray, List.getElem?_cons_zero, List.getElem?_cons_succ]; rfl)
                  · skip
                    refine step_appN wd (by rfl) _ _ 71 (by rfl) 0 22 i1 _ 1 24 u_bss hi1 hr0 hr1 hr2 rfl (by omega) _ _ _ (by rfl) HTX.out #[.slice x.A x.n x.c] rfl (by rfl) (by simp; rfl) (by simp only [maxLen]; omega) (by omega) (Nat.zero_le _) ?_
                    intro v2 w2 ho2 _ hg2 hat2
                    obtain ⟨A2, c2, rfl, _, _⟩ := own_shape ho2
                    obtain ⟨q1, q2, q3⟩ := HQD.out.step H.out.so (by rw [HN.out]; exact ho2) hg2 hat2
                    have HQ3 := Lib.hid q3
                    have hs2 := HSF.out w2 (Chg.mono (Chg.of_grown hg2) fun q _ e => .inr e)
                    have hs3 := HSF.out _ (Chg.setCell (S := fun q => q = s ∨ some q = (Value.slice A' N c').ownBlock) (Chg.mono (Chg.of_grown hg2) fun q _ e => .inr e) (p := ⟨s, 0, none⟩) (.inl (.inl rfl)) (.slice A2 (N + 1) c2))
                    clear ho2 hg2 hat2 q3
                    refine hK.out _ _ hs2 (fun _ => ?_)
                    clear hK K
                    try simp only [Act.put, List.setIfInBounds_toArray, List.set_cons_zero, List.set_cons_succ]
                    refine wpAnyH_take (i := 15) (oi := ?oi15qu2) (v := ?v15qu2) ?hi15qu2 (by kernel_rfl) (by kernel_rfl) (by kernel_rfl) ?hq15qu2 ?hy15qu2 (by assumption) ?rest15qu2
                    case hi15qu2 => (simp only [List.getElem?_toArray, List.getElem?_cons_zero, List.getElem?_cons_succ]; rfl)
                    case hy15qu2 => (refine Or.inl ⟨by rfl, ?_⟩; intro w hSw; (try dsimp only at hSw); go_simp; try with_reducible rfl)
                    case hq15qu2 => exact fun _ _ _ h => h
                    try simp only [Act.put, List.setIfInBounds_toArray, List.set_cons_zero, List.set_cons_succ]
                    refine wpAnyH_take (i := 16) (oi := ?oi16qu2) (v := ?v16qu2) ?hi16qu2 (by kernel_rfl) (by kernel_rfl) (by kernel_rfl) ?hq16qu2 ?hy16qu2 (by assumption) ?rest16qu2
                    case hi16qu2 => (simp only [List.getElem?_toArray, List.getElem?_cons_zero, List.getElem?_cons_succ]; rfl)
                    case hy16qu2 => (refine Or.inl ⟨by rfl, ?_⟩; intro w hSw; (try dsimp only at hSw); go_simp; try with_reducible rfl)
                    case hq16qu2 => exact fun _ _ _ h => h
                    try simp only [Act.put, List.setIfInBounds_toArray, List.set_cons_zero, List.set_cons_succ]
                    refine wpAnyH_ready (rs := [17]) (by kernel_rfl) (by simp) ?_
                    refine AllReadyH.cons (o := ?o17qu3) ?ho17qu3 (fun K hK => ?st17qu3) ?mo17qu3
                    case ho17qu3 => (simp only [List.getElem?_toArray, List.getElem?_cons_zero, List.getElem?_cons_succ]; rfl)
                    · skip
                      go_simp
                      refine hK.out _ _ hs3 (fun _ => ?_)
                      clear hK K
                      try simp only [Act.put, List.setIfInBounds_toArray, List.set_cons_zero, List.set_cons_succ]
                      refine wpAnyH_done (by kernel_rfl) ?_ _
                      go_wp2_with fail
                      go_roundw
                      case rel => exact ⟨i + 1, _, by go_num, hlt2, Lib.hid (by rw [List.take_add_one, HX.out, ← List.append_assoc, HD.out]; exact HQ3.out)⟩
                      case measure => simp [intOf] <;> omega
                    exact AllReadyH.nil
                  exact AllReadyH.nil
                exact AllReadyH.nil
              refine AllReadyH.cons (o := ?o13qd) ?ho13qd (fun K hK => ?st13qd) ?mo13qd
              case ho13qd => (simp only [List.getElem?_toArray, List.getElem?_cons_zero, List.getElem?_cons_succ]; rfl)
              · skip
                go_simp
                have c9 : (wd.alloc (.cells #[.slice x.A x.n x.c] 22)).cell? ⟨s, 0, none⟩ = some (.slice A' N c') := cell_over (one_box' wd _) c0
                refine hK.out _ _ (HSF.out _ (Chg.of_below (one_box' wd _) _)) (fun _ => ?_)
                clear hK K c0
                try simp only [Act.put, List.setIfInBounds_toArray, List.set_cons_zero, List.set_cons_succ]
                refine wpAnyH_ready (rs := [4]) (by kernel_rfl) (by simp) ?_
                refine AllReadyH.cons (o := ?o4qe) ?ho4qe (fun K hK => ?st4qe) ?mo4qe
                case ho4qe => (simp only [List.getElem?_toArray, List.getElem?_cons_zero, List.getElem?_cons_succ]; rfl)
                · skip
                  go_simp
                  refine hK.out _ _ (HSF.out _ (Chg.of_below (one_box' wd _) _)) (fun _ => ?_)
                  clear hK K c9
                  try simp only [Act.put, List.setIfInBounds_toArray, List.set_cons_zero, List.set_cons_succ]
                  refine wpAnyH_ready (rs := [14]) (by kernel_rfl) (by simp) ?_
                  refine AllReadyH.cons (o := ?o14qv1) ?ho14qv1 (fun K hK => ?st14qv1) ?mo14qv1
                  case ho14qv1 => (simp only [List.getElem?_toArray, List.getElem?_cons_zero, List.getElem?_cons_succ]; rfl)
                  · skip
                    refine step_appN wd (by rfl) _ _ 71 (by rfl) 0 22 i1 _ 1 24 u_bss hi1 hr0 hr1 hr2 rfl (by omega) _ _ _ (by rfl) HTX.out #[.slice x.A x.n x.c] rfl (by rfl) (by simp; rfl) (by simp only [maxLen]; omega) (by omega) (Nat.zero_le _) ?_
                    intro v2 w2 ho2 _ hg2 hat2
                    obtain ⟨A2, c2, rfl, _, _⟩ := own_shape ho2
                    obtain ⟨q1, q2, q3⟩ := HQD.out.step H.out.so (by rw [HN.out]; exact ho2) hg2 hat2
                    have HQ3 := Lib.hid q3
                    have hs2 := HSF.out w2 (Chg.mono (Chg.of_grown hg2) fun q _ e => .inr e)
                    have hs3 := HSF.out _ (Chg.setCell (S := fun q => q = s ∨ some q = (Value.slice A' N c').ownBlock) (Chg.mono (Chg.of_grown hg2) fun q _ e => .inr e) (p := ⟨s, 0, none⟩) (.inl (.inl rfl)) (.slice A2 (N + 1) c2))
                    clear ho2 hg2 hat2 q3
                    refine hK.out _ _ hs2 (fun _ => ?_)
                    clear hK K
                    try simp only [Act.put, List.setIfInBounds_toArray, List.set_cons_zero, List.set_cons_succ]
                    refine wpAnyH_take (i := 15) (oi := ?oi15qv2) (v := ?v15qv2) ?hi15qv2 (by kernel_rfl) (by kernel_rfl) (by kernel_rfl) ?hq15qv2 ?hy15qv2 (by assumption) ?rest15qv2
                    case hi15qv2 => (simp only [List.getElem?_toArray, List.getElem?_cons_zero, List.getElem?_cons_succ]; rfl)
                    case hy15qv2 => (refine Or.inl ⟨by rfl, ?_⟩; intro w hSw; (try dsimp only at hSw); go_simp; try with_reducible rfl)
                    case hq15qv2 => exact fun _ _ _ h => h
                    try simp only [Act.put, List.setIfInBounds_toArray, List.set_cons_zero, List.set_cons_succ]
                    refine wpAnyH_take (i := 16) (oi := ?oi16qv2) (v := ?v16qv2) ?hi16qv2 (by kernel_rfl) (by kernel_rfl) (by kernel_rfl) ?hq16qv2 ?hy16qv2 (by assumption) ?rest16qv2
                    case hi16qv2 => (simp only [List.getElem?_toArray, List.getElem?_cons_zero, List.getElem?_cons_succ]; rfl)
                    case hy16qv2 => (refine Or.inl ⟨by rfl, ?_⟩; intro w hSw; (try dsimp only at hSw); go_simp; try with_reducible rfl)
                    case hq16qv2 => exact fun _ _ _ h => h
                    try simp only [Act.put, List.setIfInBounds_toArray, List.set_cons_zero, List.set_cons_succ]
                    refine wpAnyH_ready (rs := [17]) (by kernel_rfl) (by simp) ?_
                    refine AllReadyH.cons (o := ?o17qv3) ?ho17qv3 (fun K hK => ?st17qv3) ?mo17qv3
                    case ho17qv3 => (simp only [List.getElem?_toArray, List.getElem?_cons_zero, List.getElem?_cons_succ]; rfl)
                    · skip
                      go_simp
                      refine hK.out _ _ hs3 (fun _ => ?_)
                      clear hK K
                      try simp only [Act.put, List.setIfInBounds_toArray, List.set_cons_zero, List.set_cons_succ]
                      refine wpAnyH_done (by kernel_rfl) ?_ _
                      go_wp2_with fail
                      go_roundw
                      case rel => exact ⟨i + 1, _, by go_num, hlt2, Lib.hid (by rw [List.take_add_one, HX.out, ← List.append_assoc, HD.out]; exact HQ3.out)⟩
                      case measure => simp [intOf] <;> omega
                    exact AllReadyH.nil
                  exact AllReadyH.nil
                exact AllReadyH.nil
              exact AllReadyH.nil
            · have hI : ¬ (i : Int) < (y.B.length : Int) := by omega
              have hD : decide ((i : Int) < (y.B.length : Int)) = false := by simpa using hI
              have hie : i = y.B.length := by omega
              have HF : Hid (Q1 w s (.slice At T.length ct) vm T M (Ew ++ ((LL.take (j + 1)).map Lq.B).flatten) vt' wr) := by
                have h1 := HQ.out
                rw [hie, List.take_length, List.append_assoc] at h1
                refine Lib.hid ?_
                rw [List.take_add_one, HY.out, List.map_append, List.flatten_append]
                simpa using h1
              clear hie
              go_wp2_with fail
              go_roundw
              case rel => exact ⟨j + 1, _, by go_num, hlt, HF⟩
              case measure => simp [intOf] <;> omega
        · have hJ : ¬ (j : Int) < (LL.length : Int) := by omega
          have hD : decide ((j : Int) < (LL.length : Int)) = false := by simpa using hJ
          have hje : j = LL.length := by omega
          have HF := HQ2
          rw [hje, List.take_length] at HF
          clear hje
          go_wp2_with fail
          go_meet
          exact ⟨_, HF⟩
    case rest =>
      obtain ⟨vt1, HQ1⟩ := hcut
      obtain ⟨w1, HWY⟩ : ∃ w1, Hid (wc = w1) := ⟨_, Lib.hid rfl⟩
      rw [HWY.out] at HQ1 ⊢
      clear HWY
      obtain ⟨fr, hfr⟩ : ∃ fr, fr = T.length := ⟨_, rfl⟩
      obtain ⟨TE, hTE⟩ : ∃ TE, TE = T ++ (Ew ++ (LL.map Lq.B).flatten) := ⟨_, rfl⟩
      have HSO : Hid (StO w1 s vt1 vm TE M) := Lib.hid (by rw [hTE]; exact HQ1.out.so)
      have HNF : Hid (NewF base fr w1 TE) := Lib.hid (by rw [hfr, hTE]; exact HE.out.abs.chg HQ1.out.chg fun g ht => not_row H.out.so ht (by decide) (by decide))
      have hTEl : TE.length ≤ 1099511627776 := by rw [hTE, List.length_append]; exact hfew
      have hfrl : fr ≤ TE.length := by rw [hfr, hTE, List.length_append]; omega
      have HTE := Lib.hid (And.intro hfr hTE)
      rw [← hfr]
      clear hfr hTE
      obtain ⟨A1, c1, rfl, _, _⟩ := own_shape HSO.out.tx
      go_upto_block 6 with fail
      go_cut [10, 11] from 72 to 106 (fun _ _ wx => Hid (Q2 w1 base fr TE TE.length 0 wx))
      case first =>
        go_wp2_with fail
        go_loopw [10, 11] (fun k _ wr => ∃ KK : Nat, k = .int .i64 (KK : Int) ∧ fr ≤ KK ∧ KK ≤ TE.length ∧ Hid (Q2 w1 base fr TE KK 0 wr)) (fun k _ _ => TE.length - (intOf k).toNat)
        case atStart => exact ⟨fr, rfl, Nat.le_refl _, hfrl, Lib.hid ⟨Chg.refl _ _, HNF.out, fun j e h1 h2 => absurd h1 (by omega), fun _ _ => Lr.nil _ _⟩⟩
        case round =>
          obtain ⟨KK, rfl, hfK, hKl, HQ2⟩ := hrel
          have hso := HSO.out.chgU HQ2.out.chg fun q _ hq => (HNF.out.ty hq).2.2
          have s0 : wr.cell? ⟨s, 0, none⟩ = some (.slice A1 TE.length c1) := hso.blk.cell 0
          clear hso
          by_cases hlt : KK < TE.length
          · have hI : (KK : Int) < (TE.length : Int) := by omega
            obtain ⟨e, he⟩ : ∃ e, TE[KK]? = some e := ⟨_, List.getElem?_eq_getElem hlt⟩
            obtain ⟨qt, cap', ev, _, hqT, hqc⟩ := row_at HSO.out.tx he
            injection ev with ev _ _
            have hqc2 : CellT w1 22 ⟨qt, KK, none⟩ (.slice e.A e.n e.c) := ⟨hqT, hqc⟩
            have HQC := Lib.hid hqc2
            have hsc : CellT w1 73 ⟨s, 0, none⟩ (.slice A1 TE.length c1) := ⟨HSO.out.blk.isT, HSO.out.blk.cell 0⟩
            have HSC := Lib.hid hsc
            have HEK := Lib.hid he
            have hen := (HNF.out.lo KK e hfK he).2
            have HTY : Hid (∀ t g, IsT w1 t g → t ≠ 5 → ¬ EbF fr TE g) := Lib.hid fun t g ht hne hq => hne (ht.eq_ (HNF.out.ty hq).2.2)
            clear hqc2 hsc hqT hqc he
            rw [ev] at s0
            rw [ev] at HSC
            have HEV := Lib.hid ev
            clear ev
            go_wp2_with fail
            go_loopw [11] (fun i wr => ∃ i' : Nat, i = .int .i64 (i' : Int) ∧ i' ≤ e.n ∧ Hid (Q2 w1 base fr TE KK i' wr)) (fun i _ => e.n - (intOf i).toNat)
            case atStart => exact ⟨0, rfl, by omega, HQ2⟩
            case round =>
              clear HQ2 s0
              obtain ⟨i, rfl, hi, HQ⟩ := hrel
              have s0 : wr.cell? ⟨s, 0, none⟩ = some (.slice (some ⟨qt, 0, none⟩) TE.length c1) := (HSC.out.chg HQ.out.chg (HTY.out _ _ HSC.out.ty (by decide))).cell
              have x0 : wr.cell? ⟨qt, KK, none⟩ = some (.slice e.A e.n e.c) := (HQC.out.chg HQ.out.chg (HTY.out _ _ HQC.out.ty (by decide))).cell
              by_cases hil : i < e.n
              · have hiI : (i : Int) < (e.n : Int) := by omega
                obtain ⟨wd, hwd⟩ : ∃ wd, wd = wr.drew := ⟨_, rfl⟩
                have hqd : Q2 w1 base fr TE KK i wd := by rw [hwd]; exact HQ.out.drew
                obtain ⟨g, o, u, hA, hu, hf, hqn, hgT⟩ := hqd.put hfK HEK.out hil
                have HQN := Lib.hid hqn
                have HSF : Hid (∀ W, Chg (fun q => q = g) wd W → (fun W : World => W.cell? ⟨s, 0, none⟩ = some (.slice (some ⟨qt, 0, none⟩) TE.length c1) ∧ W.cell? ⟨qt, KK, none⟩ = some (.slice (some ⟨g, o, none⟩) e.n e.c)) W) := by
                  refine Lib.hid fun W hW => ?_
                  have d1 := HSC.out.chg hqd.chg (HTY.out _ _ HSC.out.ty (by decide))
                  have d2 := HQC.out.chg hqd.chg (HTY.out _ _ HQC.out.ty (by decide))
                  rw [hA] at d2
                  have off : ∀ {t p : Nat}, IsT wd t p → t ≠ 5 → ¬ p = g := fun ht hne e => by
                    subst e
                    exact hne (ht.eq_ hgT)
                  exact ⟨(d1.chg hW (off d1.ty (by decide))).cell, (d2.chg hW (off d2.ty (by decide))).cell⟩
                have HWD := Lib.hid hwd
                have hK2 : KK ≤ 1099511627776 := by omega
                clear hwd hqd hqn hgT
                go_upto_region 18 with fail
                clear s0 x0 hA
                refine wp_region_held_drew (S := fun W : World => W.cell? ⟨s, 0, none⟩ = some (.slice (some ⟨qt, 0, none⟩) TE.length c1) ∧ W.cell? ⟨qt, KK, none⟩ = some (.slice (some ⟨g, o, none⟩) e.n e.c)) (by kernel_rfl) (by rw [← HWD.out]; exact HSF.out _ (Chg.refl _ _)) (fun hsw => ?_)
                rw [← HWD.out] at hsw ⊢
                refine wpAnyH_take (i := 0) (oi := ?oi0ra) (v := ?v0ra) ?hi0ra (by kernel_rfl) (by kernel_rfl) (by kernel_rfl) ?hq0ra ?hy0ra (by assumption) ?rest0ra
                case hi0ra => (simp only [List.getElem?_toArray, List.getElem?_cons_zero]; rfl)
                case hy0ra => (refine Or.inl ⟨by rfl, ?_⟩; intro w hSw; (try dsimp only at hSw); go_simp; try with_reducible rfl)
                case hq0ra => exact fun _ _ _ h => h
                try simp only [Act.put, List.setIfInBounds_toArray, List.set_cons_zero, List.set_cons_succ]
                refine wpAnyH_take (i := 1) (oi := ?oi1ra) (v := ?v1ra) ?hi1ra (by kernel_rfl) (by kernel_rfl) (by kernel_rfl) ?hq1ra ?hy1ra (by assumption) ?rest1ra
                case hi1ra => (simp only [List.getElem?_toArray, List.getElem?_cons_zero, List.getElem?_cons_succ]; rfl)
                case hy1ra => (refine Or.inl ⟨by rfl, ?_⟩; intro w hSw; (try dsimp only at hSw); go_simp; try with_reducible rfl)
                case hq1ra => exact fun _ _ _ h => h
                try simp only [Act.put, List.setIfInBounds_toArray, List.set_cons_zero, List.set_cons_succ]
                refine wpAnyH_take (i := 2) (oi := ?oi2ra) (v := ?v2ra) ?hi2ra (by kernel_rfl) (by kernel_rfl) (by kernel_rfl) ?hq2ra ?hy2ra (by assumption) ?rest2ra
                case hi2ra => (simp only [List.getElem?_toArray, List.getElem?_cons_zero, List.getElem?_cons_succ]; rfl)
                case hy2ra => (refine Or.inl ⟨by rfl, ?_⟩; intro w hSw; (try dsimp only at hSw); go_simp; try with_reducible rfl)
                case hq2ra => exact fun _ _ _ h => h
                try simp only [Act.put, List.setIfInBounds_toArray, List.set_cons_zero, List.set_cons_succ]
                refine wpAnyH_take (i := 3) (oi := ?oi3ra) (v := ?v3ra) ?hi3ra (by kernel_rfl) (by kernel_rfl) (by kernel_rfl) ?hq3ra ?hy3ra (by assumption) ?rest3ra
                case hi3ra => (simp only [List.getElem?_toArray, List.getElem?_cons_zero, List.getElem?_cons_succ]; rfl)
                case hy3ra => (refine Or.inl ⟨by rfl, ?_⟩; intro w hSw; (try dsimp only at hSw); go_simp; try with_reducible rfl)
                case hq3ra => exact fun _ _ _ h => h
                try simp only [Act.put, List.setIfInBounds_toArray, List.set_cons_zero, List.set_cons_succ]
                refine wpAnyH_take (i := 4) (oi := ?oi4ra) (v := ?v4ra) ?hi4ra (by kernel_rfl) (by kernel_rfl) (by kernel_rfl) ?hq4ra ?hy4ra (by assumption) ?rest4ra
                case hi4ra => (simp only [List.getElem?_toArray, List.getElem?_cons_zero, List.getElem?_cons_succ]; rfl)
                case hy4ra => (refine Or.inl ⟨by rfl, ?_⟩; intro w hSw; (try dsimp only at hSw); go_simp; try with_reducible rfl)
                case hq4ra => exact fun _ _ _ h => h
                try simp only [Act.put, List.setIfInBounds_toArray, List.set_cons_zero, List.set_cons_succ]
                refine wpAnyH_take (i := 5) (oi := ?oi5ra) (v := ?v5ra) ?hi5ra (by kernel_rfl) (by kernel_rfl) (by kernel_rfl) ?hq5ra ?hy5ra (by assumption) ?rest5ra
                case hi5ra => (simp only [List.getElem?_toArray, List.getElem?_cons_zero, List.getElem?_cons_succ]; rfl)
                case hy5ra => (refine Or.inl ⟨by rfl, ?_⟩; intro w hSw; (try dsimp only at hSw); go_simp; try with_reducible rfl)
                case hq5ra => exact fun _ _ _ h => h
                try simp only [Act.put, List.setIfInBounds_toArray, List.set_cons_zero, List.set_cons_succ]
                refine wpAnyH_take (i := 6) (oi := ?oi6ra) (v := ?v6ra) ?hi6ra (by kernel_rfl) (by kernel_rfl) (by kernel_rfl) ?hq6ra ?hy6ra (by assumption) ?rest6ra
                case hi6ra => (simp only [List.getElem?_toArray, List.getElem?_cons_zero, List.getElem?_cons_succ]; rfl)
                case hy6ra => (refine Or.inl ⟨by rfl, ?_⟩; intro w hSw; (try dsimp only at hSw); go_simp; try with_reducible rfl)
                case hq6ra => exact fun _ _ _ h => h
                try simp only [Act.put, List.setIfInBounds_toArray, List.set_cons_zero, List.set_cons_succ]
                refine wpAnyH_take (i := 7) (oi := ?oi7ra) (v := ?v7ra) ?hi7ra (by kernel_rfl) (by kernel_rfl) (by kernel_rfl) ?hq7ra ?hy7ra (by assumption) ?rest7ra
                case hi7ra => (simp only [List.getElem?_toArray, List.getElem?_cons_zero, List.getElem?_cons_succ]; rfl)
                case hy7ra => (refine Or.inl ⟨by rfl, ?_⟩; intro w hSw; (try dsimp only at hSw); go_simp; try with_reducible rfl)
                case hq7ra => exact fun _ _ _ h => h
                try simp only [Act.put, List.setIfInBounds_toArray, List.set_cons_zero, List.set_cons_succ]
                refine wpAnyH_take (i := 8) (oi := ?oi8ra) (v := ?v8ra) ?hi8ra (by kernel_rfl) (by kernel_rfl) (by kernel_rfl) ?hq8ra ?hy8ra (by assumption) ?rest8ra
                case hi8ra => (simp only [List.getElem?_toArray, List.getElem?_cons_zero, List.getElem?_cons_succ]; rfl)
                case hy8ra => (refine Or.inl ⟨by rfl, ?_⟩; intro w hSw; (try dsimp only at hSw); go_simp; try with_reducible rfl)
                case hq8ra => exact fun _ _ _ h => h
                try simp only [Act.put, List.setIfInBounds_toArray, List.set_cons_zero, List.set_cons_succ]
                refine wpAnyH_take (i := 9) (oi := ?oi9ra) (v := ?v9ra) ?hi9ra (by kernel_rfl) (by kernel_rfl) (by kernel_rfl) ?hq9ra ?hy9ra (by assumption) ?rest9ra
                case hi9ra => (simp only [List.getElem?_toArray, List.getElem?_cons_zero, List.getElem?_cons_succ]; rfl)
                case hy9ra => (refine Or.inl ⟨by rfl, ?_⟩; intro w hSw; (try dsimp only at hSw); go_simp; try with_reducible rfl)
                case hq9ra => exact fun _ _ _ h => h
                try simp only [Act.put, List.setIfInBounds_toArray, List.set_cons_zero, List.set_cons_succ]
                refine wpAnyH_ready (rs := [10]) (by kernel_rfl) (by simp) ?_
                refine AllReadyH.cons (o := ?o10rb) ?ho10rb (fun K hK => ?st10rb) ?mo10rb
                case ho10rb => (simp only [List.getElem?_toArray, List.getElem?_cons_zero, List.getElem?_cons_succ]; rfl)
                · skip
                  go_simp
                  refine (sign_any _ i wd (by omega) (by omega)).mono ?_
                  rintro _ _ ⟨rfl, rfl⟩
                  go_simp
                  refine hK.out _ _ (HSF.out _ (Chg.refl _ _)) (fun _ => ?_)
                  clear hK K
                  try simp only [Act.put, List.setIfInBounds_toArray, List.set_cons_zero, List.set_cons_succ]
                  refine wpAnyH_take (i := 11) (oi := ?oi11rc) (v := ?v11rc) ?hi11rc (by kernel_rfl) (by kernel_rfl) (by kernel_rfl) ?hq11rc ?hy11rc (by assumption) ?rest11rc
                  case hi11rc => (simp only [List.getElem?_toArray, List.getElem?_cons_zero, List.getElem?_cons_succ]; rfl)
                  case hy11rc => (refine Or.inl ⟨by rfl, ?_⟩; intro w hSw; (try dsimp only at hSw); go_simp; try with_reducible rfl)
                  case hq11rc => exact fun _ _ _ h => h
                  try simp only [Act.put, List.setIfInBounds_toArray, List.set_cons_zero, List.set_cons_succ]
                  refine wpAnyH_ready (rs := [12]) (by kernel_rfl) (by simp) ?_
                  refine AllReadyH.cons (o := ?o12rd) ?ho12rd (fun K hK => ?st12rd) ?mo12rd
                  case ho12rd => (simp only [List.getElem?_toArray, List.getElem?_cons_zero, List.getElem?_cons_succ]; rfl)
                  · skip
                    go_simp
                    refine hK.out _ _ (HSF.out _ ((Chg.refl (fun q => q = g) wd).setCell (p := ⟨g, o + i, none⟩) (.inl rfl) _)) (fun _ => ?_)
                    clear hK K
                    try simp only [Act.put, List.setIfInBounds_toArray, List.set_cons_zero, List.set_cons_succ]
                    refine wpAnyH_done (by kernel_rfl) ?_ _
                    go_wp2_with fail
                    go_roundw
                    case rel => exact ⟨i + 1, by go_num, hil, HQN⟩
                    case measure => simp [intOf] <;> omega
                  exact AllReadyH.nil
                exact AllReadyH.nil
              · have hiI : ¬ (i : Int) < (e.n : Int) := by omega
                have hiD : decide ((i : Int) < (e.n : Int)) = false := by simpa using hiI
                have HN2 := Lib.hid (HQ.out.next HEK.out (by omega))
                go_wp2_with fail
                go_roundw
                case rel => exact ⟨KK + 1, by go_num, by omega, hlt, HN2⟩
                case measure => simp [intOf] <;> omega
          · have hI : ¬ (KK : Int) < (TE.length : Int) := by omega
            have hD : decide ((KK : Int) < (TE.length : Int)) = false := by simpa using hI
            have hke : KK = TE.length := by omega
            have HF := HQ2
            rw [hke] at HF
            clear hke
            go_wp2_with fail
            go_meet
            exact HF
      case rest =>
        obtain ⟨w2, HWY⟩ : ∃ w2, Hid (wc = w2) := ⟨_, Lib.hid rfl⟩
        have HQ2 := hcut
        rw [HWY.out] at HQ2 ⊢
        clear HWY hcut
        have HSO2 : Hid (StO w2 s (.slice A1 TE.length c1) vm TE M) := Lib.hid (HSO.out.chgU HQ2.out.chg fun q _ hq => (HNF.out.ty hq).2.2)
        have HQ30 : Hid (Q3 w2 base fr s TE M (.slice A1 TE.length c1) vm fr [] vm w2) := Lib.hid ⟨by rw [List.append_nil]; exact HSO2.out, rfl, Chg.refl _ _, .inl rfl, fun j e m _ h => by simp at h, fun j e hj he => HQ2.out.done j e hj (List.getElem?_eq_some_iff.1 he).1 he, HQ2.out.new, fun q hq => (HQ2.out.new.ty hq).2.1⟩
        have HVT : Hid (∀ g, (Value.slice A1 TE.length c1).ownBlock = some g → g < w2.heap.size) := Lib.hid fun g hg => (own_block_lt HSO2.out.tx hg).1
        obtain ⟨i0, hi0, hz0, hz1, hz2⟩ := info_parts info_u8
        have hMl : M.length ≤ 1099511627776 := by have := H.out.len; have := H.out.few; omega
        go_upto_block 10 with fail
        go_wp2_with fail
        go_loopw [12, 13, 14] (fun k _ _ wr => ∃ (KK : Nat) (vm' : Value) (Mn : List Tv), k = .int .i64 (KK : Int) ∧ KK ≤ TE.length ∧ Hid (Q3 w2 base fr s TE M (.slice A1 TE.length c1) vm KK Mn vm' wr)) (fun k _ _ _ => TE.length - (intOf k).toNat)
        case atStart => exact ⟨fr, _, _, rfl, hfrl, HQ30⟩
        case round =>
          clear HQ30
          obtain ⟨KK, vm', Mn, rfl, hKl, HQ3⟩ := hrel
          obtain ⟨w3, HWY⟩ : ∃ w3, Hid (wr = w3) := ⟨_, Lib.hid rfl⟩
          rw [HWY.out] at HQ3 ⊢
          clear HWY
          have s0 : w3.cell? ⟨s, 0, none⟩ = some (.slice A1 TE.length c1) := HQ3.out.so.blk.cell 0
          by_cases hlt : KK < TE.length
          · have hI : (KK : Int) < (TE.length : Int) := by omega
            obtain ⟨e, he⟩ : ∃ e, TE[KK]? = some e := ⟨_, List.getElem?_eq_getElem hlt⟩
            obtain ⟨qt, cap', ev, _, _, hqc⟩ := row_at HQ3.out.so.tx he
            injection ev with ev _ _
            have x0 : w3.cell? ⟨qt, KK, none⟩ = some (.slice e.A e.n e.c) := hqc
            have hfK : fr ≤ KK := by have := HQ3.out.len; omega
            have hen := (HQ3.out.new.lo KK e hfK he).2
            have HEL : Hid (e.n ≤ e.c ∧ ∀ g, blkO e.A e.c = some g → g < w3.heap.size) := Lib.hid ⟨(HQ3.out.new.lo KK e hfK he).1.le, fun g hg => ((HQ3.out.new.lo KK e hfK he).1.blk hg).2.1⟩
            have HQ40 := Lib.hid (HQ3.out.grow he)
            have HEK := Lib.hid he
            have hK2 : KK ≤ 1099511627776 := by omega
            have hba : base ≤ w3.heap.size := by have h5 := HQ3.out.chg.size; have h6 := HQ2.out.chg.size; have h7 := HQ1.out.chg.size; omega
            rw [ev] at s0
            clear ev hqc he
            go_wp2_with fail
            go_loopw [13, 14] (fun v i wr => ∃ (i' nn : Nat) (A' : Option Addr) (c' : Nat), v = .slice A' nn c' ∧ i = .int .i64 (i' : Int) ∧ i' ≤ 64 ∧ Hid (nn = e.n + i' ∧ Q4 w3 base fr TE KK e nn A' c' wr)) (fun _ i _ => 64 - (intOf i).toNat)
            case atStart => exact ⟨0, e.n, e.A, e.c, rfl, rfl, by omega, Lib.hid ⟨rfl, HQ40.out⟩⟩
            case round =>
              clear HQ40 s0 x0
              obtain ⟨i, nn, A', c', rfl, rfl, hi, HQ⟩ := hrel
              have hnn : nn ≤ 1099511627840 := by have := HQ.out.1; omega
              by_cases hi64 : i < 64
              · have hiI : (i : Int) < 64 := by omega
                have HQA := Lib.hid (HQ.out.2.over (one_box' wr (.cells #[.int .i64 0] 5)))
                go_wp2_with (first
                  | (go_at_call 66; refine (sign_any KK nn wr (by omega) (by omega)).mono ?_; rintro _ _ ⟨rfl, rfl⟩)
                  | (at_builtin; refine wpList_lst_app (base := base) (y := sgn KK nn) (bs := sg KK nn) _ (by rfl) _ _ 22 (by rfl) i0 _ u_bytes hi0 hz0 hz1 hz2 rfl (by rfl) (HQ.out.2.over (one_box' wr _)).lo (HQ.out.2.over (one_box' wr _)).lr (by rfl) ((Blk.new wr _ _).cell 0) (by omega) (Nat.le_trans hba (Nat.le_trans HQ.out.2.chg.size (one_box' wr _).size)) ?_; intro A2 c2 w5 hap))
                go_roundw
                case rel => exact ⟨i + 1, nn + 1, A2, c2, rfl, by go_num, by omega, Lib.hid ⟨by have := HQ.out.1; omega, (HQ.out.2.over (one_box' wr _)).step hap HEL.out.2 HEL.out.1⟩⟩
                case measure => simp [intOf] <;> omega
              · have hiI : ¬ (i : Int) < 64 := by omega
                have hiD : decide ((i : Int) < 64) = false := by simpa using hiI
                have hso := HQ3.out.mid HEK.out HQ.out.2
                obtain ⟨Am, cm, rfl, _, _⟩ := own_shape hso.mo
                obtain ⟨N, hN⟩ : ∃ N, (M ++ Mn).length = N := ⟨_, rfl⟩
                have hNb : N ≤ 2199023255552 := by
                  have h1 := HQ3.out.len
                  rw [List.length_append] at hN
                  omega
                rw [hN] at HQ3 hso
                have HMO : Hid (wr.ownsRow 0 22 1 (.slice Am N cm) N ((M ++ Mn).map Tv.v)) := Lib.hid (by have h1 := hso.mo; rw [hN] at h1; exact h1)
                have m1 : wr.cell? ⟨s, 1, none⟩ = some (.slice Am N cm) := hso.blk.cell 1
                have HSN : Hid (∀ v2 w5, w5.ownsRow 0 22 1 v2 (N + 1) ((M ++ Mn).map Tv.v ++ [.slice A' nn c']) → wr.grownBy w5 (Value.slice Am N cm).ownBlock → (v2.ownBlock = (Value.slice Am N cm).ownBlock ∨ v2.ownBlock = some (wr.heap.size + 1)) → Q3 w2 base fr s TE M (.slice A1 TE.length c1) vm (KK + 1) (Mn ++ [⟨A', nn, c'⟩]) v2 (w5.setCell ⟨s, 1, none⟩ v2) ∧ w5.cell? ⟨s, 1, none⟩ = some (.slice Am N cm) ∧ w5.frozen? ⟨s, 1, none⟩ = false) := by
                  refine Lib.hid fun v2 w5 ho5 hg5 hat5 => ?_
                  have hb5 : Blk w5 s 73 #[.slice A1 TE.length c1, .slice Am N cm] := hso.blk.chg (Chg.of_grown hg5) fun e5 => absurd ((own_isT hso.mo e5.symm).eq_ hso.blk.isT) (by decide)
                  obtain ⟨h1, h2⟩ := HQ.out
                  obtain rfl : i = 64 := by omega
                  subst h1
                  exact ⟨HQ3.out.snoc HEK.out h2 (by rw [hN]; exact ho5) hg5 hat5 HVT.out, hb5.cell 1, hb5.frozen 1⟩
                clear hso hN
                go_wp2_with (at_builtin; refine appN2 wr (by rfl) _ _ 71 (by rfl) 0 22 i1 _ 1 24 u_bss hi1 hr0 hr1 hr2 rfl (by omega) _ N _ (by rfl) HMO.out #[.slice A' nn c'] rfl (by rfl) (by simp; rfl) (by simp only [maxLen]; omega) (by omega) (Nat.zero_le _) ?_; intro v5 w5 ho5 _ hg5 hat5; obtain ⟨A5, c5, rfl, _, _⟩ := own_shape ho5; obtain ⟨q1, q2, q3⟩ := HSN.out _ _ ho5 hg5 hat5; have HQ5 := Lib.hid q1; clear q1 ho5 hg5 hat5)
                go_roundw
                case rel => exact ⟨KK + 1, _, _, by go_num, hlt, HQ5⟩
                case measure => simp [intOf] <;> omega
          · have hI : ¬ (KK : Int) < (TE.length : Int) := by omega
            have hD : decide ((KK : Int) < (TE.length : Int)) = false := by simpa using hI
            have hke : KK = TE.length := by omega
            have HF := HQ3
            rw [hke] at HF
            clear hke
            go_wp2_with fail
            have h9 := HF.out
            have h8 := HQ2.out
            rw [HTE.out.2, HTE.out.1] at h9 h8
            have h6 := HQ1.out
            rw [HTE.out.2] at h6
            have h7 := put_end H.out HE.out h6 h8 h9 HLOW.out hfew hb
            go_end0
            exact ⟨rfl, h7.1, h7.2⟩
end Go.Proofs.YtpkdalpjfcopbaaDoor
