/-
  The program's reader of a file: record. And: What a frame's four bytes tell: plain. No program text.
-/
import Derived.Test.YtpkdalpjfcopbaaDoorKRead
import Derived.Test.YtpkdalpjfcopbaaDoorKSeal
namespace Go.Proofs.YtpkdalpjfcopbaaDoor
theorem list4 {l : List UInt8} (h : l.length = 4) : ∃ a b c d, l = [a, b, c, d] := by
  match l, h with
  | [a, b, c, d], _ => exact ⟨a, b, c, d, rfl⟩
theorem part_sub {l : List UInt8} {p n a b : Nat} (h : a + b ≤ n) : part (part l p n) a b = part l (p + a) b := by
  unfold part
  rw [List.drop_take, List.take_take, List.drop_drop, Nat.min_eq_left (by omega)]
theorem numB_one (a : UInt8) : numB [a] = a.toNat := by simp [numB]
theorem numB_two (a b : UInt8) : numB [a, b] = a.toNat * 256 + b.toNat := by simp [numB]
theorem nextR_four {l : List UInt8} {p : Nat} {y0 y1 y2 y3 : UInt8} (h : part l p 4 = [y0, y1, y2, y3]) {bl : Nat} (hbl : bl = y1.toNat * 256 + y2.toNat) :
    nextR l p = if p + 8 + bl ≤ l.length ∧ bl ≤ 4200 ∧ 165 ^^^ y0 ^^^ y1 ^^^ y2 = y3 ∧ 1 ≤ y0.toNat ∧ y0.toNat ≤ 4 ∧ numB (part l (p + 4 + bl) 4) = Crc.crc (part l (p - 4) 4 ++ part l p (4 + bl)) then some ⟨(y0.toNat : Int), part l (p + 4) bl⟩ else none := by
  have e1 : part l p 1 = [y0] := by
    have := part_sub (l := l) (p := p) (n := 4) (a := 0) (b := 1) (by omega)
    rw [h, Nat.add_zero] at this
    exact this.symm
  have e2 : part l (p + 1) 2 = [y1, y2] := by
    have := part_sub (l := l) (p := p) (n := 4) (a := 1) (b := 2) (by omega)
    rw [h] at this
    exact this.symm
  have eb : bodyLen l p = bl := by rw [bodyLen, e2, numB_two, hbl]
  have h1 := y1.toNat_lt
  have h2 := y2.toNat_lt
  have ef : (part l p 4 = four (numB (part l p 1)) (bodyLen l p)) ↔ 165 ^^^ y0 ^^^ y1 ^^^ y2 = y3 := by
    rw [h, e1, eb, numB_one, four]
    have a1 : UInt8.ofNat y0.toNat = y0 := UInt8.ofNat_toNat
    have a2 : UInt8.ofNat (bl / 256) = y1 := by
      rw [show bl / 256 = y1.toNat by omega]
      exact UInt8.ofNat_toNat
    have a3 : UInt8.ofNat bl = y2 := by
      apply UInt8.toNat_inj.mp
      rw [UInt8.toNat_ofNat']
      omega
    rw [a1, a2, a3]
    constructor
    · intro e
      injection e with _ e
      injection e with _ e
      injection e with _ e
      injection e with e
      exact e.symm
    · intro e
      rw [e]
  unfold nextR
  simp only [ef]
  rw [eb, e1, numB_one]
end Go.Proofs.YtpkdalpjfcopbaaDoor
namespace Go.Proofs.YtpkdalpjfcopbaaDoor
open Go.RowKit
theorem wrap_u8 (a : UInt8) : IntKind.i64.wrap (a.toNat : Int) = (a.toNat : Int) := by
  have := a.toNat_lt
  exact IntWalk.i64_in _ (by omega)
theorem seal_bad {n q x cr : Nat} {Q : Prop} {e : Ending} (hp : if n < q then Dam e else if x = cr then Q else Dam e) (h : ¬ (¬ n < q ∧ x = cr)) : Dam e := by
  by_cases h1 : n < q
  · rw [if_pos h1] at hp
    exact hp
  · rw [if_neg h1, if_neg (fun h2 => h ⟨h1, h2⟩)] at hp
    exact hp
theorem or_two (a b : UInt8) : bits .or .i64 ((a.toNat : Int) * 256) (b.toNat : Int) = ((a.toNat * 256 + b.toNat : Nat) : Int) := by
  have ha : a.toNat < 256 := a.toNat_lt
  have hb : b.toNat < 256 := b.toNat_lt
  generalize a.toNat = x at ha
  generalize b.toNat = y at hb
  have e3 := or_step x y (by omega) hb
  have e1 : wrap64 (wrap64 (x : Int) * 256) = (x : Int) * 256 := by unfold wrap64; omega
  have e2 : wrap64 (y : Int) = (y : Int) := by unfold wrap64; omega
  have e4 : IntKind.i64.wrap ((x * 256 + y : Nat) : Int) = ((x * 256 + y : Nat) : Int) := IntWalk.i64_in _ (by omega)
  rw [e1, e2, e4] at e3
  exact e3
/-- Region 6 of record under way. -/
structure R6 (w : World) (gr B : Nat) (A : Option Addr) (n cap : Nat) (bs : List UInt8) (p : Nat) (S : Value) (bb off : Nat) (y : UInt8) (wx : World) : Prop where
  at_ : RdAt wx gr B A n cap bs p S
  chg : Chg (fun k => k = gr) w wx
  res : Blk wx w.heap.size 34 #[.int .i64 0, .slice none 0 0]
  c : wx.cell? ⟨bb, off, none⟩ = some (.int .u8 (y.toNat : Int))
theorem ne_of_isT6 {w : World} {q gr : Nat} {cs : Array Value} (h : Blk w q 34 cs) (h' : IsT w 126 gr) : ¬ q = gr := fun e => by
  subst e
  exact absurd (h.isT.eq_ h') (by decide)
section
variable {w wx w' : World} {gr B n cap p p' bb off : Nat} {A : Option Addr} {bs : List UInt8} {S : Value} {y : UInt8}
theorem cell_lt {w : World} {b o : Nat} {v : Value} (h : w.cell? ⟨b, o, none⟩ = some v) : b < w.heap.size := by
  rcases Nat.lt_or_ge b w.heap.size with h1 | h1
  · exact h1
  · unfold World.cell? at h
    rw [Array.getElem?_eq_none h1] at h
    cases h
theorem R6.below (h : R6 w gr B A n cap bs p S bb off y wx) (hb : Below wx.heap.size wx w') : R6 w gr B A n cap bs p S bb off y w' :=
  ⟨h.at_.below hb, h.chg.trans (Chg.of_below hb _), h.res.over hb, (hb.cell (p := ⟨bb, off, none⟩) (cell_lt h.c)).trans h.c⟩
theorem R6.call {S' : Value} (h : R6 w gr B A n cap bs p S bb off y wx) (hc : Chg (fun k => k = gr) wx w') (ha : RdAt w' gr B A n cap bs p' S') (hbb : bb ≠ gr) : R6 w gr B A n cap bs p' S' bb off y w' :=
  ⟨ha, h.chg.trans hc, h.res.chg hc (ne_of_isT6 h.res h.at_.blk.isT), (World.cell?_of_block (hc.block bb (cell_lt h.c) hbb)).trans h.c⟩
theorem nil_app {w w' : World} (hg : w.grownBy w' (Value.slice none 0 0).ownBlock) : Below w.heap.size w w' := ⟨hg.os, hg.tape, hg.output, hg.size, fun k hk => hg.block k hk (by simp [Value.ownBlock])⟩
/-- The record is laid. -/
theorem R6.fin {q : Nat} {v : Value} {m : Nat} {xs : List Value} (h : R6 w gr B A n cap bs p S bb off y wx) (ho : wx.ownsRow w.heap.size 5 1 v m xs) (hq : Blk wx q 34 #[.int .i64 0, .slice none 0 0]) (hqw : q ≠ w.heap.size) (hbb : bb < B) (hB : B ≤ w.heap.size) (hqb : w.heap.size ≤ q) :
    let W := (wx.setCell ⟨q, 0, none⟩ (.int .i64 (y.toNat : Int))).setCell ⟨q, 1, none⟩ v
    R6 w gr B A n cap bs p S bb off y W ∧ W.ownsRow w.heap.size 5 1 v m xs ∧ Blk W q 34 #[.int .i64 (y.toNat : Int), v] := by
  intro W
  have hc : Chg (fun k => k = q) wx W := ((Chg.refl (fun k => k = q) wx).setCell (p := ⟨q, 0, none⟩) (.inl rfl) _).setCell (p := ⟨q, 1, none⟩) (.inl rfl) _
  have hgr := ne_of_isT6 hq h.at_.blk.isT
  refine ⟨⟨⟨h.at_.blk.chg hc (Ne.symm hgr), h.at_.rd.keep fun g hg => hc.block g (by have := h.chg.size; omega) (by omega), h.at_.lo, h.at_.le⟩, h.chg.thenS hc fun i hi e => by omega, h.res.chg hc (Ne.symm hqw), (World.cell?_of_block (hc.block bb (cell_lt h.c) (by omega))).trans h.c⟩, own_chg ho hc fun g hg e => ?_, (hq.set_ 0 _).set_ 1 _⟩
  subst e
  exact absurd ((own_isT ho hg).eq_ hq.isT) (by decide)
end
def RecP (w : World) (gr B : Nat) (A : Option Addr) (n cap : Nat) (bs : List UInt8) (p : Nat) (e : Ending) (w' : World) : Prop :=
  Chg (fun k => k = gr) w w' ∧ match nextR bs p with
    | none => Dam e
    | some r => ∃ v, e = .returned (.agg #[.int .i64 r.kind, v]) ∧ w'.ownsRow w.heap.size 5 1 v r.body.length (bvs r.body) ∧ ∃ A2 c2, RdAt w' gr B A n cap bs (p + 8 + r.body.length) (.slice A2 4 c2) ∧ 4 ≤ c2 ∧ RdB w' B A2 4 (part bs (p + 4 + r.body.length) 4)
set_option maxRecDepth 100000 in
set_option maxHeartbeats 1600000 in
theorem record_any {w : World} {gr B n cap p : Nat} {A As : Option Addr} {cs : Nat} {bs : List UInt8} (h : RdAt w gr B A n cap bs p (.slice As 4 cs)) (hs : RdB w B As 4 (part bs (p - 4) 4)) (hn : n ≤ cap) (hc : cap ≤ 9223372036854775807) (hc2 : n ≤ 140737488351232) (ht : Nibs w) (hgn : 0 ≠ gr) :
    Calls Tryd.prog 83 #[.pointer (some ⟨gr, 0, none⟩)] w (RecP w gr B A n cap bs p) := by
  obtain ⟨i0, hi0, hz0, hz1, hz2⟩ := info_parts info_u8
  have hple := h.le
  have hl := h.rd.lenB
  have hgr := h.blk.lt
  obtain ⟨w1, hw1⟩ : ∃ w1, w1 = w.alloc (.cells #[.int .i64 0, .slice none 0 0] 34) := ⟨_, rfl⟩
  have hb1 : Below w.heap.size w w1 := by rw [hw1]; exact one_box' _ _
  have hR1 : Blk w1 w.heap.size 34 #[.int .i64 0, .slice none 0 0] := by rw [hw1]; exact Blk.new _ _ _
  have h1 := h.below hb1
  have c1 : w1.cell? ⟨gr, 1, none⟩ = some (.int .i64 (p : Int)) := h1.blk.cell 1
  have hcm : cap ≤ maxLen := by simp only [maxLen]; omega
  have HBY := Lib.hid (bytes_any h1 hn hcm 4 (by omega))
  have HC1 : Hid (Chg (fun k => k = gr) w w1) := Lib.hid (Chg.of_below hb1 _)
  have HW1 := Lib.hid hw1
  have HR1 := Lib.hid hR1
  have HL := Lib.hid hl
  have HT := Lib.hid ht
  have HNE := Lib.hid hgn
  have HLO := Lib.hid h.lo
  have HS := Lib.hid hs
  have HRD := Lib.hid h.rd
  have HB1 := Lib.hid hb1
  clear h hl ht hgn hs h1 hw1 hb1 hR1
  generalize hPP : RecP w gr B A n cap bs p = PP
  have HPP := Lib.hid hPP
  clear hPP
  by_cases h4 : n < p + 4
  · have hnx : nextR bs p = none := by
      unfold nextR
      rw [if_neg (by have := HL.out; omega)]
    have HX : Hid (∀ (e : Ending) (w' : World), Chg (fun k => k = gr) w w' → Dam e → PP e w') := Lib.hid fun e w' h1 h2 => by
      rw [← HPP.out]
      exact ⟨h1, by rw [hnx]; exact h2⟩
    clear HPP hnx
    go_enter Tryd.func83, Tryd.ntmps83
    go_upto_region 1 with fail
    rw [← HW1.out]
    go_wp2_with (go_at_call 87; refine HBY.out.mono ?_; rintro e w2 ⟨hc2, hp⟩; rw [if_pos h4] at hp; obtain ⟨q, rfl⟩ := hp)
    exact ⟨rfl, HX.out _ _ (HC1.out.trans hc2) ⟨_, rfl⟩⟩
  · obtain ⟨y0, y1, y2, y3, hy⟩ := list4 (part_length (l := bs) (p := p) (n := 4) (by have := HL.out; omega))
    obtain ⟨bl, hbl⟩ : ∃ bl, bl = y1.toNat * 256 + y2.toNat := ⟨_, rfl⟩
    have hnx := nextR_four hy hbl
    have HNX := Lib.hid hnx
    have HY := Lib.hid hy
    have HBL := Lib.hid hbl
    have hb1' := y1.toNat_lt
    have hb2' := y2.toNat_lt
    have hblt : bl ≤ 65535 := by omega
    clear hnx hy hbl
    go_enter Tryd.func83, Tryd.ntmps83
    go_upto_region 1 with fail
    rw [← HW1.out]
    go_upto_region 3 with (go_at_call 87; refine HBY.out.mono ?_; rintro e w2 ⟨hc2, hp⟩; rw [if_neg h4, HY.out] at hp; obtain ⟨A2, c2, rfl, hc4, hcm2, hr2, hat2⟩ := hp)
    clear HBY c1
    obtain ⟨bb, off, rfl, hbb, hcc⟩ := hr2.at_ (by omega)
    have d0 : w2.cell? ⟨bb, off, none⟩ = some (.int .u8 (y0.toNat : Int)) := hcc 0 _ rfl
    have d1 : w2.cell? ⟨bb, off + 1, none⟩ = some (.int .u8 (y1.toNat : Int)) := hcc 1 _ rfl
    have d2 : w2.cell? ⟨bb, off + 2, none⟩ = some (.int .u8 (y2.toNat : Int)) := hcc 2 _ rfl
    have d3 : w2.cell? ⟨bb, off + 3, none⟩ = some (.int .u8 (y3.toNat : Int)) := hcc 3 _ rfl
    go_quiet (fail)
    go_upto_region 4 with fail
    have hor : bits .or .i64 ((y1.toNat : Int) * 256) (y2.toNat : Int) = (bl : Int) := by
      rw [HBL.out]
      exact or_two y1 y2
    rw [hor]
    clear hor
    have hat3 : RdAt (w2.drewN nq) gr B A n cap bs (p + 4) (.slice As 4 cs) := ⟨hat2.blk.drewN nq, hat2.rd.dn nq, hat2.lo, hat2.le⟩
    have HAT := Lib.hid hat3
    have HC3 := Lib.hid ((HC1.out.trans hc2).drewN nq)
    have HR3 := Lib.hid ((HR1.out.chg hc2 (by omega)).drewN nq)
    have e0 : (w2.drewN nq).cell? ⟨bb, off, none⟩ = some (.int .u8 (y0.toNat : Int)) := d0
    have e1 : (w2.drewN nq).cell? ⟨bb, off + 1, none⟩ = some (.int .u8 (y1.toNat : Int)) := d1
    have e2 : (w2.drewN nq).cell? ⟨bb, off + 2, none⟩ = some (.int .u8 (y2.toNat : Int)) := d2
    have e3 : (w2.drewN nq).cell? ⟨bb, off + 3, none⟩ = some (.int .u8 (y3.toNat : Int)) := d3
    clear d0 d1 d2 d3 hat2 hat3 hc2 hr2 hcc
    generalize w2.drewN nq = w3 at HAT HC3 HR3 e0 e1 e2 e3 ⊢
    obtain ⟨X, hX⟩ : ∃ X, X = 165 ^^^ y0 ^^^ y1 ^^^ y2 := ⟨_, rfl⟩
    have hxx : bits .xor .u8 (bits .xor .u8 (bits .xor .u8 165 (y0.toNat : Int)) (y1.toNat : Int)) (y2.toNat : Int) = (X.toNat : Int) := by
      rw [hX, ← xor_u8, ← xor_u8, ← xor_u8]
      rfl
    by_cases hxe : X = y3
    · have hb : ((bits .xor .u8 (bits .xor .u8 (bits .xor .u8 165 (y0.toNat : Int)) (y1.toNat : Int)) (y2.toNat : Int)) != (y3.toNat : Int)) = false := by
        rw [hxx, hxe]
        simp
      rw [hX] at hxe
      have HXE := Lib.hid hxe
      clear hxe hX hxx
      by_cases hbm : bl ≤ 4200
      · have dbm : decide (4200 < (bl : Int)) = false := by simp; omega
        go_quiet (fail)
        go_upto_region 6 with fail
        have hbg : bb ≠ gr := by have := HLO.out; omega
        have hBw : B ≤ w.heap.size := by have := HLO.out; omega
        by_cases hlong : n < p + 4 + bl
        · have hx0 : nextR bs p = none := by
            rw [HNX.out, if_neg (by have := HL.out; omega)]
          have HX : Hid (∀ (e : Ending) (w' : World), Chg (fun k => k = gr) w w' → Dam e → PP e w') := Lib.hid fun e w' h1 h2 => by
            rw [← HPP.out]
            exact ⟨h1, by rw [hx0]; exact h2⟩
          clear HPP hx0 HNX
          have hat0 : RdAt (w3.drewN nq) gr B A n cap bs (p + 4) (.slice As 4 cs) := ⟨HAT.out.blk.drewN nq, HAT.out.rd.dn nq, HAT.out.lo, HAT.out.le⟩
          have HC4 := Lib.hid (HC3.out.drewN nq)
          have e4 : (w3.drewN nq).cell? ⟨bb, off, none⟩ = some (.int .u8 (y0.toNat : Int)) := e0
          clear e0 e1 e2 e3
          generalize w3.drewN nq = w4 at hat0 HC4 e4 ⊢
          obtain ⟨wd, hwd⟩ : ∃ wd, wd = w4.drew := ⟨_, rfl⟩
          have HAD : Hid (RdAt wd gr B A n cap bs (p + 4) (.slice As 4 cs)) := Lib.hid (by rw [hwd]; exact ⟨hat0.blk.drewN 1, hat0.rd.dn 1, hat0.lo, hat0.le⟩)
          have HCD : Hid (Chg (fun k => k = gr) w wd) := Lib.hid (by rw [hwd]; exact HC4.out.drewN 1)
          have HED : Hid (wd.cell? ⟨bb, off, none⟩ = some (.int .u8 (y0.toNat : Int))) := Lib.hid (by rw [hwd]; exact e4)
          have HWD := Lib.hid hwd
          clear hwd hat0 HC4 e4 HAT HC3 HR3
          refine wp_region_held_drew (S := fun W => W.cell? ⟨bb, off, none⟩ = some (.int .u8 (y0.toNat : Int))) (by kernel_rfl) (by rw [← HWD.out]; exact HED.out) (fun hsw => ?_)
          rw [← HWD.out] at hsw ⊢
          clear HWD
          refine wpAnyH_take (i := 0) (oi := ?oi0d0) (v := ?v0d0) ?hi0d0 (by kernel_rfl) (by kernel_rfl) (by kernel_rfl) ?hq0d0 ?hy0d0 (by assumption) ?rest0d0
          case hi0d0 => (simp only [List.getElem?_toArray, List.getElem?_cons_zero]; rfl)
          case hy0d0 => (refine Or.inl ⟨by rfl, ?_⟩; intro w hSw; (try dsimp only at hSw); go_simp; try with_reducible rfl)
          case hq0d0 => exact fun _ _ _ h => h
          try simp only [Act.put, List.setIfInBounds_toArray, List.set_cons_zero, List.set_cons_succ]
          refine wpAnyH_take (i := 1) (oi := ?oi1d0) (v := ?v1d0) ?hi1d0 (by kernel_rfl) (by kernel_rfl) (by kernel_rfl) ?hq1d0 ?hy1d0 (by assumption) ?rest1d0
          case hi1d0 => (simp only [List.getElem?_toArray, List.getElem?_cons_zero, List.getElem?_cons_succ]; rfl)
          case hy1d0 => (refine Or.inl ⟨by rfl, ?_⟩; intro w hSw; (try dsimp only at hSw); go_simp; try with_reducible rfl)
          case hq1d0 => exact fun _ _ _ h => h
          try simp only [Act.put, List.setIfInBounds_toArray, List.set_cons_zero, List.set_cons_succ]
          refine wpAnyH_take (i := 2) (oi := ?oi2d0) (v := ?v2d0) ?hi2d0 (by kernel_rfl) (by kernel_rfl) (by kernel_rfl) ?hq2d0 ?hy2d0 (by assumption) ?rest2d0
          case hi2d0 => (simp only [List.getElem?_toArray, List.getElem?_cons_zero, List.getElem?_cons_succ]; rfl)
          case hy2d0 => (refine Or.inl ⟨by rfl, ?_⟩; intro w hSw; (try dsimp only at hSw); go_simp; try with_reducible rfl)
          case hq2d0 => exact fun _ _ _ h => h
          try simp only [Act.put, List.setIfInBounds_toArray, List.set_cons_zero, List.set_cons_succ]
          refine wpAnyH_take (i := 3) (oi := ?oi3d0) (v := ?v3d0) ?hi3d0 (by kernel_rfl) (by kernel_rfl) (by kernel_rfl) ?hq3d0 ?hy3d0 (by assumption) ?rest3d0
          case hi3d0 => (simp only [List.getElem?_toArray, List.getElem?_cons_zero, List.getElem?_cons_succ]; rfl)
          case hy3d0 => (refine Or.inl ⟨by rfl, ?_⟩; intro w hSw; (try dsimp only at hSw); go_simp; try with_reducible rfl)
          case hq3d0 => exact fun _ _ _ h => h
          try simp only [Act.put, List.setIfInBounds_toArray, List.set_cons_zero, List.set_cons_succ]
          refine wpAnyH_take (i := 4) (oi := ?oi4d0) (v := ?v4d0) ?hi4d0 (by kernel_rfl) (by kernel_rfl) (by kernel_rfl) ?hq4d0 ?hy4d0 (by assumption) ?rest4d0
          case hi4d0 => (simp only [List.getElem?_toArray, List.getElem?_cons_zero, List.getElem?_cons_succ]; rfl)
          case hy4d0 => (refine Or.inl ⟨by rfl, ?_⟩; intro w hSw; (try dsimp only at hSw); go_simp; try with_reducible rfl)
          case hq4d0 => exact fun _ _ _ h => h
          try simp only [Act.put, List.setIfInBounds_toArray, List.set_cons_zero, List.set_cons_succ]
          refine wpAnyH_take (i := 5) (oi := ?oi5d0) (v := ?v5d0) ?hi5d0 (by kernel_rfl) (by kernel_rfl) (by kernel_rfl) ?hq5d0 ?hy5d0 (by assumption) ?rest5d0
          case hi5d0 => (simp only [List.getElem?_toArray, List.getElem?_cons_zero, List.getElem?_cons_succ]; rfl)
          case hy5d0 => (refine Or.inl ⟨by rfl, ?_⟩; intro w hSw; (try dsimp only at hSw); go_simp; try with_reducible rfl)
          case hq5d0 => exact fun _ _ _ h => h
          try simp only [Act.put, List.setIfInBounds_toArray, List.set_cons_zero, List.set_cons_succ]
          rw [(wrap_u8 y0)]
          refine wpAnyH_ready (rs := [6, 9]) (by kernel_rfl) (by simp) ?_
          refine AllReadyH.cons (o := ?o6d1) ?ho6d1 (fun K hK => ?st6d1) ?mo6d1
          case ho6d1 => (simp only [List.getElem?_toArray, List.getElem?_cons_zero, List.getElem?_cons_succ]; rfl)
          · skip
            go_simp
            refine (bytes_any HAD.out hn hcm bl (by omega)).mono ?_
            rintro e w5 ⟨hch, hp⟩
            rw [if_pos hlong] at hp
            obtain ⟨qq, rfl⟩ := hp
            exact ⟨rfl, HX.out _ _ (HCD.out.trans hch) ⟨_, rfl⟩⟩
          refine AllReadyH.cons (o := ?o9d2) ?ho9d2 (fun K hK => ?st9d2) ?mo9d2
          case ho9d2 => (simp only [List.getElem?_toArray, List.getElem?_cons_zero, List.getElem?_cons_succ]; rfl)
          · skip
            go_simp
            obtain ⟨w5, hw5⟩ : ∃ x, x = wd.alloc (.cells #[.int .i64 0, .slice none 0 0] 34) := ⟨_, rfl⟩
            have hb5 : Below wd.heap.size wd w5 := by rw [hw5]; exact one_box' _ _
            rw [← hw5]
            have HA5 := Lib.hid (HAD.out.below hb5)
            have HC5 := Lib.hid (HCD.out.trans (Chg.of_below hb5 _))
            have h5 := (hb5.cell (p := ⟨bb, off, none⟩) (cell_lt HED.out)).trans HED.out
            clear hw5 hb5
            refine hK.out _ _ h5 (fun _ => ?_)
            clear hK K
            try simp only [Act.put, List.setIfInBounds_toArray, List.set_cons_zero, List.set_cons_succ]
            refine wpAnyH_ready (rs := [6]) (by kernel_rfl) (by simp) ?_
            refine AllReadyH.cons (o := ?o6d3) ?ho6d3 (fun K hK => ?st6d3) ?mo6d3
            case ho6d3 => (simp only [List.getElem?_toArray, List.getElem?_cons_zero, List.getElem?_cons_succ]; rfl)
            · skip
              go_simp
              refine (bytes_any HA5.out hn hcm bl (by omega)).mono ?_
              rintro e w6 ⟨hch, hp⟩
              rw [if_pos hlong] at hp
              obtain ⟨qq, rfl⟩ := hp
              exact ⟨rfl, HX.out _ _ (HC5.out.trans hch) ⟨_, rfl⟩⟩
            exact AllReadyH.nil
          exact AllReadyH.nil
        · have HR6 : Hid (R6 w gr B A n cap bs (p + 4) (.slice As 4 cs) bb off y0 (w3.drewN nq)) := Lib.hid ⟨⟨HAT.out.blk.drewN nq, HAT.out.rd.dn nq, HAT.out.lo, HAT.out.le⟩, HC3.out.drewN nq, HR3.out.drewN nq, e0⟩
          clear HAT HC3 HR3 e0 e1 e2 e3 HR1
          generalize w3.drewN nq = w4 at HR6 ⊢
          go_cut [6] from 46 to 54 (fun v wc => ∃ (q : Nat) (vb : Value), v = .pointer (some ⟨q, 0, none⟩) ∧ Hid (R6 w gr B A n cap bs (p + 4 + bl) (.slice As 4 cs) bb off y0 wc ∧ wc.ownsRow w.heap.size 5 1 vb bl (bvs (part bs (p + 4) bl)) ∧ Blk wc q 34 #[.int .i64 (y0.toNat : Int), vb]))
          case first =>
            obtain ⟨wd, hwd⟩ : ∃ wd, wd = w4.drew := ⟨_, rfl⟩
            have HRD0 : Hid (R6 w gr B A n cap bs (p + 4) (.slice As 4 cs) bb off y0 wd) := Lib.hid (by rw [hwd]; exact ⟨⟨HR6.out.at_.blk.drewN 1, HR6.out.at_.rd.dn 1, HR6.out.at_.lo, HR6.out.at_.le⟩, HR6.out.chg.drewN 1, HR6.out.res.drewN 1, HR6.out.c⟩)
            have HWD := Lib.hid hwd
            clear hwd HR6
            refine wp_region_held_drew (S := fun W => W.cell? ⟨bb, off, none⟩ = some (.int .u8 (y0.toNat : Int))) (by kernel_rfl) (by rw [← HWD.out]; exact HRD0.out.c) (fun hsw => ?_)
            rw [← HWD.out] at hsw ⊢
            clear HWD
            refine wpAnyH_take (i := 0) (oi := ?oi0a0) (v := ?v0a0) ?hi0a0 (by kernel_rfl) (by kernel_rfl) (by kernel_rfl) ?hq0a0 ?hy0a0 (by assumption) ?rest0a0
            case hi0a0 => (simp only [List.getElem?_toArray, List.getElem?_cons_zero]; rfl)
            case hy0a0 => (refine Or.inl ⟨by rfl, ?_⟩; intro w hSw; (try dsimp only at hSw); go_simp; try with_reducible rfl)
            case hq0a0 => exact fun _ _ _ h => h
            try simp only [Act.put, List.setIfInBounds_toArray, List.set_cons_zero, List.set_cons_succ]
            refine wpAnyH_take (i := 1) (oi := ?oi1a0) (v := ?v1a0) ?hi1a0 (by kernel_rfl) (by kernel_rfl) (by kernel_rfl) ?hq1a0 ?hy1a0 (by assumption) ?rest1a0
            case hi1a0 => (simp only [List.getElem?_toArray, List.getElem?_cons_zero, List.getElem?_cons_succ]; rfl)
            case hy1a0 => (refine Or.inl ⟨by rfl, ?_⟩; intro w hSw; (try dsimp only at hSw); go_simp; try with_reducible rfl)
            case hq1a0 => exact fun _ _ _ h => h
            try simp only [Act.put, List.setIfInBounds_toArray, List.set_cons_zero, List.set_cons_succ]
            refine wpAnyH_take (i := 2) (oi := ?oi2a0) (v := ?v2a0) ?hi2a0 (by kernel_rfl) (by kernel_rfl) (by kernel_rfl) ?hq2a0 ?hy2a0 (by assumption) ?rest2a0
            case hi2a0 => (simp only [List.getElem?_toArray, List.getElem?_cons_zero, List.getElem?_cons_succ]; rfl)
            case hy2a0 => (refine Or.inl ⟨by rfl, ?_⟩; intro w hSw; (try dsimp only at hSw); go_simp; try with_reducible rfl)
            case hq2a0 => exact fun _ _ _ h => h
            try simp only [Act.put, List.setIfInBounds_toArray, List.set_cons_zero, List.set_cons_succ]
            refine wpAnyH_take (i := 3) (oi := ?oi3a0) (v := ?v3a0) ?hi3a0 (by kernel_rfl) (by kernel_rfl) (by kernel_rfl) ?hq3a0 ?hy3a0 (by assumption) ?rest3a0
            case hi3a0 => (simp only [List.getElem?_toArray, List.getElem?_cons_zero, List.getElem?_cons_succ]; rfl)
            case hy3a0 => (refine Or.inl ⟨by rfl, ?_⟩; intro w hSw; (try dsimp only at hSw); go_simp; try with_reducible rfl)
            case hq3a0 => exact fun _ _ _ h => h
            try simp only [Act.put, List.setIfInBounds_toArray, List.set_cons_zero, List.set_cons_succ]
            refine wpAnyH_take (i := 4) (oi := ?oi4a0) (v := ?v4a0) ?hi4a0 (by kernel_rfl) (by kernel_rfl) (by kernel_rfl) ?hq4a0 ?hy4a0 (by assumption) ?rest4a0
            case hi4a0 => (simp only [List.getElem?_toArray, List.getElem?_cons_zero, List.getElem?_cons_succ]; rfl)
            case hy4a0 => (refine Or.inl ⟨by rfl, ?_⟩; intro w hSw; (try dsimp only at hSw); go_simp; try with_reducible rfl)
            case hq4a0 => exact fun _ _ _ h => h
            try simp only [Act.put, List.setIfInBounds_toArray, List.set_cons_zero, List.set_cons_succ]
            refine wpAnyH_take (i := 5) (oi := ?oi5a0) (v := ?v5a0) ?hi5a0 (by kernel_rfl) (by kernel_rfl) (by kernel_rfl) ?hq5a0 ?hy5a0 (by assumption) ?rest5a0
            case hi5a0 => (simp only [List.getElem?_toArray, List.getElem?_cons_zero, List.getElem?_cons_succ]; rfl)
            case hy5a0 => (refine Or.inl ⟨by rfl, ?_⟩; intro w hSw; (try dsimp only at hSw); go_simp; try with_reducible rfl)
            case hq5a0 => exact fun _ _ _ h => h
            try simp only [Act.put, List.setIfInBounds_toArray, List.set_cons_zero, List.set_cons_succ]
            rw [(wrap_u8 y0)]
-- ORDERS
            refine wpAnyH_ready (rs := [6, 9]) (by kernel_rfl) (by simp) ?_
            refine AllReadyH.cons (o := ?o6q1) ?ho6q1 (fun K hK => ?st6q1) ?mo6q1
            case ho6q1 => (simp only [List.getElem?_toArray, List.getElem?_cons_zero, List.getElem?_cons_succ]; rfl)
            · skip
              go_simp
              refine (bytes_any HRD0.out.at_ hn hcm bl (by omega)).mono ?_
              rintro _ wq1 ⟨hch, hp⟩
              rw [if_neg hlong] at hp
              obtain ⟨AB, cB, rfl, hmB, hcB, hrB, hatB⟩ := hp
              have Hq1 := Lib.hid (HRD0.out.call hch hatB hbg)
              have HRB := Lib.hid (hrB.more (by have := hatB.lo; have := hatB.blk.lt; omega : B ≤ wq1.heap.size))
              clear hch hrB hatB
              refine hK.out _ _ Hq1.out.c (fun _ => ?_)
              clear hK K
              try simp only [Act.put, List.setIfInBounds_toArray, List.set_cons_zero, List.set_cons_succ]
              refine wpAnyH_ready (rs := [7, 9]) (by kernel_rfl) (by simp) ?_
              refine AllReadyH.cons (o := ?o7q2) ?ho7q2 (fun K hK => ?st7q2) ?mo7q2
              case ho7q2 => (simp only [List.getElem?_toArray, List.getElem?_cons_zero, List.getElem?_cons_succ]; rfl)
              · skip
                have hnil : wq1.ownsRow w.heap.size 5 1 (.slice none 0 0) 0 [] := ⟨by simp, .inl ⟨rfl, rfl⟩⟩
                refine step_append_any _ (by rfl) _ _ 22 (by rfl) w.heap.size 5 i0 _ 1 1 u_bytes hi0 hz0 hz1 hz2 rfl (by omega) _ 0 [] (by rfl) hnil _ AB bl cB (bvs (part bs (p + 4) bl)) (by rfl) HRB.out (bvs_one _) (by simp only [maxLen]; omega) (by omega) Hq1.out.chg.size ?_
                intro vq2 wq2 hov hgv _
                rw [Nat.zero_add, List.nil_append] at hov
                have hbv : Below wq1.heap.size wq1 wq2 := nil_app hgv
                obtain ⟨Avq2, cvq2, rfl, _, _⟩ := own_shape hov
                have Hq2 := Lib.hid (Hq1.out.below hbv)
                have HOq2 := Lib.hid hov
                clear hov hgv hbv hnil
                refine hK.out _ _ Hq2.out.c (fun _ => ?_)
                clear hK K
                try simp only [Act.put, List.setIfInBounds_toArray, List.set_cons_zero, List.set_cons_succ]
                refine wpAnyH_take (i := 8) (oi := ?oi8q3) (v := ?v8q3) ?hi8q3 (by kernel_rfl) (by kernel_rfl) (by kernel_rfl) ?hq8q3 ?hy8q3 (by assumption) ?rest8q3
                case hi8q3 => (simp only [List.getElem?_toArray, List.getElem?_cons_zero, List.getElem?_cons_succ]; rfl)
                case hy8q3 => (refine Or.inl ⟨by rfl, ?_⟩; intro w hSw; (try dsimp only at hSw); go_simp; try with_reducible rfl)
                case hq8q3 => exact fun _ _ _ h => h
                try simp only [Act.put, List.setIfInBounds_toArray, List.set_cons_zero, List.set_cons_succ]
                refine wpAnyH_ready (rs := [9]) (by kernel_rfl) (by simp) ?_
                refine AllReadyH.cons (o := ?o9q4) ?ho9q4 (fun K hK => ?st9q4) ?mo9q4
                case ho9q4 => (simp only [List.getElem?_toArray, List.getElem?_cons_zero, List.getElem?_cons_succ]; rfl)
                · skip
                  go_simp
                  have hltq4 := Hq2.out.res.lt
                  obtain ⟨wq4, hwq4⟩ : ∃ x, x = wq2.alloc (.cells #[.int .i64 0, .slice none 0 0] 34) := ⟨_, rfl⟩
                  have hblq4 : Below wq2.heap.size wq2 wq4 := by rw [hwq4]; exact one_box' _ _
                  have HPq4 : Hid (Blk wq4 wq2.heap.size 34 #[.int .i64 0, .slice none 0 0]) := Lib.hid (by rw [hwq4]; exact Blk.new _ _ _)
                  rw [← hwq4]
                  have Hq4 := Lib.hid (Hq2.out.below hblq4)
                  have HOq4 := Lib.hid (own_over HOq2.out hblq4)
                  clear hwq4 hblq4
                  refine hK.out _ _ Hq4.out.c (fun _ => ?_)
                  clear hK K
                  try simp only [Act.put, List.setIfInBounds_toArray, List.set_cons_zero, List.set_cons_succ]
                  refine wpAnyH_ready (rs := [10]) (by kernel_rfl) (by simp) ?_
                  refine AllReadyH.cons (o := ?o10q5) ?ho10q5 (fun K hK => ?st10q5) ?mo10q5
                  case ho10q5 => (simp only [List.getElem?_toArray, List.getElem?_cons_zero, List.getElem?_cons_succ]; rfl)
                  · skip
                    have z0 := HPq4.out.cell 0
                    have z1 := HPq4.out.cell 1
                    have zf0 := HPq4.out.frozen 0
                    have zf1 := HPq4.out.frozen 1
                    go_simp
                    have HF := Lib.hid (R6.fin Hq4.out HOq4.out HPq4.out (by omega) hbb hBw (by omega))
                    refine hK.out _ _ HF.out.1.c (fun _ => ?_)
                    clear hK K
                    try simp only [Act.put, List.setIfInBounds_toArray, List.set_cons_zero, List.set_cons_succ]
                    refine wpAnyH_done (by kernel_rfl) ?_ _
                    go_wp2_with fail
                    go_meet
                    exact ⟨_, _, rfl, HF⟩
                  exact AllReadyH.nil
                exact AllReadyH.nil
              refine AllReadyH.cons (o := ?o9q6) ?ho9q6 (fun K hK => ?st9q6) ?mo9q6
              case ho9q6 => (simp only [List.getElem?_toArray, List.getElem?_cons_zero, List.getElem?_cons_succ]; rfl)
              · skip
                go_simp
                have hltq6 := Hq1.out.res.lt
                obtain ⟨wq6, hwq6⟩ : ∃ x, x = wq1.alloc (.cells #[.int .i64 0, .slice none 0 0] 34) := ⟨_, rfl⟩
                have hblq6 : Below wq1.heap.size wq1 wq6 := by rw [hwq6]; exact one_box' _ _
                have HPq6 : Hid (Blk wq6 wq1.heap.size 34 #[.int .i64 0, .slice none 0 0]) := Lib.hid (by rw [hwq6]; exact Blk.new _ _ _)
                rw [← hwq6]
                have Hq6 := Lib.hid (Hq1.out.below hblq6)
                have HRB := Lib.hid ((HRB.out.below hblq6).more hblq6.size)
                clear hwq6 hblq6
                refine hK.out _ _ Hq6.out.c (fun _ => ?_)
                clear hK K
                try simp only [Act.put, List.setIfInBounds_toArray, List.set_cons_zero, List.set_cons_succ]
                refine wpAnyH_ready (rs := [7]) (by kernel_rfl) (by simp) ?_
                refine AllReadyH.cons (o := ?o7q7) ?ho7q7 (fun K hK => ?st7q7) ?mo7q7
                case ho7q7 => (simp only [List.getElem?_toArray, List.getElem?_cons_zero, List.getElem?_cons_succ]; rfl)
                · skip
                  have hnil : wq6.ownsRow w.heap.size 5 1 (.slice none 0 0) 0 [] := ⟨by simp, .inl ⟨rfl, rfl⟩⟩
                  refine step_append_any _ (by rfl) _ _ 22 (by rfl) w.heap.size 5 i0 _ 1 1 u_bytes hi0 hz0 hz1 hz2 rfl (by omega) _ 0 [] (by rfl) hnil _ AB bl cB (bvs (part bs (p + 4) bl)) (by rfl) HRB.out (bvs_one _) (by simp only [maxLen]; omega) (by omega) Hq6.out.chg.size ?_
                  intro vq7 wq7 hov hgv _
                  rw [Nat.zero_add, List.nil_append] at hov
                  have hbv : Below wq6.heap.size wq6 wq7 := nil_app hgv
                  obtain ⟨Avq7, cvq7, rfl, _, _⟩ := own_shape hov
                  have Hq7 := Lib.hid (Hq6.out.below hbv)
                  have HOq7 := Lib.hid hov
                  have HPq7 := Lib.hid (HPq6.out.over hbv)
                  clear hov hgv hbv hnil
                  refine hK.out _ _ Hq7.out.c (fun _ => ?_)
                  clear hK K
                  try simp only [Act.put, List.setIfInBounds_toArray, List.set_cons_zero, List.set_cons_succ]
                  refine wpAnyH_take (i := 8) (oi := ?oi8q8) (v := ?v8q8) ?hi8q8 (by kernel_rfl) (by kernel_rfl) (by kernel_rfl) ?hq8q8 ?hy8q8 (by assumption) ?rest8q8
                  case hi8q8 => (simp only [List.getElem?_toArray, List.getElem?_cons_zero, List.getElem?_cons_succ]; rfl)
                  case hy8q8 => (refine Or.inl ⟨by rfl, ?_⟩; intro w hSw; (try dsimp only at hSw); go_simp; try with_reducible rfl)
                  case hq8q8 => exact fun _ _ _ h => h
                  try simp only [Act.put, List.setIfInBounds_toArray, List.set_cons_zero, List.set_cons_succ]
                  refine wpAnyH_ready (rs := [10]) (by kernel_rfl) (by simp) ?_
                  refine AllReadyH.cons (o := ?o10q9) ?ho10q9 (fun K hK => ?st10q9) ?mo10q9
                  case ho10q9 => (simp only [List.getElem?_toArray, List.getElem?_cons_zero, List.getElem?_cons_succ]; rfl)
                  · skip
                    have z0 := HPq7.out.cell 0
                    have z1 := HPq7.out.cell 1
                    have zf0 := HPq7.out.frozen 0
                    have zf1 := HPq7.out.frozen 1
                    go_simp
                    have HF := Lib.hid (R6.fin Hq7.out HOq7.out HPq7.out (by omega) hbb hBw (by omega))
                    refine hK.out _ _ HF.out.1.c (fun _ => ?_)
                    clear hK K
                    try simp only [Act.put, List.setIfInBounds_toArray, List.set_cons_zero, List.set_cons_succ]
                    refine wpAnyH_done (by kernel_rfl) ?_ _
                    go_wp2_with fail
                    go_meet
                    exact ⟨_, _, rfl, HF⟩
                  exact AllReadyH.nil
                exact AllReadyH.nil
              exact AllReadyH.nil
            refine AllReadyH.cons (o := ?o9q10) ?ho9q10 (fun K hK => ?st9q10) ?mo9q10
            case ho9q10 => (simp only [List.getElem?_toArray, List.getElem?_cons_zero, List.getElem?_cons_succ]; rfl)
            · skip
              go_simp
              have hltq10 := HRD0.out.res.lt
              obtain ⟨wq10, hwq10⟩ : ∃ x, x = wd.alloc (.cells #[.int .i64 0, .slice none 0 0] 34) := ⟨_, rfl⟩
              have hblq10 : Below wd.heap.size wd wq10 := by rw [hwq10]; exact one_box' _ _
              have HPq10 : Hid (Blk wq10 wd.heap.size 34 #[.int .i64 0, .slice none 0 0]) := Lib.hid (by rw [hwq10]; exact Blk.new _ _ _)
              rw [← hwq10]
              have Hq10 := Lib.hid (HRD0.out.below hblq10)
              clear hwq10 hblq10
              refine hK.out _ _ Hq10.out.c (fun _ => ?_)
              clear hK K
              try simp only [Act.put, List.setIfInBounds_toArray, List.set_cons_zero, List.set_cons_succ]
              refine wpAnyH_ready (rs := [6]) (by kernel_rfl) (by simp) ?_
              refine AllReadyH.cons (o := ?o6q11) ?ho6q11 (fun K hK => ?st6q11) ?mo6q11
              case ho6q11 => (simp only [List.getElem?_toArray, List.getElem?_cons_zero, List.getElem?_cons_succ]; rfl)
              · skip
                go_simp
                refine (bytes_any Hq10.out.at_ hn hcm bl (by omega)).mono ?_
                rintro _ wq11 ⟨hch, hp⟩
                rw [if_neg hlong] at hp
                obtain ⟨AB, cB, rfl, hmB, hcB, hrB, hatB⟩ := hp
                have Hq11 := Lib.hid (Hq10.out.call hch hatB hbg)
                have HRB := Lib.hid (hrB.more (by have := hatB.lo; have := hatB.blk.lt; omega : B ≤ wq11.heap.size))
                have HPq11 := Lib.hid (HPq10.out.chg hch (ne_of_isT6 HPq10.out Hq10.out.at_.blk.isT))
                clear hch hrB hatB
                refine hK.out _ _ Hq11.out.c (fun _ => ?_)
                clear hK K
                try simp only [Act.put, List.setIfInBounds_toArray, List.set_cons_zero, List.set_cons_succ]
                refine wpAnyH_ready (rs := [7]) (by kernel_rfl) (by simp) ?_
                refine AllReadyH.cons (o := ?o7q12) ?ho7q12 (fun K hK => ?st7q12) ?mo7q12
                case ho7q12 => (simp only [List.getElem?_toArray, List.getElem?_cons_zero, List.getElem?_cons_succ]; rfl)
                · skip
                  have hnil : wq11.ownsRow w.heap.size 5 1 (.slice none 0 0) 0 [] := ⟨by simp, .inl ⟨rfl, rfl⟩⟩
                  refine step_append_any _ (by rfl) _ _ 22 (by rfl) w.heap.size 5 i0 _ 1 1 u_bytes hi0 hz0 hz1 hz2 rfl (by omega) _ 0 [] (by rfl) hnil _ AB bl cB (bvs (part bs (p + 4) bl)) (by rfl) HRB.out (bvs_one _) (by simp only [maxLen]; omega) (by omega) Hq11.out.chg.size ?_
                  intro vq12 wq12 hov hgv _
                  rw [Nat.zero_add, List.nil_append] at hov
                  have hbv : Below wq11.heap.size wq11 wq12 := nil_app hgv
                  obtain ⟨Avq12, cvq12, rfl, _, _⟩ := own_shape hov
                  have Hq12 := Lib.hid (Hq11.out.below hbv)
                  have HOq12 := Lib.hid hov
                  have HPq12 := Lib.hid (HPq11.out.over hbv)
                  clear hov hgv hbv hnil
                  refine hK.out _ _ Hq12.out.c (fun _ => ?_)
                  clear hK K
                  try simp only [Act.put, List.setIfInBounds_toArray, List.set_cons_zero, List.set_cons_succ]
                  refine wpAnyH_take (i := 8) (oi := ?oi8q13) (v := ?v8q13) ?hi8q13 (by kernel_rfl) (by kernel_rfl) (by kernel_rfl) ?hq8q13 ?hy8q13 (by assumption) ?rest8q13
                  case hi8q13 => (simp only [List.getElem?_toArray, List.getElem?_cons_zero, List.getElem?_cons_succ]; rfl)
                  case hy8q13 => (refine Or.inl ⟨by rfl, ?_⟩; intro w hSw; (try dsimp only at hSw); go_simp; try with_reducible rfl)
                  case hq8q13 => exact fun _ _ _ h => h
                  try simp only [Act.put, List.setIfInBounds_toArray, List.set_cons_zero, List.set_cons_succ]
                  refine wpAnyH_ready (rs := [10]) (by kernel_rfl) (by simp) ?_
                  refine AllReadyH.cons (o := ?o10q14) ?ho10q14 (fun K hK => ?st10q14) ?mo10q14
                  case ho10q14 => (simp only [List.getElem?_toArray, List.getElem?_cons_zero, List.getElem?_cons_succ]; rfl)
                  · skip
                    have z0 := HPq12.out.cell 0
                    have z1 := HPq12.out.cell 1
                    have zf0 := HPq12.out.frozen 0
                    have zf1 := HPq12.out.frozen 1
                    go_simp
                    have HF := Lib.hid (R6.fin Hq12.out HOq12.out HPq12.out (by omega) hbb hBw (by omega))
                    refine hK.out _ _ HF.out.1.c (fun _ => ?_)
                    clear hK K
                    try simp only [Act.put, List.setIfInBounds_toArray, List.set_cons_zero, List.set_cons_succ]
                    refine wpAnyH_done (by kernel_rfl) ?_ _
                    go_wp2_with fail
                    go_meet
                    exact ⟨_, _, rfl, HF⟩
                  exact AllReadyH.nil
                exact AllReadyH.nil
              exact AllReadyH.nil
            exact AllReadyH.nil
            -- ENDORDERS
          obtain ⟨q, vb, rfl, HQ⟩ := hcut
          obtain ⟨Ab, cb, rfl, _, _⟩ := own_shape HQ.out.2.1
          have z0 : wc.cell? ⟨q, 0, none⟩ = some (.int .i64 (y0.toNat : Int)) := HQ.out.2.2.cell 0
          have z1 : wc.cell? ⟨q, 1, none⟩ = some (.slice Ab bl cb) := HQ.out.2.2.cell 1
          have HVA := Lib.hid (valid_any (y0.toNat : Int) Ab bl cb wc (by omega))
          have hkind : okB (y0.toNat : Int) bl = decide (1 ≤ y0.toNat ∧ y0.toNat ≤ 4) := by
            unfold okB
            rw [decide_eq_decide]
            omega
          rw [hkind] at HVA
          clear hkind
          by_cases hk : 1 ≤ y0.toNat ∧ y0.toNat ≤ 4
          · rw [decide_eq_true hk] at HVA
            have HK := Lib.hid hk
            clear hk
            go_upto_region 9 with (go_at_call 55; refine HVA.out.mono ?_; rintro _ w5 ⟨rfl, hb5⟩; have HQ5 := Lib.hid (And.intro (HQ.out.1.below hb5) (And.intro (own_over HQ.out.2.1 hb5) (HQ.out.2.2.over hb5))); clear hb5)
            clear z0 z1 HVA HQ
            have k2 : w5.cell? ⟨gr, 2, none⟩ = some (.slice As 4 cs) := HQ5.out.1.at_.blk.cell 2
            have hsd : RdB w5 w5.heap.size As 4 (part bs (p - 4) 4) := (HS.out.keep fun g hg => HQ5.out.1.chg.block g (by omega) (by have := HLO.out; omega)).more (by have := HQ5.out.1.chg.size; omega)
            have HSE := Lib.hid (seal_any HQ5.out.1.at_ hn hc hc2 p (by omega) As 4 cs (part bs (p - 4) 4) hsd (by omega) (HT.out.chg HQ5.out.1.chg HNE.out) HNE.out)
            have e4 : p + 4 + bl - p = 4 + bl := by omega
            rw [e4] at HSE
            clear hsd e4
            obtain ⟨cr, hcr⟩ : ∃ cr, cr = Crc.crc (part bs (p - 4) 4 ++ part bs p (4 + bl)) := ⟨_, rfl⟩
            rw [← hcr] at HSE HNX
            clear hcr
            have e8 : p + 4 + bl + 4 = p + 8 + bl := by omega
            by_cases hgood : p + 8 + bl ≤ n ∧ numB (part bs (p + 4 + bl) 4) = cr
            · have hx0 : nextR bs p = some ⟨(y0.toNat : Int), part bs (p + 4) bl⟩ := by
                rw [HNX.out, if_pos ⟨by rw [HL.out]; exact hgood.1, hbm, HXE.out, HK.out.1, HK.out.2, hgood.2⟩]
              have hlb : (part bs (p + 4) bl).length = bl := part_length (by have := HL.out; omega)
              have HX : Hid (∀ (e : Ending) (w' : World), Chg (fun k => k = gr) w w' → (∃ v, e = .returned (.agg #[.int .i64 (y0.toNat : Int), v]) ∧ w'.ownsRow w.heap.size 5 1 v bl (bvs (part bs (p + 4) bl)) ∧ ∃ A2 c2, RdAt w' gr B A n cap bs (p + 8 + bl) (.slice A2 4 c2) ∧ 4 ≤ c2 ∧ RdB w' B A2 4 (part bs (p + 4 + bl) 4)) → PP e w') := Lib.hid fun e w' h1 h2 => by
                rw [← HPP.out]
                refine ⟨h1, ?_⟩
                rw [hx0]
                dsimp only
                rw [hlb]
                exact h2
              have HG := Lib.hid hgood
              clear HPP hx0 HNX hgood hlb
              go_upto_region 10 with (go_at_call 86; refine HSE.out.mono ?_; rintro e w6 ⟨hc6, hp⟩; rw [if_neg (by have := HG.out.1; omega), if_pos HG.out.2, e8] at hp; obtain ⟨rfl, A2, cc2, hat6, hcc2, hrd6⟩ := hp)
              clear HSE k2
              have HQ6 := Lib.hid (And.intro (HQ5.out.1.call hc6 hat6 hbg) (And.intro (own_chg HQ5.out.2.1 hc6 fun g hg e => by
                subst e
                exact absurd ((own_isT HQ5.out.2.1 hg).eq_ HQ5.out.1.at_.blk.isT) (by decide)) (HQ5.out.2.2.chg hc6 (ne_of_isT6 HQ5.out.2.2 HQ5.out.1.at_.blk.isT))))
              have hrd6' := Lib.hid (And.intro hcc2 hrd6)
              clear hc6 hat6 hrd6 hcc2 HQ5
              have t0 : w6.cell? ⟨q, 0, none⟩ = some (.int .i64 (y0.toNat : Int)) := HQ6.out.2.2.cell 0
              have t1 : w6.cell? ⟨q, 1, none⟩ = some (.slice Ab bl cb) := HQ6.out.2.2.cell 1
              have r0 : w6.cell? ⟨w.heap.size, 0, none⟩ = some (.int .i64 0) := HQ6.out.1.res.cell 0
              have r1 : w6.cell? ⟨w.heap.size, 1, none⟩ = some (.slice none 0 0) := HQ6.out.1.res.cell 1
              have q0 := HQ6.out.1.res.frozen 0
              have q1 := HQ6.out.1.res.frozen 1
              go_wp2
              have hcs : Chg (fun k => k = w.heap.size) w6 ((w6.setCell ⟨w.heap.size, 0, none⟩ (.int .i64 (y0.toNat : Int))).setCell ⟨w.heap.size, 1, none⟩ (.slice Ab bl cb)) := ((Chg.refl (fun k => k = w.heap.size) w6).setCell (p := ⟨w.heap.size, 0, none⟩) (.inl rfl) _).setCell (p := ⟨w.heap.size, 1, none⟩) (.inl rfl) _
              have hge : gr ≠ w.heap.size := by omega
              have hat := HQ6.out.1.at_
              refine bodyPost_ret (v := .agg #[.int .i64 (y0.toNat : Int), .slice Ab bl cb]) (by simp [results, Tryd.results83, r0, r1, go_sem]) rfl (HX.out _ _ (HQ6.out.1.chg.thenS hcs fun i hi e => by omega) ⟨_, rfl, own_chg HQ6.out.2.1 hcs fun g hg e => ?_, A2, cc2, ⟨hat.blk.chg hcs hge, hat.rd.keep fun g hg => hcs.block g (by have := hat.blk.lt; have := hat.lo; omega) (by omega), hat.lo, hat.le⟩, hrd6'.out.1, hrd6'.out.2.keep fun g hg => hcs.block g (by have := hat.blk.lt; have := hat.lo; omega) (by omega)⟩)
              subst e
              exact absurd ((own_isT HQ6.out.2.1 hg).eq_ HQ6.out.1.res.isT) (by decide)
            · have hx0 : nextR bs p = none := by
                rw [HNX.out, if_neg (fun h => hgood ⟨by have := HL.out; omega, h.2.2.2.2.2⟩)]
              have HX : Hid (∀ (e : Ending) (w' : World), Chg (fun k => k = gr) w w' → Dam e → PP e w') := Lib.hid fun e w' h1 h2 => by
                rw [← HPP.out]
                exact ⟨h1, by rw [hx0]; exact h2⟩
              have HG := Lib.hid hgood
              clear HPP hx0 HNX hgood
              go_wp2_with (go_at_call 86; refine HSE.out.mono ?_; rintro e w6 ⟨hc6, hp⟩; obtain ⟨qq, rfl⟩ := seal_bad hp (fun h => HG.out ⟨by omega, h.2⟩))
              exact ⟨rfl, HX.out _ _ (HQ5.out.1.chg.trans hc6) ⟨_, rfl⟩⟩
          · rw [decide_eq_false hk] at HVA
            have hx0 : nextR bs p = none := by
              rw [HNX.out, if_neg (fun h => hk ⟨h.2.2.2.1, h.2.2.2.2.1⟩)]
            have HX : Hid (∀ (e : Ending) (w' : World), Chg (fun k => k = gr) w w' → Dam e → PP e w') := Lib.hid fun e w' h1 h2 => by
              rw [← HPP.out]
              exact ⟨h1, by rw [hx0]; exact h2⟩
            clear HPP hx0 HNX hk
            go_wp2_with (go_at_call 55; refine HVA.out.mono ?_; rintro _ w5 ⟨rfl, hb5⟩)
            exact ⟨rfl, HX.out _ _ (HQ.out.1.chg.trans (Chg.of_below hb5 _)) ⟨_, rfl⟩⟩
      · have dbm : 4200 < (bl : Int) := by omega
        have hx0 : nextR bs p = none := by
          rw [HNX.out, if_neg (by omega)]
        have HX : Hid (∀ (e : Ending) (w' : World), Chg (fun k => k = gr) w w' → Dam e → PP e w') := Lib.hid fun e w' h1 h2 => by
          rw [← HPP.out]
          exact ⟨h1, by rw [hx0]; exact h2⟩
        clear HPP hx0 HNX
        go_quiet (fail)
        go_wp2
        exact ⟨rfl, HX.out _ _ (HC3.out.drewN _) ⟨_, rfl⟩⟩
    · have hb : ((bits .xor .u8 (bits .xor .u8 (bits .xor .u8 165 (y0.toNat : Int)) (y1.toNat : Int)) (y2.toNat : Int)) != (y3.toNat : Int)) = true := by
        rw [hxx]
        simp only [bne_iff_ne, ne_eq]
        intro e
        exact hxe (UInt8.toNat_inj.mp (by omega))
      have hx0 : nextR bs p = none := by
        rw [HNX.out, if_neg (fun h => hxe (hX.trans h.2.2.1))]
      have HX : Hid (∀ (e : Ending) (w' : World), Chg (fun k => k = gr) w w' → Dam e → PP e w') := Lib.hid fun e w' h1 h2 => by
        rw [← HPP.out]
        exact ⟨h1, by rw [hx0]; exact h2⟩
      clear hxe hX hxx HPP hx0 HNX
      go_quiet (fail)
      go_wp2
      exact ⟨rfl, HX.out _ _ (HC3.out.drewN _) ⟨_, rfl⟩⟩
end Go.Proofs.YtpkdalpjfcopbaaDoor
