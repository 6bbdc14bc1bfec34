/-
  WireEncodes, walked: every Encode is the document's, byte for byte; the packet stays as it is; answers share no memory.
-/
import Derived.Test.YtffcepaegcllmaaDoorWrT
import Derived.Test.YtffcepaegcllmaaDoorPackA
import Derived.Test.YtffcepaegcllmaaDoorCh
import Derived.Test.YtffcepaegcllmaaDoorPackF
namespace Go.Proofs.YtffcepaegcllmaaDoor
open Go.RowKit
theorem PkSz.lay {p : Pk} (h : PkSz p) {hA : Option Addr} {hc : Nat} {pA : Option Addr} {pc : Nat} {vA : Option Addr} {vc : Nat} {sA : Option Addr} {sc : Nat} {eA : Option Addr} {ec : Nat} {bA : Option Addr} {bc : Nat} {mA : Option Addr} {mc : Nat} : PkSz (p.lay hA hc pA pc vA vc sA sc eA ec bA bc mA mc) := ⟨h.hh, h.pp, h.vv, h.ss, h.ee, h.bb, h.mm⟩
/-- What an Encode gives: the bytes X, the number c. -/
def EncX (X : List UInt8) (c : Int) (w : World) (e : Ending) (w' : World) : Prop := ∃ v, e = .returned (.tuple #[v, .int .i64 c]) ∧ w'.ownsRow w.heap.size 5 1 v X.length (bvs X) ∧ Below w.heap.size w w'
def encX (p : Pk) (D : PkD) : List UInt8 := bif validB p D then encB p D else []
theorem packM_key : ∀ {ml ml' : List Msg}, ml.map Msg.key = ml'.map Msg.key → packM ml = packM ml'
  | [], [], _ => rfl
  | [], _ :: _, h => by simp at h
  | _ :: _, [], h => by simp at h
  | m :: l, m' :: l', h => by
    simp only [List.map_cons, List.cons.injEq, Msg.key, Prod.mk.injEq] at h
    obtain ⟨⟨h1, h2, h3, h4⟩, h5⟩ := h
    have ih := packM_key (ml := l) (ml' := l') h5
    have e : ∀ (z : Msg) (s : List Msg), packM (z :: s) = packD z.s z.q z.t z.body ++ packM s := fun z s => by simp [packM]
    rw [e, e, ih, h1, h2, h3, h4]
section
variable (p : Pk) {hA : Option Addr} {hc : Nat} {pA : Option Addr} {pc : Nat} {vA : Option Addr} {vc : Nat} {sA : Option Addr} {sc : Nat} {eA : Option Addr} {ec : Nat} {bA : Option Addr} {bc : Nat} {mA : Option Addr} {mc : Nat} (D : PkD) {ml : List Msg}
theorem encB_lay (h : D.msgs.map Msg.key = ml.map Msg.key) : encB (p.lay hA hc pA pc vA vc sA sc eA ec bA bc mA mc) { D with msgs := ml } = encB p D := by
  have e : partB (p.lay hA hc pA pc vA vc sA sc eA ec bA bc mA mc) { D with msgs := ml } = partB p D := by
    unfold partB
    dsimp only [Pk.lay]
    rw [packM_key h]
  unfold encB bodyB
  rw [e]
theorem encX_lay (h : D.msgs.map Msg.key = ml.map Msg.key) (h1 : ∀ m ∈ ml, m.body.length = m.n) (h2 : ∀ m ∈ D.msgs, m.body.length = m.n) : encX (p.lay hA hc pA pc vA vc sA sc eA ec bA bc mA mc) { D with msgs := ml } = encX p D ∧ codeB (validB (p.lay hA hc pA pc vA vc sA sc eA ec bA bc mA mc) { D with msgs := ml }) = codeB (validB p D) := by
  have hv : validB (p.lay hA hc pA pc vA vc sA sc eA ec bA bc mA mc) { D with msgs := ml } = validB p D := valid_lay p D (kk_of_key h.symm h1 h2)
  unfold encX
  rw [hv, encB_lay p D h]
  exact ⟨rfl, rfl⟩
end
theorem encX_le {w : World} {B : Nat} {p : Pk} {D : PkD} (h : PkIn w B p D) : (encX p D).length ≤ 100010 := by
  unfold encX
  cases hv : validB p D with
  | false => simp
  | true =>
    unfold validB at hv
    simp only [Bool.and_eq_true] at hv
    have := body_le hv.2 h
    simp only [cond_true, encB, List.length_append, le4, List.length_cons, List.length_nil]
    omega
theorem Encode_x {p : Pk} {D : PkD} {w : World} {X : List UInt8} {c : Int} (hin : PkIn w w.heap.size p D) (hle : PkLe p) (ht : Nibs w) (h : encX p D = X ∧ codeB (validB p D) = c) : Calls Tryd.prog 11 #[.agg p.cells] w (EncX X c w) := by
  obtain ⟨rfl, rfl⟩ := h
  exact Encode_any p D w hin hle ht
theorem REncode_x {p : Pk} {D : PkD} {w : World} {X : List UInt8} {c : Int} (hin : PkIn w w.heap.size p D) (hle : PkLe p) (h : encX p D = X ∧ codeB (validB p D) = c) : Calls Tryd.prog 8 #[.agg p.cells] w (EncX X c w) := by
  obtain ⟨rfl, rfl⟩ := h
  exact REncode_any p D w hin hle
theorem own_cht' {w w' : World} {base _b n : Nat} {v : Value} {xs : List Value} {S : Nat → Prop} (h : w.ownsRow base 5 1 v n xs) (hc : Chg S w w') (hn : ∀ g, v.ownBlock = some g → ¬ S g) : w'.ownsRow base 5 1 v n xs := own_chg h hc hn
/-- Bytes in memory of their own, between two marks. -/
def OwnIn (w : World) (lo hi : Nat) (v : Value) (X : List UInt8) : Prop := w.ownsRow lo 5 1 v X.length (bvs X) ∧ ∀ g, v.ownBlock = some g → lo ≤ g ∧ g < hi
theorem OwnIn.new {w : World} {lo : Nat} {v : Value} {X : List UInt8} (h : w.ownsRow lo 5 1 v X.length (bvs X)) : OwnIn w lo w.heap.size v X := ⟨h, fun g hg => by have h1 := own_block_lt h hg; exact ⟨h1.2.1, h1.1⟩⟩
theorem OwnIn.over {w w' : World} {lo hi : Nat} {v : Value} {X : List UInt8} (h : OwnIn w lo hi v X) (hb : Below w.heap.size w w') : OwnIn w' lo hi v X := ⟨own_over h.1 hb, h.2⟩
theorem OwnIn.chg {w w' : World} {lo hi : Nat} {v : Value} {X : List UInt8} {S : Nat → Prop} (h : OwnIn w lo hi v X) (hc : Chg S w w') (hn : ∀ g, v.ownBlock = some g → ¬ S g) : OwnIn w' lo hi v X := ⟨own_chg h.1 hc hn, h.2⟩
theorem OwnIn.cht {w w' : World} {lo hi b : Nat} {v : Value} {X : List UInt8} {ts : List TypeId} (h : OwnIn w lo hi v X) (hc : ChT ts b w w') (hn : 5 ∉ ts) : OwnIn w' lo hi v X := ⟨own_cht h.1 hc (.inl hn), h.2⟩
theorem OwnIn.rd {w : World} {lo hi n c : Nat} {A : Option Addr} {X : List UInt8} (h : OwnIn w lo hi (.slice A n c) X) : RdB w w.heap.size A X.length X := by
  obtain ⟨A', cap, e, _, _⟩ := own_shape h.1
  injection e with e1 e2 e3
  subst e1 e2 e3
  exact Rd.of_own h.1
/-- What stays through the law: the packet's box, the document's answer. -/
structure WeSt (w wr : World) (p : Pk) (hi : Nat) (vw : Value) (X : List UInt8) : Prop where
  P : Blk wr w.heap.size 45 p.cells
  wa : OwnIn wr w.heap.size hi vw X
  bw : Below w.heap.size w wr
theorem WeSt.over {w wr y : World} {p : Pk} {hi : Nat} {vw : Value} {X : List UInt8} (h : WeSt w wr p hi vw X) (hb : Below wr.heap.size wr y) : WeSt w y p hi vw X := ⟨h.P.over hb, h.wa.over hb, Below.then h.bw hb⟩
theorem WeSt.chg {w wr y : World} {p : Pk} {hi : Nat} {vw : Value} {X : List UInt8} (h : WeSt w wr p hi vw X) (hc : Chg (fun k => hi ≤ k) wr y) (hlt : w.heap.size < hi) (hle : hi ≤ wr.heap.size) : WeSt w y p hi vw X :=
  ⟨h.P.chg hc (by omega), h.wa.chg hc fun g hg hk => by have := (h.wa.2 g hg).2; omega, h.bw.trans (hc.to_below (by omega) fun k hk => by omega)⟩
theorem few_le (g : Nat) : PkLe (fewPk g) := ⟨by show 3 ≤ _; omega, by show 0 ≤ _; omega, by show 0 ≤ _; omega, by show 0 ≤ _; omega, by show 0 ≤ _; omega, by show 0 ≤ _; omega, by show 0 ≤ _; omega⟩
theorem few_x (g : Nat) : encX (fewPk g) fewD = encX (fewPk 0) fewD ∧ codeB (validB (fewPk g) fewD) = 0 := ⟨rfl, by rw [few_valid]; rfl⟩
theorem ChT.from_ {ts : List TypeId} {b : Nat} {w w' : World} (h : ChT ts b w w') : Chg (fun k => b ≤ k) w w' := h.chg.mono fun _ _ hk => hk.1

set_option maxRecDepth 100000 in
set_option maxHeartbeats 12800000 in
theorem WireEncodes_walk (p : Pk) (D : PkD) (w : World) (hin : PkIn w w.heap.size p D) (hsz : PkSz p) (ht : Nibs w) :
    Calls Tryd.prog 3 #[.agg p.cells] w fun e w' => e = .returned (.bool true) ∧ Below w.heap.size w w' := by
  have HIN : Hid (∀ W, Below w.heap.size w W → PkIn W W.heap.size p D) := Lib.hid fun W hW => hin.over hW
  have HSZ := Lib.hid hsz
  have HBO := Lib.hid hin.bodies
  have HT : Hid (∀ W, Below w.heap.size w W → Nibs W) := Lib.hid fun W hW => nibs_below ht hW
  obtain ⟨X, hX⟩ : ∃ X, X = encX p D := ⟨_, rfl⟩
  have hcb := codeB_bd (validB p D)
  obtain ⟨cd, hcd⟩ : ∃ c, c = codeB (validB p D) := ⟨_, rfl⟩
  rw [← hcd] at hcb
  have HXL : Hid (X.length ≤ 100010) := Lib.hid (by rw [hX]; exact encX_le hin)
  have HX := Lib.hid (And.intro hX.symm hcd.symm)
  have HCB := Lib.hid hcb
  clear hin hsz ht hX hcd hcb
  go_enter Tryd.func3, Tryd.ntmps3
  go_upto_region 1 with fail
  obtain ⟨w0, hw0⟩ : ∃ x, x = w.alloc (.cells p.cells 45) := ⟨_, rfl⟩
  rw [← hw0]
  have HB : Hid (Blk w0 w.heap.size 45 p.cells) := Lib.hid (by rw [hw0]; exact Blk.new _ _ _)
  have HBW : Hid (Below w.heap.size w w0) := Lib.hid (by rw [hw0]; exact one_box _ _)
  clear hw0
  have HRE := Lib.hid (REncode_x (HIN.out w0 HBW.out) HSZ.out.le HX.out)
  go_cut [3, 4] from 20 to 141 (fun v c wc => c = .int .i64 cd ∧ ∃ A n, v = .slice A X.length n ∧ Hid (WeSt w wc p wc.heap.size (.slice A X.length n) X))
  case first =>
    as_aux_lemma =>
      go_wp2_with (first | (refine wpList_load_on (by rfl) 45 _ (by rfl) w.heap.size (by rfl) 45 p.cells (0, 0) _ HB.out Tryd.underlying45 rfl (by kernel_rfl) ?_; simp only [Act.put, List.setIfInBounds_toArray, List.set_cons_zero, List.set_cons_succ]) | (go_at_call 8; refine HRE.out.mono ?_; rintro _ w1 ⟨v, rfl, ho, hb⟩; obtain ⟨A1, n1, rfl, _, _⟩ := own_shape ho; have H1 := Lib.hid (And.intro ho hb); clear ho hb; go_simp))
      go_meet
      exact ⟨rfl, A1, n1, rfl, Lib.hid ⟨HB.out.over H1.out.2, OwnIn.new (own_base H1.out.1 HBW.out.size), Below.then HBW.out H1.out.2⟩⟩
  case rest =>
    obtain ⟨rfl, Aw, nw, rfl, HW⟩ := hcut
    clear HRE HB HBW
    apply_assumption
    rename World => w1
    obtain ⟨gb, hgb⟩ : ∃ g, g = w1.heap.size := ⟨_, rfl⟩
    have HGB : Hid (gb = w1.heap.size ∧ w.heap.size < gb) := Lib.hid ⟨hgb, by rw [hgb]; exact HW.out.P.lt⟩
    obtain ⟨w2, hw2⟩ : ∃ x, x = w1.alloc (.cells #[.slice none 0 0, .slice none 0 0, .int .i64 0] 52) := ⟨_, rfl⟩
    have HW2 : Hid (WeSt w w2 p gb (.slice Aw X.length nw) X ∧ Bk w2 gb (fun _ => False) ∧ gb < w2.heap.size) := Lib.hid ⟨by rw [hw2, hgb]; exact HW.out.over (one_box _ _), by rw [hw2, hgb]; exact Bk.new _, by rw [hw2, hgb]; simp⟩
    have HE2 := Lib.hid hw2
    go_upto_region 3 with fail
    rw [← hw2, ← hgb]
    clear hw2 hgb HW
    have HTW := Lib.hid (TwinO_any p D w2 (HIN.out w2 HW2.out.1.bw) HSZ.out)
    go_cut [6] from 20 to 141 (fun v wc => ∃ (g : Nat), v = .pointer (some ⟨g, 0, none⟩) ∧ Hid (∃ (hA : Option Addr) (hc : Nat) (pA : Option Addr) (pc : Nat) (vA : Option Addr) (vc : Nat) (sA : Option Addr) (sc : Nat) (eA : Option Addr) (ec : Nat) (bA : Option Addr) (bc : Nat) (mA : Option Addr) (mc : Nat) (ml : List Msg), Blk wc g 45 (p.lay hA hc pA pc vA vc sA sc eA ec bA bc mA mc).cells ∧ PkOwn wc w2.heap.size (p.lay hA hc pA pc vA vc sA sc eA ec bA bc mA mc) { D with msgs := ml } ∧ D.msgs.map Msg.key = ml.map Msg.key ∧ Bk wc gb (fun k => k < wc.heap.size) ∧ WeSt w wc p gb (.slice Aw X.length nw) X ∧ gb < wc.heap.size))
    case first =>
      as_aux_lemma =>
        go_wp2_with (first | (refine wpList_load_on (by rfl) 45 _ (by rfl) w.heap.size (by rfl) 45 p.cells (0, 0) _ HW2.out.1.P Tryd.underlying45 rfl (by kernel_rfl) ?_; simp only [Act.put, List.setIfInBounds_toArray, List.set_cons_zero, List.set_cons_succ]) | (go_at_call 10; (refine HTW.out.mono ?_; rintro _ wt ⟨hA, hc, pA, pc, vA, vc, sA, sc, eA, ec, bA, bc, mA, mc, ml, rfl, hb, hq, hm⟩; have H1 := Lib.hid (And.intro hb (And.intro hq hm)); have HLO := Lib.hid (loosened_any (HW2.out.2.1.below hb) hq (Nat.le_trans (Nat.le_refl _) hb.size) (Nat.le_of_lt HW2.out.2.2) HSZ.out.lay); clear hb hq hm; go_simp)) | (go_at_call 9; (refine HLO.out.mono ?_; rintro _ wl ⟨hA1, hc1, pA1, pc1, vA1, vc1, sA1, sc1, eA1, ec1, bA1, bc1, mA1, mc1, ml1, rfl, hq, hm, hbk, hc⟩; have H2 := Lib.hid (And.intro hq (And.intro hm (And.intro hbk hc))); have HQ0 := Lib.hid (Blk.new wl 45 zeroCells); clear hq hm hbk hc; go_simp)) | (refine wpList_store_row (by rfl) 45 _ _ (by rfl) wl.heap.size (p.lay hA1 hc1 pA1 pc1 vA1 vc1 sA1 sc1 eA1 ec1 bA1 bc1 mA1 mc1).cells (by rfl) (by rfl) 45 zeroCells HQ0.out (by kernel_rfl) rfl (by kernel_rfl) ?_; simp only [Act.put]))
        go_meet
        have hrow := (one_box wl (.cells zeroCells 45)).trans (below_setRow (Nat.le_refl wl.heap.size) (cs := (p.lay hA1 hc1 pA1 pc1 vA1 vc1 sA1 sc1 eA1 ec1 bA1 bc1 mA1 mc1).cells))
        have hch : Chg (fun k => gb ≤ k) w2 wl := (Chg.of_below H1.out.1 _).thenS H2.out.2.2.2.from_ fun i hi hs => hs
        refine ⟨wl.heap.size, rfl, Lib.hid ⟨hA1, hc1, pA1, pc1, vA1, vc1, sA1, sc1, eA1, ec1, bA1, bc1, mA1, mc1, ml1, setRow_heap _ _ _ _ _ _ HQ0.out, H2.out.1.below hrow, H1.out.2.2.trans H2.out.2.1, (H2.out.2.2.1.below hrow).lt, (HW2.out.1.chg hch HGB.out.2 (Nat.le_of_lt HW2.out.2.2)).over hrow, ?_⟩⟩
        have h1 := hch.size
        have h2 := hrow.size
        have h3 := HW2.out.2.2
        exact Nat.lt_of_lt_of_le h3 (Nat.le_trans h1 h2)
    case rest =>
      obtain ⟨gq, rfl, HC⟩ := hcut
      clear HTW
      apply_assumption
      rename World => x3
      obtain ⟨hA, hc, pA, pc, vA, vc, sA, sc, eA, ec, bA, bc, mA, mc, ml, hC⟩ := HC.out
      have H3 := Lib.hid hC
      clear hC HC HE2
      have HXQ : Hid (encX (p.lay hA hc pA pc vA vc sA sc eA ec bA bc mA mc) { D with msgs := ml } = X ∧ codeB (validB (p.lay hA hc pA pc vA vc sA sc eA ec bA bc mA mc) { D with msgs := ml }) = cd) := Lib.hid (by
        obtain ⟨a, b⟩ := encX_lay (hA := hA) (hc := hc) (pA := pA) (pc := pc) (vA := vA) (vc := vc) (sA := sA) (sc := sc) (eA := eA) (ec := ec) (bA := bA) (bc := bc) (mA := mA) (mc := mc) p D H3.out.2.2.1 H3.out.2.1.in_.bodies HBO.out
        exact ⟨a.trans HX.out.1, b.trans HX.out.2⟩)
      have HQ0 : Hid (Blk x3 gq 45 (p.lay hA hc pA pc vA vc sA sc eA ec bA bc mA mc).cells) := Lib.hid (H3.out.1.over (Below.refl _ _))
      have HEN := Lib.hid (Encode_x (H3.out.2.1.in_.over (Below.refl _ _)) HSZ.out.lay.le (HT.out x3 (Below.then H3.out.2.2.2.2.1.bw (Below.refl _ _))) HXQ.out)
      go_upto_region 4 with fail
      go_cut [7, 8] from 20 to 141 (fun v c wc => c = .int .i64 cd ∧ ∃ A n, v = .slice A (X).length n ∧ Hid (OwnIn wc x3.heap.size wc.heap.size (.slice A (X).length n) (X) ∧ Below x3.heap.size x3 wc))
      case first =>
        as_aux_lemma =>
          go_wp2_with (first | (refine wpList_load_on (by rfl) 45 _ (by rfl) gq (by rfl) 45 (p.lay hA hc pA pc vA vc sA sc eA ec bA bc mA mc).cells (0, 0) _ HQ0.out Tryd.underlying45 rfl (by kernel_rfl) ?_; simp only [Act.put, List.setIfInBounds_toArray, List.set_cons_zero, List.set_cons_succ]) | (go_at_call 11; refine HEN.out.mono ?_; rintro _ y1 ⟨v, rfl, ho, hb⟩; obtain ⟨A1, n1, rfl, _, _⟩ := own_shape ho; have H1 := Lib.hid (And.intro ho hb); clear ho hb; go_simp))
          go_meet
          exact ⟨rfl, A1, n1, rfl, Lib.hid ⟨OwnIn.new H1.out.1, H1.out.2⟩⟩
      case rest =>
        obtain ⟨rfl, Ab, nb, rfl, H4⟩ := hcut
        clear HQ0 HEN
        apply_assumption
        rename World => x4
        have HL4 : Hid (Below x3.heap.size x3 x4) := Lib.hid H4.out.2
        have HQ1 : Hid (Blk x4 gq 45 (p.lay hA hc pA pc vA vc sA sc eA ec bA bc mA mc).cells) := Lib.hid (H3.out.1.over (HL4.out))
        have HFW := Lib.hid (few_any x4)
        go_upto_region 5 with fail
        go_cut [9, 10] from 20 to 141 (fun v c wc => c = .int .i64 0 ∧ ∃ A n, v = .slice A (encX (fewPk 0) fewD).length n ∧ Hid (OwnIn wc x4.heap.size wc.heap.size (.slice A (encX (fewPk 0) fewD).length n) (encX (fewPk 0) fewD) ∧ Below x4.heap.size x4 wc))
        case first =>
          as_aux_lemma =>
            go_wp2_with (first | (go_at_call 12; refine HFW.out.mono ?_; rintro _ yf ⟨g, rfl, hi, hb⟩; have HF := Lib.hid hb; have HEN := Lib.hid (Encode_x (X := encX (fewPk 0) fewD) (c := 0) hi (few_le g) (HT.out yf (Below.then (Below.then H3.out.2.2.2.2.1.bw (HL4.out)) hb)) (few_x g)); clear hi hb; go_simp) | (go_at_call 11; refine HEN.out.mono ?_; rintro _ y1 ⟨v, rfl, ho, hb⟩; obtain ⟨A1, n1, rfl, _, _⟩ := own_shape ho; have H1 := Lib.hid (And.intro ho hb); clear ho hb; go_simp))
            go_meet
            exact ⟨rfl, A1, n1, rfl, Lib.hid ⟨OwnIn.new (own_base H1.out.1 HF.out.size), Below.then HF.out H1.out.2⟩⟩
        case rest =>
          obtain ⟨rfl, Ao, no, rfl, H5⟩ := hcut
          clear HQ1 HFW
          apply_assumption
          rename World => x5
          have HL5 : Hid (Below x3.heap.size x3 x5) := Lib.hid (Below.then HL4.out H5.out.2)
          have HQ2 : Hid (Blk x5 gq 45 (p.lay hA hc pA pc vA vc sA sc eA ec bA bc mA mc).cells) := Lib.hid (H3.out.1.over (HL5.out))
          have HEN := Lib.hid (Encode_x (H3.out.2.1.in_.over (HL5.out)) HSZ.out.lay.le (HT.out x5 (Below.then H3.out.2.2.2.2.1.bw (HL5.out))) HXQ.out)
          go_upto_region 6 with fail
          go_cut [11, 12] from 20 to 141 (fun v c wc => c = .int .i64 cd ∧ ∃ A n, v = .slice A (X).length n ∧ Hid (OwnIn wc x5.heap.size wc.heap.size (.slice A (X).length n) (X) ∧ Below x5.heap.size x5 wc))
          case first =>
            as_aux_lemma =>
              go_wp2_with (first | (refine wpList_load_on (by rfl) 45 _ (by rfl) gq (by rfl) 45 (p.lay hA hc pA pc vA vc sA sc eA ec bA bc mA mc).cells (0, 0) _ HQ2.out Tryd.underlying45 rfl (by kernel_rfl) ?_; simp only [Act.put, List.setIfInBounds_toArray, List.set_cons_zero, List.set_cons_succ]) | (go_at_call 11; refine HEN.out.mono ?_; rintro _ y1 ⟨v, rfl, ho, hb⟩; obtain ⟨A1, n1, rfl, _, _⟩ := own_shape ho; have H1 := Lib.hid (And.intro ho hb); clear ho hb; go_simp))
              go_meet
              exact ⟨rfl, A1, n1, rfl, Lib.hid ⟨OwnIn.new H1.out.1, H1.out.2⟩⟩
          case rest =>
            obtain ⟨rfl, Aa, na, rfl, H6⟩ := hcut
            clear HQ2 HEN
            apply_assumption
            rename World => x6
            have HL6 : Hid (Below x3.heap.size x3 x6) := Lib.hid (Below.then HL5.out H6.out.2)
            obtain ⟨Xf, hXf⟩ : ∃ x, x = encX (fewPk 0) fewD := ⟨_, rfl⟩
            have HXF : Hid (Xf.length ≤ 100010) := Lib.hid (by rw [hXf]; decide)
            rw [← hXf] at H5
            rw [← hXf]
            clear hXf
            have HW6 : Hid (WeSt w x6 p gb (.slice Aw X.length nw) X) := Lib.hid (H3.out.2.2.2.2.1.over HL6.out)
            have HQ6 : Hid (Blk x6 gq 45 (p.lay hA hc pA pc vA vc sA sc eA ec bA bc mA mc).cells) := Lib.hid (H3.out.1.over HL6.out)
            have HB6 : Hid (Bk x6 gb (fun k => k < x3.heap.size)) := Lib.hid (H3.out.2.2.2.1.below HL6.out)
            have Hb : Hid (OwnIn x6 x3.heap.size x4.heap.size (.slice Ab X.length nb) X) := Lib.hid ((H4.out.1.over H5.out.2).over H6.out.2)
            have Ho : Hid (OwnIn x6 x4.heap.size x5.heap.size (.slice Ao Xf.length no) Xf) := Lib.hid (H5.out.1.over H6.out.2)
            have Ha : Hid (OwnIn x6 x5.heap.size x6.heap.size (.slice Aa X.length na) X) := Lib.hid H6.out.1
            have HS : Hid (gb < x3.heap.size ∧ x3.heap.size ≤ x4.heap.size ∧ x4.heap.size ≤ x5.heap.size ∧ x5.heap.size ≤ x6.heap.size) := Lib.hid ⟨H3.out.2.2.2.2.2, H4.out.2.size, H5.out.2.size, H6.out.2.size⟩
            have HSP := Lib.hid (fun W (hW : Below x6.heap.size x6 W) => SamePacket_yes (hA := hA) (hc := hc) (pA := pA) (pc := pc) (vA := vA) (vc := vc) (sA := sA) (sc := sc) (eA := eA) (ec := ec) (bA := bA) (bc := bc) (mA := mA) (mc := mc) p D ml W (HIN.out W (Below.then HW6.out.bw hW)) (H3.out.2.1.in_.over (Below.then HL6.out hW)) H3.out.2.2.1 HSZ.out.le)
            clear H3 H4 H5 H6 HL4 HL5 HL6 HXQ HW2
            go_upto_region 7 with fail
            go_cut [83] from 20 to 141 (fun c wc => c = .bool false ∧ Hid (Below x6.heap.size x6 wc))
            case first =>
              as_aux_lemma =>
                go_wp2_with (first | (go_at_call 13; refine (num_any _ _ (by first | exact HCB.out.1 | decide) (by first | exact HCB.out.2 | decide)).mono ?_; rintro _ _ ⟨rfl, rfl⟩; go_simp) | (go_at_call 14; refine (SameBytes_b _ _ _ _ _ _ _ _ X _ ((Ha.out.over HY1.out).rd) ((HW6.out.wa.over HY1.out).rd) (by have := HXL.out; omega)).mono ?_; rintro _ y2 ⟨rfl, hb⟩; have HY2 := Lib.hid (Below.then HY1.out hb); clear hb; go_simp) | (go_at_call 14; refine (SameBytes_b _ _ _ _ _ _ _ _ X _ (Hb.out.rd) (HW6.out.wa.rd) (by have := HXL.out; omega)).mono ?_; rintro _ y1 ⟨rfl, hb⟩; have HY1 := Lib.hid hb; clear hb; go_simp) | (refine wpList_load_on (by rfl) 45 _ (by rfl) w.heap.size (by rfl) 45 p.cells (0, 0) _ (HW6.out.P.over HY2.out) Tryd.underlying45 rfl (by kernel_rfl) ?_; simp only [Act.put, List.setIfInBounds_toArray, List.set_cons_zero, List.set_cons_succ]) | (refine wpList_load_on (by rfl) 45 _ (by rfl) gq (by rfl) 45 (p.lay hA hc pA pc vA vc sA sc eA ec bA bc mA mc).cells (0, 0) _ (HQ6.out.over HY2.out) Tryd.underlying45 rfl (by kernel_rfl) ?_; simp only [Act.put, List.setIfInBounds_toArray, List.set_cons_zero, List.set_cons_succ]) | (go_at_call 15; refine (HSP.out y2 HY2.out).mono ?_; rintro _ y3 ⟨rfl, hb⟩; have HY3 := Lib.hid (Below.then HY2.out hb); clear hb; go_simp) | (go_at_call 16; refine (Intact_bk (HB6.out.below HY3.out)).mono ?_; rintro _ y4 ⟨rfl, hb⟩; have HY4 := Lib.hid (Below.then HY3.out hb); clear hb; go_simp))
                go_meet
                exact ⟨rfl, HY4⟩
            case rest =>
              obtain ⟨rfl, HC7⟩ := hcut
              apply_assumption
              rename World => x7
              have HW7 : Hid (WeSt w x7 p gb (.slice Aw X.length nw) X) := Lib.hid (HW6.out.over HC7.out)
              have HB7 : Hid (Bk x7 gb (fun k => k < x3.heap.size)) := Lib.hid (HB6.out.below HC7.out)
              have Hb7 : Hid (OwnIn x7 x3.heap.size x4.heap.size (.slice Ab X.length nb) X) := Lib.hid (Hb.out.over HC7.out)
              have Ho7 : Hid (OwnIn x7 x4.heap.size x5.heap.size (.slice Ao Xf.length no) Xf) := Lib.hid (Ho.out.over HC7.out)
              have Ha7 : Hid (OwnIn x7 x5.heap.size x6.heap.size (.slice Aa X.length na) X) := Lib.hid (Ha.out.over HC7.out)
              have HZ7 : Hid (x6.heap.size ≤ x7.heap.size) := Lib.hid HC7.out.size
              have HKB := Lib.hid (Keep_bk HB7.out (own_base Hb7.out.1 (Nat.zero_le _)) (fun g hg => by have h1 := (Hb7.out.2 g hg).1; have h2 := HS.out; omega) (by have := HXL.out; omega) (fun g hg h => by have h1 := (Hb7.out.2 g hg).1; omega))
              clear HW6 HQ6 HB6 Hb Ho Ha HSP
              go_upto_region 9 with fail
              go_cut [] from 84 to 141 (fun wc => Hid (KeptP gb (fun k => k < x3.heap.size) (.slice Ab X.length nb) bkTs x7 (.returned (.tuple #[])) wc))
              case first =>
                as_aux_lemma =>
                  go_wp2_with (go_at_call 17; refine HKB.out.mono ?_; rintro _ y1 ⟨rfl, hk⟩; have H1 := Lib.hid hk; clear hk; go_simp)
                  go_meet
                  exact Lib.hid ⟨rfl, H1.out⟩
              case rest =>
                have HK8 := hcut
                clear hcut HKB
                apply_assumption
                rename World => x8
                have Ho8 : Hid (OwnIn x8 x4.heap.size x5.heap.size (.slice Ao Xf.length no) Xf) := Lib.hid (Ho7.out.cht HK8.out.2.2 (by decide))
                have Ha8 : Hid (OwnIn x8 x5.heap.size x6.heap.size (.slice Aa X.length na) X) := Lib.hid (Ha7.out.cht HK8.out.2.2 (by decide))
                have HWB := Lib.hid (Write_bk HK8.out.2.1 (own_base Ha8.out.1 (Nat.zero_le _)) (fun g hg => by have h1 := (Ha8.out.2 g hg).1; have h2 := HS.out; omega) (by have := HXL.out; omega) (fun g hg h => by have h1 := Ha8.out.2 g hg; have h2 := HS.out; have h3 := HZ7.out; rcases h with h | h | h; (· omega); (· have h4 := (Hb7.out.2 g h).2; omega); (· omega)))
                have HW8 : Hid (WeSt w x8 p gb (.slice Aw X.length nw) X ∧ x7.heap.size ≤ x8.heap.size) := Lib.hid ⟨HW7.out.chg HK8.out.2.2.from_ HGB.out.2 (by have := HS.out; have := HZ7.out; omega), HK8.out.2.2.size⟩
                go_upto_region 10 with fail
                go_cut [] from 87 to 141 (fun wc => Hid (Bk wc gb (fun g => ((fun k => k < x3.heap.size) g ∨ (Value.slice Ab X.length nb).ownBlock = some g ∨ x7.heap.size ≤ g) ∨ (Value.slice Aa X.length na).ownBlock = some g ∨ x8.heap.size ≤ g) ∧ Chg (fun k => (gb ≤ k ∧ ∃ t, t ∈ bkTs ∧ IsT x8 t k) ∨ (Value.slice Aa X.length na).ownBlock = some k) x8 wc))
                case first =>
                  as_aux_lemma =>
                    go_wp2_with (go_at_call 18; refine HWB.out.mono ?_; rintro _ y1 ⟨rfl, hk⟩; have H1 := Lib.hid hk; clear hk; go_simp)
                    go_meet
                    exact H1
                case rest =>
                  have HK9 := hcut
                  clear hcut HWB
                  apply_assumption
                  rename World => x9
                  have HC9 : Hid (Chg (fun k => gb ≤ k) x8 x9) := Lib.hid (HK9.out.2.mono fun k _ hk => by
                    rcases hk with hk | hk
                    · exact hk.1
                    · have h1 := (Ha8.out.2 k hk).1; have h2 := HS.out; omega)
                  have Ho9 : Hid (OwnIn x9 x4.heap.size x5.heap.size (.slice Ao Xf.length no) Xf) := Lib.hid (Ho8.out.chg HK9.out.2 fun g hg hk => by
                    rcases hk with ⟨_, t, ht, hk⟩ | hk
                    · have h1 := own_isT Ho8.out.1 hg
                      have h2 := h1.eq_ hk
                      subst h2
                      exact absurd ht (by decide)
                    · have h1 := (Ha8.out.2 g hk).1; have h2 := (Ho8.out.2 g hg).2; omega)
                  have HW9 : Hid (WeSt w x9 p gb (.slice Aw X.length nw) X ∧ x7.heap.size ≤ x9.heap.size) := Lib.hid ⟨HW8.out.1.chg HC9.out HGB.out.2 (by have := HS.out; have := HZ7.out; have := HW8.out.2; omega), Nat.le_trans HW8.out.2 HC9.out.size⟩
                  have HKO := Lib.hid (Keep_bk HK9.out.1 (own_base Ho9.out.1 (Nat.zero_le _)) (fun g hg => by have h1 := (Ho9.out.2 g hg).1; have h2 := HS.out; omega) (by have := HXF.out; omega) (fun g hg h => by have h1 := Ho9.out.2 g hg; have h2 := HS.out; have h3 := HZ7.out; have h5 := HW8.out.2; rcases h with (h | h | h) | h | h; (· omega); (· have h4 := (Hb7.out.2 g h).2; omega); (· omega); (· have h4 := (Ha8.out.2 g h).1; omega); (· omega)))
                  go_upto_region 11 with fail
                  go_cut [] from 90 to 141 (fun wc => Hid (Bk wc gb (fun _ => True) ∧ ChT bkTs gb x9 wc))
                  case first =>
                    as_aux_lemma =>
                      go_wp2_with (go_at_call 17; refine HKO.out.mono ?_; rintro _ y1 ⟨rfl, hk, hc⟩; have H1 := Lib.hid (And.intro (hk.mono fun _ _ _ => trivial) hc); clear hk hc; go_simp)
                      go_meet
                      exact H1
                  case rest =>
                    have HK10 := hcut
                    clear hcut HKO
                    apply_assumption
                    rename World => x10
                    have HW10 : Hid (WeSt w x10 p gb (.slice Aw X.length nw) X ∧ gb ≤ x10.heap.size) := Lib.hid (by
                      have h2 := HS.out
                      have h3 := HZ7.out
                      have h4 := HW9.out.2
                      have h5 := HK10.out.2.size
                      exact ⟨HW9.out.1.chg HK10.out.2.from_ HGB.out.2 (by omega), by omega⟩)
                    have HSE := Lib.hid (Settle_bk HK10.out.1)
                    clear HK8 HK9 HW7 HW8 HW9 HB7 Hb7 Ho7 Ha7 Ho8 Ha8 Ho9 HC9 HS HZ7
                    go_upto_region 12 with fail
                    go_cut [95] from 93 to 141 (fun c wc => c = .bool false ∧ Hid (WeSt w wc p gb (.slice Aw X.length nw) X ∧ Bk wc gb (fun _ => True)))
                    case first =>
                      as_aux_lemma =>
                        go_wp2_with (go_at_call 19; refine HSE.out.mono ?_; rintro _ y1 ⟨rfl, hc, hk⟩; have H1 := Lib.hid (And.intro hc hk); clear hk hc; go_simp)
                        go_meet
                        exact ⟨rfl, Lib.hid ⟨HW10.out.1.chg H1.out.1 HGB.out.2 HW10.out.2, H1.out.2⟩⟩
                    case rest =>
                      obtain ⟨rfl, H11⟩ := hcut
                      clear HSE HK10 HW10
                      apply_assumption
                      rename World => x11
                      have HTW := Lib.hid (TwinO_any p D x11 (HIN.out x11 H11.out.1.bw) HSZ.out)
                      go_upto_region 14 with fail
                      go_cut [13, 14] from 97 to 141 (fun v c wc => c = .int .i64 cd ∧ ∃ A n, v = .slice A X.length n ∧ Hid (OwnIn wc x11.heap.size wc.heap.size (.slice A X.length n) X ∧ Below x11.heap.size x11 wc))
                      case first =>
                        as_aux_lemma =>
                          go_wp2_with (first | (refine wpList_load_on (by rfl) 45 _ (by rfl) w.heap.size (by rfl) 45 p.cells (0, 0) _ H11.out.1.P Tryd.underlying45 rfl (by kernel_rfl) ?_; simp only [Act.put, List.setIfInBounds_toArray, List.set_cons_zero, List.set_cons_succ]) | (go_at_call 10; (refine HTW.out.mono ?_; rintro _ wt ⟨hA, hc, pA, pc, vA, vc, sA, sc, eA, ec, bA, bc, mA, mc, ml, rfl, hb, hq, hm⟩; have HXT : Hid (encX (p.lay hA hc pA pc vA vc sA sc eA ec bA bc mA mc) { D with msgs := ml } = X ∧ codeB (validB (p.lay hA hc pA pc vA vc sA sc eA ec bA bc mA mc) { D with msgs := ml }) = cd) := Lib.hid (by (obtain ⟨a, b⟩ := encX_lay (hA := hA) (hc := hc) (pA := pA) (pc := pc) (vA := vA) (vc := vc) (sA := sA) (sc := sc) (eA := eA) (ec := ec) (bA := bA) (bc := bc) (mA := mA) (mc := mc) p D hm hq.in_.bodies HBO.out); exact ⟨a.trans HX.out.1, b.trans HX.out.2⟩); have HEN := Lib.hid (Encode_x hq.in_ HSZ.out.lay.le (HT.out wt (Below.then H11.out.1.bw hb)) HXT.out); have HbT := Lib.hid hb; clear hb hq hm; go_simp)) | (go_at_call 11; refine HEN.out.mono ?_; rintro _ y1 ⟨v, rfl, ho, hb⟩; obtain ⟨A1, n1, rfl, _, _⟩ := own_shape ho; have H1 := Lib.hid (And.intro ho hb); clear ho hb; go_simp))
                          go_meet
                          exact ⟨rfl, A1, n1, rfl, Lib.hid ⟨OwnIn.new (own_base H1.out.1 HbT.out.size), Below.then HbT.out H1.out.2⟩⟩
                      case rest =>
                        obtain ⟨rfl, Al, nl, rfl, H12⟩ := hcut
                        clear HTW
                        apply_assumption
                        rename World => x12
                        have HW12 : Hid (WeSt w x12 p gb (.slice Aw X.length nw) X ∧ Bk x12 gb (fun _ => True)) := Lib.hid ⟨H11.out.1.over H12.out.2, H11.out.2.below H12.out.2⟩
                        go_upto_region 15 with fail
                        go_cut [116] from 102 to 141 (fun c wc => c = .bool false ∧ Hid (Below x12.heap.size x12 wc))
                        case first =>
                          as_aux_lemma =>
                            go_wp2_with (first | (go_at_call 13; refine (num_any _ _ (by first | exact HCB.out.1 | decide) (by first | exact HCB.out.2 | decide)).mono ?_; rintro _ _ ⟨rfl, rfl⟩; go_simp) | (go_at_call 14; refine (SameBytes_b _ _ _ _ _ _ _ _ X _ (H12.out.1.rd) (HW12.out.1.wa.rd) (by have := HXL.out; omega)).mono ?_; rintro _ y1 ⟨rfl, hb⟩; have HY1 := Lib.hid hb; clear hb; go_simp) | (go_at_call 16; refine (Intact_bk (HW12.out.2.below HY1.out)).mono ?_; rintro _ y2 ⟨rfl, hb⟩; have HY2 := Lib.hid (Below.then HY1.out hb); clear hb; go_simp))
                            go_meet
                            exact ⟨rfl, HY2⟩
                        case rest =>
                          obtain ⟨rfl, HC13⟩ := hcut
                          apply_assumption
                          rename World => x13
                          have HW13 : Hid (Blk x13 w.heap.size 45 p.cells ∧ Below w.heap.size w x13) := Lib.hid ⟨HW12.out.1.P.over HC13.out, Below.then HW12.out.1.bw HC13.out⟩
                          clear HW12 HC13 H12 H11
                          have HTW := Lib.hid (TwinO_any p D x13 (HIN.out x13 HW13.out.2) HSZ.out)
                          go_upto_region 17 with fail
                          go_cut [15] from 117 to 141 (fun v wc => ∃ (g : Nat), v = .pointer (some ⟨g, 0, none⟩) ∧ Hid (∃ (hA : Option Addr) (hc : Nat) (pA : Option Addr) (pc : Nat) (vA : Option Addr) (vc : Nat) (sA : Option Addr) (sc : Nat) (eA : Option Addr) (ec : Nat) (bA : Option Addr) (bc : Nat) (mA : Option Addr) (mc : Nat) (ml : List Msg), Blk wc g 45 (p.lay hA hc pA pc vA vc sA sc eA ec bA bc mA mc).cells ∧ PkOwn wc x13.heap.size (p.lay hA hc pA pc vA vc sA sc eA ec bA bc mA mc) { D with msgs := ml } ∧ Below x13.heap.size x13 wc))
                          case first =>
                            as_aux_lemma =>
                              go_wp2_with (first | (refine wpList_load_on (by rfl) 45 _ (by rfl) w.heap.size (by rfl) 45 p.cells (0, 0) _ HW13.out.1 Tryd.underlying45 rfl (by kernel_rfl) ?_; simp only [Act.put, List.setIfInBounds_toArray, List.set_cons_zero, List.set_cons_succ]) | (go_at_call 10; (refine HTW.out.mono ?_; rintro _ wt ⟨hA, hc, pA, pc, vA, vc, sA, sc, eA, ec, bA, bc, mA, mc, ml, rfl, hb, hq, hm⟩; have H1 := Lib.hid (And.intro hb hq); have HQ0 := Lib.hid (Blk.new wt 45 zeroCells); clear hb hq hm; go_simp)) | (refine wpList_store_row (by rfl) 45 _ _ (by rfl) wt.heap.size (p.lay hA hc pA pc vA vc sA sc eA ec bA bc mA mc).cells (by rfl) (by rfl) 45 zeroCells HQ0.out (by kernel_rfl) rfl (by kernel_rfl) ?_; simp only [Act.put]))
                              go_meet
                              have hrow := (one_box wt (.cells zeroCells 45)).trans (below_setRow (Nat.le_refl wt.heap.size) (cs := (p.lay hA hc pA pc vA vc sA sc eA ec bA bc mA mc).cells))
                              exact ⟨wt.heap.size, rfl, Lib.hid ⟨hA, hc, pA, pc, vA, vc, sA, sc, eA, ec, bA, bc, mA, mc, ml, setRow_heap _ _ _ _ _ _ HQ0.out, H1.out.2.below hrow, Below.then H1.out.1 hrow⟩⟩
                          case rest =>
                            obtain ⟨gt, rfl, HC⟩ := hcut
                            clear HTW
                            apply_assumption
                            rename World => x14
                            obtain ⟨hA, hc, pA, pc, vA, vc, sA, sc, eA, ec, bA, bc, mA, mc, ml, hC⟩ := HC.out
                            have H14 := Lib.hid hC
                            clear hC HC
                            obtain ⟨q, hq⟩ : ∃ q, q = (p.lay hA hc pA pc vA vc sA sc eA ec bA bc mA mc) := ⟨_, rfl⟩
                            obtain ⟨Dq, hDq⟩ : ∃ d : PkD, d = { D with msgs := ml } := ⟨_, rfl⟩
                            have HQZ : Hid (PkSz q) := Lib.hid (by rw [hq]; exact HSZ.out.lay)
                            rw [← hq, ← hDq] at H14
                            clear hq hDq
                            have HB14 : Hid (Below w.heap.size w x14) := Lib.hid (Below.then HW13.out.2 H14.out.2.2)
                            have HEN := Lib.hid (Encode_x H14.out.2.1.in_ HQZ.out.le (HT.out x14 HB14.out) ⟨rfl, rfl⟩)
                            go_upto_region 18 with fail
                            go_cut [] from 119 to 141 (fun wc => Hid (Below x14.heap.size x14 wc))
                            case first =>
                              as_aux_lemma =>
                                go_wp2_with (first | (refine wpList_load_on (by rfl) 45 _ (by rfl) gt (by rfl) 45 q.cells (0, 0) _ H14.out.1 Tryd.underlying45 rfl (by kernel_rfl) ?_; simp only [Act.put, List.setIfInBounds_toArray, List.set_cons_zero, List.set_cons_succ]) | (go_at_call 11; refine HEN.out.mono ?_; rintro _ y1 ⟨v, rfl, ho, hb⟩; have H1 := Lib.hid hb; clear ho hb; go_simp))
                                go_meet
                                exact H1
                            case rest =>
                              have HC15 := hcut
                              clear hcut HEN
                              apply_assumption
                              rename World => x15
                              have HQ15 : Hid (Blk x15 gt 45 q.cells) := Lib.hid (H14.out.1.over HC15.out)
                              have HB15 : Hid (Below w.heap.size w x15 ∧ x13.heap.size ≤ x15.heap.size) := Lib.hid ⟨Below.then HB14.out HC15.out, Nat.le_trans H14.out.2.2.size HC15.out.size⟩
                              have HCH := Lib.hid (changed_any (H14.out.2.1.below HC15.out) HQZ.out)
                              go_upto_region 19 with fail
                              go_cut [] from 121 to 141 (fun wc => Hid (Blk wc gt 45 q.cells ∧ (∃ D2, PkOwn wc x13.heap.size q D2) ∧ Below w.heap.size w wc))
                              case first =>
                                as_aux_lemma =>
                                  go_wp2_with (first | (refine wpList_load_on (by rfl) 45 _ (by rfl) gt (by rfl) 45 q.cells (0, 0) _ HQ15.out Tryd.underlying45 rfl (by kernel_rfl) ?_; simp only [Act.put, List.setIfInBounds_toArray, List.set_cons_zero, List.set_cons_succ]) | (go_at_call 20; refine HCH.out.mono ?_; rintro _ y1 ⟨rfl, hq, hb⟩; have H1 := Lib.hid (And.intro hq hb); clear hq hb; go_simp))
                                  go_meet
                                  exact Lib.hid ⟨HQ15.out.cht H1.out.2 (.inl (by decide)), H1.out.1, HB15.out.1.trans ((H1.out.2.below HB15.out.2).mono HW13.out.2.size)⟩
                              case rest =>
                                have HC16 := hcut
                                clear hcut HCH
                                apply_assumption
                                rename World => x16
                                obtain ⟨D2, hD2⟩ := HC16.out.2.1
                                have HD2 := Lib.hid hD2
                                clear hD2
                                obtain ⟨Y, hY⟩ : ∃ X, X = encX q D2 := ⟨_, rfl⟩
                                have hcb := codeB_bd (validB q D2)
                                obtain ⟨ce, hce⟩ : ∃ c, c = codeB (validB q D2) := ⟨_, rfl⟩
                                rw [← hce] at hcb
                                have HYL : Hid (Y.length ≤ 100010) := Lib.hid (by rw [hY]; exact encX_le HD2.out.in_)
                                have HY := Lib.hid (And.intro hY.symm hce.symm)
                                have HCE := Lib.hid hcb
                                clear hY hce hcb
                                have HEN := Lib.hid (Encode_x HD2.out.in_ HQZ.out.le (HT.out x16 HC16.out.2.2) HY.out)
                                go_upto_region 20 with fail
                                go_cut [16, 17] from 123 to 141 (fun v c wc => c = .int .i64 ce ∧ ∃ A n, v = .slice A Y.length n ∧ Hid (OwnIn wc x16.heap.size wc.heap.size (.slice A Y.length n) Y ∧ Below x16.heap.size x16 wc))
                                case first =>
                                  as_aux_lemma =>
                                    go_wp2_with (first | (refine wpList_load_on (by rfl) 45 _ (by rfl) gt (by rfl) 45 q.cells (0, 0) _ HC16.out.1 Tryd.underlying45 rfl (by kernel_rfl) ?_; simp only [Act.put, List.setIfInBounds_toArray, List.set_cons_zero, List.set_cons_succ]) | (go_at_call 11; refine HEN.out.mono ?_; rintro _ y1 ⟨v, rfl, ho, hb⟩; obtain ⟨A1, n1, rfl, _, _⟩ := own_shape ho; have H1 := Lib.hid (And.intro ho hb); clear ho hb; go_simp))
                                    go_meet
                                    exact ⟨rfl, A1, n1, rfl, Lib.hid ⟨OwnIn.new H1.out.1, H1.out.2⟩⟩
                                case rest =>
                                  obtain ⟨rfl, An, nn, rfl, H17⟩ := hcut
                                  clear HEN
                                  apply_assumption
                                  rename World => x17
                                  have HQ17 : Hid (Blk x17 gt 45 q.cells) := Lib.hid (HC16.out.1.over H17.out.2)
                                  have HEN := Lib.hid (REncode_x ((HD2.out.below H17.out.2).in_) HQZ.out.le HY.out)
                                  go_upto_region 21 with fail
                                  go_cut [18, 19] from 128 to 141 (fun v c wc => c = .int .i64 ce ∧ ∃ A n, v = .slice A Y.length n ∧ Hid (OwnIn wc x17.heap.size wc.heap.size (.slice A Y.length n) Y ∧ Below x17.heap.size x17 wc))
                                  case first =>
                                    as_aux_lemma =>
                                      go_wp2_with (first | (refine wpList_load_on (by rfl) 45 _ (by rfl) gt (by rfl) 45 q.cells (0, 0) _ HQ17.out Tryd.underlying45 rfl (by kernel_rfl) ?_; simp only [Act.put, List.setIfInBounds_toArray, List.set_cons_zero, List.set_cons_succ]) | (go_at_call 8; refine HEN.out.mono ?_; rintro _ y1 ⟨v, rfl, ho, hb⟩; obtain ⟨A1, n1, rfl, _, _⟩ := own_shape ho; have H1 := Lib.hid (And.intro ho hb); clear ho hb; go_simp))
                                      go_meet
                                      exact ⟨rfl, A1, n1, rfl, Lib.hid ⟨OwnIn.new H1.out.1, H1.out.2⟩⟩
                                  case rest =>
                                    obtain ⟨rfl, At, nt, rfl, H18⟩ := hcut
                                    clear HEN
                                    apply_assumption
                                    rename World => x18
                                    have HB18 : Hid (Below w.heap.size w x18) := Lib.hid (Below.then (Below.then HC16.out.2.2 H17.out.2) H18.out.2)
                                    have HN18 := Lib.hid (H17.out.1.over H18.out.2)
                                    go_wp2_with (first | (go_at_call 13; refine (num_any _ _ (by first | exact HCE.out.1 | decide) (by first | exact HCE.out.2 | decide)).mono ?_; rintro _ _ ⟨rfl, rfl⟩; go_simp) | (go_at_call 14; refine (SameBytes_b _ _ _ _ _ _ _ _ Y _ (HN18.out.rd) (H18.out.1.rd) (by have := HYL.out; omega)).mono ?_; rintro _ y1 ⟨rfl, hb⟩; have HY1 := Lib.hid hb; clear hb; go_simp))
                                    go_ret
                                    exact ⟨rfl, Below.then HB18.out HY1.out⟩
end Go.Proofs.YtffcepaegcllmaaDoor
