/-
  WireChecks: the program's Check and the reference's answer alike of every packet; the twin stays as the packet is.
-/
import Derived.Test.YtffcepaegcllmaaPackT
import Derived.Test.YtffcepaegcllmaaPackR
import Derived.Test.YtffcepaegcllmaaTurn
import Derived.Deep.RegionHeld3
import Derived.Deep.MidRow
namespace Go.Proofs.Ytffcepaegcllmaa
open Go.RowKit
def Msg.kk (m : Msg) : Int × Int × Int × Nat := (m.s, m.q, m.t, m.n)
theorem kk_of_key {ml ml' : List Msg} (h : ml.map Msg.key = ml'.map Msg.key) (h1 : ∀ m ∈ ml, m.body.length = m.n) (h2 : ∀ m ∈ ml', m.body.length = m.n) : ml.map Msg.kk = ml'.map Msg.kk := by
  have e : ∀ l : List Msg, (∀ m ∈ l, m.body.length = m.n) → l.map Msg.kk = (l.map Msg.key).map (fun x => (x.1, x.2.1, x.2.2.1, x.2.2.2.length)) := fun l hl => by
    rw [List.map_map]
    exact List.map_congr_left (fun m hm => by simp [Msg.kk, Msg.key, hl m hm])
  rw [e ml h1, e ml' h2, h]
theorem step_alike {ml ml' : List Msg} (h : ml.map Msg.kk = ml'.map Msg.kk) (k : Nat) : stepB ml k = stepB ml' k := by
  have hk : ∀ i : Nat, (ml[i]?).map Msg.kk = (ml'[i]?).map Msg.kk := fun i => by rw [← List.getElem?_map, h, List.getElem?_map]
  have hb : ∀ {a b x y : Msg}, a.kk = b.kk → x.kk = y.kk → msgB a = msgB b ∧ beforeB x a = beforeB y b := fun ha hx => by
    simp only [Msg.kk, Prod.mk.injEq] at ha hx
    obtain ⟨a1, a2, a3, a4⟩ := ha
    obtain ⟨x1, x2, x3, x4⟩ := hx
    unfold msgB beforeB
    rw [a1, a2, a3, a4, x1, x2]
    exact ⟨rfl, rfl⟩
  unfold stepB
  have h1 := hk k
  cases ha : ml[k]? with
  | none =>
    rw [ha] at h1
    cases hb' : ml'[k]? with
    | none => rfl
    | some b => rw [hb'] at h1; cases h1
  | some a =>
    rw [ha] at h1
    cases hb' : ml'[k]? with
    | none => rw [hb'] at h1; cases h1
    | some b =>
      rw [hb'] at h1
      have hab : a.kk = b.kk := Option.some.inj h1
      dsimp only
      rw [(hb hab hab).1]
      congr 1
      by_cases hz : k = 0
      · rw [if_pos hz, if_pos hz]
      · rw [if_neg hz, if_neg hz]
        have h2 := hk (k - 1)
        cases hx : ml[k - 1]? with
        | none =>
          rw [hx] at h2
          cases hy : ml'[k - 1]? with
          | none => rfl
          | some y => rw [hy] at h2; cases h2
        | some x =>
          rw [hx] at h2
          cases hy : ml'[k - 1]? with
          | none => rw [hy] at h2; cases h2
          | some y =>
            rw [hy] at h2
            exact (hb hab (Option.some.inj h2)).2
theorem forward_alike {ml ml' : List Msg} (h : ml.map Msg.kk = ml'.map Msg.kk) (e l i c : Int) : forwardB e l i c ml = forwardB e l i c ml' := by
  have hl : ml.length = ml'.length := by rw [← List.length_map (f := Msg.kk), h, List.length_map]
  have hr : ∀ n, risK ml n = risK ml' n := fun n => by
    induction n with
    | zero => rfl
    | succ n ih => unfold risK; rw [ih, step_alike h n]
  unfold forwardB rises
  rw [hl, hr]
theorem valid_lay (p : Pk) {hA : Option Addr} {hc : Nat} {pA : Option Addr} {pc : Nat} {vA : Option Addr} {vc : Nat} {sA : Option Addr} {sc : Nat} {eA : Option Addr} {ec : Nat} {bA : Option Addr} {bc : Nat} {mA : Option Addr} {mc : Nat} (D : PkD) {ml : List Msg} (h : ml.map Msg.kk = D.msgs.map Msg.kk) : validB (p.lay hA hc pA pc vA vc sA sc eA ec bA bc mA mc) { D with msgs := ml } = validB p D := by
  have hk : kindB (p.lay hA hc pA pc vA vc sA sc eA ec bA bc mA mc) { D with msgs := ml } = kindB p D := by
    unfold kindB
    dsimp only [Pk.lay]
    rw [forward_alike h]
  unfold validB
  rw [hk]
  rfl
theorem PkIn.bodies {w : World} {B : Nat} {p : Pk} {D : PkD} (h : PkIn w B p D) : ∀ m ∈ D.msgs, m.body.length = m.n := fun m hm => (h.rm.2.1 m hm).rd.lenB
theorem codeB_bd (b : Bool) : -9223372036854775808 ≤ codeB b ∧ codeB b ≤ 9223372036854775807 := by cases b <;> decide
theorem blk_range {w : World} {g : Nat} {t : TypeId} {cs : Array Value} (h : Blk w g t cs) : w.rangeAt g 0 cs.toList := fun j v hv => by
  rw [Nat.zero_add, h.cell, ← Array.getElem?_toList]
  exact hv
theorem yields_load {P : Program} {ops : Array Oper} {S : World → Prop} {op : Oper} {a : Act} (hw : Region.wanted op (yielded ops a.tmps) = true) (ty : TypeId) (x : Operand) (ho : op.op = .load ty x)
    (g : Nat) (hx : a.eval x = .pointer (some ⟨g, 0, none⟩)) (cs : Array Value) (d : TypeDesc) {t : TypeId} (hS : ∀ w, S w → Blk w g t cs) (hu : P.underlying ty = some d) (hd : d.isRow = true) (hi : (P.info? ty).map (·.size) = some cs.size) : YieldsIf P ops S op (.agg cs) a := by
  have h := yieldsIf_load_mid (ops := ops) hw ty x ho g 0 hx cs.toList d (fun w hw' => blk_range (hS w hw')) hu hd (by rw [Array.length_toList]; exact hi)
  rw [Array.toArray_toList] at h
  exact h
set_option maxRecDepth 100000 in
set_option maxHeartbeats 6400000 in
theorem WireChecks_go (p : Pk) (D : PkD) (w : World) (hin : PkIn w w.heap.size p D) (hsz : PkSz p) :
    Calls Try.prog 4 #[.agg p.cells] w fun e w' => e = .returned (.bool true) ∧ Below w.heap.size w w' := by
  have HIN : Hid (∀ W, Below w.heap.size w W → PkIn W W.heap.size p D) := Lib.hid fun W hW => hin.over hW
  have HSZ := Lib.hid hsz
  have HBO := Lib.hid hin.bodies
  clear hin hsz
  go_enter Try.func4, Try.ntmps4
  go_upto_region 1 with fail
  obtain ⟨w0, hw0⟩ : ∃ x, x = w.alloc (.cells p.cells 68) := ⟨_, rfl⟩
  rw [← hw0]
  have HB : Hid (Blk w0 w.heap.size 68 p.cells) := Lib.hid (by rw [hw0]; exact Blk.new _ _ _)
  have HBW : Hid (Below w.heap.size w w0) := Lib.hid (by rw [hw0]; exact one_box _ _)
  clear hw0
  have HTW := Lib.hid (Twin_any p D w0 (HIN.out w0 HBW.out) HSZ.out)
  go_cut [3] from 5 to 18 (fun v wc => ∃ (g : Nat), v = .pointer (some ⟨g, 0, none⟩) ∧ Hid (∃ (hA : Option Addr) (hc : Nat) (pA : Option Addr) (pc : Nat) (vA : Option Addr) (vc : Nat) (sA : Option Addr) (sc : Nat) (eA : Option Addr) (ec : Nat) (bA : Option Addr) (bc : Nat) (mA : Option Addr) (mc : Nat) (ml : List Msg), Blk wc w.heap.size 68 p.cells ∧ Blk wc g 68 (p.lay hA hc pA pc vA vc sA sc eA ec bA bc mA mc).cells ∧ Below w.heap.size w wc ∧ PkIn wc wc.heap.size (p.lay hA hc pA pc vA vc sA sc eA ec bA bc mA mc) { D with msgs := ml } ∧ D.msgs.map Msg.key = ml.map Msg.key))
  case first =>
    as_aux_lemma =>
      go_wp2_with (first | (refine wpList_load_on (by rfl) 68 _ (by rfl) w.heap.size (by rfl) 68 p.cells (0, 0) _ HB.out Try.underlying68 rfl (by kernel_rfl) ?_; simp only [Act.put, List.setIfInBounds_toArray, List.set_cons_zero, List.set_cons_succ]) | (go_at_call 16; (refine HTW.out.mono ?_; rintro _ wt ⟨hA, hc, pA, pc, vA, vc, sA, sc, eA, ec, bA, bc, mA, mc, ml, rfl, hb, hq, hm⟩; have H1 := Lib.hid (And.intro hb (And.intro hq hm)); have HQ0 := Lib.hid (Blk.new wt 68 zeroCells); clear hb hq hm; go_simp)) | (refine wpList_store_row (by rfl) 68 _ _ (by rfl) (wt.heap.size) (p.lay hA hc pA pc vA vc sA sc eA ec bA bc mA mc).cells (by rfl) (by rfl) 68 zeroCells HQ0.out (by kernel_rfl) rfl (by kernel_rfl) ?_; simp only [Act.put]))
      go_meet
      refine ⟨wt.heap.size, rfl, Lib.hid ⟨hA, hc, pA, pc, vA, vc, sA, sc, eA, ec, bA, bc, mA, mc, ml, ?_, setRow_heap _ _ _ _ _ _ HQ0.out, ?_, ?_, H1.out.2.2⟩⟩
      · exact (setRow_other _ _ _ _ (by have := (HB.out.over H1.out.1).lt; omega)).trans ((HB.out.over H1.out.1).alloc _)
      · exact (Below.then HBW.out H1.out.1).trans (((one_box wt _).mono (Below.then HBW.out H1.out.1).size).trans (below_setRow (Below.then HBW.out H1.out.1).size))
      · exact H1.out.2.1.over ((one_box wt _).trans (below_setRow (Nat.le_refl _)))
  case rest =>
    obtain ⟨g, rfl, HC⟩ := hcut
    apply_assumption
    rename World => w1
    obtain ⟨hA, hc, pA, pc, vA, vc, sA, sc, eA, ec, bA, bc, mA, mc, ml, hC⟩ := HC.out
    have H1 := Lib.hid hC
    clear hC HC HB HBW HTW
    have HVQ : Hid (validB (p.lay hA hc pA pc vA vc sA sc eA ec bA bc mA mc) { D with msgs := ml } = validB p D) := Lib.hid (valid_lay p D (kk_of_key H1.out.2.2.2.2.symm H1.out.2.2.2.1.bodies HBO.out))
    have hck := Check_any (p.lay hA hc pA pc vA vc sA sc eA ec bA bc mA mc) { D with msgs := ml } w1 H1.out.2.2.2.1 ⟨HSZ.out.le.lh, HSZ.out.le.lp, HSZ.out.le.lv, HSZ.out.le.ls, HSZ.out.le.le, HSZ.out.le.lb, HSZ.out.le.lm⟩
    rw [HVQ.out] at hck
    have HCK := Lib.hid hck
    clear hck
    go_upto_region 2 with fail
    go_cut [4] from 5 to 18 (fun v wc => v = .int .i64 (codeB (validB p D)) ∧ Hid (Below w1.heap.size w1 wc))
    case first =>
      as_aux_lemma =>
        go_wp2_with (first | (refine wpList_load_on (by rfl) 68 _ (by rfl) g (by rfl) 68 (p.lay hA hc pA pc vA vc sA sc eA ec bA bc mA mc).cells (0, 0) _ H1.out.2.1 Try.underlying68 rfl (by kernel_rfl) ?_; simp only [Act.put, List.setIfInBounds_toArray, List.set_cons_zero, List.set_cons_succ]) | (go_at_call 17; refine HCK.out.mono ?_; rintro _ w2 ⟨rfl, hb2⟩; have H2 := Lib.hid hb2; clear hb2; go_simp))
        go_meet
        exact ⟨rfl, H2⟩
    case rest =>
      obtain ⟨rfl, H2⟩ := hcut
      clear HCK
      apply_assumption
      rename World => w2
      obtain ⟨wz, hwz⟩ : ∃ x, x = w2.drew := ⟨_, rfl⟩
      have H3 : Hid (Below w1.heap.size w1 wz) := Lib.hid (by rw [hwz]; exact below_drewN H2.out 1)
      have HWZ := Lib.hid hwz
      clear hwz
      have HBd := Lib.hid (codeB_bd (validB p D))
      obtain ⟨cd, hcd⟩ : ∃ cd, cd = codeB (validB p D) := ⟨_, rfl⟩
      have HCD := Lib.hid hcd
      rw [← hcd]
      clear hcd
      go_upto_region 3 with fail
      refine wp_region_held_drew (S := fun W => Blk W w.heap.size 68 p.cells ∧ Blk W g 68 (p.lay hA hc pA pc vA vc sA sc eA ec bA bc mA mc).cells) (by kernel_rfl) (by rw [← HWZ.out]; exact ⟨H1.out.1.over H3.out, H1.out.2.1.over H3.out⟩) (fun hsw => ?_)
      rw [← HWZ.out] at hsw ⊢
      have HW3 : Hid (Below w.heap.size w wz) := Lib.hid (H1.out.2.2.1.trans (H3.out.mono H1.out.2.2.1.size))
      have hrc := RCheck_any p D wz (HIN.out wz HW3.out) HSZ.out.le
      rw [← HCD.out] at hrc HBd
      have HRC := Lib.hid hrc
      clear hrc
      have HNM := Lib.hid (num_any cd wz HBd.out.1 HBd.out.2)
      refine wpAnyH_take (i := 0) (oi := ?oi0a) (v := ?v0a) ?hi0a (by kernel_rfl) (by kernel_rfl) (by kernel_rfl) ?hq0a ?hy0a (by assumption) ?rest0a
      case hi0a => (simp only [List.getElem?_toArray, List.getElem?_cons_zero]; rfl)
      case hy0a => (refine Or.inl ⟨by rfl, ?_⟩; intro w hSw; (try dsimp only at hSw); go_simp; try with_reducible rfl)
      case hq0a => exact fun _ _ _ h => h
      try simp only [Act.put, List.setIfInBounds_toArray, List.set_cons_zero, List.set_cons_succ]
      refine wpAnyH_take (i := 2) (oi := ?oib) (v := .agg p.cells) ?hib (by kernel_rfl) (by kernel_rfl) (by kernel_rfl) ?hqb ?hyb (by assumption) ?restb
      case hib => (simp only [List.getElem?_toArray, List.getElem?_cons_zero, List.getElem?_cons_succ]; rfl)
      case hyb => exact yields_load (by rfl) 68 _ (by rfl) w.heap.size (by rfl) p.cells _ (fun W h => h.1) Try.underlying68 rfl (by kernel_rfl)
      case hqb => exact fun _ _ _ h => h
      try simp only [Act.put, List.setIfInBounds_toArray, List.set_cons_zero, List.set_cons_succ]
      refine wpAnyH_ready (rs := [1]) (by kernel_rfl) (by simp) ?_
      refine AllReadyH.cons (o := ?o1c) ?ho1c (fun K hK => ?st1c) ?mo1c
      case ho1c => (simp only [List.getElem?_toArray, List.getElem?_cons_zero, List.getElem?_cons_succ]; rfl)
      case mo1c => exact AllReadyH.nil
      go_simp
      refine HNM.out.mono ?_
      rintro _ _ ⟨rfl, rfl⟩
      go_simp
      refine hK.out _ _ hsw (fun _ => ?_)
      clear hK K
      try simp only [Act.put, List.setIfInBounds_toArray, List.set_cons_zero, List.set_cons_succ]
      refine wpAnyH_ready (rs := [3]) (by kernel_rfl) (by simp) ?_
      refine AllReadyH.cons (o := ?o3d) ?ho3d (fun K hK => ?st3d) ?mo3d
      case ho3d => (simp only [List.getElem?_toArray, List.getElem?_cons_zero, List.getElem?_cons_succ]; rfl)
      case mo3d => exact AllReadyH.nil
      go_simp
      refine HRC.out.mono ?_
      rintro _ w4 ⟨rfl, hb4⟩
      have H4 := Lib.hid hb4
      clear hb4
      go_simp
      refine hK.out _ _ ⟨hsw.1.over H4.out, hsw.2.over H4.out⟩ (fun _ => ?_)
      replace hsw : Blk w4 w.heap.size 68 p.cells ∧ Blk w4 g 68 (p.lay hA hc pA pc vA vc sA sc eA ec bA bc mA mc).cells := ⟨hsw.1.over H4.out, hsw.2.over H4.out⟩
      clear hK K
      try simp only [Act.put, List.setIfInBounds_toArray, List.set_cons_zero, List.set_cons_succ]
      have HW4 : Hid (Below w.heap.size w w4) := Lib.hid (Below.then HW3.out H4.out)
      have HSP := Lib.hid (SamePacket_yes p D ml w4 (HIN.out w4 HW4.out) ((H1.out.2.2.2.1.over H3.out).over H4.out) H1.out.2.2.2.2 HSZ.out.le)
      refine wpAnyH_take (i := 4) (oi := ?oi4e) (v := ?v4e) ?hi4e (by kernel_rfl) (by kernel_rfl) (by kernel_rfl) ?hq4e ?hy4e (by assumption) ?rest4e
      case hi4e => (simp only [List.getElem?_toArray, List.getElem?_cons_zero, List.getElem?_cons_succ]; rfl)
      case hy4e => (refine Or.inl ⟨by rfl, ?_⟩; intro w hSw; (try dsimp only at hSw); go_simp; try with_reducible rfl)
      case hq4e => exact fun _ _ _ h => h
      try simp only [Act.put, List.setIfInBounds_toArray, List.set_cons_zero, List.set_cons_succ]
      refine wpAnyH_take (i := 5) (oi := ?oi5e) (v := ?v5e) ?hi5e (by kernel_rfl) (by kernel_rfl) (by kernel_rfl) ?hq5e ?hy5e (by assumption) ?rest5e
      case hi5e => (simp only [List.getElem?_toArray, List.getElem?_cons_zero, List.getElem?_cons_succ]; rfl)
      case hy5e => (refine Or.inl ⟨by rfl, ?_⟩; intro w hSw; (try dsimp only at hSw); go_simp; try with_reducible rfl)
      case hq5e => exact fun _ _ _ h => h
      try simp only [Act.put, List.setIfInBounds_toArray, List.set_cons_zero, List.set_cons_succ]
      refine wpAnyH_take (i := 6) (oi := ?oif) (v := .agg p.cells) ?hif (by kernel_rfl) (by kernel_rfl) (by kernel_rfl) ?hqf ?hyf (by assumption) ?restf
      case hif => (simp only [List.getElem?_toArray, List.getElem?_cons_zero, List.getElem?_cons_succ]; rfl)
      case hyf => exact yields_load (by rfl) 68 _ (by rfl) w.heap.size (by rfl) p.cells _ (fun W h => h.1) Try.underlying68 rfl (by kernel_rfl)
      case hqf => exact fun _ _ _ h => h
      try simp only [Act.put, List.setIfInBounds_toArray, List.set_cons_zero, List.set_cons_succ]
      refine wpAnyH_take (i := 7) (oi := ?oih) (v := .agg (p.lay hA hc pA pc vA vc sA sc eA ec bA bc mA mc).cells) ?hih (by kernel_rfl) (by kernel_rfl) (by kernel_rfl) ?hqh ?hyh (by assumption) ?resth
      case hih => (simp only [List.getElem?_toArray, List.getElem?_cons_zero, List.getElem?_cons_succ]; rfl)
      case hyh => exact yields_load (by rfl) 68 _ (by rfl) g (by rfl) (p.lay hA hc pA pc vA vc sA sc eA ec bA bc mA mc).cells _ (fun W h => h.2) Try.underlying68 rfl (by kernel_rfl)
      case hqh => exact fun _ _ _ h => h
      try simp only [Act.put, List.setIfInBounds_toArray, List.set_cons_zero, List.set_cons_succ]
      refine wpAnyH_ready (rs := [8]) (by kernel_rfl) (by simp) ?_
      refine AllReadyH.cons (o := ?o8k) ?ho8k (fun K hK => ?st8k) ?mo8k
      case ho8k => (simp only [List.getElem?_toArray, List.getElem?_cons_zero, List.getElem?_cons_succ]; rfl)
      case mo8k => exact AllReadyH.nil
      go_simp
      refine HSP.out.mono ?_
      rintro _ w5 ⟨rfl, hb5⟩
      have H5 := Lib.hid hb5
      clear hb5
      go_simp
      refine hK.out _ _ ⟨hsw.1.over H5.out, hsw.2.over H5.out⟩ (fun _ => ?_)
      replace hsw : Blk w5 w.heap.size 68 p.cells ∧ Blk w5 g 68 (p.lay hA hc pA pc vA vc sA sc eA ec bA bc mA mc).cells := ⟨hsw.1.over H5.out, hsw.2.over H5.out⟩
      clear hK K
      try simp only [Act.put, List.setIfInBounds_toArray, List.set_cons_zero, List.set_cons_succ]
      refine wpAnyH_take (i := 9) (oi := ?oi9m) (v := ?v9m) ?hi9m (by kernel_rfl) (by kernel_rfl) (by kernel_rfl) ?hq9m ?hy9m (by assumption) ?rest9m
      case hi9m => (simp only [List.getElem?_toArray, List.getElem?_cons_zero, List.getElem?_cons_succ]; rfl)
      case hy9m => (refine Or.inl ⟨by rfl, ?_⟩; intro w hSw; (try dsimp only at hSw); go_simp; try with_reducible rfl)
      case hq9m => exact fun _ _ _ h => h
      try simp only [Act.put, List.setIfInBounds_toArray, List.set_cons_zero, List.set_cons_succ]
      refine wpAnyH_take (i := 10) (oi := ?oi10m) (v := ?v10m) ?hi10m (by kernel_rfl) (by kernel_rfl) (by kernel_rfl) ?hq10m ?hy10m (by assumption) ?rest10m
      case hi10m => (simp only [List.getElem?_toArray, List.getElem?_cons_zero, List.getElem?_cons_succ]; rfl)
      case hy10m => (refine Or.inl ⟨by rfl, ?_⟩; intro w hSw; (try dsimp only at hSw); go_simp; try with_reducible rfl)
      case hq10m => exact fun _ _ _ h => h
      try simp only [Act.put, List.setIfInBounds_toArray, List.set_cons_zero, List.set_cons_succ]
      refine wpAnyH_done (by kernel_rfl) ?_ _
      go_wp2_with fail
      go_ret
      exact ⟨rfl, Below.then HW4.out H5.out⟩
end Go.Proofs.Ytffcepaegcllmaa
