/-
  JournalOwn: what a round does, plainly. And: JournalOwn: held: records with memory of their own. And: An append onto an empty list with a bare array: nothing that was there is written.
-/
import Derived.Test.YtpkdalpjfcopbaaDoorNLst
import Derived.Deep.Upon
import Derived.Test.YtpkdalpjfcopbaaDoorMDeskR
import Derived.Test.YtpkdalpjfcopbaaDoorKOpen
import Derived.Test.YtpkdalpjfcopbaaDoorMDeskW
import Derived.Test.YtpkdalpjfcopbaaDoorMWith
import Derived.Test.YtpkdalpjfcopbaaDoorMOps
import Derived.Test.YtpkdalpjfcopbaaDoorNSeg
import Derived.Test.YtpkdalpjfcopbaaDoorADisk
import Derived.Deep.CutBlock
import Derived.Laws.AppendOwnNone
namespace Go.Proofs.YtpkdalpjfcopbaaDoor
open Go.RowKit
theorem run_append_bare {P : Program} {w : World} {base g : Nat} (t ty : TypeId) (i : TypeInfo) (z : Value) (ht : P.underlying t = some (.slice 5)) (hi : P.info? 5 = some i) (hz : i.zero = some z) (hs1 : i.size = 1) (hs2 : i.bytes = 1) (hzs : z.cells.size = 1)
    (ho : w.ownsRow base 5 1 (.slice (some ⟨g, 0, none⟩) 0 0) 0 []) {B : Nat} {A : Option Addr} {m c : Nat} {bs : List UInt8} (hr : RdB w B A m bs) (hm : m ≤ 140737488355328) (hb : base ≤ w.heap.size) :
    ∃ v' w', (Builtin.append_ #[t, t] ty #[.slice (some ⟨g, 0, none⟩) 0 0, .slice A m c]).run P w = .ok v' w' ∧ w'.ownsRow base 5 1 v' m (bvs bs) ∧ Below w.heap.size w w' := by
  have hlb := hr.lenB
  rcases Nat.eq_zero_or_pos m with h0 | h0
  · subst h0
    have hb0 : bs = [] := List.eq_nil_of_length_eq_zero hlb
    subst hb0
    have hsrc : Src P i.size t (.slice A 0 c) 0 [] w := by
      cases A with
      | none => exact Src.ofNil w ht c
      | some a => exact Src.ofSlice w ht a 0 c [] (by simp) (by intro _ _ h; simp at h) (by intro _ h; cases h)
    exact ⟨_, _, run_append_nothing (P := P) w t t ty 5 i ht hi _ 0 0 (Nat.le_refl _) _ hsrc, ho, Below.refl _ _⟩
  · obtain ⟨q, o, rfl, hq, hc⟩ := hr.at_ h0
    have hsrc : Src P i.size t (.slice (some ⟨q, o, none⟩) m c) m (bvs bs) w := Src.ofSlice w ht ⟨q, o, none⟩ m c _ (by rw [bvs_length, hlb, hs1, Nat.mul_one]) (fun j u hu => by rw [addr_add]; exact hc j u hu) (bvs_one bs)
    have hold : (Builtin.firstCells i.size 0 (.slice (some ⟨g, 0, none⟩) 0 0)).run P w.drew = .ok ([] : List Value).toArray w.drew := run_firstCells_some w.drew i.size 0 ⟨g, 0, none⟩ 0 0 [] (by simp) (by intro _ _ h'; simp at h')
    have hrun := run_append_grow_src (P := P) w t t ty 5 i z ht hi hz (some ⟨g, 0, none⟩) 0 0 [] hold _ m _ hsrc (by omega) (by omega) (growslice_fits (by omega) (by rw [hs2]; omega))
    rw [Nat.zero_add, List.nil_append] at hrun
    have hge := grownCap_ge w m 0 5
    have hcm := grownCap_le_maxLen w m 0 5 (by simp only [maxLen]; omega)
    generalize grownCap w m 0 5 = c' at hrun hge hcm
    have hsz : ((bvs bs).toArray ++ Builtin.zeroCells z.cells (c' - m)).size = c' := by
      rw [Array.size_append, List.size_toArray, bvs_length, hlb, size_zeroCells, hzs]
      omega
    refine ⟨_, _, hrun, ⟨by rw [bvs_length, hlb, Nat.mul_one], .inr ⟨w.heap.size, c', _, rfl, hb, Blk.new w.drew _ _, hge, hcm, by rw [hsz, Nat.mul_one], ?_⟩⟩, (Below.refl _ w).drew.alloc (Nat.le_refl _) _⟩
    rw [Nat.mul_one, Array.toList_append, List.take_append_of_le_length (by rw [bvs_length, hlb]; exact Nat.le_refl _), List.take_of_length_le (by rw [bvs_length, hlb]; exact Nat.le_refl _)]
theorem step_append_bare {P : Program} {ops : Array Oper} {o : Oper} {a : Act} {K : Act → World → Prop} {Q : Exit → Act → World → Prop} {E : Prop} (w : World) (hgd : o.guard = none) (s x : Operand) (t : TypeId)
    (hop : o.op = .call { callee := .builtin .append, args := #[s, x], argTypes := #[t, t] }) (i : TypeInfo) (z : Value) (ht : P.underlying t = some (.slice 5)) (hi : P.info? 5 = some i) (hz : i.zero = some z) (hs1 : i.size = 1) (hs2 : i.bytes = 1) (hzs : z.cells.size = 1)
    {base g : Nat} (hv : a.eval s = .slice (some ⟨g, 0, none⟩) 0 0) (ho : w.ownsRow base 5 1 (.slice (some ⟨g, 0, none⟩) 0 0) 0 []) {B : Nat} {A : Option Addr} {m c : Nat} {bs : List UInt8} (hx : a.eval x = .slice A m c) (hr : RdB w B A m bs) (hm : m ≤ 140737488355328) (hb : base ≤ w.heap.size)
    (h : ∀ A' c' w', w'.ownsRow base 5 1 (.slice A' m c') m (bvs bs) → Below w.heap.size w w' → K (a.put o.dst (.slice A' m c')) w') :
    if Region.wanted o (yielded ops a.tmps) = true then Oper.wp P o a w K Q else E := by
  have hw : Region.wanted o (yielded ops a.tmps) = true := by simp [Region.wanted, hgd]
  rw [if_pos hw]
  obtain ⟨v', w', hrun, h2, h3⟩ := run_append_bare (P := P) t o.type i z ht hi hz hs1 hs2 hzs ho (c := c) hr hm hb
  obtain ⟨A', c', rfl, _, _⟩ := own_shape h2
  unfold Oper.wp execOp
  simp only [hop, resolve, invoke, builtin, Sem.run_bind, Sem.run_pure, Result.andThen_ok, List.map_toArray, List.map_cons, List.map_nil, hv, hx, hrun]
  exact h A' c' w' h2 h3
end Go.Proofs.YtpkdalpjfcopbaaDoor
namespace Go.Proofs.YtpkdalpjfcopbaaDoor
open Go.RowKit
set_option maxRecDepth 100000 in
set_option maxHeartbeats 3200000 in
theorem held_any {w : World} {A : Option Addr} {n c : Nat} {rs : List Rc} (h : RcRd w (fun _ => False) A n rs) (hn : n ≤ 65536) (hb : ∀ r ∈ rs, r.body.length ≤ 65536) :
    Calls Tryd.prog 39 #[.slice A n c] w fun e w' => ∃ A' c' K, e = .returned (.slice A' n c') ∧ RcOwn w' w.heap.size (.slice A' n c') K ∧ K.map Rk.rc = rs ∧ Below w.heap.size w w' := by
  obtain ⟨i1, hi1, hr0, hr1, hr2⟩ := info_parts info_rec
  have H := Lib.hid h
  have HL := Lib.hid h.len
  have HBD := Lib.hid hb
  clear h hb
  go_enter Tryd.func39, Tryd.ntmps39
  go_wp2_with fail
  go_loopw [3, 4] (fun v i wr => ∃ K : List Rk, i = .int .i64 (K.length : Int) ∧ K.length ≤ n ∧ Hid (RcOwn wr w.heap.size v K ∧ K.map Rk.rc = rs.take K.length ∧ Below w.heap.size w wr)) (fun _ i _ => n - (intOf i).toNat)
  case atStart => exact ⟨[], rfl, by simp, Lib.hid ⟨RcOwn.nil, rfl, Below.refl _ _⟩⟩
  case round =>
    obtain ⟨K, rfl, hk, HJ⟩ := hrel
    obtain ⟨Av, cv, rfl, _, _⟩ := HJ.out.1.shape
    by_cases hlt : K.length < n
    · have hI : (K.length : Int) < (n : Int) := by omega
      obtain ⟨r, hr⟩ : ∃ r, rs[K.length]? = some r := ⟨rs[K.length]'(by rw [← HL.out]; exact hlt), List.getElem?_eq_getElem _⟩
      obtain ⟨g, o, bA, bc, rfl, hg, _, x0, x1, hrb, hbc, _⟩ := (H.out.below HJ.out.2.2).at_ K.length r hr
      have hrl : r.body.length ≤ 65536 := HBD.out r (List.mem_of_getElem? hr)
      have HR := Lib.hid hr
      have HCP := Lib.hid (copied_any (w := wr) r.kind bA r.body.length bc r.body hrb (by omega))
      have hbw := HJ.out.2.2.size
      clear hr hrb
      go_wp2_with (first
        | (go_at_call 34; refine HCP.out.mono ?_; rintro _ w2 ⟨A2, c2, rfl, ho2, hb2⟩; have H2 := Lib.hid (And.intro ho2 hb2); have hro := HJ.out.1.own; have hro2 := own_over hro hb2; clear ho2 hb2)
        | (at_builtin; refine appN2 w2 (by rfl) _ _ 25 (by rfl) w.heap.size 34 i1 _ 2 32 u_recs hi1 hr0 hr1 hr2 rfl (by omega) _ K.length _ (by rfl) hro2 #[.int .i64 r.kind, .slice A2 r.body.length c2] rfl (by rfl) (by simp; exact ⟨rfl, rfl⟩) (by simp only [maxLen]; omega) (by omega) (Nat.le_trans hbw H2.out.2.size) ?_; intro v3 w3 ho3 hb3 hg3 _; obtain ⟨A3, c3, rfl, _, _⟩ := own_shape ho3))
      go_roundw
      case rel =>
        have hx := H2.out.1
        have hc3 := Chg.of_grown hg3
        have hs := RcOwn.snoc (x := ⟨r, .slice A2 r.body.length c2⟩) (HJ.out.1.below H2.out.2) hc3 ho3 (own_base hx hbw) (fun k' r' g' hk' hg' hx' => by
          have h1 := (own_block_lt (HJ.out.1.bod k' r' hk') hg').1
          have h2 := (own_block_lt hx hx').2.1
          omega)
        refine ⟨K ++ [⟨r, .slice A2 r.body.length c2⟩], by rw [List.length_append]; go_num, by rw [List.length_append]; exact hlt, Lib.hid ⟨hs, ?_, (HJ.out.2.2.trans (H2.out.2.mono hbw)).trans hb3⟩⟩
        rw [List.map_append, HJ.out.2.1, List.length_append]
        show rs.take K.length ++ [r] = rs.take (K.length + 1)
        rw [List.take_add_one, HR.out]
        rfl
      case measure => simp [intOf] <;> omega
    · have hI : ¬ (K.length : Int) < (n : Int) := by omega
      have hD : decide ((K.length : Int) < (n : Int)) = false := by simpa using hI
      obtain rfl : n = K.length := by omega
      go_wp2_with fail
      go_ret
      exact ⟨Av, cv, rfl, K, HJ.out.1, by rw [HJ.out.2.1, List.take_of_length_le (by rw [← HL.out]; omega)], HJ.out.2.2⟩
end Go.Proofs.YtpkdalpjfcopbaaDoor
namespace Go.Proofs.YtpkdalpjfcopbaaDoor
open Go.RowKit
/-- What a round's call does to the journal and, its writes made, to the disk. -/
structure Stp (j : JP) (f : Fls) (j' : JP) (ws : List Wr) : Prop where
  good : Good (apD ws (-1) f) j'
  gen : j'.gen ≤ j.gen + 1
  rl : j'.recs.length ≤ j.recs.length + 1
  cost : costW ws ≤ 65537
  bs : ∀ x ∈ ws, x.bs.length ≤ 65536
theorem stp_same {j : JP} {f : Fls} (h : Good f j) : Stp j f j [] := ⟨h, by omega, by omega, by simp [costW], fun x hx => by cases hx⟩
theorem append_stp {j : JP} {f : Fls} (h : Good f j) (r : Rc) : Stp j f (j.append r).1 (j.append r).2.1 := by
  unfold JP.append
  split
  · rename_i hr
    split
    · rename_i hl
      have hw := append_writes h hr hl
      refine ⟨hw.full (-1) (.inl (by omega)), by show j.gen ≤ _; omega, by show (j.recs ++ [r]).length ≤ _; simp, hw.cost, fun x hx => ?_⟩
      rw [List.mem_singleton] at hx
      subst hx
      show (frameB (last4 j.text) r).length ≤ _
      obtain ⟨_, _, _, _, hb⟩ := Rc.ok_k hr
      rw [frameB_length]
      omega
    · exact stp_same h
  · exact stp_same h
theorem compact_stp {j : JP} {f : Fls} (h : Good f j) (hg : j.gen ≤ 1125899906842000) (r : Rc) : Stp j f (j.compact r).1 (j.compact r).2.1 := by
  unfold JP.compact
  split
  · rename_i hr
    split
    · exact stp_same h
    · have hw := compact_writes h hr hg
      refine ⟨hw.full (-1) (.inl (by omega)), by show j.gen + 1 ≤ _; omega, by show [r].length ≤ _; simp, hw.cost, fun x hx => ?_⟩
      rw [List.mem_singleton] at hx
      subst hx
      show (textB (j.gen + 1) 1 [r]).length ≤ _
      obtain ⟨_, _, _, _, hb⟩ := Rc.ok_k hr
      rw [textB_length]
      simp [bodies]
      omega
  · exact stp_same h
theorem good_openR {f : Fls} {j : JP} (h : Good f j) : openR f = .ok j j.recs [] := by
  unfold openR
  rw [h.half.pick]
  dsimp only
  rw [if_pos (by rw [h.text]; rfl)]
  rfl
theorem good_giveR {f : Fls} {j : JP} (h : Good f j) : giveR f = j.recs := by
  unfold giveR
  rw [h.half.pick]
  rfl
/-- A desk and a store behind k rounds. -/
structure OwAt (w wr : World) (tg s k jg : Nat) (A0 : Option Addr) (c0 : Nat) (A1 : Option Addr) (c1 : Nat) (vb : Value) (j : JP) (f : Fls) (file : Int) (vt vm : Value) (T M : List Tv) : Prop where
  d : DAt wr tg jg A0 c0 A1 c1 vb [] j f file
  g : Good f j
  st : StAt wr s vt vm T M
  ge : w.heap.size ≤ tg ∧ w.heap.size ≤ jg ∧ w.heap.size ≤ s
  gen : j.gen ≤ 1 + k
  few : T.length ≤ 1000 * k
  rl : j.recs.length ≤ k
  bw : Below w.heap.size w wr
  rows : (∀ g, vt.ownBlock = some g → w.heap.size ≤ g) ∧ ∀ g, vm.ownBlock = some g → w.heap.size ≤ g
def Ow (w : World) (tg s k : Nat) (wr : World) : Prop := ∃ jg A0 c0 A1 c1 vb j f file vt vm T M, OwAt w wr tg s k jg A0 c0 A1 c1 vb j f file vt vm T M
theorem Ow.below {w wr : World} {tg s k : Nat} (h : Ow w tg s k wr) : Below w.heap.size w wr := by
  obtain ⟨_, _, _, _, _, _, _, _, _, _, _, _, _, h⟩ := h
  exact h.bw
/-- A part of a code. -/
def _root_.Go.Code.sub : List Bool → Code → Code
  | [], c => c
  | false :: p, .seq a _ => a.sub p
  | true :: p, .seq _ b => b.sub p
  | false :: p, .cond _ a _ => a.sub p
  | true :: p, .cond _ _ b => b.sub p
  | false :: p, .block _ b => b.sub p
  | true :: p, .block _ b => b.sub p
  | false :: p, .loop b => b.sub p
  | true :: p, .loop b => b.sub p
  | _ :: _, c => c
theorem calm_own {P : Program} {c : Code} {K : Act → World → Prop} {Q' : Exit → Act → World → Prop} {a : Act} {w : World} (h : c.wp P (Exit.then K (fun _ _ _ => False)) a w) : c.wp P (Exit.then K Q') a w :=
  wp_mono h fun e a w h => by cases e <;> first | exact h | exact h.elim
theorem tail_step {P : Program} {Q : Exit → Act → World → Prop} {c a b : Code} {act : Act} {w : World} (hc : c = .seq a b) (h : ∀ K : Act → World → Prop, (∀ a' w', b.wp P Q a' w' → K a' w') → a.wp P (Exit.then K Q) act w) : c.wp P Q act w := by
  rw [hc]
  exact wp_seq (h _ fun _ _ h => h)
/-- A round under way: the desk and the store, what they were made of. -/
structure Rn (w w0 wr : World) (tg s k jg : Nat) (A0 : Option Addr) (c0 : Nat) (A1 : Option Addr) (c1 : Nat) (vb : Value) (j : JP) (f : Fls) (file : Int) (vt vm : Value) (T M : List Tv) (b6 : Nat) (kd : Int) : Prop where
  d : DAt wr tg jg A0 c0 A1 c1 vb [] j f file
  st : StAt wr s vt vm T M
  ge : w.heap.size ≤ tg ∧ w.heap.size ≤ jg ∧ w.heap.size ≤ s
  gen : j.gen ≤ 2 + k
  few : T.length ≤ 1000 * k
  rl : j.recs.length ≤ k + 1
  bw : Below w.heap.size w wr
  b0 : w0.heap.size ≤ wr.heap.size
  rows : (∀ g, vt.ownBlock = some g → w.heap.size ≤ g) ∧ ∀ g, vm.ownBlock = some g → w.heap.size ≤ g
  low : ∀ (k : Nat) (t m : Tv), T[k]? = some t → M[k]? = some m → (∀ g, 0 < t.n → t.A.map (·.block) = some g → g < w0.heap.size) ∧ (∀ g, 0 < m.n → m.A.map (·.block) = some g → g < w0.heap.size)
  box : CellT wr 57 ⟨b6, 0, none⟩ (.int .i64 kd)
  bge : w.heap.size ≤ b6
  w0 : w.heap.size ≤ w0.heap.size
section
variable {w w0 wr w' : World} {tg s k jg c0 c1 b6 : Nat} {A0 A1 : Option Addr} {vb vt vm : Value} {j : JP} {f : Fls} {file kd : Int} {T M : List Tv}
theorem OwAt.over (h : OwAt w wr tg s k jg A0 c0 A1 c1 vb j f file vt vm T M) (hb : Below wr.heap.size wr w') : OwAt w w' tg s k jg A0 c0 A1 c1 vb j f file vt vm T M :=
  ⟨h.d.over hb, h.g, h.st.over hb, h.ge, h.gen, h.few, h.rl, h.bw.trans (hb.mono h.bw.size), h.rows⟩
theorem CellT.over {w w' : World} {t : TypeId} {p : Addr} {v : Value} (h : CellT w t p v) (hb : Below w.heap.size w w') : CellT w' t p v := h.chg (Chg.of_below hb (fun _ => False)) fun h => h
theorem Rn.over (h : Rn w w0 wr tg s k jg A0 c0 A1 c1 vb j f file vt vm T M b6 kd) (hb : Below wr.heap.size wr w') : Rn w w0 w' tg s k jg A0 c0 A1 c1 vb j f file vt vm T M b6 kd :=
  ⟨h.d.over hb, h.st.over hb, h.ge, h.gen, h.few, h.rl, h.bw.trans (hb.mono h.bw.size), Nat.le_trans h.b0 hb.size, h.rows, h.low, h.box.over hb, h.bge, h.w0⟩
/-- The desk has turned, the store has not. -/
theorem Rn.desk {jg' c0' c1' : Nat} {A0' A1' : Option Addr} {j' : JP} {f' : Fls} (h : Rn w w0 wr tg s k jg A0 c0 A1 c1 vb j f file vt vm T M b6 kd) (hd : DAt w' tg jg' A0' c0' A1' c1' vb [] j' f' file) (hc : Chg (fun q => q = tg ∨ q = jg) wr w') (hjg : jg' = jg ∨ w.heap.size ≤ jg') (hg : j'.gen ≤ 2 + k) (hr : j'.recs.length ≤ k + 1) : Rn w w0 w' tg s k jg' A0' c0' A1' c1' vb j' f' file vt vm T M b6 kd := by
  have hT : ∀ {t g : Nat}, IsT wr t g → t ≠ 63 → t ≠ 96 → ¬ (g = tg ∨ g = jg) := fun ht h1 h2 e => by
    obtain ⟨s, hB, _⟩ := h.d.pj.blk
    rcases e with rfl | rfl
    · exact h1 (ht.eq_ h.d.blk.isT)
    · exact h2 (ht.eq_ hB.isT)
  have hso : StO w' s vt vm T M := ⟨h.st.so.blk.chg hc (hT h.st.so.blk.isT (by decide) (by decide)), own_chg h.st.so.tx hc fun g hg => hT (own_isT h.st.so.tx hg) (by decide) (by decide), own_chg h.st.so.mo hc fun g hg => hT (own_isT h.st.so.mo hg) (by decide) (by decide), h.st.so.ne⟩
  exact ⟨hd, ⟨hso, h.st.len, fun k t m h1 h2 => (h.st.ok k t m h1 h2).chg hc fun g ht => hT ht (by decide) (by decide), h.st.few⟩, ⟨h.ge.1, hjg.elim (fun e => e ▸ h.ge.2.1) id, h.ge.2.2⟩, hg, h.few, hr, h.bw.trans (hc.to_below h.bw.size fun q e => e.elim (fun e => e ▸ h.ge.1) fun e => e ▸ h.ge.2.1), Nat.le_trans h.b0 hc.size, h.rows, h.low, h.box.chg hc (hT h.box.ty (by decide) (by decide)), h.bge, h.w0⟩
end
/-- The blocks of a disk's files. -/
def DBk (A0 : Option Addr) (n0 c0 : Nat) (A1 : Option Addr) (n1 c1 : Nat) (q : Nat) : Prop := (Value.slice A0 n0 c0).ownBlock = some q ∨ (Value.slice A1 n1 c1).ownBlock = some q
theorem oapply_r {w : World} {A DA DB : Option Addr} {n cap ca cb : Nat} {ws : List Wr} {f : Fls} (k : Int) (h : WOut w 0 (.slice A n cap) ws) (hc : costW ws ≤ 65537) (ha : RdB w w.heap.size DA f.a.length f.a) (hb : RdB w w.heap.size DB f.b.length f.b) (hl : f.a.length ≤ 65536 ∧ f.b.length ≤ 65536) :
    Calls Tryd.prog 37 #[.agg #[.slice DA f.a.length ca, .slice DB f.b.length cb], .slice A n cap, .int .i64 k] w (GivesF w (apD ws k f)) := by
  have h1 := PApply_any (w := w) A n cap ws DA DB ca cb f k h.wsN (by omega) (by have := h.wsN.len; have := h.few; omega) ha hb (by omega) (by omega)
  rw [apply_same] at h1
  exact h1
/-- Behind a put. -/
theorem rn_put {w w0 wb w' : World} {tg s k jg c0 c1 b6 : Nat} {A0 A1 : Option Addr} {vb vt vm : Value} {j : JP} {f : Fls} {file kd : Int} {T M E : List Tv} (h : Rn w w0 wb tg s k jg A0 c0 A1 c1 vb j f file vt vm T M b6 kd) (hg : Good f j) (hE : New w0.heap.size wb E) (hP : PutS wb s vt vm T M E w')
    (hc : Chg (fun q => (q = s ∨ some q = vt.ownBlock ∨ some q = vm.ownBlock) ∨ ∃ (k : Nat) (e : Tv), E[k]? = some e ∧ blkO e.A e.c = some q) wb w') (hdb : ∀ q, DBk A0 f.a.length c0 A1 f.b.length c1 q → ∀ (k : Nat) (e : Tv), E[k]? = some e → blkO e.A e.c ≠ some q) (hl : E.length ≤ 1000) :
    (∃ vt' vm' M', OwAt w w' tg s (k + 1) jg A0 c0 A1 c1 vb j f file vt' vm' (T ++ E) M') ∧ ∀ t g, IsT wb t g → ((q : t = 5) → ∀ (k : Nat) (e : Tv), E[k]? = some e → blkO e.A e.c ≠ some g) → t ≠ 73 → t ≠ 22 → ¬ ((g = s ∨ some g = vt.ownBlock ∨ some g = vm.ownBlock) ∨ ∃ (k : Nat) (e : Tv), E[k]? = some e ∧ blkO e.A e.c = some g) := by
  have off : ∀ t g, IsT wb t g → ((q : t = 5) → ∀ (k : Nat) (e : Tv), E[k]? = some e → blkO e.A e.c ≠ some g) → t ≠ 73 → t ≠ 22 → ¬ ((g = s ∨ some g = vt.ownBlock ∨ some g = vm.ownBlock) ∨ ∃ (k : Nat) (e : Tv), E[k]? = some e ∧ blkO e.A e.c = some g) := fun t g ht hu h1 h2 hs => by
    rcases hs with (rfl | e | e) | ⟨i, e, he, hb⟩
    · exact h1 (ht.eq_ h.st.so.blk.isT)
    · exact h2 (ht.eq_ (own_isT h.st.so.tx e.symm))
    · exact h2 (ht.eq_ (own_isT h.st.so.mo e.symm))
    · exact hu (ht.eq_ ((hE.lo i e he).1.blk hb).2.2) i e he hb
  refine ⟨?_, off⟩
  obtain ⟨vt', vm', Mn, h1, h2, h3⟩ := hP
  obtain ⟨sj, hBj, hj2⟩ := h.d.pj.blk
  have hsz := h.bw.size
  have hd : DAt w' tg jg A0 c0 A1 c1 vb [] j f file :=
    ⟨h.d.blk.chg hc (off _ _ h.d.blk.isT (fun q => absurd q (by decide)) (by decide) (by decide)), ⟨⟨sj, hBj.chg hc (off _ _ hBj.isT (fun q => absurd q (by decide)) (by decide) (by decide)), hj2⟩⟩,
      own_chg h.d.o0 hc fun g hg' => off _ _ (own_isT h.d.o0 hg') (fun _ => hdb g (.inl hg')) (by decide) (by decide), own_chg h.d.o1 hc fun g hg' => off _ _ (own_isT h.d.o1 hg') (fun _ => hdb g (.inr hg')) (by decide) (by decide),
      ⟨own_chg h.d.bk.own hc fun g hg' => off _ _ (own_isT h.d.bk.own hg') (fun q => absurd q (by decide)) (by decide) (by decide), h.d.bk.off, fun k r hk => by simp at hk⟩⟩
  refine ⟨vt', vm', M ++ Mn, hd, hg, h1, h.ge, by have := h.gen; omega, by rw [List.length_append]; have := h.few; omega, h.rl, h.bw.trans (hc.to_below h.bw.size fun q hq => ?_), fun g hg' => (h2 g hg').elim (h.rows.1 g) fun e => by omega, fun g hg' => (h3 g hg').elim (h.rows.2 g) fun e => by omega⟩
  rcases hq with (rfl | e | e) | ⟨i, e, he, hb⟩
  · exact h.ge.2.2
  · exact h.rows.1 _ e.symm
  · exact h.rows.2 _ e.symm
  · exact Nat.le_trans h.w0 ((hE.lo i e he).1.blk hb).1
end Go.Proofs.YtpkdalpjfcopbaaDoor
