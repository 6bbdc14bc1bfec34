/-
  The program's network: out. And: A copy of a list into a block of the call's own, elements of several cells; the program's fresh.
-/
import Derived.Test.YtgfhmfhhobhojaaESplit
import Derived.Laws.CopyOwn
namespace Go.Proofs.Ytgfhmfhhobhojaa
open Go.ChangeShapes Go.WideShapes Go.ChangeAt Go.RowKit
section
variable {P : Program}
theorem run_copy_rowZ (w : World) (dT sT ty elem : TypeId) (g o dLen dCap : Nat) (A : Option Addr) (m sCap : Nat) (cur : Array Value) (t : TypeId) (cs : List Value) (z : Nat)
    (hu : P.underlying dT = some (.slice elem)) (i : TypeInfo) (hi : P.info? elem = some i) (hz : i.size = z)
    (hg : Blk w g t cur) (B : Nat) (hr : Rd w B z A m cs) (hm : m ≤ dLen) (hfit : o + cs.length ≤ cur.size) (h1 : ∀ v ∈ cs, v.oneCell' = true) :
    (Builtin.copy_ #[dT, sT] ty #[.slice (some ⟨g, o, none⟩) dLen dCap, .slice A m sCap]).run P w =
      .ok (goInt m) (w.setRow g (splice cur.toList o cs).toArray) := by
  have hst := run_storeCells_at P g o t cs 0 cur w hg (by simpa using hfit) h1
  have hmin : Nat.min m dLen = m := Nat.min_eq_left hm
  have e : (splice cur.toList o cs).toArray = (cur.toList.take (o + 0) ++ cs ++ cur.toList.drop (o + 0 + cs.length)).toArray := by simp [splice]
  rw [e]
  rcases A with _ | a
  · have hm0 : m = 0 := by
      rcases Nat.eq_zero_or_pos m with h | h
      · exact h
      · obtain ⟨b, off, e, _⟩ := hr.at_ h; cases e
    subst hm0
    have hc : cs = [] := List.eq_nil_of_length_eq_zero (by have := hr.len; omega)
    subst hc
    simp [Builtin.copy_, run_underlying hu, Builtin.lenOf, Builtin.firstCells, sizeOf, typeInfo, hi, hst]
  · have hsrc : ∀ j v, cs[j]? = some v → w.cell? (a.add j) = some v := fun j v hv => by
      have hp : 0 < m := by
        rcases Nat.eq_zero_or_pos m with h | h
        · subst h
          have hc : cs = [] := List.eq_nil_of_length_eq_zero (by have := hr.len; omega)
          rw [hc] at hv; simp at hv
        · exact h
      obtain ⟨b, off, e, _, hc⟩ := hr.at_ hp
      injection e with e
      subst e
      rw [addr_add]
      exact hc j v hv
    have hl := run_loadCells_list (P := P) w a cs hsrc
    simp [Builtin.copy_, run_underlying hu, Builtin.lenOf, Builtin.firstCells, sizeOf, typeInfo, hi, hz, hmin, ← hr.len, hl, hst]
/-- 'copy(d, s)': all of s goes over. -/
theorem copyRZ {w : World} {ops : Array Oper} {rest : List Oper} {o : Oper} {a : Act} {Q : Exit → Act → World → Prop} (hgd : o.guard = none) (d s : Operand) (dT sT : TypeId)
    (ho : o.op = .call { callee := .builtin .copy, args := #[d, s], argTypes := #[dT, sT] }) (elem : TypeId) (hu : P.underlying dT = some (.slice elem)) (i : TypeInfo) (hi : P.info? elem = some i) (z : Nat) (hz : i.size = z)
    (g off dLen dCap : Nat) (A : Option Addr) (m sCap : Nat) (hd : a.eval d = .slice (some ⟨g, off, none⟩) dLen dCap) (hs : a.eval s = .slice A m sCap) (cur : Array Value) (t : TypeId) (hB : Blk w g t cur)
    (B : Nat) (news : List Value) (hr : Rd w B z A m news) (hm : m ≤ dLen) (hfit : off + news.length ≤ cur.size) (h1 : ∀ v ∈ news, v.oneCell' = true)
    (h : ∀ w', Blk w' g t (splice cur.toList off news).toArray → Chg (fun k => k = g) w w' → wpList P ops Q rest (a.put o.dst (goInt m)) w') : wpList P ops Q (o :: rest) a w :=
  wpList_plain hgd fun _ hK => by
    have hrun := run_copy_rowZ w dT sT o.type elem g off dLen dCap A m sCap cur t news z hu i hi hz hB B hr hm hfit h1
    unfold Oper.wp execOp
    simp only [ho, resolve, invoke, builtin, Sem.run_bind, Sem.run_pure, Result.andThen_ok, List.map_toArray, List.map_cons, List.map_nil, hd, hs, hrun]
    exact hK _ _ (h _ (setRow_heap w g cur _ t _ hB) ⟨rfl, rfl, rfl, by simp [World.setRow], fun k _ hn => setRow_other w g k _ hn⟩)
end
theorem make_bytes (n : Nat) (hn : n ≤ 140737488351232) (W : World) : Sem.run Try.prog (Instr.makeSlice 30 (.int .i64 (n : Int)) (.int .i64 (n : Int))) W = .ok (.slice (some ⟨W.heap.size, 0, none⟩) n n) (W.alloc (.cells (rg n fun _ => .int .u8 0) 5)) := by
  obtain ⟨i0, hi0, hz0, hz1, hz2⟩ := info_parts info_u8
  have hmk := run_make_rowN (P := Try.prog) 30 5 i0 (.int .u8 0) u_bytes hi0 hz0 .i64 .i64 n n (by omega) (by rw [hz2]; omega) (by omega) W
  rw [hz1] at hmk
  simp only [Nat.mul_one] at hmk
  rw [← rg_replicate]
  have e : madeCells #[Value.int .u8 0] n = Array.replicate n (.int .u8 0) := by
    apply Array.toList_inj.1
    rw [toList_madeCells_one, Array.toList_replicate]
  rw [← e]
  exact hmk
/-- A block of bytes of the call's own. -/
def FreshR (w : World) (bs : List UInt8) (e : Ending) (w' : World) : Prop := ∃ g, e = .returned (.slice (some ⟨g, 0, none⟩) bs.length bs.length) ∧ w.heap.size ≤ g ∧ Blk w' g 5 (bvs bs).toArray ∧ Below w.heap.size w w'
set_option maxRecDepth 100000 in
theorem fresh_any {w : World} (bA : Option Addr) (n cap : Nat) (bs : List UInt8) (hr : RdB w w.heap.size bA n bs) (hn : n ≤ 140737488351232) : Calls Try.prog 48 #[.slice bA n cap] w (FreshR w bs) := by
  obtain ⟨i0, hi0, hz0, hz1, hz2⟩ := info_parts info_u8
  have hl := hr.lenB
  have hmk := make_bytes n hn w
  have hb0 := one_box' w (.cells (rg n fun _ => .int .u8 0) 5)
  have hB0 := Blk.new w 5 (rg n fun _ => .int .u8 0)
  have hr0 := hr.below hb0
  obtain ⟨w0, hw0⟩ : ∃ w0, w0 = w.alloc (.cells (rg n fun _ => .int .u8 0) 5) := ⟨_, rfl⟩
  rw [← hw0] at hb0 hB0 hr0 hmk
  have HB := Lib.hid hB0
  have HR := Lib.hid hr0
  have HB0 := Lib.hid hb0
  have HL := Lib.hid hl
  clear hw0 hb0 hB0 hr0 hr hl
  go_enter Try.func48, Try.ntmps48
  go_wp2_with (refine copyRZ (by rfl) _ _ _ _ (by rfl) 5 u_bytes i0 hi0 1 hz1 _ 0 n n bA n cap (by rfl) (by rfl) _ _ HB.out _ _ HR.out (Nat.le_refl _) (by rw [bvs_length, HL.out, rg_size]; omega) (bvs_one bs) ?_; intro w1 hB1 hc1)
  go_ret
  refine ⟨w.heap.size, by rw [HL.out]; rfl, Nat.le_refl _, ?_, HB0.out.trans (hc1.to_below HB0.out.size fun k e => by omega)⟩
  have e : (splice (rg n fun _ => Value.int .u8 0).toList 0 (bvs bs)).toArray = (bvs bs).toArray := by
    congr 1
    unfold splice
    rw [List.take_zero, List.nil_append, List.drop_eq_nil_of_le (by rw [Array.length_toList, rg_size, bvs_length]; have := HL.out; omega), List.append_nil]
  rw [← e]; exact hB1
end Go.Proofs.Ytgfhmfhhobhojaa
namespace Go.Proofs.Ytgfhmfhhobhojaa
open Go.ChangeShapes Go.WideShapes Go.ChangeAt Go.RowKit
variable {w : World} {F : Nat → Prop} {c : ECfg} {D : Nat} {p : PV} {m : Nat}
theorem rowsP_append (X Y : List (Flt × Nat)) : rowsP (X ++ Y) = rowsP X ++ rowsP Y := by simp [rowsP]
theorem rowsP_length (X : List (Flt × Nat)) : (rowsP X).length = X.length * 5 := by
  induction X with
  | nil => rfl
  | cons x t ih => simp only [rowsP, List.map_cons, List.flatten_cons, List.length_append] at ih ⊢; rw [ih]; simp [Flt.row]; omega
theorem rowsP_one (X : List (Flt × Nat)) : ∀ u ∈ rowsP X, u.oneCell' = true := by
  intro u hu
  simp only [rowsP, List.mem_flatten, List.mem_map] at hu
  obtain ⟨l, ⟨x, _, rfl⟩, hu⟩ := hu
  exact row_oneP _ _ u hu
theorem split_at {α : Type} {X : List α} {k : Nat} {x : α} (h : X[k]? = some x) : X = X.take k ++ x :: X.drop (k + 1) ∧ (X.take k).length = k ∧ X.eraseIdx k = X.take k ++ X.drop (k + 1) := by
  obtain ⟨hlt, he⟩ := List.getElem?_eq_some_iff.1 h
  refine ⟨?_, by simp; omega, List.eraseIdx_eq_take_drop_succ ..⟩
  rw [← he, ← List.drop_eq_getElem_cons hlt, List.take_append_drop]
/-- What lies in the row behind the list's place k. -/
theorem rd_tail {X : List (Flt × Nat)} {k : Nat} {x : Flt × Nat} {g cap : Nat} (hx : X[k]? = some x) (h : w.ownsRow 0 48 5 (.slice (some ⟨g, 0, none⟩) X.length cap) X.length (rowsP X)) (A : Option Addr) (hA : k + 1 < X.length → A = some ⟨g, (k + 1) * 5, none⟩) : Rd w w.heap.size 5 A (X.length - (k + 1)) (rowsP (X.drop (k + 1))) := by
  obtain ⟨h1, h2, _⟩ := split_at hx
  have hlt : k < X.length := (List.getElem?_eq_some_iff.1 hx).1
  refine ⟨by rw [rowsP_length, List.length_drop], fun hp => ?_⟩
  refine ⟨g, (k + 1) * 5, hA (by omega), (own_block_lt h (g := g) rfl).1, fun j u hu => ?_⟩
  have hr := h.cells (g := g) rfl ((k + 1) * 5 + j) u ?_
  · rw [addr_add, Nat.zero_add] at hr; exact hr
  · rw [h1, show X.take k ++ x :: X.drop (k + 1) = (X.take k ++ [x]) ++ X.drop (k + 1) by simp, rowsP_append]
    rw [List.getElem?_append_right (by rw [rowsP_length]; simp; omega), rowsP_length]
    rw [show (k + 1) * 5 + j - (X.take k ++ [x]).length * 5 = j by simp; omega]
    exact hu
theorem own_erase {w' : World} {X : List (Flt × Nat)} {k : Nat} {x : Flt × Nat} {g cap : Nat} {cur : Array Value} (hx : X[k]? = some x) (hle : X.length ≤ cap) (hcm : cap ≤ maxLen) (hsz : cur.size = cap * 5) (htk : cur.toList.take (X.length * 5) = rowsP X)
    (hB : Blk w' g 48 (splice cur.toList (k * 5) (rowsP (X.drop (k + 1)))).toArray) : w'.ownsRow 0 48 5 (.slice (some ⟨g, 0, none⟩) (X.length - 1) cap) (X.eraseIdx k).length (rowsP (X.eraseIdx k)) := by
  obtain ⟨h1, h2, h3⟩ := split_at hx
  have hlt : k < X.length := (List.getElem?_eq_some_iff.1 hx).1
  have hel : (X.eraseIdx k).length = X.length - 1 := by rw [List.length_eraseIdx, if_pos hlt]
  have hdl : (rowsP (X.drop (k + 1))).length = (X.length - (k + 1)) * 5 := by rw [rowsP_length, List.length_drop]
  rw [hel]
  refine ⟨by rw [rowsP_length, hel], .inr ⟨g, cap, _, rfl, Nat.zero_le _, hB, by omega, hcm, ?_, ?_⟩⟩
  · have hcl : cur.toList.length = cap * 5 := by rw [Array.length_toList, hsz]
    rw [List.size_toArray, length_splice _ _ _ (by rw [hdl, hcl]; omega), hcl]
  · rw [h3, rowsP_append]
    unfold splice
    have e1 : cur.toList.take (k * 5) = rowsP (X.take k) := by
      have h5 : (cur.toList.take (X.length * 5)).take (k * 5) = (rowsP X).take (k * 5) := by rw [htk]
      rw [List.take_take, Nat.min_eq_left (by omega)] at h5
      have hX : rowsP X = rowsP (X.take k) ++ rowsP (x :: X.drop (k + 1)) := by rw [← rowsP_append, ← h1]
      rw [h5, hX, List.take_append_of_le_length (by rw [rowsP_length]; omega), List.take_of_length_le (by rw [rowsP_length]; omega)]
    rw [e1, ← List.append_assoc, List.take_append_of_le_length (by rw [List.length_append, rowsP_length, hdl]; omega), List.take_of_length_le (by rw [List.length_append, rowsP_length, hdl]; omega)]
theorem map_erase {α β : Type} (X : List α) (f : α → β) (k : Nat) : (X.eraseIdx k).map f = (X.map f).eraseIdx k := by simp [List.eraseIdx_eq_take_drop_succ, List.map_take, List.map_drop]
/-- A new list in the network's block. -/
theorem PN.setV {w' : World} {F' : Nat → Prop} {P S L : Nat} {v v' : Value} {X X' : List (Flt × Nat)} {way' : List Flt} (h : PN w F c D p m P S L v X) (hc : Chg (fun j => v.ownBlock = some j) w w') (hFF : ∀ j, F j → F' j) (ho : w'.ownsRow 0 48 5 v' X'.length (rowsP X')) (hw : X'.map (·.1) = way')
    (hby : ∀ x ∈ X', Blk w' x.2 5 (bvs x.1.bs).toArray) (hnd : (X'.map (·.2)).Nodup) (hfv : ∀ g, v'.ownBlock = some g → F' g) (hfx : ∀ x ∈ X', F' x.2) : PN (w'.setCell ⟨D, 6, none⟩ v') F' c D { p with way := way' } m P S L v' X' := by
  have hD := h.blk.chg hc fun e => (h.vne e).1 rfl
  have hP := h.peers.chg hc fun e => (h.vne e).2.1 rfl
  have hvm : ∀ {b n : Nat} {f : Nat → Nat → Nat}, MapZ w b n f → ¬ v.ownBlock = some b := fun hz e => by
    obtain ⟨_, _, cu, hB⟩ := own_block_lt h.row e
    exact hz.ne_blk hB rfl
  have hS := h.shut.chg hc (hvm h.shut)
  have hL := h.slow.chg hc (hvm h.slow)
  exact ⟨hD.set_ 6 v', hP.far h.dp.symm v', hS.setCell (hS.ne_blk hD) v', hL.setCell (hL.ne_blk hD) v', hw, own_far ho fun g hg => by
    obtain ⟨_, _, cu, hB⟩ := own_block_lt ho hg
    exact hB.ne_ hD (by decide), fun x hx => (hby x hx).far ((hby x hx).ne_ hD (by decide)) v', hnd, h.ne, hFF _ h.fd, hFF _ h.fp, hFF _ h.fs, hFF _ h.fl, hfv, hfx⟩
/-- The flight that was taken out. -/
def OutR (w : World) (F : Nat → Prop) (c : ECfg) (D : Nat) (p : PV) (m : Nat) (k : Nat) (f : Flt) (e : Ending) (w' : World) : Prop :=
  ∃ y, e = .returned (.agg #[.int .i64 (f.id : Int), .int .i64 (f.src : Int), .int .i64 (f.dst : Int), .int .i64 (f.due : Int), .slice (some ⟨y, 0, none⟩) f.bs.length f.bs.length]) ∧ PNx w' F c D { p with way := p.way.eraseIdx k } m ∧ Blk w' y 5 (bvs f.bs).toArray ∧ Chg F w w' ∧ F y
set_option maxRecDepth 100000 in
set_option maxHeartbeats 3200000 in
theorem out_any (h : PNx w F c D p m) {k : Nat} {f : Flt} (hk : p.way[k]? = some f) (hlen : p.way.length ≤ 140737488351232) : Calls Try.prog 59 #[.pointer (some ⟨D, 0, none⟩), .int .i64 (k : Int)] w (OutR w F c D p m k f) := by
  obtain ⟨i0, hi0, hz0, hz1, hz2⟩ := info_parts info_flight
  obtain ⟨hF, P, S, L, v, X, hP⟩ := h
  have hkX : k < X.length := by rw [← hP.len]; exact (List.getElem?_eq_some_iff.1 hk).1
  obtain ⟨g, cap, f', y, rfl, hx, hf', m0, m1, m2, m3, m4⟩ := hP.flt hkX
  obtain rfl : f' = f := by rw [hk] at hf'; injection hf' with hf'; exact hf'.symm
  obtain ⟨_, cap', cur, hv, _, hB, hle, hcm, hsz, htk⟩ := own_parts hP.row (by omega)
  simp only [Value.slice.injEq, Option.some.injEq, Addr.mk.injEq] at hv
  obtain ⟨⟨rfl, _⟩, _, rfl⟩ := hv
  have hXl : X.length ≤ 140737488351232 := by rw [← hP.len]; exact hlen
  -- the two boxes
  have hb0 := one_box' w (.cells #[.int .i64 0, .int .i64 0, .int .i64 0, .int .i64 0, .slice none 0 0] 48)
  have hZ0 := Blk.new w 48 #[.int .i64 0, .int .i64 0, .int .i64 0, .int .i64 0, .slice none 0 0]
  obtain ⟨w0, hw0⟩ : ∃ w0, w0 = w.alloc (.cells #[.int .i64 0, .int .i64 0, .int .i64 0, .int .i64 0, .slice none 0 0] 48) := ⟨_, rfl⟩
  rw [← hw0] at hb0 hZ0
  have hsz0 : w0.heap.size = w.heap.size + 1 := by rw [hw0]; simp
  have hb1 := one_box' w0 (.cells #[.int .i64 (f'.id : Int), .int .i64 (f'.src : Int), .int .i64 (f'.dst : Int), .int .i64 (f'.due : Int), .slice (some ⟨y, 0, none⟩) f'.bs.length f'.bs.length] 48)
  have hX1 := Blk.new w0 48 #[.int .i64 (f'.id : Int), .int .i64 (f'.src : Int), .int .i64 (f'.dst : Int), .int .i64 (f'.due : Int), .slice (some ⟨y, 0, none⟩) f'.bs.length f'.bs.length]
  have hZ1 := hZ0.over hb1
  obtain ⟨w1, hw1⟩ : ∃ w1, w1 = w0.alloc (.cells #[.int .i64 (f'.id : Int), .int .i64 (f'.src : Int), .int .i64 (f'.dst : Int), .int .i64 (f'.due : Int), .slice (some ⟨y, 0, none⟩) f'.bs.length f'.bs.length] 48) := ⟨_, rfl⟩
  rw [← hw1] at hb1 hX1 hZ1
  have hb01 : Below w.heap.size w w1 := hb0.trans (hb1.mono hb0.size)
  obtain ⟨w2, hw2⟩ : ∃ w2, w2 = w1.drew := ⟨_, rfl⟩
  have hb2 : Below w.heap.size w w2 := by rw [hw2]; exact below_drewN hb01 1
  have hP2 := hP.below hF hb2
  have hX2 : Blk w2 w0.heap.size 48 #[.int .i64 (f'.id : Int), .int .i64 (f'.src : Int), .int .i64 (f'.dst : Int), .int .i64 (f'.due : Int), .slice (some ⟨y, 0, none⟩) f'.bs.length f'.bs.length] := by rw [hw2]; exact hX1
  have hZ2 : Blk w2 w.heap.size 48 #[.int .i64 0, .int .i64 0, .int .i64 0, .int .i64 0, .slice none 0 0] := by rw [hw2]; exact hZ1
  have HW0 := Lib.hid hw0
  have HW1 := Lib.hid hw1
  have HW2 := Lib.hid hw2
  have HP2 := Lib.hid hP2
  have HX2 := Lib.hid hX2
  have HZ2 := Lib.hid hZ2
  have HB2 := Lib.hid hb2
  have HF := Lib.hid hF
  have HXk := Lib.hid hx
  have HK := Lib.hid hk
  have g6' : w0.cell? ⟨D, 6, none⟩ = some (.slice (some ⟨g, 0, none⟩) X.length cap) := (hP.blk.over hb0).cell 6
  have g6 : w2.cell? ⟨D, 6, none⟩ = some (.slice (some ⟨g, 0, none⟩) X.length cap) := hP2.blk.cell 6
  have hgw : g < w.heap.size := hB.lt
  have n0 : w0.cell? ⟨g, k * 5, none⟩ = some (.int .i64 (f'.id : Int)) := (hb0.cell (p := ⟨g, k * 5, none⟩) hgw).trans m0
  have n1 : w0.cell? ⟨g, k * 5 + 1, none⟩ = some (.int .i64 (f'.src : Int)) := (hb0.cell (p := ⟨g, k * 5 + 1, none⟩) hgw).trans m1
  have n2 : w0.cell? ⟨g, k * 5 + 2, none⟩ = some (.int .i64 (f'.dst : Int)) := (hb0.cell (p := ⟨g, k * 5 + 2, none⟩) hgw).trans m2
  have n3 : w0.cell? ⟨g, k * 5 + 3, none⟩ = some (.int .i64 (f'.due : Int)) := (hb0.cell (p := ⟨g, k * 5 + 3, none⟩) hgw).trans m3
  have n4 : w0.cell? ⟨g, k * 5 + 4, none⟩ = some (.slice (some ⟨y, 0, none⟩) f'.bs.length f'.bs.length) := (hb0.cell (p := ⟨g, k * 5 + 4, none⟩) hgw).trans m4
  have hkI : (k : Int) < (X.length : Int) := by omega
  have hw1k : IntKind.i64.wrap ((k : Int) + 1) = (k : Int) + 1 := IntWalk.i64_in _ (by omega)
  have hck : ¬ cap = k := by omega
  have hwl : IntKind.i64.wrap ((X.length : Int) - 1) = ((X.length - 1 : Nat) : Int) := (IntWalk.i64_in _ (by omega)).trans (by omega)
  have hlm : X.length - 1 ≤ cap := by omega
  have hkle : k ≤ X.length := by omega
  have hk1le : k + 1 ≤ X.length := by omega
  have HB := Lib.hid hB
  have HS0 : Hid (w.heap.size ≤ w0.heap.size) := Lib.hid hb0.size
  have HSZ := Lib.hid hsz
  have HTK := Lib.hid htk
  clear m0 m1 m2 m3 m4 hw0 hw1 hw2 hP hP2 hX1 hX2 hZ0 hZ1 hZ2 hb0 hb1 hb01 hb2 hB hsz htk hsz0 hk hx hf' hF
  have hk1a : (0 : Int) ≤ (k : Int) + 1 := by omega
  have hk1b : (k : Int) + 1 ≤ (X.length : Int) := by omega
  have HFG : Hid (F g) := Lib.hid (HP2.out.fv g rfl)
  have HB2g : Hid (Blk w2 g 48 cur) := Lib.hid (HB.out.over HB2.out)
  have HFIT : Hid (k * 5 + (rowsP (X.drop (k + 1))).length ≤ cur.size) := Lib.hid (by rw [rowsP_length, List.length_drop, HSZ.out]; omega)
  have HNE : Hid (g ≠ D ∧ g ≠ P ∧ (∀ x ∈ X, x.2 ≠ g)) := Lib.hid (HP2.out.vne rfl)
  by_cases hck1 : cap = k + 1
  · obtain rfl : cap = k + 1 := hck1
    have hz1' : ((X.length - 1 : Nat) : Int) ≤ (k : Int) + 1 := by omega
    have HRT : Hid (Rd w2 w2.heap.size 5 (some ⟨g, 0, none⟩) 0 (rowsP (X.drop (k + 1)))) := Lib.hid (by have h := rd_tail HXk.out HP2.out.row (some ⟨g, 0, none⟩) (fun h => by omega); rwa [show X.length - (k + 1) = 0 by omega] at h)
    clear HB
    go_enter Try.func59, Try.ntmps59
    go_upto_region 1 with fail
    rw [← HW0.out]
    go_upto_region 2 with fail
    rw [← HW1.out]
    refine region_tail 13 (by kernel_rfl) (by kernel_rfl) ?_
    simp only [List.take_succ_cons, List.take_zero, List.drop_succ_cons, List.drop_zero]
    rw [← HW2.out]
    repeat still_step
    refine wpStill_nil ?_
    change wpList _ _ _ _ _ w2
    refine copyRZ (by rfl) _ _ _ _ (by rfl) 48 u_flights i0 hi0 5 hz1 g (k * 5) (X.length - k) 1 (some ⟨g, 0, none⟩) 0 0 (by rfl) (by rfl) cur 48 HB2g.out _ _ HRT.out (by omega) HFIT.out (rowsP_one _) ?_
    intro w3 hB3 hc3
    have HO3 := Lib.hid (own_erase HXk.out hle hcm HSZ.out HTK.out hB3)
    have hF3 : Chg F w2 w3 := hc3.mono fun j _ e => by rw [e]; exact HFG.out
    have hsz3 := hc3.size
    have HC3 := Lib.hid hF3
    have HCW : Hid (Chg F w w3) := Lib.hid ((Chg.of_below HB2.out F).thenS hF3 fun j _ h => h)
    have q6 : w3.cell? ⟨D, 6, none⟩ = some (.slice (some ⟨g, 0, none⟩) X.length (k + 1)) := (HP2.out.blk.chg hc3 fun e => HNE.out.1 e.symm).cell 6
    have qf6 : w3.frozen? ⟨D, 6, none⟩ = false := (HP2.out.blk.chg hc3 fun e => HNE.out.1 e.symm).frozen 6
    obtain ⟨w4, hw4⟩ : ∃ w4, w4 = w3.drew := ⟨_, rfl⟩
    have r6 : w4.cell? ⟨D, 6, none⟩ = some (.slice (some ⟨g, 0, none⟩) X.length (k + 1)) := by rw [hw4]; exact q6
    have rf6 : w4.frozen? ⟨D, 6, none⟩ = false := by rw [hw4]; exact qf6
    have HW4 := Lib.hid hw4
    have hb3g : Chg (fun j => j = g) w2 w4 := by rw [hw4]; exact hc3.drewN 1
    have HB3G := Lib.hid hb3g
    have HO4 : Hid (w4.ownsRow 0 48 5 (.slice (some ⟨g, 0, none⟩) (X.length - 1) (k + 1)) (X.eraseIdx k).length (rowsP (X.eraseIdx k))) := Lib.hid (by rw [hw4]; exact HO3.out)
    clear hc3 hB3 hF3 hw4 hb3g q6 qf6
    go_upto_region 3 with fail
    refine region_tail 14 (by kernel_rfl) (by kernel_rfl) ?_
    simp only [List.take_succ_cons, List.take_zero, List.drop_succ_cons, List.drop_zero]
    rw [← HW4.out]
    repeat still_step
    refine wpStill_nil ?_
    change wpList _ _ _ _ _ w4
    obtain ⟨w5, hw5⟩ : ∃ w5, w5 = w4.setCell ⟨D, 6, none⟩ (.slice (some ⟨g, 0, none⟩) (X.length - 1) (k + 1)) := ⟨_, rfl⟩
    have HB4 := HB3G.out
    have hlx : ∀ x ∈ X.eraseIdx k, x ∈ X := fun x hx => List.mem_of_mem_eraseIdx hx
    have hP5 : PN w5 F c D { p with way := p.way.eraseIdx k } m P S L (.slice (some ⟨g, 0, none⟩) (X.length - 1) (k + 1)) (X.eraseIdx k) := by
      rw [hw5]
      exact HP2.out.setV (HB4.mono fun j _ e => by rw [e]; rfl) (fun _ h => h) HO4.out (by rw [map_erase, HP2.out.way]) (fun x hx => (HP2.out.bytes x (hlx x hx)).chg HB4 (HNE.out.2.2 x (hlx x hx))) (HP2.out.nodup.sublist ((List.eraseIdx_sublist ..).map _)) (fun g' e => HP2.out.fv g' e) fun x hx => HP2.out.fx x (hlx x hx)
    have hC5 : Chg F w w5 := by
      rw [hw5]
      exact ((Chg.of_below HB2.out F).thenS HB4 fun j _ e => by rw [e]; exact HFG.out).setCell (.inl HP2.out.fd) _
    have hX5 : Blk w5 w0.heap.size 48 #[.int .i64 (f'.id : Int), .int .i64 (f'.src : Int), .int .i64 (f'.dst : Int), .int .i64 (f'.due : Int), .slice (some ⟨y, 0, none⟩) f'.bs.length f'.bs.length] := by
      rw [hw5]
      exact (HX2.out.chg HB4 fun e => by have := hgw; have := HS0.out; omega).far (HX2.out.ne_ HP2.out.blk (by decide)) _
    have hZ5 : Blk w5 w.heap.size 48 #[.int .i64 0, .int .i64 0, .int .i64 0, .int .i64 0, .slice none 0 0] := by
      rw [hw5]
      exact (HZ2.out.chg HB4 fun e => by have := hgw; omega).far (HZ2.out.ne_ HP2.out.blk (by decide)) _
    have HW5 := Lib.hid hw5
    have HP5 := Lib.hid hP5
    have HC5 := Lib.hid hC5
    have z0 : w5.cell? ⟨w0.heap.size, 0, none⟩ = some (.int .i64 (f'.id : Int)) := hX5.cell 0
    have z1 : w5.cell? ⟨w0.heap.size, 1, none⟩ = some (.int .i64 (f'.src : Int)) := hX5.cell 1
    have z2 : w5.cell? ⟨w0.heap.size, 2, none⟩ = some (.int .i64 (f'.dst : Int)) := hX5.cell 2
    have z3 : w5.cell? ⟨w0.heap.size, 3, none⟩ = some (.int .i64 (f'.due : Int)) := hX5.cell 3
    have z4 : w5.cell? ⟨w0.heap.size, 4, none⟩ = some (.slice (some ⟨y, 0, none⟩) f'.bs.length f'.bs.length) := hX5.cell 4
    have k0 : w5.cell? ⟨w.heap.size, 0, none⟩ = some (.int .i64 0) := hZ5.cell 0
    have k1 : w5.cell? ⟨w.heap.size, 1, none⟩ = some (.int .i64 0) := hZ5.cell 1
    have k2 : w5.cell? ⟨w.heap.size, 2, none⟩ = some (.int .i64 0) := hZ5.cell 2
    have k3 : w5.cell? ⟨w.heap.size, 3, none⟩ = some (.int .i64 0) := hZ5.cell 3
    have k4 : w5.cell? ⟨w.heap.size, 4, none⟩ = some (.slice none 0 0) := hZ5.cell 4
    have q0 : w5.frozen? ⟨w.heap.size, 0, none⟩ = false := hZ5.frozen 0
    have q1 : w5.frozen? ⟨w.heap.size, 1, none⟩ = false := hZ5.frozen 1
    have q2 : w5.frozen? ⟨w.heap.size, 2, none⟩ = false := hZ5.frozen 2
    have q3 : w5.frozen? ⟨w.heap.size, 3, none⟩ = false := hZ5.frozen 3
    have q4 : w5.frozen? ⟨w.heap.size, 4, none⟩ = false := hZ5.frozen 4
    obtain ⟨w6, hw6⟩ : ∃ w6, w6 = ((((w5.setCell ⟨w.heap.size, 0, none⟩ (.int .i64 (f'.id : Int))).setCell ⟨w.heap.size, 1, none⟩ (.int .i64 (f'.src : Int))).setCell ⟨w.heap.size, 2, none⟩ (.int .i64 (f'.dst : Int))).setCell ⟨w.heap.size, 3, none⟩ (.int .i64 (f'.due : Int))).setCell ⟨w.heap.size, 4, none⟩ (.slice (some ⟨y, 0, none⟩) f'.bs.length f'.bs.length) := ⟨_, rfl⟩
    have hch6 : Chg (fun j => j = w.heap.size) w5 w6 := by
      rw [hw6]
      exact (((((Chg.refl (fun j => j = w.heap.size) w5).setCell (p := ⟨w.heap.size, 0, none⟩) (.inl rfl) _).setCell (p := ⟨w.heap.size, 1, none⟩) (.inl rfl) _).setCell (p := ⟨w.heap.size, 2, none⟩) (.inl rfl) _).setCell (p := ⟨w.heap.size, 3, none⟩) (.inl rfl) _).setCell (p := ⟨w.heap.size, 4, none⟩) (.inl rfl) _
    have hR6 : Blk w6 w.heap.size 48 #[.int .i64 (f'.id : Int), .int .i64 (f'.src : Int), .int .i64 (f'.dst : Int), .int .i64 (f'.due : Int), .slice (some ⟨y, 0, none⟩) f'.bs.length f'.bs.length] := by
      rw [hw6]
      exact ((((hZ5.set_ 0 _).set_ 1 _).set_ 2 _).set_ 3 _).set_ 4 _
    have y0 : w6.cell? ⟨w.heap.size, 0, none⟩ = some (.int .i64 (f'.id : Int)) := hR6.cell 0
    have y1 : w6.cell? ⟨w.heap.size, 1, none⟩ = some (.int .i64 (f'.src : Int)) := hR6.cell 1
    have y2 : w6.cell? ⟨w.heap.size, 2, none⟩ = some (.int .i64 (f'.dst : Int)) := hR6.cell 2
    have y3 : w6.cell? ⟨w.heap.size, 3, none⟩ = some (.int .i64 (f'.due : Int)) := hR6.cell 3
    have y4 : w6.cell? ⟨w.heap.size, 4, none⟩ = some (.slice (some ⟨y, 0, none⟩) f'.bs.length f'.bs.length) := hR6.cell 4
    have HE : Hid (OutR w F c D p m k f' (.returned (.agg #[.int .i64 (f'.id : Int), .int .i64 (f'.src : Int), .int .i64 (f'.dst : Int), .int .i64 (f'.due : Int), .slice (some ⟨y, 0, none⟩) f'.bs.length f'.bs.length])) w6) := by
      have hnF : ∀ j, F j → ¬ j = w.heap.size := fun j hj e => by have := HF.out j hj; omega
      have hxm : (f', y) ∈ X := List.mem_of_getElem? HXk.out
      refine Lib.hid ⟨y, rfl, ⟨fun j hj => ?_, P, S, L, _, _, HP5.out.chg hch6 hnF⟩, ?_, HC5.out.thenS hch6 fun j hj e => by omega, HP2.out.fx _ hxm⟩
      · have h1 := HF.out j hj
        have h2 := HC5.out.size
        have h3 := hch6.size
        omega
      · have hy2 := (HP2.out.bytes _ hxm).chg HB4 (HNE.out.2.2 _ hxm)
        have hy5 : Blk w5 y 5 (bvs f'.bs).toArray := by
          rw [HW5.out]
          exact hy2.far (hy2.ne_ (HP2.out.blk.chg HB4 fun e => HNE.out.1 e.symm) (by decide)) _
        exact hy5.chg hch6 (hnF y (HP2.out.fx _ hxm))
    have HW6 := Lib.hid hw6
    clear hw5 hw6 hch6 hR6 hP5 hC5 hX5 hZ5
    go_upto_region 4 with fail
    rw [← HW5.out]
    go_wp2_with fail
    rw [← HW6.out]
    go_wp2
    exact bodyPost_ret (v := .agg #[.int .i64 (f'.id : Int), .int .i64 (f'.src : Int), .int .i64 (f'.dst : Int), .int .i64 (f'.due : Int), .slice (some ⟨y, 0, none⟩) f'.bs.length f'.bs.length]) (by simp [results, Try.results59, y0, y1, y2, y3, y4, go_sem]) rfl HE.out
  · have HRT : Hid (Rd w2 w2.heap.size 5 (some ⟨g, (k + 1) * 5, none⟩) (X.length - (k + 1)) (rowsP (X.drop (k + 1)))) := Lib.hid (rd_tail HXk.out HP2.out.row _ fun h => rfl)
    clear HB
    go_enter Try.func59, Try.ntmps59
    go_upto_region 1 with fail
    rw [← HW0.out]
    go_upto_region 2 with fail
    rw [← HW1.out]
    refine region_tail 13 (by kernel_rfl) (by kernel_rfl) ?_
    simp only [List.take_succ_cons, List.take_zero, List.drop_succ_cons, List.drop_zero]
    rw [← HW2.out]
    repeat still_step
    refine wpStill_nil ?_
    change wpList _ _ _ _ _ w2
    refine copyRZ (by rfl) _ _ _ _ (by rfl) 48 u_flights i0 hi0 5 hz1 g (k * 5) (X.length - k) (cap - k) (some ⟨g, (k + 1) * 5, none⟩) (X.length - (k + 1)) (cap - (k + 1)) (by rfl) (by rfl) cur 48 HB2g.out _ _ HRT.out (by omega) HFIT.out (rowsP_one _) ?_
    intro w3 hB3 hc3
    have HO3 := Lib.hid (own_erase HXk.out hle hcm HSZ.out HTK.out hB3)
    have hF3 : Chg F w2 w3 := hc3.mono fun j _ e => by rw [e]; exact HFG.out
    have hsz3 := hc3.size
    have HC3 := Lib.hid hF3
    have HCW : Hid (Chg F w w3) := Lib.hid ((Chg.of_below HB2.out F).thenS hF3 fun j _ h => h)
    have q6 : w3.cell? ⟨D, 6, none⟩ = some (.slice (some ⟨g, 0, none⟩) X.length cap) := (HP2.out.blk.chg hc3 fun e => HNE.out.1 e.symm).cell 6
    have qf6 : w3.frozen? ⟨D, 6, none⟩ = false := (HP2.out.blk.chg hc3 fun e => HNE.out.1 e.symm).frozen 6
    obtain ⟨w4, hw4⟩ : ∃ w4, w4 = w3.drew := ⟨_, rfl⟩
    have r6 : w4.cell? ⟨D, 6, none⟩ = some (.slice (some ⟨g, 0, none⟩) X.length cap) := by rw [hw4]; exact q6
    have rf6 : w4.frozen? ⟨D, 6, none⟩ = false := by rw [hw4]; exact qf6
    have HW4 := Lib.hid hw4
    have hb3g : Chg (fun j => j = g) w2 w4 := by rw [hw4]; exact hc3.drewN 1
    have HB3G := Lib.hid hb3g
    have HO4 : Hid (w4.ownsRow 0 48 5 (.slice (some ⟨g, 0, none⟩) (X.length - 1) cap) (X.eraseIdx k).length (rowsP (X.eraseIdx k))) := Lib.hid (by rw [hw4]; exact HO3.out)
    clear hc3 hB3 hF3 hw4 hb3g q6 qf6
    go_upto_region 3 with fail
    refine region_tail 14 (by kernel_rfl) (by kernel_rfl) ?_
    simp only [List.take_succ_cons, List.take_zero, List.drop_succ_cons, List.drop_zero]
    rw [← HW4.out]
    repeat still_step
    refine wpStill_nil ?_
    change wpList _ _ _ _ _ w4
    obtain ⟨w5, hw5⟩ : ∃ w5, w5 = w4.setCell ⟨D, 6, none⟩ (.slice (some ⟨g, 0, none⟩) (X.length - 1) cap) := ⟨_, rfl⟩
    have HB4 := HB3G.out
    have hlx : ∀ x ∈ X.eraseIdx k, x ∈ X := fun x hx => List.mem_of_mem_eraseIdx hx
    have hP5 : PN w5 F c D { p with way := p.way.eraseIdx k } m P S L (.slice (some ⟨g, 0, none⟩) (X.length - 1) cap) (X.eraseIdx k) := by
      rw [hw5]
      exact HP2.out.setV (HB4.mono fun j _ e => by rw [e]; rfl) (fun _ h => h) HO4.out (by rw [map_erase, HP2.out.way]) (fun x hx => (HP2.out.bytes x (hlx x hx)).chg HB4 (HNE.out.2.2 x (hlx x hx))) (HP2.out.nodup.sublist ((List.eraseIdx_sublist ..).map _)) (fun g' e => HP2.out.fv g' e) fun x hx => HP2.out.fx x (hlx x hx)
    have hC5 : Chg F w w5 := by
      rw [hw5]
      exact ((Chg.of_below HB2.out F).thenS HB4 fun j _ e => by rw [e]; exact HFG.out).setCell (.inl HP2.out.fd) _
    have hX5 : Blk w5 w0.heap.size 48 #[.int .i64 (f'.id : Int), .int .i64 (f'.src : Int), .int .i64 (f'.dst : Int), .int .i64 (f'.due : Int), .slice (some ⟨y, 0, none⟩) f'.bs.length f'.bs.length] := by
      rw [hw5]
      exact (HX2.out.chg HB4 fun e => by have := hgw; have := HS0.out; omega).far (HX2.out.ne_ HP2.out.blk (by decide)) _
    have hZ5 : Blk w5 w.heap.size 48 #[.int .i64 0, .int .i64 0, .int .i64 0, .int .i64 0, .slice none 0 0] := by
      rw [hw5]
      exact (HZ2.out.chg HB4 fun e => by have := hgw; omega).far (HZ2.out.ne_ HP2.out.blk (by decide)) _
    have HW5 := Lib.hid hw5
    have HP5 := Lib.hid hP5
    have HC5 := Lib.hid hC5
    have z0 : w5.cell? ⟨w0.heap.size, 0, none⟩ = some (.int .i64 (f'.id : Int)) := hX5.cell 0
    have z1 : w5.cell? ⟨w0.heap.size, 1, none⟩ = some (.int .i64 (f'.src : Int)) := hX5.cell 1
    have z2 : w5.cell? ⟨w0.heap.size, 2, none⟩ = some (.int .i64 (f'.dst : Int)) := hX5.cell 2
    have z3 : w5.cell? ⟨w0.heap.size, 3, none⟩ = some (.int .i64 (f'.due : Int)) := hX5.cell 3
    have z4 : w5.cell? ⟨w0.heap.size, 4, none⟩ = some (.slice (some ⟨y, 0, none⟩) f'.bs.length f'.bs.length) := hX5.cell 4
    have k0 : w5.cell? ⟨w.heap.size, 0, none⟩ = some (.int .i64 0) := hZ5.cell 0
    have k1 : w5.cell? ⟨w.heap.size, 1, none⟩ = some (.int .i64 0) := hZ5.cell 1
    have k2 : w5.cell? ⟨w.heap.size, 2, none⟩ = some (.int .i64 0) := hZ5.cell 2
    have k3 : w5.cell? ⟨w.heap.size, 3, none⟩ = some (.int .i64 0) := hZ5.cell 3
    have k4 : w5.cell? ⟨w.heap.size, 4, none⟩ = some (.slice none 0 0) := hZ5.cell 4
    have q0 : w5.frozen? ⟨w.heap.size, 0, none⟩ = false := hZ5.frozen 0
    have q1 : w5.frozen? ⟨w.heap.size, 1, none⟩ = false := hZ5.frozen 1
    have q2 : w5.frozen? ⟨w.heap.size, 2, none⟩ = false := hZ5.frozen 2
    have q3 : w5.frozen? ⟨w.heap.size, 3, none⟩ = false := hZ5.frozen 3
    have q4 : w5.frozen? ⟨w.heap.size, 4, none⟩ = false := hZ5.frozen 4
    obtain ⟨w6, hw6⟩ : ∃ w6, w6 = ((((w5.setCell ⟨w.heap.size, 0, none⟩ (.int .i64 (f'.id : Int))).setCell ⟨w.heap.size, 1, none⟩ (.int .i64 (f'.src : Int))).setCell ⟨w.heap.size, 2, none⟩ (.int .i64 (f'.dst : Int))).setCell ⟨w.heap.size, 3, none⟩ (.int .i64 (f'.due : Int))).setCell ⟨w.heap.size, 4, none⟩ (.slice (some ⟨y, 0, none⟩) f'.bs.length f'.bs.length) := ⟨_, rfl⟩
    have hch6 : Chg (fun j => j = w.heap.size) w5 w6 := by
      rw [hw6]
      exact (((((Chg.refl (fun j => j = w.heap.size) w5).setCell (p := ⟨w.heap.size, 0, none⟩) (.inl rfl) _).setCell (p := ⟨w.heap.size, 1, none⟩) (.inl rfl) _).setCell (p := ⟨w.heap.size, 2, none⟩) (.inl rfl) _).setCell (p := ⟨w.heap.size, 3, none⟩) (.inl rfl) _).setCell (p := ⟨w.heap.size, 4, none⟩) (.inl rfl) _
    have hR6 : Blk w6 w.heap.size 48 #[.int .i64 (f'.id : Int), .int .i64 (f'.src : Int), .int .i64 (f'.dst : Int), .int .i64 (f'.due : Int), .slice (some ⟨y, 0, none⟩) f'.bs.length f'.bs.length] := by
      rw [hw6]
      exact ((((hZ5.set_ 0 _).set_ 1 _).set_ 2 _).set_ 3 _).set_ 4 _
    have y0 : w6.cell? ⟨w.heap.size, 0, none⟩ = some (.int .i64 (f'.id : Int)) := hR6.cell 0
    have y1 : w6.cell? ⟨w.heap.size, 1, none⟩ = some (.int .i64 (f'.src : Int)) := hR6.cell 1
    have y2 : w6.cell? ⟨w.heap.size, 2, none⟩ = some (.int .i64 (f'.dst : Int)) := hR6.cell 2
    have y3 : w6.cell? ⟨w.heap.size, 3, none⟩ = some (.int .i64 (f'.due : Int)) := hR6.cell 3
    have y4 : w6.cell? ⟨w.heap.size, 4, none⟩ = some (.slice (some ⟨y, 0, none⟩) f'.bs.length f'.bs.length) := hR6.cell 4
    have HE : Hid (OutR w F c D p m k f' (.returned (.agg #[.int .i64 (f'.id : Int), .int .i64 (f'.src : Int), .int .i64 (f'.dst : Int), .int .i64 (f'.due : Int), .slice (some ⟨y, 0, none⟩) f'.bs.length f'.bs.length])) w6) := by
      have hnF : ∀ j, F j → ¬ j = w.heap.size := fun j hj e => by have := HF.out j hj; omega
      have hxm : (f', y) ∈ X := List.mem_of_getElem? HXk.out
      refine Lib.hid ⟨y, rfl, ⟨fun j hj => ?_, P, S, L, _, _, HP5.out.chg hch6 hnF⟩, ?_, HC5.out.thenS hch6 fun j hj e => by omega, HP2.out.fx _ hxm⟩
      · have h1 := HF.out j hj
        have h2 := HC5.out.size
        have h3 := hch6.size
        omega
      · have hy2 := (HP2.out.bytes _ hxm).chg HB4 (HNE.out.2.2 _ hxm)
        have hy5 : Blk w5 y 5 (bvs f'.bs).toArray := by
          rw [HW5.out]
          exact hy2.far (hy2.ne_ (HP2.out.blk.chg HB4 fun e => HNE.out.1 e.symm) (by decide)) _
        exact hy5.chg hch6 (hnF y (HP2.out.fx _ hxm))
    have HW6 := Lib.hid hw6
    clear hw5 hw6 hch6 hR6 hP5 hC5 hX5 hZ5
    go_upto_region 4 with fail
    rw [← HW5.out]
    go_wp2_with fail
    rw [← HW6.out]
    go_wp2
    exact bodyPost_ret (v := .agg #[.int .i64 (f'.id : Int), .int .i64 (f'.src : Int), .int .i64 (f'.dst : Int), .int .i64 (f'.due : Int), .slice (some ⟨y, 0, none⟩) f'.bs.length f'.bs.length]) (by simp [results, Try.results59, y0, y1, y2, y3, y4, go_sem]) rfl HE.out
end Go.Proofs.Ytgfhmfhhobhojaa
