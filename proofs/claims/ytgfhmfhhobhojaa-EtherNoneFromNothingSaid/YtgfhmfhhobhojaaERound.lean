/-
  The program's network: Round.
-/
import Derived.Test.YtgfhmfhhobhojaaETake
namespace Go.Proofs.Ytgfhmfhhobhojaa
open Go.ChangeShapes Go.WideShapes Go.ChangeAt Go.RowKit
variable {w : World} {F : Nat → Prop} {c : ECfg} {D : Nat} {p : PV} {m : Nat}
/-- 'out = append(out, x)', an element of several cells: where the new row lies. -/
theorem appN2 {P : Program} {ops : Array Oper} {rest : List Oper} {o : Oper} {a : Act} {Q : Exit → Act → World → Prop} (W : World) (hgd : o.guard = none) (s x : Operand) (t : TypeId)
    (ho : o.op = .call { callee := .builtin .append, args := #[s, x], argTypes := #[t, t] })
    (base : Nat) (e : TypeId) (i : TypeInfo) (z : Value) (size bytes : Nat) (ht : P.underlying t = some (.slice e)) (hi : P.info? e = some i) (hz : i.zero = some z)
    (hsize : i.size = size) (hby : i.bytes = bytes) (hzs : z.cells.size = size) (hsz : 0 < size)
    (v : Value) (n : Nat) (xs : List Value) (hs : a.eval s = v) (hown : W.ownsRow base e size v n xs)
    (us : Array Value) (hu : us.size = size) (hx : a.eval x = .slice (some ⟨W.heap.size, 0, none⟩) 1 1) (h1 : ∀ u ∈ us.toList, u.oneCell' = true)
    (h63 : n + 1 ≤ maxLen) (hbytes : (n + 1) * bytes ≤ 140737488355328) (hbase : base ≤ W.heap.size)
    (h : ∀ v' w', w'.ownsRow base e size v' (n + 1) (xs ++ us.toList) → Below base W w' → W.grownBy w' v.ownBlock → (v'.ownBlock = v.ownBlock ∨ v'.ownBlock = some (W.heap.size + 1)) → wpList P ops Q rest (a.put o.dst v') w') :
    wpList P ops Q (o :: rest) a (W.alloc (.cells us e)) := by
  have hown2 : (W.alloc (.cells us e)).ownsRow base e size v n xs := hown.alloc _
  refine wpList_append_any (P := P) _ hgd s x t ho base e i z size bytes ht hi hz hsize hby hzs hsz v n xs hs hown2 (W.heap.size + 1) (some ⟨W.heap.size, 0, none⟩) 1 1 us.toList hx ?_ h1 h63 hbytes (by simp; omega) ?_
  · refine ⟨by simp [hu], fun _ => ⟨W.heap.size, 0, rfl, by omega, fun j y hj => ?_⟩⟩
    rw [Nat.zero_add, (Blk.new W e us).cell j, ← Array.getElem?_toList]
    exact hj
  · intro v' w' h2 h3 h4
    have hal : W.grownBy (W.alloc (.cells us e)) v.ownBlock := ⟨rfl, rfl, rfl, by simp, fun k hk _ => Below.heap_alloc _ _ _ hk⟩
    exact h v' w' h2 (((Below.refl _ _).alloc hbase _).trans (below_app hown2 h3 (by simp; omega)))
      ⟨h3.os.trans hal.os, h3.tape.trans hal.tape, h3.output.trans hal.output, Nat.le_trans hal.size h3.size, fun k hk hn => (h3.block k (by simp; omega) hn).trans (hal.block k hk hn)⟩ (by simpa using h4)
def okB (c : ECfg) (p : PV) (f : Flt) : Bool := openB c p.shut (f.src : Int) (f.dst : Int) && upA c p.down (f.dst : Int)
def stayB (t : Nat) (f : Flt) : Bool := decide (t < f.due)
def hereB (c : ECfg) (p : PV) (t : Nat) (f : Flt) : Bool := !stayB t f && okB c p f
def roundP (p : PV) : PV := { p with clock := p.clock + 1, way := p.way.filter (stayB (p.clock + 1)) }
def roundL (c : ECfg) (p : PV) : List Flt := p.way.filter (hereB c p (p.clock + 1))
/-- A list of packets that is handed out. -/
def FltsAt (w : World) (F : Nat → Prop) (B : Nat) (v : Value) (l : List Flt) : Prop := ∃ H : List (Flt × Nat), H.map (·.1) = l ∧ w.ownsRow B 48 5 v H.length (rowsP H) ∧ (∀ x ∈ H, Blk w x.2 5 (bvs x.1.bs).toArray) ∧ ∀ x ∈ H, F x.2
def RoundR (w : World) (F : Nat → Prop) (c : ECfg) (D : Nat) (p : PV) (m : Nat) (e : Ending) (w' : World) : Prop :=
  ∃ v F', e = .returned v ∧ FltsAt w' F w.heap.size v (roundL c p) ∧ PNx w' F' c D (roundP p) m ∧ (∀ k, F' k → F k ∨ w.heap.size ≤ k) ∧ Chg F w w'
/-- The two lists while they grow. -/
structure TwoL (B : Nat) (w0 w : World) (v4 v3 : Value) (L H : List (Flt × Nat)) : Prop where
  below : Below B w0 w
  size : B ≤ w.heap.size
  l : w.ownsRow B 48 5 v4 L.length (rowsP L)
  h : w.ownsRow B 48 5 v3 H.length (rowsP H)
  ne : ∀ g, v4.ownBlock = some g → v3.ownBlock ≠ some g
theorem TwoL.over {B : Nat} {w0 w w' : World} {v4 v3 : Value} {L H : List (Flt × Nat)} (h : TwoL B w0 w v4 v3 L H) (hb : Below w.heap.size w w') : TwoL B w0 w' v4 v3 L H :=
  ⟨h.below.trans (hb.mono h.size), Nat.le_trans h.size hb.size, own_over h.l hb, own_over h.h hb, h.ne⟩
theorem TwoL.swap {B : Nat} {w0 w : World} {v4 v3 : Value} {L H : List (Flt × Nat)} (h : TwoL B w0 w v4 v3 L H) : TwoL B w0 w v3 v4 H L :=
  ⟨h.below, h.size, h.h, h.l, fun g h1 h2 => h.ne g h2 h1⟩
theorem TwoL.push {B : Nat} {w0 w w' : World} {v4 v3 v' : Value} {L H : List (Flt × Nat)} {x : Flt × Nat} (h : TwoL B w0 w v4 v3 L H) (ho : w'.ownsRow B 48 5 v' (L.length + 1) (rowsP L ++ x.1.row x.2)) (hb : Below B w w') (hg : w.grownBy w' v4.ownBlock) (hat : v'.ownBlock = v4.ownBlock ∨ v'.ownBlock = some (w.heap.size + 1)) : TwoL B w0 w' v' v3 (L ++ [x]) H := by
  refine ⟨h.below.trans hb, Nat.le_trans h.size hb.size, by rw [List.length_append, rowsP_app]; exact ho, own_chg h.h (Chg.of_grown hg) fun g hg3 e => h.ne g e.symm hg3, fun g h1 h2 => ?_⟩
  rcases hat with e | e
  · rw [e] at h1; exact h.ne g h1 h2
  · rw [e] at h1
    injection h1 with h1
    have := (own_block_lt h.h h2).1
    omega
theorem filt_take {X : List (Flt × Nat)} {q : Flt → Bool} {k : Nat} {x : Flt × Nat} (hx : X[k]? = some x) : (X.take (k + 1)).filter (fun y => q y.1) = (X.take k).filter (fun y => q y.1) ++ (if q x.1 = true then [x] else []) := by
  rw [List.take_add_one, hx, List.filter_append]
  congr 1
  simp only [Option.toList_some, List.filter_cons, List.filter_nil]
set_option maxRecDepth 100000 in
set_option maxHeartbeats 6400000 in
theorem Round_any (hc : c.Ok) (h : PNx w F c D p m) (hf : Fine p m) : Calls Try.prog 21 #[.pointer (some ⟨D, 0, none⟩)] w (RoundR w F c D p m) := by
  obtain ⟨i0, hi0, hz0, hz1, hz2⟩ := info_parts info_flight
  obtain ⟨hF, P, S, L, v, X, hP⟩ := h
  obtain ⟨c0, c1, c2, c3, c4, c5, c6⟩ := hP.cell
  have f1 : w.frozen? ⟨D, 1, none⟩ = false := hP.blk.frozen 1
  have hw1k : IntKind.i64.wrap ((p.clock : Int) + 1) = (p.clock : Int) + 1 := IntWalk.i64_in _ (by have := hf.clk; omega)
  obtain ⟨w0, hw0⟩ : ∃ w0, w0 = w.setCell ⟨D, 1, none⟩ (.int .i64 ((p.clock : Int) + 1)) := ⟨_, rfl⟩
  have hP0 : PN w0 F c D { p with clock := p.clock + 1 } m P S L v X := by rw [hw0]; exact hP.setD rfl rfl rfl rfl rfl
  have hC0 : Chg F w w0 := by rw [hw0]; exact (Chg.refl _ _).setCell (.inl hP.fd) _
  have hF0 : ∀ k, F k → k < w0.heap.size := fun k hk => Nat.lt_of_lt_of_le (hF k hk) hC0.size
  obtain ⟨A6, cap6, rfl, hcp6, hcm6⟩ := own_shape hP.row
  have HW0 := Lib.hid hw0
  have HP0 := Lib.hid hP0
  have HF0 := Lib.hid hF0
  have HF := Lib.hid hF
  have HC0 := Lib.hid hC0
  have HC := Lib.hid hc
  have hXl : X.length ≤ 1099511627776 := by rw [← hP.len]; exact hf.way
  have g6 : w0.cell? ⟨D, 6, none⟩ = some (.slice A6 X.length cap6) := hP0.blk.cell 6
  have HWY := Lib.hid hP.way
  have hs0 := hC0.size
  obtain ⟨B, hB⟩ : ∃ B, B = w0.heap.size := ⟨_, rfl⟩
  have hs0' : w.heap.size ≤ B := by omega
  have HB := Lib.hid hB
  have HST : Hid (TwoL B w0 w0 (.slice none 0 0) (.slice none 0 0) ((X.take 0).filter fun y => stayB (p.clock + 1) y.1) ((X.take 0).filter fun y => hereB c p (p.clock + 1) y.1)) := Lib.hid ⟨Below.refl _ _, by omega, ⟨by simp [rowsP], .inl ⟨rfl, rfl⟩⟩, ⟨by simp [rowsP], .inl ⟨rfl, rfl⟩⟩, fun g h => by simp [Value.ownBlock] at h⟩
  clear hw0 hP0 hF0 hF hC0 hP hc hf c0 c2 c3 c4 c5 c6 hB
  go_enter Try.func21, Try.ntmps21
  go_upto_region 2 with fail
  rw [← HW0.out]
  clear c1 f1 hw1k
  go_wp2_with fail
  go_loopw [3, 4, 6, 19] (fun v3 v4 _ i wr => ∃ k : Nat, k ≤ X.length ∧ i = .int .i64 (k : Int) ∧ Hid (TwoL B w0 wr v4 v3 ((X.take k).filter fun y => stayB (p.clock + 1) y.1) ((X.take k).filter fun y => hereB c p (p.clock + 1) y.1))) (fun _ _ _ i _ => X.length - (intOf i).toNat)
  case atStart => exact ⟨0, by omega, rfl, HST⟩
  case round =>
    clear HST g6
    obtain ⟨k, hk, rfl, HT⟩ := hrel
    have hsr := HT.out.below.size
    obtain ⟨A4, cap4, rfl, hcp4, hcm4⟩ := own_shape HT.out.l
    obtain ⟨A3, cap3, rfl, hcp3, hcm3⟩ := own_shape HT.out.h
    have HPR : Hid (PN wr F c D { p with clock := p.clock + 1 } m P S L (.slice A6 X.length cap6) X) := Lib.hid (HP0.out.below HF0.out (HB.out ▸ HT.out.below))
    by_cases hlt : k < X.length
    · have hI : (k : Int) < (X.length : Int) := by omega
      obtain ⟨g, cap, f, y, hv, hx, hwk, m0, m1, m2, m3, m4⟩ := HPR.out.flt hlt
      simp only [Value.slice.injEq] at hv
      obtain ⟨rfl, _, rfl⟩ := hv
      have hlL : ((X.take k).filter fun y => stayB (p.clock + 1) y.1).length ≤ 1099511627776 := Nat.le_trans (List.length_filter_le _ _) (by rw [List.length_take]; omega)
      have hlH : ((X.take k).filter fun y => hereB c p (p.clock + 1) y.1).length ≤ 1099511627776 := Nat.le_trans (List.length_filter_le _ _) (by rw [List.length_take]; omega)
      have HXK := Lib.hid hx
      have hb1 := one_box' wr (.cells #[.int .i64 (f.id : Int), .int .i64 (f.src : Int), .int .i64 (f.dst : Int), .int .i64 (f.due : Int), .slice (some ⟨y, 0, none⟩) f.bs.length f.bs.length] 48)
      have hX1 := Blk.new wr 48 #[.int .i64 (f.id : Int), .int .i64 (f.src : Int), .int .i64 (f.dst : Int), .int .i64 (f.due : Int), .slice (some ⟨y, 0, none⟩) f.bs.length f.bs.length]
      obtain ⟨w1, hw1⟩ : ∃ w1, w1 = wr.alloc (.cells #[.int .i64 (f.id : Int), .int .i64 (f.src : Int), .int .i64 (f.dst : Int), .int .i64 (f.due : Int), .slice (some ⟨y, 0, none⟩) f.bs.length f.bs.length] 48) := ⟨_, rfl⟩
      rw [← hw1] at hb1 hX1
      have HW1 := Lib.hid hw1
      have HT1 := Lib.hid (HT.out.over hb1)
      have HFr : Hid (∀ j, F j → j < wr.heap.size) := Lib.hid fun j hj => by have := HF0.out j hj; omega
      have HPX : Hid (∀ W, Below w1.heap.size w1 W → PNx W F c D { p with clock := p.clock + 1 } m) := Lib.hid fun W hW => (PNx.of HPR.out HFr.out).below (hb1.trans (hW.mono hb1.size))
      have HXW : Hid (∀ W, Below w1.heap.size w1 W → Blk W wr.heap.size 48 #[.int .i64 (f.id : Int), .int .i64 (f.src : Int), .int .i64 (f.dst : Int), .int .i64 (f.due : Int), .slice (some ⟨y, 0, none⟩) f.bs.length f.bs.length]) := Lib.hid fun W hW => hX1.over hW
      have q1 : (w1.drew).cell? ⟨D, 1, none⟩ = some (.int .i64 ((p.clock : Int) + 1)) := (HPR.out.below HFr.out hb1).blk.cell 1
      have q3 : (w1.drew).cell? ⟨wr.heap.size, 3, none⟩ = some (.int .i64 (f.due : Int)) := hX1.cell 3
      have HQ : Hid (w1.cell? ⟨D, 1, none⟩ = some (.int .i64 ((p.clock : Int) + 1)) ∧ w1.cell? ⟨wr.heap.size, 3, none⟩ = some (.int .i64 (f.due : Int))) := Lib.hid ⟨q1, q3⟩
      clear hw1 hX1 hb1 hx hwk q1 q3
      by_cases hst : p.clock + 1 < f.due
      · have e1 : decide ((f.due : Int) > (p.clock : Int) + 1) = true := by simp; omega
        have hgt : (f.due : Int) > (p.clock : Int) + 1 := by omega
        have HE1 : Hid ((X.take (k + 1)).filter (fun y => stayB (p.clock + 1) y.1) = (X.take k).filter (fun y => stayB (p.clock + 1) y.1) ++ [(f, y)]) := Lib.hid (by rw [filt_take HXK.out, if_pos (by simpa [stayB] using hst)])
        have HE2 : Hid ((X.take (k + 1)).filter (fun y => hereB c p (p.clock + 1) y.1) = (X.take k).filter (fun y => hereB c p (p.clock + 1) y.1)) := Lib.hid (by rw [filt_take HXK.out, if_neg (by simp [hereB, stayB, hst]), List.append_nil])
        clear hst
        generalize (X.take k).filter (fun y => stayB (p.clock + 1) y.1) = LL at *
        generalize (X.take k).filter (fun y => hereB c p (p.clock + 1) y.1) = HH at *
        go_upto_region 6 with fail
        rw [← HW1.out]
        obtain ⟨q1, q3⟩ := HQ.out
        clear m0 m1 m2 m3 m4
        go_quiet (fail)
        have hbq : Below w1.heap.size w1 (w1.drewN nq) := below_drewN (Below.refl _ _) nq
        have hxq := HXW.out _ hbq
        have z0 : (w1.drewN nq).cell? ⟨wr.heap.size, 0, none⟩ = some (.int .i64 (f.id : Int)) := hxq.cell 0
        have z1 : (w1.drewN nq).cell? ⟨wr.heap.size, 1, none⟩ = some (.int .i64 (f.src : Int)) := hxq.cell 1
        have z2 : (w1.drewN nq).cell? ⟨wr.heap.size, 2, none⟩ = some (.int .i64 (f.dst : Int)) := hxq.cell 2
        have z3 : (w1.drewN nq).cell? ⟨wr.heap.size, 3, none⟩ = some (.int .i64 (f.due : Int)) := hxq.cell 3
        have z4 : (w1.drewN nq).cell? ⟨wr.heap.size, 4, none⟩ = some (.slice (some ⟨y, 0, none⟩) f.bs.length f.bs.length) := hxq.cell 4
        have HT2 := Lib.hid (HT1.out.over hbq)
        clear hbq hxq q1 q3 HT1 HQ
        generalize w1.drewN nq = w2 at *
        have hB2 := HT2.out.size
        go_wp2_with (at_builtin; refine appN2 w2 (by rfl) _ _ 43 (by rfl) B 48 i0 _ 5 56 u_flights hi0 hz0 hz1 hz2 rfl (by decide) _ LL.length _ (by rfl) HT2.out.l #[.int .i64 (f.id : Int), .int .i64 (f.src : Int), .int .i64 (f.dst : Int), .int .i64 (f.due : Int), .slice (some ⟨y, 0, none⟩) f.bs.length f.bs.length] rfl (by rfl) (row_oneP f y) (by simp only [maxLen]; omega) (by omega) hB2 ?_; intro v9 w9 own9 hb9 hg9 hat9; have HT9 := Lib.hid (HT2.out.push (x := (f, y)) own9 hb9 hg9 hat9); clear own9 hb9 hg9 hat9)
        go_roundw
        case rel => exact ⟨k + 1, by omega, by go_num, by rw [HE1.out, HE2.out]; exact HT9⟩
        case measure => simp [intOf] <;> omega
      · have e1 : decide ((f.due : Int) > (p.clock : Int) + 1) = false := by simp; omega
        have hgt : ¬ (f.due : Int) > (p.clock : Int) + 1 := by omega
        have HE1 : Hid ((X.take (k + 1)).filter (fun y => stayB (p.clock + 1) y.1) = (X.take k).filter (fun y => stayB (p.clock + 1) y.1)) := Lib.hid (by rw [filt_take HXK.out, if_neg (by simpa [stayB] using hst), List.append_nil])
        have HE2 : Hid ((X.take (k + 1)).filter (fun y => hereB c p (p.clock + 1) y.1) = (X.take k).filter (fun y => hereB c p (p.clock + 1) y.1) ++ (if okB c p f = true then [(f, y)] else [])) := Lib.hid (by rw [filt_take HXK.out]; simp [hereB, stayB, hst])
        clear hst
        generalize (X.take k).filter (fun y => stayB (p.clock + 1) y.1) = LL at *
        generalize (X.take k).filter (fun y => hereB c p (p.clock + 1) y.1) = HH at *
        go_upto_region 6 with fail
        rw [← HW1.out]
        obtain ⟨q1, q3⟩ := HQ.out
        clear m0 m1 m2 m3 m4
        go_quiet (fail)
        have hbq : Below w1.heap.size w1 (w1.drewN nq) := below_drewN (Below.refl _ _) nq
        have hxq := HXW.out _ hbq
        have z1 : (w1.drewN nq).cell? ⟨wr.heap.size, 1, none⟩ = some (.int .i64 (f.src : Int)) := hxq.cell 1
        have z2 : (w1.drewN nq).cell? ⟨wr.heap.size, 2, none⟩ = some (.int .i64 (f.dst : Int)) := hxq.cell 2
        have HT2 := Lib.hid (HT1.out.over hbq)
        have HXW2 : Hid (∀ W, Below (w1.drewN nq).heap.size (w1.drewN nq) W → Blk W wr.heap.size 48 #[.int .i64 (f.id : Int), .int .i64 (f.src : Int), .int .i64 (f.dst : Int), .int .i64 (f.due : Int), .slice (some ⟨y, 0, none⟩) f.bs.length f.bs.length]) := Lib.hid fun W hW => HXW.out W (hbq.trans (hW.mono hbq.size))
        have HOP := Lib.hid (Open_any HC.out (HPX.out _ hbq) (f.src : Int) (f.dst : Int))
        have HUP := Lib.hid fun (W : World) (hW : Below (w1.drewN nq).heap.size (w1.drewN nq) W) => Up_any (HPX.out W (hbq.trans (hW.mono hbq.size))) (f.dst : Int)
        clear hbq hxq q1 q3 HT1 HQ HXW HPX
        generalize w1.drewN nq = w2 at *
        have hB2 := HT2.out.size
        have HOK : Hid (okB c p f = (openB c p.shut (f.src : Int) (f.dst : Int) && upA c p.down (f.dst : Int))) := Lib.hid rfl
        cases ho : openB c p.shut (f.src : Int) (f.dst : Int) with
        | false =>
          rw [ho] at HOK
          simp only [ho] at HOP
          clear ho
          go_wp2_with (go_at_call 47; refine HOP.out.mono ?_; rintro _ w3 ⟨rfl, hb3⟩)
          have HT3 := Lib.hid (HT2.out.over hb3)
          clear hb3 z1 z2
          go_roundw
          case rel => exact ⟨k + 1, by omega, by go_num, by rw [HE1.out, HE2.out, HOK.out]; simpa using HT3⟩
          case measure => simp [intOf] <;> omega
        | true =>
          rw [ho] at HOK
          simp only [ho] at HOP
          clear ho
          cases hu : upA c p.down (f.dst : Int) with
          | false =>
            rw [hu] at HOK
            simp only [hu] at HUP
            clear hu
            go_wp2_with ((first | (go_at_call 47; refine HOP.out.mono ?_; rintro _ w3 ⟨rfl, hb3⟩; have u2 : w3.cell? ⟨wr.heap.size, 2, none⟩ = some (.int .i64 (f.dst : Int)) := (HXW2.out w3 hb3).cell 2) | (go_at_call 18; refine (HUP.out w3 hb3).mono ?_; rintro _ _ ⟨rfl, rfl⟩)))
            have HT3 := Lib.hid (HT2.out.over hb3)
            clear hb3 z1 z2
            go_roundw
            case rel => exact ⟨k + 1, by omega, by go_num, by rw [HE1.out, HE2.out, HOK.out]; simpa using HT3⟩
            case measure => simp [intOf] <;> omega
          | true =>
            rw [hu] at HOK
            simp only [hu] at HUP
            clear hu
            go_upto_region 9 with ((first | (go_at_call 47; refine HOP.out.mono ?_; rintro _ w3 ⟨rfl, hb3⟩; have u2 : w3.cell? ⟨wr.heap.size, 2, none⟩ = some (.int .i64 (f.dst : Int)) := (HXW2.out w3 hb3).cell 2) | (go_at_call 18; refine (HUP.out w3 hb3).mono ?_; rintro _ _ ⟨rfl, rfl⟩)))
            have HT3 := Lib.hid (HT2.out.over hb3)
            have hxq := HXW2.out w3 hb3
            have z0 : w3.cell? ⟨wr.heap.size, 0, none⟩ = some (.int .i64 (f.id : Int)) := hxq.cell 0
            have z1' : w3.cell? ⟨wr.heap.size, 1, none⟩ = some (.int .i64 (f.src : Int)) := hxq.cell 1
            have z3 : w3.cell? ⟨wr.heap.size, 3, none⟩ = some (.int .i64 (f.due : Int)) := hxq.cell 3
            have z4 : w3.cell? ⟨wr.heap.size, 4, none⟩ = some (.slice (some ⟨y, 0, none⟩) f.bs.length f.bs.length) := hxq.cell 4
            have hB3 := HT3.out.size
            clear hb3 z1 z2 hxq
            go_wp2_with (at_builtin; refine appN2 w3 (by rfl) _ _ 43 (by rfl) B 48 i0 _ 5 56 u_flights hi0 hz0 hz1 hz2 rfl (by decide) _ HH.length _ (by rfl) HT3.out.h #[.int .i64 (f.id : Int), .int .i64 (f.src : Int), .int .i64 (f.dst : Int), .int .i64 (f.due : Int), .slice (some ⟨y, 0, none⟩) f.bs.length f.bs.length] rfl (by rfl) (row_oneP f y) (by simp only [maxLen]; omega) (by omega) hB3 ?_; intro v9 w9 own9 hb9 hg9 hat9; have HT9 := Lib.hid (HT3.out.swap.push (x := (f, y)) own9 hb9 hg9 hat9).swap; clear own9 hb9 hg9 hat9)
            go_roundw
            case rel => exact ⟨k + 1, by omega, by go_num, by rw [HE1.out, HE2.out, HOK.out]; simpa using HT9⟩
            case measure => simp [intOf] <;> omega
    · obtain rfl : k = X.length := by omega
      have HT' : Hid (TwoL B w0 wr (.slice A4 ((X.filter fun y => stayB (p.clock + 1) y.1)).length cap4) (.slice A3 ((X.filter fun y => hereB c p (p.clock + 1) y.1)).length cap3) (X.filter fun y => stayB (p.clock + 1) y.1) (X.filter fun y => hereB c p (p.clock + 1) y.1)) := Lib.hid (by
        have h := HT.out
        rwa [List.take_length] at h)
      rw [List.take_length]
      clear HT
      have r6 : wr.cell? ⟨D, 6, none⟩ = some (.slice A6 X.length cap6) := HPR.out.blk.cell 6
      have rf : wr.frozen? ⟨D, 6, none⟩ = false := HPR.out.blk.frozen 6
      obtain ⟨w5, hw5⟩ : ∃ w5, w5 = wr.setCell ⟨D, 6, none⟩ (.slice A4 ((X.filter fun y => stayB (p.clock + 1) y.1)).length cap4) := ⟨_, rfl⟩
      have HE : Hid (RoundR w F c D p m (.returned (.slice A3 ((X.filter fun y => hereB c p (p.clock + 1) y.1)).length cap3)) w5) := by
        have hlB : ∀ g, (Value.slice A4 ((X.filter fun y => stayB (p.clock + 1) y.1)).length cap4).ownBlock = some g → g < wr.heap.size ∧ B ≤ g := fun g hg => ⟨(own_block_lt HT'.out.l hg).1, (own_block_lt HT'.out.l hg).2.1⟩
        have hhB : ∀ g, (Value.slice A3 ((X.filter fun y => hereB c p (p.clock + 1) y.1)).length cap3).ownBlock = some g → B ≤ g := fun g hg => (own_block_lt HT'.out.h hg).2.1
        have hDw := HF.out D HPR.out.fd
        have hBe := HB.out
        have hP5 := HPR.out.setV (w' := wr) (F' := fun j => F j ∨ (Value.slice A4 ((X.filter fun y => stayB (p.clock + 1) y.1)).length cap4).ownBlock = some j) (way' := p.way.filter (stayB (p.clock + 1))) (Chg.refl _ _) (fun _ h => .inl h) (own_base HT'.out.l (Nat.zero_le _)) (by rw [← HWY.out, List.filter_map]; rfl) (fun x hx => HPR.out.bytes x (List.mem_filter.1 hx).1) (HPR.out.nodup.sublist (List.Sublist.map _ List.filter_sublist)) (fun g hg => .inr hg) (fun x hx => .inl (HPR.out.fx x (List.mem_filter.1 hx).1))
        rw [← hw5] at hP5
        have hs5 : w5.heap.size = wr.heap.size := by rw [hw5]; simp [World.setCell]
        refine Lib.hid ⟨_, _, rfl, ⟨X.filter fun y => hereB c p (p.clock + 1) y.1, by rw [roundL, ← HWY.out, List.filter_map]; rfl, ?_, fun x hx => ?_, fun x hx => HPR.out.fx x (List.mem_filter.1 hx).1⟩, ⟨fun j hj => ?_, P, S, L, _, _, hP5⟩, fun j hj => ?_, ?_⟩
        · rw [hw5]
          refine own_base (own_far HT'.out.h fun g hg e => ?_) hs0'
          have h1 := hhB g hg
          have h2 : g = D := e
          omega
        · rw [hw5]
          have h1 := HPR.out.bytes x (List.mem_filter.1 hx).1
          exact h1.far (h1.ne_ HPR.out.blk (by decide)) _
        · rw [hs5]
          rcases hj with h | h
          · have := HF.out j h; omega
          · exact (hlB j h).1
        · rcases hj with h | h
          · exact .inl h
          · right; have := (hlB j h).2; omega
        · rw [hw5]
          exact ((HC0.out.trans (Chg.of_below (hBe ▸ HT'.out.below) F))).setCell (.inl HPR.out.fd) _
      have HW5 := Lib.hid hw5
      clear hw5
      go_upto_region 12 with fail
      rw [← HW5.out]
      go_wp2
      go_ret
      exact HE.out
end Go.Proofs.Ytgfhmfhhobhojaa
