/-
  The document's network: Round. And: The document's network: Round, what its loop keeps.
-/
import Derived.Test.YtgfhmfhhobhojaaERefK
namespace Go.Proofs.Ytgfhmfhhobhojaa
open Go.ChangeShapes Go.WideShapes Go.ChangeAt Go.RowKit
def rowV (x : Flt × Value) : List Value := [.int .i64 (x.1.id : Int), .int .i64 (x.1.src : Int), .int .i64 (x.1.dst : Int), .int .i64 (x.1.due : Int), x.2]
def rowsV (H : List (Flt × Value)) : List Value := (H.map rowV).flatten
theorem rowsV_app (H : List (Flt × Value)) (x : Flt × Value) : rowsV (H ++ [x]) = rowsV H ++ rowV x := by simp [rowsV]
theorem rowsV_length (H : List (Flt × Value)) : (rowsV H).length = H.length * 5 := by
  induction H with
  | nil => rfl
  | cons x t ih => simp only [rowsV, List.map_cons, List.flatten_cons, List.length_append] at ih ⊢; rw [ih]; simp [rowV]; omega
theorem rowV_one (f : Flt) (A : Option Addr) (n cap : Nat) : ∀ u ∈ (#[.int .i64 (f.id : Int), .int .i64 (f.src : Int), .int .i64 (f.dst : Int), .int .i64 (f.due : Int), .slice A n cap] : Array Value).toList, u.oneCell' = true := by
  intro u hu
  simp only [List.mem_cons, List.not_mem_nil, or_false] at hu
  rcases hu with rfl | rfl | rfl | rfl | rfl <;> rfl
def rndK (t : Nat) (a : List (Flt × Bool)) (k : Nat) : List (Flt × Bool) := (a.take k).map (rnd t) ++ a.drop k
theorem rndK_zero (t : Nat) (a : List (Flt × Bool)) : rndK t a 0 = a := by simp [rndK]
theorem rndK_end (t : Nat) (a : List (Flt × Bool)) : rndK t a a.length = a.map (rnd t) := by simp [rndK]
theorem rndK_length (t : Nat) (a : List (Flt × Bool)) (k : Nat) : (rndK t a k).length = a.length := by simp [rndK]; omega
theorem rndK_get {t : Nat} {a : List (Flt × Bool)} {k : Nat} (h : k < a.length) : (rndK t a k)[k]? = a[k]? := by
  unfold rndK
  rw [List.getElem?_append_right (by simp; omega)]
  simp only [List.length_map, List.length_take, List.getElem?_drop]
  congr 1
  omega
theorem rndK_set {t : Nat} {a : List (Flt × Bool)} {k : Nat} {x : Flt × Bool} (h : a[k]? = some x) : rndK t a (k + 1) = (rndK t a k).set k (rnd t x) := by
  have hk : k < a.length := (List.getElem?_eq_some_iff.1 h).1
  have hx : a[k] = x := (List.getElem?_eq_some_iff.1 h).2
  unfold rndK
  rw [List.set_append_right _ _ (by simp; omega), List.take_add_one, h]
  simp only [List.map_append, Option.toList_some, List.map_cons, List.map_nil, List.length_map, List.length_take, List.append_assoc]
  congr 1
  rw [show k - min k a.length = 0 by omega, List.drop_eq_getElem_cons hk, List.set_cons_zero]
  rfl
theorem rndK_stay {t : Nat} {a : List (Flt × Bool)} {k : Nat} {x : Flt × Bool} (h : a[k]? = some x) (hx : rnd t x = x) : rndK t a (k + 1) = rndK t a k := by
  have hk : k < a.length := (List.getElem?_eq_some_iff.1 h).1
  rw [rndK_set h, hx]
  have h1 := rndK_get (t := t) hk
  rw [h] at h1
  obtain ⟨h2, h3⟩ := List.getElem?_eq_some_iff.1 h1
  rw [← h3, List.set_getElem_self]
def okR (r : RV) (f : Flt) : Bool := !r.shut f.src f.dst && r.up f.dst
def rK (r : RV) (k : Nat) : RV := { r with now := r.now + 1, all := rndK (r.now + 1) r.all k }
/-- The handed-out list while it grows: the first j packets are looked at. -/
structure OutS (B : Nat) (l : List Flt) (vo : Value) (m : Nat) (H : List (Flt × Value)) (wr : World) : Prop where
  len : m = H.length
  map : H.map (·.1) = l
  row : wr.ownsRow B 48 5 vo m (rowsV H)
  bytes : ∀ x ∈ H, wr.ownsRow B 5 1 x.2 x.1.bs.length (bvs x.1.bs)
structure RdS (w : World) (F : Nat → Prop) (c : ECfg) (D : Nat) (r : RV) (v : Value) (n k j : Nat) (vo : Value) (m : Nat) (wr : World) : Prop where
  rn : ∃ X' : List Pkt, X'.length = n ∧ RN wr F c D (rK r k) v X'
  out : ∃ H, OutS w.heap.size (((r.all.take j).filter (outB (r.now + 1) (okR r))).map (·.1)) vo m H wr
  chg : Chg F w wr
section
variable {w wr w' : World} {F : Nat → Prop} {c : ECfg} {D B : Nat} {r : RV} {v vo : Value} {n k j m : Nat} {H : List (Flt × Value)} {l : List Flt}
theorem OutS.over (h : OutS B l vo m H wr) (hb : Below wr.heap.size wr w') : OutS B l vo m H w' := ⟨h.len, h.map, own_over h.row hb, fun x hx => own_over (h.bytes x hx) hb⟩
theorem OutS.chg {S : Nat → Prop} (h : OutS B l vo m H wr) (hc : Chg S wr w') (hS : ∀ g, B ≤ g → ¬ S g) : OutS B l vo m H w' :=
  ⟨h.len, h.map, own_chg h.row hc fun g hg => hS g (own_block_lt h.row hg).2.1, fun x hx => own_chg (h.bytes x hx) hc fun g hg => hS g (own_block_lt (h.bytes x hx) hg).2.1⟩
theorem OutS.push {vo' u : Value} {f : Flt} (h : OutS B l vo m H wr) (hu : wr.ownsRow B 5 1 u f.bs.length (bvs f.bs)) (ho : w'.ownsRow B 48 5 vo' (m + 1) (rowsV H ++ rowV (f, u))) (hg : wr.grownBy w' vo.ownBlock) : OutS B (l ++ [f]) vo' (m + 1) (H ++ [(f, u)]) w' := by
  have hc : Chg (fun j => vo.ownBlock = some j) wr w' := (Chg.of_grown hg).mono fun _ _ e => e.symm
  have hn : ∀ {a : Value} {n : Nat} {xs : List Value} (_ : wr.ownsRow B 5 1 a n xs) (g : Nat), a.ownBlock = some g → ¬ vo.ownBlock = some g := fun ha g hga e => by
    obtain ⟨_, _, cu, hB⟩ := own_block_lt ha hga
    obtain ⟨_, _, cu', hB'⟩ := own_block_lt h.row e
    exact hB.ne_ hB' (by decide) rfl
  refine ⟨by rw [List.length_append, h.len]; rfl, by rw [List.map_append, h.map]; rfl, by rw [rowsV_app]; exact ho, fun x hx => ?_⟩
  rcases List.mem_append.1 hx with h1 | h1
  · exact own_chg (h.bytes x h1) hc (hn (h.bytes x h1))
  · simp only [List.mem_cons, List.not_mem_nil, or_false] at h1
    subst h1
    exact own_chg hu hc (hn hu)
theorem RdS.over (h : RdS w F c D r v n k j vo m wr) (hF : ∀ k, F k → k < w.heap.size) (hb : Below wr.heap.size wr w') : RdS w F c D r v n k j vo m w' := by
  obtain ⟨⟨X', h1, h2⟩, ⟨H, h3⟩, h4⟩ := h
  exact ⟨⟨X', h1, h2.below (fun k hk => Nat.lt_of_lt_of_le (hF k hk) h4.size) hb⟩, ⟨H, h3.over hb⟩, h4.trans (Chg.of_below hb F)⟩
theorem RdS.skip {x : Flt × Bool} (h : RdS w F c D r v n k j vo m wr) (hj : r.all[j]? = some x) (ho : outB (r.now + 1) (okR r) x = false) : RdS w F c D r v n k (j + 1) vo m wr := by
  refine ⟨h.rn, ?_, h.chg⟩
  have e : (r.all.take (j + 1)).filter (outB (r.now + 1) (okR r)) = (r.all.take j).filter (outB (r.now + 1) (okR r)) := by
    rw [List.take_add_one, hj, List.filter_append]
    simp [ho]
  rw [e]
  exact h.out
theorem RdS.stay {x : Flt × Bool} (h : RdS w F c D r v n k j vo m wr) (hk : r.all[k]? = some x) (hx : rnd (r.now + 1) x = x) : RdS w F c D r v n (k + 1) j vo m wr := by
  refine ⟨?_, h.out, h.chg⟩
  have e : rK r (k + 1) = rK r k := by unfold rK; rw [rndK_stay hk hx]
  rw [e]
  exact h.rn
theorem RdS.mark {g cap : Nat} {f : Flt} (h : RdS w F c D r (.slice (some ⟨g, 0, none⟩) n cap) n k j vo m wr) (hF : ∀ k, F k → k < w.heap.size) (hk : r.all[k]? = some (f, false)) (hd : f.due = r.now + 1) : RdS w F c D r (.slice (some ⟨g, 0, none⟩) n cap) n (k + 1) j vo m (wr.setCell ⟨g, k * 6 + 5, none⟩ (.bool true)) := by
  obtain ⟨⟨X', rfl, h2⟩, ⟨H, h3⟩, h4⟩ := h
  have hg : F g := h2.fv g rfl
  have hkl : k < r.all.length := (List.getElem?_eq_some_iff.1 hk).1
  have hlen : X'.length = r.all.length := by rw [← h2.len]; exact rndK_length _ _ _
  obtain ⟨_, _, f', q', u, _, hx, hai, _⟩ := h2.pkt (show k < X'.length by omega)
  have e1 : (rndK (r.now + 1) r.all k)[k]? = some (f, false) := (rndK_get hkl).trans hk
  have e2 : some (f', q') = some (f, false) := hai.symm.trans e1
  simp only [Option.some.injEq, Prod.mk.injEq] at e2
  obtain ⟨rfl, rfl⟩ := e2
  have hS := h2.setR (f' := f') (q' := true) (u' := .bool true) (i := 5) hx (by omega) rfl rfl
  refine ⟨⟨X'.set k ((f', true), u), List.length_set, ?_⟩, ⟨H, h3.chg ((Chg.refl (fun j => j = g) wr).setCell (p := ⟨g, k * 6 + 5, none⟩) (.inl rfl) _) fun q hq e => by have := hF g hg; omega⟩, h4.setCell (.inl hg) _⟩
  have e3 : rnd (r.now + 1) (f', false) = (f', true) := by simp [rnd, hd]
  have e : rK r (k + 1) = { rK r k with all := (rK r k).all.set k (f', true) } := by unfold rK; rw [rndK_set hk, e3]
  rw [e]
  exact hS
theorem RdS.push {vo' u : Value} {f : Flt} (h : RdS w F c D r v n k j vo m wr) (hF : ∀ k, F k → k < w.heap.size) (ho3 : OutS w.heap.size (((r.all.take j).filter (outB (r.now + 1) (okR r))).map (·.1)) vo m H wr) (hj : r.all[j]? = some (f, false)) (hy : outB (r.now + 1) (okR r) (f, false) = true) (hu : wr.ownsRow w.heap.size 5 1 u f.bs.length (bvs f.bs)) (ho : w'.ownsRow w.heap.size 48 5 vo' (m + 1) (rowsV H ++ rowV (f, u))) (hg : wr.grownBy w' vo.ownBlock) : RdS w F c D r v n k (j + 1) vo' (m + 1) w' := by
  obtain ⟨⟨X', h1, h2⟩, _, h4⟩ := h
  have hc : Chg (fun j => vo.ownBlock = some j) wr w' := (Chg.of_grown hg).mono fun _ _ e => e.symm
  have hB : ∀ g, vo.ownBlock = some g → w.heap.size ≤ g := fun g e => (own_block_lt ho3.row e).2.1
  refine ⟨⟨X', h1, h2.chg hc fun k hk e => by have := hF k hk; have := hB k e; omega⟩, ⟨H ++ [(f, u)], ?_⟩, h4.thenS hc fun k hk e => by have := hB k e; omega⟩
  have e : ((r.all.take (j + 1)).filter (outB (r.now + 1) (okR r))).map (·.1) = ((r.all.take j).filter (outB (r.now + 1) (okR r))).map (·.1) ++ [f] := by
    rw [List.take_add_one, hj, List.filter_append]
    simp [hy]
  rw [e]
  exact ho3.push hu ho hg
end
end Go.Proofs.Ytgfhmfhhobhojaa
namespace Go.Proofs.Ytgfhmfhhobhojaa
open Go.ChangeShapes Go.WideShapes Go.ChangeAt Go.RowKit
variable {w : World} {F : Nat → Prop} {c : ECfg} {D : Nat} {r : RV}
def roundRP (r : RV) : RV := { r with now := r.now + 1, all := r.all.map (rnd (r.now + 1)) }
def roundRL (r : RV) : List Flt := (r.all.filter (outB (r.now + 1) (okR r))).map (·.1)
def RRoundR (w : World) (F : Nat → Prop) (c : ECfg) (D : Nat) (r : RV) (e : Ending) (w' : World) : Prop :=
  ∃ vo m H, e = .returned vo ∧ OutS w.heap.size (roundRL r) vo m H w' ∧ RNx w' F c D (roundRP r) ∧ Chg F w w'
set_option maxRecDepth 100000 in
set_option maxHeartbeats 6400000 in
theorem RRound_any (_hc : c.Ok) (h : RNx w F c D r) (hf : RFine r) : Calls Try.prog 73 #[.pointer (some ⟨D, 0, none⟩)] w (RRoundR w F c D r) := by
  obtain ⟨i0, hi0, hz0, hz1, hz2⟩ := info_parts info_flight
  obtain ⟨hF, v, X, hX⟩ := h
  obtain ⟨A6, cap6, rfl, hcp6, hcm6⟩ := own_shape hX.row
  have hXl : X.length ≤ 1099511627776 := by rw [← hX.len]; exact hf.all
  obtain ⟨n, hn⟩ : ∃ n, n = X.length := ⟨_, rfl⟩
  rw [← hn] at hX hXl hcp6
  have hnr : n = r.all.length := by rw [hn]; exact hX.len.symm
  have c2 : w.cell? ⟨D, 2, none⟩ = some (.int .i64 (r.now : Int)) := hX.cell.2.2.1
  have f2 : w.frozen? ⟨D, 2, none⟩ = false := hX.blk.frozen 2
  have hiw : IntKind.i64.wrap ((r.now : Int) + 1) = (r.now : Int) + 1 := IntWalk.i64_in _ (by have := hf.now; omega)
  obtain ⟨w0, hw0⟩ : ∃ w0, w0 = w.setCell ⟨D, 2, none⟩ (.int .i64 ((r.now : Int) + 1)) := ⟨_, rfl⟩
  have hX0 : RN w0 F c D { r with now := r.now + 1 } (.slice A6 n cap6) X := by
    rw [hw0]
    have e := net_now c r (.slice A6 n cap6) (r.now + 1)
    rw [Int.natCast_add] at e
    exact hX.setD e rfl
  have hC0 : Chg F w w0 := by rw [hw0]; exact (Chg.refl F w).setCell (.inl hX.fd) _
  have HST : Hid (RdS w F c D r (.slice A6 n cap6) n 0 0 (.slice none 0 0) 0 w0) := Lib.hid ⟨⟨X, hn.symm, by unfold rK; rw [rndK_zero]; exact hX0⟩, ⟨[], ⟨rfl, by simp, ⟨by simp [rowsV], .inl ⟨rfl, rfl⟩⟩, fun x hx => by simp at hx⟩⟩, hC0⟩
  have HF := Lib.hid hF
  have HW0 := Lib.hid hw0
  have HFL := Lib.hid hf.fl
  have HNR := Lib.hid hnr
  have hnow := hf.now
  have hN1 : ((r.now + 1 : Nat) : Int) = (r.now : Int) + 1 := by omega
  clear hX hX0 hC0 hF hw0 hf hn _hc hnr
  go_enter Try.func73, Try.ntmps73
  go_upto_region 2 with fail
  rw [← HW0.out]
  clear c2 f2 hiw
  go_wp2_with fail
  go_loopw [3, 4] (fun vo i wr => ∃ k m : Nat, k ≤ n ∧ m ≤ k ∧ i = .int .i64 (k : Int) ∧ Hid (RdS w F c D r (.slice A6 n cap6) n k k vo m wr)) (fun _ i _ => n - (intOf i).toNat)
  case atStart => exact ⟨0, 0, by omega, by omega, rfl, HST⟩
  case round =>
    clear HST
    obtain ⟨k, m, hk, hm, rfl, HT⟩ := hrel
    obtain ⟨X', hXn, hXr⟩ := HT.out.rn
    obtain ⟨H, hO⟩ := HT.out.out
    obtain ⟨A3, cap3, rfl, hcp3, hcm3⟩ := own_shape hO.row
    have c6 : wr.cell? ⟨D, 563, none⟩ = some (.slice A6 n cap6) := hXr.cell.2.2.2
    have HO := Lib.hid hO
    by_cases hlt : k < n
    · have hI : (k : Int) < (n : Int) := by omega
      obtain ⟨g, cp, f, q, u, hv, hx, hai, m0, m1, m2, m3, m4, m5⟩ := hXr.pkt (show k < X'.length by omega)
      injection hv with hv1 hv2 hv3
      subst hv1
      clear hv2 hv3 hXn
      have hak : r.all[k]? = some (f, q) := (rndK_get (t := r.now + 1) (by rw [← HNR.out]; exact hlt)).symm.trans hai
      have HAK := Lib.hid hak
      obtain ⟨hs16, hd16, hdue, hbl⟩ := HFL.out _ (List.mem_of_getElem? hak)
      dsimp only at hs16 hd16 hdue hbl
      have hsI : (f.src : Int) < 16 := by omega
      have hdI : (f.dst : Int) < 16 := by omega
      have hby := hXr.bytes _ (List.mem_of_getElem? hx)
      dsimp only at hby
      obtain ⟨uA, uc, rfl, _, _⟩ := own_shape hby
      have hb1 := one_box' wr (.cells #[.int .i64 (f.id : Int), .int .i64 (f.src : Int), .int .i64 (f.dst : Int), .int .i64 (f.due : Int), .slice uA f.bs.length uc] 48)
      have hY1 := Blk.new wr 48 #[.int .i64 (f.id : Int), .int .i64 (f.src : Int), .int .i64 (f.dst : Int), .int .i64 (f.due : Int), .slice uA f.bs.length uc]
      obtain ⟨w1, hw1⟩ : ∃ w1, w1 = wr.alloc (.cells #[.int .i64 (f.id : Int), .int .i64 (f.src : Int), .int .i64 (f.dst : Int), .int .i64 (f.due : Int), .slice uA f.bs.length uc] 48) := ⟨_, rfl⟩
      rw [← hw1] at hb1 hY1
      have HW1 := Lib.hid hw1
      have HT1 := Lib.hid (HT.out.over HF.out hb1)
      have HBY1 := Lib.hid (own_over hby hb1)
      have HY1 := Lib.hid hY1
      have HB1 := Lib.hid hb1
      have HO1 := Lib.hid (hO.over hb1)
      have hszr := HT.out.chg.size
      have hsz1 := hb1.size
      have hg1 : g < wr.heap.size := (own_block_lt hXr.row (g := g) rfl).1
      have z5 : w1.cell? ⟨g, k * 6 + 5, none⟩ = some (.bool q) := (hb1.cell (p := ⟨g, k * 6 + 5, none⟩) hg1).trans m5
      have z6 : w1.cell? ⟨D, 563, none⟩ = some (.slice (some ⟨g, 0, none⟩) n cap6) := by
        obtain ⟨Y', _, hYr⟩ := HT1.out.rn
        exact hYr.cell.2.2.2
      have z2 : w1.cell? ⟨D, 2, none⟩ = some (.int .i64 ((r.now : Int) + 1)) := by
        obtain ⟨Y', _, hYr⟩ := HT1.out.rn
        rw [← hN1]
        exact hYr.cell.2.2.1
      have y3 : w1.cell? ⟨wr.heap.size, 3, none⟩ = some (.int .i64 (f.due : Int)) := hY1.cell 3
      clear hXr hO hw1 hb1 hY1 hby hx hai hak m5
      cases q with
      | true =>
        have HN : Hid (∀ j, RdS w F c D r (.slice (some ⟨g, 0, none⟩) n cap6) n (k + 1) (k + 1) (.slice A3 m cap3) m (w1.drewN j)) := Lib.hid fun j => ((HT1.out.stay HAK.out (by simp [rnd])).skip HAK.out (by simp [outB])).over HF.out (below_drewN (Below.refl _ _) j)
        go_upto_region 7 with fail
        rw [← HW1.out]
        clear m0 m1 m2 m3 m4 c6
        go_quiet (fail)
        have HNQ := Lib.hid (HN.out nq)
        obtain ⟨w2, hw2⟩ : ∃ w2, w2 = w1.drewN nq := ⟨_, rfl⟩
        rw [← hw2] at HNQ ⊢
        clear hw2 HN
        go_wp2_with fail
        go_roundw
        case rel => exact ⟨k + 1, m, by omega, by omega, by go_num, HNQ⟩
        case measure => simp [intOf] <;> omega
      | false =>
        obtain ⟨_, _, cur1, hB1⟩ : g < w1.heap.size ∧ True ∧ ∃ cur, Blk w1 g 115 cur := by
          obtain ⟨Y', _, hYr⟩ := HT1.out.rn
          obtain ⟨h1, _, cu, hB⟩ := own_block_lt hYr.row (g := g) rfl
          exact ⟨h1, trivial, cu, hB⟩
        have HBG := Lib.hid hB1
        clear hB1
        by_cases hd : f.due = r.now + 1
        · have HD := Lib.hid hd
          clear hd
          go_upto_region 7 with fail
          rw [← HW1.out]
          clear m0 m1 m2 m3 m4 c6
          have hdn : (f.due : Int) = (r.now : Int) + 1 := by have := HD.out; omega
          go_quiet (fail)
          obtain ⟨w2, hw2⟩ : ∃ w2, w2 = w1.drewN nq := ⟨_, rfl⟩
          have z5' : w2.cell? ⟨g, k * 6 + 5, none⟩ = some (.bool false) := by rw [hw2]; exact z5
          have z6' : w2.cell? ⟨D, 563, none⟩ = some (.slice (some ⟨g, 0, none⟩) n cap6) := by rw [hw2]; exact z6
          have zf' : w2.frozen? ⟨g, k * 6 + 5, none⟩ = false := by rw [hw2]; exact HBG.out.frozen _
          rw [← hw2]
          obtain ⟨w3, hw3⟩ : ∃ w3, w3 = w2.setCell ⟨g, k * 6 + 5, none⟩ (.bool true) := ⟨_, rfl⟩
          have hT2 : RdS w F c D r (.slice (some ⟨g, 0, none⟩) n cap6) n k k (.slice A3 m cap3) m w2 := by rw [hw2]; exact HT1.out.over HF.out (below_drewN (Below.refl _ _) nq)
          have hT3 : RdS w F c D r (.slice (some ⟨g, 0, none⟩) n cap6) n (k + 1) k (.slice A3 m cap3) m w3 := by rw [hw3]; exact hT2.mark HF.out HAK.out HD.out
          have hgF : F g := by
            obtain ⟨Y', _, hYr⟩ := hT2.rn
            exact hYr.fv g rfl
          have hgB : g < w.heap.size := HF.out g hgF
          have hy3 : Blk w3 wr.heap.size 48 #[.int .i64 (f.id : Int), .int .i64 (f.src : Int), .int .i64 (f.dst : Int), .int .i64 (f.due : Int), .slice uA f.bs.length uc] := by
            rw [hw3, hw2]
            have h1 : Blk (w1.drewN nq) wr.heap.size 48 #[.int .i64 (f.id : Int), .int .i64 (f.src : Int), .int .i64 (f.dst : Int), .int .i64 (f.due : Int), .slice uA f.bs.length uc] := HY1.out
            exact h1.far (Nat.ne_of_gt (Nat.lt_of_lt_of_le hgB hszr)) _
          have hu3 : w3.ownsRow 0 5 1 (.slice uA f.bs.length uc) f.bs.length (bvs f.bs) := by
            rw [hw3, hw2]
            have h1 : (w1.drewN nq).ownsRow 0 5 1 (.slice uA f.bs.length uc) f.bs.length (bvs f.bs) := HBY1.out
            refine own_far h1 fun q hq e => ?_
            obtain ⟨_, _, cu, hB⟩ := own_block_lt HBY1.out hq
            exact hB.ne_ HBG.out (by decide) e
          have HW3 := Lib.hid hw3
          have HT3 := Lib.hid hT3
          have HY3 := Lib.hid hy3
          have HU3 := Lib.hid hu3
          have x1 : w3.cell? ⟨wr.heap.size, 1, none⟩ = some (.int .i64 (f.src : Int)) := hy3.cell 1
          have x2 : w3.cell? ⟨wr.heap.size, 2, none⟩ = some (.int .i64 (f.dst : Int)) := hy3.cell 2
          have hpn : w3.cell? ⟨D, 51 + f.src * 16 + f.dst, none⟩ = some (.bool (r.shut f.src f.dst)) ∧ w3.cell? ⟨D, 3 + f.dst, none⟩ = some (.bool (r.up f.dst)) := by
            obtain ⟨Y', _, hYr⟩ := hT3.rn
            exact ⟨(hYr.path hs16 hd16).1, (hYr.node hd16).1⟩
          obtain ⟨p0, n0⟩ := hpn
          have hsz3 : w3.heap.size = w1.heap.size := by rw [hw3, hw2]; simp [World.setCell]
          clear hw2 hw3 hT2 hT3 hy3 hu3 z5 z6 z2 y3 hdn hN1
          go_upto_region 9 with fail
          rw [← HW3.out]
          clear z5' z6' zf'
          cases hs : r.shut f.src f.dst with
          | true =>
            rw [hs] at p0
            have HN : Hid (∀ j, RdS w F c D r (.slice (some ⟨g, 0, none⟩) n cap6) n (k + 1) (k + 1) (.slice A3 m cap3) m (w3.drewN j)) := Lib.hid fun j => (HT3.out.skip HAK.out (by simp [outB, okR, hs])).over HF.out (below_drewN (Below.refl _ _) j)
            clear hs n0
            go_quiet (fail)
            have HNQ := Lib.hid (HN.out nq)
            obtain ⟨w4, hw4⟩ : ∃ w4, w4 = w3.drewN nq := ⟨_, rfl⟩
            rw [← hw4] at HNQ ⊢
            clear hw4 HN x1 x2 p0
            go_wp2_with fail
            go_roundw
            case rel => exact ⟨k + 1, m, by omega, by omega, by go_num, HNQ⟩
            case measure => simp [intOf] <;> omega
          | false =>
            rw [hs] at p0
            cases hu : r.up f.dst with
            | false =>
              rw [hu] at n0
              have HN : Hid (∀ j, RdS w F c D r (.slice (some ⟨g, 0, none⟩) n cap6) n (k + 1) (k + 1) (.slice A3 m cap3) m (w3.drewN j)) := Lib.hid fun j => (HT3.out.skip HAK.out (by simp [outB, okR, hs, hu])).over HF.out (below_drewN (Below.refl _ _) j)
              clear hs hu
              go_quiet (fail)
              have HNQ := Lib.hid (HN.out nq)
              obtain ⟨w4, hw4⟩ : ∃ w4, w4 = w3.drewN nq := ⟨_, rfl⟩
              rw [← hw4] at HNQ ⊢
              clear hw4 HN x1 x2 p0 n0
              go_wp2_with fail
              go_roundw
              case rel => exact ⟨k + 1, m, by omega, by omega, by go_num, HNQ⟩
              case measure => simp [intOf] <;> omega
            | true =>
              rw [hu] at n0
              have HYES : Hid (outB (r.now + 1) (okR r) (f, false) = true) := Lib.hid (by simp [outB, okR, hs, hu, HD.out])
              clear hs hu
              go_quiet (fail)
              obtain ⟨w4, hw4⟩ : ∃ w4, w4 = w3.drewN nq := ⟨_, rfl⟩
              have hy4 : Blk w4 wr.heap.size 48 #[.int .i64 (f.id : Int), .int .i64 (f.src : Int), .int .i64 (f.dst : Int), .int .i64 (f.due : Int), .slice uA f.bs.length uc] := by rw [hw4]; exact HY3.out
              have HT4 : Hid (RdS w F c D r (.slice (some ⟨g, 0, none⟩) n cap6) n (k + 1) k (.slice A3 m cap3) m w4) := Lib.hid (by rw [hw4]; exact HT3.out.over HF.out (below_drewN (Below.refl _ _) nq))
              have HGI : Hid (Calls Try.prog 80 #[.agg #[.int .i64 (f.id : Int), .int .i64 (f.src : Int), .int .i64 (f.dst : Int), .int .i64 (f.due : Int), .slice uA f.bs.length uc]] w4 (GivenR w4 f)) := Lib.hid (given_any f uA uc (by rw [hw4]; exact Rd.of_own HU3.out) (by omega))
              have hsz4 : w4.heap.size = w1.heap.size := by rw [hw4]; simpa using hsz3
              rw [← hw4]
              have q0 : w4.cell? ⟨wr.heap.size, 0, none⟩ = some (.int .i64 (f.id : Int)) := hy4.cell 0
              have q1 : w4.cell? ⟨wr.heap.size, 1, none⟩ = some (.int .i64 (f.src : Int)) := hy4.cell 1
              have q2 : w4.cell? ⟨wr.heap.size, 2, none⟩ = some (.int .i64 (f.dst : Int)) := hy4.cell 2
              have q3 : w4.cell? ⟨wr.heap.size, 3, none⟩ = some (.int .i64 (f.due : Int)) := hy4.cell 3
              have q4 : w4.cell? ⟨wr.heap.size, 4, none⟩ = some (.slice uA f.bs.length uc) := hy4.cell 4
              clear hw4 hy4 x1 x2 p0 n0 nq
              go_wp2_with (first
                | (go_at_call 80; refine HGI.out.mono ?_; rintro _ w5 ⟨A5, cap5, rfl, ho5, hb5⟩; have hT5 := HT4.out.over HF.out hb5; obtain ⟨H5, hO5⟩ := hT5.out; have HT5 := Lib.hid hT5; have HO5 := Lib.hid hO5; have HU5 := Lib.hid ho5; have hs5 := hb5.size; clear hT5 hO5 ho5 hb5)
                | (at_builtin; refine appN2 w5 (by rfl) _ _ 43 (by rfl) w.heap.size 48 i0 _ 5 56 u_flights hi0 hz0 hz1 hz2 rfl (by decide) _ m _ (by rfl) HO5.out.row #[.int .i64 (f.id : Int), .int .i64 (f.src : Int), .int .i64 (f.dst : Int), .int .i64 (f.due : Int), .slice A5 f.bs.length cap5] rfl (by rfl) (rowV_one f A5 f.bs.length cap5) (by simp only [maxLen]; omega) (by omega) (by omega) ?_; intro v9 w9 own9 _ hg9 _; have HN := Lib.hid (HT5.out.push HF.out HO5.out HAK.out HYES.out (own_base HU5.out (by omega)) own9 hg9); clear own9 hg9))
              go_roundw
              case rel => exact ⟨k + 1, m + 1, by omega, by omega, by go_num, HN⟩
              case measure => simp [intOf] <;> omega
        · have HN : Hid (∀ j, RdS w F c D r (.slice (some ⟨g, 0, none⟩) n cap6) n (k + 1) (k + 1) (.slice A3 m cap3) m (w1.drewN j)) := Lib.hid fun j => ((HT1.out.stay HAK.out (by simp [rnd, hd])).skip HAK.out (by simp [outB, hd])).over HF.out (below_drewN (Below.refl _ _) j)
          go_upto_region 7 with fail
          rw [← HW1.out]
          clear m0 m1 m2 m3 m4 c6
          have hdn : ¬ (f.due : Int) = (r.now : Int) + 1 := by omega
          go_quiet (fail)
          have HNQ := Lib.hid (HN.out nq)
          obtain ⟨w2, hw2⟩ : ∃ w2, w2 = w1.drewN nq := ⟨_, rfl⟩
          rw [← hw2] at HNQ ⊢
          clear hw2 HN
          go_wp2_with fail
          go_roundw
          case rel => exact ⟨k + 1, m, by omega, by omega, by go_num, HNQ⟩
          case measure => simp [intOf] <;> omega
    · obtain rfl : k = n := by omega
      have HE : Hid (RRoundR w F c D r (.returned (.slice A3 m cap3)) wr) := by
        refine Lib.hid ⟨_, m, H, rfl, ?_, ⟨fun k hk => Nat.lt_of_lt_of_le (HF.out k hk) HT.out.chg.size, .slice A6 k cap6, X', ?_⟩, HT.out.chg⟩
        · have h1 := HO.out
          rw [List.take_of_length_le (by rw [HNR.out]; exact Nat.le_refl _)] at h1
          exact h1
        · have h2 : rK r k = roundRP r := by unfold rK roundRP; rw [HNR.out, rndK_end]
          rw [← h2]
          exact hXr
      clear hXr hO
      go_wp2
      go_ret
      exact HE.out
end Go.Proofs.Ytgfhmfhhobhojaa
