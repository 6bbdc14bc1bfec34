/-
  The document's detector: Heard, New.
-/
import Derived.Test.YtfjpmoigpnmeoaaDRefH
import Derived.Deep.RegionHeld3
namespace Go.Proofs.Ytfjpmoigpnmeoaa
open Go.RowKit
variable {w : World} {F : Nat → Prop} {c : Cfg} {K : Nat} {l : List Ev} {v : Value}

def HeardsR (w : World) (F : Nat → Prop) (c : Cfg) (K : Nat) (l : List Ev) (q inc tick : Int) (hs : List Int) (e : Ending) (w' : World) : Prop :=
  e = .returned (.int .i64 (hearE c (dOf c l) q inc tick hs)) ∧ ∃ F' l', RDx w' F' c K l' ∧ dOf c l' = hearD c (dOf c l) q inc tick hs ∧ l'.length ≤ l.length + 1 ∧ Moved w w' F F'
theorem HeardsR.no {w' : World} {q inc tick : Int} {hs : List Int} {x : Int} (h : RDx w F c K l) (hE : hearE c (dOf c l) q inc tick hs = x) (hx : x ≠ 0) (hb : Below w.heap.size w w') : HeardsR w F c K l q inc tick hs (.returned (.int .i64 x)) w' :=
  ⟨by rw [hE], F, l, h.below hb, by rw [hearD, hE, if_neg hx], by omega, Moved.of_below _ hb⟩
theorem RD.drewN {w : World} (h : RD w F c K l v) (n : Nat) : RD (w.drewN n) F c K l v := h.chg ((Chg.refl (fun _ => False) _).drewN n) fun _ _ h => h
set_option maxRecDepth 100000 in
set_option maxHeartbeats 6400000 in
theorem RHeard_any (hc : c.Ok) (h : RD w F c K l v) (hF : ∀ k, F k → k < w.heap.size) (hl : ∀ x ∈ l, x.Ok) (hn : l.length < 3518437208883) (A : Option Addr) (n cap : Nat) (hs : List Int) (hr : RdI w w.heap.size A n hs) (hm : n ≤ 140737488351232) (hA : 0 < n → ∀ b o s, A = some ⟨b, o, s⟩ → ¬ F b) (q inc tick : Int) :
    Calls Try.prog 50 #[.pointer (some ⟨K, 0, none⟩), .int .i64 q, .int .i64 inc, .agg #[.int .i64 tick, .slice A n cap]] w (HeardsR w F c K l q inc tick hs) := by
  obtain ⟨i0, hi0, hz0, hz1, hz2⟩ := info_parts info_past
  have hcc := hc
  obtain ⟨hN1, hn16, hsf, _⟩ := hcc
  have hl' := hr.lenI
  have HL := Lib.hid hl'
  have HA := Lib.hid hA
  clear hA
  have HX := Lib.hid (⟨hF, hl, v, h⟩ : RDx w F c K l)
  have hO := Blk.new w 37 #[.int .i64 tick, .slice A n cap]
  have hb0 := one_box' w (.cells #[.int .i64 tick, .slice A n cap] 37)
  have hr0 := hr.over hb0
  have hD0 := h.below hF hb0
  obtain ⟨w0, hw0⟩ : ∃ w0, w0 = w.alloc (.cells #[.int .i64 tick, .slice A n cap] 37) := ⟨_, rfl⟩
  rw [← hw0] at hO hb0 hr0 hD0
  have HW := Lib.hid hw0
  have HO := Lib.hid hO
  have hs0 := hb0.size
  have hF0 : ∀ k, F k → k < w0.heap.size := fun k hk => by have := hF k hk; omega
  have HF0 := Lib.hid hF0
  have HD0 := Lib.hid hD0
  have HFT := Lib.hid (fits_any hD0 hF0 hn16 hsf A n cap hs hr0 hm q inc tick)
  have HHL := Lib.hid hl
  have HF := Lib.hid hF
  have b0 : w0.cell? ⟨w.heap.size, 0, none⟩ = some (.int .i64 tick) := hO.cell 0
  have b1 : w0.cell? ⟨w.heap.size, 1, none⟩ = some (.slice A n cap) := hO.cell 1
  clear hw0 h hF hl hr hl' hO hD0 hF0
  go_enter Try.func50, Try.ntmps50
  go_upto_region 1 with fail
  rw [← HW.out]
  go_wp2_with fail
  clear b0 b1
  cases hf : fits c q inc tick hs with
  | false =>
    have HE : Hid (hearE c (dOf c l) q inc tick hs = 1) := Lib.hid (by rw [hearE, if_pos hf])
    rw [hf] at HFT
    clear hf
    refine HFT.out.mono ?_
    rintro _ w1 ⟨rfl, hb1⟩
    go_wp2
    go_ret
    exact HeardsR.no HX.out HE.out (by omega) (hb0.trans (hb1.mono hs0))
  | true =>
  have hfx := hf
  rw [fits_eq] at hfx
  simp only [Bool.and_eq_true, decide_eq_true_eq, otherB, validB] at hfx
  obtain ⟨⟨⟨hq0, hq1, hq2⟩, hi1, hi2⟩, ⟨⟨ht0, ht1⟩, hln⟩, _⟩ := hfx
  obtain ⟨j, rfl⟩ := Int.eq_ofNat_of_zero_le hq0
  have HFB : Hid (fits c (j : Int) inc tick hs = true) := Lib.hid hf
  rw [hf] at HFT
  have hnc : n = c.n := by rw [← hln, HL.out]
  clear hf hq0 hq1 hq2 hln
  refine HFT.out.mono ?_
  rintro _ w1 ⟨rfl, hb1⟩
  have hb01 := hb0.trans (hb1.mono hs0)
  have hD1 := HD0.out.below HF0.out hb1
  have HOf := Lib.hid (Of_any hc hD1 (fun k hk => by have := HF0.out k hk; have := hb1.size; omega) HHL.out (by omega) j)
  have HR : Hid (refOf c j l = ((dOf c l).pr j, (dOf c l).left)) := Lib.hid (refOf_eq c j l)
  rw [HR.out] at HOf
  go_wp2_with fail
  refine HOf.out.mono ?_
  rintro _ w2 ⟨rfl, hb2⟩
  have HEE : Hid (hearE c (dOf c l) (j : Int) inc tick hs = if inc < ((dOf c l).pr j).known then 50 else if inc = ((dOf c l).pr j).known ∧ tick ≤ ((dOf c l).pr j).last then 51 else 0) := Lib.hid (by rw [hearE, if_neg (by rw [HFB.out]; simp)]; rfl)
  have HDD := Lib.hid (fun (x : Ev) => dOf_snoc c l x)
  have HDX : Hid (hearE c (dOf c l) (j : Int) inc tick hs = 0 → hearD c (dOf c l) (j : Int) inc tick hs = beatD c (dOf c l) (j : Int) inc tick (hs.getD c.self 0 == c.inc)) := Lib.hid fun h => by rw [hearD, if_pos h]
  clear HOf HR HFB HFT
  generalize hpe : (dOf c l).pr j = p at *
  generalize (dOf c l).left = lf at *
  have hb02 := hb0.trans ((hb1.trans (hb2.mono hb1.size)).mono hs0)
  have hbp := one_box' w2 (.cells (peerC (p, lf)) 116)
  have hPB := Blk.new w2 116 (peerC (p, lf))
  have hb12 : Below w0.heap.size w0 w2 := hb1.trans (hb2.mono hb1.size)
  have hs2 := hb12.size
  have hb03 := hb12.trans (hbp.mono hs2)
  have hO3 := HO.out.over hb03
  have hr3 := hr0.below hb03
  have hD3 := HD0.out.below HF0.out hb03
  have hb3 : Below w.heap.size w (w2.alloc (.cells (peerC (p, lf)) 116)) := hb0.trans (hb03.mono hs0)
  obtain ⟨w3, hw3⟩ : ∃ w3, w3 = w2.alloc (.cells (peerC (p, lf)) 116) := ⟨_, rfl⟩
  rw [← hw3] at hPB hO3 hr3 hD3 hb3 hb03
  have HW3 : Hid (w3 = w2.alloc (.cells #[.int .i64 p.known, .int .i64 p.last, .int .i64 p.age, .int .i64 p.tmo, .int .i64 p.wrong, .bool p.heard, .bool p.mutl, .bool lf] 116)) := hw3
  have b0 : w3.cell? ⟨w.heap.size, 0, none⟩ = some (.int .i64 tick) := hO3.cell 0
  have b1 : w3.cell? ⟨w.heap.size, 1, none⟩ = some (.slice A n cap) := hO3.cell 1
  have p0 : w3.cell? ⟨w2.heap.size, 0, none⟩ = some (.int .i64 p.known) := hPB.cell 0
  have p1 : w3.cell? ⟨w2.heap.size, 1, none⟩ = some (.int .i64 p.last) := hPB.cell 1
  clear hw3 hPB hbp hb2 hb1 hb12 hs2 hb02 hD1 hb01 hO3
  simp only [peerC]
  go_upto_region 5 with fail
  rw [← HW3.out]
  by_cases hk : inc < p.known
  · have HE : Hid (hearE c (dOf c l) (j : Int) inc tick hs = 50) := Lib.hid (by rw [HEE.out, if_pos hk])
    go_wp2
    go_ret
    exact HeardsR.no HX.out HE.out (by omega) hb3
  by_cases he : inc = p.known ∧ tick ≤ p.last
  · have HE : Hid (hearE c (dOf c l) (j : Int) inc tick hs = 51) := Lib.hid (by rw [HEE.out, if_neg hk, if_pos he])
    have e1 : (inc == p.known) = true := by simpa using he.1
    have e2 := he.2
    clear he
    go_wp2
    go_ret
    exact HeardsR.no HX.out HE.out (by omega) hb3
  have HE : Hid (hearE c (dOf c l) (j : Int) inc tick hs = 0) := Lib.hid (by rw [HEE.out, if_neg hk, if_neg he])
  obtain ⟨b, off, hv3, rfl, hbl, hvk, hcell⟩ := hr3.int (k := c.self) (by omega)
  have HM : Hid (hs.getD c.self 0 = hv3) := Lib.hid (by simp [List.getD, hvk])
  have hsI : (c.self : Int) < (n : Int) := by omega
  have hsN : c.self < n := by omega
  have hF3 : ∀ k, F k → k < w3.heap.size := fun k hk => by have := HF.out k hk; have := hb3.size; omega
  have hD3' := hD3.drewN 1
  have HAP : Hid (∀ (w4 : World) (v' : Value), w4.ownsRow 0 113 5 v' (l.length + 1) (evV l ++ evC ⟨2, (j : Int), inc, tick, hv3 == c.inc⟩) → (w3.drewN 1).grownBy w4 v.ownBlock → (v'.ownBlock = v.ownBlock ∨ v'.ownBlock = some ((w3.drewN 1).heap.size + 1)) →
      HeardsR w F c K l (j : Int) inc tick hs (.returned (.int .i64 0)) (w4.setCell ⟨K, 6, none⟩ v')) := Lib.hid fun w4 v' ho hg hat => by
    have hX3 : RDx w F c K l := HX.out
    obtain ⟨hFw, _, vv, hD⟩ := hX3
    obtain rfl : vv = v := by
      have e1 := (hD.below hFw hb3).cell.2.2.2.2.2.2
      have e2 := hD3.cell.2.2.2.2.2.2
      rw [e2] at e1
      exact (Option.some.inj e1).symm
    obtain ⟨F', hx', hm'⟩ := RDx.app (x := ⟨2, (j : Int), inc, tick, hv3 == c.inc⟩) hD hFw HHL.out ⟨.inr (.inl rfl), fun _ => ⟨hi1, hi2, ht0, ht1⟩⟩ (below_drewN hb3 1) ho hg hat
    refine ⟨by rw [HE.out], F', _, hx', ?_, by simp, hm'⟩
    rw [HDD.out, HDX.out HE.out, HM.out]
    rfl
  obtain ⟨c0, c1, c2, c3, c4, c5, c6⟩ := hD3.cell
  have hrow := hD3'.row
  have HK := Lib.hid fun (w4 : World) (hg : (w3.drewN 1).grownBy w4 v.ownBlock) => (show w4.cell? ⟨K, 6, none⟩ = some v ∧ w4.frozen? ⟨K, 6, none⟩ = false from by
    have hb := hD3'.blk.chg (Chg.of_grown hg) (fun e => by
      have := (own_isT hD3'.row e.symm).eq_ hD3'.blk.isT
      exact absurd this (by decide))
    exact ⟨hb.cell 6, hb.frozen 6⟩)
  have e1 : (inc == p.known) = true ∧ ¬ tick ≤ p.last ∨ (inc == p.known) = false := by
    by_cases hx : inc = p.known
    · exact .inl ⟨by simpa using hx, by omega⟩
    · exact .inr (by simpa using hx)
  have hbA : Below w3.heap.size w3 (w3.drew.alloc (.cells #[.int .i64 2, .int .i64 (j : Int), .int .i64 inc, .int .i64 tick, .bool (hv3 == c.inc)] 113)) := ((below_drewN (Below.refl _ _) 1).alloc (Nat.le_refl _) _)
  have hbF : ¬ F b := HA.out (by omega) b off none rfl
  have hwF : ¬ F w.heap.size := fun h => by have := HF.out _ h; omega
  have hSS : ∀ (w' : World) (u : Value), Chg F w3 w' → Blk w' K 107 (refC c u) → (fun w' => w'.cell? ⟨w.heap.size, 0, none⟩ = some (.int .i64 tick) ∧ w'.cell? ⟨w.heap.size, 1, none⟩ = some (.slice (some ⟨b, off, none⟩) n cap) ∧ w'.cell? ⟨b, off + c.self, none⟩ = some (.int .i64 hv3) ∧ w'.cell? ⟨K, 1, none⟩ = some (.int .i64 (c.self : Int)) ∧ w'.cell? ⟨K, 2, none⟩ = some (.int .i64 c.inc)) w' := fun w' u hc hB =>
    ⟨(World.cell?_of_block (hc.block w.heap.size (by have := HO.out.lt; have := hb03.size; omega) hwF)).trans b0, (World.cell?_of_block (hc.block w.heap.size (by have := HO.out.lt; have := hb03.size; omega) hwF)).trans b1, (World.cell?_of_block (hc.block b (by have := hb03.size; omega) hbF)).trans hcell, hB.cell 1, hB.cell 2⟩
  have HSX : Hid ((fun w' => w'.cell? ⟨w.heap.size, 0, none⟩ = some (.int .i64 tick) ∧ w'.cell? ⟨w.heap.size, 1, none⟩ = some (.slice (some ⟨b, off, none⟩) n cap) ∧ w'.cell? ⟨b, off + c.self, none⟩ = some (.int .i64 hv3) ∧ w'.cell? ⟨K, 1, none⟩ = some (.int .i64 (c.self : Int)) ∧ w'.cell? ⟨K, 2, none⟩ = some (.int .i64 c.inc)) w3.drew ∧ (fun w' => w'.cell? ⟨w.heap.size, 0, none⟩ = some (.int .i64 tick) ∧ w'.cell? ⟨w.heap.size, 1, none⟩ = some (.slice (some ⟨b, off, none⟩) n cap) ∧ w'.cell? ⟨b, off + c.self, none⟩ = some (.int .i64 hv3) ∧ w'.cell? ⟨K, 1, none⟩ = some (.int .i64 (c.self : Int)) ∧ w'.cell? ⟨K, 2, none⟩ = some (.int .i64 c.inc)) (w3.drew.alloc (.cells #[.int .i64 2, .int .i64 (j : Int), .int .i64 inc, .int .i64 tick, .bool (hv3 == c.inc)] 113)) ∧ ∀ (w6 : World) (v6 : Value), w3.drew.grownBy w6 v.ownBlock → (fun w' => w'.cell? ⟨w.heap.size, 0, none⟩ = some (.int .i64 tick) ∧ w'.cell? ⟨w.heap.size, 1, none⟩ = some (.slice (some ⟨b, off, none⟩) n cap) ∧ w'.cell? ⟨b, off + c.self, none⟩ = some (.int .i64 hv3) ∧ w'.cell? ⟨K, 1, none⟩ = some (.int .i64 (c.self : Int)) ∧ w'.cell? ⟨K, 2, none⟩ = some (.int .i64 c.inc)) w6 ∧ (fun w' => w'.cell? ⟨w.heap.size, 0, none⟩ = some (.int .i64 tick) ∧ w'.cell? ⟨w.heap.size, 1, none⟩ = some (.slice (some ⟨b, off, none⟩) n cap) ∧ w'.cell? ⟨b, off + c.self, none⟩ = some (.int .i64 hv3) ∧ w'.cell? ⟨K, 1, none⟩ = some (.int .i64 (c.self : Int)) ∧ w'.cell? ⟨K, 2, none⟩ = some (.int .i64 c.inc)) (w6.setCell ⟨K, 6, none⟩ v6)) := Lib.hid ⟨⟨b0, b1, hcell, c1, c2⟩, hSS _ v (Chg.of_below hbA F) (hD3.blk.over hbA), fun w6 v6 hg => by
    have hB6 := hD3'.blk.chg (Chg.of_grown hg) (fun e => by
      have := (own_isT hD3'.row e.symm).eq_ hD3'.blk.isT
      exact absurd this (by decide))
    have hC6 : Chg F w3 w6 := ((Chg.refl F w3).drewN 1).thenS (Chg.of_grown hg) fun i _ e => hD3.fr i e.symm
    exact ⟨hSS _ v hC6 hB6, hSS _ v6 (hC6.setCell (p := ⟨K, 6, none⟩) (.inl hD3.fk) v6) (hB6.set_ 6 v6)⟩⟩
  have HKA : Hid ((w3.drew.alloc (.cells #[.int .i64 2, .int .i64 (j : Int), .int .i64 inc, .int .i64 tick, .bool (hv3 == c.inc)] 113)).cell? ⟨K, 6, none⟩ = some v) := (hD3.blk.over hbA).cell 6
  clear hSS hbA hbF hwF
  generalize hLn : l.length = L at *
  obtain ⟨Ar, capr, rfl, hcp, hcm⟩ := own_shape hrow
  clear hvk he hD3 hD3' hr3 hF3 hLn
  have HS : Hid ((fun w' => w'.cell? ⟨w.heap.size, 0, none⟩ = some (.int .i64 tick) ∧ w'.cell? ⟨w.heap.size, 1, none⟩ = some (.slice (some ⟨b, off, none⟩) n cap) ∧ w'.cell? ⟨b, off + c.self, none⟩ = some (.int .i64 hv3) ∧ w'.cell? ⟨K, 1, none⟩ = some (.int .i64 (c.self : Int)) ∧ w'.cell? ⟨K, 2, none⟩ = some (.int .i64 c.inc)) w3.drew ∧ (fun w' => w'.cell? ⟨w.heap.size, 0, none⟩ = some (.int .i64 tick) ∧ w'.cell? ⟨w.heap.size, 1, none⟩ = some (.slice (some ⟨b, off, none⟩) n cap) ∧ w'.cell? ⟨b, off + c.self, none⟩ = some (.int .i64 hv3) ∧ w'.cell? ⟨K, 1, none⟩ = some (.int .i64 (c.self : Int)) ∧ w'.cell? ⟨K, 2, none⟩ = some (.int .i64 c.inc)) (w3.drew.alloc (.cells #[.int .i64 2, .int .i64 (j : Int), .int .i64 inc, .int .i64 tick, .bool (hv3 == c.inc)] 113)) ∧ ∀ (w6 : World) (v6 : Value), w3.drew.grownBy w6 (Value.slice Ar L capr).ownBlock → (fun w' => w'.cell? ⟨w.heap.size, 0, none⟩ = some (.int .i64 tick) ∧ w'.cell? ⟨w.heap.size, 1, none⟩ = some (.slice (some ⟨b, off, none⟩) n cap) ∧ w'.cell? ⟨b, off + c.self, none⟩ = some (.int .i64 hv3) ∧ w'.cell? ⟨K, 1, none⟩ = some (.int .i64 (c.self : Int)) ∧ w'.cell? ⟨K, 2, none⟩ = some (.int .i64 c.inc)) w6 ∧ (fun w' => w'.cell? ⟨w.heap.size, 0, none⟩ = some (.int .i64 tick) ∧ w'.cell? ⟨w.heap.size, 1, none⟩ = some (.slice (some ⟨b, off, none⟩) n cap) ∧ w'.cell? ⟨b, off + c.self, none⟩ = some (.int .i64 hv3) ∧ w'.cell? ⟨K, 1, none⟩ = some (.int .i64 (c.self : Int)) ∧ w'.cell? ⟨K, 2, none⟩ = some (.int .i64 c.inc)) (w6.setCell ⟨K, 6, none⟩ v6)) := HSX
  have k6 : w3.drew.cell? ⟨K, 6, none⟩ = some (.slice Ar L capr) := c6
  have k6' : (w3.alloc (.cells #[.int .i64 2, .int .i64 (j : Int), .int .i64 inc, .int .i64 tick, .bool (hv3 == c.inc)] 113)).drew.cell? ⟨K, 6, none⟩ = some (.slice Ar L capr) := HKA.out
  clear HSX HKA
  rcases e1 with ⟨e1, e2⟩ | e1
  · go_upto_region 9 with fail
    refine wp_region_noPanic ?_
    refine wp_region_held_drew (S := (fun w' => w'.cell? ⟨w.heap.size, 0, none⟩ = some (.int .i64 tick) ∧ w'.cell? ⟨w.heap.size, 1, none⟩ = some (.slice (some ⟨b, off, none⟩) n cap) ∧ w'.cell? ⟨b, off + c.self, none⟩ = some (.int .i64 hv3) ∧ w'.cell? ⟨K, 1, none⟩ = some (.int .i64 (c.self : Int)) ∧ w'.cell? ⟨K, 2, none⟩ = some (.int .i64 c.inc))) (by kernel_rfl) HS.out.1 (fun hHeld => ?_)
    refine wpAnyH_take (i := 0) (oi := ?oi0a) (v := ?v0a) ?hi0a (by kernel_rfl) (by kernel_rfl) (by kernel_rfl) ?hq0a ?hy0a (by assumption) ?rest0a
    case hi0a => (simp only [List.getElem?_toArray, List.getElem?_cons_zero]; rfl)
    case hy0a => (refine Or.inl ⟨by rfl, ?_⟩; intro w hSw; (try dsimp only at hSw); go_simp; try with_reducible rfl)
    case hq0a => exact fun _ _ _ h => h
    try simp only [Act.put, List.setIfInBounds_toArray, List.set_cons_zero, List.set_cons_succ]
    refine wpAnyH_take (i := 1) (oi := ?oi1a) (v := ?v1a) ?hi1a (by kernel_rfl) (by kernel_rfl) (by kernel_rfl) ?hq1a ?hy1a (by assumption) ?rest1a
    case hi1a => (simp only [List.getElem?_toArray, List.getElem?_cons_zero, List.getElem?_cons_succ]; rfl)
    case hy1a => (refine Or.inl ⟨by rfl, ?_⟩; intro w hSw; (try dsimp only at hSw); go_simp; try with_reducible rfl)
    case hq1a => exact fun _ _ _ h => h
    try simp only [Act.put, List.setIfInBounds_toArray, List.set_cons_zero, List.set_cons_succ]
    refine wpAnyH_take (i := 2) (oi := ?oi2a) (v := ?v2a) ?hi2a (by kernel_rfl) (by kernel_rfl) (by kernel_rfl) ?hq2a ?hy2a (by assumption) ?rest2a
    case hi2a => (simp only [List.getElem?_toArray, List.getElem?_cons_zero, List.getElem?_cons_succ]; rfl)
    case hy2a => (refine Or.inl ⟨by rfl, ?_⟩; intro w hSw; (try dsimp only at hSw); go_simp; try with_reducible rfl)
    case hq2a => exact fun _ _ _ h => h
    try simp only [Act.put, List.setIfInBounds_toArray, List.set_cons_zero, List.set_cons_succ]
    refine wpAnyH_take (i := 3) (oi := ?oi3a) (v := ?v3a) ?hi3a (by kernel_rfl) (by kernel_rfl) (by kernel_rfl) ?hq3a ?hy3a (by assumption) ?rest3a
    case hi3a => (simp only [List.getElem?_toArray, List.getElem?_cons_zero, List.getElem?_cons_succ]; rfl)
    case hy3a => (refine Or.inl ⟨by rfl, ?_⟩; intro w hSw; (try dsimp only at hSw); go_simp; try with_reducible rfl)
    case hq3a => exact fun _ _ _ h => h
    try simp only [Act.put, List.setIfInBounds_toArray, List.set_cons_zero, List.set_cons_succ]
    refine wpAnyH_take (i := 5) (oi := ?oi5a) (v := ?v5a) ?hi5a (by kernel_rfl) (by kernel_rfl) (by kernel_rfl) ?hq5a ?hy5a (by assumption) ?rest5a
    case hi5a => (simp only [List.getElem?_toArray, List.getElem?_cons_zero, List.getElem?_cons_succ]; rfl)
    case hy5a => (refine Or.inl ⟨by rfl, ?_⟩; intro w hSw; (try dsimp only at hSw); go_simp; try with_reducible rfl)
    case hq5a => exact fun _ _ _ h => h
    try simp only [Act.put, List.setIfInBounds_toArray, List.set_cons_zero, List.set_cons_succ]
    refine wpAnyH_take (i := 6) (oi := ?oi6a) (v := ?v6a) ?hi6a (by kernel_rfl) (by kernel_rfl) (by kernel_rfl) ?hq6a ?hy6a (by assumption) ?rest6a
    case hi6a => (simp only [List.getElem?_toArray, List.getElem?_cons_zero, List.getElem?_cons_succ]; rfl)
    case hy6a => (refine Or.inl ⟨by rfl, ?_⟩; intro w hSw; (try dsimp only at hSw); go_simp; try with_reducible rfl)
    case hq6a => exact fun _ _ _ h => h
    try simp only [Act.put, List.setIfInBounds_toArray, List.set_cons_zero, List.set_cons_succ]
    refine wpAnyH_take (i := 7) (oi := ?oi7a) (v := ?v7a) ?hi7a (by kernel_rfl) (by kernel_rfl) (by kernel_rfl) ?hq7a ?hy7a (by assumption) ?rest7a
    case hi7a => (simp only [List.getElem?_toArray, List.getElem?_cons_zero, List.getElem?_cons_succ]; rfl)
    case hy7a => (refine Or.inl ⟨by rfl, ?_⟩; intro w hSw; (try dsimp only at hSw); go_simp; try with_reducible rfl)
    case hq7a => exact fun _ _ _ h => h
    try simp only [Act.put, List.setIfInBounds_toArray, List.set_cons_zero, List.set_cons_succ]
    refine wpAnyH_take (i := 8) (oi := ?oi8a) (v := ?v8a) ?hi8a (by kernel_rfl) (by kernel_rfl) (by kernel_rfl) ?hq8a ?hy8a (by assumption) ?rest8a
    case hi8a => (simp only [List.getElem?_toArray, List.getElem?_cons_zero, List.getElem?_cons_succ]; rfl)
    case hy8a => (refine Or.inl ⟨by rfl, ?_⟩; intro w hSw; (try dsimp only at hSw); go_simp; try with_reducible rfl)
    case hq8a => exact fun _ _ _ h => h
    try simp only [Act.put, List.setIfInBounds_toArray, List.set_cons_zero, List.set_cons_succ]
    refine wpAnyH_take (i := 9) (oi := ?oi9a) (v := ?v9a) ?hi9a (by kernel_rfl) (by kernel_rfl) (by kernel_rfl) ?hq9a ?hy9a (by assumption) ?rest9a
    case hi9a => (simp only [List.getElem?_toArray, List.getElem?_cons_zero, List.getElem?_cons_succ]; rfl)
    case hy9a => (refine Or.inl ⟨by rfl, ?_⟩; intro w hSw; (try dsimp only at hSw); go_simp; try with_reducible rfl)
    case hq9a => exact fun _ _ _ h => h
    try simp only [Act.put, List.setIfInBounds_toArray, List.set_cons_zero, List.set_cons_succ]
    refine wpAnyH_take (i := 10) (oi := ?oi10a) (v := ?v10a) ?hi10a (by kernel_rfl) (by kernel_rfl) (by kernel_rfl) ?hq10a ?hy10a (by assumption) ?rest10a
    case hi10a => (simp only [List.getElem?_toArray, List.getElem?_cons_zero, List.getElem?_cons_succ]; rfl)
    case hy10a => (refine Or.inl ⟨by rfl, ?_⟩; intro w hSw; (try dsimp only at hSw); go_simp; try with_reducible rfl)
    case hq10a => exact fun _ _ _ h => h
    try simp only [Act.put, List.setIfInBounds_toArray, List.set_cons_zero, List.set_cons_succ]
    refine wpAnyH_take (i := 11) (oi := ?oi11a) (v := ?v11a) ?hi11a (by kernel_rfl) (by kernel_rfl) (by kernel_rfl) ?hq11a ?hy11a (by assumption) ?rest11a
    case hi11a => (simp only [List.getElem?_toArray, List.getElem?_cons_zero, List.getElem?_cons_succ]; rfl)
    case hy11a => (refine Or.inl ⟨by rfl, ?_⟩; intro w hSw; (try dsimp only at hSw); go_simp; try with_reducible rfl)
    case hq11a => exact fun _ _ _ h => h
    try simp only [Act.put, List.setIfInBounds_toArray, List.set_cons_zero, List.set_cons_succ]
    refine wpAnyH_take (i := 12) (oi := ?oi12a) (v := ?v12a) ?hi12a (by kernel_rfl) (by kernel_rfl) (by kernel_rfl) ?hq12a ?hy12a (by assumption) ?rest12a
    case hi12a => (simp only [List.getElem?_toArray, List.getElem?_cons_zero, List.getElem?_cons_succ]; rfl)
    case hy12a => (refine Or.inl ⟨by rfl, ?_⟩; intro w hSw; (try dsimp only at hSw); go_simp; try with_reducible rfl)
    case hq12a => exact fun _ _ _ h => h
    try simp only [Act.put, List.setIfInBounds_toArray, List.set_cons_zero, List.set_cons_succ]
    refine wpAnyH_take (i := 13) (oi := ?oi13a) (v := ?v13a) ?hi13a (by kernel_rfl) (by kernel_rfl) (by kernel_rfl) ?hq13a ?hy13a (by assumption) ?rest13a
    case hi13a => (simp only [List.getElem?_toArray, List.getElem?_cons_zero, List.getElem?_cons_succ]; rfl)
    case hy13a => (refine Or.inl ⟨by rfl, ?_⟩; intro w hSw; (try dsimp only at hSw); go_simp; try with_reducible rfl)
    case hq13a => exact fun _ _ _ h => h
    try simp only [Act.put, List.setIfInBounds_toArray, List.set_cons_zero, List.set_cons_succ]
    refine wpAnyH_take (i := 14) (oi := ?oi14a) (v := ?v14a) ?hi14a (by kernel_rfl) (by kernel_rfl) (by kernel_rfl) ?hq14a ?hy14a (by assumption) ?rest14a
    case hi14a => (simp only [List.getElem?_toArray, List.getElem?_cons_zero, List.getElem?_cons_succ]; rfl)
    case hy14a => (refine Or.inl ⟨by rfl, ?_⟩; intro w hSw; (try dsimp only at hSw); go_simp; try with_reducible rfl)
    case hq14a => exact fun _ _ _ h => h
    try simp only [Act.put, List.setIfInBounds_toArray, List.set_cons_zero, List.set_cons_succ]
    refine wpAnyH_take (i := 15) (oi := ?oi15a) (v := ?v15a) ?hi15a (by kernel_rfl) (by kernel_rfl) (by kernel_rfl) ?hq15a ?hy15a (by assumption) ?rest15a
    case hi15a => (simp only [List.getElem?_toArray, List.getElem?_cons_zero, List.getElem?_cons_succ]; rfl)
    case hy15a => (refine Or.inl ⟨by rfl, ?_⟩; intro w hSw; (try dsimp only at hSw); go_simp; try with_reducible rfl)
    case hq15a => exact fun _ _ _ h => h
    try simp only [Act.put, List.setIfInBounds_toArray, List.set_cons_zero, List.set_cons_succ]
    refine wpAnyH_take (i := 16) (oi := ?oi16a) (v := ?v16a) ?hi16a (by kernel_rfl) (by kernel_rfl) (by kernel_rfl) ?hq16a ?hy16a (by assumption) ?rest16a
    case hi16a => (simp only [List.getElem?_toArray, List.getElem?_cons_zero, List.getElem?_cons_succ]; rfl)
    case hy16a => (refine Or.inl ⟨by rfl, ?_⟩; intro w hSw; (try dsimp only at hSw); go_simp; try with_reducible rfl)
    case hq16a => exact fun _ _ _ h => h
    try simp only [Act.put, List.setIfInBounds_toArray, List.set_cons_zero, List.set_cons_succ]
    refine wpAnyH_take (i := 17) (oi := ?oi17a) (v := ?v17a) ?hi17a (by kernel_rfl) (by kernel_rfl) (by kernel_rfl) ?hq17a ?hy17a (by assumption) ?rest17a
    case hi17a => (simp only [List.getElem?_toArray, List.getElem?_cons_zero, List.getElem?_cons_succ]; rfl)
    case hy17a => (refine Or.inl ⟨by rfl, ?_⟩; intro w hSw; (try dsimp only at hSw); go_simp; try with_reducible rfl)
    case hq17a => exact fun _ _ _ h => h
    try simp only [Act.put, List.setIfInBounds_toArray, List.set_cons_zero, List.set_cons_succ]
    refine wpAnyH_take (i := 18) (oi := ?oi18a) (v := ?v18a) ?hi18a (by kernel_rfl) (by kernel_rfl) (by kernel_rfl) ?hq18a ?hy18a (by assumption) ?rest18a
    case hi18a => (simp only [List.getElem?_toArray, List.getElem?_cons_zero, List.getElem?_cons_succ]; rfl)
    case hy18a => (refine Or.inl ⟨by rfl, ?_⟩; intro w hSw; (try dsimp only at hSw); go_simp; try with_reducible rfl)
    case hq18a => exact fun _ _ _ h => h
    try simp only [Act.put, List.setIfInBounds_toArray, List.set_cons_zero, List.set_cons_succ]
    refine wpAnyH_take (i := 19) (oi := ?oi19a) (v := ?v19a) ?hi19a (by kernel_rfl) (by kernel_rfl) (by kernel_rfl) ?hq19a ?hy19a (by assumption) ?rest19a
    case hi19a => (simp only [List.getElem?_toArray, List.getElem?_cons_zero, List.getElem?_cons_succ]; rfl)
    case hy19a => (refine Or.inl ⟨by rfl, ?_⟩; intro w hSw; (try dsimp only at hSw); go_simp; try with_reducible rfl)
    case hq19a => exact fun _ _ _ h => h
    try simp only [Act.put, List.setIfInBounds_toArray, List.set_cons_zero, List.set_cons_succ]
    refine wpAnyH_take (i := 20) (oi := ?oi20a) (v := ?v20a) ?hi20a (by kernel_rfl) (by kernel_rfl) (by kernel_rfl) ?hq20a ?hy20a (by assumption) ?rest20a
    case hi20a => (simp only [List.getElem?_toArray, List.getElem?_cons_zero, List.getElem?_cons_succ]; rfl)
    case hy20a => (refine Or.inl ⟨by rfl, ?_⟩; intro w hSw; (try dsimp only at hSw); go_simp; try with_reducible rfl)
    case hq20a => exact fun _ _ _ h => h
    try simp only [Act.put, List.setIfInBounds_toArray, List.set_cons_zero, List.set_cons_succ]
    refine wpAnyH_take (i := 21) (oi := ?oi21a) (v := ?v21a) ?hi21a (by kernel_rfl) (by kernel_rfl) (by kernel_rfl) ?hq21a ?hy21a (by assumption) ?rest21a
    case hi21a => (simp only [List.getElem?_toArray, List.getElem?_cons_zero, List.getElem?_cons_succ]; rfl)
    case hy21a => (refine Or.inl ⟨by rfl, ?_⟩; intro w hSw; (try dsimp only at hSw); go_simp; try with_reducible rfl)
    case hq21a => exact fun _ _ _ h => h
    try simp only [Act.put, List.setIfInBounds_toArray, List.set_cons_zero, List.set_cons_succ]
    refine wpAnyH_take (i := 22) (oi := ?oi22a) (v := ?v22a) ?hi22a (by kernel_rfl) (by kernel_rfl) (by kernel_rfl) ?hq22a ?hy22a (by assumption) ?rest22a
    case hi22a => (simp only [List.getElem?_toArray, List.getElem?_cons_zero, List.getElem?_cons_succ]; rfl)
    case hy22a => (refine Or.inl ⟨by rfl, ?_⟩; intro w hSw; (try dsimp only at hSw); go_simp; try with_reducible rfl)
    case hq22a => exact fun _ _ _ h => h
    try simp only [Act.put, List.setIfInBounds_toArray, List.set_cons_zero, List.set_cons_succ]
    refine wpAnyH_ready (rs := [4, 23]) (by kernel_rfl) (by simp) ?_
    refine AllReadyH.cons (o := ?o4a) ?ho4a (fun K hK => ?st4a) ?mo4a
    case ho4a => (simp only [List.getElem?_toArray, List.getElem?_cons_zero, List.getElem?_cons_succ]; rfl)
    · go_simp
      refine hK.out _ _ HS.out.1 (fun hHeld4 => ?_)
      clear hK K
      try simp only [Act.put, List.setIfInBounds_toArray, List.set_cons_zero, List.set_cons_succ]
      refine wpAnyH_ready (rs := [23]) (by kernel_rfl) (by simp) ?_
      refine AllReadyH.cons (o := ?o23ap) ?ho23ap (fun K hK => ?st23ap) ?mo23ap
      case ho23ap => (simp only [List.getElem?_toArray, List.getElem?_cons_zero, List.getElem?_cons_succ]; rfl)
      · go_simp
        refine hK.out _ _ HS.out.2.1 (fun hHeld23 => ?_)
        clear hK K
        try simp only [Act.put, List.setIfInBounds_toArray, List.set_cons_zero, List.set_cons_succ]
        refine wpAnyH_ready (rs := [24]) (by kernel_rfl) (by simp) ?_
        refine AllReadyH.cons (o := ?o24ap) ?ho24ap (fun K hK => ?st24ap) ?mo24ap
        case ho24ap => (simp only [List.getElem?_toArray, List.getElem?_cons_zero, List.getElem?_cons_succ]; rfl)
        · refine step_appN w3.drew (by rfl) _ _ 105 (by rfl) 0 113 i0 _ 5 40 u_pasts hi0 hz0 hz1 hz2 rfl (by decide) _ L _ (by rfl) hrow #[.int .i64 2, .int .i64 (j : Int), .int .i64 inc, .int .i64 tick, .bool (hv3 == c.inc)] rfl (by rfl) (evC_one ⟨2, (j : Int), inc, tick, hv3 == c.inc⟩) (by simp only [maxLen]; omega) (by omega) (Nat.zero_le _) ?_
          intro v6 w6 how6 _ hg6 hat6
          obtain ⟨s6, sv6⟩ := HS.out.2.2 w6 v6 hg6
          obtain ⟨q6, qf6⟩ := HK.out w6 hg6
          have HK6 := Lib.hid (HAP.out w6 v6 how6 hg6 hat6)
          obtain ⟨A6, cap6, rfl, _, _⟩ := own_shape how6
          clear how6 hg6 hat6
          refine hK.out _ _ s6 (fun hHeld24 => ?_)
          clear hK K
          try simp only [Act.put, List.setIfInBounds_toArray, List.set_cons_zero, List.set_cons_succ]
          refine wpAnyH_take (i := 25) (oi := ?oi25ap) (v := ?v25ap) ?hi25ap (by kernel_rfl) (by kernel_rfl) (by kernel_rfl) ?hq25ap ?hy25ap (by assumption) ?rest25ap
          case hi25ap => (simp only [List.getElem?_toArray, List.getElem?_cons_zero, List.getElem?_cons_succ]; rfl)
          case hy25ap => (refine Or.inl ⟨by rfl, ?_⟩; intro w hSw; (try dsimp only at hSw); go_simp; try with_reducible rfl)
          case hq25ap => exact fun _ _ _ h => h
          try simp only [Act.put, List.setIfInBounds_toArray, List.set_cons_zero, List.set_cons_succ]
          refine wpAnyH_take (i := 26) (oi := ?oi26ap) (v := ?v26ap) ?hi26ap (by kernel_rfl) (by kernel_rfl) (by kernel_rfl) ?hq26ap ?hy26ap (by assumption) ?rest26ap
          case hi26ap => (simp only [List.getElem?_toArray, List.getElem?_cons_zero, List.getElem?_cons_succ]; rfl)
          case hy26ap => (refine Or.inl ⟨by rfl, ?_⟩; intro w hSw; (try dsimp only at hSw); go_simp; try with_reducible rfl)
          case hq26ap => exact fun _ _ _ h => h
          try simp only [Act.put, List.setIfInBounds_toArray, List.set_cons_zero, List.set_cons_succ]
          refine wpAnyH_ready (rs := [27]) (by kernel_rfl) (by simp) ?_
          refine AllReadyH.cons (o := ?o27ap) ?ho27ap (fun K hK => ?st27ap) ?mo27ap
          case ho27ap => (simp only [List.getElem?_toArray, List.getElem?_cons_zero, List.getElem?_cons_succ]; rfl)
          · go_simp
            refine hK.out _ _ sv6 (fun hHeld27 => ?_)
            clear hK K
            try simp only [Act.put, List.setIfInBounds_toArray, List.set_cons_zero, List.set_cons_succ]
            refine wpAnyH_done (by kernel_rfl) ?_ _
            refine NoPanic.normal ?_
            go_wp2
            go_ret
            exact HK6.out
          · exact AllReadyH.nil
        · exact AllReadyH.nil
      · exact AllReadyH.nil
    · skip
      refine AllReadyH.cons (o := ?o23aq) ?ho23aq (fun K hK => ?st23aq) ?mo23aq
      case ho23aq => (simp only [List.getElem?_toArray, List.getElem?_cons_zero, List.getElem?_cons_succ]; rfl)
      · go_simp
        refine hK.out _ _ HS.out.2.1 (fun hHeld23 => ?_)
        clear hK K
        try simp only [Act.put, List.setIfInBounds_toArray, List.set_cons_zero, List.set_cons_succ]
        refine wpAnyH_ready (rs := [4]) (by kernel_rfl) (by simp) ?_
        refine AllReadyH.cons (o := ?o4aq) ?ho4aq (fun K hK => ?st4aq) ?mo4aq
        case ho4aq => (simp only [List.getElem?_toArray, List.getElem?_cons_zero, List.getElem?_cons_succ]; rfl)
        · go_simp
          refine hK.out _ _ HS.out.2.1 (fun hHeld4 => ?_)
          clear hK K
          try simp only [Act.put, List.setIfInBounds_toArray, List.set_cons_zero, List.set_cons_succ]
          refine wpAnyH_ready (rs := [24]) (by kernel_rfl) (by simp) ?_
          refine AllReadyH.cons (o := ?o24aq) ?ho24aq (fun K hK => ?st24aq) ?mo24aq
          case ho24aq => (simp only [List.getElem?_toArray, List.getElem?_cons_zero, List.getElem?_cons_succ]; rfl)
          · refine step_appN w3.drew (by rfl) _ _ 105 (by rfl) 0 113 i0 _ 5 40 u_pasts hi0 hz0 hz1 hz2 rfl (by decide) _ L _ (by rfl) hrow #[.int .i64 2, .int .i64 (j : Int), .int .i64 inc, .int .i64 tick, .bool (hv3 == c.inc)] rfl (by rfl) (evC_one ⟨2, (j : Int), inc, tick, hv3 == c.inc⟩) (by simp only [maxLen]; omega) (by omega) (Nat.zero_le _) ?_
            intro v6 w6 how6 _ hg6 hat6
            obtain ⟨s6, sv6⟩ := HS.out.2.2 w6 v6 hg6
            obtain ⟨q6, qf6⟩ := HK.out w6 hg6
            have HK6 := Lib.hid (HAP.out w6 v6 how6 hg6 hat6)
            obtain ⟨A6, cap6, rfl, _, _⟩ := own_shape how6
            clear how6 hg6 hat6
            refine hK.out _ _ s6 (fun hHeld24 => ?_)
            clear hK K
            try simp only [Act.put, List.setIfInBounds_toArray, List.set_cons_zero, List.set_cons_succ]
            refine wpAnyH_take (i := 25) (oi := ?oi25aq) (v := ?v25aq) ?hi25aq (by kernel_rfl) (by kernel_rfl) (by kernel_rfl) ?hq25aq ?hy25aq (by assumption) ?rest25aq
            case hi25aq => (simp only [List.getElem?_toArray, List.getElem?_cons_zero, List.getElem?_cons_succ]; rfl)
            case hy25aq => (refine Or.inl ⟨by rfl, ?_⟩; intro w hSw; (try dsimp only at hSw); go_simp; try with_reducible rfl)
            case hq25aq => exact fun _ _ _ h => h
            try simp only [Act.put, List.setIfInBounds_toArray, List.set_cons_zero, List.set_cons_succ]
            refine wpAnyH_take (i := 26) (oi := ?oi26aq) (v := ?v26aq) ?hi26aq (by kernel_rfl) (by kernel_rfl) (by kernel_rfl) ?hq26aq ?hy26aq (by assumption) ?rest26aq
            case hi26aq => (simp only [List.getElem?_toArray, List.getElem?_cons_zero, List.getElem?_cons_succ]; rfl)
            case hy26aq => (refine Or.inl ⟨by rfl, ?_⟩; intro w hSw; (try dsimp only at hSw); go_simp; try with_reducible rfl)
            case hq26aq => exact fun _ _ _ h => h
            try simp only [Act.put, List.setIfInBounds_toArray, List.set_cons_zero, List.set_cons_succ]
            refine wpAnyH_ready (rs := [27]) (by kernel_rfl) (by simp) ?_
            refine AllReadyH.cons (o := ?o27aq) ?ho27aq (fun K hK => ?st27aq) ?mo27aq
            case ho27aq => (simp only [List.getElem?_toArray, List.getElem?_cons_zero, List.getElem?_cons_succ]; rfl)
            · go_simp
              refine hK.out _ _ sv6 (fun hHeld27 => ?_)
              clear hK K
              try simp only [Act.put, List.setIfInBounds_toArray, List.set_cons_zero, List.set_cons_succ]
              refine wpAnyH_done (by kernel_rfl) ?_ _
              refine NoPanic.normal ?_
              go_wp2
              go_ret
              exact HK6.out
            · exact AllReadyH.nil
          · exact AllReadyH.nil
        · exact AllReadyH.nil
      · exact AllReadyH.nil
  · go_upto_region 9 with fail
    refine wp_region_noPanic ?_
    refine wp_region_held_drew (S := (fun w' => w'.cell? ⟨w.heap.size, 0, none⟩ = some (.int .i64 tick) ∧ w'.cell? ⟨w.heap.size, 1, none⟩ = some (.slice (some ⟨b, off, none⟩) n cap) ∧ w'.cell? ⟨b, off + c.self, none⟩ = some (.int .i64 hv3) ∧ w'.cell? ⟨K, 1, none⟩ = some (.int .i64 (c.self : Int)) ∧ w'.cell? ⟨K, 2, none⟩ = some (.int .i64 c.inc))) (by kernel_rfl) HS.out.1 (fun hHeld => ?_)
    refine wpAnyH_take (i := 0) (oi := ?oi0b) (v := ?v0b) ?hi0b (by kernel_rfl) (by kernel_rfl) (by kernel_rfl) ?hq0b ?hy0b (by assumption) ?rest0b
    case hi0b => (simp only [List.getElem?_toArray, List.getElem?_cons_zero]; rfl)
    case hy0b => (refine Or.inl ⟨by rfl, ?_⟩; intro w hSw; (try dsimp only at hSw); go_simp; try with_reducible rfl)
    case hq0b => exact fun _ _ _ h => h
    try simp only [Act.put, List.setIfInBounds_toArray, List.set_cons_zero, List.set_cons_succ]
    refine wpAnyH_take (i := 1) (oi := ?oi1b) (v := ?v1b) ?hi1b (by kernel_rfl) (by kernel_rfl) (by kernel_rfl) ?hq1b ?hy1b (by assumption) ?rest1b
    case hi1b => (simp only [List.getElem?_toArray, List.getElem?_cons_zero, List.getElem?_cons_succ]; rfl)
    case hy1b => (refine Or.inl ⟨by rfl, ?_⟩; intro w hSw; (try dsimp only at hSw); go_simp; try with_reducible rfl)
    case hq1b => exact fun _ _ _ h => h
    try simp only [Act.put, List.setIfInBounds_toArray, List.set_cons_zero, List.set_cons_succ]
    refine wpAnyH_take (i := 2) (oi := ?oi2b) (v := ?v2b) ?hi2b (by kernel_rfl) (by kernel_rfl) (by kernel_rfl) ?hq2b ?hy2b (by assumption) ?rest2b
    case hi2b => (simp only [List.getElem?_toArray, List.getElem?_cons_zero, List.getElem?_cons_succ]; rfl)
    case hy2b => (refine Or.inl ⟨by rfl, ?_⟩; intro w hSw; (try dsimp only at hSw); go_simp; try with_reducible rfl)
    case hq2b => exact fun _ _ _ h => h
    try simp only [Act.put, List.setIfInBounds_toArray, List.set_cons_zero, List.set_cons_succ]
    refine wpAnyH_take (i := 3) (oi := ?oi3b) (v := ?v3b) ?hi3b (by kernel_rfl) (by kernel_rfl) (by kernel_rfl) ?hq3b ?hy3b (by assumption) ?rest3b
    case hi3b => (simp only [List.getElem?_toArray, List.getElem?_cons_zero, List.getElem?_cons_succ]; rfl)
    case hy3b => (refine Or.inl ⟨by rfl, ?_⟩; intro w hSw; (try dsimp only at hSw); go_simp; try with_reducible rfl)
    case hq3b => exact fun _ _ _ h => h
    try simp only [Act.put, List.setIfInBounds_toArray, List.set_cons_zero, List.set_cons_succ]
    refine wpAnyH_take (i := 5) (oi := ?oi5b) (v := ?v5b) ?hi5b (by kernel_rfl) (by kernel_rfl) (by kernel_rfl) ?hq5b ?hy5b (by assumption) ?rest5b
    case hi5b => (simp only [List.getElem?_toArray, List.getElem?_cons_zero, List.getElem?_cons_succ]; rfl)
    case hy5b => (refine Or.inl ⟨by rfl, ?_⟩; intro w hSw; (try dsimp only at hSw); go_simp; try with_reducible rfl)
    case hq5b => exact fun _ _ _ h => h
    try simp only [Act.put, List.setIfInBounds_toArray, List.set_cons_zero, List.set_cons_succ]
    refine wpAnyH_take (i := 6) (oi := ?oi6b) (v := ?v6b) ?hi6b (by kernel_rfl) (by kernel_rfl) (by kernel_rfl) ?hq6b ?hy6b (by assumption) ?rest6b
    case hi6b => (simp only [List.getElem?_toArray, List.getElem?_cons_zero, List.getElem?_cons_succ]; rfl)
    case hy6b => (refine Or.inl ⟨by rfl, ?_⟩; intro w hSw; (try dsimp only at hSw); go_simp; try with_reducible rfl)
    case hq6b => exact fun _ _ _ h => h
    try simp only [Act.put, List.setIfInBounds_toArray, List.set_cons_zero, List.set_cons_succ]
    refine wpAnyH_take (i := 7) (oi := ?oi7b) (v := ?v7b) ?hi7b (by kernel_rfl) (by kernel_rfl) (by kernel_rfl) ?hq7b ?hy7b (by assumption) ?rest7b
    case hi7b => (simp only [List.getElem?_toArray, List.getElem?_cons_zero, List.getElem?_cons_succ]; rfl)
    case hy7b => (refine Or.inl ⟨by rfl, ?_⟩; intro w hSw; (try dsimp only at hSw); go_simp; try with_reducible rfl)
    case hq7b => exact fun _ _ _ h => h
    try simp only [Act.put, List.setIfInBounds_toArray, List.set_cons_zero, List.set_cons_succ]
    refine wpAnyH_take (i := 8) (oi := ?oi8b) (v := ?v8b) ?hi8b (by kernel_rfl) (by kernel_rfl) (by kernel_rfl) ?hq8b ?hy8b (by assumption) ?rest8b
    case hi8b => (simp only [List.getElem?_toArray, List.getElem?_cons_zero, List.getElem?_cons_succ]; rfl)
    case hy8b => (refine Or.inl ⟨by rfl, ?_⟩; intro w hSw; (try dsimp only at hSw); go_simp; try with_reducible rfl)
    case hq8b => exact fun _ _ _ h => h
    try simp only [Act.put, List.setIfInBounds_toArray, List.set_cons_zero, List.set_cons_succ]
    refine wpAnyH_take (i := 9) (oi := ?oi9b) (v := ?v9b) ?hi9b (by kernel_rfl) (by kernel_rfl) (by kernel_rfl) ?hq9b ?hy9b (by assumption) ?rest9b
    case hi9b => (simp only [List.getElem?_toArray, List.getElem?_cons_zero, List.getElem?_cons_succ]; rfl)
    case hy9b => (refine Or.inl ⟨by rfl, ?_⟩; intro w hSw; (try dsimp only at hSw); go_simp; try with_reducible rfl)
    case hq9b => exact fun _ _ _ h => h
    try simp only [Act.put, List.setIfInBounds_toArray, List.set_cons_zero, List.set_cons_succ]
    refine wpAnyH_take (i := 10) (oi := ?oi10b) (v := ?v10b) ?hi10b (by kernel_rfl) (by kernel_rfl) (by kernel_rfl) ?hq10b ?hy10b (by assumption) ?rest10b
    case hi10b => (simp only [List.getElem?_toArray, List.getElem?_cons_zero, List.getElem?_cons_succ]; rfl)
    case hy10b => (refine Or.inl ⟨by rfl, ?_⟩; intro w hSw; (try dsimp only at hSw); go_simp; try with_reducible rfl)
    case hq10b => exact fun _ _ _ h => h
    try simp only [Act.put, List.setIfInBounds_toArray, List.set_cons_zero, List.set_cons_succ]
    refine wpAnyH_take (i := 11) (oi := ?oi11b) (v := ?v11b) ?hi11b (by kernel_rfl) (by kernel_rfl) (by kernel_rfl) ?hq11b ?hy11b (by assumption) ?rest11b
    case hi11b => (simp only [List.getElem?_toArray, List.getElem?_cons_zero, List.getElem?_cons_succ]; rfl)
    case hy11b => (refine Or.inl ⟨by rfl, ?_⟩; intro w hSw; (try dsimp only at hSw); go_simp; try with_reducible rfl)
    case hq11b => exact fun _ _ _ h => h
    try simp only [Act.put, List.setIfInBounds_toArray, List.set_cons_zero, List.set_cons_succ]
    refine wpAnyH_take (i := 12) (oi := ?oi12b) (v := ?v12b) ?hi12b (by kernel_rfl) (by kernel_rfl) (by kernel_rfl) ?hq12b ?hy12b (by assumption) ?rest12b
    case hi12b => (simp only [List.getElem?_toArray, List.getElem?_cons_zero, List.getElem?_cons_succ]; rfl)
    case hy12b => (refine Or.inl ⟨by rfl, ?_⟩; intro w hSw; (try dsimp only at hSw); go_simp; try with_reducible rfl)
    case hq12b => exact fun _ _ _ h => h
    try simp only [Act.put, List.setIfInBounds_toArray, List.set_cons_zero, List.set_cons_succ]
    refine wpAnyH_take (i := 13) (oi := ?oi13b) (v := ?v13b) ?hi13b (by kernel_rfl) (by kernel_rfl) (by kernel_rfl) ?hq13b ?hy13b (by assumption) ?rest13b
    case hi13b => (simp only [List.getElem?_toArray, List.getElem?_cons_zero, List.getElem?_cons_succ]; rfl)
    case hy13b => (refine Or.inl ⟨by rfl, ?_⟩; intro w hSw; (try dsimp only at hSw); go_simp; try with_reducible rfl)
    case hq13b => exact fun _ _ _ h => h
    try simp only [Act.put, List.setIfInBounds_toArray, List.set_cons_zero, List.set_cons_succ]
    refine wpAnyH_take (i := 14) (oi := ?oi14b) (v := ?v14b) ?hi14b (by kernel_rfl) (by kernel_rfl) (by kernel_rfl) ?hq14b ?hy14b (by assumption) ?rest14b
    case hi14b => (simp only [List.getElem?_toArray, List.getElem?_cons_zero, List.getElem?_cons_succ]; rfl)
    case hy14b => (refine Or.inl ⟨by rfl, ?_⟩; intro w hSw; (try dsimp only at hSw); go_simp; try with_reducible rfl)
    case hq14b => exact fun _ _ _ h => h
    try simp only [Act.put, List.setIfInBounds_toArray, List.set_cons_zero, List.set_cons_succ]
    refine wpAnyH_take (i := 15) (oi := ?oi15b) (v := ?v15b) ?hi15b (by kernel_rfl) (by kernel_rfl) (by kernel_rfl) ?hq15b ?hy15b (by assumption) ?rest15b
    case hi15b => (simp only [List.getElem?_toArray, List.getElem?_cons_zero, List.getElem?_cons_succ]; rfl)
    case hy15b => (refine Or.inl ⟨by rfl, ?_⟩; intro w hSw; (try dsimp only at hSw); go_simp; try with_reducible rfl)
    case hq15b => exact fun _ _ _ h => h
    try simp only [Act.put, List.setIfInBounds_toArray, List.set_cons_zero, List.set_cons_succ]
    refine wpAnyH_take (i := 16) (oi := ?oi16b) (v := ?v16b) ?hi16b (by kernel_rfl) (by kernel_rfl) (by kernel_rfl) ?hq16b ?hy16b (by assumption) ?rest16b
    case hi16b => (simp only [List.getElem?_toArray, List.getElem?_cons_zero, List.getElem?_cons_succ]; rfl)
    case hy16b => (refine Or.inl ⟨by rfl, ?_⟩; intro w hSw; (try dsimp only at hSw); go_simp; try with_reducible rfl)
    case hq16b => exact fun _ _ _ h => h
    try simp only [Act.put, List.setIfInBounds_toArray, List.set_cons_zero, List.set_cons_succ]
    refine wpAnyH_take (i := 17) (oi := ?oi17b) (v := ?v17b) ?hi17b (by kernel_rfl) (by kernel_rfl) (by kernel_rfl) ?hq17b ?hy17b (by assumption) ?rest17b
    case hi17b => (simp only [List.getElem?_toArray, List.getElem?_cons_zero, List.getElem?_cons_succ]; rfl)
    case hy17b => (refine Or.inl ⟨by rfl, ?_⟩; intro w hSw; (try dsimp only at hSw); go_simp; try with_reducible rfl)
    case hq17b => exact fun _ _ _ h => h
    try simp only [Act.put, List.setIfInBounds_toArray, List.set_cons_zero, List.set_cons_succ]
    refine wpAnyH_take (i := 18) (oi := ?oi18b) (v := ?v18b) ?hi18b (by kernel_rfl) (by kernel_rfl) (by kernel_rfl) ?hq18b ?hy18b (by assumption) ?rest18b
    case hi18b => (simp only [List.getElem?_toArray, List.getElem?_cons_zero, List.getElem?_cons_succ]; rfl)
    case hy18b => (refine Or.inl ⟨by rfl, ?_⟩; intro w hSw; (try dsimp only at hSw); go_simp; try with_reducible rfl)
    case hq18b => exact fun _ _ _ h => h
    try simp only [Act.put, List.setIfInBounds_toArray, List.set_cons_zero, List.set_cons_succ]
    refine wpAnyH_take (i := 19) (oi := ?oi19b) (v := ?v19b) ?hi19b (by kernel_rfl) (by kernel_rfl) (by kernel_rfl) ?hq19b ?hy19b (by assumption) ?rest19b
    case hi19b => (simp only [List.getElem?_toArray, List.getElem?_cons_zero, List.getElem?_cons_succ]; rfl)
    case hy19b => (refine Or.inl ⟨by rfl, ?_⟩; intro w hSw; (try dsimp only at hSw); go_simp; try with_reducible rfl)
    case hq19b => exact fun _ _ _ h => h
    try simp only [Act.put, List.setIfInBounds_toArray, List.set_cons_zero, List.set_cons_succ]
    refine wpAnyH_take (i := 20) (oi := ?oi20b) (v := ?v20b) ?hi20b (by kernel_rfl) (by kernel_rfl) (by kernel_rfl) ?hq20b ?hy20b (by assumption) ?rest20b
    case hi20b => (simp only [List.getElem?_toArray, List.getElem?_cons_zero, List.getElem?_cons_succ]; rfl)
    case hy20b => (refine Or.inl ⟨by rfl, ?_⟩; intro w hSw; (try dsimp only at hSw); go_simp; try with_reducible rfl)
    case hq20b => exact fun _ _ _ h => h
    try simp only [Act.put, List.setIfInBounds_toArray, List.set_cons_zero, List.set_cons_succ]
    refine wpAnyH_take (i := 21) (oi := ?oi21b) (v := ?v21b) ?hi21b (by kernel_rfl) (by kernel_rfl) (by kernel_rfl) ?hq21b ?hy21b (by assumption) ?rest21b
    case hi21b => (simp only [List.getElem?_toArray, List.getElem?_cons_zero, List.getElem?_cons_succ]; rfl)
    case hy21b => (refine Or.inl ⟨by rfl, ?_⟩; intro w hSw; (try dsimp only at hSw); go_simp; try with_reducible rfl)
    case hq21b => exact fun _ _ _ h => h
    try simp only [Act.put, List.setIfInBounds_toArray, List.set_cons_zero, List.set_cons_succ]
    refine wpAnyH_take (i := 22) (oi := ?oi22b) (v := ?v22b) ?hi22b (by kernel_rfl) (by kernel_rfl) (by kernel_rfl) ?hq22b ?hy22b (by assumption) ?rest22b
    case hi22b => (simp only [List.getElem?_toArray, List.getElem?_cons_zero, List.getElem?_cons_succ]; rfl)
    case hy22b => (refine Or.inl ⟨by rfl, ?_⟩; intro w hSw; (try dsimp only at hSw); go_simp; try with_reducible rfl)
    case hq22b => exact fun _ _ _ h => h
    try simp only [Act.put, List.setIfInBounds_toArray, List.set_cons_zero, List.set_cons_succ]
    refine wpAnyH_ready (rs := [4, 23]) (by kernel_rfl) (by simp) ?_
    refine AllReadyH.cons (o := ?o4b) ?ho4b (fun K hK => ?st4b) ?mo4b
    case ho4b => (simp only [List.getElem?_toArray, List.getElem?_cons_zero, List.getElem?_cons_succ]; rfl)
    · go_simp
      refine hK.out _ _ HS.out.1 (fun hHeld4 => ?_)
      clear hK K
      try simp only [Act.put, List.setIfInBounds_toArray, List.set_cons_zero, List.set_cons_succ]
      refine wpAnyH_ready (rs := [23]) (by kernel_rfl) (by simp) ?_
      refine AllReadyH.cons (o := ?o23bp) ?ho23bp (fun K hK => ?st23bp) ?mo23bp
      case ho23bp => (simp only [List.getElem?_toArray, List.getElem?_cons_zero, List.getElem?_cons_succ]; rfl)
      · go_simp
        refine hK.out _ _ HS.out.2.1 (fun hHeld23 => ?_)
        clear hK K
        try simp only [Act.put, List.setIfInBounds_toArray, List.set_cons_zero, List.set_cons_succ]
        refine wpAnyH_ready (rs := [24]) (by kernel_rfl) (by simp) ?_
        refine AllReadyH.cons (o := ?o24bp) ?ho24bp (fun K hK => ?st24bp) ?mo24bp
        case ho24bp => (simp only [List.getElem?_toArray, List.getElem?_cons_zero, List.getElem?_cons_succ]; rfl)
        · refine step_appN w3.drew (by rfl) _ _ 105 (by rfl) 0 113 i0 _ 5 40 u_pasts hi0 hz0 hz1 hz2 rfl (by decide) _ L _ (by rfl) hrow #[.int .i64 2, .int .i64 (j : Int), .int .i64 inc, .int .i64 tick, .bool (hv3 == c.inc)] rfl (by rfl) (evC_one ⟨2, (j : Int), inc, tick, hv3 == c.inc⟩) (by simp only [maxLen]; omega) (by omega) (Nat.zero_le _) ?_
          intro v6 w6 how6 _ hg6 hat6
          obtain ⟨s6, sv6⟩ := HS.out.2.2 w6 v6 hg6
          obtain ⟨q6, qf6⟩ := HK.out w6 hg6
          have HK6 := Lib.hid (HAP.out w6 v6 how6 hg6 hat6)
          obtain ⟨A6, cap6, rfl, _, _⟩ := own_shape how6
          clear how6 hg6 hat6
          refine hK.out _ _ s6 (fun hHeld24 => ?_)
          clear hK K
          try simp only [Act.put, List.setIfInBounds_toArray, List.set_cons_zero, List.set_cons_succ]
          refine wpAnyH_take (i := 25) (oi := ?oi25bp) (v := ?v25bp) ?hi25bp (by kernel_rfl) (by kernel_rfl) (by kernel_rfl) ?hq25bp ?hy25bp (by assumption) ?rest25bp
          case hi25bp => (simp only [List.getElem?_toArray, List.getElem?_cons_zero, List.getElem?_cons_succ]; rfl)
          case hy25bp => (refine Or.inl ⟨by rfl, ?_⟩; intro w hSw; (try dsimp only at hSw); go_simp; try with_reducible rfl)
          case hq25bp => exact fun _ _ _ h => h
          try simp only [Act.put, List.setIfInBounds_toArray, List.set_cons_zero, List.set_cons_succ]
          refine wpAnyH_take (i := 26) (oi := ?oi26bp) (v := ?v26bp) ?hi26bp (by kernel_rfl) (by kernel_rfl) (by kernel_rfl) ?hq26bp ?hy26bp (by assumption) ?rest26bp
          case hi26bp => (simp only [List.getElem?_toArray, List.getElem?_cons_zero, List.getElem?_cons_succ]; rfl)
          case hy26bp => (refine Or.inl ⟨by rfl, ?_⟩; intro w hSw; (try dsimp only at hSw); go_simp; try with_reducible rfl)
          case hq26bp => exact fun _ _ _ h => h
          try simp only [Act.put, List.setIfInBounds_toArray, List.set_cons_zero, List.set_cons_succ]
          refine wpAnyH_ready (rs := [27]) (by kernel_rfl) (by simp) ?_
          refine AllReadyH.cons (o := ?o27bp) ?ho27bp (fun K hK => ?st27bp) ?mo27bp
          case ho27bp => (simp only [List.getElem?_toArray, List.getElem?_cons_zero, List.getElem?_cons_succ]; rfl)
          · go_simp
            refine hK.out _ _ sv6 (fun hHeld27 => ?_)
            clear hK K
            try simp only [Act.put, List.setIfInBounds_toArray, List.set_cons_zero, List.set_cons_succ]
            refine wpAnyH_done (by kernel_rfl) ?_ _
            refine NoPanic.normal ?_
            go_wp2
            go_ret
            exact HK6.out
          · exact AllReadyH.nil
        · exact AllReadyH.nil
      · exact AllReadyH.nil
    · skip
      refine AllReadyH.cons (o := ?o23bq) ?ho23bq (fun K hK => ?st23bq) ?mo23bq
      case ho23bq => (simp only [List.getElem?_toArray, List.getElem?_cons_zero, List.getElem?_cons_succ]; rfl)
      · go_simp
        refine hK.out _ _ HS.out.2.1 (fun hHeld23 => ?_)
        clear hK K
        try simp only [Act.put, List.setIfInBounds_toArray, List.set_cons_zero, List.set_cons_succ]
        refine wpAnyH_ready (rs := [4]) (by kernel_rfl) (by simp) ?_
        refine AllReadyH.cons (o := ?o4bq) ?ho4bq (fun K hK => ?st4bq) ?mo4bq
        case ho4bq => (simp only [List.getElem?_toArray, List.getElem?_cons_zero, List.getElem?_cons_succ]; rfl)
        · go_simp
          refine hK.out _ _ HS.out.2.1 (fun hHeld4 => ?_)
          clear hK K
          try simp only [Act.put, List.setIfInBounds_toArray, List.set_cons_zero, List.set_cons_succ]
          refine wpAnyH_ready (rs := [24]) (by kernel_rfl) (by simp) ?_
          refine AllReadyH.cons (o := ?o24bq) ?ho24bq (fun K hK => ?st24bq) ?mo24bq
          case ho24bq => (simp only [List.getElem?_toArray, List.getElem?_cons_zero, List.getElem?_cons_succ]; rfl)
          · refine step_appN w3.drew (by rfl) _ _ 105 (by rfl) 0 113 i0 _ 5 40 u_pasts hi0 hz0 hz1 hz2 rfl (by decide) _ L _ (by rfl) hrow #[.int .i64 2, .int .i64 (j : Int), .int .i64 inc, .int .i64 tick, .bool (hv3 == c.inc)] rfl (by rfl) (evC_one ⟨2, (j : Int), inc, tick, hv3 == c.inc⟩) (by simp only [maxLen]; omega) (by omega) (Nat.zero_le _) ?_
            intro v6 w6 how6 _ hg6 hat6
            obtain ⟨s6, sv6⟩ := HS.out.2.2 w6 v6 hg6
            obtain ⟨q6, qf6⟩ := HK.out w6 hg6
            have HK6 := Lib.hid (HAP.out w6 v6 how6 hg6 hat6)
            obtain ⟨A6, cap6, rfl, _, _⟩ := own_shape how6
            clear how6 hg6 hat6
            refine hK.out _ _ s6 (fun hHeld24 => ?_)
            clear hK K
            try simp only [Act.put, List.setIfInBounds_toArray, List.set_cons_zero, List.set_cons_succ]
            refine wpAnyH_take (i := 25) (oi := ?oi25bq) (v := ?v25bq) ?hi25bq (by kernel_rfl) (by kernel_rfl) (by kernel_rfl) ?hq25bq ?hy25bq (by assumption) ?rest25bq
            case hi25bq => (simp only [List.getElem?_toArray, List.getElem?_cons_zero, List.getElem?_cons_succ]; rfl)
            case hy25bq => (refine Or.inl ⟨by rfl, ?_⟩; intro w hSw; (try dsimp only at hSw); go_simp; try with_reducible rfl)
            case hq25bq => exact fun _ _ _ h => h
            try simp only [Act.put, List.setIfInBounds_toArray, List.set_cons_zero, List.set_cons_succ]
            refine wpAnyH_take (i := 26) (oi := ?oi26bq) (v := ?v26bq) ?hi26bq (by kernel_rfl) (by kernel_rfl) (by kernel_rfl) ?hq26bq ?hy26bq (by assumption) ?rest26bq
            case hi26bq => (simp only [List.getElem?_toArray, List.getElem?_cons_zero, List.getElem?_cons_succ]; rfl)
            case hy26bq => (refine Or.inl ⟨by rfl, ?_⟩; intro w hSw; (try dsimp only at hSw); go_simp; try with_reducible rfl)
            case hq26bq => exact fun _ _ _ h => h
            try simp only [Act.put, List.setIfInBounds_toArray, List.set_cons_zero, List.set_cons_succ]
            refine wpAnyH_ready (rs := [27]) (by kernel_rfl) (by simp) ?_
            refine AllReadyH.cons (o := ?o27bq) ?ho27bq (fun K hK => ?st27bq) ?mo27bq
            case ho27bq => (simp only [List.getElem?_toArray, List.getElem?_cons_zero, List.getElem?_cons_succ]; rfl)
            · go_simp
              refine hK.out _ _ sv6 (fun hHeld27 => ?_)
              clear hK K
              try simp only [Act.put, List.setIfInBounds_toArray, List.set_cons_zero, List.set_cons_succ]
              refine wpAnyH_done (by kernel_rfl) ?_ _
              refine NoPanic.normal ?_
              go_wp2
              go_ret
              exact HK6.out
            · exact AllReadyH.nil
          · exact AllReadyH.nil
        · exact AllReadyH.nil
      · exact AllReadyH.nil
end Go.Proofs.Ytfjpmoigpnmeoaa
