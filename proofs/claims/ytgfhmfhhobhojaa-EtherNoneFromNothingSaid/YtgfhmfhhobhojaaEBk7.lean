/-
  EtherNoneFromNothing: the book beside the network. And: EtherNoneFromNothing: did, of one that was on its way. And: EtherNoneFromNothing: did, walked. And: EtherNoneFromNothing: comes, walked.
-/
import Derived.Test.YtgfhmfhhobhojaaEBk3
namespace Go.Proofs.Ytgfhmfhhobhojaa
open Go.ChangeShapes Go.WideShapes Go.ChangeAt Go.RowKit
section
variable {w w' w1 : World} {FB : Nat → Prop} {b : Nat} {S T : List Nat} {L : List (List UInt8)} {C : List Bool} {v0 v1 v2 v3 : Value} {Y : List Value}
theorem own_at {e n k : Nat} {v x : Value} {xs : List Value} (h : w.ownsRow 0 e 1 v n xs) (hx : xs[k]? = some x) : ∃ g cap, v = .slice (some ⟨g, 0, none⟩) n cap ∧ k < n ∧ w.cell? ⟨g, k, none⟩ = some x ∧ w.frozen? ⟨g, k, none⟩ = false := by
  have hl := h.1
  have hk := (List.getElem?_eq_some_iff.1 hx).1
  obtain ⟨g, cap, cur, hv, _, hB, _, _, _, ht⟩ := own_parts h (by omega)
  refine ⟨g, cap, hv, by omega, ?_, hB.frozen k⟩
  rw [hB.cell, ← Array.getElem?_toList]
  rw [← ht, List.getElem?_take] at hx
  split at hx
  · exact hx
  · cases hx
theorem rdb_own {U : Option Addr} {cu : Nat} {bs : List UInt8} (h : w.ownsRow 0 5 1 (.slice U bs.length cu) bs.length (bvs bs)) : RdB w w.heap.size U bs.length bs := by
  refine ⟨by rw [bvs_length]; omega, fun hn => ?_⟩
  obtain ⟨g, cap, cur, hv, _, hB, _, _, _, ht⟩ := own_parts h hn
  simp only [Value.slice.injEq] at hv
  refine ⟨g, 0, hv.1, hB.lt, fun j x hx => ?_⟩
  rw [Nat.zero_add, hB.cell, ← Array.getElem?_toList]
  rw [← ht, List.getElem?_take] at hx
  split at hx
  · exact hx
  · cases hx
/-- An entry is marked. -/
theorem BookQ.come_set {g cap k : Nat} (h : BookQ w FB b S T L C v0 v1 v2 (.slice (some ⟨g, 0, none⟩) C.length cap) Y) (hk : k < C.length) : BookQ (w.setCell ⟨g, k, none⟩ (.bool true)) FB b S T L (C.set k true) v0 v1 v2 (.slice (some ⟨g, 0, none⟩) C.length cap) Y ∧ Chg FB w (w.setCell ⟨g, k, none⟩ (.bool true)) := by
  have hc : Chg (fun j => j = g) w (w.setCell ⟨g, k, none⟩ (.bool true)) := (Chg.refl (fun j => j = g) w).setCell (p := ⟨g, k, none⟩) (.inl rfl) _
  have hown {e n : Nat} {v : Value} {xs : List Value} (hv : w.ownsRow 0 e 1 v n xs) (hne : 4 ≠ e) : (w.setCell ⟨g, k, none⟩ (.bool true)).ownsRow 0 e 1 v n xs := own_far hv fun g' hg' e' => by
    subst e'
    exact own_apart h.come hv hne rfl hg'
  have hbg : b ≠ g := fun e => by subst e; exact absurd (own_ty h.come rfl h.blk) (by decide)
  refine ⟨⟨h.blk.chg hc hbg, hown h.src (by decide), hown h.dst (by decide), hown h.bytes (by decide), ?_, fun j bs hj => ?_, h.apart, h.sd, h.fb, h.f0, h.f1, h.f2, h.f3, h.fy, fun j hj => Nat.lt_of_lt_of_le (h.lt j hj) hc.size⟩, hc.mono fun j _ hj => hj ▸ h.f3 g rfl⟩
  · have := own_setZ (u := .bool true) h.come (q := k) (by omega)
    rw [List.length_set, List.map_set]
    exact this
  · obtain ⟨u, h1, h2⟩ := h.row j bs hj
    exact ⟨u, h1, hown h2 (by decide)⟩
theorem BookQ.lens (h : BookQ w FB b S T L C v0 v1 v2 v3 Y) : Y.length = L.length := by
  have := h.bytes.1
  omega
set_option maxRecDepth 100000 in
set_option maxHeartbeats 3200000 in
theorem bcomes_any (h : BookQ w FB b S T L C v0 v1 v2 v3 Y) (f : Flt) (hid : 1 ≤ f.id) (hid2 : f.id ≤ 4398046511104) (hS : S[f.id - 1]? = some f.src) (hT : T[f.id - 1]? = some f.dst) (hL : L[f.id - 1]? = some f.bs) (hC : C[f.id - 1]? = some false) (A : Option Addr) (cap : Nat) (hr : RdB w w.heap.size A f.bs.length f.bs) (hA : 0 < f.bs.length → ∀ q o s, A = some ⟨q, o, s⟩ → ¬ FB q) :
    Calls Try.prog 26 #[.pointer (some ⟨b, 0, none⟩), .agg #[.int .i64 (f.id : Int), .int .i64 (f.src : Int), .int .i64 (f.dst : Int), .int .i64 (f.due : Int), .slice A f.bs.length cap]] w fun e w' => e = .returned (.bool true) ∧ BookQ w' FB b S T L (C.set (f.id - 1) true) v0 v1 v2 v3 Y ∧ Chg FB w w' := by
  obtain ⟨k, hk⟩ : ∃ k, k = f.id - 1 := ⟨_, rfl⟩
  have hki : (f.id : Int) = (k : Int) + 1 := by omega
  have hk2 : k ≤ 4398046511104 := by omega
  rw [← hk] at hS hT hL hC ⊢
  rw [hki]
  clear hk hki hid hid2
  have hb0 := one_box' w (.cells #[.int .i64 ((k : Int) + 1), .int .i64 (f.src : Int), .int .i64 (f.dst : Int), .int .i64 (f.due : Int), .slice A f.bs.length cap] 48)
  have hE := Blk.new w 48 #[.int .i64 ((k : Int) + 1), .int .i64 (f.src : Int), .int .i64 (f.dst : Int), .int .i64 (f.due : Int), .slice A f.bs.length cap]
  obtain ⟨w0, hw0⟩ : ∃ w0, w0 = w.alloc (.cells #[.int .i64 ((k : Int) + 1), .int .i64 (f.src : Int), .int .i64 (f.dst : Int), .int .i64 (f.due : Int), .slice A f.bs.length cap] 48) := ⟨_, rfl⟩
  rw [← hw0] at hb0 hE
  have hNF : ¬ FB w.heap.size := fun hf => Nat.lt_irrefl _ (h.lt _ hf)
  have hq := h.below hb0
  obtain ⟨g0, p0, rfl, hl0, a0, -⟩ := own_at hq.src (k := k) (x := .int .i64 (f.src : Int)) (by simp [hS])
  obtain ⟨g1, p1, rfl, hl1, a1, -⟩ := own_at hq.dst (k := k) (x := .int .i64 (f.dst : Int)) (by simp [hT])
  obtain ⟨u, hu, hou⟩ := hq.row k f.bs hL
  obtain ⟨g2, p2, rfl, hl2, a2, -⟩ := own_at hq.bytes (k := k) hu
  obtain ⟨g3, p3, rfl, hl3, a3, d3⟩ := own_at hq.come (k := k) (x := .bool false) (by simp [hC])
  obtain ⟨hq2, hch⟩ := hq.come_set hl3
  obtain ⟨w1, hw1⟩ : ∃ w1, w1 = w0.setCell ⟨g3, k, none⟩ (.bool true) := ⟨_, rfl⟩
  rw [← hw1] at hq2 hch
  obtain ⟨U, cu, rfl, _, _⟩ := own_shape hou
  have hE1 := hE.chg hch hNF
  obtain ⟨_, _, hv0, _, b0, -⟩ := own_at hq2.src (k := k) (x := .int .i64 (f.src : Int)) (by simp [hS])
  simp only [Value.slice.injEq, Option.some.injEq, Addr.mk.injEq] at hv0; obtain ⟨⟨rfl, _⟩, _, rfl⟩ := hv0
  obtain ⟨_, _, hv1, _, b1, -⟩ := own_at hq2.dst (k := k) (x := .int .i64 (f.dst : Int)) (by simp [hT])
  simp only [Value.slice.injEq, Option.some.injEq, Addr.mk.injEq] at hv1; obtain ⟨⟨rfl, _⟩, _, rfl⟩ := hv1
  obtain ⟨_, _, hv2, _, b2, -⟩ := own_at hq2.bytes (k := k) hu
  simp only [Value.slice.injEq, Option.some.injEq, Addr.mk.injEq] at hv2; obtain ⟨⟨rfl, _⟩, _, rfl⟩ := hv2
  obtain ⟨u', hu', hou'⟩ := hq2.row k f.bs hL
  obtain rfl := Option.some.inj (hu.symm.trans hu')
  have hrU : RdB w1 w1.heap.size U f.bs.length f.bs := rdb_own hou'
  have hrA : RdB w1 w.heap.size A f.bs.length f.bs := rd_clear (hr.below hb0) hch hb0.size fun hn q o s e => hA hn q o s e
  have HSM : Hid (∀ d, Calls Try.prog 49 #[.slice U f.bs.length cu, .slice A f.bs.length cap] (w1.drewN d) fun e w' => e = .returned (.bool true) ∧ w' = w1.drewN d) := Lib.hid fun d => same_c U A _ _ cu cap _ _ f.bs _ (hrU.below (below_drewN (Below.refl _ _) d)) (hrA.below (below_drewN (Below.refl _ _) d))
  have HEND : Hid (∀ d, BookQ (w1.drewN d) FB b S T L (C.set k true) (.slice (some ⟨g0, 0, none⟩) S.length p0) (.slice (some ⟨g1, 0, none⟩) T.length p1) (.slice (some ⟨g2, 0, none⟩) L.length p2) (.slice (some ⟨g3, 0, none⟩) C.length p3) Y ∧ Chg FB w (w1.drewN d)) := Lib.hid fun d => ⟨hq2.below (below_drewN (Below.refl _ _) d), ((Chg.of_below hb0 FB).thenS hch fun _ _ hf => hf).drewN d⟩
  have x0 : w0.cell? ⟨w.heap.size, 0, none⟩ = some (.int .i64 ((k : Int) + 1)) := hE.cell 0
  have c0 : w0.cell? ⟨b, 0, none⟩ = some (.slice (some ⟨g0, 0, none⟩) S.length p0) := hq.blk.cell 0
  have c3 : w0.cell? ⟨b, 3, none⟩ = some (.slice (some ⟨g3, 0, none⟩) C.length p3) := hq.blk.cell 3
  have y1 : w1.cell? ⟨w.heap.size, 1, none⟩ = some (.int .i64 (f.src : Int)) := hE1.cell 1
  have y2 : w1.cell? ⟨w.heap.size, 2, none⟩ = some (.int .i64 (f.dst : Int)) := hE1.cell 2
  have y4 : w1.cell? ⟨w.heap.size, 4, none⟩ = some (.slice A f.bs.length cap) := hE1.cell 4
  have z0 : w1.cell? ⟨b, 0, none⟩ = some (.slice (some ⟨g0, 0, none⟩) S.length p0) := hq2.blk.cell 0
  have z1 : w1.cell? ⟨b, 1, none⟩ = some (.slice (some ⟨g1, 0, none⟩) T.length p1) := hq2.blk.cell 1
  have z2 : w1.cell? ⟨b, 2, none⟩ = some (.slice (some ⟨g2, 0, none⟩) L.length p2) := hq2.blk.cell 2
  have ew : IntKind.i64.wrap (k : Int) = (k : Int) := IntWalk.i64_in _ (by omega)
  have e1 : decide ((k : Int) < 0) = false := by simp
  have e2 : decide ((k : Int) ≥ (S.length : Int)) = false := by simp; omega
  have e3 : (k : Int) < (S.length : Int) := by omega
  have e4 : (k : Int) < (T.length : Int) := by omega
  have e5 : (k : Int) < (L.length : Int) := by omega
  have e6 : (k : Int) < (C.length : Int) := by omega
  have es : ((f.src : Int) == (f.src : Int)) = true := by simp
  have et : ((f.dst : Int) == (f.dst : Int)) = true := by simp
  have HW0 := Lib.hid hw0
  have HW1 := Lib.hid hw1
  clear h hr hA hb0 hE hw0 hq hS hT hL hC hq2 hch hw1 hE1 hou hou' hu hu' hrU hrA hNF hk2
  go_enter Try.func26, Try.ntmps26
  go_upto_region 1 with fail
  rw [← HW0.out]
  go_upto_region 4 with fail
  clear x0 c0 e1 e2 ew
  go_upto_region 5 with fail
  rw [← HW1.out]
  clear a0 a1 a2 a3 c3 d3
  go_quiet (first | (go_at_call 49; exact Calls.quiet_of_same (HSM.out _)))
  have HE2 := Lib.hid (HEND.out nq)
  go_wp2
  go_ret
  exact ⟨rfl, HE2.out⟩
end
end Go.Proofs.Ytgfhmfhhobhojaa
namespace Go.Proofs.Ytgfhmfhhobhojaa
open Go.ChangeShapes Go.WideShapes Go.ChangeAt Go.RowKit
/-- A list of packets in memory, none of its blocks in Z. -/
structure FlO (w : World) (Z : Nat → Prop) (A : Option Addr) (n : Nat) (l : List Flt) : Prop where
  len : n = l.length
  at_ : ∀ k f, l[k]? = some f → ∃ g bA bc, A = some ⟨g, 0, none⟩ ∧ ¬ Z g ∧ g < w.heap.size ∧ w.cell? ⟨g, k * 5, none⟩ = some (.int .i64 (f.id : Int)) ∧ w.cell? ⟨g, k * 5 + 1, none⟩ = some (.int .i64 (f.src : Int)) ∧ w.cell? ⟨g, k * 5 + 2, none⟩ = some (.int .i64 (f.dst : Int)) ∧ w.cell? ⟨g, k * 5 + 3, none⟩ = some (.int .i64 (f.due : Int)) ∧ w.cell? ⟨g, k * 5 + 4, none⟩ = some (.slice bA f.bs.length bc) ∧ RdB w w.heap.size bA f.bs.length f.bs ∧ (0 < f.bs.length → ∀ q o s, bA = some ⟨q, o, s⟩ → ¬ Z q)
theorem FlO.chg {w w' : World} {S Z : Nat → Prop} {A : Option Addr} {n : Nat} {l : List Flt} (h : FlO w Z A n l) (hc : Chg S w w') (hS : ∀ k, k < w.heap.size → S k → Z k) : FlO w' Z A n l := by
  refine ⟨h.len, fun k f hk => ?_⟩
  obtain ⟨g, bA, bc, e, hz, hg, c0, c1, c2, c3, c4, hr, hq⟩ := h.at_ k f hk
  have hcc : ∀ o, w'.cell? ⟨g, o, none⟩ = w.cell? ⟨g, o, none⟩ := fun o => World.cell?_of_block (hc.block g hg fun hs => hz (hS g hg hs))
  refine ⟨g, bA, bc, e, hz, Nat.lt_of_lt_of_le hg hc.size, (hcc _).trans c0, (hcc _).trans c1, (hcc _).trans c2, (hcc _).trans c3, (hcc _).trans c4, (rd_clear hr (hc.mono fun k hk hs => hS k hk hs) (Nat.le_refl _) fun hn q o s e => hq hn q o s e).more hc.size, hq⟩
theorem FlO.below {w w' : World} {Z : Nat → Prop} {A : Option Addr} {n : Nat} {l : List Flt} (h : FlO w Z A n l) (hb : Below w.heap.size w w') : FlO w' Z A n l := h.chg (Chg.of_below hb fun _ => False) fun _ _ h => h.elim
theorem FlO.of_p {w : World} {Z : Nat → Prop} {B : Nat} {A : Option Addr} {cap : Nat} {H : List (Flt × Nat)} (ho : w.ownsRow B 48 5 (.slice A H.length cap) H.length (rowsP H)) (hb : ∀ x ∈ H, Blk w x.2 5 (bvs x.1.bs).toArray) (hZ : ∀ k, B ≤ k → ¬ Z k) (hx : ∀ x ∈ H, ¬ Z x.2) : FlO w Z A H.length (H.map (·.1)) := by
  refine ⟨by rw [List.length_map], fun k f hk => ?_⟩
  rw [List.getElem?_map] at hk
  cases hxk : H[k]? with
  | none => rw [hxk] at hk; cases hk
  | some x =>
    obtain ⟨f', y⟩ := x
    rw [hxk] at hk
    simp only [Option.map_some, Option.some.injEq] at hk
    subst hk
    have hlt : k < H.length := (List.getElem?_eq_some_iff.1 hxk).1
    obtain ⟨g, cap', cur, hv, hg, hB, hle, hcm, hsz, htk⟩ := own_parts ho (by omega)
    simp only [Value.slice.injEq] at hv
    obtain ⟨rfl, _, _⟩ := hv
    have hr := ho.cells (g := g) rfl
    have hc : ∀ (i : Nat) (u : Value), i < 5 → (f'.row y)[i]? = some u → w.cell? ⟨g, k * 5 + i, none⟩ = some u := fun i u hi hu => by
      have h1 := hr (k * 5 + i) u (by
        rw [rowsP, flat5 (y := f'.row y) (fun z hz => by
          simp only [List.mem_map] at hz
          obtain ⟨_, _, rfl⟩ := hz
          rfl) hi (by rw [List.getElem?_map, hxk]; rfl)]
        exact hu)
      rw [addr_add, Nat.zero_add] at h1
      exact h1
    have hy := hb _ (List.mem_of_getElem? hxk)
    have hyz := hx _ (List.mem_of_getElem? hxk)
    exact ⟨g, some ⟨y, 0, none⟩, f'.bs.length, rfl, hZ g hg, hB.lt, hc 0 _ (by omega) rfl, hc 1 _ (by omega) rfl, hc 2 _ (by omega) rfl, hc 3 _ (by omega) rfl, hc 4 _ (by omega) rfl, ⟨by rw [bvs_length, Nat.mul_one], fun _ => ⟨y, 0, rfl, hy.lt, fun q u hu => by rw [Nat.zero_add, hy.cell, List.getElem?_toArray]; exact hu⟩⟩, fun _ q o s e => by injection e with e; injection e with e; exact e ▸ hyz⟩
section
variable {w : World} {FB : Nat → Prop} {bb : Nat} {S T : List Nat} {L : List (List UInt8)} {C : List Bool} {v0 v1 v2 v3 : Value} {Y : List Value}
set_option maxRecDepth 100000 in
set_option maxHeartbeats 3200000 in
theorem did_else (LA : Option Addr) (ln lc : Nat) (kd : Int) (a b n : Int) (BA SA : Option Addr) (bc sn sc : Nat) (bs : List UInt8) (hk : 21 ≤ kd ∧ kd ≤ 60 ∧ kd ≠ 37 ∧ kd ≠ 33 ∧ kd ≠ 36) : Calls Try.prog 51 #[.pointer (some ⟨bb, 0, none⟩), .slice LA ln lc, .agg #[.int .i64 kd, .int .i64 a, .int .i64 b, .int .i64 n, .slice BA bs.length bc, .slice SA sn sc]] w fun e w' => e = .returned (.bool true) ∧ Below w.heap.size w w' := by
  have hb0 := one_box' w (.cells #[.int .i64 kd, .int .i64 a, .int .i64 b, .int .i64 n, .slice BA bs.length bc, .slice SA sn sc] 33)
  have hE := Blk.new w 33 #[.int .i64 kd, .int .i64 a, .int .i64 b, .int .i64 n, .slice BA bs.length bc, .slice SA sn sc]
  obtain ⟨w0, hw0⟩ : ∃ w0, w0 = w.alloc (.cells #[.int .i64 kd, .int .i64 a, .int .i64 b, .int .i64 n, .slice BA bs.length bc, .slice SA sn sc] 33) := ⟨_, rfl⟩
  rw [← hw0] at hb0 hE
  have HW0 := Lib.hid hw0
  have HB0 := Lib.hid hb0
  have HE := Lib.hid hE
  have ew : IntKind.i64.wrap (kd - 20) = kd - 20 := IntWalk.i64_in _ (by omega)
  have e1 : ((kd - 20) == 17) = false := by simp; omega
  have e2 : ((kd - 20) == 13) = false := by simp; omega
  have e3 : ((kd - 20) == 16) = false := by simp; omega
  have x0 : w0.cell? ⟨w.heap.size, 0, none⟩ = some (.int .i64 kd) := hE.cell 0
  clear hw0 hb0 hE hk
  go_enter Try.func51, Try.ntmps51
  go_upto_region 1 with fail
  rw [← HW0.out]
  go_wp2
  go_ret
  exact ⟨rfl, HB0.out⟩
def PutD (w : World) (FB : Nat → Prop) (b : Nat) (S T : List Nat) (L : List (List UInt8)) (C : List Bool) (e : Ending) (w' : World) : Prop :=
  e = .returned (.bool true) ∧ ∃ FB' u0 u1 u2 u3 Z, BookQ w' FB' b S T L C u0 u1 u2 u3 Z ∧ (∀ k, FB' k → FB k ∨ w.heap.size ≤ k) ∧ Chg FB w w'
theorem PutD.behind {w0 w1 : World} {e : Ending} (hb : Below w.heap.size w w0) (h : PutD w0 FB bb S T L C e w1) : PutD w FB bb S T L C e w1 := by
  obtain ⟨h1, F', u0, u1, u2, u3, Z, h2, h3, h4⟩ := h
  exact ⟨h1, F', u0, u1, u2, u3, Z, h2, fun k hk => (h3 k hk).imp id (Nat.le_trans hb.size), (Chg.of_below hb FB).trans h4⟩
theorem bput_d {w : World} {x y : Nat} (h : BookQ w FB bb S T L C v0 v1 v2 v3 Y) (hT : T.length = S.length) (hL : L.length = S.length) (hC : C.length = S.length) (hS : S.length ≤ 4398046511104) (A : Option Addr) (cap : Nat) (bs : List UInt8) (hr : RdB w w.heap.size A bs.length bs) (hbn : bs.length ≤ 140737488351232) (hA : 0 < bs.length → ∀ q o s, A = some ⟨q, o, s⟩ → ¬ FB q) :
    Calls Try.prog 25 #[.pointer (some ⟨bb, 0, none⟩), .int .i64 ((S.length : Int) + 1), .int .i64 (x : Int), .int .i64 (y : Int), .slice A bs.length cap] w (PutD w FB bb (S ++ [x]) (T ++ [y]) (L ++ [bs]) (C ++ [false])) := by
  refine (bput_any h hT hL hC hS ((S.length : Int) + 1) x y A cap bs hr hbn hA).mono ?_
  rintro e w' ⟨rfl, h2⟩
  exact ⟨by rw [show (((S.length + 1 : Nat) : Int)) = (S.length : Int) + 1 by omega, beq_self_eq_true], h2⟩
set_option maxRecDepth 100000 in
set_option maxHeartbeats 3200000 in
theorem did_17 (h : BookQ w FB bb S T L C v0 v1 v2 v3 Y) (hT : T.length = S.length) (hL : L.length = S.length) (hC : C.length = S.length) (hS : S.length ≤ 4398046511104) (LA : Option Addr) (ln lc : Nat) (x y : Nat) (a b n : Int) (BA SA : Option Addr) (bc sn sc : Nat) (bs : List UInt8) (hr : RdB w w.heap.size BA bs.length bs) (hbn : bs.length ≤ 140737488351232) (hA : 0 < bs.length → ∀ q o s, BA = some ⟨q, o, s⟩ → ¬ FB q) (ha : a = (x : Int)) (hb : b = (y : Int)) : Calls Try.prog 51 #[.pointer (some ⟨bb, 0, none⟩), .slice LA ln lc, .agg #[.int .i64 37, .int .i64 a, .int .i64 b, .int .i64 n, .slice BA bs.length bc, .slice SA sn sc]] w (PutD w FB bb (S ++ [x]) (T ++ [y]) (L ++ [bs]) (C ++ [false])) := by
  have hb0 := one_box' w (.cells #[.int .i64 37, .int .i64 a, .int .i64 b, .int .i64 n, .slice BA bs.length bc, .slice SA sn sc] 33)
  have hE := Blk.new w 33 #[.int .i64 37, .int .i64 a, .int .i64 b, .int .i64 n, .slice BA bs.length bc, .slice SA sn sc]
  obtain ⟨w0, hw0⟩ : ∃ w0, w0 = w.alloc (.cells #[.int .i64 37, .int .i64 a, .int .i64 b, .int .i64 n, .slice BA bs.length bc, .slice SA sn sc] 33) := ⟨_, rfl⟩
  rw [← hw0] at hb0 hE
  have HW0 := Lib.hid hw0
  have HB0 := Lib.hid hb0
  have HE := Lib.hid hE
  subst ha hb
  have hq := h.below hb0
  obtain ⟨A8, p8, rfl, _, _⟩ := own_shape hq.src
  obtain ⟨wd, hwd⟩ : ∃ wd, wd = w0.drew := ⟨_, rfl⟩
  have hbd : Below w0.heap.size w0 wd := by rw [hwd]; exact below_drewN (Below.refl _ _) 1
  have HBD : Hid (Below w.heap.size w wd) := Lib.hid (hb0.trans (hbd.mono hb0.size))
  have HP := Lib.hid (bput_d (x := x) (y := y) (hq.below hbd) hT hL hC hS BA bc bs ((hr.below HBD.out).more HBD.out.size) hbn hA)
  have x0 : w0.cell? ⟨w.heap.size, 0, none⟩ = some (.int .i64 37) := hE.cell 0
  have hEd := hE.over hbd
  have x1 : wd.cell? ⟨w.heap.size, 1, none⟩ = some (.int .i64 (x : Int)) := hEd.cell 1
  have x2 : wd.cell? ⟨w.heap.size, 2, none⟩ = some (.int .i64 (y : Int)) := hEd.cell 2
  have x4 : wd.cell? ⟨w.heap.size, 4, none⟩ = some (.slice BA bs.length bc) := hEd.cell 4
  have c0 : wd.cell? ⟨bb, 0, none⟩ = some (.slice A8 S.length p8) := (hq.below hbd).blk.cell 0
  have ew : IntKind.i64.wrap ((S.length : Int) + 1) = (S.length : Int) + 1 := IntWalk.i64_in _ (by omega)
  have HWD := Lib.hid hwd
  clear hw0 hb0 hE hEd hq hwd hbd h hr hA
  go_enter Try.func51, Try.ntmps51
  go_upto_region 1 with fail
  rw [← HW0.out]
  go_upto_region 3 with fail
  refine region_tail 13 (by kernel_rfl) (by kernel_rfl) ?_
  simp only [List.take_succ_cons, List.take_zero, List.drop_succ_cons, List.drop_zero]
  rw [← HWD.out]
  repeat still_step
  refine wpStill_nil ?_
  change wpList _ _ _ _ _ wd
  go_wp2_with (go_at_call 25; refine HP.out.mono ?_; rintro _ w3 ⟨rfl, hp⟩; have HQ := Lib.hid hp; clear hp)
  go_ret
  exact PutD.behind HBD.out ⟨rfl, HQ.out⟩
end
end Go.Proofs.Ytgfhmfhhobhojaa
namespace Go.Proofs.Ytgfhmfhhobhojaa
open Go.ChangeShapes Go.WideShapes Go.ChangeAt Go.RowKit
section
variable {w : World} {FB : Nat → Prop} {bb : Nat} {S T : List Nat} {L : List (List UInt8)} {C : List Bool} {v0 v1 v2 v3 : Value} {Y : List Value}
theorem bvs_setB (l : List UInt8) (k : Nat) (c : UInt8) : bvs (l.set k c) = (bvs l).set k (.int .u8 (c.toNat : Int)) := by simp [bvs, List.map_set]
/-- A byte of an entry is written. -/
theorem BookQ.flip {g cu k i : Nat} {bs : List UInt8} {y : UInt8} (h : BookQ w FB bb S T L C v0 v1 v2 v3 Y) (hk : L[k]? = some bs) (hY : Y[k]? = some (.slice (some ⟨g, 0, none⟩) bs.length cu)) (hi : i < bs.length) : BookQ (w.setCell ⟨g, i, none⟩ (.int .u8 (y.toNat : Int))) FB bb S T (L.set k (bs.set i y)) C v0 v1 v2 v3 Y ∧ Chg FB w (w.setCell ⟨g, i, none⟩ (.int .u8 (y.toNat : Int))) := by
  obtain ⟨u, hu, ho⟩ := h.row k bs hk
  obtain rfl := Option.some.inj (hY.symm.trans hu)
  have hc : Chg (fun j => j = g) w (w.setCell ⟨g, i, none⟩ (.int .u8 (y.toNat : Int))) := (Chg.refl (fun j => j = g) w).setCell (p := ⟨g, i, none⟩) (.inl rfl) _
  have hown {e n : Nat} {v : Value} {xs : List Value} (hv : w.ownsRow 0 e 1 v n xs) (hne : 5 ≠ e) : (w.setCell ⟨g, i, none⟩ (.int .u8 (y.toNat : Int))).ownsRow 0 e 1 v n xs := own_far hv fun g' hg' e' => by
    subst e'
    exact own_apart ho hv hne rfl hg'
  have hbg : bb ≠ g := fun e => by subst e; exact absurd (own_ty ho rfl h.blk) (by decide)
  refine ⟨⟨h.blk.chg hc hbg, hown h.src (by decide), hown h.dst (by decide), ?_, hown h.come (by decide), fun j bs' hj => ?_, h.apart, h.sd, h.fb, h.f0, h.f1, h.f2, h.f3, h.fy, fun j hj => Nat.lt_of_lt_of_le (h.lt j hj) hc.size⟩, hc.mono fun j _ hj => hj ▸ h.fy _ (List.mem_of_getElem? hY) g rfl⟩
  · rw [List.length_set]; exact hown h.bytes (by decide)
  · rw [List.getElem?_set] at hj
    by_cases e : k = j
    · subst e
      rw [if_pos rfl] at hj
      split at hj
      · obtain rfl := Option.some.inj hj
        refine ⟨_, hY, ?_⟩
        have h2 := own_setZ (u := .int .u8 (y.toNat : Int)) ho (q := i) (by omega)
        rw [List.length_set, bvs_setB]
        exact h2
      · cases hj
    · rw [if_neg e] at hj
      obtain ⟨u', h1, h2⟩ := h.row j bs' hj
      exact ⟨u', h1, own_far h2 fun g' hg' e' => by
        subst e'
        exact e (h.apart k j _ _ _ hY h1 rfl hg')⟩
set_option maxRecDepth 100000 in
set_option maxHeartbeats 3200000 in
theorem did_13 (h : BookQ w FB bb S T L C v0 v1 v2 v3 Y) (hT : T.length = S.length) (hL : L.length = S.length) (hC : C.length = S.length) (hS : S.length ≤ 4398046511104) {LA : Option Addr} {ln : Nat} {l : List Flt} (hl : FlO w FB LA ln l) (lc : Nat) {k : Nat} {f : Flt} (hf : l[k]? = some f) (_hln : ln ≤ 1099511627776)  (a b n : Int) (BA SA : Option Addr) (bc sn sc : Nat) (bs : List UInt8) (ha : a = (k : Int)) (hbn : f.bs.length ≤ 140737488351232) : Calls Try.prog 51 #[.pointer (some ⟨bb, 0, none⟩), .slice LA ln lc, .agg #[.int .i64 33, .int .i64 a, .int .i64 b, .int .i64 n, .slice BA bs.length bc, .slice SA sn sc]] w (PutD w FB bb (S ++ [f.src]) (T ++ [f.dst]) (L ++ [f.bs]) (C ++ [false])) := by
  have hb0 := one_box' w (.cells #[.int .i64 33, .int .i64 a, .int .i64 b, .int .i64 n, .slice BA bs.length bc, .slice SA sn sc] 33)
  have hE := Blk.new w 33 #[.int .i64 33, .int .i64 a, .int .i64 b, .int .i64 n, .slice BA bs.length bc, .slice SA sn sc]
  obtain ⟨w0, hw0⟩ : ∃ w0, w0 = w.alloc (.cells #[.int .i64 33, .int .i64 a, .int .i64 b, .int .i64 n, .slice BA bs.length bc, .slice SA sn sc] 33) := ⟨_, rfl⟩
  rw [← hw0] at hb0 hE
  have HW0 := Lib.hid hw0
  have HB0 := Lib.hid hb0
  have HE := Lib.hid hE
  subst ha
  have hkl : (k : Int) < (ln : Int) := by
    have := (List.getElem?_eq_some_iff.1 hf).1
    have := hl.len
    omega
  have e0 : decide ((k : Int) ≥ (ln : Int)) = false := by simp; omega
  have e1 : decide ((k : Int) < 0) = false := by simp
  obtain ⟨lg, fA, fc, rfl, hz, hg, m0, m1, m2, m3, m4, hr, hA⟩ := (hl.below hb0).at_ k f hf
  have hq := h.below hb0
  have x0 : w0.cell? ⟨w.heap.size, 0, none⟩ = some (.int .i64 33) := hE.cell 0
  have x1 : w0.cell? ⟨w.heap.size, 1, none⟩ = some (.int .i64 (k : Int)) := hE.cell 1
  have hb1 := one_box' w0 (.cells #[.int .i64 (f.id : Int), .int .i64 (f.src : Int), .int .i64 (f.dst : Int), .int .i64 (f.due : Int), .slice fA f.bs.length fc] 48)
  have hY := Blk.new w0 48 #[.int .i64 (f.id : Int), .int .i64 (f.src : Int), .int .i64 (f.dst : Int), .int .i64 (f.due : Int), .slice fA f.bs.length fc]
  obtain ⟨w1, hw1⟩ : ∃ w1, w1 = w0.alloc (.cells #[.int .i64 (f.id : Int), .int .i64 (f.src : Int), .int .i64 (f.dst : Int), .int .i64 (f.due : Int), .slice fA f.bs.length fc] 48) := ⟨_, rfl⟩
  rw [← hw1] at hb1 hY
  have HW1 := Lib.hid hw1
  have HB1 : Hid (Below w.heap.size w w1) := Lib.hid (hb0.trans (hb1.mono hb0.size))
  have y0 : w1.cell? ⟨w.heap.size, 0, none⟩ = some (.int .i64 33) := (hE.over hb1).cell 0
  obtain ⟨A8, p8, rfl, _, _⟩ := own_shape hq.src
  obtain ⟨wd, hwd⟩ : ∃ wd, wd = w1.drew := ⟨_, rfl⟩
  have hbd : Below w1.heap.size w1 wd := by rw [hwd]; exact below_drewN (Below.refl _ _) 1
  have HBD : Hid (Below w.heap.size w wd) := Lib.hid (HB1.out.trans (hbd.mono HB1.out.size))
  have hb1d : Below w0.heap.size w0 wd := hb1.trans (hbd.mono hb1.size)
  have HP := Lib.hid (bput_d (x := f.src) (y := f.dst) (hq.below hb1d) hT hL hC hS fA fc f.bs ((hr.below hb1d).more hb1d.size) hbn hA)
  have hYd := hY.over hbd
  have z1 : wd.cell? ⟨w0.heap.size, 1, none⟩ = some (.int .i64 (f.src : Int)) := hYd.cell 1
  have z2 : wd.cell? ⟨w0.heap.size, 2, none⟩ = some (.int .i64 (f.dst : Int)) := hYd.cell 2
  have z4 : wd.cell? ⟨w0.heap.size, 4, none⟩ = some (.slice fA f.bs.length fc) := hYd.cell 4
  have c0 : wd.cell? ⟨bb, 0, none⟩ = some (.slice A8 S.length p8) := (hq.below hb1d).blk.cell 0
  have ew : IntKind.i64.wrap ((S.length : Int) + 1) = (S.length : Int) + 1 := IntWalk.i64_in _ (by omega)
  have HWD := Lib.hid hwd
  clear hw0 hb0 hE hYd hY hq hwd hbd h hr hA hb1 hb1d hw1 hl hf
  go_enter Try.func51, Try.ntmps51
  go_upto_region 1 with fail
  rw [← HW0.out]
  go_upto_region 9 with fail
  rw [← HW1.out]
  go_upto_region 10 with fail
  refine region_tail 13 (by kernel_rfl) (by kernel_rfl) ?_
  simp only [List.take_succ_cons, List.take_zero, List.drop_succ_cons, List.drop_zero]
  rw [← HWD.out]
  repeat still_step
  refine wpStill_nil ?_
  change wpList _ _ _ _ _ wd
  go_wp2_with (go_at_call 25; refine HP.out.mono ?_; rintro _ w3 ⟨rfl, hp⟩; have HQ := Lib.hid hp; clear hp)
  go_ret
  exact PutD.behind HBD.out ⟨rfl, HQ.out⟩
set_option maxRecDepth 100000 in
set_option maxHeartbeats 3200000 in
theorem did_16 (h : BookQ w FB bb S T L C v0 v1 v2 v3 Y) (_hT : T.length = S.length) (hL : L.length = S.length) (hC : C.length = S.length) (_hS : S.length ≤ 4398046511104) {LA : Option Addr} {ln : Nat} {l : List Flt} (hl : FlO w FB LA ln l) (lc : Nat) {k : Nat} {f : Flt} (hf : l[k]? = some f) (_hln : ln ≤ 1099511627776)  (a b n : Int) (BA SA : Option Addr) (bc sn sc : Nat) (bs : List UInt8) (ha : a = (k : Int)) (r : Nat) (hn : n = (r : Int)) (hr2 : r ≤ 9223372036854775807) (hno : r / 8 < f.bs.length) (hid : 1 ≤ f.id) (hid2 : f.id ≤ 4398046511104) (hLk : L[f.id - 1]? = some f.bs) : Calls Try.prog 51 #[.pointer (some ⟨bb, 0, none⟩), .slice LA ln lc, .agg #[.int .i64 36, .int .i64 a, .int .i64 b, .int .i64 n, .slice BA bs.length bc, .slice SA sn sc]] w (PutD w FB bb S T (L.set (f.id - 1) (flipF f r).bs) C) := by
  have hb0 := one_box' w (.cells #[.int .i64 36, .int .i64 a, .int .i64 b, .int .i64 n, .slice BA bs.length bc, .slice SA sn sc] 33)
  have hE := Blk.new w 33 #[.int .i64 36, .int .i64 a, .int .i64 b, .int .i64 n, .slice BA bs.length bc, .slice SA sn sc]
  obtain ⟨w0, hw0⟩ : ∃ w0, w0 = w.alloc (.cells #[.int .i64 36, .int .i64 a, .int .i64 b, .int .i64 n, .slice BA bs.length bc, .slice SA sn sc] 33) := ⟨_, rfl⟩
  rw [← hw0] at hb0 hE
  have HW0 := Lib.hid hw0
  have HB0 := Lib.hid hb0
  have HE := Lib.hid hE
  subst ha
  have hkl : (k : Int) < (ln : Int) := by
    have := (List.getElem?_eq_some_iff.1 hf).1
    have := hl.len
    omega
  have e0 : decide ((k : Int) ≥ (ln : Int)) = false := by simp; omega
  have e1 : decide ((k : Int) < 0) = false := by simp
  obtain ⟨lg, fA, fc, rfl, hz, hg, m0, m1, m2, m3, m4, hr, hA⟩ := (hl.below hb0).at_ k f hf
  have hq := h.below hb0
  have x0 : w0.cell? ⟨w.heap.size, 0, none⟩ = some (.int .i64 36) := hE.cell 0
  have x1 : w0.cell? ⟨w.heap.size, 1, none⟩ = some (.int .i64 (k : Int)) := hE.cell 1
  have hb1 := one_box' w0 (.cells #[.int .i64 (f.id : Int), .int .i64 (f.src : Int), .int .i64 (f.dst : Int), .int .i64 (f.due : Int), .slice fA f.bs.length fc] 48)
  have hY := Blk.new w0 48 #[.int .i64 (f.id : Int), .int .i64 (f.src : Int), .int .i64 (f.dst : Int), .int .i64 (f.due : Int), .slice fA f.bs.length fc]
  obtain ⟨w1, hw1⟩ : ∃ w1, w1 = w0.alloc (.cells #[.int .i64 (f.id : Int), .int .i64 (f.src : Int), .int .i64 (f.dst : Int), .int .i64 (f.due : Int), .slice fA f.bs.length fc] 48) := ⟨_, rfl⟩
  rw [← hw1] at hb1 hY
  have HW1 := Lib.hid hw1
  have HB1 : Hid (Below w.heap.size w w1) := Lib.hid (hb0.trans (hb1.mono hb0.size))
  have y0 : w1.cell? ⟨w.heap.size, 0, none⟩ = some (.int .i64 36) := (hE.over hb1).cell 0
  subst hn
  obtain ⟨j, hj⟩ : ∃ j, j = f.id - 1 := ⟨_, rfl⟩
  have hji : (f.id : Int) = (j : Int) + 1 := by omega
  rw [← hj] at hLk ⊢
  have hjl : j < L.length := (List.getElem?_eq_some_iff.1 hLk).1
  obtain ⟨u, hu, hou⟩ := hq.row j f.bs hLk
  obtain ⟨g2, p2, rfl, hl2, a2, -⟩ := own_at hq.bytes (k := j) hu
  obtain ⟨cb, hcb⟩ : ∃ x, f.bs[r / 8]? = some x := ⟨f.bs[r / 8], List.getElem?_eq_getElem hno⟩
  obtain ⟨g4, p4, rfl, _, a4, d4⟩ := own_at hou (k := r / 8) (x := .int .u8 (cb.toNat : Int)) (bvs_at hcb)
  have y1 : w1.cell? ⟨w.heap.size, 3, none⟩ = some (.int .i64 (r : Int)) := (hE.over hb1).cell 3
  have y4 : w1.cell? ⟨w0.heap.size, 0, none⟩ = some (.int .i64 ((j : Int) + 1)) := by rw [← hji]; exact hY.cell 0
  have c2 : w1.cell? ⟨bb, 2, none⟩ = some (.slice (some ⟨g2, 0, none⟩) L.length p2) := (hq.below hb1).blk.cell 2
  have b2 : w1.cell? ⟨g2, j, none⟩ = some (.slice (some ⟨g4, 0, none⟩) f.bs.length p4) := (hb1.cell (World.block_lt_of_cell? _ _ a2)).trans a2
  have hw01 : ∀ n W, W = w1.drewN n → Below w0.heap.size w0 W := fun n W e => by rw [e]; exact hb1.trans (below_drewN (Below.refl _ _) n |>.mono hb1.size)
  have HQW := Lib.hid fun n W e => hq.below (hw01 n W e)
  have HCA := Lib.hid fun n W (e : W = w1.drewN n) => (Chg.of_below hb0 FB).trans (Chg.of_below (hw01 n W e) FB)
  have HLK := Lib.hid (And.intro hLk hu)
  have HCB : Hid (f.bs.getD (r / 8) 0 = cb) := Lib.hid (by rw [List.getD_eq_getElem?_getD, hcb]; rfl)
  have ew : IntKind.i64.wrap (j : Int) = (j : Int) := IntWalk.i64_in _ (by omega)
  have e2 : decide ((j : Int) < 0) = false := by simp
  have e3 : decide ((j : Int) ≥ (L.length : Int)) = false := by simp; omega
  have e4 : (j : Int) < (L.length : Int) := by omega
  have e5 : decide ((r : Int) < 0) = false := by simp
  have e6 : (r : Int) / 8 = ((r / 8 : Nat) : Int) := div8 r
  have e7 : IntKind.i64.wrap ((r / 8 : Nat) : Int) = ((r / 8 : Nat) : Int) := IntWalk.i64_in _ (by omega)
  have e8 : decide (((r / 8 : Nat) : Int) ≥ (f.bs.length : Int)) = false := by simp; omega
  have e9 : ((r / 8 : Nat) : Int) < (f.bs.length : Int) := by omega
  have s1 := shl1 r
  have s2 := xor1 cb r
  have b4 : w1.cell? ⟨g4, r / 8, none⟩ = some (.int .u8 (cb.toNat : Int)) := (hb1.cell (World.block_lt_of_cell? _ _ a4)).trans a4
  have HFR : Hid (∀ n, (w1.drewN n).frozen? ⟨g4, r / 8, none⟩ = false) := Lib.hid fun n => by
    obtain ⟨_, _, cu, hB⟩ := own_block_lt hou (g := g4) rfl
    exact (hB.over (hw01 n _ rfl)).frozen _
  have HNO := Lib.hid hno
  generalize hr8 : r / 8 = r8 at *
  have HR8 := Lib.hid hr8
  rw [hji] at m0
  have hw1' : w0.alloc (.cells #[.int .i64 ((j : Int) + 1), .int .i64 (f.src : Int), .int .i64 (f.dst : Int), .int .i64 (f.due : Int), .slice fA f.bs.length fc] 48) = w1 := by rw [← hji]; exact hw1.symm
  have HW1' := Lib.hid hw1'
  clear hw0 hb0 hE hY hq h hr hA hb1 hw1 hl hf _hT hL hC _hS hLk hu hou a2 a4 d4 hcb hw01 hj hr8 hno hid hid2 hw1' HW1
  go_enter Try.func51, Try.ntmps51
  go_upto_region 1 with fail
  rw [← HW0.out]
  go_upto_region 9 with fail
  rw [HW1'.out]
  clear x0 x1 m0 m1 m2 m3 m4
  go_upto_region 12 with fail
  go_quiet (fail)
  obtain ⟨wd, hwd⟩ : ∃ wd, wd = (w1.drewN nq).drew := ⟨_, rfl⟩
  have hwd2 : wd = w1.drewN (nq + 1) := hwd
  have hq3 := (HQW.out _ _ hwd2).flip (y := flipV cb (r % 8)) HLK.out.1 HLK.out.2 HNO.out
  have qf : wd.frozen? ⟨g4, r8, none⟩ = false := by rw [hwd2]; exact HFR.out _
  have t1 : wd.cell? ⟨w.heap.size, 3, none⟩ = some (.int .i64 (r : Int)) := by rw [hwd]; exact y1
  have t2 : wd.cell? ⟨bb, 2, none⟩ = some (.slice (some ⟨g2, 0, none⟩) L.length p2) := by rw [hwd]; exact c2
  have t3 : wd.cell? ⟨g2, j, none⟩ = some (.slice (some ⟨g4, 0, none⟩) f.bs.length p4) := by rw [hwd]; exact b2
  have t4 : wd.cell? ⟨g4, r8, none⟩ = some (.int .u8 (cb.toNat : Int)) := by rw [hwd]; exact b4
  obtain ⟨w2, hw2⟩ : ∃ w2, w2 = wd.setCell ⟨g4, r8, none⟩ (.int .u8 ((flipV cb (r % 8)).toNat : Int)) := ⟨_, rfl⟩
  have HEND : Hid (PutD w FB bb S T (L.set j (flipF f r).bs) C (.returned (.bool true)) w2) := by
    rw [← hw2] at hq3
    unfold flipF
    rw [HR8.out, HCB.out]
    exact Lib.hid ⟨rfl, FB, _, _, _, _, _, hq3.1, fun _ h => .inl h, (HCA.out _ _ hwd2).trans hq3.2⟩
  have HW2 := Lib.hid hw2
  have HWD := Lib.hid hwd
  clear hwd hwd2 hw2 hq3
  go_upto_region 14 with fail
  refine region_tail 28 (by kernel_rfl) (by kernel_rfl) ?_
  simp only [List.take_succ_cons, List.take_zero, List.drop_succ_cons, List.drop_zero]
  rw [← HWD.out]
  repeat still_step
  refine wpStill_nil ?_
  change wpList _ _ _ _ _ wd
  go_upto_region 15 with fail
  rw [← HW2.out]
  go_wp2
  go_ret
  exact HEND.out
end
end Go.Proofs.Ytgfhmfhhobhojaa
namespace Go.Proofs.Ytgfhmfhhobhojaa
open Go.ChangeShapes Go.WideShapes Go.ChangeAt Go.RowKit
def setBs (es : List Ent) (k : Nat) (bs : List UInt8) : List Ent := es.modify k fun e => { e with bs := bs }
theorem map_modify {α β : Type} (es : List α) (g : α → α) (f : α → β) (h : ∀ x, f (g x) = f x) (k : Nat) : (es.modify k g).map f = es.map f := by
  apply List.ext_getElem?
  intro i
  rw [List.getElem?_map, List.getElem?_map, List.getElem?_modify]
  cases es[i]? with
  | none => rfl
  | some x =>
    by_cases e : k = i
    · simp [e, h]
    · simp [e]
theorem map_modify_set {α β : Type} (es : List α) (g : α → α) (f : α → β) (y : β) (h : ∀ x, f (g x) = y) (k : Nat) : (es.modify k g).map f = (es.map f).set k y := by
  apply List.ext_getElem?
  intro i
  rw [List.getElem?_map, List.getElem?_set, List.getElem?_map, List.getElem?_modify, List.length_map]
  cases hx : es[i]? with
  | none =>
    have := List.getElem?_eq_none_iff.1 hx
    by_cases e : k = i
    · subst e; simp; omega
    · simp [e]
  | some x =>
    have := (List.getElem?_eq_some_iff.1 hx).1
    by_cases e : k = i
    · subst e; simp [h, this]
    · simp [e]
section
variable {c : ECfg} {p : PV} {m : Nat} {es : List Ent}
theorem BInv.len_le (h : BInv c p es) (hi : PInv c p m) : es.length ≤ m := by
  obtain ⟨r, h1, _⟩ := hi.ex
  rw [h.len, h1.last]
  exact h1.many
theorem PInv.small (hi : PInv c p m) {f : Flt} (hf : f ∈ p.way) : f.bs.length ≤ 40000 ∧ 1 ≤ f.id ∧ f.id ≤ m := by
  have h3 := hi.ids.2 f hf
  obtain ⟨r, h1, _⟩ := hi.ex
  rw [h1.way] at hf
  have h2 := h1.ends _ (wayOf_mem hf)
  have := h1.many
  rw [h1.last] at h3
  exact ⟨h2.2.2.2.1, h3.1, by omega⟩
theorem PInv.due_ (hi : PInv c p m) {f : Flt} (hf : f ∈ roundL c p) : f.due = p.clock + 1 := by
  obtain ⟨r, h1, _⟩ := hi.ex
  obtain ⟨h3, h4⟩ := List.mem_filter.1 hf
  have h5 := h1.due f (by rw [← h1.way]; exact h3)
  have := h1.clk
  unfold hereB stayB at h4
  simp at h4
  omega
theorem round_ok {f : Flt} (hf : f ∈ roundL c p) : openB c (roundP p).shut (f.src : Int) (f.dst : Int) = true ∧ upA c (roundP p).down (f.dst : Int) = true := by
  obtain ⟨_, h4⟩ := List.mem_filter.1 hf
  unfold hereB okB at h4
  simp only [Bool.and_eq_true] at h4
  exact h4.2
/-- An event that is played. -/
inductive Did (c : ECfg) (p : PV) (es : List Ent) (e : Evt) : List Ent → Prop where
  | inj (x y : Nat) : e.kd = 17 → e.a = (x : Int) → e.b = (y : Int) → Did c p es e (es ++ [⟨x, y, e.bs, false⟩])
  | dup (k : Nat) (f : Flt) : e.kd = 13 → e.a = (k : Int) → p.way[k]? = some f → Did c p es e (es ++ [⟨f.src, f.dst, f.bs, false⟩])
  | flip (k r : Nat) (f : Flt) : e.kd = 16 → e.a = (k : Int) → e.n = (r : Int) → p.way[k]? = some f → r / 8 < f.bs.length → Did c p es e (setBs es (f.id - 1) (flipF f r).bs)
  | els : e.kd ≠ 17 → e.kd ≠ 13 → e.kd ≠ 16 → Did c p es e es
theorem BInv.set_ (h : BInv c p es) (hi : PInv c p m) {k : Nat} {f g : Flt} (hk : p.way[k]? = some f) (hid : g.id = f.id) (hs : g.src = f.src) (hd : g.dst = f.dst) : BInv c { p with way := p.way.set k g } (setBs es (f.id - 1) g.bs) := by
  have hids := hi.ids
  obtain ⟨hkl, hke⟩ := List.getElem?_eq_some_iff.1 hk
  refine ⟨by simp [setBs, h.len], fun x hx => ?_, h.inc⟩
  have hx' : x ∈ p.way.set k g := hx
  obtain ⟨i, hi1, hi2⟩ := List.mem_iff_getElem.1 hx'
  rw [List.length_set] at hi1
  rw [List.getElem_set] at hi2
  have h1 : 1 ≤ f.id := (hids.2 f (List.mem_of_getElem? hk)).1
  unfold setBs
  rw [List.getElem?_modify]
  split at hi2
  · rename_i e
    subst e hi2
    rw [hid, h.way f (List.mem_of_getElem? hk)]
    simp [hs, hd]
  · rename_i e
    subst hi2
    have h2 := h.way _ (List.getElem_mem hi1)
    have h3 := (hids.2 _ (List.getElem_mem hi1)).1
    have hp := List.pairwise_iff_getElem.1 hids.1
    have hne : p.way[i].id ≠ f.id := fun e2 => by
      rcases Nat.lt_trichotomy i k with h4 | h4 | h4
      · have := hp i k hi1 hkl h4
        rw [hke] at this; omega
      · exact e h4.symm
      · have := hp k i hkl hi1 h4
        rw [hke] at this; omega
    rw [h2]
    dsimp only [Functor.map, Option.map]
    rw [if_neg (by omega)]
theorem BInv.did (h : BInv c p es) (hi : PInv c p m) {e : Evt} (h0 : (doD c p e).1 = 0) : ∃ es', Did c p es e es' ∧ BInv c (doD c p e).2 es' := by
  have hid := hi.ids.2
  unfold doD at h0 ⊢
  split
  · rename_i h1
    rw [if_pos h1] at h0
    refine ⟨es, .els (by omega) (by omega) (by omega), ?_⟩
    split
    · unfold turnD
      repeat' split
      all_goals exact ⟨h.len, h.way, h.inc⟩
    · exact h
  · rename_i h1
    rw [if_neg h1] at h0
    split
    · refine ⟨es, .els (by omega) (by omega) (by omega), ?_⟩
      split
      · exact ⟨h.len, h.way, h.inc⟩
      · exact h
    · rename_i h2
      rw [if_neg h2] at h0
      split
      · rename_i h3
        rw [if_pos h3] at h0
        split
        · rename_i h4
          rw [if_pos h4] at h0
          split
          · rename_i f hf
            rw [hf] at h0
            dsimp only at h0
            unfold touchD at h0 ⊢
            split
            · refine ⟨es, .els (by omega) (by omega) (by omega), h.sub rfl (fun f hf => List.mem_of_mem_eraseIdx hf) h.inc⟩
            · rename_i h5
              rw [if_neg h5] at h0
              split
              · rename_i h6
                rw [if_pos h6] at h0
                split
                · rename_i h7; rw [if_pos h7] at h0; cases h0
                · exact ⟨_, .dup e.a.toNat f h6 (by omega) hf, h.add hid _ _ _ _⟩
              · rename_i h6
                rw [if_neg h6] at h0
                split
                · rename_i h7
                  rw [if_pos h7] at h0
                  refine ⟨es, .els (by omega) (by omega) (by omega), ?_⟩
                  split
                  · have := h.set_ hi (g := { f with due := f.due + e.n.toNat }) hf rfl rfl rfl
                    have e2 : setBs es (f.id - 1) f.bs = es := by
                      apply List.ext_getElem?
                      intro j
                      unfold setBs
                      rw [List.getElem?_modify]
                      by_cases e3 : f.id - 1 = j
                      · subst e3
                        rw [h.way f (List.mem_of_getElem? hf)]
                        simp
                      · cases es[j]? <;> simp [e3]
                    rw [← e2]
                    exact this
                  · exact h
                · rename_i h7
                  rw [if_neg h7] at h0
                  split
                  · rename_i h8
                    exact ⟨_, .flip e.a.toNat e.n.toNat f (by omega) (by omega) (by omega) hf h8.2, h.set_ hi hf rfl rfl rfl⟩
                  · rename_i h8; rw [if_neg h8] at h0; cases h0
          · rename_i hf; rw [hf] at h0; cases h0
        · rename_i h4; rw [if_neg h4] at h0; cases h0
      · rename_i h3
        rw [if_neg h3] at h0
        split
        · rename_i h4
          rw [if_pos h4] at h0
          have h5 : postE c p e.a e.b e.bs.length false = 0 := h0
          have hJ : joinB c e.a e.b = true := by
            unfold postE at h5
            split at h5
            · rename_i h6; exact h6.1
            · cases h5
          rcases joinB_cases c e.a e.b with ⟨i, j, ha, hb, _⟩ | hn
          · have := h.post hid h5
            rw [ha, hb, Int.toNat_natCast, Int.toNat_natCast] at this
            exact ⟨_, .inj i j h4 ha hb, by rw [ha, hb]; exact this⟩
          · rw [hn] at hJ; cases hJ
        · rename_i h4; rw [if_neg h4] at h0; cases h0
theorem take_did (h : BInv c p es) (hi : PInv c p m) {a : Int} (h0 : (takeD c p a).1 = 0) : BRest c (takeD c p a).2.2 es [(takeD c p a).2.1] ∧ (takeD c p a).2.1 ∈ p.way ∧ openB c (takeD c p a).2.2.shut ((takeD c p a).2.1.src : Int) ((takeD c p a).2.1.dst : Int) = true ∧ upA c (takeD c p a).2.2.down ((takeD c p a).2.1.dst : Int) = true := by
  unfold takeD at h0 ⊢
  split
  · rename_i h1
    rw [if_pos h1] at h0
    split
    · rename_i f hf
      rw [hf] at h0
      dsimp only at h0
      split
      · rename_i h2
        refine ⟨h.take hi hf, List.mem_of_getElem? hf, ?_⟩
        show openB c p.shut _ _ = true ∧ upA c p.down _ = true
        unfold goneE at h2
        split at h2
        · rename_i h3
          split at h2
          · rename_i h4; exact ⟨h3, h4⟩
          · cases h2
        · cases h2
      · rename_i h2; rw [if_neg h2] at h0; exact absurd h0 h2
    · rename_i hf; rw [hf] at h0; cases h0
  · rename_i h1; rw [if_neg h1] at h0; cases h0
end
/-- The network, and the book beside it. -/
structure BkN (w : World) (B : Nat) (c : ECfg) (D m : Nat) (p : PV) (F : Nat → Prop) (bb : Nat) (FB : Nat → Prop) (es : List Ent) : Prop where
  live : LiveP w B c D m p F
  book : ∃ v0 v1 v2 v3 Y, BookQ w FB bb (es.map (·.src)) (es.map (·.dst)) (es.map (·.bs)) (es.map (·.come)) v0 v1 v2 v3 Y
  ap : ∀ k, FB k → ¬ F k
  ab : ∀ k, FB k → B ≤ k
  hB : B ≤ w.heap.size
def BkX (w : World) (B : Nat) (c : ECfg) (D m bb : Nat) : Prop := ∃ p F FB es, BkN w B c D m p F bb FB es ∧ BInv c p es
section
variable {w w' : World} {B : Nat} {c : ECfg} {D m bb : Nat} {p p' : PV} {F FB : Nat → Prop} {es : List Ent}
theorem BkN.below (h : BkN w B c D m p F bb FB es) (hb : Below w.heap.size w w') : BkN w' B c D m p F bb FB es := by
  obtain ⟨v0, v1, v2, v3, Y, hq⟩ := h.book
  exact ⟨h.live.below hb, ⟨v0, v1, v2, v3, Y, hq.below hb⟩, h.ap, h.ab, Nat.le_trans h.hB hb.size⟩
theorem BkN.lt (h : BkN w B c D m p F bb FB es) : ∀ k, FB k → k < w.heap.size := by
  obtain ⟨v0, v1, v2, v3, Y, hq⟩ := h.book
  exact hq.lt
theorem BkN.mono (h : BkN w B c D m p F bb FB es) {m' : Nat} (hm : m ≤ m') : BkN w B c D m' p F bb FB es := ⟨h.live.mono hm, h.book, h.ap, h.ab, h.hB⟩
theorem BkN.net (h : BkN w B c D m p F bb FB es) (hl : LiveC w F B c D m p' w') : (∃ G, BkN w' B c D (m + 1) p' G bb FB es) ∧ Below B w w' := by
  obtain ⟨G, h1, h2, h3⟩ := hl
  obtain ⟨v0, v1, v2, v3, Y, hq⟩ := h.book
  exact ⟨⟨G, h1, ⟨v0, v1, v2, v3, Y, hq.chg h3 h.ap⟩, fun k hk hg => (h2 k hg).elim (h.ap k hk) fun h4 => by have := hq.lt k hk; omega, h.ab, Nat.le_trans h.hB h3.size⟩, h3.to_below h.hB h.live.ab⟩
theorem BkN.to {es' : List Ent} {FB' : Nat → Prop} {v0 v1 v2 v3 : Value} {Y : List Value} (h : BkN w B c D m p F bb FB es) (hq : BookQ w' FB' bb (es'.map (·.src)) (es'.map (·.dst)) (es'.map (·.bs)) (es'.map (·.come)) v0 v1 v2 v3 Y) (hF : ∀ k, FB' k → FB k ∨ w.heap.size ≤ k) (hc : Chg FB w w') : BkN w' B c D m p F bb FB' es' ∧ Below B w w' := by
  have hlt := h.live.pn.1
  exact ⟨⟨⟨h.live.pn.chg hc fun k hk hf => h.ap k hf hk, h.live.inv, h.live.ab⟩, ⟨v0, v1, v2, v3, Y, hq⟩, fun k hk hg => (hF k hk).elim (fun h4 => h.ap k h4 hg) fun h4 => by have := hlt k hg; omega, fun k hk => (hF k hk).elim (h.ab k) (Nat.le_trans h.hB), Nat.le_trans h.hB hc.size⟩, hc.to_below h.hB h.ab⟩
theorem BkN.putD {es' : List Ent} {e : Ending} (h : BkN w B c D m p F bb FB es) (hp : PutD w FB bb (es'.map (·.src)) (es'.map (·.dst)) (es'.map (·.bs)) (es'.map (·.come)) e w') : e = .returned (.bool true) ∧ (∃ FB', BkN w' B c D m p F bb FB' es') ∧ Below B w w' := by
  obtain ⟨h1, FB', u0, u1, u2, u3, Z, h2, h3, h4⟩ := hp
  have h5 := h.to h2 h3 h4
  exact ⟨h1, ⟨FB', h5.1⟩, h5.2⟩
theorem turn_any (h : BkN w B c D m p F bb FB es) (hi : BInv c p es) (hm : m ≤ 4398046511104) (kd a b n : Int) (BA SA : Option Addr) (bn bc sn sc : Nat) (hk : kd = 5 ∨ kd = 6 ∨ kd = 7) : Calls Try.prog 50 #[.pointer (some ⟨bb, 0, none⟩), .pointer (some ⟨D, 0, none⟩), .agg #[.int .i64 kd, .int .i64 a, .int .i64 b, .int .i64 n, .slice BA bn bc, .slice SA sn sc]] w fun e w' => e = .returned (.bool true) ∧ BkX w' B c D (m + 1) bb ∧ Below B w w' := by
  have go {p' : PV} {e : Ending} {w' : World} (hi' : BInv c p' es) (hs : e = .returned (.bool true) ∧ LiveC w F B c D m p' w') : e = .returned (.bool true) ∧ BkX w' B c D (m + 1) bb ∧ Below B w w' := by
    obtain ⟨⟨G, h1⟩, h2⟩ := h.net hs.2
    exact ⟨hs.1, ⟨p', G, FB, es, h1, hi'⟩, h2⟩
  rcases hk with rfl | rfl | rfl
  · cases hu : upA c p.down a with
    | true => exact (turn_5y h.live h.hB hm bb a b n BA SA bn bc sn sc hu).mono fun _ _ => go (hi.tick a)
    | false => exact (turn_5n h.live h.hB hm bb a b n BA SA bn bc sn sc hu).mono fun _ _ => go (hi.tick a)
  · cases hu : upA c p.down a with
    | true => exact (turn_6y h.live h.hB hm bb a b n BA SA bn bc sn sc hu).mono fun _ _ => go (hi.crash a)
    | false => exact (turn_6n h.live h.hB hm bb a b n BA SA bn bc sn sc hu).mono fun _ _ => go (hi.crash a)
  · cases hu : upA c p.down a with
    | true => exact (turn_7u h.live h.hB hm bb a b n BA SA bn bc sn sc hu hi.inc).mono fun _ _ => go (hi.rest a)
    | false =>
      by_cases hz : numA c p.inc a = 0
      · exact (turn_7z h.live h.hB hm bb a b n BA SA bn bc sn sc hu hz hi.inc).mono fun _ _ => go (hi.rest a)
      · exact (turn_7y h.live h.hB hm bb a b n BA SA bn bc sn sc hu hz).mono fun _ _ => go (hi.rest a)
theorem did_any {m0 : Nat} (h : BkN w B c D m p' F bb FB es) (hi : BInv c p es) (hI : PInv c p m0) (hm : m0 ≤ 4398046511104) {es' : List Ent} {kd a b n : Int} {bs : List UInt8} {sides : List Int} (hD : Did c p es ⟨kd - 20, a, b, n, bs, sides⟩ es') (hk : 21 ≤ kd ∧ kd ≤ 60) (hn : n ≤ 9223372036854775807) {LA : Option Addr} {ln : Nat} (hl : FlO w FB LA ln p.way) (lc : Nat) (BA SA : Option Addr) (bc sn sc : Nat) (hln : ln ≤ 1099511627776) (hr : RdB w w.heap.size BA bs.length bs) (hbn : bs.length ≤ 140737488351232) (hA : 0 < bs.length → ∀ q o s, BA = some ⟨q, o, s⟩ → ¬ FB q) : Calls Try.prog 51 #[.pointer (some ⟨bb, 0, none⟩), .slice LA ln lc, .agg #[.int .i64 kd, .int .i64 a, .int .i64 b, .int .i64 n, .slice BA bs.length bc, .slice SA sn sc]] w fun e w' => e = .returned (.bool true) ∧ (∃ FB', BkN w' B c D m p' F bb FB' es') ∧ Below B w w' := by
  obtain ⟨v0, v1, v2, v3, Y, hq⟩ := h.book
  have hlen := hi.len_le hI
  have l1 : (es.map (·.dst)).length = (es.map (·.src)).length := by simp
  have l2 : (es.map (·.bs)).length = (es.map (·.src)).length := by simp
  have l3 : (es.map (·.come)).length = (es.map (·.src)).length := by simp
  have l4 : (es.map (·.src)).length ≤ 4398046511104 := by simp; omega
  cases hD with
  | inj x y h1 h2 h3 =>
    dsimp only at h1 h2 h3
    obtain rfl : kd = 37 := by omega
    refine (did_17 hq l1 l2 l3 l4 LA ln lc x y a b n BA SA bc sn sc bs hr hbn hA h2 h3).mono fun e w' hp => h.putD ?_
    rw [List.map_append, List.map_append, List.map_append, List.map_append]
    exact hp
  | dup k f h1 h2 h3 =>
    dsimp only at h1 h2
    obtain rfl : kd = 33 := by omega
    have hs := hI.small (List.mem_of_getElem? h3)
    refine (did_13 hq l1 l2 l3 l4 hl lc h3 hln a b n BA SA bc sn sc bs h2 (by omega)).mono fun e w' hp => h.putD ?_
    rw [List.map_append, List.map_append, List.map_append, List.map_append]
    exact hp
  | flip k r f h1 h2 h3 h4 h5 =>
    dsimp only at h1 h2 h3
    obtain rfl : kd = 36 := by omega
    have hs := hI.small (List.mem_of_getElem? h4)
    have hw := hi.way f (List.mem_of_getElem? h4)
    refine (did_16 hq l1 l2 l3 l4 hl lc h4 hln a b n BA SA bc sn sc bs h2 r h3 (by omega) h5 hs.2.1 (by omega) (by rw [List.getElem?_map, hw]; rfl)).mono fun e w' hp => h.putD ?_
    have e0 : (setBs es (f.id - 1) (flipF f r).bs).map (·.src) = es.map (·.src) := map_modify es (fun e => { e with bs := (flipF f r).bs }) (·.src) (fun _ => rfl) _
    have e1 : (setBs es (f.id - 1) (flipF f r).bs).map (·.dst) = es.map (·.dst) := map_modify es (fun e => { e with bs := (flipF f r).bs }) (·.dst) (fun _ => rfl) _
    have e2 : (setBs es (f.id - 1) (flipF f r).bs).map (·.bs) = (es.map (·.bs)).set (f.id - 1) (flipF f r).bs := map_modify_set es (fun e => { e with bs := (flipF f r).bs }) (·.bs) _ (fun _ => rfl) _
    have e3 : (setBs es (f.id - 1) (flipF f r).bs).map (·.come) = es.map (·.come) := map_modify es (fun e => { e with bs := (flipF f r).bs }) (·.come) (fun _ => rfl) _
    rw [e0, e1, e2, e3]
    exact hp
  | els h1 h2 h3 =>
    dsimp only at h1 h2 h3
    refine (did_else (bb := bb) LA ln lc kd a b n BA SA bc sn sc bs (by omega)).mono fun e w' hp => ⟨hp.1, ⟨FB, h.below hp.2⟩, hp.2.mono h.hB⟩
theorem comes_any {l : List Flt} {f : Flt} (h : BkN w B c D m p F bb FB es) (hR : BRest c p es (f :: l)) (hid2 : f.id ≤ 4398046511104) (A : Option Addr) (cap : Nat) (hr : RdB w w.heap.size A f.bs.length f.bs) (hA : 0 < f.bs.length → ∀ q o s, A = some ⟨q, o, s⟩ → ¬ FB q) : Calls Try.prog 26 #[.pointer (some ⟨bb, 0, none⟩), .agg #[.int .i64 (f.id : Int), .int .i64 (f.src : Int), .int .i64 (f.dst : Int), .int .i64 (f.due : Int), .slice A f.bs.length cap]] w fun e w' => e = .returned (.bool true) ∧ BkN w' B c D m p F bb FB (mark es (f.id - 1)) ∧ Below B w w' ∧ Chg FB w w' := by
  obtain ⟨v0, v1, v2, v3, Y, hq⟩ := h.book
  have hat := hR.at_ f (by simp)
  refine (bcomes_any hq f (hR.pos f (by simp)) hid2 (by rw [List.getElem?_map, hat]; rfl) (by rw [List.getElem?_map, hat]; rfl) (by rw [List.getElem?_map, hat]; rfl) (by rw [List.getElem?_map, hat]; rfl) A cap hr hA).mono fun e w' hp => ?_
  have h2 := hp.2.1
  have e0 : (mark es (f.id - 1)).map (·.src) = es.map (·.src) := map_modify es (fun e => { e with come := true }) (·.src) (fun _ => rfl) _
  have e1 : (mark es (f.id - 1)).map (·.dst) = es.map (·.dst) := map_modify es (fun e => { e with come := true }) (·.dst) (fun _ => rfl) _
  have e2 : (mark es (f.id - 1)).map (·.bs) = es.map (·.bs) := map_modify es (fun e => { e with come := true }) (·.bs) (fun _ => rfl) _
  have e3 : (mark es (f.id - 1)).map (·.come) = (es.map (·.come)).set (f.id - 1) true := map_modify_set es (fun e => { e with come := true }) (·.come) true (fun _ => rfl) _
  have h3 := h.to (es' := mark es (f.id - 1)) (by rw [e0, e1, e2, e3]; exact h2) (fun _ h => .inl h) hp.2.2
  exact ⟨hp.1, h3.1, h3.2, hp.2.2⟩
end
end Go.Proofs.Ytgfhmfhhobhojaa
