/-
  DetectOwn: a list written full, and one number put behind its end, twice.
-/
import Derived.Test.YtfjpmoigpnmeoaaDOwnB
namespace Go.Proofs.Ytfjpmoigpnmeoaa
open Go.RowKit
theorem own_put {w : World} {B : Nat} {e : TypeId} {g n cap k : Nat} {xs : List Value} {u : Value} (h : w.ownsRow B e 1 (.slice (some ⟨g, 0, none⟩) n cap) n xs) (hk : k < n) : (w.setCell ⟨g, k, none⟩ u).ownsRow B e 1 (.slice (some ⟨g, 0, none⟩) n cap) n (xs.set k u) := by
  obtain ⟨g', cap', cur, hv, hg, hB, hle, hcm, hsz, htk⟩ := own_parts h (by omega)
  simp only [Value.slice.injEq, Option.some.injEq, Addr.mk.injEq] at hv
  obtain ⟨⟨rfl, _⟩, _, rfl⟩ := hv
  refine ⟨by rw [List.length_set]; exact h.1, .inr ⟨g, cap, cur.setIfInBounds k u, rfl, hg, hB.set_ k u, hle, hcm, by rw [Array.size_setIfInBounds]; exact hsz, ?_⟩⟩
  rw [Array.toList_setIfInBounds, List.take_set, htk]
theorem fill_step (l : List Int) (mk : Int) {k : Nat} (hk : k < l.length) : (ivs (List.replicate k mk ++ l.drop k)).set k (.int .i64 mk) = ivs (List.replicate (k + 1) mk ++ l.drop (k + 1)) := by
  rw [List.drop_eq_getElem_cons hk]
  simp only [ivs, List.map_append, List.map_replicate, List.map_cons]
  rw [List.set_append_right _ _ (by simp), List.length_replicate, Nat.sub_self, List.set_cons_zero, List.replicate_succ', List.append_assoc]
  rfl
/-- What was handed out and marked, as it stands. -/
structure HandedAt (w : World) (B : Nat) (A : Option Addr) (n cap g1 g2 c1 c2 : Nat) (mk : Int) : Prop where
  got : w.ownsRow B 3 1 (.slice A n cap) n (ivs (List.replicate n mk))
  b1 : B ≤ g1 ∧ g1 < w.heap.size
  b2 : B ≤ g2 ∧ g2 < w.heap.size
  c1 : w.cell? ⟨g1, n, none⟩ = some (.int .i64 (mk + 1))
  c2 : w.cell? ⟨g2, n, none⟩ = some (.int .i64 (mk + 1))
  t1 : IsT w 3 g1
  t2 : IsT w 3 g2
def MarkedP (w : World) (B : Nat) (A : Option Addr) (n cap : Nat) (mk : Int) (e : Ending) (w' : World) : Prop :=
  ∃ g1 g2 c1 c2, e = .returned (.agg #[.slice A n cap, .slice (some ⟨g1, 0, none⟩) (n + 1) c1, .slice (some ⟨g2, 0, none⟩) (n + 1) c2, .int .i64 mk]) ∧ HandedAt w' B A n cap g1 g2 c1 c2 mk ∧ Below B w w'
theorem IsT.chg {w w' : World} {S : Nat → Prop} {t : TypeId} {g : Nat} (h : IsT w t g) (hc : Chg S w w') (hg : g < w.heap.size) (hS : ¬ S g) : IsT w' t g := by
  obtain ⟨c, f, e⟩ := h
  exact ⟨c, f, (hc.block g hg hS).trans e⟩
theorem HandedAt.chg {w w' : World} {S : Nat → Prop} {B : Nat} {A : Option Addr} {n cap g1 g2 c1 c2 : Nat} {mk : Int} (h : HandedAt w B A n cap g1 g2 c1 c2 mk) (hc : Chg S w w') (h0 : ∀ g, (Value.slice A n cap).ownBlock = some g → ¬ S g) (h1 : ¬ S g1) (h2 : ¬ S g2) : HandedAt w' B A n cap g1 g2 c1 c2 mk :=
  ⟨own_chg h.got hc h0, ⟨h.b1.1, Nat.lt_of_lt_of_le h.b1.2 hc.size⟩, ⟨h.b2.1, Nat.lt_of_lt_of_le h.b2.2 hc.size⟩,
    (World.cell?_of_block (hc.block g1 h.b1.2 h1)).trans h.c1, (World.cell?_of_block (hc.block g2 h.b2.2 h2)).trans h.c2, h.t1.chg hc h.b1.2 h1, h.t2.chg hc h.b2.2 h2⟩
theorem row_new (w : World) (u : Value) (e : TypeId) : Rd (w.alloc (.cells #[u] e)) (w.heap.size + 1) 1 (some ⟨w.heap.size, 0, none⟩) 1 [u] :=
  ⟨rfl, fun _ => ⟨w.heap.size, 0, rfl, by omega, fun j y hu => by
    rw [Nat.zero_add, (Blk.new w e #[u]).cell j, ← Array.getElem?_toList]
    exact hu⟩⟩
set_option maxRecDepth 100000 in
set_option maxHeartbeats 3200000 in
theorem marked_any (A : Option Addr) (cap : Nat) (l : List Int) (B : Nat) (mk : Int) (w : World) (hown : w.ownsRow B 3 1 (.slice A l.length cap) l.length (ivs l)) (hB : B ≤ w.heap.size) (hn : l.length ≤ 1000) (hm : 0 ≤ mk ∧ mk ≤ 10000) :
    Calls Try.prog 37 #[.slice A l.length cap, .int .i64 mk] w (MarkedP w B A l.length cap mk) := by
  obtain ⟨i0, hi0, hz0, hz1, hz2⟩ := info_parts info_int
  have hb0 := one_box' w (.cells #[.slice none 0 0, .slice none 0 0, .slice none 0 0, .int .i64 0] 74)
  have hS := Blk.new w 74 #[.slice none 0 0, .slice none 0 0, .slice none 0 0, .int .i64 0]
  have hown0 := own_over hown hb0
  obtain ⟨w0, hw0⟩ : ∃ w0, w0 = w.alloc (.cells #[.slice none 0 0, .slice none 0 0, .slice none 0 0, .int .i64 0] 74) := ⟨_, rfl⟩
  rw [← hw0] at hb0 hS hown0
  have HW := Lib.hid hw0
  have hs0 := hb0.size
  have HSB := Lib.hid hS
  have HB0 := Lib.hid hb0
  have HNE : Hid (¬ (Value.slice A l.length cap).ownBlock = some w.heap.size) := Lib.hid fun h => by have := (own_block_lt hown h).1; omega
  have hlt0 := hS.lt
  generalize hN : l.length = N at *
  have HN := Lib.hid hN
  clear hN hw0 hS hown hb0
  have hw2 : IntKind.i64.wrap (mk + 1) = mk + 1 := IntWalk.i64_in _ (by omega)
  go_enter Try.func37, Try.ntmps37
  go_upto_region 1 with fail
  rw [← HW.out]
  go_wp2_with fail
  go_loopw [5] (fun i wr => ∃ k : Nat, k ≤ N ∧ i = .int .i64 (k : Int) ∧ Hid (wr.ownsRow B 3 1 (.slice A N cap) N (ivs (List.replicate k mk ++ l.drop k))) ∧ Hid (Chg (fun g => (Value.slice A N cap).ownBlock = some g) w0 wr)) (fun i _ => N - (intOf i).toNat)
  case atStart => exact ⟨0, by omega, rfl, Lib.hid (by simpa using hown0), Lib.hid (Chg.refl _ _)⟩
  case round =>
    clear hown0
    obtain ⟨k, hk, rfl, HOW, HCH⟩ := hrel
    by_cases hlt : k < N
    · have hI : (k : Int) < (N : Int) := by omega
      obtain ⟨g, cap', cur, hv, hg, hBk, hle, hcm, hsz, htk⟩ := own_parts HOW.out (by omega)
      simp only [Value.slice.injEq] at hv
      obtain ⟨rfl, _, rfl⟩ := hv
      have f0 : wr.frozen? ⟨g, k, none⟩ = false := hBk.frozen k
      have hck : ∃ u, wr.cell? ⟨g, k, none⟩ = some u := by
        have h1 : k < cur.size := by omega
        exact ⟨cur[k], by rw [hBk.cell]; simp [h1]⟩
      obtain ⟨u0, hu0⟩ := hck
      have HO2 : Hid ((wr.setCell ⟨g, k, none⟩ (.int .i64 mk)).ownsRow B 3 1 (.slice (some ⟨g, 0, none⟩) N cap) N (ivs (List.replicate (k + 1) mk ++ l.drop (k + 1)))) := Lib.hid (by
        have h1 := own_put (u := .int .i64 mk) HOW.out hlt
        rw [fill_step l mk (by have := HN.out; omega)] at h1
        exact h1)
      have HC2 : Hid (Chg (fun g' => (Value.slice (some ⟨g, 0, none⟩) N cap).ownBlock = some g') w0 (wr.setCell ⟨g, k, none⟩ (.int .i64 mk))) := Lib.hid (HCH.out.setCell (p := ⟨g, k, none⟩) (.inl rfl) _)
      clear hBk hsz htk
      go_wp2
      go_roundw
      case rel => exact ⟨k + 1, by omega, by go_num, HO2, HC2⟩
      case measure => simp [intOf] <;> omega
    · obtain rfl : k = N := by omega
      have HOW' : Hid (wr.ownsRow B 3 1 (.slice A k cap) k (ivs (List.replicate k mk))) := Lib.hid (by
        have h1 := HOW.out
        rwa [← HN.out, List.drop_length, List.append_nil, HN.out] at h1)
      have hsr := HCH.out.size
      have HVB : Hid (∀ g, (Value.slice A k cap).ownBlock = some g → g < wr.heap.size ∧ B ≤ g) := Lib.hid fun g hg => ⟨(own_block_lt HOW'.out hg).1, (own_block_lt HOW'.out hg).2.1⟩
      have HHB : Hid (Blk wr w.heap.size 74 #[.slice none 0 0, .slice none 0 0, .slice none 0 0, .int .i64 0]) := Lib.hid (HSB.out.chg HCH.out HNE.out)
      have hoA := HOW'.out.alloc (.cells #[.int .i64 (mk + 1)] 3)
      have hbA := one_box' wr (.cells #[.int .i64 (mk + 1)] 3)
      have hzA : (wr.alloc (.cells #[.int .i64 (mk + 1)] 3)).heap.size = wr.heap.size + 1 := by simp
      clear HOW
      go_upto_region 6 with (
        at_builtin
        refine appRoom _ (by rfl) _ _ 22 (by rfl) B 3 i0 _ 1 8 u_ints hi0 hz0 hz1 hz2 rfl (by omega) _ k _ (by rfl) hoA (wr.heap.size + 1) (some ⟨wr.heap.size, 0, none⟩) 1 1 [.int .i64 (mk + 1)] (by rfl) (row_new wr _ _) (by simp; rfl) (by omega) (by simp only [maxLen]; omega) (by omega) (by omega) ?_
        intro v1 w1 hv1 hvk hg1 hr1
        obtain ⟨g1, c1, cu1, rfl, hgb1, hB1, hle1, hcm1, hsz1, htk1⟩ := own_parts hv1 (by omega)
        have HA1 := Lib.hid (And.intro hv1 (And.intro hvk (And.intro hg1 hr1)))
        clear hv1 hg1 hr1 hB1 hsz1 htk1)
      have hs1 := HA1.out.2.2.1.size
      have hoB := hvk.alloc (.cells #[.int .i64 (mk + 1)] 3)
      have hbB := one_box' w1 (.cells #[.int .i64 (mk + 1)] 3)
      have hzB : (w1.alloc (.cells #[.int .i64 (mk + 1)] 3)).heap.size = w1.heap.size + 1 := by simp
      go_upto_region 7 with (
        at_builtin
        refine appRoom _ (by rfl) _ _ 22 (by rfl) B 3 i0 _ 1 8 u_ints hi0 hz0 hz1 hz2 rfl (by omega) _ k _ (by rfl) hoB (w1.heap.size + 1) (some ⟨w1.heap.size, 0, none⟩) 1 1 [.int .i64 (mk + 1)] (by rfl) (row_new w1 _ _) (by simp; rfl) (by omega) (by simp only [maxLen]; omega) (by omega) (by omega) ?_
        intro v2 w2' hv2 hvk2 hg2 hr2
        obtain ⟨g2, c2, cu2, rfl, hgb2, hB2, hle2, hcm2, hsz2, htk2⟩ := own_parts hv2 (by omega)
        have HA2 := Lib.hid (And.intro hv2 (And.intro hvk2 (And.intro hg2 hr2)))
        clear hv2 hvk2 hg2 hr2 hB2 hsz2 htk2)
      have hCW : Chg (fun g => (Value.slice A k cap).ownBlock = some g) wr w2' :=
        (((Chg.of_below hbA _).trans ((Chg.of_grown HA1.out.2.2.1).mono fun _ _ h => h.symm)).trans (Chg.of_below hbB _)).trans ((Chg.of_grown HA2.out.2.2.1).mono fun _ _ h => h.symm)
      have hH1 : Blk w1 w.heap.size 74 #[.slice none 0 0, .slice none 0 0, .slice none 0 0, .int .i64 0] := (HHB.out.chg ((Chg.of_below hbA _).trans ((Chg.of_grown HA1.out.2.2.1).mono fun _ _ h => h.symm)) HNE.out)
      have hH2 : Blk w2' w.heap.size 74 #[.slice none 0 0, .slice none 0 0, .slice none 0 0, .int .i64 0] := HHB.out.chg hCW HNE.out
      have hne1 : g1 ≠ w.heap.size := fun e => by
        have h1 := own_isT HA1.out.1 (g := g1) rfl
        rw [e] at h1
        exact absurd (h1.eq_ hH1.isT) (by decide)
      have hne2 : g2 ≠ w.heap.size := fun e => by
        have h1 := own_isT HA2.out.1 (g := g2) rfl
        rw [e] at h1
        exact absurd (h1.eq_ hH2.isT) (by decide)
      have hlast : (ivs (List.replicate k mk) ++ [Value.int .i64 (mk + 1)])[k]? = some (.int .i64 (mk + 1)) := by simp [ivs]
      have hcell : ∀ (g c' : Nat), w2'.ownsRow B 3 1 (.slice (some ⟨g, 0, none⟩) (k + 1) c') (k + 1) (ivs (List.replicate k mk) ++ [Value.int .i64 (mk + 1)]) → w2'.cell? ⟨g, k, none⟩ = some (.int .i64 (mk + 1)) := fun g c' h => by
        have h1 := h.cells (g := g) rfl k _ hlast
        rw [addr_add, Nat.zero_add] at h1
        exact h1
      have hk2 := hcell g2 c2 HA2.out.1
      have hk1 : w2'.cell? ⟨g1, k, none⟩ = some (.int .i64 (mk + 1)) := by
        rcases own_twice HA1.out.1 HA1.out.2.2.2 hbB HA2.out.2.2.1 HA2.out.1 HA2.out.2.2.2 (fun g hg => by have := (HVB.out g hg).1; omega) with h | ⟨d1, d2, g, h1, h2⟩
        · exact hcell g1 c1 h
        · simp only [Value.slice.injEq, Option.some.injEq, Addr.mk.injEq] at h1 h2
          obtain ⟨⟨rfl, _⟩, _, _⟩ := h1
          obtain ⟨⟨rfl, _⟩, _, _⟩ := h2
          exact hk2
      have hg1b : g1 < w2'.heap.size := by have h1 := (own_block_lt HA1.out.1 (g := g1) rfl).1; have := HA2.out.2.2.1.size; omega
      have hg2b : g2 < w2'.heap.size := (own_block_lt HA2.out.1 (g := g2) rfl).1
      have ht2 : IsT w2' 3 g2 := own_isT HA2.out.1 (g := g2) rfl
      have ht1 : IsT w2' 3 g1 := by
        rcases own_twice HA1.out.1 HA1.out.2.2.2 hbB HA2.out.2.2.1 HA2.out.1 HA2.out.2.2.2 (fun g hg => by have := (HVB.out g hg).1; omega) with h | ⟨d1, d2, g, h1, h2⟩
        · exact own_isT h (g := g1) rfl
        · simp only [Value.slice.injEq, Option.some.injEq, Addr.mk.injEq] at h1 h2
          obtain ⟨⟨rfl, _⟩, _, _⟩ := h1
          obtain ⟨⟨rfl, _⟩, _, _⟩ := h2
          exact ht2
      have f0 : w2'.frozen? ⟨w.heap.size, 0, none⟩ = false := hH2.frozen 0
      have f1 : w2'.frozen? ⟨w.heap.size, 1, none⟩ = false := hH2.frozen 1
      have f2 : w2'.frozen? ⟨w.heap.size, 2, none⟩ = false := hH2.frozen 2
      have f3 : w2'.frozen? ⟨w.heap.size, 3, none⟩ = false := hH2.frozen 3
      have y0 : w2'.cell? ⟨w.heap.size, 0, none⟩ = some (.slice none 0 0) := hH2.cell 0
      have y1 : w2'.cell? ⟨w.heap.size, 1, none⟩ = some (.slice none 0 0) := hH2.cell 1
      have y2 : w2'.cell? ⟨w.heap.size, 2, none⟩ = some (.slice none 0 0) := hH2.cell 2
      have y3 : w2'.cell? ⟨w.heap.size, 3, none⟩ = some (.int .i64 0) := hH2.cell 3
      obtain ⟨w5, hw5⟩ : ∃ w5, w5 = (((w2'.setCell ⟨w.heap.size, 0, none⟩ (.slice A k cap)).setCell ⟨w.heap.size, 1, none⟩ (.slice (some ⟨g1, 0, none⟩) (k + 1) c1)).setCell ⟨w.heap.size, 2, none⟩ (.slice (some ⟨g2, 0, none⟩) (k + 1) c2)).setCell ⟨w.heap.size, 3, none⟩ (.int .i64 mk) := ⟨_, rfl⟩
      have hz := (((hH2.set_ 0 (.slice A k cap)).set_ 1 (.slice (some ⟨g1, 0, none⟩) (k + 1) c1)).set_ 2 (.slice (some ⟨g2, 0, none⟩) (k + 1) c2)).set_ 3 (.int .i64 mk)
      have hch5 : Chg (fun k => k = w.heap.size) w2' ((((w2'.setCell ⟨w.heap.size, 0, none⟩ (.slice A k cap)).setCell ⟨w.heap.size, 1, none⟩ (.slice (some ⟨g1, 0, none⟩) (k + 1) c1)).setCell ⟨w.heap.size, 2, none⟩ (.slice (some ⟨g2, 0, none⟩) (k + 1) c2)).setCell ⟨w.heap.size, 3, none⟩ (.int .i64 mk)) :=
        ((((Chg.refl (fun k => k = w.heap.size) w2').setCell (p := ⟨w.heap.size, 0, none⟩) (.inl rfl) _).setCell (p := ⟨w.heap.size, 1, none⟩) (.inl rfl) _).setCell (p := ⟨w.heap.size, 2, none⟩) (.inl rfl) _).setCell (p := ⟨w.heap.size, 3, none⟩) (.inl rfl) _
      rw [← hw5] at hz hch5
      have HW5 := Lib.hid hw5
      have z0 : w5.cell? ⟨w.heap.size, 0, none⟩ = some (.slice A k cap) := hz.cell 0
      have z1 : w5.cell? ⟨w.heap.size, 1, none⟩ = some (.slice (some ⟨g1, 0, none⟩) (k + 1) c1) := hz.cell 1
      have z2 : w5.cell? ⟨w.heap.size, 2, none⟩ = some (.slice (some ⟨g2, 0, none⟩) (k + 1) c2) := hz.cell 2
      have z3 : w5.cell? ⟨w.heap.size, 3, none⟩ = some (.int .i64 mk) := hz.cell 3
      have HE : Hid (MarkedP w B A k cap mk (.returned (.agg #[.slice A k cap, .slice (some ⟨g1, 0, none⟩) (k + 1) c1, .slice (some ⟨g2, 0, none⟩) (k + 1) c2, .int .i64 mk])) w5) := by
        refine Lib.hid ⟨g1, g2, c1, c2, rfl, ⟨own_chg HA2.out.2.1 hch5 fun g hg hs => ?_, ⟨hgb1, Nat.lt_of_lt_of_le hg1b hch5.size⟩, ⟨hgb2, Nat.lt_of_lt_of_le hg2b hch5.size⟩, (World.cell?_of_block (hch5.block g1 hg1b hne1)).trans hk1, (World.cell?_of_block (hch5.block g2 hg2b hne2)).trans hk2, ht1.chg hch5 hg1b hne1, ht2.chg hch5 hg2b hne2⟩, ?_⟩
        · exact HNE.out (by rw [hg, hs])
        · have h1 : Below B w0 w5 := ((HCH.out.to_below (by omega) fun g hg => (HVB.out g hg).2).trans (hCW.to_below (by omega) fun g hg => (HVB.out g hg).2)).trans (hch5.to_below (by omega) fun g hg => by omega)
          exact (HB0.out.mono hB).trans h1
      clear hw5 hz hch5 hCW hH1 hH2 hcell hlast hk1 hk2
      go_wp2_with fail
      rw [← HW5.out]
      go_wp2
      exact bodyPost_ret (v := .agg #[.slice A k cap, .slice (some ⟨g1, 0, none⟩) (k + 1) c1, .slice (some ⟨g2, 0, none⟩) (k + 1) c2, .int .i64 mk]) (by simp [results, Try.results37, z0, z1, z2, z3, go_sem]) rfl HE.out
end Go.Proofs.Ytfjpmoigpnmeoaa
