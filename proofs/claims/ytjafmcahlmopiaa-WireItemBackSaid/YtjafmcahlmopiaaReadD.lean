/-
  The program's reader: data.
-/
import Derived.Test.YtjafmcahlmopiaaReadT
namespace Go.Proofs.Ytjafmcahlmopiaa
open Go.RowKit

def dataP (bs : List UInt8) (p : Nat) : Sum Int ((Nat × Nat × Nat × List UInt8) × Nat) :=
  match numP bs p 0 15 with
  | .inl er => .inl er
  | .inr (a, p1) => match numP bs p1 1 4611686018427387904 with
    | .inl er => .inl er
    | .inr (b, p2) => match numP bs p2 0 4611686018427387904 with
      | .inl er => .inl er
      | .inr (c, p3) => match textP bs p3 0 256 with
        | .inl er => .inl er
        | .inr (l, p4) => .inr ((a, b, c, l), p4)
def DataPost (gr : Nat) (sl : Value) (w : World) (r : Sum Int ((Nat × Nat × Nat × List UInt8) × Nat)) (e : Ending) (w' : World) : Prop :=
  match r with
  | .inl er => Gives er e ∧ Chg (fun k => k = gr) w w'
  | .inr ((a, b, c, l), nx) => (∃ v, e = .returned (.agg #[.int .i64 a, .int .i64 b, .int .i64 c, v]) ∧ w'.ownsRow w.heap.size 5 1 v l.length (bvs l)) ∧ Blk w' gr 115 #[sl, .int .i64 (nx : Int)] ∧ Chg (fun k => k = gr) w w'

theorem RdB.chgr {w w' : World} {B n gr : Nat} {A : Option Addr} {bs : List UInt8} (h : RdB w B A n bs) (hc : Chg (fun k => k = gr) w w') (hB : B ≤ gr) (hg : gr < w.heap.size) : RdB w' B A n bs :=
  h.keep fun g hg' => hc.block g (by omega) (by omega)
set_option maxRecDepth 100000 in
set_option maxHeartbeats 1600000 in
theorem data_r (gr : Nat) (A : Option Addr) (n cap B : Nat) (bs : List UInt8) (p : Nat) (w : World) (hG : Blk w gr 115 #[.slice A n cap, .int .i64 (p : Int)]) (hr : RdB w B A n bs) (hB : B ≤ gr) (hn : n ≤ cap) (hc : n ≤ 140737488351232) (hp : p ≤ n) :
    Calls Try.prog 59 #[.pointer (some ⟨gr, 0, none⟩)] w (DataPost gr (.slice A n cap) w (dataP bs p)) := by
  have hl := hr.lenB
  obtain ⟨r, hr0⟩ : ∃ r, r = dataP bs p := ⟨_, rfl⟩
  have HR := Lib.hid hr0
  rw [← hr0]
  clear hr0
  have hgl := hG.lt
  go_enter Try.func59, Try.ntmps59
  go_wp2_with fail
  have hch0 := (Chg.refl (fun k => k = gr) w).alloc (.cells #[.int .i64 0, .int .i64 0, .int .i64 0, .slice none 0 0] 48)
  have hR0 := Blk.new w 48 #[.int .i64 0, .int .i64 0, .int .i64 0, .slice none 0 0]
  have hG0 := hG.alloc (.cells #[.int .i64 0, .int .i64 0, .int .i64 0, .slice none 0 0] 48)
  generalize w.alloc (.cells #[.int .i64 0, .int .i64 0, .int .i64 0, .slice none 0 0] 48) = w0 at hch0 hR0 hG0 ⊢
  have hr0 : RdB w0 B A n bs := hr.chgr hch0 hB hgl
  have hz0 := hch0.size
  refine (node_r gr A n cap B bs p w0 hG0 hr0 (by omega) hp).mono ?_
  intro e w1 hpst
  rcases h : numP bs p 0 15 with er | ⟨a, p1⟩
  · have HT : Hid (r = .inl er) := by show _ = _; rw [HR.out]; unfold dataP; simp only [h]
    rw [h] at hpst
    obtain ⟨rfl, hch⟩ := hpst
    clear h
    go_wp2
    rw [HT.out]
    exact ⟨rfl, rfl, hch0.trans hch⟩
  rw [h] at hpst
  obtain ⟨rfl, hG1, hch1⟩ := hpst
  obtain ⟨-, -, -, -, hp1⟩ := numP_ok h
  have H1 := Lib.hid h
  have hR1 := hR0.chg hch1 (by omega)
  have hch1 := hch0.trans hch1
  have hr1 : RdB w1 B A n bs := hr.chgr hch1 hB hgl
  have hz1 := hch1.size
  clear h hG0 hr0 hR0
  go_wp2_with fail
  have hD2 := Blk.new w1 48 #[.int .i64 a, .int .i64 0, .int .i64 0, .slice none 0 0]
  have hG2 := hG1.alloc (.cells #[.int .i64 a, .int .i64 0, .int .i64 0, .slice none 0 0] 48)
  have hR2 := hR1.alloc (.cells #[.int .i64 a, .int .i64 0, .int .i64 0, .slice none 0 0] 48)
  have hch2 := hch1.alloc (.cells #[.int .i64 a, .int .i64 0, .int .i64 0, .slice none 0 0] 48)
  have hne : w.heap.size < w1.heap.size := hR1.lt
  generalize w1.alloc (.cells #[.int .i64 a, .int .i64 0, .int .i64 0, .slice none 0 0] 48) = w2 at hD2 hG2 hR2 hch2 ⊢
  generalize w1.heap.size = D at hD2 hne hz1 ⊢
  clear hG1 hR1 hch1 hr1
  have hr2 : RdB w2 B A n bs := hr.chgr hch2 hB hgl
  refine (count_r gr A n cap B bs p1 1 w2 hG2 hr2 (by omega) (by omega)).mono ?_
  intro e w3 hpst
  rcases h : numP bs p1 1 4611686018427387904 with er | ⟨b, p2⟩
  · have HT : Hid (r = .inl er) := by show _ = _; rw [HR.out]; unfold dataP; simp only [H1.out, h]
    rw [h] at hpst
    obtain ⟨rfl, hch⟩ := hpst
    clear h
    go_wp2
    rw [HT.out]
    exact ⟨rfl, rfl, hch2.trans hch⟩
  rw [h] at hpst
  obtain ⟨rfl, hG3, hch3⟩ := hpst
  obtain ⟨-, -, -, -, hp2⟩ := numP_ok h
  have H2 := Lib.hid h
  have hR3 := hR2.chg hch3 (by omega)
  have hD3 := hD2.chg hch3 (by omega)
  have hch3 := hch2.trans hch3
  have c1 : ∃ u, w3.cell? ⟨D, 1, none⟩ = some u := ⟨_, by rw [hD3.cell]; rfl⟩
  obtain ⟨u1, c1⟩ := c1
  have f1 := hD3.frozen 1
  clear h hG2 hr2 hR2 hD2
  go_wp2_with fail
  have hD4 := hD3.set_ 1 (.int .i64 (b : Int))
  have hG4 := hG3.far (p := ⟨D, 1, none⟩) (by simp only; omega) (.int .i64 (b : Int))
  have hR4 := hR3.far (p := ⟨D, 1, none⟩) (by simp only; omega) (.int .i64 (b : Int))
  have hch4 := hch3.setCell (p := ⟨D, 1, none⟩) (.inr (by simp only; omega)) (.int .i64 (b : Int))
  generalize w3.setCell ⟨D, 1, none⟩ (.int .i64 (b : Int)) = w4 at hD4 hG4 hR4 hch4 ⊢
  clear hD3 hG3 hR3 hch3 c1 f1
  have hr4 : RdB w4 B A n bs := hr.chgr hch4 hB hgl
  refine (count_r gr A n cap B bs p2 0 w4 hG4 hr4 (by omega) (by omega)).mono ?_
  intro e w5 hpst
  rcases h : numP bs p2 0 4611686018427387904 with er | ⟨c, p3⟩
  · have HT : Hid (r = .inl er) := by show _ = _; rw [HR.out]; unfold dataP; simp only [H1.out, H2.out, h]
    rw [h] at hpst
    obtain ⟨rfl, hch⟩ := hpst
    clear h
    go_wp2
    rw [HT.out]
    exact ⟨rfl, rfl, hch4.trans hch⟩
  rw [h] at hpst
  obtain ⟨rfl, hG5, hch5⟩ := hpst
  obtain ⟨-, -, -, -, hp3⟩ := numP_ok h
  have H3 := Lib.hid h
  have hR5 := hR4.chg hch5 (by omega)
  have hD5 := hD4.chg hch5 (by omega)
  have hch5 := hch4.trans hch5
  have c2 : ∃ u, w5.cell? ⟨D, 2, none⟩ = some u := ⟨_, by rw [hD5.cell]; rfl⟩
  obtain ⟨u2, c2⟩ := c2
  have f2 := hD5.frozen 2
  clear h hG4 hr4 hR4 hD4
  go_wp2_with fail
  have hD6 := hD5.set_ 2 (.int .i64 (c : Int))
  have hG6 := hG5.far (p := ⟨D, 2, none⟩) (by simp only; omega) (.int .i64 (c : Int))
  have hR6 := hR5.far (p := ⟨D, 2, none⟩) (by simp only; omega) (.int .i64 (c : Int))
  have hch6 := hch5.setCell (p := ⟨D, 2, none⟩) (.inr (by simp only; omega)) (.int .i64 (c : Int))
  generalize w5.setCell ⟨D, 2, none⟩ (.int .i64 (c : Int)) = w6 at hD6 hG6 hR6 hch6 ⊢
  clear hD5 hG5 hR5 hch5 c2 f2
  have hr6 : RdB w6 B A n bs := hr.chgr hch6 hB hgl
  refine (text_r gr A n cap B bs p3 0 256 w6 hG6 hr6 hB hn hc (by omega) (by omega)).mono ?_
  intro e w7 hpst
  rcases h : textP bs p3 0 256 with er | ⟨l, p4⟩
  · have HT : Hid (r = .inl er) := by show _ = _; rw [HR.out]; unfold dataP; simp only [H1.out, H2.out, H3.out, h]
    rw [h] at hpst
    obtain ⟨rfl, hch⟩ := hpst
    clear h
    go_wp2
    rw [HT.out]
    exact ⟨rfl, rfl, hch6.trans hch⟩
  rw [h] at hpst
  obtain ⟨⟨v, rfl, hown⟩, hG7, hch7⟩ := hpst
  have HT : Hid (r = .inr ((a, b, c, l), p4)) := by show _ = _; rw [HR.out]; unfold dataP; simp only [H1.out, H2.out, H3.out, h]
  have hz6 := hch6.size
  have hR7 := hR6.chg hch7 (by omega)
  have hD7 := hD6.chg hch7 (by omega)
  have hch7 := hch6.trans hch7
  have d0 : w7.cell? ⟨D, 0, none⟩ = some (.int .i64 (a : Int)) := by rw [hD7.cell]; rfl
  have d1 : w7.cell? ⟨D, 1, none⟩ = some (.int .i64 (b : Int)) := by rw [hD7.cell]; rfl
  have d2 : w7.cell? ⟨D, 2, none⟩ = some (.int .i64 (c : Int)) := by rw [hD7.cell]; rfl
  have d3 : w7.cell? ⟨D, 3, none⟩ = some (.slice none 0 0) := by rw [hD7.cell]; rfl
  have r0 : w7.cell? ⟨w.heap.size, 0, none⟩ = some (.int .i64 0) := by rw [hR7.cell]; rfl
  have r1 : w7.cell? ⟨w.heap.size, 1, none⟩ = some (.int .i64 0) := by rw [hR7.cell]; rfl
  have r2 : w7.cell? ⟨w.heap.size, 2, none⟩ = some (.int .i64 0) := by rw [hR7.cell]; rfl
  have r3 : w7.cell? ⟨w.heap.size, 3, none⟩ = some (.slice none 0 0) := by rw [hR7.cell]; rfl
  have f3 := hD7.frozen 3
  obtain ⟨A7, cap7, rfl, _, _⟩ := own_shape hown
  have g0 := hR7.frozen 0
  have g1 := hR7.frozen 1
  have g2 := hR7.frozen 2
  have g3 := hR7.frozen 3
  have hdl := hD6.lt
  have hwl := hR6.lt
  clear h hG6 hr6 hR6 hD6
  go_wp2
  have hch8 := ((((Chg.refl (fun x => x = D ∨ x = w.heap.size) w7).setCell (p := ⟨D, 3, none⟩) (.inl (.inl rfl)) (.slice A7 l.length cap7)).setCell (p := ⟨w.heap.size, 0, none⟩) (.inl (.inr rfl)) (.int .i64 (a : Int))).setCell (p := ⟨w.heap.size, 1, none⟩) (.inl (.inr rfl)) (.int .i64 (b : Int))).setCell (p := ⟨w.heap.size, 2, none⟩) (.inl (.inr rfl)) (.int .i64 (c : Int)) |>.setCell (p := ⟨w.heap.size, 3, none⟩) (.inl (.inr rfl)) (.slice A7 l.length cap7)
  have hR8 := ((((hR7.far (p := ⟨D, 3, none⟩) (by simp only; omega) (.slice A7 l.length cap7)).set_ 0 (.int .i64 (a : Int))).set_ 1 (.int .i64 (b : Int))).set_ 2 (.int .i64 (c : Int))).set_ 3 (.slice A7 l.length cap7)
  generalize World.setCell _ _ _ = w8 at hch8 hR8 ⊢
  clear r0 r1 r2 r3 d0 d1 d2 d3
  have r0 : w8.cell? ⟨w.heap.size, 0, none⟩ = some (.int .i64 (a : Int)) := by rw [hR8.cell]; rfl
  have r1 : w8.cell? ⟨w.heap.size, 1, none⟩ = some (.int .i64 (b : Int)) := by rw [hR8.cell]; rfl
  have r2 : w8.cell? ⟨w.heap.size, 2, none⟩ = some (.int .i64 (c : Int)) := by rw [hR8.cell]; rfl
  have r3 : w8.cell? ⟨w.heap.size, 3, none⟩ = some (.slice A7 l.length cap7) := by rw [hR8.cell]; rfl
  try simp only [Exit.inBlock, Exit.then]
  refine bodyPost_ret (v := .agg #[.int .i64 (a : Int), .int .i64 (b : Int), .int .i64 (c : Int), .slice A7 l.length cap7]) (by
    simp only [results]
    rw [show Try.f59.results = #[.cell 2 48] from rfl]
    simp [r0, r1, r2, r3, go_sem]) rfl ?_
  rw [HT.out]
  refine ⟨⟨_, rfl, ?_⟩, ?_, ?_⟩
  · exact own_chg (own_base hown (by omega)) hch8 (fun g hg hgp => by have := own_block_lt hown hg; omega)
  · exact hG7.chg hch8 (by omega)
  · exact hch7.thenS hch8 (fun i h1 h2 => by omega)
end Go.Proofs.Ytjafmcahlmopiaa
