/-
  The document's reader: data, End.
-/
import Derived.Test.YtjafmcahlmopiaaRBytes
namespace Go.Proofs.Ytjafmcahlmopiaa
open Go.RowKit

def rdata (bs : List UInt8) (st : Sum Int Nat) : (Int × Int × Int × List UInt8) × Sum Int Nat :=
  let x0 := rnum bs st 0 15
  let x1 := rnum bs x0.2 1 4611686018427387904
  let x2 := rnum bs x1.2 0 4611686018427387904
  let x3 := rbytes bs x2.2 0 256
  ((x0.1, x1.1, x2.1, x3.1), x3.2)
def RDataPost (gr n : Nat) (sl : Value) (w : World) (r : (Int × Int × Int × List UInt8) × Sum Int Nat) (e : Ending) (w' : World) : Prop :=
  (∃ v, e = .returned (.agg #[.int .i64 r.1.1, .int .i64 r.1.2.1, .int .i64 r.1.2.2.1, v]) ∧ w'.ownsRow w.heap.size 5 1 v r.1.2.2.2.length (bvs r.1.2.2.2)) ∧ RSt w' gr n sl r.2 ∧ Chg (fun k => k = gr) w w'

set_option maxRecDepth 100000 in
set_option maxHeartbeats 1600000 in
theorem rData_any (gr : Nat) (A : Option Addr) (n cap B : Nat) (bs : List UInt8) (st : Sum Int Nat) (w : World) (hG : RSt w gr n (.slice A n cap) st) (hr : RdB w B A n bs) (hB : B ≤ gr) (hn : n ≤ cap) (hc : n ≤ 140737488351232) :
    Calls Try.prog 54 #[.pointer (some ⟨gr, 0, none⟩)] w (RDataPost gr n (.slice A n cap) w (rdata bs st)) := by
  have hgl := hG.lt
  obtain ⟨x0, h0⟩ : ∃ x0, x0 = rnum bs st 0 15 := ⟨_, rfl⟩
  obtain ⟨x1, h1⟩ : ∃ x1, x1 = rnum bs x0.2 1 4611686018427387904 := ⟨_, rfl⟩
  obtain ⟨x2, h2⟩ : ∃ x2, x2 = rnum bs x1.2 0 4611686018427387904 := ⟨_, rfl⟩
  obtain ⟨x3, h3⟩ : ∃ x3, x3 = rbytes bs x2.2 0 256 := ⟨_, rfl⟩
  have HT : Hid (rdata bs st = ((x0.1, x1.1, x2.1, x3.1), x3.2)) := by show _ = _; rw [h3, h2, h1, h0]; rfl
  generalize rdata bs st = r at *
  obtain ⟨v0, s0⟩ := x0
  obtain ⟨v1, s1⟩ := x1
  obtain ⟨v2, s2⟩ := x2
  obtain ⟨l, s3⟩ := x3
  simp only at h1 h2 h3 HT
  have H0 := Lib.hid h0
  have H1 := Lib.hid h1
  have H2 := Lib.hid h2
  have H3 := Lib.hid h3
  clear h0 h1 h2 h3
  go_enter Try.func54, Try.ntmps54
  go_wp2_with fail
  have hch0 := ((Chg.refl (fun k => k = gr) w).alloc (.cells #[.int .i64 0, .int .i64 0, .int .i64 0, .slice none 0 0] 48)).alloc (.cells #[.int .i64 0, .int .i64 0, .int .i64 0, .slice none 0 0] 48)
  have hR0 := (Blk.new w 48 #[.int .i64 0, .int .i64 0, .int .i64 0, .slice none 0 0]).alloc (.cells #[.int .i64 0, .int .i64 0, .int .i64 0, .slice none 0 0] 48)
  have hD0 := Blk.new (w.alloc (.cells #[.int .i64 0, .int .i64 0, .int .i64 0, .slice none 0 0] 48)) 48 #[.int .i64 0, .int .i64 0, .int .i64 0, .slice none 0 0]
  have hz0 : (w.alloc (.cells #[.int .i64 0, .int .i64 0, .int .i64 0, .slice none 0 0] 48)).heap.size = w.heap.size + 1 := by simp
  rw [hz0] at hD0
  have hG0 := hG.chg (((Chg.refl (fun _ => False) w).alloc (.cells #[.int .i64 0, .int .i64 0, .int .i64 0, .slice none 0 0] 48)).alloc (.cells #[.int .i64 0, .int .i64 0, .int .i64 0, .slice none 0 0] 48)) (fun h => h)
  generalize (w.alloc (.cells #[.int .i64 0, .int .i64 0, .int .i64 0, .slice none 0 0] 48)).alloc (.cells #[.int .i64 0, .int .i64 0, .int .i64 0, .slice none 0 0] 48) = w0 at hch0 hR0 hD0 hG0 ⊢
  clear hG
  have hr0 : RdB w0 B A n bs := hr.chgr hch0 hB hgl
  have hz0 := hch0.size
  refine (rNum_any gr A n cap B bs st 0 15 w0 hG0 hr0 (by omega)).mono ?_
  rw [← H0.out]
  rintro _ w1 ⟨rfl, hG1, hch1⟩
  have hR1 := hR0.chg hch1 (by omega)
  have hD1 := hD0.chg hch1 (by omega)
  have hch1 := hch0.trans hch1
  have c1 : w1.cell? ⟨w.heap.size + 1, 0, none⟩ = some (.int .i64 0) := by rw [hD1.cell]; rfl
  have f1 := hD1.frozen 0
  clear hG0 hr0 hR0 hD0
  go_wp2_with fail
  have hD2 := hD1.set_ 0 (.int .i64 v0)
  have hR2 := hR1.far (p := ⟨w.heap.size + 1, 0, none⟩) (by simp only; omega) (.int .i64 v0)
  have hch2 := hch1.setCell (p := ⟨w.heap.size + 1, 0, none⟩) (.inr (by simp only; omega)) (.int .i64 v0)
  have hG2 := hG1.chg ((Chg.refl (fun k => k = w.heap.size + 1) w1).setCell (p := ⟨w.heap.size + 1, 0, none⟩) (.inl rfl) (.int .i64 v0)) (by omega)
  generalize w1.setCell ⟨w.heap.size + 1, 0, none⟩ (.int .i64 v0) = w2 at hD2 hG2 hR2 hch2 ⊢
  clear hD1 hG1 hR1 hch1 c1 f1
  have hr2 : RdB w2 B A n bs := hr.chgr hch2 hB hgl
  have hz2 := hch2.size
  refine (rNum_any gr A n cap B bs s0 1 4611686018427387904 w2 hG2 hr2 (by omega)).mono ?_
  rw [← H1.out]
  rintro _ w3 ⟨rfl, hG3, hch3⟩
  have hR3 := hR2.chg hch3 (by omega)
  have hD3 := hD2.chg hch3 (by omega)
  have hch3 := hch2.trans hch3
  have c1 : w3.cell? ⟨w.heap.size + 1, 1, none⟩ = some (.int .i64 0) := by rw [hD3.cell]; rfl
  have f1 := hD3.frozen 1
  clear hG2 hr2 hR2 hD2
  go_wp2_with fail
  have hD4 := hD3.set_ 1 (.int .i64 v1)
  have hR4 := hR3.far (p := ⟨w.heap.size + 1, 1, none⟩) (by simp only; omega) (.int .i64 v1)
  have hch4 := hch3.setCell (p := ⟨w.heap.size + 1, 1, none⟩) (.inr (by simp only; omega)) (.int .i64 v1)
  have hG4 := hG3.chg ((Chg.refl (fun k => k = w.heap.size + 1) w3).setCell (p := ⟨w.heap.size + 1, 1, none⟩) (.inl rfl) (.int .i64 v1)) (by omega)
  generalize w3.setCell ⟨w.heap.size + 1, 1, none⟩ (.int .i64 v1) = w4 at hD4 hG4 hR4 hch4 ⊢
  clear hD3 hG3 hR3 hch3 c1 f1
  have hr4 : RdB w4 B A n bs := hr.chgr hch4 hB hgl
  have hz4 := hch4.size
  refine (rNum_any gr A n cap B bs s1 0 4611686018427387904 w4 hG4 hr4 (by omega)).mono ?_
  rw [← H2.out]
  rintro _ w5 ⟨rfl, hG5, hch5⟩
  have hR5 := hR4.chg hch5 (by omega)
  have hD5 := hD4.chg hch5 (by omega)
  have hch5 := hch4.trans hch5
  have c1 : w5.cell? ⟨w.heap.size + 1, 2, none⟩ = some (.int .i64 0) := by rw [hD5.cell]; rfl
  have f1 := hD5.frozen 2
  clear hG4 hr4 hR4 hD4
  go_wp2_with fail
  have hD6 := hD5.set_ 2 (.int .i64 v2)
  have hR6 := hR5.far (p := ⟨w.heap.size + 1, 2, none⟩) (by simp only; omega) (.int .i64 v2)
  have hch6 := hch5.setCell (p := ⟨w.heap.size + 1, 2, none⟩) (.inr (by simp only; omega)) (.int .i64 v2)
  have hG6 := hG5.chg ((Chg.refl (fun k => k = w.heap.size + 1) w5).setCell (p := ⟨w.heap.size + 1, 2, none⟩) (.inl rfl) (.int .i64 v2)) (by omega)
  generalize w5.setCell ⟨w.heap.size + 1, 2, none⟩ (.int .i64 v2) = w6 at hD6 hG6 hR6 hch6 ⊢
  clear hD5 hG5 hR5 hch5 c1 f1
  have hr6 : RdB w6 B A n bs := hr.chgr hch6 hB hgl
  have hz6 := hch6.size
  refine (rBytes_any gr A n cap B bs s2 0 256 w6 hG6 hr6 hB hn hc (by omega)).mono ?_
  rw [← H3.out]
  rintro _ w7 ⟨⟨v, rfl, hown⟩, hG7, hch7⟩
  obtain ⟨A7, cap7, rfl, _, _⟩ := own_shape hown
  simp only at hown hG7
  have hR7 := hR6.chg hch7 (by omega)
  have hD7 := hD6.chg hch7 (by omega)
  have hch7 := hch6.trans hch7
  have d0 : w7.cell? ⟨w.heap.size + 1, 0, none⟩ = some (.int .i64 v0) := by rw [hD7.cell]; rfl
  have d1 : w7.cell? ⟨w.heap.size + 1, 1, none⟩ = some (.int .i64 v1) := by rw [hD7.cell]; rfl
  have d2 : w7.cell? ⟨w.heap.size + 1, 2, none⟩ = some (.int .i64 v2) := by rw [hD7.cell]; rfl
  have d3 : w7.cell? ⟨w.heap.size + 1, 3, none⟩ = some (.slice none 0 0) := by rw [hD7.cell]; rfl
  have r0 : w7.cell? ⟨w.heap.size, 0, none⟩ = some (.int .i64 0) := by rw [hR7.cell]; rfl
  have r1 : w7.cell? ⟨w.heap.size, 1, none⟩ = some (.int .i64 0) := by rw [hR7.cell]; rfl
  have r2 : w7.cell? ⟨w.heap.size, 2, none⟩ = some (.int .i64 0) := by rw [hR7.cell]; rfl
  have r3 : w7.cell? ⟨w.heap.size, 3, none⟩ = some (.slice none 0 0) := by rw [hR7.cell]; rfl
  have f3 := hD7.frozen 3
  have g0 := hR7.frozen 0
  have g1 := hR7.frozen 1
  have g2 := hR7.frozen 2
  have g3 := hR7.frozen 3
  have hdl := hD6.lt
  clear hG6 hr6 hR6 hD6
  go_wp2
  have hch8 := ((((Chg.refl (fun x => x = w.heap.size + 1 ∨ x = w.heap.size) w7).setCell (p := ⟨w.heap.size + 1, 3, none⟩) (.inl (.inl rfl)) (.slice A7 l.length cap7)).setCell (p := ⟨w.heap.size, 0, none⟩) (.inl (.inr rfl)) (.int .i64 v0)).setCell (p := ⟨w.heap.size, 1, none⟩) (.inl (.inr rfl)) (.int .i64 v1)).setCell (p := ⟨w.heap.size, 2, none⟩) (.inl (.inr rfl)) (.int .i64 v2) |>.setCell (p := ⟨w.heap.size, 3, none⟩) (.inl (.inr rfl)) (.slice A7 l.length cap7)
  have hR8 := ((((hR7.far (p := ⟨w.heap.size + 1, 3, none⟩) (by simp only; omega) (.slice A7 l.length cap7)).set_ 0 (.int .i64 v0)).set_ 1 (.int .i64 v1)).set_ 2 (.int .i64 v2)).set_ 3 (.slice A7 l.length cap7)
  generalize World.setCell _ _ _ = w8 at hch8 hR8 ⊢
  clear r0 r1 r2 r3 d0 d1 d2 d3
  have r0 : w8.cell? ⟨w.heap.size, 0, none⟩ = some (.int .i64 v0) := by rw [hR8.cell]; rfl
  have r1 : w8.cell? ⟨w.heap.size, 1, none⟩ = some (.int .i64 v1) := by rw [hR8.cell]; rfl
  have r2 : w8.cell? ⟨w.heap.size, 2, none⟩ = some (.int .i64 v2) := by rw [hR8.cell]; rfl
  have r3 : w8.cell? ⟨w.heap.size, 3, none⟩ = some (.slice A7 l.length cap7) := by rw [hR8.cell]; rfl
  try simp only [Exit.inBlock, Exit.then]
  refine bodyPost_ret (v := .agg #[.int .i64 v0, .int .i64 v1, .int .i64 v2, .slice A7 l.length cap7]) (by
    simp only [results]
    rw [show Try.f54.results = #[.cell 2 48] from rfl]
    simp [r0, r1, r2, r3, go_sem]) rfl ?_
  rw [HT.out]
  refine ⟨⟨_, rfl, ?_⟩, ?_, ?_⟩
  · exact own_chg (own_base hown (by omega)) hch8 (fun g hg hgp => by have := own_block_lt hown hg; omega)
  · exact hG7.chg hch8 (by omega)
  · exact hch7.thenS hch8 (fun i h1 h2 => by omega)

def rend (n : Nat) (st : Sum Int Nat) : Sum Int Nat :=
  match st with
  | .inl er => .inl er
  | .inr p => if p = n then .inr p else .inl 15
set_option maxRecDepth 100000 in
set_option maxHeartbeats 1600000 in
theorem rEnd_any (gr n : Nat) (A : Option Addr) (cap : Nat) (st : Sum Int Nat) (w : World) (hG : RSt w gr n (.slice A n cap) st) (hn : n ≤ 140737488355328) :
    Calls Try.prog 56 #[.pointer (some ⟨gr, 0, none⟩)] w fun e w' => e = .returned (.tuple #[]) ∧ RSt w' gr n (.slice A n cap) (rend n st) ∧ Chg (fun k => k = gr) w w' := by
  have HG := Lib.hid hG
  cases st with
  | inl er =>
    obtain ⟨h0, x, hB⟩ := hG
    have hb : (er == 0) = false := by simp [h0]
    have c2 : w.cell? ⟨gr, 2, none⟩ = some (.int .i64 er) := by rw [hB.cell]; rfl
    clear hB
    go_enter Try.func56, Try.ntmps56
    go_wp2_with fail
    go_quiet (fail)
    go_wp2
    go_end0
    exact ⟨rfl, HG.out.chg ((Chg.refl (fun _ => False) w).drewN _) (fun h => h), (Chg.refl _ _).drewN _⟩
  | inr p =>
    obtain ⟨hp, hB⟩ := hG
    have c0 : w.cell? ⟨gr, 0, none⟩ = some (.slice A n cap) := by rw [hB.cell]; rfl
    have c1 : w.cell? ⟨gr, 1, none⟩ = some (.int .i64 (p : Int)) := by rw [hB.cell]; rfl
    have c2 : w.cell? ⟨gr, 2, none⟩ = some (.int .i64 0) := by rw [hB.cell]; rfl
    have f2 := hB.frozen 2
    by_cases hpn : p = n
    · have hb : ((p : Int) != (n : Int)) = false := by simp [hpn]
      have HT : Hid (rend n (.inr p) = .inr p) := by show _ = _; unfold rend; simp only [if_pos hpn]
      clear hpn
      generalize rend n (.inr p) = r at *
      go_enter Try.func56, Try.ntmps56
      go_wp2_with fail
      go_quiet (fail)
      go_wp2
      go_end0
      rw [HT.out]
      exact ⟨rfl, HG.out.chg ((Chg.refl (fun _ => False) w).drewN _) (fun h => h), (Chg.refl _ _).drewN _⟩
    · have hb : ((p : Int) != (n : Int)) = true := by simp; omega
      have HT : Hid (rend n (.inr p) = .inl 15) := by show _ = _; unfold rend; simp only [if_neg hpn]
      clear hpn
      generalize rend n (.inr p) = r at *
      go_enter Try.func56, Try.ntmps56
      go_wp2_with fail
      go_quiet (fail)
      go_wp2
      go_end0
      rw [HT.out]
      exact ⟨rfl, ⟨by omega, _, (hB.drewN _).set_ 2 _⟩, ((Chg.refl (fun k => k = gr) w).drewN _).setCell (p := ⟨gr, 2, none⟩) (.inl rfl) _⟩
end Go.Proofs.Ytjafmcahlmopiaa
