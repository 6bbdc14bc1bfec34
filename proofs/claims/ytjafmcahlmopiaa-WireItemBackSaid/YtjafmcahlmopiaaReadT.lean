/-
  The program's reader: text, data.
-/
import Derived.Test.YtjafmcahlmopiaaRead
namespace Go.Proofs.Ytjafmcahlmopiaa
open Go.RowKit

def textP (bs : List UInt8) (p : Nat) (lo hi : Int) : Sum Int (List UInt8 × Nat) :=
  match numP bs p lo hi with
  | .inl er => .inl er
  | .inr (m, q) => if bs.length < q + m then .inl 10 else .inr ((bs.drop q).take m, q + m)
def TextPost (gr : Nat) (sl : Value) (w : World) (r : Sum Int (List UInt8 × Nat)) (e : Ending) (w' : World) : Prop :=
  match r with
  | .inl er => Gives er e ∧ Chg (fun k => k = gr) w w'
  | .inr (l, nx) => (∃ v, e = .returned v ∧ w'.ownsRow w.heap.size 5 1 v l.length (bvs l)) ∧ Blk w' gr 115 #[sl, .int .i64 (nx : Int)] ∧ Chg (fun k => k = gr) w w'

set_option maxRecDepth 100000 in
set_option maxHeartbeats 1600000 in
theorem text_r (gr : Nat) (A : Option Addr) (n cap B : Nat) (bs : List UInt8) (p : Nat) (lo hi : Int) (w : World) (hG : Blk w gr 115 #[.slice A n cap, .int .i64 (p : Int)]) (hr : RdB w B A n bs) (hB : B ≤ gr) (hn : n ≤ cap) (hc : n ≤ 140737488351232) (hp : p ≤ n) (hlo : 0 ≤ lo) :
    Calls Try.prog 81 #[.pointer (some ⟨gr, 0, none⟩), .int .i64 lo, .int .i64 hi] w (TextPost gr (.slice A n cap) w (textP bs p lo hi)) := by
  obtain ⟨i0, hi0, hz0, hz1, hz2⟩ := info_parts info_u8
  have hl := hr.lenB
  cases h : numP bs p lo hi with
  | inl er =>
    have HT : Hid (textP bs p lo hi = .inl er) := by show _ = _; unfold textP; rw [h]
    have H := Lib.hid h
    clear h hl
    generalize textP bs p lo hi = r at *
    go_enter Try.func81, Try.ntmps81
    go_wp2_with fail
    refine (number_any gr A n cap B bs p lo hi w hG hr (by omega) hp).mono ?_
    intro e w1 hpst
    rw [H.out] at hpst
    obtain ⟨rfl, hch⟩ := hpst
    go_wp2
    rw [HT.out]
    exact ⟨rfl, rfl, hch⟩
  | inr x =>
    obtain ⟨m, q⟩ := x
    obtain ⟨k1, k2, k3, k4, k5⟩ := numP_ok h
    have hT : textP bs p lo hi = if n < q + m then .inl 10 else .inr ((bs.drop q).take m, q + m) := by unfold textP; rw [h, hl]
    have H := Lib.hid h
    rw [hl] at k5
    have HL := Lib.hid hl
    clear h hl
    generalize textP bs p lo hi = r at *
    have HTT := Lib.hid hT
    clear hT
    go_enter Try.func81, Try.ntmps81
    go_wp2_with fail
    refine (number_any gr A n cap B bs p lo hi w hG hr (by omega) hp).mono ?_
    intro e w1 hpst
    rw [H.out] at hpst
    obtain ⟨rfl, hG1, hch⟩ := hpst
    have hr1 : RdB w1 B A n bs := hr.keep fun g hg => hch.block g (by have := hG.lt; omega) (by omega)
    have c0 : w1.cell? ⟨gr, 0, none⟩ = some (.slice A n cap) := by rw [hG1.cell]; rfl
    have c1 : w1.cell? ⟨gr, 1, none⟩ = some (.int .i64 (q : Int)) := by rw [hG1.cell]; rfl
    by_cases hlong : n < q + m
    · have HT : Hid (r = .inl 10) := by show _ = _; rw [HTT.out, if_pos hlong]
      have hlI : (n : Int) - (q : Int) < (m : Int) := by omega
      go_wp2_with fail
      go_quiet (fail)
      go_wp2
      rw [HT.out]
      exact ⟨rfl, rfl, hch.drewN _⟩
    · have HT : Hid (r = .inr ((bs.drop q).take m, q + m)) := by show _ = _; rw [HTT.out, if_neg hlong]
      have hlI : (m : Int) ≤ (n : Int) - (q : Int) := by omega
      have f1 := hG1.frozen 1
      go_wp2_with fail
      go_quiet (fail)
      go_wp2_with fail
      have e1 : IntKind.i64.wrap ((q : Int) + (m : Int)) = (q : Int) + (m : Int) := IntWalk.i64_in _ (by omega)
      have g0 : (0 : Int) ≤ (q : Int) := by omega
      have g1 : (q : Int) ≤ (q : Int) + (m : Int) := by omega
      have g2 : (q : Int) + (m : Int) ≤ (cap : Int) := by omega
      have hch2 := hch.drewN nq
      have hG2 := hG1.drewN nq
      have hr2 := hr1.dn nq
      generalize w1.drewN nq = w2 at hch2 hG2 hr2 ⊢
      clear c0 c1 f1 hG1 hr1 hch
      have c0 : w2.cell? ⟨gr, 0, none⟩ = some (.slice A n cap) := by rw [hG2.cell]; rfl
      have c1 : w2.cell? ⟨gr, 1, none⟩ = some (.int .i64 (q : Int)) := by rw [hG2.cell]; rfl
      have f1 := hG2.frozen 1
      refine wp_region_still_tail 15 (by kernel_rfl) (by kernel_rfl) ?_
      simp only [List.take_succ_cons, List.take_zero, List.drop_succ_cons, List.drop_zero]
      repeat still_step
      refine wpStill_nil ?_
      change wpList _ _ _ _ _ w2.drew
      have hz : w.heap.size ≤ w2.heap.size := hch2.size
      have HGL := Lib.hid hG.lt
      have hnil : w2.drew.ownsRow w.heap.size 5 1 (.slice none 0 0) 0 [] := ⟨by simp, .inl ⟨rfl, rfl⟩⟩
      have e2 : ((q : Int) + (m : Int)).toNat - q = m := by omega
      have hsrc : RdB w2.drew B (if cap = q then A else Option.map (fun x => x.add q) A) m ((bs.drop q).take m) := by
        by_cases hcq : cap = q
        · have hm0 : m = 0 := by omega
          subst hm0
          rw [List.take_zero]
          exact Rd.nil_ _
        · rw [if_neg hcq]
          exact (Rd.sliceB hr2 (by omega)).dn 1
      have hlm : ((bs.drop q).take m).length = m := by have := HL.out; rw [List.length_take, List.length_drop]; omega
      rw [e2]
      generalize (if cap = q then A else Option.map (fun x => x.add q) A) = A2 at hsrc ⊢
      refine wpList_append_any _ (by rfl) _ _ 25 (by rfl) w.heap.size 5 i0 _ 1 1 u_bytes hi0 hz0 hz1 hz2 rfl (by omega) _ 0 [] (by rfl) hnil B _ m (cap - q) (bvs ((bs.drop q).take m)) (by rfl) hsrc (bvs_one _) (by simp only [maxLen]; omega) (by omega) hz ?_
      intro v1 w3 hown1 hg1 _
      rw [Nat.zero_add, List.nil_append] at hown1
      have hb1 : Below w.heap.size w2.drew w3 := below_app hnil hg1 hz
      clear c0 c1 f1
      have hG3 := hG2.drew.below hb1 HGL.out
      have c0 : w3.cell? ⟨gr, 0, none⟩ = some (.slice A n cap) := by rw [hG3.cell]; rfl
      have c1 : w3.cell? ⟨gr, 1, none⟩ = some (.int .i64 (q : Int)) := by rw [hG3.cell]; rfl
      have f1 := hG3.frozen 1
      clear hg1
      go_wp2
      go_ret
      rw [HT.out]
      refine ⟨⟨_, rfl, ?_⟩, ?_, ?_⟩
      · rw [hlm]
        exact own_chg (S := fun x => x = gr) hown1 ((Chg.refl (fun x => x = gr) w3).setCell (p := ⟨gr, 1, none⟩) (.inl rfl) _) (fun g hg hgp => by have := own_block_lt hown1 hg; have := HGL.out; omega)
      · have := hG3.set_ 1 (.int .i64 ((q : Int) + (m : Int)))
        exact this
      · exact ((hch2.drew).thenS (S' := fun k => w.heap.size ≤ k) ⟨hb1.os, hb1.tape, hb1.output, hb1.size, fun k hk hn => hb1.block k (by omega)⟩ (fun i h1 h2 => by omega)).setCell (p := ⟨gr, 1, none⟩) (.inl rfl) _
end Go.Proofs.Ytjafmcahlmopiaa
