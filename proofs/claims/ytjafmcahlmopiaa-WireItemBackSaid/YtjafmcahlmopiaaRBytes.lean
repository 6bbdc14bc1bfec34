/-
  The document's reader: Bytes.
-/
import Derived.Test.YtjafmcahlmopiaaRRead
import Derived.Test.YtjafmcahlmopiaaLoose
namespace Go.Proofs.Ytjafmcahlmopiaa
open Go.RowKit

def rbytes (bs : List UInt8) (st : Sum Int Nat) (lo hi : Int) : List UInt8 × Sum Int Nat :=
  match st with
  | .inl er => ([], .inl er)
  | .inr p => match textP bs p lo hi with
    | .inl er => ([], .inl er)
    | .inr (l, nx) => (l, .inr nx)
def RBytesPost (gr n : Nat) (sl : Value) (w : World) (r : List UInt8 × Sum Int Nat) (e : Ending) (w' : World) : Prop :=
  (∃ v, e = .returned v ∧ w'.ownsRow w.heap.size 5 1 v r.1.length (bvs r.1)) ∧ RSt w' gr n sl r.2 ∧ Chg (fun k => k = gr) w w'

theorem rbytes_cases (bs : List UInt8) (st : Sum Int Nat) (lo hi : Int) : (∃ v er, rnum bs st lo hi = (v, .inl er) ∧ rbytes bs st lo hi = ([], .inl er)) ∨
    ∃ m q : Nat, rnum bs st lo hi = ((m : Int), .inr q) ∧ lo ≤ (m : Int) ∧ m ≤ 4611686018427387904 ∧ q ≤ bs.length ∧ rbytes bs st lo hi = if bs.length < q + m then ([], .inl 10) else ((bs.drop q).take m, .inr (q + m)) := by
  cases st with
  | inl er => exact .inl ⟨0, er, rfl, rfl⟩
  | inr p =>
    cases h : numP bs p lo hi with
    | inl er => exact .inl ⟨0, er, by unfold rnum; simp only [h], by unfold rbytes textP; simp only [h]⟩
    | inr x =>
      obtain ⟨m, q⟩ := x
      have := numP_ok h
      refine .inr ⟨m, q, by unfold rnum; simp only [h], by omega, by omega, by omega, ?_⟩
      unfold rbytes textP
      simp only [h]
      by_cases h2 : bs.length < q + m
      · simp only [if_pos h2]
      · simp only [if_neg h2]

set_option maxRecDepth 100000 in
set_option maxHeartbeats 1600000 in
theorem rBytes_any (gr : Nat) (A : Option Addr) (n cap B : Nat) (bs : List UInt8) (st : Sum Int Nat) (lo hi : Int) (w : World) (hG : RSt w gr n (.slice A n cap) st) (hr : RdB w B A n bs) (hB : B ≤ gr) (hn : n ≤ cap) (hc : n ≤ 140737488351232) (hlo : 0 ≤ lo) :
    Calls Try.prog 80 #[.pointer (some ⟨gr, 0, none⟩), .int .i64 lo, .int .i64 hi] w (RBytesPost gr n (.slice A n cap) w (rbytes bs st lo hi)) := by
  have hl := hr.lenB
  have hgl := hG.lt
  rcases rbytes_cases bs st lo hi with ⟨v, er, h1, h2⟩ | ⟨m, q, h1, hm0, hm1, hq, h2⟩
  · have HN := rNum_any gr A n cap B bs st lo hi w hG hr (by omega)
    rw [h1] at HN
    rw [h2]
    clear h1 h2
    go_enter Try.func80, Try.ntmps80
    go_wp2_with fail
    refine HN.mono ?_
    rintro _ w1 ⟨rfl, hG1, hch⟩
    have HG := Lib.hid hG1
    obtain ⟨h0, x, hB⟩ := hG1
    have hb : (er != 0) = true := by simp [h0]
    have c2 : w1.cell? ⟨gr, 2, none⟩ = some (.int .i64 er) := by rw [hB.cell]; rfl
    clear hB
    go_wp2_with fail
    go_ret
    exact ⟨⟨_, rfl, rfl, .inl ⟨rfl, rfl⟩⟩, HG.out, hch⟩
  · have HN := rNum_any gr A n cap B bs st lo hi w hG hr (by omega)
    rw [h1] at HN
    rw [hl] at hq h2
    have HL := Lib.hid hl
    obtain ⟨r, hr0⟩ : ∃ r, r = rbytes bs st lo hi := ⟨_, rfl⟩
    rw [← hr0]
    rw [h2] at hr0
    have HR := Lib.hid hr0
    clear h1 h2 hl hr0
    go_enter Try.func80, Try.ntmps80
    go_wp2_with fail
    refine HN.mono ?_
    rintro _ w1 ⟨rfl, ⟨hqn, hG1⟩, hch⟩
    clear HN hG
    have hr1 : RdB w1 B A n bs := hr.chgr hch hB hgl
    have c0 : w1.cell? ⟨gr, 0, none⟩ = some (.slice A n cap) := by rw [hG1.cell]; rfl
    have c1 : w1.cell? ⟨gr, 1, none⟩ = some (.int .i64 (q : Int)) := by rw [hG1.cell]; rfl
    have c2 : w1.cell? ⟨gr, 2, none⟩ = some (.int .i64 0) := by rw [hG1.cell]; rfl
    have f1 := hG1.frozen 1
    have f2 := hG1.frozen 2
    have e1 : IntKind.i64.wrap ((q : Int) + (m : Int)) = (q : Int) + (m : Int) := IntWalk.i64_in _ (by omega)
    by_cases hlong : n < q + m
    · have HT : Hid (r = ([], .inl 10)) := by show _ = _; rw [HR.out, if_pos hlong]
      have hlI : (n : Int) < (q : Int) + (m : Int) := by omega
      go_wp2_with fail
      go_quiet (fail)
      go_wp2
      go_ret
      rw [HT.out]
      exact ⟨⟨_, rfl, rfl, .inl ⟨rfl, rfl⟩⟩, ⟨by omega, _, (hG1.drewN _).set_ 2 _⟩, (hch.drewN _).setCell (p := ⟨gr, 2, none⟩) (.inl rfl) _⟩
    · have HT : Hid (r = ((bs.drop q).take m, .inr (q + m))) := by show _ = _; rw [HR.out, if_neg hlong]
      have hlI : (q : Int) + (m : Int) ≤ (n : Int) := by omega
      go_wp2_with fail
      go_quiet (fail)
      go_wp2_with fail
      have hch2 := hch.drewN nq
      have hG2 := hG1.drewN nq
      have hr2 := hr1.dn nq
      generalize w1.drewN nq = w2 at hch2 hG2 hr2 ⊢
      clear c0 c1 c2 f1 f2 hG1 hr1 hch
      have c0 : w2.cell? ⟨gr, 0, none⟩ = some (.slice A n cap) := by rw [hG2.cell]; rfl
      have c1 : w2.cell? ⟨gr, 1, none⟩ = some (.int .i64 (q : Int)) := by rw [hG2.cell]; rfl
      have f1 := hG2.frozen 1
      have g0 : (0 : Int) ≤ (q : Int) := by omega
      have g1 : (q : Int) ≤ (q : Int) + (m : Int) := by omega
      have g2 : (q : Int) + (m : Int) ≤ (cap : Int) := by omega
      refine wp_region_still_tail 15 (by kernel_rfl) (by kernel_rfl) ?_
      simp only [List.take_succ_cons, List.take_zero, List.drop_succ_cons, List.drop_zero]
      repeat still_step
      refine wpStill_nil ?_
      change wpList _ _ _ _ _ w2.drew
      have e2 : ((q : Int) + (m : Int)).toNat - q = m := by omega
      have hsrc : RdB w2.drew B (if cap = q then A else Option.map (fun x => x.add q) A) m ((bs.drop q).take m) := by
        by_cases hcq : cap = q
        · have hm0 : m = 0 := by omega
          subst hm0
          rw [List.take_zero]
          exact Rd.nil_ _
        · rw [if_neg hcq]
          exact (Rd.sliceB hr2 (by omega)).dn 1
      rw [e2]
      generalize (if cap = q then A else Option.map (fun x => x.add q) A) = A2 at hsrc ⊢
      go_wp2_with fail
      have hz : w.heap.size ≤ w2.heap.size := hch2.size
      have hlm : ((bs.drop q).take m).length = m := by have := HL.out; rw [List.length_take, List.length_drop]; omega
      refine (Copied_any A2 m (cap - q) ((bs.drop q).take m) w2.drew (hsrc.more (show B ≤ w2.heap.size by omega)) (by omega)).mono ?_
      rintro _ w3 ⟨v1, rfl, hown1, hb1⟩
      clear c0 c1 f1
      have hG3 : Blk w3 gr 109 #[.slice A n cap, .int .i64 (q : Int), .int .i64 0] := hG2.drew.over hb1
      have c0 : w3.cell? ⟨gr, 0, none⟩ = some (.slice A n cap) := by rw [hG3.cell]; rfl
      have c1 : w3.cell? ⟨gr, 1, none⟩ = some (.int .i64 (q : Int)) := by rw [hG3.cell]; rfl
      have f1 := hG3.frozen 1
      go_wp2
      go_ret
      rw [HT.out]
      refine ⟨⟨_, rfl, ?_⟩, ⟨by omega, ?_⟩, ?_⟩
      · simp only [hlm]
        exact own_base (own_chg (S := fun x => x = gr) hown1 ((Chg.refl (fun x => x = gr) w3).setCell (p := ⟨gr, 1, none⟩) (.inl rfl) _) (fun g hg hgp => by have := own_block_lt hown1 hg; have hz' : w2.drew.heap.size = w2.heap.size := rfl; omega)) hz
      · have := hG3.set_ 1 (.int .i64 ((q : Int) + (m : Int)))
        exact this
      · exact ((hch2.drew).thenS (Chg.of_below hb1 (fun _ => False)) (fun i h1 h2 => h2.elim)).setCell (p := ⟨gr, 1, none⟩) (.inl rfl) _
end Go.Proofs.Ytjafmcahlmopiaa
