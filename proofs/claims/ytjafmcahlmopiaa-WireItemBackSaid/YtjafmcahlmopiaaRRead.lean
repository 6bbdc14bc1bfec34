/-
  The document's reader: Num, Bytes, data, End.
-/
import Derived.Test.YtjafmcahlmopiaaDecI3
namespace Go.Proofs.Ytjafmcahlmopiaa
open Go.RowKit

theorem RTakeInt_c (A : Option Addr) (n cap B : Nat) (bs : List UInt8) (p : Nat) (w : World) (hr : RdB w B A n bs) (hn : n ≤ 140737488355328) (hp : p ≤ n) (v nx er : Nat) (h : tk bs p 9 0 0 = (v, nx, er)) :
    Calls Try.prog 23 #[.slice A n cap, .int .i64 (p : Int)] w fun e w' => e = .returned (.tuple #[.int .i64 v, .int .i64 nx, .int .i64 er]) ∧ w' = w :=
  (RTakeInt_any A n cap B bs p w hr hn (by omega) (by omega)).mono fun _ _ ⟨⟨v', nx', er', h1, h2⟩, h3⟩ => by
    have e : takeInt bs (p : Int) = tk bs p 9 0 0 := by
      unfold takeInt
      rw [if_neg (by rw [hr.lenB]; omega), Int.toNat_natCast]
    rw [e, h, Prod.mk.injEq, Prod.mk.injEq] at h1
    obtain ⟨rfl, rfl, rfl⟩ := h1
    exact ⟨h2, h3.symm⟩
/-- The document's reader in memory: at a place, or with what was amiss. -/
def RSt (w : World) (gr n : Nat) (sl : Value) : Sum Int Nat → Prop
  | .inl er => er ≠ 0 ∧ ∃ x : Int, Blk w gr 109 #[sl, .int .i64 x, .int .i64 er]
  | .inr p => p ≤ n ∧ Blk w gr 109 #[sl, .int .i64 (p : Int), .int .i64 0]
theorem RSt.lt {w : World} {gr n : Nat} {sl : Value} {st : Sum Int Nat} (h : RSt w gr n sl st) : gr < w.heap.size := by
  cases st with
  | inl er => exact h.2.choose_spec.lt
  | inr p => exact h.2.lt
theorem RSt.chg {w w' : World} {gr n : Nat} {sl : Value} {st : Sum Int Nat} {S : Nat → Prop} (h : RSt w gr n sl st) (hc : Chg S w w') (hs : ¬ S gr) : RSt w' gr n sl st := by
  cases st with
  | inl er => exact ⟨h.1, _, h.2.choose_spec.chg hc hs⟩
  | inr p => exact ⟨h.1, h.2.chg hc hs⟩
def rnum (bs : List UInt8) (st : Sum Int Nat) (lo hi : Int) : Int × Sum Int Nat :=
  match st with
  | .inl er => (0, .inl er)
  | .inr p => match numP bs p lo hi with
    | .inl er => (0, .inl er)
    | .inr (v, nx) => ((v : Int), .inr nx)
def RNumPost (gr n : Nat) (sl : Value) (w : World) (r : Int × Sum Int Nat) (e : Ending) (w' : World) : Prop :=
  e = .returned (.int .i64 r.1) ∧ RSt w' gr n sl r.2 ∧ Chg (fun k => k = gr) w w'
theorem numP_err {bs : List UInt8} {p : Nat} {lo hi er : Int} (h : numP bs p lo hi = .inl er) : er ≠ 0 := by have := numP_bad h; omega

set_option maxRecDepth 100000 in
set_option maxHeartbeats 1600000 in
theorem rNum_bad (gr : Nat) (sl : Value) (n : Nat) (er : Int) (lo hi : Int) (w : World) (hG : RSt w gr n sl (.inl er)) :
    Calls Try.prog 55 #[.pointer (some ⟨gr, 0, none⟩), .int .i64 lo, .int .i64 hi] w (RNumPost gr n sl w (0, .inl er)) := by
  have HG := Lib.hid hG
  obtain ⟨h0, x, hB⟩ := hG
  have hb : (er != 0) = true := by simp [h0]
  have c2 : w.cell? ⟨gr, 2, none⟩ = some (.int .i64 er) := by rw [hB.cell]; rfl
  clear hB
  go_enter Try.func55, Try.ntmps55
  go_wp2_with fail
  go_ret
  exact ⟨rfl, HG.out, Chg.refl _ _⟩
set_option maxRecDepth 100000 in
set_option maxHeartbeats 1600000 in
theorem rNum_at (gr : Nat) (A : Option Addr) (n cap B : Nat) (bs : List UInt8) (p : Nat) (lo hi : Int) (w : World) (hG : RSt w gr n (.slice A n cap) (.inr p)) (hr : RdB w B A n bs) (hn : n ≤ 140737488355328) :
    Calls Try.prog 55 #[.pointer (some ⟨gr, 0, none⟩), .int .i64 lo, .int .i64 hi] w (RNumPost gr n (.slice A n cap) w (rnum bs (.inr p) lo hi)) := by
  obtain ⟨hp, hB⟩ := hG
  obtain ⟨v, nx, er, h⟩ : ∃ v nx er, tk bs p 9 0 0 = (v, nx, er) := ⟨_, _, _, rfl⟩
  have he := tk_err bs p 9 0 0
  have hk := tk_le bs p 9 0 0
  rw [h] at he hk
  simp only at he hk
  have hl := hr.lenB
  rw [hl] at hk
  have hP : rnum bs (.inr p) lo hi = if er ≠ 0 then (0, .inl (er : Int)) else if (v : Int) < lo ∨ hi < (v : Int) then (0, .inl 16) else ((v : Int), .inr nx) := by
    unfold rnum numP
    simp only [h]
    by_cases h1 : er = 0
    · by_cases h2 : (v : Int) < lo ∨ hi < (v : Int)
      · simp [h1, h2]
      · simp [h1, h2]
    · simp [h1]
  have H := Lib.hid h
  have HL := Lib.hid hl
  clear h hl
  have c0 : w.cell? ⟨gr, 0, none⟩ = some (.slice A n cap) := by rw [hB.cell]; rfl
  have c1 : w.cell? ⟨gr, 1, none⟩ = some (.int .i64 (p : Int)) := by rw [hB.cell]; rfl
  have c2 : w.cell? ⟨gr, 2, none⟩ = some (.int .i64 0) := by rw [hB.cell]; rfl
  have f1 := hB.frozen 1
  have f2 := hB.frozen 2
  by_cases h0 : er = 0
  · have hk := hk h0
    have hb0 : ((er : Int) != 0) = false := by simp [h0]
    by_cases h1 : (v : Int) < lo
    · have HP : Hid (rnum bs (.inr p) lo hi = (0, .inl 16)) := by show _ = _; rw [hP, if_neg (by omega), if_pos (.inl h1)]
      clear hP h0
      generalize rnum bs (.inr p) lo hi = r at *
      go_enter Try.func55, Try.ntmps55
      go_wp2_with fail
      go_quiet ((go_at_call 23; exact Calls.quiet_of_same (RTakeInt_c A n cap B bs p _ (hr.dn _) hn hp v nx er H.out)))
      go_wp2
      go_ret
      rw [HP.out]
      exact ⟨rfl, ⟨by omega, _, ((hB.drewN _).set_ 1 _).set_ 2 _⟩, (((Chg.refl (fun k => k = gr) w).drewN _).setCell (p := ⟨gr, 1, none⟩) (.inl rfl) _).setCell (p := ⟨gr, 2, none⟩) (.inl rfl) _⟩
    · by_cases h2 : hi < (v : Int)
      · have HP : Hid (rnum bs (.inr p) lo hi = (0, .inl 16)) := by show _ = _; rw [hP, if_neg (by omega), if_pos (.inr h2)]
        clear hP h0
        generalize rnum bs (.inr p) lo hi = r at *
        go_enter Try.func55, Try.ntmps55
        go_wp2_with fail
        go_quiet ((go_at_call 23; exact Calls.quiet_of_same (RTakeInt_c A n cap B bs p _ (hr.dn _) hn hp v nx er H.out)))
        go_wp2
        go_ret
        rw [HP.out]
        exact ⟨rfl, ⟨by omega, _, ((hB.drewN _).set_ 1 _).set_ 2 _⟩, (((Chg.refl (fun k => k = gr) w).drewN _).setCell (p := ⟨gr, 1, none⟩) (.inl rfl) _).setCell (p := ⟨gr, 2, none⟩) (.inl rfl) _⟩
      · have HP : Hid (rnum bs (.inr p) lo hi = ((v : Int), .inr nx)) := by show _ = _; rw [hP, if_neg (by omega), if_neg (by omega)]
        clear hP h0
        generalize rnum bs (.inr p) lo hi = r at *
        go_enter Try.func55, Try.ntmps55
        go_wp2_with fail
        go_quiet ((go_at_call 23; exact Calls.quiet_of_same (RTakeInt_c A n cap B bs p _ (hr.dn _) hn hp v nx er H.out)))
        go_wp2
        go_ret
        rw [HP.out]
        exact ⟨rfl, ⟨hk.2.2, (hB.drewN _).set_ 1 _⟩, ((Chg.refl (fun k => k = gr) w).drewN _).setCell (p := ⟨gr, 1, none⟩) (.inl rfl) _⟩
  · have hb0 : ((er : Int) != 0) = true := by simp [h0]
    have HP : Hid (rnum bs (.inr p) lo hi = (0, .inl (er : Int))) := by show _ = _; rw [hP, if_pos h0]
    clear hP
    generalize rnum bs (.inr p) lo hi = r at *
    go_enter Try.func55, Try.ntmps55
    go_wp2_with fail
    go_quiet ((go_at_call 23; exact Calls.quiet_of_same (RTakeInt_c A n cap B bs p _ (hr.dn _) hn hp v nx er H.out)))
    go_wp2
    go_ret
    rw [HP.out]
    exact ⟨rfl, ⟨by omega, _, (hB.drewN _).set_ 2 _⟩, ((Chg.refl (fun k => k = gr) w).drewN _).setCell (p := ⟨gr, 2, none⟩) (.inl rfl) _⟩
theorem rNum_any (gr : Nat) (A : Option Addr) (n cap B : Nat) (bs : List UInt8) (st : Sum Int Nat) (lo hi : Int) (w : World) (hG : RSt w gr n (.slice A n cap) st) (hr : RdB w B A n bs) (hn : n ≤ 140737488355328) :
    Calls Try.prog 55 #[.pointer (some ⟨gr, 0, none⟩), .int .i64 lo, .int .i64 hi] w (RNumPost gr n (.slice A n cap) w (rnum bs st lo hi)) := by
  cases st with
  | inl er => exact rNum_bad gr _ n er lo hi w hG
  | inr p => exact rNum_at gr A n cap B bs p lo hi w hG hr hn
end Go.Proofs.Ytjafmcahlmopiaa
