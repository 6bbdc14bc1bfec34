/-
  The program's reader: number, count, node, text; what gives up panics with the error's number.
-/
import Derived.Test.YtjafmcahlmopiaaTake
import Derived.Test.YtjafmcahlmopiaaTy
import Derived.Test.YtjafmcahlmopiaaValid
import Derived.Deep.RegionHeld3
import Derived.StillTailTactics
namespace Go.Proofs.Ytjafmcahlmopiaa
open Go.RowKit

def numP (bs : List UInt8) (p : Nat) (lo hi : Int) : Sum Int (Nat × Nat) :=
  if (tk bs p 9 0 0).2.2 ≠ 0 then .inl ((tk bs p 9 0 0).2.2 : Int) else if ((tk bs p 9 0 0).1 : Int) < lo ∨ hi < ((tk bs p 9 0 0).1 : Int) then .inl 16 else .inr ((tk bs p 9 0 0).1, (tk bs p 9 0 0).2.1)
theorem tk_le (bs : List UInt8) (p : Nat) : ∀ f i v, (tk bs p f i v).2.2 = 0 → (tk bs p f i v).1 ≤ 4611686018427387904 ∧ p < (tk bs p f i v).2.1 ∧ (tk bs p f i v).2.1 ≤ bs.length := by
  intro f
  induction f with
  | zero => intro i v h; simp [tk] at h
  | succ f ih =>
    intro i v
    unfold tk
    cases hb : bs[p + i]? with
    | none => intro h; simp at h
    | some c =>
      simp only
      split
      · split
        · intro h; simp at h
        · rename_i h1
          intro _
          obtain ⟨h2, _⟩ := List.getElem?_eq_some_iff.1 hb
          simp only
          omega
      · exact ih _ _
theorem tk_err (bs : List UInt8) (p : Nat) : ∀ f i v, (tk bs p f i v).2.2 ≤ 14 := by
  intro f
  induction f with
  | zero => intro i v; simp [tk]
  | succ f ih =>
    intro i v
    unfold tk
    cases hb : bs[p + i]? with
    | none => simp
    | some c =>
      simp only
      split
      · split <;> simp
      · exact ih _ _
theorem numP_ok {bs : List UInt8} {p v nx : Nat} {lo hi : Int} (h : numP bs p lo hi = .inr (v, nx)) : lo ≤ (v : Int) ∧ (v : Int) ≤ hi ∧ v ≤ 4611686018427387904 ∧ p < nx ∧ nx ≤ bs.length := by
  unfold numP at h
  split at h
  · cases h
  · rename_i h0
    split at h
    · cases h
    · rename_i h1
      simp only [Sum.inr.injEq, Prod.mk.injEq] at h
      obtain ⟨rfl, rfl⟩ := h
      have := tk_le bs p 9 0 0 (by omega)
      omega
theorem numP_bad {bs : List UInt8} {p : Nat} {lo hi er : Int} (h : numP bs p lo hi = .inl er) : 0 < er ∧ er ≤ 16 := by
  unfold numP at h
  split at h
  · rename_i h0
    simp only [Sum.inl.injEq] at h
    have := tk_err bs p 9 0 0
    omega
  · split at h
    · simp only [Sum.inl.injEq] at h
      omega
    · cases h
theorem TakeInt_c (A : Option Addr) (n cap B : Nat) (bs : List UInt8) (p : Nat) (w : World) (hr : RdB w B A n bs) (hn : n ≤ 140737488355328) (hp : p ≤ n) (v nx er : Nat) (h : tk bs p 9 0 0 = (v, nx, er)) :
    Calls Try.prog 22 #[.slice A n cap, .int .i64 (p : Int)] w fun e w' => e = .returned (.tuple #[.int .i64 v, .int .i64 nx, .int .i64 er]) ∧ w' = w :=
  (TakeInt_any A n cap B bs p w hr hn (by omega) (by omega)).mono fun _ _ ⟨⟨v', nx', er', h1, h2⟩, h3⟩ => by
    have e : takeInt bs (p : Int) = tk bs p 9 0 0 := by
      unfold takeInt
      rw [if_neg (by rw [hr.lenB]; omega), Int.toNat_natCast]
    rw [e, h, Prod.mk.injEq, Prod.mk.injEq] at h1
    obtain ⟨rfl, rfl, rfl⟩ := h1
    exact ⟨h2, h3.symm⟩

/-- What a reader's call for a number comes to. -/
def Gives (er : Int) (e : Ending) : Prop := e = .panicked [{ v := .iface 23 (.int .i64 er), recovered := false }]
def IntPost (gr : Nat) (sl : Value) (w : World) (r : Sum Int (Nat × Nat)) (e : Ending) (w' : World) : Prop :=
  match r with
  | .inl er => Gives er e ∧ Chg (fun k => k = gr) w w'
  | .inr (v, nx) => e = .returned (.int .i64 (v : Int)) ∧ Blk w' gr 115 #[sl, .int .i64 (nx : Int)] ∧ Chg (fun k => k = gr) w w'

set_option maxRecDepth 100000 in
set_option maxHeartbeats 800000 in
theorem number_any (gr : Nat) (A : Option Addr) (n cap B : Nat) (bs : List UInt8) (p : Nat) (lo hi : Int) (w : World) (hG : Blk w gr 115 #[.slice A n cap, .int .i64 (p : Int)]) (hr : RdB w B A n bs) (hn : n ≤ 140737488355328) (hp : p ≤ n) :
    Calls Try.prog 61 #[.pointer (some ⟨gr, 0, none⟩), .int .i64 lo, .int .i64 hi] w (IntPost gr (.slice A n cap) w (numP bs p lo hi)) := by
  obtain ⟨v, nx, er, h⟩ : ∃ v nx er, tk bs p 9 0 0 = (v, nx, er) := ⟨_, _, _, rfl⟩
  have he := tk_err bs p 9 0 0
  have hk := tk_le bs p 9 0 0
  rw [h] at he hk
  simp only at he hk
  have hP : numP bs p lo hi = if er ≠ 0 then .inl (er : Int) else if (v : Int) < lo ∨ hi < (v : Int) then .inl 16 else .inr (v, nx) := by unfold numP; rw [h]
  have H := Lib.hid h
  clear h
  have c0 : w.cell? ⟨gr, 0, none⟩ = some (.slice A n cap) := by rw [hG.cell]; rfl
  have c1 : w.cell? ⟨gr, 1, none⟩ = some (.int .i64 (p : Int)) := by rw [hG.cell]; rfl
  have f1 := hG.frozen 1
  by_cases h0 : er = 0
  · have hk := hk h0
    have hb0 : ((er : Int) != 0) = false := by simp [h0]
    by_cases h1 : (v : Int) < lo
    · have HP : Hid (numP bs p lo hi = .inl 16) := by show _ = _; rw [hP, if_neg (by omega), if_pos (.inl h1)]
      clear hP h0
      generalize numP bs p lo hi = r at *
      go_enter Try.func61, Try.ntmps61
      go_wp2_with fail
      go_quiet ((go_at_call 22; exact Calls.quiet_of_same (TakeInt_c A n cap B bs p _ (hr.dn _) hn hp v nx er H.out)))
      go_wp2
      rw [HP.out]
      exact ⟨rfl, rfl, (Chg.refl _ _).drewN _⟩
    · by_cases h2 : hi < (v : Int)
      · have HP : Hid (numP bs p lo hi = .inl 16) := by show _ = _; rw [hP, if_neg (by omega), if_pos (.inr h2)]
        clear hP h0
        generalize numP bs p lo hi = r at *
        go_enter Try.func61, Try.ntmps61
        go_wp2_with fail
        go_quiet ((go_at_call 22; exact Calls.quiet_of_same (TakeInt_c A n cap B bs p _ (hr.dn _) hn hp v nx er H.out)))
        go_wp2
        rw [HP.out]
        exact ⟨rfl, rfl, (Chg.refl _ _).drewN _⟩
      · have HP : Hid (numP bs p lo hi = .inr (v, nx)) := by show _ = _; rw [hP, if_neg (by omega), if_neg (by omega)]
        clear hP h0
        generalize numP bs p lo hi = r at *
        go_enter Try.func61, Try.ntmps61
        go_wp2_with fail
        go_quiet ((go_at_call 22; exact Calls.quiet_of_same (TakeInt_c A n cap B bs p _ (hr.dn _) hn hp v nx er H.out)))
        go_wp2
        go_ret
        rw [HP.out]
        exact ⟨rfl, (hG.drewN _).set_ 1 _, ((Chg.refl (fun k => k = gr) w).drewN _).setCell (p := ⟨gr, 1, none⟩) (.inl rfl) _⟩
  · have hb0 : ((er : Int) != 0) = true := by simp [h0]
    have HP : Hid (numP bs p lo hi = .inl (er : Int)) := by show _ = _; rw [hP, if_pos h0]
    clear hP h0
    generalize numP bs p lo hi = r at *
    go_enter Try.func61, Try.ntmps61
    go_wp2_with fail
    go_quiet ((go_at_call 22; exact Calls.quiet_of_same (TakeInt_c A n cap B bs p _ (hr.dn _) hn hp v nx er H.out)))
    go_wp2
    rw [HP.out]
    exact ⟨rfl, rfl, (Chg.refl _ _).drewN _⟩

theorem count_r (gr : Nat) (A : Option Addr) (n cap B : Nat) (bs : List UInt8) (p : Nat) (lo : Int) (w : World) (hG : Blk w gr 115 #[.slice A n cap, .int .i64 (p : Int)]) (hr : RdB w B A n bs) (hn : n ≤ 140737488355328) (hp : p ≤ n) :
    Calls Try.prog 60 #[.pointer (some ⟨gr, 0, none⟩), .int .i64 lo] w (IntPost gr (.slice A n cap) w (numP bs p lo 4611686018427387904)) := by
  cases h : numP bs p lo 4611686018427387904 with
  | inl er =>
    have H := Lib.hid h
    clear h
    go_enter Try.func60, Try.ntmps60
    go_wp2_with fail
    refine (number_any gr A n cap B bs p lo 4611686018427387904 w hG hr hn hp).mono ?_
    intro e w1 hpst
    rw [H.out] at hpst
    obtain ⟨rfl, hc⟩ := hpst
    go_wp2
    exact ⟨rfl, rfl, hc⟩
  | inr x =>
    obtain ⟨v, nx⟩ := x
    have H := Lib.hid h
    clear h
    go_enter Try.func60, Try.ntmps60
    go_wp2_with fail
    refine (number_any gr A n cap B bs p lo 4611686018427387904 w hG hr hn hp).mono ?_
    intro e w1 hpst
    rw [H.out] at hpst
    obtain ⟨rfl, hB, hc⟩ := hpst
    go_wp2
    go_ret
    exact ⟨rfl, hB, hc⟩
theorem node_r (gr : Nat) (A : Option Addr) (n cap B : Nat) (bs : List UInt8) (p : Nat) (w : World) (hG : Blk w gr 115 #[.slice A n cap, .int .i64 (p : Int)]) (hr : RdB w B A n bs) (hn : n ≤ 140737488355328) (hp : p ≤ n) :
    Calls Try.prog 62 #[.pointer (some ⟨gr, 0, none⟩)] w (IntPost gr (.slice A n cap) w (numP bs p 0 15)) := by
  cases h : numP bs p 0 15 with
  | inl er =>
    have H := Lib.hid h
    clear h
    go_enter Try.func62, Try.ntmps62
    go_wp2_with fail
    refine (number_any gr A n cap B bs p 0 15 w hG hr hn hp).mono ?_
    intro e w1 hpst
    rw [H.out] at hpst
    obtain ⟨rfl, hc⟩ := hpst
    go_wp2
    exact ⟨rfl, rfl, hc⟩
  | inr x =>
    obtain ⟨v, nx⟩ := x
    have H := Lib.hid h
    clear h
    go_enter Try.func62, Try.ntmps62
    go_wp2_with fail
    refine (number_any gr A n cap B bs p 0 15 w hG hr hn hp).mono ?_
    intro e w1 hpst
    rw [H.out] at hpst
    obtain ⟨rfl, hB, hc⟩ := hpst
    go_wp2
    go_ret
    exact ⟨rfl, hB, hc⟩

end Go.Proofs.Ytjafmcahlmopiaa
