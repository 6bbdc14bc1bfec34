/-
  JournalApplies: for every input the call returns true and each argument reads behind the call as it read before. Conditions: none of this text; those of the given statement alone.
-/
import Derived.Test.YtpkdalpjfcopbaaFrame
import Derived.Test.YtpkdalpjfcopbaaALawC
import Derived.Test.YtpkdalpjfcopbaaBulk
namespace Go.Proofs.Ytpkdalpjfcopbaa.lawJournalApplies
open Go.ChangeShapes Go.WideShapes Go.ChangeAt Go.RowKit Go.Proofs.Ytpkdalpjfcopbaa
set_option maxRecDepth 100000 in
theorem contract (H : Type) (enc : TypeId × Value → H) (W : World) (base : Nat) (args : Array Value) (ds gs : List (DataW H)) (before : List MemPlace)
    (hval : ∀ (j : Nat) t v, Try.f3.params[j]? = some t → args[j]? = some v → Value.okWide Try.prog W .any base t v)
    (hW : DataW.Whole enc Try.prog Try.f3.params.toList Rows.journalAppliesSpec.vars false W args.toList ds gs before) (hk : Rows.uptoSmall H (ds ++ gs) = true)
    (hsz : (DataW.weightsEach Try.prog (Try.f3.params.toList ++ (OpenSpec.ofChange Rows.journalAppliesSpec).bare.plain.varTypes Try.prog) (ds ++ gs)).all (· ≤ reachBytes) = true) :
    Calls Try.prog 3 args W fun e W' => ∃ v, e = .returned v ∧ Rows.journalAppliesSpec.post enc Try.prog Try.f3 false true false false W args v W' := by
  have hW' := hW
  obtain ⟨p, q, hA0, hV, rfl, hfz, hnd⟩ := hW
  have hA : DataW.TrodAll enc Try.prog W 0 (fun _ => true) true Try.f3.params.toList args.toList ds p := hA0
  rw [Try.params3] at hA hval hsz
  obtain ⟨v0, vs0, d0, ds0, p0, q0, hargs, rfl, rfl, h0, r0⟩ := trodAll_cons hA
  obtain ⟨v1, vs1, d1, ds1, p1, q1, rfl, rfl, rfl, h1, r1⟩ := trodAll_cons r0
  obtain ⟨v2, vs2, d2, ds2, p2, q2, rfl, rfl, rfl, h2, r2⟩ := trodAll_cons r1
  obtain ⟨rfl, rfl, rfl⟩ := trodAll_nil r2
  obtain rfl : args = #[v0, v1, v2] := by cases args; simp_all
  obtain ⟨rfl, rfl⟩ := trodVars_none hV
  obtain ⟨cs0, rfl, hz0⟩ := okWide_struct Try.underlying24 (hval 0 24 v0 (by simp) (by simp))
  obtain ⟨A0_0, n0_0, k0_0, x0_0, A1_0, n1_0, k1_0, x1_0, hcs0, u0_0, p0_0, q0_0, r0_0, u1_0, p1_0, q1_0, r1_0⟩ := FitU.Disk (FitU.of_trod h0 hsz (by simpa using hk) (j := 0) (by simp) (by simp))
  obtain rfl : cs0 = #[.slice A0_0 n0_0 k0_0, .slice A1_0 n1_0 k1_0] := by cases cs0; simpa [Value.cells] using hcs0
  obtain ⟨a1, l1, c1, rfl⟩ := okWide_slice Try.underlying25 (hval 1 25 v1 (by simp) (by simp))
  obtain ⟨A1, n1, cap1, es1, hcs1, hu1, hle1, hcap1, hl1, hr1, hes1⟩ := (FitU.of_trod h1 hsz (by simpa using hk) (j := 1) (by simp) (by simp)).rows Try.underlying25 (by kernel_rfl : Try.prog.cellsOf 28 = 3) (by kernel_rfl : Try.prog.bytesOf 28 = 40) (by omega)
  obtain ⟨rfl, rfl, rfl⟩ : a1 = A1 ∧ l1 = n1 ∧ c1 = cap1 := by simpa [Value.cells] using hcs1
  obtain ⟨x2, rfl, rfl, rfl, wx2⟩ := open_int Try.underlying3 (hval 2 3 v2 (by simp) (by simp)) h2
  clear hA0 hval hA
  refine (JournalApplies_walk A0_0 n0_0 k0_0 x0_0 A1_0 n1_0 k1_0 x1_0 a1 l1 c1 x2 W u0_0 p0_0 q0_0 r0_0 u1_0 p1_0 q1_0 r1_0 hu1 hl1 hr1 hes1 (wf_i64_bd wx2).1 (wf_i64_bd wx2).2).mono fun e W' ⟨he, hb⟩ => ?_
  subst he
  exact ⟨_, rfl, law_post rfl (by kernel_rfl) Try.underlying4 laidOut (by kernel_rfl) hW' rfl hb⟩

noncomputable def laidWorld (os : Os) : World := World.holding Try.prog os ⟨#[], #[], []⟩
theorem laid_met (os : Os) : laidMetH Try.prog [] ((laidWorld os).forCall (fun _ _ => 0) ⟨#[], #[.agg #[.slice none 0 0, .slice none 0 0], .slice none 0 0, .int .i64 0], []⟩).memory := by
  exact laidMet_of_run' 8 (by kernel_rfl) (by kernel_rfl)
set_option maxRecDepth 100000 in
theorem lifted (os : Os) (started : os.Started) (H : Type) (enc : TypeId × Value → H) (F : Stop.Interp) :
    ReturnsInHanded {} Try.checked os 3 .any ((Rows.OpenSpec.upto Rows.journalAppliesSpec).preRow enc Try.prog Try.f3 Rows.journalAppliesUptoRow.domain false Rows.journalAppliesUptoRow.laid) (((Rows.OpenSpec.upto Rows.journalAppliesSpec).at F).post enc Try.prog Try.f3 false true false false) := by
  have hx : DataW.whole enc Try.prog ((laidWorld os).forCall (fun _ _ => 0) ⟨#[], #[.agg #[.slice none 0 0, .slice none 0 0], .slice none 0 0, .int .i64 0], []⟩).memory Try.f3.params.toList Rows.journalAppliesSpec.vars false (#[.agg #[.slice none 0 0, .slice none 0 0], .slice none 0 0, .int .i64 0] : Array Value).toList 8 = some ([.agg [.nil, .nil], .nil, .lit (.int .i64 0)], [], []) := by kernel_rfl
  have hcd : ∀ k, (Rows.OpenSpec.upto Rows.journalAppliesSpec).cond = some k → k H (([.agg [.nil, .nil], .nil, .lit (.int .i64 0)] : List (DataW H)) ++ []) = true := fun k hk => by cases hk; kernel_rfl
  refine returnsInHanded_of_row (C := Try.checked) (s := (Rows.OpenSpec.upto Rows.journalAppliesSpec)) own started (by kernel_rfl) Try.func3
    (witness_row_at (enc := enc) (C := Try.checked) false (laidWorld os) #[.agg #[.slice none 0 0, .slice none 0 0], .slice none 0 0, .int .i64 0] rfl (by kernel_rfl) (by kernel_rfl) (by kernel_rfl)
      (OpenSpec.preRow_of_cond 8 hx (by rfl) hcd (by kernel_rfl) (laid_met os))) ?_
  intro W base args ds gs before hval hW _ hcond hsz hL _ _
  exact contract H enc W base args ds gs before hval hW (hcond _ rfl)  hsz
theorem said : Rows.JournalAppliesUptoSaid :=
  OpenClaim.holds_of_cond 3 Try.f3 rfl rfl rfl rfl rfl rfl rfl ⟨rfl, rfl, rfl, rfl, rfl⟩ rfl rfl rfl rfl rfl (by kernel_rfl) Try.func3 (by kernel_rfl)
    (of_decide_eq_true (by kernel_rfl)) (by unfold Func.isWrapper; first | (rw [if_pos (by decide +kernel)]; kernel_rfl) | (rw [if_neg (by decide +kernel)]; exact ⟨rfl, rfl⟩))
    (fun os started H enc _ F => by rw [OpenClaim.pre_eq_preRow]; exact lifted os started H enc F)
#print axioms said
end Go.Proofs.Ytpkdalpjfcopbaa.lawJournalApplies
