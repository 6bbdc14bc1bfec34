/-
  WireItemBack: for every input the call returns true and each argument reads behind the call as it read before. Conditions: none of this text; those of the given statement alone.
-/
import Derived.Test.YtjafmcahlmopiaaFrame
import Derived.Test.YtjafmcahlmopiaaItemBack
namespace Go.Proofs.Ytjafmcahlmopiaa.lawWireItemBack
open Go.ChangeShapes Go.WideShapes Go.ChangeAt Go.RowKit Go.Proofs.Ytjafmcahlmopiaa
set_option maxRecDepth 100000 in
theorem contract (H : Type) (enc : TypeId × Value → H) (W : World) (base : Nat) (args : Array Value) (ds gs : List (DataW H)) (before : List MemPlace)
    (hval : ∀ (j : Nat) t v, Try.f10.params[j]? = some t → args[j]? = some v → Value.okWide Try.prog W .any base t v)
    (hW : DataW.Whole enc Try.prog Try.f10.params.toList Rows.wireItemBackSpec.vars false W args.toList ds gs before)
    (hsz : (DataW.weightsEach Try.prog (Try.f10.params.toList ++ (OpenSpec.ofChange Rows.wireItemBackSpec).bare.plain.varTypes Try.prog) (ds ++ gs)).all (· ≤ reachBytes) = true) :
    Calls Try.prog 10 args W fun e W' => ∃ v, e = .returned v ∧ Rows.wireItemBackSpec.post enc Try.prog Try.f10 false true false false W args v W' := by
  have hW' := hW
  obtain ⟨p, q, hA0, hV, rfl, hfz, hnd⟩ := hW
  have hA : DataW.TrodAll enc Try.prog W 0 (fun _ => true) true Try.f10.params.toList args.toList ds p := hA0
  rw [Try.params10] at hA hval hsz
  obtain ⟨v0, vs0, d0, ds0, p0, q0, hargs, rfl, rfl, h0, r0⟩ := trodAll_cons hA
  obtain ⟨v1, vs1, d1, ds1, p1, q1, rfl, rfl, rfl, h1, r1⟩ := trodAll_cons r0
  obtain ⟨rfl, rfl, rfl⟩ := trodAll_nil r1
  obtain rfl : args = #[v0, v1] := by cases args; simp_all
  obtain ⟨rfl, rfl⟩ := trodVars_none hV
  obtain ⟨cs0, rfl, hz0⟩ := okWide_struct Try.underlying52 (hval 0 52 v0 (by simp) (by simp))
  obtain ⟨x0_0, x1_0, x2_0, x3_0, A4_0, n4_0, k4_0, x4_0, x5_0, x6_0, x7_0, x8_0, hcs0, b0_0, t0_0, b1_0, t1_0, b2_0, t2_0, b3_0, t3_0, p4_0, q4_0, r4_0, b5_0, t5_0, b6_0, t6_0, b7_0, t7_0, b8_0, t8_0⟩ := Fit.Item (Fit.of_trod h0 hsz (j := 0) (by simp) (by simp))
  obtain rfl : cs0 = #[.int .i64 x0_0, .int .i64 x1_0, .int .i64 x2_0, .int .i64 x3_0, .slice A4_0 n4_0 k4_0, .int .i64 x5_0, .int .i64 x6_0, .int .i64 x7_0, .int .i64 x8_0] := by cases cs0; simpa [Value.cells] using hcs0
  obtain ⟨a1, l1, c1, rfl⟩ := okWide_slice Try.underlying25 (hval 1 25 v1 (by simp) (by simp))
  obtain ⟨A1, n1, cap1, xs1, hcs1, hle1, hcap1, hr1⟩ := (Fit.of_trod h1 hsz (j := 1) (by simp) (by simp)).bytes Try.underlying25 Try.underlying5 (by kernel_rfl) (by kernel_rfl)
  obtain ⟨rfl, rfl, rfl⟩ : a1 = A1 ∧ l1 = n1 ∧ c1 = cap1 := by simpa [Value.cells] using hcs1
  clear hA0 hval hA
  refine (WireItemBack_walk x0_0 x1_0 x2_0 x3_0 A4_0 n4_0 k4_0 x4_0 x5_0 x6_0 x7_0 x8_0 a1 l1 c1 xs1 W b0_0 t0_0 b1_0 t1_0 b2_0 t2_0 b3_0 t3_0 p4_0 q4_0 r4_0 b5_0 t5_0 b6_0 t6_0 b7_0 t7_0 b8_0 t8_0 hle1 hcap1 hr1).mono fun e W' ⟨he, hb⟩ => ?_
  subst he
  exact ⟨_, rfl, law_post rfl (by kernel_rfl) Try.underlying4 laidOut (by kernel_rfl) hW' rfl hb⟩

noncomputable def laidWorld (os : Os) : World := World.holding Try.prog os ⟨#[], #[], []⟩
theorem laid_met (os : Os) : laidMetH Try.prog [] ((laidWorld os).forCall (fun _ _ => 0) ⟨#[], #[.agg #[.int .i64 0, .int .i64 0, .int .i64 0, .int .i64 0, .slice none 0 0, .int .i64 0, .int .i64 0, .int .i64 0, .int .i64 0], .slice none 0 0], []⟩).memory := by
  exact laidMet_of_run' 8 (by kernel_rfl) (by kernel_rfl)
set_option maxRecDepth 100000 in
theorem lifted (os : Os) (started : os.Started) (H : Type) (enc : TypeId × Value → H) (F : Stop.Interp) :
    ReturnsInHanded {} Try.checked os 10 .any ((OpenSpec.ofChange Rows.wireItemBackSpec).preRow enc Try.prog Try.f10 Rows.wireItemBackRow.domain false Rows.wireItemBackRow.laid) (((OpenSpec.ofChange Rows.wireItemBackSpec).at F).post enc Try.prog Try.f10 false true false false) := by
  have hx : DataW.whole enc Try.prog ((laidWorld os).forCall (fun _ _ => 0) ⟨#[], #[.agg #[.int .i64 0, .int .i64 0, .int .i64 0, .int .i64 0, .slice none 0 0, .int .i64 0, .int .i64 0, .int .i64 0, .int .i64 0], .slice none 0 0], []⟩).memory Try.f10.params.toList Rows.wireItemBackSpec.vars false (#[.agg #[.int .i64 0, .int .i64 0, .int .i64 0, .int .i64 0, .slice none 0 0, .int .i64 0, .int .i64 0, .int .i64 0, .int .i64 0], .slice none 0 0] : Array Value).toList 8 = some ([.agg [.lit (.int .i64 0), .agg [.lit (.int .i64 0), .lit (.int .i64 0), .lit (.int .i64 0), .nil], .lit (.int .i64 0), .lit (.int .i64 0), .agg [.lit (.int .i64 0), .lit (.int .i64 0)]], .nil], [], []) := by kernel_rfl
  have hcd : ∀ k, (OpenSpec.ofChange Rows.wireItemBackSpec).cond = some k → k H (([.agg [.lit (.int .i64 0), .agg [.lit (.int .i64 0), .lit (.int .i64 0), .lit (.int .i64 0), .nil], .lit (.int .i64 0), .lit (.int .i64 0), .agg [.lit (.int .i64 0), .lit (.int .i64 0)]], .nil] : List (DataW H)) ++ []) = true := fun k hk => by cases hk
  refine returnsInHanded_of_row (C := Try.checked) (s := (OpenSpec.ofChange Rows.wireItemBackSpec)) own started (by kernel_rfl) Try.func10
    (witness_row_at (enc := enc) (C := Try.checked) false (laidWorld os) #[.agg #[.int .i64 0, .int .i64 0, .int .i64 0, .int .i64 0, .slice none 0 0, .int .i64 0, .int .i64 0, .int .i64 0, .int .i64 0], .slice none 0 0] rfl (by kernel_rfl) (by kernel_rfl) (by kernel_rfl)
      (OpenSpec.preRow_of_cond 8 hx (by rfl) hcd (by kernel_rfl) (laid_met os))) ?_
  intro W base args ds gs before hval hW _ hcond hsz hL _ _
  exact contract H enc W base args ds gs before hval hW  hsz
theorem said : Rows.WireItemBackSaid :=
  OpenClaim.holds_of_cond 10 Try.f10 rfl rfl rfl rfl rfl rfl rfl ⟨rfl, rfl, rfl, rfl, rfl⟩ rfl rfl rfl rfl rfl (by kernel_rfl) Try.func10 (by kernel_rfl)
    (of_decide_eq_true (by kernel_rfl)) (by unfold Func.isWrapper; first | (rw [if_pos (by decide +kernel)]; kernel_rfl) | (rw [if_neg (by decide +kernel)]; exact ⟨rfl, rfl⟩))
    (fun os started H enc _ F => by rw [OpenClaim.pre_eq_preRow]; exact lifted os started H enc F)
#print axioms said
end Go.Proofs.Ytjafmcahlmopiaa.lawWireItemBack
