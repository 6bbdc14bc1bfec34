/-
  DetectTurns: for every input the call returns true and each argument reads behind the call as it read before. Conditions: none of this text; those of the given statement alone.
-/
import Derived.Test.YtfjpmoigpnmeoaaFrame
import Derived.Test.YtfjpmoigpnmeoaaDTurns
import Derived.Test.YtfjpmoigpnmeoaaBulk
namespace Go.Proofs.Ytfjpmoigpnmeoaa.lawDetectTurns
open Go.ChangeShapes Go.WideShapes Go.ChangeAt Go.RowKit Go.Proofs.Ytfjpmoigpnmeoaa
set_option maxRecDepth 100000 in
theorem contract (H : Type) (enc : TypeId × Value → H) (W : World) (base : Nat) (args : Array Value) (ds gs : List (DataW H)) (before : List MemPlace)
    (hval : ∀ (j : Nat) t v, Try.f9.params[j]? = some t → args[j]? = some v → Value.okWide Try.prog W .any base t v)
    (hW : DataW.Whole enc Try.prog Try.f9.params.toList Rows.detectTurnsSpec.vars false W args.toList ds gs before) (hk : Rows.uptoSmall H (ds ++ gs) = true)
    (hsz : (DataW.weightsEach Try.prog (Try.f9.params.toList ++ (OpenSpec.ofChange Rows.detectTurnsSpec).bare.plain.varTypes Try.prog) (ds ++ gs)).all (· ≤ reachBytes) = true) :
    Calls Try.prog 9 args W fun e W' => ∃ v, e = .returned v ∧ Rows.detectTurnsSpec.post enc Try.prog Try.f9 false true false false W args v W' := by
  have hW' := hW
  obtain ⟨p, q, hA0, hV, rfl, hfz, hnd⟩ := hW
  have hA : DataW.TrodAll enc Try.prog W 0 (fun _ => true) true Try.f9.params.toList args.toList ds p := hA0
  rw [Try.params9] at hA hval hsz
  obtain ⟨v0, vs0, d0, ds0, p0, q0, hargs, rfl, rfl, h0, r0⟩ := trodAll_cons hA
  obtain ⟨v1, vs1, d1, ds1, p1, q1, rfl, rfl, rfl, h1, r1⟩ := trodAll_cons r0
  obtain ⟨rfl, rfl, rfl⟩ := trodAll_nil r1
  obtain rfl : args = #[v0, v1] := by cases args; simp_all
  obtain ⟨rfl, rfl⟩ := trodVars_none hV
  obtain ⟨cs0, rfl, hz0⟩ := okWide_struct Try.underlying27 (hval 0 27 v0 (by simp) (by simp))
  obtain ⟨x0_0, x1_0, x2_0, x3_0, x4_0, x5_0, A6_0, n6_0, k6_0, x6_0, hcs0, b0_0, t0_0, b1_0, t1_0, b2_0, t2_0, b3_0, t3_0, b4_0, t4_0, b5_0, t5_0, u6_0, p6_0, q6_0, l6_0, r6_0, s6_0⟩ := FitU.Run (FitU.of_trod h0 hsz (by simpa using hk) (j := 0) (by simp) (by simp))
  obtain rfl : cs0 = #[.int .i64 x0_0, .int .i64 x1_0, .int .i64 x2_0, .int .i64 x3_0, .int .i64 x4_0, .int .i64 x5_0, .slice A6_0 n6_0 k6_0] := by cases cs0; simpa [Value.cells] using hcs0
  obtain ⟨cs1, rfl, hz1⟩ := okWide_struct Try.underlying27 (hval 1 27 v1 (by simp) (by simp))
  obtain ⟨x0_1, x1_1, x2_1, x3_1, x4_1, x5_1, A6_1, n6_1, k6_1, x6_1, hcs1, b0_1, t0_1, b1_1, t1_1, b2_1, t2_1, b3_1, t3_1, b4_1, t4_1, b5_1, t5_1, u6_1, p6_1, q6_1, l6_1, r6_1, s6_1⟩ := FitU.Run (FitU.of_trod h1 hsz (by simpa using hk) (j := 1) (by simp) (by simp))
  obtain rfl : cs1 = #[.int .i64 x0_1, .int .i64 x1_1, .int .i64 x2_1, .int .i64 x3_1, .int .i64 x4_1, .int .i64 x5_1, .slice A6_1 n6_1 k6_1] := by cases cs1; simpa [Value.cells] using hcs1
  clear hA0 hval hA
  refine (DetectTurns_walk x0_0 x1_0 x2_0 x3_0 x4_0 x5_0 A6_0 n6_0 k6_0 x6_0 x0_1 x1_1 x2_1 x3_1 x4_1 x5_1 A6_1 n6_1 k6_1 x6_1 W b0_0 t0_0 b1_0 t1_0 b2_0 t2_0 b3_0 t3_0 b4_0 t4_0 b5_0 t5_0 u6_0 p6_0 q6_0 l6_0 r6_0 s6_0 b0_1 t0_1 b1_1 t1_1 b2_1 t2_1 b3_1 t3_1 b4_1 t4_1 b5_1 t5_1 u6_1 p6_1 q6_1 l6_1 r6_1 s6_1).mono fun e W' ⟨he, hb⟩ => ?_
  subst he
  exact ⟨_, rfl, law_post rfl (by kernel_rfl) Try.underlying4 laidOut (by kernel_rfl) hW' rfl hb⟩

noncomputable def laidWorld (os : Os) : World := World.holding Try.prog os ⟨#[], #[], []⟩
theorem laid_met (os : Os) : laidMetH Try.prog [] ((laidWorld os).forCall (fun _ _ => 0) ⟨#[], #[.agg #[.int .i64 0, .int .i64 0, .int .i64 0, .int .i64 0, .int .i64 0, .int .i64 0, .slice none 0 0], .agg #[.int .i64 0, .int .i64 0, .int .i64 0, .int .i64 0, .int .i64 0, .int .i64 0, .slice none 0 0]], []⟩).memory := by
  exact laidMet_of_run' 8 (by kernel_rfl) (by kernel_rfl)
set_option maxRecDepth 100000 in
theorem lifted (os : Os) (started : os.Started) (H : Type) (enc : TypeId × Value → H) (F : Stop.Interp) :
    ReturnsInHanded {} Try.checked os 9 .any ((Rows.OpenSpec.upto Rows.detectTurnsSpec).preRow enc Try.prog Try.f9 Rows.detectTurnsUptoRow.domain false Rows.detectTurnsUptoRow.laid) (((Rows.OpenSpec.upto Rows.detectTurnsSpec).at F).post enc Try.prog Try.f9 false true false false) := by
  have hx : DataW.whole enc Try.prog ((laidWorld os).forCall (fun _ _ => 0) ⟨#[], #[.agg #[.int .i64 0, .int .i64 0, .int .i64 0, .int .i64 0, .int .i64 0, .int .i64 0, .slice none 0 0], .agg #[.int .i64 0, .int .i64 0, .int .i64 0, .int .i64 0, .int .i64 0, .int .i64 0, .slice none 0 0]], []⟩).memory Try.f9.params.toList Rows.detectTurnsSpec.vars false (#[.agg #[.int .i64 0, .int .i64 0, .int .i64 0, .int .i64 0, .int .i64 0, .int .i64 0, .slice none 0 0], .agg #[.int .i64 0, .int .i64 0, .int .i64 0, .int .i64 0, .int .i64 0, .int .i64 0, .slice none 0 0]] : Array Value).toList 8 = some ([.agg [.lit (.int .i64 0), .lit (.int .i64 0), .lit (.int .i64 0), .lit (.int .i64 0), .lit (.int .i64 0), .lit (.int .i64 0), .nil], .agg [.lit (.int .i64 0), .lit (.int .i64 0), .lit (.int .i64 0), .lit (.int .i64 0), .lit (.int .i64 0), .lit (.int .i64 0), .nil]], [], []) := by kernel_rfl
  have hcd : ∀ k, (Rows.OpenSpec.upto Rows.detectTurnsSpec).cond = some k → k H (([.agg [.lit (.int .i64 0), .lit (.int .i64 0), .lit (.int .i64 0), .lit (.int .i64 0), .lit (.int .i64 0), .lit (.int .i64 0), .nil], .agg [.lit (.int .i64 0), .lit (.int .i64 0), .lit (.int .i64 0), .lit (.int .i64 0), .lit (.int .i64 0), .lit (.int .i64 0), .nil]] : List (DataW H)) ++ []) = true := fun k hk => by cases hk; kernel_rfl
  refine returnsInHanded_of_row (C := Try.checked) (s := (Rows.OpenSpec.upto Rows.detectTurnsSpec)) own started (by kernel_rfl) Try.func9
    (witness_row_at (enc := enc) (C := Try.checked) false (laidWorld os) #[.agg #[.int .i64 0, .int .i64 0, .int .i64 0, .int .i64 0, .int .i64 0, .int .i64 0, .slice none 0 0], .agg #[.int .i64 0, .int .i64 0, .int .i64 0, .int .i64 0, .int .i64 0, .int .i64 0, .slice none 0 0]] rfl (by kernel_rfl) (by kernel_rfl) (by kernel_rfl)
      (OpenSpec.preRow_of_cond 8 hx (by rfl) hcd (by kernel_rfl) (laid_met os))) ?_
  intro W base args ds gs before hval hW _ hcond hsz hL _ _
  exact contract H enc W base args ds gs before hval hW (hcond _ rfl)  hsz
theorem said : Rows.DetectTurnsUptoSaid :=
  OpenClaim.holds_of_cond 9 Try.f9 rfl rfl rfl rfl rfl rfl rfl ⟨rfl, rfl, rfl, rfl, rfl⟩ rfl rfl rfl rfl rfl (by kernel_rfl) Try.func9 (by kernel_rfl)
    (of_decide_eq_true (by kernel_rfl)) (by unfold Func.isWrapper; first | (rw [if_pos (by decide +kernel)]; kernel_rfl) | (rw [if_neg (by decide +kernel)]; exact ⟨rfl, rfl⟩))
    (fun os started H enc _ F => by rw [OpenClaim.pre_eq_preRow]; exact lifted os started H enc F)
#print axioms said
end Go.Proofs.Ytfjpmoigpnmeoaa.lawDetectTurns
