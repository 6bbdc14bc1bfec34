/-
  WireChecks: for every input the call returns true and each argument reads behind the call as it read before. Conditions: none of this text; those of the given statement alone.
-/
import Derived.Test.YtffcepaegcllmaaFrame
import Derived.Test.YtffcepaegcllmaaPackW
namespace Go.Proofs.Ytffcepaegcllmaa.lawWireChecks
open Go.ChangeShapes Go.WideShapes Go.ChangeAt Go.RowKit Go.Proofs.Ytffcepaegcllmaa
set_option maxRecDepth 100000 in
theorem contract (H : Type) (enc : TypeId × Value → H) (W : World) (base : Nat) (args : Array Value) (ds gs : List (DataW H)) (before : List MemPlace)
    (hval : ∀ (j : Nat) t v, Try.f4.params[j]? = some t → args[j]? = some v → Value.okWide Try.prog W .any base t v)
    (hW : DataW.Whole enc Try.prog Try.f4.params.toList Rows.wireChecksSpec.vars false W args.toList ds gs before)
    (hsz : (DataW.weightsEach Try.prog (Try.f4.params.toList ++ (OpenSpec.ofChange Rows.wireChecksSpec).bare.plain.varTypes Try.prog) (ds ++ gs)).all (· ≤ reachBytes) = true) :
    Calls Try.prog 4 args W fun e W' => ∃ v, e = .returned v ∧ Rows.wireChecksSpec.post enc Try.prog Try.f4 false true false false W args v W' := by
  have hW' := hW
  obtain ⟨p, q, hA0, hV, rfl, hfz, hnd⟩ := hW
  have hA : DataW.TrodAll enc Try.prog W 0 (fun _ => true) true Try.f4.params.toList args.toList ds p := hA0
  rw [Try.params4] at hA hval hsz
  obtain ⟨v0, vs0, d0, ds0, p0, q0, hargs, rfl, rfl, h0, r0⟩ := trodAll_cons hA
  obtain ⟨rfl, rfl, rfl⟩ := trodAll_nil r0
  obtain rfl : args = #[v0] := by cases args; simp_all
  obtain ⟨rfl, rfl⟩ := trodVars_none hV
  obtain ⟨cs0, rfl, hz0⟩ := okWide_struct Try.underlying68 (hval 0 68 v0 (by simp) (by simp))
  obtain ⟨x0_0, x1_0, x2_0, x3_0, x4_0, x5_0, A6_0, n6_0, k6_0, x6_0, A7_0, n7_0, k7_0, x7_0, x8_0, x9_0, x10_0, x11_0, x12_0, x13_0, x14_0, A15_0, n15_0, k15_0, x15_0, x16_0, x17_0, x18_0, x19_0, x20_0, A21_0, n21_0, k21_0, x21_0, A22_0, n22_0, k22_0, x22_0, x23_0, x24_0, x25_0, x26_0, x27_0, x28_0, x29_0, x30_0, x31_0, x32_0, x33_0, A34_0, n34_0, k34_0, x34_0, x35_0, x36_0, x37_0, x38_0, x39_0, x40_0, x41_0, x42_0, x43_0, A44_0, n44_0, k44_0, x44_0, hcs0, b0_0, t0_0, b1_0, t1_0, b2_0, t2_0, b3_0, t3_0, b4_0, t4_0, b5_0, t5_0, p6_0, q6_0, r6_0, s6_0, p7_0, q7_0, r7_0, s7_0, b8_0, t8_0, b9_0, t9_0, b10_0, t10_0, b11_0, t11_0, b12_0, t12_0, b13_0, t13_0, b14_0, t14_0, p15_0, q15_0, r15_0, s15_0, b16_0, t16_0, b17_0, t17_0, b18_0, t18_0, b19_0, t19_0, b20_0, t20_0, p21_0, q21_0, l21_0, r21_0, s21_0, p22_0, q22_0, r22_0, s22_0, b23_0, t23_0, b24_0, t24_0, b25_0, t25_0, b26_0, t26_0, b27_0, t27_0, b28_0, t28_0, b29_0, t29_0, b30_0, t30_0, b31_0, t31_0, b32_0, t32_0, b33_0, t33_0, p34_0, q34_0, r34_0, b35_0, t35_0, b36_0, t36_0, b37_0, t37_0, b38_0, t38_0, b39_0, t39_0, b40_0, t40_0, b41_0, t41_0, b42_0, t42_0, b43_0, t43_0, p44_0, q44_0, l44_0, r44_0, s44_0⟩ := Fit.Packet (Fit.of_trod h0 hsz (j := 0) (by simp) (by simp))
  obtain rfl : cs0 = #[.int .i64 x0_0, .int .i64 x1_0, .int .i64 x2_0, .int .i64 x3_0, .int .i64 x4_0, .int .i64 x5_0, .slice A6_0 n6_0 k6_0, .slice A7_0 n7_0 k7_0, .int .i64 x8_0, .int .i64 x9_0, .int .i64 x10_0, .int .i64 x11_0, .int .i64 x12_0, .int .i64 x13_0, .int .i64 x14_0, .slice A15_0 n15_0 k15_0, .int .i64 x16_0, .int .i64 x17_0, .int .i64 x18_0, .int .i64 x19_0, .int .i64 x20_0, .slice A21_0 n21_0 k21_0, .slice A22_0 n22_0 k22_0, .int .i64 x23_0, .int .i64 x24_0, .int .i64 x25_0, .int .i64 x26_0, .int .i64 x27_0, .int .i64 x28_0, .int .i64 x29_0, .int .i64 x30_0, .int .i64 x31_0, .int .i64 x32_0, .int .i64 x33_0, .slice A34_0 n34_0 k34_0, .int .i64 x35_0, .int .i64 x36_0, .int .i64 x37_0, .int .i64 x38_0, .int .i64 x39_0, .int .i64 x40_0, .int .i64 x41_0, .int .i64 x42_0, .int .i64 x43_0, .slice A44_0 n44_0 k44_0] := by cases cs0; simpa [Value.cells] using hcs0
  clear hA0 hval hA
  refine (WireChecks_walk x0_0 x1_0 x2_0 x3_0 x4_0 x5_0 A6_0 n6_0 k6_0 x6_0 A7_0 n7_0 k7_0 x7_0 x8_0 x9_0 x10_0 x11_0 x12_0 x13_0 x14_0 A15_0 n15_0 k15_0 x15_0 x16_0 x17_0 x18_0 x19_0 x20_0 A21_0 n21_0 k21_0 x21_0 A22_0 n22_0 k22_0 x22_0 x23_0 x24_0 x25_0 x26_0 x27_0 x28_0 x29_0 x30_0 x31_0 x32_0 x33_0 A34_0 n34_0 k34_0 x34_0 x35_0 x36_0 x37_0 x38_0 x39_0 x40_0 x41_0 x42_0 x43_0 A44_0 n44_0 k44_0 x44_0 W b0_0 t0_0 b1_0 t1_0 b2_0 t2_0 b3_0 t3_0 b4_0 t4_0 b5_0 t5_0 p6_0 q6_0 r6_0 s6_0 p7_0 q7_0 r7_0 s7_0 b8_0 t8_0 b9_0 t9_0 b10_0 t10_0 b11_0 t11_0 b12_0 t12_0 b13_0 t13_0 b14_0 t14_0 p15_0 q15_0 r15_0 s15_0 b16_0 t16_0 b17_0 t17_0 b18_0 t18_0 b19_0 t19_0 b20_0 t20_0 p21_0 q21_0 l21_0 r21_0 s21_0 p22_0 q22_0 r22_0 s22_0 b23_0 t23_0 b24_0 t24_0 b25_0 t25_0 b26_0 t26_0 b27_0 t27_0 b28_0 t28_0 b29_0 t29_0 b30_0 t30_0 b31_0 t31_0 b32_0 t32_0 b33_0 t33_0 p34_0 q34_0 r34_0 b35_0 t35_0 b36_0 t36_0 b37_0 t37_0 b38_0 t38_0 b39_0 t39_0 b40_0 t40_0 b41_0 t41_0 b42_0 t42_0 b43_0 t43_0 p44_0 q44_0 l44_0 r44_0 s44_0).mono fun e W' ⟨he, hb⟩ => ?_
  subst he
  exact ⟨_, rfl, law_post rfl (by kernel_rfl) Try.underlying4 laidOut (by kernel_rfl) hW' rfl hb⟩

noncomputable def laidWorld (os : Os) : World := World.holding Try.prog os ⟨#[], #[], []⟩
theorem laid_met (os : Os) : laidMetH Try.prog [] ((laidWorld os).forCall (fun _ _ => 0) ⟨#[], #[.agg zeroCells], []⟩).memory := by
  exact laidMet_of_run' 8 (by kernel_rfl) (by kernel_rfl)
set_option maxRecDepth 100000 in
theorem lifted (os : Os) (started : os.Started) (H : Type) (enc : TypeId × Value → H) (F : Stop.Interp) :
    ReturnsInHanded {} Try.checked os 4 .any ((OpenSpec.ofChange Rows.wireChecksSpec).preRow enc Try.prog Try.f4 Rows.wireChecksRow.domain false Rows.wireChecksRow.laid) (((OpenSpec.ofChange Rows.wireChecksSpec).at F).post enc Try.prog Try.f4 false true false false) := by
  have hx : DataW.whole enc Try.prog ((laidWorld os).forCall (fun _ _ => 0) ⟨#[], #[.agg zeroCells], []⟩).memory Try.f4.params.toList Rows.wireChecksSpec.vars false (#[.agg zeroCells] : Array Value).toList 8 = some ([.agg [.agg [.lit (.int .i64 0), .lit (.int .i64 0), .lit (.int .i64 0), .lit (.int .i64 0), .lit (.int .i64 0)], .agg [.lit (.int .i64 0), .nil], .agg [.nil, .lit (.int .i64 0), .lit (.int .i64 0), .lit (.int .i64 0), .agg [.lit (.int .i64 0), .lit (.int .i64 0), .lit (.int .i64 0), .lit (.int .i64 0)], .nil], .agg [.agg [.lit (.int .i64 0), .lit (.int .i64 0), .lit (.int .i64 0), .lit (.int .i64 0)], .lit (.int .i64 0), .nil, .nil], .agg [.agg [.lit (.int .i64 0), .lit (.int .i64 0), .lit (.int .i64 0), .lit (.int .i64 0)], .lit (.int .i64 0), .lit (.int .i64 0)], .agg [.agg [.lit (.int .i64 0), .lit (.int .i64 0), .lit (.int .i64 0), .lit (.int .i64 0)], .lit (.int .i64 0), .nil], .agg [.agg [.lit (.int .i64 0), .lit (.int .i64 0), .lit (.int .i64 0), .lit (.int .i64 0)], .lit (.int .i64 0)], .agg [.agg [.lit (.int .i64 0), .lit (.int .i64 0), .lit (.int .i64 0), .lit (.int .i64 0)], .nil]]], [], []) := by kernel_rfl
  have hcd : ∀ k, (OpenSpec.ofChange Rows.wireChecksSpec).cond = some k → k H (([.agg [.agg [.lit (.int .i64 0), .lit (.int .i64 0), .lit (.int .i64 0), .lit (.int .i64 0), .lit (.int .i64 0)], .agg [.lit (.int .i64 0), .nil], .agg [.nil, .lit (.int .i64 0), .lit (.int .i64 0), .lit (.int .i64 0), .agg [.lit (.int .i64 0), .lit (.int .i64 0), .lit (.int .i64 0), .lit (.int .i64 0)], .nil], .agg [.agg [.lit (.int .i64 0), .lit (.int .i64 0), .lit (.int .i64 0), .lit (.int .i64 0)], .lit (.int .i64 0), .nil, .nil], .agg [.agg [.lit (.int .i64 0), .lit (.int .i64 0), .lit (.int .i64 0), .lit (.int .i64 0)], .lit (.int .i64 0), .lit (.int .i64 0)], .agg [.agg [.lit (.int .i64 0), .lit (.int .i64 0), .lit (.int .i64 0), .lit (.int .i64 0)], .lit (.int .i64 0), .nil], .agg [.agg [.lit (.int .i64 0), .lit (.int .i64 0), .lit (.int .i64 0), .lit (.int .i64 0)], .lit (.int .i64 0)], .agg [.agg [.lit (.int .i64 0), .lit (.int .i64 0), .lit (.int .i64 0), .lit (.int .i64 0)], .nil]]] : List (DataW H)) ++ []) = true := fun k hk => by cases hk
  refine returnsInHanded_of_row (C := Try.checked) (s := (OpenSpec.ofChange Rows.wireChecksSpec)) own started (by kernel_rfl) Try.func4
    (witness_row_at (enc := enc) (C := Try.checked) false (laidWorld os) #[.agg zeroCells] rfl (by kernel_rfl) (by kernel_rfl) (by kernel_rfl)
      (OpenSpec.preRow_of_cond 8 hx (by rfl) hcd (by kernel_rfl) (laid_met os))) ?_
  intro W base args ds gs before hval hW _ hcond hsz hL _ _
  exact contract H enc W base args ds gs before hval hW  hsz
theorem said : Rows.WireChecksSaid :=
  OpenClaim.holds_of_cond 4 Try.f4 rfl rfl rfl rfl rfl rfl rfl ⟨rfl, rfl, rfl, rfl, rfl⟩ rfl rfl rfl rfl rfl (by kernel_rfl) Try.func4 (by kernel_rfl)
    (of_decide_eq_true (by kernel_rfl)) (by unfold Func.isWrapper; first | (rw [if_pos (by decide +kernel)]; kernel_rfl) | (rw [if_neg (by decide +kernel)]; exact ⟨rfl, rfl⟩))
    (fun os started H enc _ F => by rw [OpenClaim.pre_eq_preRow]; exact lifted os started H enc F)
#print axioms said
end Go.Proofs.Ytffcepaegcllmaa.lawWireChecks
