/- The law FnExactWovenChart: whatever the input, the call returns true, and each argument reads behind the call as it read before. Conditions: none but those of the given row. Printed by this session's own program (wip/xprint). -/
import Derived.Test.YtfibaganajembaaZFnExactWovenChart1
import Derived.Test.YtfibaganajembaaRows
import Derived.WalkKit
import Derived.ProofKit
import Derived.OpenShut
import Derived.ShutString
import Derived.ChangeOld
import Derived.Below
import Derived.SizedLaws
namespace Go.Proofs.Ytfibaganajembaa.fnExactWovenChart
open Go.ChangeShapes Go.WideShapes Go.ChangeAt Go.RowKit X
open Go.ChangeMaps (open_string shut_string)
set_option linter.unusedVariables false
theorem own : ownKnob Try.prog.godebug = none := by kernel_rfl
theorem laidOut : laidOutB Try.prog = true := by kernel_rfl
set_option maxRecDepth 100000 in
theorem lifted (os : Os) (started : os.Started) (H : Type) (enc : TypeId × Value → H) :
    ReturnsInHanded {} Try.checked os 13 .any (Rows.fnExactWovenChartSpec.pre6 enc Try.prog Try.f13 Rows.fnExactWovenChartRow.domain false) (Rows.fnExactWovenChartSpec.post enc Try.prog Try.f13 false true false false) := by
  refine returnsInHanded_of_change_sized (C := Try.checked) own started (by kernel_rfl) Try.func13
    (ChangeSpec.witness6 (enc := enc) (C := Try.checked) false ⟨#[], #[.agg #[.int .i64 0, .int .i64 0, .slice none 0 0, .slice none 0 0, .int .i64 0, .slice none 0 0, .bool false]], []⟩ 8 (by kernel_rfl) (by kernel_rfl) (by kernel_rfl) (by kernel_rfl)) ?_
  intro W base args ds gs before hval0 hW hcnd hsz0 _
  have hval : ∀ (j : Nat) t v, Try.f13.params[j]? = some t → args[j]? = some v → Value.okWide Try.prog W .any base t v := hval0
  have hW' := hW
  obtain ⟨p, q, hA0, hV, rfl, hfz, hnd⟩ := hW
  have hA : DataW.TrodAll enc Try.prog W 0 (fun _ => true) true Try.f13.params.toList args.toList ds p := hA0
  rw [Try.params13] at hA hval
  obtain ⟨v0, vs0, d0, ds0, p0, q0, hargs, rfl, rfl, h0, r0⟩ := trodAll_cons hA
  obtain ⟨rfl, rfl, rfl⟩ := trodAll_nil r0
  obtain rfl : args = #[v0] := by cases args; simp_all
  obtain ⟨rfl, rfl⟩ := trodVars_none hV
  obtain ⟨cs0, rfl, hsz0⟩ := okWide_struct Try.underlying54 (hval 0 54 v0 rfl rfl)
  have k0 := h0
  have lt0 : ∀ x ∈ p0, x.block < W.heap.size := by obtain ⟨m, hm⟩ := k0; exact DataW.trod_lt m _ _ _ hm
  obtain ⟨x0, hK0, hok0⟩ : ∃ x, k54.K W x cs0.toList ∧ ok54 x := by obtain ⟨fuel, hf⟩ := h0; exact (opens54 W).get enc 0 _ _ fuel _ _ (by simpa [Value.cells] using hf)
  obtain ⟨A0_2, c0_2, A0_3, c0_3, A0_5, c0_5, hcs0, hl0_2, hC0_2, hl0_3, hC0_3, hl0_5, hC0_5⟩ := k54_open hK0
  obtain rfl : cs0 = #[.int .i64 x0.f0.f0, .int .i64 x0.f0.f1, .slice A0_2 x0.f0.f2.length c0_2, .slice A0_3 x0.f1.length c0_3, .int .i64 x0.f2, .slice A0_5 x0.f3.length c0_5, .bool x0.f4] := by cases cs0; simpa using hcs0
  have hok0 := hok0
  clear hA0 hval0 hsz0
  obtain ⟨k, h⟩ := Pure.FnExactWovenChart x0.f0.f0 x0.f0.f1 x0.f0.f2 x0.f1 x0.f2 x0.f3 x0.f4 hok0.1.1 hok0.1.2.1 hok0.1.2.2 hok0.2.1 hok0.2.2.1 hok0.2.2.2.1
  refine (X.laws_FnExactWovenChart.calls k x0.f0.f0 x0.f0.f1 _ _ x0.f0.f2 _ _ x0.f1 x0.f2 _ _ x0.f3 x0.f4 true W hC0_2 hl0_2 hC0_3 hl0_3 hC0_5 hl0_5 rfl h).mono fun e W' ⟨he, hd⟩ => ?_
  have bel : Below W.heap.size W W' := hd
  subst he
  exact ⟨_, rfl, _, _, _, [], _, [], hW', trodAll_mk1 (shut_bool Try.underlying4 _), (trodAll_cons_mk (Below.trod laidOut (by kernel_rfl) (of_decide_eq_true (by kernel_rfl)) k0 bel lt0) trodAll_mk0), rfl, bel.frame _, fun h => by cases h⟩
theorem over : Rows.fnExactWovenChartRow.holds Try.pinned (OpenSpec.ofChange Rows.fnExactWovenChartSpec) :=
  OpenClaim.holds_of_wide 13 Try.f13 rfl rfl rfl rfl rfl rfl rfl ⟨rfl, rfl, rfl, rfl, rfl⟩ rfl rfl rfl rfl rfl (by kernel_rfl) Try.func13 (by kernel_rfl)
    (of_decide_eq_true (by kernel_rfl)) (by unfold Func.isWrapper; first | (rw [if_pos (by decide +kernel)]; kernel_rfl) | (rw [if_neg (by decide +kernel)]; exact ⟨rfl, rfl⟩))
    (fun os started H enc _ => lifted os started H enc)
end Go.Proofs.Ytfibaganajembaa.fnExactWovenChart
namespace Go.Proofs.Ytfibaganajembaa
/-- The row, under a short name, for the claim. -/
theorem fnExactWovenChart_holds : Rows.FnExactWovenChartSaid := fnExactWovenChart.over
#print axioms fnExactWovenChart_holds
end Go.Proofs.Ytfibaganajembaa
