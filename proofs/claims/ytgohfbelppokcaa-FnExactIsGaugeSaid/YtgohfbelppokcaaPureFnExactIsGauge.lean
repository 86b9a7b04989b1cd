/- The program's IsGauge returns what the reference's returns, for every gauge. Conditions: none. -/
import Derived.Test.YtgohfbelppokcaaX1
namespace Go.Proofs.Ytgohfbelppokcaa.Pure
open Go.RowKit Go.Proofs.Ytgohfbelppokcaa.X Go.Proofs.YtgohfbelppokcaaW.PrintWords Go.Proofs.YtgohfbelppokcaaW.PrintLast

theorem in_eq (x a b : Int) : impl_in.f x a b = some (decide (a ≤ x ∧ x ≤ b)) := by
  unfold impl_in.f
  by_cases h1 : a ≤ x <;> simp [h1]
theorem l1In_eq (x a b : Int) : spec_l1In.f x a b = some (decide (a ≤ x ∧ x ≤ b)) := by
  unfold spec_l1In.f
  by_cases h1 : a ≤ x <;> simp [h1]
theorem ite_sf (a b : Bool) : (if a = true then some b else some false) = some (a && b) := by cases a <;> rfl
theorem FnExactIsGauge : laws_FnExactIsGauge.Pure := by
  intro a b c _ _ _
  simp only [laws_FnExactIsGauge.f, laws_toGauge.f, spec_IsGauge.f, spec_l15Gauge.f, impl_IsGauge.f, in_eq, l1In_eq, ite_sf, Option.bind_some]
  simp

end Go.Proofs.Ytgohfbelppokcaa.Pure
