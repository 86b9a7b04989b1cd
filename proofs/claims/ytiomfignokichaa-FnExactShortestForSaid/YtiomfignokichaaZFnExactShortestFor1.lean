/- What the law FnExactShortestFor needs, part 5 of 5: what each function of the program that it reaches returns (printed by this session's own program, checked by Lean), and plain mathematics about it. Conditions: those of each theorem. -/
import Derived.Test.YtiomfignokichaaZFnExactShortestFor0
-- PureFnExactShortestFor
namespace Go.Proofs.Ytiomfignokichaa.Pure
open Go Go.RowKit Go.Proofs Go.Proofs.Ytiomfignokichaa.X Go.Proofs.YtiomfignokichaaW.PrintWords Go.Proofs.YtiomfignokichaaW.PrintLast
set_option linter.unusedVariables false
set_option linter.unusedSimpArgs false

theorem FnExactShortestFor : laws_FnExactShortestFor.Pure := by
  intro l a b c d col m hl _ _ _ _ _ _
  obtain ⟨k1, e1⟩ : ∃ k0, ∀ k, k0 ≤ k → (l.map toB).length ≤ 1048576 → spec_ShortestFor.f k (l.map toB) a b c d col m = some (shortM (l.map toB) a b c d col m) := by
    by_cases g : (l.map toB).length ≤ 1048576
    · obtain ⟨k0, hk⟩ := shortS_eq g a b c d col m
      exact ⟨k0, fun k h _ => hk k h⟩
    · exact ⟨0, fun k _ h => absurd h g⟩
  obtain ⟨k, hk, hk1⟩ : ∃ k, 2000000 < k ∧ k1 ≤ k := ⟨k1 + 2000001, by omega, by omega⟩
  refine ⟨k + 1, ?_⟩
  simp only [laws_FnExactShortestFor.f, szYarn_eq hl.1 (show (0 : Int) ≤ 1048576 ∧ (1048576 : Int) ≤ 9223372036854775807 by omega), Option.bind_some]
  by_cases hs : (1048576 : Int) < l.length
  · simp [hs]
  rw [if_neg hs, if_neg (by omega)]
  have h1 : l.length ≤ 1048576 := by omega
  have h2 : (l.map toB).length ≤ 1048576 := by rw [List.length_map]; exact h1
  simp only [toYarn_eq (k := k + 1) (l := l) (by omega) h1, Option.bind_some, e1 (k + 1) (by omega) h2, shortI_eq (k := k + 1) (l := l.map toB) (by omega) h2 a b c d col m, if_true, bne_self_eq_false, laws_FnExactShortestFor.j0, Bool.false_eq_true, if_false, toYarn_eq (k := k) (l := l) (by omega) h1, eqYarn_refl (k := k) (l := l.map toB) (by omega) (by omega)]

end Go.Proofs.Ytiomfignokichaa.Pure
