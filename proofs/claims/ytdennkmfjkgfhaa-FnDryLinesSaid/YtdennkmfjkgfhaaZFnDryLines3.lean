/- What the law FnDryLines needs, part 4 of 4: what each function of the program that it reaches returns (printed by this session's own program, checked by Lean), and plain mathematics about it. Conditions: those of each theorem. -/
import Derived.Test.YtdennkmfjkgfhaaZFnDryLines2
import Derived.Test.YtdennkmfjkgfhaaYG
import Derived.ProofKit
import Derived.WideShapes
-- XlawsFnDryLinesF13
namespace Go.Proofs.Ytdennkmfjkgfhaa.X
open Ho (bS eS)
open Go.RowKit Go.Proofs.YtdennkmfjkgfhaaW.PrintWords Go.Proofs.YtdennkmfjkgfhaaW.PrintLast Go.Proofs.YtdennkmfjkgfhaaW.PrintMore
attribute [local go_sem] max2_int min2_int max_two min_two max_three min_three max_four min_four   -- for this text's walks alone
set_option linter.unusedVariables false
set_option linter.unusedSimpArgs false

open Sq (I O Z)
attribute [local go_sem ↓] Ho.isSome_setCell_   -- a store leaves all places there
/-! ### laws_FnDryLines: function 13 -/
mutual
def laws_FnDryLines.j0 : Nat → List Int → List (S25) → Int → Int → List (S25) → List Int → Bool → Bool → Option (Bool)
  | 0, _, _, _, _, _, _, _, _ => none
  | k + 1, x0, x3, x4, x5, x6, x7, x8, x76 => if x76 = true then (some false) else (if x8 = true then (laws_FnDryLines.j1 k x0 x3 x4 x5 x6 x7 (decide (x5 > 0))) else (laws_FnDryLines.j1 k x0 x3 x4 x5 x6 x7 false))
def laws_FnDryLines.j1 : Nat → List Int → List (S25) → Int → Int → List (S25) → List Int → Bool → Option (Bool)
  | 0, _, _, _, _, _, _, _ => none
  | k + 1, x0, x3, x4, x5, x6, x7, x81 => if x81 = true then ((impl_DryCarpets.f k x3 x4 1).bind fun bt123 => ((impl_DryCarpets.f k bt123.1 x4 (wrap64 (x5 - 1))).bind fun bt130 => (if bt123.2.2 = true then (if bt130.2.2 = true then ((laws_rWet.f k bt130.1 x6).bind fun t137 => (if t137 = true then ((laws_rInts.f k bt130.2.1 x7).bind fun t138 => (if t138 = true then (laws_FnDryLines.j2 k x0) else (some false))) else (some false))) else (some false)) else (some false)))) else (laws_FnDryLines.j2 k x0)
def laws_FnDryLines.j2 : Nat → List Int → Option (Bool)
  | 0, _ => none
  | k + 1, x0 => (spec_DrawFewestSpins.f x0).bind fun bt139 => ((impl_FewestSpins.f k bt139.1 bt139.2.1 bt139.2.2.1 bt139.2.2.2.1 bt139.2.2.2.2.1 bt139.2.2.2.2.2).bind fun bt146 => ((spec_FewestSpins.f k bt139.1 bt139.2.1 bt139.2.2.1 bt139.2.2.2.1 bt139.2.2.2.2.1 bt139.2.2.2.2.2).bind fun bt148 => (if bt146.1 = bt148.1 then (laws_FnDryLines.j3 k x0 bt139.2.2.2.2.2 bt146.1 bt146.2 (bt146.2 != bt148.2) bt139.1 bt139.2.1 bt139.2.2.1 bt139.2.2.2.1 bt139.2.2.2.2.1) else (laws_FnDryLines.j3 k x0 bt139.2.2.2.2.2 bt146.1 bt146.2 true bt139.1 bt139.2.1 bt139.2.2.1 bt139.2.2.2.1 bt139.2.2.2.2.1))))
def laws_FnDryLines.j3 : Nat → List Int → Int → Int → Bool → Bool → Int → Int → Int → Int → Int → Option (Bool)
  | 0, _, _, _, _, _, _, _, _, _, _ => none
  | k + 1, x0, x19, x20, x21, x140, x146000, x146001, x146002, x146003, x146004 => if x140 = true then (some false) else (if x21 = true then (laws_FnDryLines.l0 k x0 x19 x20 x146003 0) else (laws_FnDryLines.j5 k x0))
def laws_FnDryLines.j5 : Nat → List Int → Option (Bool)
  | 0, _ => none
  | k + 1, x0 => (spec_DrawMostShear.f x0).bind fun bt150 => ((impl_MostShear.f k bt150.1 bt150.2.1 bt150.2.2.1 bt150.2.2.2.1 bt150.2.2.2.2).bind fun bt156 => ((spec_MostShear.f k bt150.1 bt150.2.1 bt150.2.2.1 bt150.2.2.2.1 bt150.2.2.2.2).bind fun bt158 => (if bt156.1 = bt158.1 then (laws_FnDryLines.j6 k x0 bt156.1 bt156.2 (bt156.2 != bt158.2) bt150.1 bt150.2.1 bt150.2.2.1 bt150.2.2.2.1 bt150.2.2.2.2) else (laws_FnDryLines.j6 k x0 bt156.1 bt156.2 true bt150.1 bt150.2.1 bt150.2.2.1 bt150.2.2.2.1 bt150.2.2.2.2))))
def laws_FnDryLines.j6 : Nat → List Int → Int → Bool → Bool → Int → Int → Int → Int → Int → Option (Bool)
  | 0, _, _, _, _, _, _, _, _, _ => none
  | k + 1, x0, x27, x28, x193, x156000, x156001, x156002, x156003, x156004 => if x193 = true then (some false) else (if x28 = true then ((impl_ShearCarpet.f k (([(⟨x156000, x156001, x156002, x156003, x156004⟩ : S25)] : List (S25))) x156000 x27).bind fun bt163 => ((impl_ShearCarpet.f k (([(⟨x156000, x156001, x156002, x156003, x156004⟩ : S25)] : List (S25))) x156000 (wrap64 (x27 + 1))).bind fun bt171 => (if (bt163.2.2 != (decide (x27 > 0))) = true then (laws_FnDryLines.j7 k x0 true) else (laws_FnDryLines.j7 k x0 bt171.2.2)))) else ((spec_DrawIsWetCarpet.f x0).bind fun bt184 => ((impl_IsWetCarpet.f bt184.1 bt184.2.1 bt184.2.2.1 bt184.2.2.2.1 bt184.2.2.2.2).bind fun t190 => ((spec_IsWetCarpet.f bt184.1 bt184.2.1 bt184.2.2.1 bt184.2.2.2.1 bt184.2.2.2.2).bind fun t191 => (some (t190 == t191))))))
def laws_FnDryLines.j7 : Nat → List Int → Bool → Option (Bool)
  | 0, _, _ => none
  | k + 1, x0, x222 => if x222 = true then (some false) else ((spec_DrawIsWetCarpet.f x0).bind fun bt176 => ((impl_IsWetCarpet.f bt176.1 bt176.2.1 bt176.2.2.1 bt176.2.2.2.1 bt176.2.2.2.2).bind fun t182 => ((spec_IsWetCarpet.f bt176.1 bt176.2.1 bt176.2.2.1 bt176.2.2.2.1 bt176.2.2.2.2).bind fun t183 => (some (t182 == t183)))))
def laws_FnDryLines.l0 : Nat → List Int → Int → Int → Int → Int → Option (Bool)
  | 0, _, _, _, _, _ => none
  | k + 1, x0, x19, x20, x24, x25 => if (wrap64 (x25 + 1)) < x20 then (laws_FnDryLines.l0 k x0 x19 x20 (wrap64 (Int.tdiv x24 2)) (wrap64 (x25 + 1))) else (if x20 > 0 then (if x24 ≤ x19 then (some false) else (if (wrap64 (Int.tdiv x24 2)) > x19 then (some false) else (if x20 = 0 then (if x24 > x19 then (some false) else (laws_FnDryLines.j5 k x0)) else (laws_FnDryLines.j5 k x0)))) else (if x20 = 0 then (if x24 > x19 then (some false) else (laws_FnDryLines.j5 k x0)) else (laws_FnDryLines.j5 k x0)))
end
def laws_FnDryLines.f (k : Nat) (l0 : List Int) : Option (Bool) := (laws_rBig.f l0).bind fun t101 => (if t101 = true then (some true) else ((spec_DrawDryCarpets.f k l0).bind fun bt102 => ((impl_DryCarpets.f k bt102.1 bt102.2.1 bt102.2.2).bind fun bt107 => ((spec_DryCarpets.f k bt102.1 bt102.2.1 bt102.2.2).bind fun bt114 => (if (bt107.2.2 != bt114.2.2) = true then (laws_FnDryLines.j0 k l0 bt102.1 bt102.2.1 bt102.2.2 bt107.1 bt107.2.1 bt107.2.2 true) else ((laws_rWet.f k bt107.1 bt114.1).bind fun t121 => (if t121 = true then ((laws_rInts.f k bt107.2.1 bt114.2.1).bind fun t122 => (laws_FnDryLines.j0 k l0 bt102.1 bt102.2.1 bt102.2.2 bt107.1 bt107.2.1 bt107.2.2 (!t122))) else (laws_FnDryLines.j0 k l0 bt102.1 bt102.2.1 bt102.2.2 bt107.1 bt107.2.1 bt107.2.2 true))))))))
theorem laws_FnDryLines.mono_l : ∀ k, (∀ y0 y1 y2 y3 y4 y5 y6 y7, LeO (laws_FnDryLines.j0 k y0 y1 y2 y3 y4 y5 y6 y7) (laws_FnDryLines.j0 (k + 1) y0 y1 y2 y3 y4 y5 y6 y7)) ∧ (∀ y0 y1 y2 y3 y4 y5 y6, LeO (laws_FnDryLines.j1 k y0 y1 y2 y3 y4 y5 y6) (laws_FnDryLines.j1 (k + 1) y0 y1 y2 y3 y4 y5 y6)) ∧ (∀ y0, LeO (laws_FnDryLines.j2 k y0) (laws_FnDryLines.j2 (k + 1) y0)) ∧ (∀ y0 y1 y2 y3 y4 y5 y6 y7 y8 y9, LeO (laws_FnDryLines.j3 k y0 y1 y2 y3 y4 y5 y6 y7 y8 y9) (laws_FnDryLines.j3 (k + 1) y0 y1 y2 y3 y4 y5 y6 y7 y8 y9)) ∧ (∀ y0, LeO (laws_FnDryLines.j5 k y0) (laws_FnDryLines.j5 (k + 1) y0)) ∧ (∀ y0 y1 y2 y3 y4 y5 y6 y7 y8, LeO (laws_FnDryLines.j6 k y0 y1 y2 y3 y4 y5 y6 y7 y8) (laws_FnDryLines.j6 (k + 1) y0 y1 y2 y3 y4 y5 y6 y7 y8)) ∧ (∀ y0 y1, LeO (laws_FnDryLines.j7 k y0 y1) (laws_FnDryLines.j7 (k + 1) y0 y1)) ∧ (∀ y0 y1 y2 y3 y4, LeO (laws_FnDryLines.l0 k y0 y1 y2 y3 y4) (laws_FnDryLines.l0 (k + 1) y0 y1 y2 y3 y4))
  | 0 => ⟨fun _ _ _ _ _ _ _ _ r h => by simp [laws_FnDryLines.j0] at h, fun _ _ _ _ _ _ _ r h => by simp [laws_FnDryLines.j1] at h, fun _ r h => by simp [laws_FnDryLines.j2] at h, fun _ _ _ _ _ _ _ _ _ _ r h => by simp [laws_FnDryLines.j3] at h, fun _ r h => by simp [laws_FnDryLines.j5] at h, fun _ _ _ _ _ _ _ _ _ r h => by simp [laws_FnDryLines.j6] at h, fun _ _ r h => by simp [laws_FnDryLines.j7] at h, fun _ _ _ _ _ r h => by simp [laws_FnDryLines.l0] at h⟩
  | k + 1 => by
    obtain ⟨ih0, ih1, ih2, ih3, ih4, ih5, ih6, ih7⟩ := laws_FnDryLines.mono_l k
    refine ⟨?_, ?_, ?_, ?_, ?_, ?_, ?_, ?_⟩
    · intro y0 y1 y2 y3 y4 y5 y6 y7
      unfold laws_FnDryLines.j0
      repeat' first
      | (with_reducible exact ih0 _ _ _ _ _ _ _ _)
      | (with_reducible exact ih1 _ _ _ _ _ _ _)
      | (with_reducible exact ih2 _)
      | (with_reducible exact ih3 _ _ _ _ _ _ _ _ _ _)
      | (with_reducible exact ih4 _)
      | (with_reducible exact ih5 _ _ _ _ _ _ _ _ _)
      | (with_reducible exact ih6 _ _)
      | (with_reducible exact ih7 _ _ _ _ _)
      | (with_reducible exact impl_DryCarpets.mono _ _ _ _)
      | (with_reducible exact impl_FewestSpins.mono _ _ _ _ _ _ _)
      | (with_reducible exact impl_MostShear.mono _ _ _ _ _ _)
      | (with_reducible exact impl_ShearCarpet.mono _ _ _ _)
      | (with_reducible exact laws_rInts.mono _ _ _)
      | (with_reducible exact laws_rWet.mono _ _ _)
      | (with_reducible exact spec_DrawDryCarpets.mono _ _)
      | (with_reducible exact spec_DryCarpets.mono _ _ _ _)
      | (with_reducible exact spec_FewestSpins.mono _ _ _ _ _ _ _)
      | (with_reducible exact spec_MostShear.mono _ _ _ _ _ _)
      | (with_reducible exact LeO.refl _)
      | (with_reducible exact LeO.none _)
      | (with_reducible refine LeO.ite ?_ ?_)
      | (with_reducible refine LeO.bind ?_ (fun _ => ?_))
      | exact ih0 _ _ _ _ _ _ _ _
      | exact ih1 _ _ _ _ _ _ _
      | exact ih2 _
      | exact ih3 _ _ _ _ _ _ _ _ _ _
      | exact ih4 _
      | exact ih5 _ _ _ _ _ _ _ _ _
      | exact ih6 _ _
      | exact ih7 _ _ _ _ _
      | exact impl_DryCarpets.mono _ _ _ _
      | exact impl_FewestSpins.mono _ _ _ _ _ _ _
      | exact impl_MostShear.mono _ _ _ _ _ _
      | exact impl_ShearCarpet.mono _ _ _ _
      | exact laws_rInts.mono _ _ _
      | exact laws_rWet.mono _ _ _
      | exact spec_DrawDryCarpets.mono _ _
      | exact spec_DryCarpets.mono _ _ _ _
      | exact spec_FewestSpins.mono _ _ _ _ _ _ _
      | exact spec_MostShear.mono _ _ _ _ _ _
      | exact LeO.none _
      | refine LeO.ite ?_ ?_
      | refine LeO.bind ?_ (fun _ => ?_)
    · intro y0 y1 y2 y3 y4 y5 y6
      unfold laws_FnDryLines.j1
      repeat' first
      | (with_reducible exact ih0 _ _ _ _ _ _ _ _)
      | (with_reducible exact ih1 _ _ _ _ _ _ _)
      | (with_reducible exact ih2 _)
      | (with_reducible exact ih3 _ _ _ _ _ _ _ _ _ _)
      | (with_reducible exact ih4 _)
      | (with_reducible exact ih5 _ _ _ _ _ _ _ _ _)
      | (with_reducible exact ih6 _ _)
      | (with_reducible exact ih7 _ _ _ _ _)
      | (with_reducible exact impl_DryCarpets.mono _ _ _ _)
      | (with_reducible exact impl_FewestSpins.mono _ _ _ _ _ _ _)
      | (with_reducible exact impl_MostShear.mono _ _ _ _ _ _)
      | (with_reducible exact impl_ShearCarpet.mono _ _ _ _)
      | (with_reducible exact laws_rInts.mono _ _ _)
      | (with_reducible exact laws_rWet.mono _ _ _)
      | (with_reducible exact spec_DrawDryCarpets.mono _ _)
      | (with_reducible exact spec_DryCarpets.mono _ _ _ _)
      | (with_reducible exact spec_FewestSpins.mono _ _ _ _ _ _ _)
      | (with_reducible exact spec_MostShear.mono _ _ _ _ _ _)
      | (with_reducible exact LeO.refl _)
      | (with_reducible exact LeO.none _)
      | (with_reducible refine LeO.ite ?_ ?_)
      | (with_reducible refine LeO.bind ?_ (fun _ => ?_))
      | exact ih0 _ _ _ _ _ _ _ _
      | exact ih1 _ _ _ _ _ _ _
      | exact ih2 _
      | exact ih3 _ _ _ _ _ _ _ _ _ _
      | exact ih4 _
      | exact ih5 _ _ _ _ _ _ _ _ _
      | exact ih6 _ _
      | exact ih7 _ _ _ _ _
      | exact impl_DryCarpets.mono _ _ _ _
      | exact impl_FewestSpins.mono _ _ _ _ _ _ _
      | exact impl_MostShear.mono _ _ _ _ _ _
      | exact impl_ShearCarpet.mono _ _ _ _
      | exact laws_rInts.mono _ _ _
      | exact laws_rWet.mono _ _ _
      | exact spec_DrawDryCarpets.mono _ _
      | exact spec_DryCarpets.mono _ _ _ _
      | exact spec_FewestSpins.mono _ _ _ _ _ _ _
      | exact spec_MostShear.mono _ _ _ _ _ _
      | exact LeO.none _
      | refine LeO.ite ?_ ?_
      | refine LeO.bind ?_ (fun _ => ?_)
    · intro y0
      unfold laws_FnDryLines.j2
      repeat' first
      | (with_reducible exact ih0 _ _ _ _ _ _ _ _)
      | (with_reducible exact ih1 _ _ _ _ _ _ _)
      | (with_reducible exact ih2 _)
      | (with_reducible exact ih3 _ _ _ _ _ _ _ _ _ _)
      | (with_reducible exact ih4 _)
      | (with_reducible exact ih5 _ _ _ _ _ _ _ _ _)
      | (with_reducible exact ih6 _ _)
      | (with_reducible exact ih7 _ _ _ _ _)
      | (with_reducible exact impl_DryCarpets.mono _ _ _ _)
      | (with_reducible exact impl_FewestSpins.mono _ _ _ _ _ _ _)
      | (with_reducible exact impl_MostShear.mono _ _ _ _ _ _)
      | (with_reducible exact impl_ShearCarpet.mono _ _ _ _)
      | (with_reducible exact laws_rInts.mono _ _ _)
      | (with_reducible exact laws_rWet.mono _ _ _)
      | (with_reducible exact spec_DrawDryCarpets.mono _ _)
      | (with_reducible exact spec_DryCarpets.mono _ _ _ _)
      | (with_reducible exact spec_FewestSpins.mono _ _ _ _ _ _ _)
      | (with_reducible exact spec_MostShear.mono _ _ _ _ _ _)
      | (with_reducible exact LeO.refl _)
      | (with_reducible exact LeO.none _)
      | (with_reducible refine LeO.ite ?_ ?_)
      | (with_reducible refine LeO.bind ?_ (fun _ => ?_))
      | exact ih0 _ _ _ _ _ _ _ _
      | exact ih1 _ _ _ _ _ _ _
      | exact ih2 _
      | exact ih3 _ _ _ _ _ _ _ _ _ _
      | exact ih4 _
      | exact ih5 _ _ _ _ _ _ _ _ _
      | exact ih6 _ _
      | exact ih7 _ _ _ _ _
      | exact impl_DryCarpets.mono _ _ _ _
      | exact impl_FewestSpins.mono _ _ _ _ _ _ _
      | exact impl_MostShear.mono _ _ _ _ _ _
      | exact impl_ShearCarpet.mono _ _ _ _
      | exact laws_rInts.mono _ _ _
      | exact laws_rWet.mono _ _ _
      | exact spec_DrawDryCarpets.mono _ _
      | exact spec_DryCarpets.mono _ _ _ _
      | exact spec_FewestSpins.mono _ _ _ _ _ _ _
      | exact spec_MostShear.mono _ _ _ _ _ _
      | exact LeO.none _
      | refine LeO.ite ?_ ?_
      | refine LeO.bind ?_ (fun _ => ?_)
    · intro y0 y1 y2 y3 y4 y5 y6 y7 y8 y9
      unfold laws_FnDryLines.j3
      repeat' first
      | (with_reducible exact ih0 _ _ _ _ _ _ _ _)
      | (with_reducible exact ih1 _ _ _ _ _ _ _)
      | (with_reducible exact ih2 _)
      | (with_reducible exact ih3 _ _ _ _ _ _ _ _ _ _)
      | (with_reducible exact ih4 _)
      | (with_reducible exact ih5 _ _ _ _ _ _ _ _ _)
      | (with_reducible exact ih6 _ _)
      | (with_reducible exact ih7 _ _ _ _ _)
      | (with_reducible exact impl_DryCarpets.mono _ _ _ _)
      | (with_reducible exact impl_FewestSpins.mono _ _ _ _ _ _ _)
      | (with_reducible exact impl_MostShear.mono _ _ _ _ _ _)
      | (with_reducible exact impl_ShearCarpet.mono _ _ _ _)
      | (with_reducible exact laws_rInts.mono _ _ _)
      | (with_reducible exact laws_rWet.mono _ _ _)
      | (with_reducible exact spec_DrawDryCarpets.mono _ _)
      | (with_reducible exact spec_DryCarpets.mono _ _ _ _)
      | (with_reducible exact spec_FewestSpins.mono _ _ _ _ _ _ _)
      | (with_reducible exact spec_MostShear.mono _ _ _ _ _ _)
      | (with_reducible exact LeO.refl _)
      | (with_reducible exact LeO.none _)
      | (with_reducible refine LeO.ite ?_ ?_)
      | (with_reducible refine LeO.bind ?_ (fun _ => ?_))
      | exact ih0 _ _ _ _ _ _ _ _
      | exact ih1 _ _ _ _ _ _ _
      | exact ih2 _
      | exact ih3 _ _ _ _ _ _ _ _ _ _
      | exact ih4 _
      | exact ih5 _ _ _ _ _ _ _ _ _
      | exact ih6 _ _
      | exact ih7 _ _ _ _ _
      | exact impl_DryCarpets.mono _ _ _ _
      | exact impl_FewestSpins.mono _ _ _ _ _ _ _
      | exact impl_MostShear.mono _ _ _ _ _ _
      | exact impl_ShearCarpet.mono _ _ _ _
      | exact laws_rInts.mono _ _ _
      | exact laws_rWet.mono _ _ _
      | exact spec_DrawDryCarpets.mono _ _
      | exact spec_DryCarpets.mono _ _ _ _
      | exact spec_FewestSpins.mono _ _ _ _ _ _ _
      | exact spec_MostShear.mono _ _ _ _ _ _
      | exact LeO.none _
      | refine LeO.ite ?_ ?_
      | refine LeO.bind ?_ (fun _ => ?_)
    · intro y0
      unfold laws_FnDryLines.j5
      repeat' first
      | (with_reducible exact ih0 _ _ _ _ _ _ _ _)
      | (with_reducible exact ih1 _ _ _ _ _ _ _)
      | (with_reducible exact ih2 _)
      | (with_reducible exact ih3 _ _ _ _ _ _ _ _ _ _)
      | (with_reducible exact ih4 _)
      | (with_reducible exact ih5 _ _ _ _ _ _ _ _ _)
      | (with_reducible exact ih6 _ _)
      | (with_reducible exact ih7 _ _ _ _ _)
      | (with_reducible exact impl_DryCarpets.mono _ _ _ _)
      | (with_reducible exact impl_FewestSpins.mono _ _ _ _ _ _ _)
      | (with_reducible exact impl_MostShear.mono _ _ _ _ _ _)
      | (with_reducible exact impl_ShearCarpet.mono _ _ _ _)
      | (with_reducible exact laws_rInts.mono _ _ _)
      | (with_reducible exact laws_rWet.mono _ _ _)
      | (with_reducible exact spec_DrawDryCarpets.mono _ _)
      | (with_reducible exact spec_DryCarpets.mono _ _ _ _)
      | (with_reducible exact spec_FewestSpins.mono _ _ _ _ _ _ _)
      | (with_reducible exact spec_MostShear.mono _ _ _ _ _ _)
      | (with_reducible exact LeO.refl _)
      | (with_reducible exact LeO.none _)
      | (with_reducible refine LeO.ite ?_ ?_)
      | (with_reducible refine LeO.bind ?_ (fun _ => ?_))
      | exact ih0 _ _ _ _ _ _ _ _
      | exact ih1 _ _ _ _ _ _ _
      | exact ih2 _
      | exact ih3 _ _ _ _ _ _ _ _ _ _
      | exact ih4 _
      | exact ih5 _ _ _ _ _ _ _ _ _
      | exact ih6 _ _
      | exact ih7 _ _ _ _ _
      | exact impl_DryCarpets.mono _ _ _ _
      | exact impl_FewestSpins.mono _ _ _ _ _ _ _
      | exact impl_MostShear.mono _ _ _ _ _ _
      | exact impl_ShearCarpet.mono _ _ _ _
      | exact laws_rInts.mono _ _ _
      | exact laws_rWet.mono _ _ _
      | exact spec_DrawDryCarpets.mono _ _
      | exact spec_DryCarpets.mono _ _ _ _
      | exact spec_FewestSpins.mono _ _ _ _ _ _ _
      | exact spec_MostShear.mono _ _ _ _ _ _
      | exact LeO.none _
      | refine LeO.ite ?_ ?_
      | refine LeO.bind ?_ (fun _ => ?_)
    · intro y0 y1 y2 y3 y4 y5 y6 y7 y8
      unfold laws_FnDryLines.j6
      repeat' first
      | (with_reducible exact ih0 _ _ _ _ _ _ _ _)
      | (with_reducible exact ih1 _ _ _ _ _ _ _)
      | (with_reducible exact ih2 _)
      | (with_reducible exact ih3 _ _ _ _ _ _ _ _ _ _)
      | (with_reducible exact ih4 _)
      | (with_reducible exact ih5 _ _ _ _ _ _ _ _ _)
      | (with_reducible exact ih6 _ _)
      | (with_reducible exact ih7 _ _ _ _ _)
      | (with_reducible exact impl_DryCarpets.mono _ _ _ _)
      | (with_reducible exact impl_FewestSpins.mono _ _ _ _ _ _ _)
      | (with_reducible exact impl_MostShear.mono _ _ _ _ _ _)
      | (with_reducible exact impl_ShearCarpet.mono _ _ _ _)
      | (with_reducible exact laws_rInts.mono _ _ _)
      | (with_reducible exact laws_rWet.mono _ _ _)
      | (with_reducible exact spec_DrawDryCarpets.mono _ _)
      | (with_reducible exact spec_DryCarpets.mono _ _ _ _)
      | (with_reducible exact spec_FewestSpins.mono _ _ _ _ _ _ _)
      | (with_reducible exact spec_MostShear.mono _ _ _ _ _ _)
      | (with_reducible exact LeO.refl _)
      | (with_reducible exact LeO.none _)
      | (with_reducible refine LeO.ite ?_ ?_)
      | (with_reducible refine LeO.bind ?_ (fun _ => ?_))
      | exact ih0 _ _ _ _ _ _ _ _
      | exact ih1 _ _ _ _ _ _ _
      | exact ih2 _
      | exact ih3 _ _ _ _ _ _ _ _ _ _
      | exact ih4 _
      | exact ih5 _ _ _ _ _ _ _ _ _
      | exact ih6 _ _
      | exact ih7 _ _ _ _ _
      | exact impl_DryCarpets.mono _ _ _ _
      | exact impl_FewestSpins.mono _ _ _ _ _ _ _
      | exact impl_MostShear.mono _ _ _ _ _ _
      | exact impl_ShearCarpet.mono _ _ _ _
      | exact laws_rInts.mono _ _ _
      | exact laws_rWet.mono _ _ _
      | exact spec_DrawDryCarpets.mono _ _
      | exact spec_DryCarpets.mono _ _ _ _
      | exact spec_FewestSpins.mono _ _ _ _ _ _ _
      | exact spec_MostShear.mono _ _ _ _ _ _
      | exact LeO.none _
      | refine LeO.ite ?_ ?_
      | refine LeO.bind ?_ (fun _ => ?_)
    · intro y0 y1
      unfold laws_FnDryLines.j7
      repeat' first
      | (with_reducible exact ih0 _ _ _ _ _ _ _ _)
      | (with_reducible exact ih1 _ _ _ _ _ _ _)
      | (with_reducible exact ih2 _)
      | (with_reducible exact ih3 _ _ _ _ _ _ _ _ _ _)
      | (with_reducible exact ih4 _)
      | (with_reducible exact ih5 _ _ _ _ _ _ _ _ _)
      | (with_reducible exact ih6 _ _)
      | (with_reducible exact ih7 _ _ _ _ _)
      | (with_reducible exact impl_DryCarpets.mono _ _ _ _)
      | (with_reducible exact impl_FewestSpins.mono _ _ _ _ _ _ _)
      | (with_reducible exact impl_MostShear.mono _ _ _ _ _ _)
      | (with_reducible exact impl_ShearCarpet.mono _ _ _ _)
      | (with_reducible exact laws_rInts.mono _ _ _)
      | (with_reducible exact laws_rWet.mono _ _ _)
      | (with_reducible exact spec_DrawDryCarpets.mono _ _)
      | (with_reducible exact spec_DryCarpets.mono _ _ _ _)
      | (with_reducible exact spec_FewestSpins.mono _ _ _ _ _ _ _)
      | (with_reducible exact spec_MostShear.mono _ _ _ _ _ _)
      | (with_reducible exact LeO.refl _)
      | (with_reducible exact LeO.none _)
      | (with_reducible refine LeO.ite ?_ ?_)
      | (with_reducible refine LeO.bind ?_ (fun _ => ?_))
      | exact ih0 _ _ _ _ _ _ _ _
      | exact ih1 _ _ _ _ _ _ _
      | exact ih2 _
      | exact ih3 _ _ _ _ _ _ _ _ _ _
      | exact ih4 _
      | exact ih5 _ _ _ _ _ _ _ _ _
      | exact ih6 _ _
      | exact ih7 _ _ _ _ _
      | exact impl_DryCarpets.mono _ _ _ _
      | exact impl_FewestSpins.mono _ _ _ _ _ _ _
      | exact impl_MostShear.mono _ _ _ _ _ _
      | exact impl_ShearCarpet.mono _ _ _ _
      | exact laws_rInts.mono _ _ _
      | exact laws_rWet.mono _ _ _
      | exact spec_DrawDryCarpets.mono _ _
      | exact spec_DryCarpets.mono _ _ _ _
      | exact spec_FewestSpins.mono _ _ _ _ _ _ _
      | exact spec_MostShear.mono _ _ _ _ _ _
      | exact LeO.none _
      | refine LeO.ite ?_ ?_
      | refine LeO.bind ?_ (fun _ => ?_)
    · intro y0 y1 y2 y3 y4
      unfold laws_FnDryLines.l0
      repeat' first
      | (with_reducible exact ih0 _ _ _ _ _ _ _ _)
      | (with_reducible exact ih1 _ _ _ _ _ _ _)
      | (with_reducible exact ih2 _)
      | (with_reducible exact ih3 _ _ _ _ _ _ _ _ _ _)
      | (with_reducible exact ih4 _)
      | (with_reducible exact ih5 _ _ _ _ _ _ _ _ _)
      | (with_reducible exact ih6 _ _)
      | (with_reducible exact ih7 _ _ _ _ _)
      | (with_reducible exact impl_DryCarpets.mono _ _ _ _)
      | (with_reducible exact impl_FewestSpins.mono _ _ _ _ _ _ _)
      | (with_reducible exact impl_MostShear.mono _ _ _ _ _ _)
      | (with_reducible exact impl_ShearCarpet.mono _ _ _ _)
      | (with_reducible exact laws_rInts.mono _ _ _)
      | (with_reducible exact laws_rWet.mono _ _ _)
      | (with_reducible exact spec_DrawDryCarpets.mono _ _)
      | (with_reducible exact spec_DryCarpets.mono _ _ _ _)
      | (with_reducible exact spec_FewestSpins.mono _ _ _ _ _ _ _)
      | (with_reducible exact spec_MostShear.mono _ _ _ _ _ _)
      | (with_reducible exact LeO.refl _)
      | (with_reducible exact LeO.none _)
      | (with_reducible refine LeO.ite ?_ ?_)
      | (with_reducible refine LeO.bind ?_ (fun _ => ?_))
      | exact ih0 _ _ _ _ _ _ _ _
      | exact ih1 _ _ _ _ _ _ _
      | exact ih2 _
      | exact ih3 _ _ _ _ _ _ _ _ _ _
      | exact ih4 _
      | exact ih5 _ _ _ _ _ _ _ _ _
      | exact ih6 _ _
      | exact ih7 _ _ _ _ _
      | exact impl_DryCarpets.mono _ _ _ _
      | exact impl_FewestSpins.mono _ _ _ _ _ _ _
      | exact impl_MostShear.mono _ _ _ _ _ _
      | exact impl_ShearCarpet.mono _ _ _ _
      | exact laws_rInts.mono _ _ _
      | exact laws_rWet.mono _ _ _
      | exact spec_DrawDryCarpets.mono _ _
      | exact spec_DryCarpets.mono _ _ _ _
      | exact spec_FewestSpins.mono _ _ _ _ _ _ _
      | exact spec_MostShear.mono _ _ _ _ _ _
      | exact LeO.none _
      | refine LeO.ite ?_ ?_
      | refine LeO.bind ?_ (fun _ => ?_)
theorem laws_FnDryLines.mono : ∀ a0 k, LeO (laws_FnDryLines.f k a0) (laws_FnDryLines.f (k + 1) a0) := by
  intro a0 k
  obtain ⟨ih0, ih1, ih2, ih3, ih4, ih5, ih6, ih7⟩ := laws_FnDryLines.mono_l k
  unfold laws_FnDryLines.f
  repeat' first
      | (with_reducible exact ih0 _ _ _ _ _ _ _ _)
      | (with_reducible exact ih1 _ _ _ _ _ _ _)
      | (with_reducible exact ih2 _)
      | (with_reducible exact ih3 _ _ _ _ _ _ _ _ _ _)
      | (with_reducible exact ih4 _)
      | (with_reducible exact ih5 _ _ _ _ _ _ _ _ _)
      | (with_reducible exact ih6 _ _)
      | (with_reducible exact ih7 _ _ _ _ _)
      | (with_reducible exact impl_DryCarpets.mono _ _ _ _)
      | (with_reducible exact impl_FewestSpins.mono _ _ _ _ _ _ _)
      | (with_reducible exact impl_MostShear.mono _ _ _ _ _ _)
      | (with_reducible exact impl_ShearCarpet.mono _ _ _ _)
      | (with_reducible exact laws_rInts.mono _ _ _)
      | (with_reducible exact laws_rWet.mono _ _ _)
      | (with_reducible exact spec_DrawDryCarpets.mono _ _)
      | (with_reducible exact spec_DryCarpets.mono _ _ _ _)
      | (with_reducible exact spec_FewestSpins.mono _ _ _ _ _ _ _)
      | (with_reducible exact spec_MostShear.mono _ _ _ _ _ _)
      | (with_reducible exact LeO.refl _)
      | (with_reducible exact LeO.none _)
      | (with_reducible refine LeO.ite ?_ ?_)
      | (with_reducible refine LeO.bind ?_ (fun _ => ?_))
      | exact ih0 _ _ _ _ _ _ _ _
      | exact ih1 _ _ _ _ _ _ _
      | exact ih2 _
      | exact ih3 _ _ _ _ _ _ _ _ _ _
      | exact ih4 _
      | exact ih5 _ _ _ _ _ _ _ _ _
      | exact ih6 _ _
      | exact ih7 _ _ _ _ _
      | exact impl_DryCarpets.mono _ _ _ _
      | exact impl_FewestSpins.mono _ _ _ _ _ _ _
      | exact impl_MostShear.mono _ _ _ _ _ _
      | exact impl_ShearCarpet.mono _ _ _ _
      | exact laws_rInts.mono _ _ _
      | exact laws_rWet.mono _ _ _
      | exact spec_DrawDryCarpets.mono _ _
      | exact spec_DryCarpets.mono _ _ _ _
      | exact spec_FewestSpins.mono _ _ _ _ _ _ _
      | exact spec_MostShear.mono _ _ _ _ _ _
      | exact LeO.none _
      | refine LeO.ite ?_ ?_
      | refine LeO.bind ?_ (fun _ => ?_)
set_option maxHeartbeats 8000000 in
set_option maxRecDepth 100000 in
theorem laws_FnDryLines.calls (k : Nat) (A0 : Option Addr) (c0 : Nat) (l0 : List Int) (r : Bool) (w : World) (hr0 : Kd.C (Kd.int .u8) w A0 l0.length l0) (hc0 : l0.length ≤ c0) (ht : r = true) (h : laws_FnDryLines.f k l0 = some r) :
  Calls Try.prog 13 #[.slice A0 l0.length c0] w fun e w' => e = .returned (.bool r) ∧ Below w.heap.size w w' := by
 have hu25 := Try.underlying25
 have HR0 := Aside0.mk hr0
 have HC0 := Aside0.mk hc0
 clear hr0 hc0
 have HB := Aside0.mk (Below.refl w.heap.size w)
 have HT := Aside0.mk ht
 clear ht
 have H : ((laws_rBig.f l0).bind fun t101 => (if t101 = true then (some true) else ((spec_DrawDryCarpets.f k l0).bind fun bt102 => ((impl_DryCarpets.f k bt102.1 bt102.2.1 bt102.2.2).bind fun bt107 => ((spec_DryCarpets.f k bt102.1 bt102.2.1 bt102.2.2).bind fun bt114 => (if (bt107.2.2 != bt114.2.2) = true then (laws_FnDryLines.j0 k l0 bt102.1 bt102.2.1 bt102.2.2 bt107.1 bt107.2.1 bt107.2.2 true) else ((laws_rWet.f k bt107.1 bt114.1).bind fun t121 => (if t121 = true then ((laws_rInts.f k bt107.2.1 bt114.2.1).bind fun t122 => (laws_FnDryLines.j0 k l0 bt102.1 bt102.2.1 bt102.2.2 bt107.1 bt107.2.1 bt107.2.2 (!t122))) else (laws_FnDryLines.j0 k l0 bt102.1 bt102.2.1 bt102.2.2 bt107.1 bt107.2.1 bt107.2.2 true))))))))) = some r := h
 clear h
 replace H := Option.bind_eq_some_iff.mp H
 obtain ⟨t101, A20, H⟩ := H
 replace H : (if t101 = true then (some true) else ((spec_DrawDryCarpets.f k l0).bind fun bt102 => ((impl_DryCarpets.f k bt102.1 bt102.2.1 bt102.2.2).bind fun bt107 => ((spec_DryCarpets.f k bt102.1 bt102.2.1 bt102.2.2).bind fun bt114 => (if (bt107.2.2 != bt114.2.2) = true then (laws_FnDryLines.j0 k l0 bt102.1 bt102.2.1 bt102.2.2 bt107.1 bt107.2.1 bt107.2.2 true) else ((laws_rWet.f k bt107.1 bt114.1).bind fun t121 => (if t121 = true then ((laws_rInts.f k bt107.2.1 bt114.2.1).bind fun t122 => (laws_FnDryLines.j0 k l0 bt102.1 bt102.2.1 bt102.2.2 bt107.1 bt107.2.1 bt107.2.2 (!t122))) else (laws_FnDryLines.j0 k l0 bt102.1 bt102.2.1 bt102.2.2 bt107.1 bt107.2.1 bt107.2.2 true)))))))) = some r := H
 have A2 := Aside0.mk A20
 clear A20
 by_cases c3 : t101 = true
 ·subst c3
  have H1 : (some true) = some r := by rw [if_pos rfl] at H; exact H
  clear H
  have H := H1
  clear H1
  as_aux_lemma =>
   obtain rfl := Option.some.inj H
   go_enter Try.func13, Try.ntmps13
   go_wp2_with (first | ((with_reducible refine gate_callee (f := 44) rfl ?_); refine goesL_ (some 39) rfl rfl Try.func44 (by kernel_rfl) rfl #[.slice A0 l0.length c0] rfl (by (try simp only [List.map_toArray, List.map_cons, List.map_nil]); first | done | rfl | (simp only [List.length_drop, List.length_take]; rfl)) ?_; (with_reducible refine (laws_rBig.calls _ _ l0 true _ ?side1 ?side2 A2.out).mono ?_); (case side1 => repeat (first | exact HR0.out | (with_reducible refine Kd.C_alloc ?_ _) | (with_reducible refine Kd.C_drewN ?_ _) | (with_reducible refine Kd.C_drew ?_))); (case side2 => exact HC0.out); rintro e w' ⟨rfl, ⟨nd, rfl⟩⟩; refine ⟨_, rfl, ?_⟩))
   go_ret
   exact ⟨by first | rfl | (simp [errW_none, errW_some] <;> rfl) | (simp [*, errW_none, errW_some] <;> rfl), by exact eS HB.out⟩
 ·replace c3 := Bool.eq_false_iff.mpr c3
  subst c3
  have H1 : ((spec_DrawDryCarpets.f k l0).bind fun bt102 => ((impl_DryCarpets.f k bt102.1 bt102.2.1 bt102.2.2).bind fun bt107 => ((spec_DryCarpets.f k bt102.1 bt102.2.1 bt102.2.2).bind fun bt114 => (if (bt107.2.2 != bt114.2.2) = true then (laws_FnDryLines.j0 k l0 bt102.1 bt102.2.1 bt102.2.2 bt107.1 bt107.2.1 bt107.2.2 true) else ((laws_rWet.f k bt107.1 bt114.1).bind fun t121 => (if t121 = true then ((laws_rInts.f k bt107.2.1 bt114.2.1).bind fun t122 => (laws_FnDryLines.j0 k l0 bt102.1 bt102.2.1 bt102.2.2 bt107.1 bt107.2.1 bt107.2.2 (!t122))) else (laws_FnDryLines.j0 k l0 bt102.1 bt102.2.1 bt102.2.2 bt107.1 bt107.2.1 bt107.2.2 true))))))) = some r := by rw [if_neg (show ¬ (false = true) by decide)] at H; exact H
  clear H
  have H := H1
  clear H1
  replace H := Option.bind_eq_some_iff.mp H
  obtain ⟨⟨t102, t103, t104⟩, A40, H⟩ := H
  replace H : ((impl_DryCarpets.f k t102 t103 t104).bind fun bt107 => ((spec_DryCarpets.f k t102 t103 t104).bind fun bt114 => (if (bt107.2.2 != bt114.2.2) = true then (laws_FnDryLines.j0 k l0 t102 t103 t104 bt107.1 bt107.2.1 bt107.2.2 true) else ((laws_rWet.f k bt107.1 bt114.1).bind fun t121 => (if t121 = true then ((laws_rInts.f k bt107.2.1 bt114.2.1).bind fun t122 => (laws_FnDryLines.j0 k l0 t102 t103 t104 bt107.1 bt107.2.1 bt107.2.2 (!t122))) else (laws_FnDryLines.j0 k l0 t102 t103 t104 bt107.1 bt107.2.1 bt107.2.2 true)))))) = some r := H
  have A4 := Aside0.mk A40
  clear A40
  replace H := Option.bind_eq_some_iff.mp H
  obtain ⟨⟨t107, t108, t109⟩, A50, H⟩ := H
  replace H : ((spec_DryCarpets.f k t102 t103 t104).bind fun bt114 => (if (t109 != bt114.2.2) = true then (laws_FnDryLines.j0 k l0 t102 t103 t104 t107 t108 t109 true) else ((laws_rWet.f k t107 bt114.1).bind fun t121 => (if t121 = true then ((laws_rInts.f k t108 bt114.2.1).bind fun t122 => (laws_FnDryLines.j0 k l0 t102 t103 t104 t107 t108 t109 (!t122))) else (laws_FnDryLines.j0 k l0 t102 t103 t104 t107 t108 t109 true))))) = some r := H
  have A5 := Aside0.mk A50
  clear A50
  replace H := Option.bind_eq_some_iff.mp H
  obtain ⟨⟨t114, t115, t116⟩, A60, H⟩ := H
  replace H : (if (t109 != t116) = true then (laws_FnDryLines.j0 k l0 t102 t103 t104 t107 t108 t109 true) else ((laws_rWet.f k t107 t114).bind fun t121 => (if t121 = true then ((laws_rInts.f k t108 t115).bind fun t122 => (laws_FnDryLines.j0 k l0 t102 t103 t104 t107 t108 t109 (!t122))) else (laws_FnDryLines.j0 k l0 t102 t103 t104 t107 t108 t109 true)))) = some r := H
  have A6 := Aside0.mk A60
  clear A60
  have HC7 := Aside0.mk H
  clear H
  go_enter Try.func13, Try.ntmps13
  go_upto_region 6 with (first | ((with_reducible refine gate_callee (f := 44) rfl ?_); refine goesL_ (some 39) rfl rfl Try.func44 (by kernel_rfl) rfl #[.slice A0 l0.length c0] rfl (by (try simp only [List.map_toArray, List.map_cons, List.map_nil]); first | done | rfl | (simp only [List.length_drop, List.length_take]; rfl)) ?_; (with_reducible refine (laws_rBig.calls _ _ l0 false _ ?side1 ?side2 A2.out).mono ?_); (case side1 => repeat (first | exact HR0.out | (with_reducible refine Kd.C_alloc ?_ _) | (with_reducible refine Kd.C_drewN ?_ _) | (with_reducible refine Kd.C_drew ?_))); (case side2 => exact HC0.out); rintro e w' ⟨rfl, ⟨nd, rfl⟩⟩; refine ⟨_, rfl, ?_⟩) | ((with_reducible refine gate_callee (f := 45) rfl ?_); refine goesL_ (some 42) rfl rfl Try.func45 (by kernel_rfl) rfl #[.slice A0 l0.length c0] rfl (by (try simp only [List.map_toArray, List.map_cons, List.map_nil]); first | done | rfl | (simp only [List.length_drop, List.length_take]; rfl)) ?_; (with_reducible refine (spec_DrawDryCarpets.calls k _ _ l0 t102 t103 t104 _ ?side1 ?side2 A4.out).mono ?_); (case side1 => repeat (first | exact HR0.out | (with_reducible refine Kd.C_alloc ?_ _) | (with_reducible refine Kd.C_drewN ?_ _) | (with_reducible refine Kd.C_drew ?_))); (case side2 => exact HC0.out); rintro e w8 ⟨v105, rfl, ho0, hb⟩; refine ⟨_, rfl, ?_⟩; have n0_ := Aside0.mk (Kd.R_lower ho0 (below_size (by exact eS HB.out))); have n1_ := Aside0.mk (below_step (by exact eS HB.out) hb); clear HB; have HO106 := n0_; have HB := n1_; clear n0_ n1_; (try clear hb); (try clear hb2); (try clear hk); (try clear hi); (try clear ho0); obtain ⟨Ao9, co9, eo9⟩ := Kd.R_slice HO106.out; subst eo9) | ((with_reducible refine gate_callee (f := 40) rfl ?_); refine goesL_ (some 50) rfl rfl Try.func40 (by kernel_rfl) rfl #[.slice Ao9 t102.length co9, .int .i64 t103, .int .i64 t104] rfl (by (try simp only [List.map_toArray, List.map_cons, List.map_nil]); first | done | rfl | (simp only [List.length_drop, List.length_take]; rfl)) ?_; (with_reducible refine (impl_DryCarpets.calls k _ _ t102 t103 t104 t107 t108 t109 _ ?side1 ?side2 A5.out).mono ?_); (case side1 => repeat (first | exact (Kd.R_reads' HO106.out).2.2 | (with_reducible refine Kd.C_alloc ?_ _) | (with_reducible refine Kd.C_drewN ?_ _) | (with_reducible refine Kd.C_drew ?_))); (case side2 => exact (Kd.R_reads' HO106.out).2.1); rintro e w10 ⟨v110, v112, rfl, ho0, ho1, hb⟩; refine ⟨_, rfl, ?_⟩; have n0_ := Aside0.mk (Kd.R_elder' (by exact Ho.RS <| HO106.out) (Kd.R_base ho0) hb); have n1_ := Aside0.mk (Kd.R_lower (Kd.R_new' ho0 (Kd.R_lt (by exact Ho.RS <| HO106.out))) (below_size (by exact eS HB.out))); have n2_ := Aside0.mk (Kd.R_lower ho1 (below_size (by exact eS HB.out))); have n3_ := Aside0.mk (below_step (by exact eS HB.out) hb); clear HO106; clear HB; have HO106 := n0_; have HO111 := n1_; have HO113 := n2_; have HB := n3_; clear n0_ n1_ n2_ n3_; (try clear hb); (try clear hb2); (try clear hk); (try clear hi); (try clear ho0); (try clear ho1)) | ((with_reducible refine gate_callee (f := 39) rfl ?_); refine goesL_ (some 58) rfl rfl Try.func39 (by kernel_rfl) rfl #[.slice Ao9 t102.length co9, .int .i64 t103, .int .i64 t104] rfl (by (try simp only [List.map_toArray, List.map_cons, List.map_nil]); first | done | rfl | (simp only [List.length_drop, List.length_take]; rfl)) ?_; (with_reducible refine (spec_DryCarpets.calls k _ _ t102 t103 t104 t114 t115 t116 _ ?side1 ?side2 A6.out).mono ?_); (case side1 => repeat (first | exact (Kd.R_reads' HO106.out).2.2 | (with_reducible refine Kd.C_alloc ?_ _) | (with_reducible refine Kd.C_drewN ?_ _) | (with_reducible refine Kd.C_drew ?_))); (case side2 => exact (Kd.R_reads' HO106.out).2.1); rintro e w11 ⟨v117, v119, rfl, ho0, ho1, hb⟩; refine ⟨_, rfl, ?_⟩; have n0_ := Aside0.mk (Kd.R_elder' (by exact Ho.RS <| HO106.out) (Kd.R_base ho0) hb); have n1_ := Aside0.mk (Kd.R_elder' (by exact Ho.RS <| HO111.out) (Kd.R_base ho0) hb); have n2_ := Aside0.mk (Kd.R_elder' (by exact Ho.RS <| HO113.out) (Kd.R_base ho1) hb); have n3_ := Aside0.mk (Kd.R_lower (Kd.R_new' (Kd.R_new' ho0 (Kd.R_lt (by exact Ho.RS <| HO106.out))) (Kd.R_lt (by exact Ho.RS <| HO111.out))) (below_size (by exact eS HB.out))); have n4_ := Aside0.mk (Kd.R_lower (Kd.R_new' ho1 (Kd.R_lt (by exact Ho.RS <| HO113.out))) (below_size (by exact eS HB.out))); have n5_ := Aside0.mk (below_step (by exact eS HB.out) hb); clear HO106; clear HO111; clear HO113; clear HB; have HO106 := n0_; have HO111 := n1_; have HO113 := n2_; have HO118 := n3_; have HO120 := n4_; have HB := n5_; clear n0_ n1_ n2_ n3_ n4_ n5_; (try clear hb); (try clear hb2); (try clear hk); (try clear hi); (try clear ho0); (try clear ho1)))
  (try simp only [Act.put, List.setIfInBounds_toArray, List.set_cons_zero, List.set_cons_succ])
  go_cut [76] (fun v76 wc => ∃ (kq : Nat) (x76_6 : Bool), v76 = .bool x76_6 ∧ Aside0 (laws_FnDryLines.j0 kq l0 t102 t103 t104 t107 t108 t109 x76_6 = some r) ∧ Aside0 (kq ≤ k) ∧ Aside0 (Kd.R k25 25 wc w.heap.size (fun k_ => some k_ ≠ (v110 : Value).ownBlock) (.slice Ao9 t102.length co9) t102) ∧ Aside0 (Kd.R k25 25 wc w.heap.size (fun k_ => some k_ ≠ ((.slice Ao9 t102.length co9) : Value).ownBlock) v110 t107) ∧ Aside0 (Kd.R (Kd.int .i64) 3 wc w.heap.size (fun _ => True) v112 t108) ∧ Aside0 (Below w.heap.size w wc))
  case first =>
   have H := HC7.out
   clear HC7
   by_cases c12 : (t109 != t116) = true
   ·rw [if_pos c12] at H
    have c12b0 : (t109 != t116) = true := c12
    (try (have c12b1 : decide (t109 = t116) = false := by simpa using c12))
    (try (have c12b2 : (t109 == t116) = false := by simpa using c12))
    (try (have c12b3 : ¬ (t109 = t116) := by simpa using c12))
    clear c12
    (first | rw [c12b0] | (simp only [i64_w, i32_w]; rw [c12b0]) | skip)
    as_aux_lemma =>
     have H' := Aside0.mk H
     clear H
     go_wp2
     go_meet
     case rel => exact ⟨_, (true), (by first | rfl | (simp; done) | (simp [*]; done)), H', ⟨by first | omega | exact Nat.le_refl _⟩, ⟨by exact Ho.RS <| Kd.R_mono HO106.out (fun _ hk => hk.1.2)⟩, ⟨by exact Ho.RS <| Kd.R_mono HO111.out (fun _ hk => hk.1.2)⟩, ⟨by exact Ho.RS <| Kd.R_mono HO113.out (fun _ hk => trivial)⟩, ⟨by exact eS HB.out⟩⟩
   ·rw [if_neg c12] at H
    have c12b0 : (t109 != t116) = false := by simpa using c12
    (try (have c12b1 : decide (t109 = t116) = true := by simpa using c12))
    (try (have c12b2 : (t109 == t116) = true := by simpa using c12))
    clear c12
    (first | rw [c12b0] | (simp only [i64_w, i32_w]; rw [c12b0]) | skip)
    replace H := Option.bind_eq_some_iff.mp H
    obtain ⟨t121, A130, H⟩ := H
    replace H : (if t121 = true then ((laws_rInts.f k t108 t115).bind fun t122 => (laws_FnDryLines.j0 k l0 t102 t103 t104 t107 t108 t109 (!t122))) else (laws_FnDryLines.j0 k l0 t102 t103 t104 t107 t108 t109 true)) = some r := H
    have A13 := Aside0.mk A130
    clear A130
    by_cases c14 : t121 = true
    ·subst c14
     have H1 : ((laws_rInts.f k t108 t115).bind fun t122 => (laws_FnDryLines.j0 k l0 t102 t103 t104 t107 t108 t109 (!t122))) = some r := by rw [if_pos rfl] at H; exact H
     clear H
     have H := H1
     clear H1
     replace H := Option.bind_eq_some_iff.mp H
     obtain ⟨t122, A150, H⟩ := H
     replace H : (laws_FnDryLines.j0 k l0 t102 t103 t104 t107 t108 t109 (!t122)) = some r := H
     have A15 := Aside0.mk A150
     clear A150
     as_aux_lemma =>
      have H' := Aside0.mk H
      clear H
      obtain ⟨Ao16, co16, eo16⟩ := Kd.R_slice HO111.out
      subst eo16
      obtain ⟨Ao17, co17, eo17⟩ := Kd.R_slice HO118.out
      subst eo17
      go_wp2_with (first | (go_at_call 46; (with_reducible refine (laws_rWet.calls k _ _ t107 _ _ t114 true _ ?side1 ?side2 ?side3 ?side4 A13.out).mono ?_); (case side1 => repeat (first | exact (Kd.R_reads' HO111.out).2.2 | (with_reducible refine Kd.C_alloc ?_ _) | (with_reducible refine Kd.C_drewN ?_ _) | (with_reducible refine Kd.C_drew ?_))); (case side2 => exact (Kd.R_reads' HO111.out).2.1); (case side3 => repeat (first | exact (Kd.R_reads' HO118.out).2.2 | (with_reducible refine Kd.C_alloc ?_ _) | (with_reducible refine Kd.C_drewN ?_ _) | (with_reducible refine Kd.C_drew ?_))); (case side4 => exact (Kd.R_reads' HO118.out).2.1); rintro e w' ⟨rfl, ⟨nd, rfl⟩⟩; obtain ⟨Ao18, co18, eo18⟩ := Kd.R_slice HO113.out; subst eo18; obtain ⟨Ao19, co19, eo19⟩ := Kd.R_slice HO120.out; subst eo19) | (go_at_call 47; (with_reducible refine (laws_rInts.calls k _ _ t108 _ _ t115 t122 _ ?side1 ?side2 ?side3 ?side4 A15.out).mono ?_); (case side1 => repeat (first | exact (Kd.R_reads' HO113.out).2.2 | (with_reducible refine Kd.C_alloc ?_ _) | (with_reducible refine Kd.C_drewN ?_ _) | (with_reducible refine Kd.C_drew ?_))); (case side2 => exact (Kd.R_reads' HO113.out).2.1); (case side3 => repeat (first | exact (Kd.R_reads' HO120.out).2.2 | (with_reducible refine Kd.C_alloc ?_ _) | (with_reducible refine Kd.C_drewN ?_ _) | (with_reducible refine Kd.C_drew ?_))); (case side4 => exact (Kd.R_reads' HO120.out).2.1); rintro e w' ⟨rfl, ⟨nd, rfl⟩⟩))
      go_meet
      case rel => exact ⟨_, (!t122), (by first | rfl | (simp; done) | (simp [*]; done)), H', ⟨by first | omega | exact Nat.le_refl _⟩, ⟨by exact Ho.RS <| Kd.R_mono HO106.out (fun _ hk => hk.1.2)⟩, ⟨by exact Ho.RS <| Kd.R_mono HO111.out (fun _ hk => hk.1.2)⟩, ⟨by exact Ho.RS <| Kd.R_mono HO113.out (fun _ hk => trivial)⟩, ⟨by exact eS HB.out⟩⟩
    ·replace c14 := Bool.eq_false_iff.mpr c14
     subst c14
     have H1 : (laws_FnDryLines.j0 k l0 t102 t103 t104 t107 t108 t109 true) = some r := by rw [if_neg (show ¬ (false = true) by decide)] at H; exact H
     clear H
     have H := H1
     clear H1
     as_aux_lemma =>
      have H' := Aside0.mk H
      clear H
      obtain ⟨Ao20, co20, eo20⟩ := Kd.R_slice HO111.out
      subst eo20
      obtain ⟨Ao21, co21, eo21⟩ := Kd.R_slice HO118.out
      subst eo21
      go_wp2_with (first | (go_at_call 46; (with_reducible refine (laws_rWet.calls k _ _ t107 _ _ t114 false _ ?side1 ?side2 ?side3 ?side4 A13.out).mono ?_); (case side1 => repeat (first | exact (Kd.R_reads' HO111.out).2.2 | (with_reducible refine Kd.C_alloc ?_ _) | (with_reducible refine Kd.C_drewN ?_ _) | (with_reducible refine Kd.C_drew ?_))); (case side2 => exact (Kd.R_reads' HO111.out).2.1); (case side3 => repeat (first | exact (Kd.R_reads' HO118.out).2.2 | (with_reducible refine Kd.C_alloc ?_ _) | (with_reducible refine Kd.C_drewN ?_ _) | (with_reducible refine Kd.C_drew ?_))); (case side4 => exact (Kd.R_reads' HO118.out).2.1); rintro e w' ⟨rfl, ⟨nd, rfl⟩⟩))
      go_meet
      case rel => exact ⟨_, (true), (by first | rfl | (simp; done) | (simp [*]; done)), H', ⟨by first | omega | exact Nat.le_refl _⟩, ⟨by exact Ho.RS <| Kd.R_mono HO106.out (fun _ hk => hk.1.2)⟩, ⟨by exact Ho.RS <| Kd.R_mono HO111.out (fun _ hk => hk.1.2)⟩, ⟨by exact Ho.RS <| Kd.R_mono HO113.out (fun _ hk => trivial)⟩, ⟨by exact eS HB.out⟩⟩
  case rest =>
   clear HC7
   try clear c1
   try clear p2
   try clear c3
   try clear c4
   try clear c12
   try clear c12b0
   try clear c12b1
   try clear c12b2
   try clear c13
   try clear c14
   obtain ⟨kq, x76_6, rfl, HA, HJ6, HO_3, HO_6, HO_7, HB⟩ := hcut
   cases kq with
   | zero => exact absurd HA.out (by simp [laws_FnDryLines.j0])
   | succ kj6 =>
    have H := HA.out
    clear HA
    simp only [laws_FnDryLines.j0] at H
    by_cases c22 : x76_6 = true
    ·subst c22
     have H1 : (some false) = some r := by rw [if_pos rfl] at H; exact H
     clear H
     have H := H1
     clear H1
     as_aux_lemma =>
      exact absurd ((Option.some.inj H).trans HT.out) (by decide)
    ·replace c22 := Bool.eq_false_iff.mpr c22
     subst c22
     have H1 : (if t109 = true then (laws_FnDryLines.j1 kj6 l0 t102 t103 t104 t107 t108 (decide (t104 > 0))) else (laws_FnDryLines.j1 kj6 l0 t102 t103 t104 t107 t108 false)) = some r := by rw [if_neg (show ¬ (false = true) by decide)] at H; exact H
     clear H
     have H := H1
     clear H1
     have HC23 := Aside0.mk H
     clear H
     go_upto_region 8 with (fail)
     go_cut [81] (fun v81 wc => ∃ (kq : Nat) (x81_22 : Bool), v81 = .bool x81_22 ∧ Aside0 (laws_FnDryLines.j1 kq l0 t102 t103 t104 t107 t108 x81_22 = some r) ∧ Aside0 (kq ≤ kj6) ∧ Aside0 (Kd.R k25 25 wc w.heap.size (fun k_ => some k_ ≠ (v110 : Value).ownBlock) (.slice Ao9 t102.length co9) t102) ∧ Aside0 (Kd.R k25 25 wc w.heap.size (fun k_ => some k_ ≠ ((.slice Ao9 t102.length co9) : Value).ownBlock) v110 t107) ∧ Aside0 (Kd.R (Kd.int .i64) 3 wc w.heap.size (fun _ => True) v112 t108) ∧ Aside0 (Below w.heap.size w wc))
     case first =>
      have H := HC23.out
      clear HC23
      by_cases c24 : t109 = true
      ·subst c24
       have H1 : (laws_FnDryLines.j1 kj6 l0 t102 t103 t104 t107 t108 (decide (t104 > 0))) = some r := by rw [if_pos rfl] at H; exact H
       clear H
       have H := H1
       clear H1
       as_aux_lemma =>
        have H' := Aside0.mk H
        clear H
        go_wp2
        go_meet
        case rel => exact ⟨_, (decide (t104 > 0)), (by first | rfl | (simp; done) | (simp [*]; done)), H', ⟨by have := HJ6.out; first | omega | exact Nat.le_refl _⟩, ⟨by exact Ho.RS <| HO_3.out⟩, ⟨by exact Ho.RS <| HO_6.out⟩, ⟨by exact Ho.RS <| HO_7.out⟩, ⟨by exact eS HB.out⟩⟩
      ·replace c24 := Bool.eq_false_iff.mpr c24
       subst c24
       have H1 : (laws_FnDryLines.j1 kj6 l0 t102 t103 t104 t107 t108 false) = some r := by rw [if_neg (show ¬ (false = true) by decide)] at H; exact H
       clear H
       have H := H1
       clear H1
       as_aux_lemma =>
        have H' := Aside0.mk H
        clear H
        go_wp2
        go_meet
        case rel => exact ⟨_, (false), (by first | rfl | (simp; done) | (simp [*]; done)), H', ⟨by have := HJ6.out; first | omega | exact Nat.le_refl _⟩, ⟨by exact Ho.RS <| HO_3.out⟩, ⟨by exact Ho.RS <| HO_6.out⟩, ⟨by exact Ho.RS <| HO_7.out⟩, ⟨by exact eS HB.out⟩⟩
     case rest =>
      clear HC23
      try clear c1
      try clear c2
      try clear p2
      try clear c3
      try clear c4
      try clear c12
      try clear c12b0
      try clear c12b1
      try clear c12b2
      try clear c13
      try clear c14
      try clear c22
      try clear c24
      try clear p2
      obtain ⟨kq, x81_22, rfl, HA, HJ22, HO_3, HO_6, HO_7, HB⟩ := hcut
      cases kq with
      | zero => exact absurd HA.out (by simp [laws_FnDryLines.j1])
      | succ kj22 =>
       have H := HA.out
       clear HA
       simp only [laws_FnDryLines.j1] at H
       have HC25 := Aside0.mk H
       clear H
       go_upto_if 81 with (fail)
       go_cut [] (fun wc => ∃ (kq : Nat), Aside0 (laws_FnDryLines.j2 kq l0 = some r) ∧ Aside0 (kq ≤ kj22) ∧ Aside0 (Below w.heap.size w wc))
       case first =>
        have H := HC25.out
        clear HC25
        by_cases c26 : x81_22 = true
        ·subst c26
         have H1 : ((impl_DryCarpets.f kj22 t102 t103 1).bind fun bt123 => ((impl_DryCarpets.f kj22 bt123.1 t103 (wrap64 (t104 - 1))).bind fun bt130 => (if bt123.2.2 = true then (if bt130.2.2 = true then ((laws_rWet.f kj22 bt130.1 t107).bind fun t137 => (if t137 = true then ((laws_rInts.f kj22 bt130.2.1 t108).bind fun t138 => (if t138 = true then (laws_FnDryLines.j2 kj22 l0) else (some false))) else (some false))) else (some false)) else (some false)))) = some r := by rw [if_pos rfl] at H; exact H
         clear H
         have H := H1
         clear H1
         replace H := Option.bind_eq_some_iff.mp H
         obtain ⟨⟨t123, t124, t125⟩, A270, H⟩ := H
         replace H : ((impl_DryCarpets.f kj22 t123 t103 (wrap64 (t104 - 1))).bind fun bt130 => (if t125 = true then (if bt130.2.2 = true then ((laws_rWet.f kj22 bt130.1 t107).bind fun t137 => (if t137 = true then ((laws_rInts.f kj22 bt130.2.1 t108).bind fun t138 => (if t138 = true then (laws_FnDryLines.j2 kj22 l0) else (some false))) else (some false))) else (some false)) else (some false))) = some r := H
         have A27 := Aside0.mk A270
         clear A270
         replace H := Option.bind_eq_some_iff.mp H
         obtain ⟨⟨t130, t131, t132⟩, A280, H⟩ := H
         replace H : (if t125 = true then (if t132 = true then ((laws_rWet.f kj22 t130 t107).bind fun t137 => (if t137 = true then ((laws_rInts.f kj22 t131 t108).bind fun t138 => (if t138 = true then (laws_FnDryLines.j2 kj22 l0) else (some false))) else (some false))) else (some false)) else (some false)) = some r := H
         have A28 := Aside0.mk A280
         clear A280
         by_cases c29 : t125 = true
         ·subst c29
          have H1 : (if t132 = true then ((laws_rWet.f kj22 t130 t107).bind fun t137 => (if t137 = true then ((laws_rInts.f kj22 t131 t108).bind fun t138 => (if t138 = true then (laws_FnDryLines.j2 kj22 l0) else (some false))) else (some false))) else (some false)) = some r := by rw [if_pos rfl] at H; exact H
          clear H
          have H := H1
          clear H1
          by_cases c30 : t132 = true
          ·subst c30
           have H1 : ((laws_rWet.f kj22 t130 t107).bind fun t137 => (if t137 = true then ((laws_rInts.f kj22 t131 t108).bind fun t138 => (if t138 = true then (laws_FnDryLines.j2 kj22 l0) else (some false))) else (some false))) = some r := by rw [if_pos rfl] at H; exact H
           clear H
           have H := H1
           clear H1
           replace H := Option.bind_eq_some_iff.mp H
           obtain ⟨t137, A310, H⟩ := H
           replace H : (if t137 = true then ((laws_rInts.f kj22 t131 t108).bind fun t138 => (if t138 = true then (laws_FnDryLines.j2 kj22 l0) else (some false))) else (some false)) = some r := H
           have A31 := Aside0.mk A310
           clear A310
           by_cases c32 : t137 = true
           ·subst c32
            have H1 : ((laws_rInts.f kj22 t131 t108).bind fun t138 => (if t138 = true then (laws_FnDryLines.j2 kj22 l0) else (some false))) = some r := by rw [if_pos rfl] at H; exact H
            clear H
            have H := H1
            clear H1
            replace H := Option.bind_eq_some_iff.mp H
            obtain ⟨t138, A330, H⟩ := H
            replace H : (if t138 = true then (laws_FnDryLines.j2 kj22 l0) else (some false)) = some r := H
            have A33 := Aside0.mk A330
            clear A330
            by_cases c34 : t138 = true
            ·subst c34
             have H1 : (laws_FnDryLines.j2 kj22 l0) = some r := by rw [if_pos rfl] at H; exact H
             clear H
             have H := H1
             clear H1
             as_aux_lemma =>
              have H' := Aside0.mk H
              clear H
              go_wp2_with (first | ((with_reducible refine gate_callee (f := 40) rfl ?_); refine goesL_ (some 85) rfl rfl Try.func40 (by kernel_rfl) rfl #[.slice Ao9 t102.length co9, .int .i64 t103, .int .i64 1] rfl (by (try simp only [List.map_toArray, List.map_cons, List.map_nil]); first | done | rfl | (simp only [List.length_drop, List.length_take]; rfl)) ?_; (with_reducible refine (impl_DryCarpets.calls kj22 _ _ t102 t103 1 t123 t124 true _ ?side1 ?side2 A27.out).mono ?_); (case side1 => repeat (first | exact (Kd.R_reads' HO_3.out).2.2 | (with_reducible refine Kd.C_alloc ?_ _) | (with_reducible refine Kd.C_drewN ?_ _) | (with_reducible refine Kd.C_drew ?_))); (case side2 => exact (Kd.R_reads' HO_3.out).2.1); rintro e w35 ⟨v126, v128, rfl, ho0, ho1, hb⟩; refine ⟨_, rfl, ?_⟩; have n0_ := Aside0.mk (Kd.R_elder' (by exact Ho.RS <| HO_3.out) (Kd.R_base ho0) hb); have n1_ := Aside0.mk (Kd.R_elder' (by exact Ho.RS <| HO_6.out) (Kd.R_base ho0) hb); have n2_ := Aside0.mk (Kd.R_elder' (by exact Ho.RS <| HO_7.out) (Kd.R_base ho1) hb); have n3_ := Aside0.mk (Kd.R_lower (Kd.R_new' (Kd.R_new' ho0 (Kd.R_lt (by exact Ho.RS <| HO_3.out))) (Kd.R_lt (by exact Ho.RS <| HO_6.out))) (below_size (by exact eS HB.out))); have n4_ := Aside0.mk (Kd.R_lower (Kd.R_new' ho1 (Kd.R_lt (by exact Ho.RS <| HO_7.out))) (below_size (by exact eS HB.out))); have n5_ := Aside0.mk (below_step (by exact eS HB.out) hb); clear HO_3; clear HO_6; clear HO_7; clear HB; have HO_3 := n0_; have HO_6 := n1_; have HO_7 := n2_; have HO127 := n3_; have HO129 := n4_; have HB := n5_; clear n0_ n1_ n2_ n3_ n4_ n5_; (try clear hb); (try clear hb2); (try clear hk); (try clear hi); (try clear ho0); (try clear ho1); obtain ⟨Ao36, co36, eo36⟩ := Kd.R_slice HO127.out; subst eo36) | ((with_reducible refine gate_callee (f := 40) rfl ?_); refine goesL_ (some 94) rfl rfl Try.func40 (by kernel_rfl) rfl #[.slice Ao36 t123.length co36, .int .i64 t103, .int .i64 (wrap64 (t104 - 1))] rfl (by (try simp only [List.map_toArray, List.map_cons, List.map_nil]); first | done | rfl | (simp only [List.length_drop, List.length_take]; rfl)) ?_; (with_reducible refine (impl_DryCarpets.calls kj22 _ _ t123 t103 (wrap64 (t104 - 1)) t130 t131 true _ ?side1 ?side2 A28.out).mono ?_); (case side1 => repeat (first | exact (Kd.R_reads' HO127.out).2.2 | (with_reducible refine Kd.C_alloc ?_ _) | (with_reducible refine Kd.C_drewN ?_ _) | (with_reducible refine Kd.C_drew ?_))); (case side2 => exact (Kd.R_reads' HO127.out).2.1); rintro e w37 ⟨v133, v135, rfl, ho0, ho1, hb⟩; refine ⟨_, rfl, ?_⟩; have n0_ := Aside0.mk (Kd.R_elder' (by exact Ho.RS <| HO_3.out) (Kd.R_base ho0) hb); have n1_ := Aside0.mk (Kd.R_elder' (by exact Ho.RS <| HO_6.out) (Kd.R_base ho0) hb); have n2_ := Aside0.mk (Kd.R_elder' (by exact Ho.RS <| HO_7.out) (Kd.R_base ho1) hb); have n3_ := Aside0.mk (Kd.R_elder' (by exact Ho.RS <| HO127.out) (Kd.R_base ho0) hb); have n4_ := Aside0.mk (Kd.R_elder' (by exact Ho.RS <| HO129.out) (Kd.R_base ho1) hb); have n5_ := Aside0.mk (Kd.R_lower (Kd.R_new' (Kd.R_new' (Kd.R_new' ho0 (Kd.R_lt (by exact Ho.RS <| HO_3.out))) (Kd.R_lt (by exact Ho.RS <| HO_6.out))) (Kd.R_lt (by exact Ho.RS <| HO127.out))) (below_size (by exact eS HB.out))); have n6_ := Aside0.mk (Kd.R_lower (Kd.R_new' (Kd.R_new' ho1 (Kd.R_lt (by exact Ho.RS <| HO_7.out))) (Kd.R_lt (by exact Ho.RS <| HO129.out))) (below_size (by exact eS HB.out))); have n7_ := Aside0.mk (below_step (by exact eS HB.out) hb); clear HO_3; clear HO_6; clear HO_7; clear HO127; clear HO129; clear HB; have HO_3 := n0_; have HO_6 := n1_; have HO_7 := n2_; have HO127 := n3_; have HO129 := n4_; have HO134 := n5_; have HO136 := n6_; have HB := n7_; clear n0_ n1_ n2_ n3_ n4_ n5_ n6_ n7_; (try clear hb); (try clear hb2); (try clear hk); (try clear hi); (try clear ho0); (try clear ho1); obtain ⟨Ao38, co38, eo38⟩ := Kd.R_slice HO134.out; subst eo38; obtain ⟨Ao39, co39, eo39⟩ := Kd.R_slice HO_6.out; subst eo39) | (go_at_call 46; (with_reducible refine (laws_rWet.calls kj22 _ _ t130 _ _ t107 true _ ?side1 ?side2 ?side3 ?side4 A31.out).mono ?_); (case side1 => repeat (first | exact (Kd.R_reads' HO134.out).2.2 | (with_reducible refine Kd.C_alloc ?_ _) | (with_reducible refine Kd.C_drewN ?_ _) | (with_reducible refine Kd.C_drew ?_))); (case side2 => exact (Kd.R_reads' HO134.out).2.1); (case side3 => repeat (first | exact (Kd.R_reads' HO_6.out).2.2 | (with_reducible refine Kd.C_alloc ?_ _) | (with_reducible refine Kd.C_drewN ?_ _) | (with_reducible refine Kd.C_drew ?_))); (case side4 => exact (Kd.R_reads' HO_6.out).2.1); rintro e w' ⟨rfl, ⟨nd, rfl⟩⟩; obtain ⟨Ao40, co40, eo40⟩ := Kd.R_slice HO136.out; subst eo40; obtain ⟨Ao41, co41, eo41⟩ := Kd.R_slice HO_7.out; subst eo41) | (go_at_call 47; (with_reducible refine (laws_rInts.calls kj22 _ _ t131 _ _ t108 true _ ?side1 ?side2 ?side3 ?side4 A33.out).mono ?_); (case side1 => repeat (first | exact (Kd.R_reads' HO136.out).2.2 | (with_reducible refine Kd.C_alloc ?_ _) | (with_reducible refine Kd.C_drewN ?_ _) | (with_reducible refine Kd.C_drew ?_))); (case side2 => exact (Kd.R_reads' HO136.out).2.1); (case side3 => repeat (first | exact (Kd.R_reads' HO_7.out).2.2 | (with_reducible refine Kd.C_alloc ?_ _) | (with_reducible refine Kd.C_drewN ?_ _) | (with_reducible refine Kd.C_drew ?_))); (case side4 => exact (Kd.R_reads' HO_7.out).2.1); rintro e w' ⟨rfl, ⟨nd, rfl⟩⟩))
              go_meet
              case rel => exact ⟨_, H', ⟨by have := HJ6.out; have := HJ22.out; first | omega | exact Nat.le_refl _⟩, ⟨by exact eS HB.out⟩⟩
            ·replace c34 := Bool.eq_false_iff.mpr c34
             subst c34
             have H1 : (some false) = some r := by rw [if_neg (show ¬ (false = true) by decide)] at H; exact H
             clear H
             have H := H1
             clear H1
             as_aux_lemma =>
              exact absurd ((Option.some.inj H).trans HT.out) (by decide)
           ·replace c32 := Bool.eq_false_iff.mpr c32
            subst c32
            have H1 : (some false) = some r := by rw [if_neg (show ¬ (false = true) by decide)] at H; exact H
            clear H
            have H := H1
            clear H1
            as_aux_lemma =>
             exact absurd ((Option.some.inj H).trans HT.out) (by decide)
          ·replace c30 := Bool.eq_false_iff.mpr c30
           subst c30
           have H1 : (some false) = some r := by rw [if_neg (show ¬ (false = true) by decide)] at H; exact H
           clear H
           have H := H1
           clear H1
           as_aux_lemma =>
            exact absurd ((Option.some.inj H).trans HT.out) (by decide)
         ·replace c29 := Bool.eq_false_iff.mpr c29
          subst c29
          have H1 : (some false) = some r := by rw [if_neg (show ¬ (false = true) by decide)] at H; exact H
          clear H
          have H := H1
          clear H1
          as_aux_lemma =>
           exact absurd ((Option.some.inj H).trans HT.out) (by decide)
        ·replace c26 := Bool.eq_false_iff.mpr c26
         subst c26
         have H1 : (laws_FnDryLines.j2 kj22 l0) = some r := by rw [if_neg (show ¬ (false = true) by decide)] at H; exact H
         clear H
         have H := H1
         clear H1
         as_aux_lemma =>
          have H' := Aside0.mk H
          clear H
          go_wp2
          go_meet
          case rel => exact ⟨_, H', ⟨by have := HJ6.out; have := HJ22.out; first | omega | exact Nat.le_refl _⟩, ⟨by exact eS HB.out⟩⟩
       case rest =>
        clear HC25
        try clear c1
        try clear c2
        try clear p2
        try clear c3
        try clear c4
        try clear p6
        try clear c12
        try clear c12b0
        try clear c12b1
        try clear c12b2
        try clear c13
        try clear c14
        try clear c22
        try clear c24
        try clear c26
        try clear c29
        try clear c30
        try clear c32
        try clear c34
        try clear c39
        try clear c40
        try clear p2
        obtain ⟨kq, HA, HJ24, HB⟩ := hcut
        cases kq with
        | zero => exact absurd HA.out (by simp [laws_FnDryLines.j2])
        | succ kj24 =>
         have H := HA.out
         clear HA
         simp only [laws_FnDryLines.j2] at H
         replace H := Option.bind_eq_some_iff.mp H
         obtain ⟨⟨t139, t140, t141, t142, t143, t144⟩, A420, H⟩ := H
         replace H : ((impl_FewestSpins.f kj24 t139 t140 t141 t142 t143 t144).bind fun bt146 => ((spec_FewestSpins.f kj24 t139 t140 t141 t142 t143 t144).bind fun bt148 => (if bt146.1 = bt148.1 then (laws_FnDryLines.j3 kj24 l0 t144 bt146.1 bt146.2 (bt146.2 != bt148.2) t139 t140 t141 t142 t143) else (laws_FnDryLines.j3 kj24 l0 t144 bt146.1 bt146.2 true t139 t140 t141 t142 t143)))) = some r := H
         have A42 := Aside0.mk A420
         clear A420
         replace H := Option.bind_eq_some_iff.mp H
         obtain ⟨⟨t146, t147⟩, A430, H⟩ := H
         replace H : ((spec_FewestSpins.f kj24 t139 t140 t141 t142 t143 t144).bind fun bt148 => (if t146 = bt148.1 then (laws_FnDryLines.j3 kj24 l0 t144 t146 t147 (t147 != bt148.2) t139 t140 t141 t142 t143) else (laws_FnDryLines.j3 kj24 l0 t144 t146 t147 true t139 t140 t141 t142 t143))) = some r := H
         have A43 := Aside0.mk A430
         clear A430
         replace H := Option.bind_eq_some_iff.mp H
         obtain ⟨⟨t148, t149⟩, A440, H⟩ := H
         replace H : (if t146 = t148 then (laws_FnDryLines.j3 kj24 l0 t144 t146 t147 (t147 != t149) t139 t140 t141 t142 t143) else (laws_FnDryLines.j3 kj24 l0 t144 t146 t147 true t139 t140 t141 t142 t143)) = some r := H
         have A44 := Aside0.mk A440
         clear A440
         have HC45 := Aside0.mk H
         clear H
         go_upto_region 16 with (first | ((with_reducible refine gate_callee (f := 48) rfl ?_); refine goesL_ (some 118) rfl rfl Try.func48 (by kernel_rfl) rfl #[.slice A0 l0.length c0] rfl (by (try simp only [List.map_toArray, List.map_cons, List.map_nil]); first | done | rfl | (simp only [List.length_drop, List.length_take]; rfl)) ?_; (with_reducible refine (spec_DrawFewestSpins.calls _ _ l0 t139 t140 t141 t142 t143 t144 _ ?side1 ?side2 A42.out).mono ?_); (case side1 => repeat (first | exact (Kd.C_below HR0.out HB.out) | (with_reducible refine Kd.C_alloc ?_ _) | (with_reducible refine Kd.C_drewN ?_ _) | (with_reducible refine Kd.C_drew ?_))); (case side2 => exact HC0.out); rintro e w46 ⟨rfl, hb⟩; refine ⟨_, rfl, ?_⟩; have n0_ := Aside0.mk (below_step (by exact eS HB.out) hb); clear HB; have HB := n0_; clear n0_; (try clear hb); (try clear hb2); (try clear hk); (try clear hi)) | ((with_reducible refine gate_dst (N := 18) rfl ?_); refine box_event ?hg (N := 18) ?hd (cs := #[.int .i64 0, .int .i64 0, .int .i64 0, .int .i64 0, .int .i64 0]) (t := 25) ?hr ?_; (case hd => rfl); (case hg => rfl); (case hr => first | (go_simp; done) | (go_simp; rfl)); intro gb145 hg w47 hbox hb; have n0_ := Aside0.mk (below_step (by exact eS HB.out) hb); have n1_ := Aside0.mk (hbox); have n2_ := Aside0.mk ((by rw [hg]; exact (below_size (by exact eS HB.out)) : w.heap.size ≤ gb145)); have n3_ := Aside0.mk ((by rw [hg]; exact (below_size (by exact eS HB.out)) : w.heap.size ≤ gb145)); clear HB; have HB := n0_; have BK145 := n1_; have GW145 := n2_; have GE145 := n3_; clear n0_ n1_ n2_ n3_; clear hb hbox hg; have hcz48_0 : w47.cell? ⟨gb145, 0, none⟩ = some (.int .i64 0) := (blk_cell BK145.out 0).trans rfl; have hcz48_1 : w47.cell? ⟨gb145, 1, none⟩ = some (.int .i64 0) := (blk_cell BK145.out 1).trans rfl; have hcz48_2 : w47.cell? ⟨gb145, 2, none⟩ = some (.int .i64 0) := (blk_cell BK145.out 2).trans rfl; have hcz48_3 : w47.cell? ⟨gb145, 3, none⟩ = some (.int .i64 0) := (blk_cell BK145.out 3).trans rfl; have hcz48_4 : w47.cell? ⟨gb145, 4, none⟩ = some (.int .i64 0) := (blk_cell BK145.out 4).trans rfl; have hfz48_0 := blk_frozen BK145.out 0; have hfz48_1 := blk_frozen BK145.out 1; have hfz48_2 := blk_frozen BK145.out 2; have hfz48_3 := blk_frozen BK145.out 3; have hfz48_4 := blk_frozen BK145.out 4) | ((with_reducible refine gate_callee (f := 19) rfl ?_); refine goesL_ (some 124) rfl rfl Try.func19 (by kernel_rfl) rfl #[.agg #[.int .i64 t139, .int .i64 t140, .int .i64 t141, .int .i64 t142, .int .i64 t143], .int .i64 t144] rfl (by (try simp only [List.map_toArray, List.map_cons, List.map_nil]); first | done | rfl | (simp only [List.length_drop, List.length_take]; rfl)) ?_; (with_reducible refine (impl_FewestSpins.calls kj24 t139 t140 t141 t142 t143 t144 t146 t147 _ A43.out).mono ?_); rintro e w49 ⟨rfl, hb⟩; refine ⟨_, rfl, ?_⟩; have n0_ := Aside0.mk (blk_below (g := gb145) (o := .cells #[.int .i64 t139, .int .i64 t140, .int .i64 t141, .int .i64 t142, .int .i64 t143] 25 (0, 0)) (by (with_reducible repeat (first | refine blk_drewN ?_ _ | refine blk_drew ?_ | refine blk_alloc ?_ _)); refine blk_put (cs := #[.int .i64 t139, .int .i64 t140, .int .i64 t141, .int .i64 t142, .int .i64 0]) ?_ 4 _ rfl; (with_reducible repeat (first | refine blk_drewN ?_ _ | refine blk_drew ?_ | refine blk_alloc ?_ _)); refine blk_put (cs := #[.int .i64 t139, .int .i64 t140, .int .i64 t141, .int .i64 0, .int .i64 0]) ?_ 3 _ rfl; (with_reducible repeat (first | refine blk_drewN ?_ _ | refine blk_drew ?_ | refine blk_alloc ?_ _)); refine blk_put (cs := #[.int .i64 t139, .int .i64 t140, .int .i64 0, .int .i64 0, .int .i64 0]) ?_ 2 _ rfl; (with_reducible repeat (first | refine blk_drewN ?_ _ | refine blk_drew ?_ | refine blk_alloc ?_ _)); refine blk_put (cs := #[.int .i64 t139, .int .i64 0, .int .i64 0, .int .i64 0, .int .i64 0]) ?_ 1 _ rfl; (with_reducible repeat (first | refine blk_drewN ?_ _ | refine blk_drew ?_ | refine blk_alloc ?_ _)); refine blk_put (cs := #[.int .i64 0, .int .i64 0, .int .i64 0, .int .i64 0, .int .i64 0]) ?_ 0 _ rfl; exact bS BK145.out) hb); have n1_ := Aside0.mk (below_step (by repeat (first | (with_reducible first | exact HB.out | apply below_alloc | apply pw_below_drewN | apply below_drew1 | refine below_set ?_ GE145.out) | exact HB.out)) hb); clear BK145; clear HB; have BK145 := n0_; have HB := n1_; clear n0_ n1_; (try clear hb); (try clear hb2); (try clear hk); (try clear hi); have hcz50_0 : w49.cell? ⟨gb145, 0, none⟩ = some (.int .i64 t139) := (blk_cell BK145.out 0).trans rfl; have hcz50_1 : w49.cell? ⟨gb145, 1, none⟩ = some (.int .i64 t140) := (blk_cell BK145.out 1).trans rfl; have hcz50_2 : w49.cell? ⟨gb145, 2, none⟩ = some (.int .i64 t141) := (blk_cell BK145.out 2).trans rfl; have hcz50_3 : w49.cell? ⟨gb145, 3, none⟩ = some (.int .i64 t142) := (blk_cell BK145.out 3).trans rfl; have hcz50_4 : w49.cell? ⟨gb145, 4, none⟩ = some (.int .i64 t143) := (blk_cell BK145.out 4).trans rfl; have hfz50_0 := blk_frozen BK145.out 0; have hfz50_1 := blk_frozen BK145.out 1; have hfz50_2 := blk_frozen BK145.out 2; have hfz50_3 := blk_frozen BK145.out 3; have hfz50_4 := blk_frozen BK145.out 4) | ((with_reducible refine gate_callee (f := 18) rfl ?_); refine goesL_ (some 130) rfl rfl Try.func18 (by kernel_rfl) rfl #[.agg #[.int .i64 t139, .int .i64 t140, .int .i64 t141, .int .i64 t142, .int .i64 t143], .int .i64 t144] rfl (by (try simp only [List.map_toArray, List.map_cons, List.map_nil]); first | done | rfl | (simp only [List.length_drop, List.length_take]; rfl)) ?_; (with_reducible refine (spec_FewestSpins.calls kj24 t139 t140 t141 t142 t143 t144 t148 t149 _ A44.out).mono ?_); rintro e w51 ⟨rfl, hb⟩; refine ⟨_, rfl, ?_⟩; have n0_ := Aside0.mk (blk_below (bS BK145.out) hb); have n1_ := Aside0.mk (below_step (by exact eS HB.out) hb); clear BK145; clear HB; have BK145 := n0_; have HB := n1_; clear n0_ n1_; (try clear hb); (try clear hb2); (try clear hk); (try clear hi)))
         (try simp only [Act.put, List.setIfInBounds_toArray, List.set_cons_zero, List.set_cons_succ])
         go_cut [140] (fun v140 wc => ∃ (kq : Nat) (x140_44 : Bool), v140 = .bool x140_44 ∧ Aside0 (laws_FnDryLines.j3 kq l0 t144 t146 t147 x140_44 t139 t140 t141 t142 t143 = some r) ∧ Aside0 (kq ≤ kj24) ∧ Aside0 (wc.heap[gb145]? = some (.cells #[.int .i64 t139, .int .i64 t140, .int .i64 t141, .int .i64 t142, .int .i64 t143] 25 (0, 0))) ∧ Aside0 (Below w.heap.size w wc))
         case first =>
          have H := HC45.out
          clear HC45
          by_cases c52 : t146 = t148
          ·rw [if_pos c52] at H
           have c52b0 : (t146 == t148) = true := beq_iff_eq.mpr c52
           have c52b1 : (t146 != t148) = false := bne_eq_false_iff_eq.mpr c52
           clear c52
           (first | rw [c52b0] | (simp only [i64_w, i32_w]; rw [c52b0]) | skip)
           as_aux_lemma =>
            have H' := Aside0.mk H
            clear H
            go_wp2
            go_meet
            case rel => exact ⟨_, ((t147 != t149)), (by first | rfl | (simp; done) | (simp [*]; done)), H', ⟨by have := HJ6.out; have := HJ22.out; have := HJ24.out; first | omega | exact Nat.le_refl _⟩, ⟨by exact bS BK145.out⟩, ⟨by exact eS HB.out⟩⟩
          ·rw [if_neg c52] at H
           have c52b0 : (t146 == t148) = false := beq_eq_false_iff_ne.mpr c52
           have c52b1 : (t146 != t148) = true := bne_iff_ne.mpr c52
           (first | rw [c52b0] | (simp only [i64_w, i32_w]; rw [c52b0]) | skip)
           as_aux_lemma =>
            have H' := Aside0.mk H
            clear H
            go_wp2
            go_meet
            case rel => exact ⟨_, (true), (by first | rfl | (simp; done) | (simp [*]; done)), H', ⟨by have := HJ6.out; have := HJ22.out; have := HJ24.out; first | omega | exact Nat.le_refl _⟩, ⟨by exact bS BK145.out⟩, ⟨by exact eS HB.out⟩⟩
         case rest =>
          clear HC45
          try clear c1
          try clear c2
          try clear p2
          try clear c3
          try clear c4
          try clear c5
          try clear p6
          try clear c12
          try clear c12b0
          try clear c12b1
          try clear c12b2
          try clear c13
          try clear c14
          try clear c18
          try clear c19
          try clear c22
          try clear c24
          try clear c26
          try clear c29
          try clear c30
          try clear c32
          try clear c34
          try clear c39
          try clear c40
          try clear c44
          try clear c45
          try clear c48
          try clear c52
          try clear c52b0
          try clear c52b1
          try clear hcz48_0
          try clear hcz48_1
          try clear hcz48_2
          try clear hcz48_3
          try clear hcz48_4
          try clear hcz50_0
          try clear hcz50_1
          try clear hcz50_2
          try clear hcz50_3
          try clear hcz50_4
          try clear hfz48_0
          try clear hfz48_1
          try clear hfz48_2
          try clear hfz48_3
          try clear hfz48_4
          try clear hfz50_0
          try clear hfz50_1
          try clear hfz50_2
          try clear hfz50_3
          try clear hfz50_4
          try clear p2
          try clear p6
          obtain ⟨kq, x140_44, rfl, HA, HJ44, BK145, HB⟩ := hcut
          cases kq with
          | zero => exact absurd HA.out (by simp [laws_FnDryLines.j3])
          | succ kj44 =>
           have H := HA.out
           clear HA
           simp only [laws_FnDryLines.j3] at H
           by_cases c53 : x140_44 = true
           ·subst c53
            have H1 : (some false) = some r := by rw [if_pos rfl] at H; exact H
            clear H
            have H := H1
            clear H1
            as_aux_lemma =>
             exact absurd ((Option.some.inj H).trans HT.out) (by decide)
           ·replace c53 := Bool.eq_false_iff.mpr c53
            subst c53
            have H1 : (if t147 = true then (laws_FnDryLines.l0 kj44 l0 t144 t146 t142 0) else (laws_FnDryLines.j5 kj44 l0)) = some r := by rw [if_neg (show ¬ (false = true) by decide)] at H; exact H
            clear H
            have H := H1
            clear H1
            have HC54 := Aside0.mk H
            clear H
            go_upto_if 141 with (fail)
            go_cut [] (fun wc => ∃ (kq : Nat), Aside0 (laws_FnDryLines.j5 kq l0 = some r) ∧ Aside0 (kq ≤ kj44) ∧ Aside0 (wc.heap[gb145]? = some (.cells #[.int .i64 t139, .int .i64 t140, .int .i64 t141, .int .i64 t142, .int .i64 t143] 25 (0, 0))) ∧ Aside0 (Below w.heap.size w wc))
            case first =>
             have H := HC54.out
             clear HC54
             by_cases c55 : t147 = true
             ·subst c55
              have H1 : (laws_FnDryLines.l0 kj44 l0 t144 t146 t142 0) = some r := by rw [if_pos rfl] at H; exact H
              clear H
              have H := H1
              clear H1
              have H' := Aside0.mk H
              clear H
              have hcz56_0 : wc.cell? ⟨gb145, 0, none⟩ = some (.int .i64 t139) := (blk_cell BK145.out 0).trans rfl
              have hcz56_1 : wc.cell? ⟨gb145, 1, none⟩ = some (.int .i64 t140) := (blk_cell BK145.out 1).trans rfl
              have hcz56_2 : wc.cell? ⟨gb145, 2, none⟩ = some (.int .i64 t141) := (blk_cell BK145.out 2).trans rfl
              have hcz56_3 : wc.cell? ⟨gb145, 3, none⟩ = some (.int .i64 t142) := (blk_cell BK145.out 3).trans rfl
              have hcz56_4 : wc.cell? ⟨gb145, 4, none⟩ = some (.int .i64 t143) := (blk_cell BK145.out 4).trans rfl
              have hfz56_0 := blk_frozen BK145.out 0
              have hfz56_1 := blk_frozen BK145.out 1
              have hfz56_2 := blk_frozen BK145.out 2
              have hfz56_3 := blk_frozen BK145.out 3
              have hfz56_4 := blk_frozen BK145.out 4
              go_wp2
              go_loopg [24, 25] kj44 (fun kq v24 v25 w' => ∃ (x24_5 : Int) (x25_5 : Int), v24 = .int .i64 x24_5 ∧ v25 = .int .i64 x25_5 ∧ Aside0 (laws_FnDryLines.l0 kq l0 t144 t146 x24_5 x25_5 = some r) ∧ Aside0 (kq ≤ kj44) ∧ Aside0 (w'.heap[gb145]? = some (.cells #[.int .i64 t139, .int .i64 t140, .int .i64 t141, .int .i64 t142, .int .i64 t143] 25 (0, 0))) ∧ Aside0 (Below w.heap.size w w'))
              case atStart => exact ⟨(t142), (0), (by first | rfl | (simp; done) | (simp [*]; done)), (by first | rfl | (simp; done) | (simp [*]; done)), H', ⟨Nat.le_refl _⟩, ⟨by exact bS BK145.out⟩, ⟨by exact eS HB.out⟩⟩
              case round =>
               clear H'
               try clear c1
               try clear c2
               try clear p2
               try clear c3
               try clear c4
               try clear c5
               try clear p6
               try clear c12
               try clear c12b0
               try clear c12b1
               try clear c12b2
               try clear c13
               try clear c14
               try clear c18
               try clear c19
               try clear c22
               try clear c24
               try clear c26
               try clear c29
               try clear c30
               try clear c32
               try clear c34
               try clear c39
               try clear c40
               try clear c44
               try clear c45
               try clear c48
               try clear c52
               try clear c52b0
               try clear c52b1
               try clear c53
               try clear c55
               try clear hcz48_0
               try clear hcz48_1
               try clear hcz48_2
               try clear hcz48_3
               try clear hcz48_4
               try clear hcz50_0
               try clear hcz50_1
               try clear hcz50_2
               try clear hcz50_3
               try clear hcz50_4
               try clear hcz56_0
               try clear hcz56_1
               try clear hcz56_2
               try clear hcz56_3
               try clear hcz56_4
               try clear hfz48_0
               try clear hfz48_1
               try clear hfz48_2
               try clear hfz48_3
               try clear hfz48_4
               try clear hfz50_0
               try clear hfz50_1
               try clear hfz50_2
               try clear hfz50_3
               try clear hfz50_4
               try clear hfz56_0
               try clear hfz56_1
               try clear hfz56_2
               try clear hfz56_3
               try clear hfz56_4
               try clear p2
               try clear p6
               obtain ⟨x24_5, x25_5, rfl, rfl, HA, HK5, BK145, HB⟩ := hrel
               cases gk with
               | zero => exact absurd HA.out (by simp [laws_FnDryLines.l0])
               | succ k5 =>
                have H := HA.out
                clear HA
                simp only [laws_FnDryLines.l0] at H
                by_cases c57 : (wrap64 (x25_5 + 1)) < t146
                ·rw [if_pos c57] at H
                 have c57b0 : decide ((wrap64 (x25_5 + 1)) < t146) = true := decide_eq_true c57
                 clear c57
                 (first | rw [c57b0] | (simp only [i64_w, i32_w]; rw [c57b0]) | skip)
                 as_aux_lemma =>
                  have H' := Aside0.mk H
                  clear H
                  go_wp2
                  go_roundg k5
                  case measure => have := HJ6.out; have := HJ22.out; have := HJ24.out; have := HJ44.out; have := HK5.out; omega
                  case rel => exact ⟨(wrap64 (Int.tdiv x24_5 2)), (wrap64 (x25_5 + 1)), (by first | rfl | (simp; done) | (simp [*]; done)), (by first | rfl | (simp; done) | (simp [*]; done)), H', ⟨by have := HJ6.out; have := HJ22.out; have := HJ24.out; have := HJ44.out; have := HK5.out; omega⟩, ⟨by exact bS BK145.out⟩, ⟨by exact eS HB.out⟩⟩
                ·rw [if_neg c57] at H
                 have c57b0 : decide ((wrap64 (x25_5 + 1)) < t146) = false := decide_eq_false c57
                 clear c57
                 (first | rw [c57b0] | (simp only [i64_w, i32_w]; rw [c57b0]) | skip)
                 by_cases c58 : t146 > 0
                 ·rw [if_pos c58] at H
                  have c58b0 : decide (0 < t146) = true := decide_eq_true c58
                  clear c58
                  by_cases c59 : x24_5 ≤ t144
                  ·rw [if_pos c59] at H
                   have c59b0 : decide (x24_5 ≤ t144) = true := decide_eq_true c59
                   clear c59
                   as_aux_lemma =>
                    exact absurd ((Option.some.inj H).trans HT.out) (by decide)
                  ·rw [if_neg c59] at H
                   have c59b0 : decide (x24_5 ≤ t144) = false := decide_eq_false c59
                   clear c59
                   by_cases c60 : (wrap64 (Int.tdiv x24_5 2)) > t144
                   ·rw [if_pos c60] at H
                    have c60b0 : decide (t144 < (wrap64 (Int.tdiv x24_5 2))) = true := decide_eq_true c60
                    clear c60
                    as_aux_lemma =>
                     exact absurd ((Option.some.inj H).trans HT.out) (by decide)
                   ·rw [if_neg c60] at H
                    have c60b0 : decide (t144 < (wrap64 (Int.tdiv x24_5 2))) = false := decide_eq_false c60
                    clear c60
                    by_cases c61 : t146 = 0
                    ·rw [if_pos c61] at H
                     have c61b0 : (t146 == 0) = true := beq_iff_eq.mpr c61
                     have c61b1 : (t146 != 0) = false := bne_eq_false_iff_eq.mpr c61
                     clear c61
                     by_cases c62 : x24_5 > t144
                     ·rw [if_pos c62] at H
                      have c62b0 : decide (t144 < x24_5) = true := decide_eq_true c62
                      clear c62
                      as_aux_lemma =>
                       exact absurd ((Option.some.inj H).trans HT.out) (by decide)
                     ·rw [if_neg c62] at H
                      have c62b0 : decide (t144 < x24_5) = false := decide_eq_false c62
                      clear c62
                      as_aux_lemma =>
                       have H' := Aside0.mk H
                       clear H
                       go_wp2
                       go_meet
                       case rel => exact ⟨_, H', ⟨by have := HJ6.out; have := HJ22.out; have := HJ24.out; have := HJ44.out; have := HK5.out; first | omega | exact Nat.le_refl _⟩, ⟨by exact bS BK145.out⟩, ⟨by exact eS HB.out⟩⟩
                    ·rw [if_neg c61] at H
                     have c61b0 : (t146 == 0) = false := beq_eq_false_iff_ne.mpr c61
                     have c61b1 : (t146 != 0) = true := bne_iff_ne.mpr c61
                     as_aux_lemma =>
                      have H' := Aside0.mk H
                      clear H
                      go_wp2
                      go_meet
                      case rel => exact ⟨_, H', ⟨by have := HJ6.out; have := HJ22.out; have := HJ24.out; have := HJ44.out; have := HK5.out; first | omega | exact Nat.le_refl _⟩, ⟨by exact bS BK145.out⟩, ⟨by exact eS HB.out⟩⟩
                 ·rw [if_neg c58] at H
                  have c58b0 : decide (0 < t146) = false := decide_eq_false c58
                  clear c58
                  by_cases c63 : t146 = 0
                  ·rw [if_pos c63] at H
                   have c63b0 : (t146 == 0) = true := beq_iff_eq.mpr c63
                   have c63b1 : (t146 != 0) = false := bne_eq_false_iff_eq.mpr c63
                   clear c63
                   by_cases c64 : x24_5 > t144
                   ·rw [if_pos c64] at H
                    have c64b0 : decide (t144 < x24_5) = true := decide_eq_true c64
                    clear c64
                    as_aux_lemma =>
                     exact absurd ((Option.some.inj H).trans HT.out) (by decide)
                   ·rw [if_neg c64] at H
                    have c64b0 : decide (t144 < x24_5) = false := decide_eq_false c64
                    clear c64
                    as_aux_lemma =>
                     have H' := Aside0.mk H
                     clear H
                     go_wp2
                     go_meet
                     case rel => exact ⟨_, H', ⟨by have := HJ6.out; have := HJ22.out; have := HJ24.out; have := HJ44.out; have := HK5.out; first | omega | exact Nat.le_refl _⟩, ⟨by exact bS BK145.out⟩, ⟨by exact eS HB.out⟩⟩
                  ·rw [if_neg c63] at H
                   have c63b0 : (t146 == 0) = false := beq_eq_false_iff_ne.mpr c63
                   have c63b1 : (t146 != 0) = true := bne_iff_ne.mpr c63
                   as_aux_lemma =>
                    have H' := Aside0.mk H
                    clear H
                    go_wp2
                    go_meet
                    case rel => exact ⟨_, H', ⟨by have := HJ6.out; have := HJ22.out; have := HJ24.out; have := HJ44.out; have := HK5.out; first | omega | exact Nat.le_refl _⟩, ⟨by exact bS BK145.out⟩, ⟨by exact eS HB.out⟩⟩
             ·replace c55 := Bool.eq_false_iff.mpr c55
              subst c55
              have H1 : (laws_FnDryLines.j5 kj44 l0) = some r := by rw [if_neg (show ¬ (false = true) by decide)] at H; exact H
              clear H
              have H := H1
              clear H1
              as_aux_lemma =>
               have H' := Aside0.mk H
               clear H
               go_wp2
               go_meet
               case rel => exact ⟨_, H', ⟨by have := HJ6.out; have := HJ22.out; have := HJ24.out; have := HJ44.out; first | omega | exact Nat.le_refl _⟩, ⟨by exact bS BK145.out⟩, ⟨by exact eS HB.out⟩⟩
            case rest =>
             clear HC54
             try clear c1
             try clear c2
             try clear p2
             try clear c3
             try clear c4
             try clear c5
             try clear c6
             try clear p6
             try clear c12
             try clear c12b0
             try clear c12b1
             try clear c12b2
             try clear c13
             try clear c14
             try clear c18
             try clear c19
             try clear c22
             try clear c24
             try clear c26
             try clear c29
             try clear c30
             try clear c32
             try clear c34
             try clear c39
             try clear c40
             try clear c44
             try clear c45
             try clear c48
             try clear c52
             try clear c52b0
             try clear c52b1
             try clear c53
             try clear c55
             try clear c57
             try clear c57b0
             try clear c58
             try clear c58b0
             try clear c59
             try clear c59b0
             try clear c60
             try clear c60b0
             try clear c61
             try clear c61b0
             try clear c61b1
             try clear c62
             try clear c62b0
             try clear c63
             try clear c63b0
             try clear c63b1
             try clear c64
             try clear c64b0
             try clear p64
             try clear hcz48_0
             try clear hcz48_1
             try clear hcz48_2
             try clear hcz48_3
             try clear hcz48_4
             try clear hcz50_0
             try clear hcz50_1
             try clear hcz50_2
             try clear hcz50_3
             try clear hcz50_4
             try clear hcz56_0
             try clear hcz56_1
             try clear hcz56_2
             try clear hcz56_3
             try clear hcz56_4
             try clear hfz48_0
             try clear hfz48_1
             try clear hfz48_2
             try clear hfz48_3
             try clear hfz48_4
             try clear hfz50_0
             try clear hfz50_1
             try clear hfz50_2
             try clear hfz50_3
             try clear hfz50_4
             try clear hfz56_0
             try clear hfz56_1
             try clear hfz56_2
             try clear hfz56_3
             try clear hfz56_4
             try clear p2
             try clear p6
             obtain ⟨kq, HA, HJ53, BK145, HB⟩ := hcut
             cases kq with
             | zero => exact absurd HA.out (by simp [laws_FnDryLines.j5])
             | succ kj53 =>
              have H := HA.out
              clear HA
              simp only [laws_FnDryLines.j5] at H
              replace H := Option.bind_eq_some_iff.mp H
              obtain ⟨⟨t150, t151, t152, t153, t154⟩, A650, H⟩ := H
              replace H : ((impl_MostShear.f kj53 t150 t151 t152 t153 t154).bind fun bt156 => ((spec_MostShear.f kj53 t150 t151 t152 t153 t154).bind fun bt158 => (if bt156.1 = bt158.1 then (laws_FnDryLines.j6 kj53 l0 bt156.1 bt156.2 (bt156.2 != bt158.2) t150 t151 t152 t153 t154) else (laws_FnDryLines.j6 kj53 l0 bt156.1 bt156.2 true t150 t151 t152 t153 t154)))) = some r := H
              have A65 := Aside0.mk A650
              clear A650
              replace H := Option.bind_eq_some_iff.mp H
              obtain ⟨⟨t156, t157⟩, A660, H⟩ := H
              replace H : ((spec_MostShear.f kj53 t150 t151 t152 t153 t154).bind fun bt158 => (if t156 = bt158.1 then (laws_FnDryLines.j6 kj53 l0 t156 t157 (t157 != bt158.2) t150 t151 t152 t153 t154) else (laws_FnDryLines.j6 kj53 l0 t156 t157 true t150 t151 t152 t153 t154))) = some r := H
              have A66 := Aside0.mk A660
              clear A660
              replace H := Option.bind_eq_some_iff.mp H
              obtain ⟨⟨t158, t159⟩, A670, H⟩ := H
              replace H : (if t156 = t158 then (laws_FnDryLines.j6 kj53 l0 t156 t157 (t157 != t159) t150 t151 t152 t153 t154) else (laws_FnDryLines.j6 kj53 l0 t156 t157 true t150 t151 t152 t153 t154)) = some r := H
              have A67 := Aside0.mk A670
              clear A670
              have HC68 := Aside0.mk H
              clear H
              go_upto_region 29 with (first | ((with_reducible refine gate_callee (f := 49) rfl ?_); refine goesL_ (some 175) rfl rfl Try.func49 (by kernel_rfl) rfl #[.slice A0 l0.length c0] rfl (by (try simp only [List.map_toArray, List.map_cons, List.map_nil]); first | done | rfl | (simp only [List.length_drop, List.length_take]; rfl)) ?_; (with_reducible refine (spec_DrawMostShear.calls _ _ l0 t150 t151 t152 t153 t154 _ ?side1 ?side2 A65.out).mono ?_); (case side1 => repeat (first | exact (Kd.C_below HR0.out HB.out) | (with_reducible refine Kd.C_alloc ?_ _) | (with_reducible refine Kd.C_drewN ?_ _) | (with_reducible refine Kd.C_drew ?_))); (case side2 => exact HC0.out); rintro e w69 ⟨rfl, hb⟩; refine ⟨_, rfl, ?_⟩; have n0_ := Aside0.mk (blk_below (bS BK145.out) hb); have n1_ := Aside0.mk (below_step (by exact eS HB.out) hb); clear BK145; clear HB; have BK145 := n0_; have HB := n1_; clear n0_ n1_; (try clear hb); (try clear hb2); (try clear hk); (try clear hi)) | ((with_reducible refine gate_dst (N := 26) rfl ?_); refine box_event ?hg (N := 26) ?hd (cs := #[.int .i64 0, .int .i64 0, .int .i64 0, .int .i64 0, .int .i64 0]) (t := 25) ?hr ?_; (case hd => rfl); (case hg => rfl); (case hr => first | (go_simp; done) | (go_simp; rfl)); intro gb155 hg w70 hbox hb; have n0_ := Aside0.mk (blk_below (bS BK145.out) hb); have n1_ := Aside0.mk (below_step (by exact eS HB.out) hb); have n2_ := Aside0.mk (hbox); have n3_ := Aside0.mk ((by rw [hg]; exact (below_size (by exact eS HB.out)) : w.heap.size ≤ gb155)); have n4_ := Aside0.mk ((by rw [hg]; exact (below_size (by exact eS HB.out)) : w.heap.size ≤ gb155)); have n5_ := Aside0.mk ((by rw [hg]; exact Nat.ne_of_lt (blk_lt (bS BK145.out)) : gb145 ≠ gb155)); have n6_ := Aside0.mk ((by rw [hg]; exact Nat.ne_of_gt (blk_lt (bS BK145.out)) : gb155 ≠ gb145)); clear BK145; clear HB; have BK145 := n0_; have HB := n1_; have BK155 := n2_; have GW155 := n3_; have GE155 := n4_; have NB145_155 := n5_; have NB155_145 := n6_; clear n0_ n1_ n2_ n3_ n4_ n5_ n6_; clear hb hbox hg; have hnb71 := NB155_145.out; have hnc71 := NB145_155.out; have hcz72_0 : w70.cell? ⟨gb155, 0, none⟩ = some (.int .i64 0) := (blk_cell BK155.out 0).trans rfl; have hcz72_1 : w70.cell? ⟨gb155, 1, none⟩ = some (.int .i64 0) := (blk_cell BK155.out 1).trans rfl; have hcz72_2 : w70.cell? ⟨gb155, 2, none⟩ = some (.int .i64 0) := (blk_cell BK155.out 2).trans rfl; have hcz72_3 : w70.cell? ⟨gb155, 3, none⟩ = some (.int .i64 0) := (blk_cell BK155.out 3).trans rfl; have hcz72_4 : w70.cell? ⟨gb155, 4, none⟩ = some (.int .i64 0) := (blk_cell BK155.out 4).trans rfl; have hfz72_0 := blk_frozen BK155.out 0; have hfz72_1 := blk_frozen BK155.out 1; have hfz72_2 := blk_frozen BK155.out 2; have hfz72_3 := blk_frozen BK155.out 3; have hfz72_4 := blk_frozen BK155.out 4) | ((with_reducible refine gate_callee (f := 21) rfl ?_); refine goesL_ (some 178) rfl rfl Try.func21 (by kernel_rfl) rfl #[.agg #[.int .i64 t150, .int .i64 t151, .int .i64 t152, .int .i64 t153, .int .i64 t154]] rfl (by (try simp only [List.map_toArray, List.map_cons, List.map_nil]); first | done | rfl | (simp only [List.length_drop, List.length_take]; rfl)) ?_; (with_reducible refine (impl_MostShear.calls kj53 t150 t151 t152 t153 t154 t156 t157 _ A66.out).mono ?_); rintro e w73 ⟨rfl, hb⟩; refine ⟨_, rfl, ?_⟩; have n0_ := Aside0.mk (blk_below (g := gb145) (o := .cells #[.int .i64 t139, .int .i64 t140, .int .i64 t141, .int .i64 t142, .int .i64 t143] 25 (0, 0)) (by (with_reducible repeat (first | refine blk_drewN ?_ _ | refine blk_drew ?_ | refine blk_alloc ?_ _)); refine blk_far ?_ NB145_155.out _; (with_reducible repeat (first | refine blk_drewN ?_ _ | refine blk_drew ?_ | refine blk_alloc ?_ _)); refine blk_far ?_ NB145_155.out _; (with_reducible repeat (first | refine blk_drewN ?_ _ | refine blk_drew ?_ | refine blk_alloc ?_ _)); refine blk_far ?_ NB145_155.out _; (with_reducible repeat (first | refine blk_drewN ?_ _ | refine blk_drew ?_ | refine blk_alloc ?_ _)); refine blk_far ?_ NB145_155.out _; (with_reducible repeat (first | refine blk_drewN ?_ _ | refine blk_drew ?_ | refine blk_alloc ?_ _)); refine blk_far ?_ NB145_155.out _; exact bS BK145.out) hb); have n1_ := Aside0.mk (blk_below (g := gb155) (o := .cells #[.int .i64 t150, .int .i64 t151, .int .i64 t152, .int .i64 t153, .int .i64 t154] 25 (0, 0)) (by (with_reducible repeat (first | refine blk_drewN ?_ _ | refine blk_drew ?_ | refine blk_alloc ?_ _)); refine blk_put (cs := #[.int .i64 t150, .int .i64 t151, .int .i64 t152, .int .i64 t153, .int .i64 0]) ?_ 4 _ rfl; (with_reducible repeat (first | refine blk_drewN ?_ _ | refine blk_drew ?_ | refine blk_alloc ?_ _)); refine blk_put (cs := #[.int .i64 t150, .int .i64 t151, .int .i64 t152, .int .i64 0, .int .i64 0]) ?_ 3 _ rfl; (with_reducible repeat (first | refine blk_drewN ?_ _ | refine blk_drew ?_ | refine blk_alloc ?_ _)); refine blk_put (cs := #[.int .i64 t150, .int .i64 t151, .int .i64 0, .int .i64 0, .int .i64 0]) ?_ 2 _ rfl; (with_reducible repeat (first | refine blk_drewN ?_ _ | refine blk_drew ?_ | refine blk_alloc ?_ _)); refine blk_put (cs := #[.int .i64 t150, .int .i64 0, .int .i64 0, .int .i64 0, .int .i64 0]) ?_ 1 _ rfl; (with_reducible repeat (first | refine blk_drewN ?_ _ | refine blk_drew ?_ | refine blk_alloc ?_ _)); refine blk_put (cs := #[.int .i64 0, .int .i64 0, .int .i64 0, .int .i64 0, .int .i64 0]) ?_ 0 _ rfl; exact bS BK155.out) hb); have n2_ := Aside0.mk (below_step (by repeat (first | (with_reducible first | exact HB.out | apply below_alloc | apply pw_below_drewN | apply below_drew1 | refine below_set ?_ GE145.out | refine below_set ?_ GE155.out) | exact HB.out)) hb); clear BK145; clear BK155; clear HB; have BK145 := n0_; have BK155 := n1_; have HB := n2_; clear n0_ n1_ n2_; (try clear hb); (try clear hb2); (try clear hk); (try clear hi); have hcz74_0 : w73.cell? ⟨gb155, 0, none⟩ = some (.int .i64 t150) := (blk_cell BK155.out 0).trans rfl; have hcz74_1 : w73.cell? ⟨gb155, 1, none⟩ = some (.int .i64 t151) := (blk_cell BK155.out 1).trans rfl; have hcz74_2 : w73.cell? ⟨gb155, 2, none⟩ = some (.int .i64 t152) := (blk_cell BK155.out 2).trans rfl; have hcz74_3 : w73.cell? ⟨gb155, 3, none⟩ = some (.int .i64 t153) := (blk_cell BK155.out 3).trans rfl; have hcz74_4 : w73.cell? ⟨gb155, 4, none⟩ = some (.int .i64 t154) := (blk_cell BK155.out 4).trans rfl; have hfz74_0 := blk_frozen BK155.out 0; have hfz74_1 := blk_frozen BK155.out 1; have hfz74_2 := blk_frozen BK155.out 2; have hfz74_3 := blk_frozen BK155.out 3; have hfz74_4 := blk_frozen BK155.out 4) | ((with_reducible refine gate_callee (f := 20) rfl ?_); refine goesL_ (some 183) rfl rfl Try.func20 (by kernel_rfl) rfl #[.agg #[.int .i64 t150, .int .i64 t151, .int .i64 t152, .int .i64 t153, .int .i64 t154]] rfl (by (try simp only [List.map_toArray, List.map_cons, List.map_nil]); first | done | rfl | (simp only [List.length_drop, List.length_take]; rfl)) ?_; (with_reducible refine (spec_MostShear.calls kj53 t150 t151 t152 t153 t154 t158 t159 _ A67.out).mono ?_); rintro e w75 ⟨rfl, hb⟩; refine ⟨_, rfl, ?_⟩; have n0_ := Aside0.mk (blk_below (bS BK145.out) hb); have n1_ := Aside0.mk (blk_below (bS BK155.out) hb); have n2_ := Aside0.mk (below_step (by exact eS HB.out) hb); clear BK145; clear BK155; clear HB; have BK145 := n0_; have BK155 := n1_; have HB := n2_; clear n0_ n1_ n2_; (try clear hb); (try clear hb2); (try clear hk); (try clear hi)))
              (try simp only [Act.put, List.setIfInBounds_toArray, List.set_cons_zero, List.set_cons_succ])
              go_cut [193] (fun v193 wc => ∃ (kq : Nat) (x193_67 : Bool), v193 = .bool x193_67 ∧ Aside0 (laws_FnDryLines.j6 kq l0 t156 t157 x193_67 t150 t151 t152 t153 t154 = some r) ∧ Aside0 (kq ≤ kj53) ∧ Aside0 (wc.heap[gb145]? = some (.cells #[.int .i64 t139, .int .i64 t140, .int .i64 t141, .int .i64 t142, .int .i64 t143] 25 (0, 0))) ∧ Aside0 (wc.heap[gb155]? = some (.cells #[.int .i64 t150, .int .i64 t151, .int .i64 t152, .int .i64 t153, .int .i64 t154] 25 (0, 0))) ∧ Aside0 (Below w.heap.size w wc))
              case first =>
               have H := HC68.out
               clear HC68
               by_cases c76 : t156 = t158
               ·rw [if_pos c76] at H
                have c76b0 : (t156 == t158) = true := beq_iff_eq.mpr c76
                have c76b1 : (t156 != t158) = false := bne_eq_false_iff_eq.mpr c76
                clear c76
                (first | rw [c76b0] | (simp only [i64_w, i32_w]; rw [c76b0]) | skip)
                as_aux_lemma =>
                 have H' := Aside0.mk H
                 clear H
                 go_wp2
                 go_meet
                 case rel => exact ⟨_, ((t157 != t159)), (by first | rfl | (simp; done) | (simp [*]; done)), H', ⟨by have := HJ6.out; have := HJ22.out; have := HJ24.out; have := HJ44.out; have := HJ53.out; first | omega | exact Nat.le_refl _⟩, ⟨by exact bS BK145.out⟩, ⟨by exact bS BK155.out⟩, ⟨by exact eS HB.out⟩⟩
               ·rw [if_neg c76] at H
                have c76b0 : (t156 == t158) = false := beq_eq_false_iff_ne.mpr c76
                have c76b1 : (t156 != t158) = true := bne_iff_ne.mpr c76
                (first | rw [c76b0] | (simp only [i64_w, i32_w]; rw [c76b0]) | skip)
                as_aux_lemma =>
                 have H' := Aside0.mk H
                 clear H
                 go_wp2
                 go_meet
                 case rel => exact ⟨_, (true), (by first | rfl | (simp; done) | (simp [*]; done)), H', ⟨by have := HJ6.out; have := HJ22.out; have := HJ24.out; have := HJ44.out; have := HJ53.out; first | omega | exact Nat.le_refl _⟩, ⟨by exact bS BK145.out⟩, ⟨by exact bS BK155.out⟩, ⟨by exact eS HB.out⟩⟩
              case rest =>
               clear HC68
               try clear c1
               try clear c2
               try clear p2
               try clear c3
               try clear c4
               try clear c5
               try clear c6
               try clear p6
               try clear c7
               try clear c12
               try clear c12b0
               try clear c12b1
               try clear c12b2
               try clear c13
               try clear c14
               try clear c18
               try clear c19
               try clear c20
               try clear c21
               try clear c22
               try clear c24
               try clear c26
               try clear c29
               try clear c30
               try clear c32
               try clear c34
               try clear c39
               try clear c40
               try clear c44
               try clear c45
               try clear c48
               try clear c49
               try clear c52
               try clear c52b0
               try clear c52b1
               try clear c53
               try clear c55
               try clear c57
               try clear c57b0
               try clear c58
               try clear c58b0
               try clear c59
               try clear c59b0
               try clear c60
               try clear c60b0
               try clear c61
               try clear c61b0
               try clear c61b1
               try clear c62
               try clear c62b0
               try clear c63
               try clear c63b0
               try clear c63b1
               try clear c64
               try clear c64b0
               try clear p64
               try clear c71
               try clear c76
               try clear c76b0
               try clear c76b1
               try clear hcz48_0
               try clear hcz48_1
               try clear hcz48_2
               try clear hcz48_3
               try clear hcz48_4
               try clear hcz50_0
               try clear hcz50_1
               try clear hcz50_2
               try clear hcz50_3
               try clear hcz50_4
               try clear hcz56_0
               try clear hcz56_1
               try clear hcz56_2
               try clear hcz56_3
               try clear hcz56_4
               try clear hcz72_0
               try clear hcz72_1
               try clear hcz72_2
               try clear hcz72_3
               try clear hcz72_4
               try clear hcz74_0
               try clear hcz74_1
               try clear hcz74_2
               try clear hcz74_3
               try clear hcz74_4
               try clear hfz48_0
               try clear hfz48_1
               try clear hfz48_2
               try clear hfz48_3
               try clear hfz48_4
               try clear hfz50_0
               try clear hfz50_1
               try clear hfz50_2
               try clear hfz50_3
               try clear hfz50_4
               try clear hfz56_0
               try clear hfz56_1
               try clear hfz56_2
               try clear hfz56_3
               try clear hfz56_4
               try clear hfz72_0
               try clear hfz72_1
               try clear hfz72_2
               try clear hfz72_3
               try clear hfz72_4
               try clear hfz74_0
               try clear hfz74_1
               try clear hfz74_2
               try clear hfz74_3
               try clear hfz74_4
               try clear p2
               try clear p6
               try clear p64
               obtain ⟨kq, x193_67, rfl, HA, HJ67, BK145, BK155, HB⟩ := hcut
               cases kq with
               | zero => exact absurd HA.out (by simp [laws_FnDryLines.j6])
               | succ kj67 =>
                have H := HA.out
                clear HA
                simp only [laws_FnDryLines.j6] at H
                by_cases c77 : x193_67 = true
                ·subst c77
                 have H1 : (some false) = some r := by rw [if_pos rfl] at H; exact H
                 clear H
                 have H := H1
                 clear H1
                 as_aux_lemma =>
                  exact absurd ((Option.some.inj H).trans HT.out) (by decide)
                ·replace c77 := Bool.eq_false_iff.mpr c77
                 subst c77
                 have H1 : (if t157 = true then ((impl_ShearCarpet.f kj67 (([(⟨t150, t151, t152, t153, t154⟩ : S25)] : List (S25))) t150 t156).bind fun bt163 => ((impl_ShearCarpet.f kj67 (([(⟨t150, t151, t152, t153, t154⟩ : S25)] : List (S25))) t150 (wrap64 (t156 + 1))).bind fun bt171 => (if (bt163.2.2 != (decide (t156 > 0))) = true then (laws_FnDryLines.j7 kj67 l0 true) else (laws_FnDryLines.j7 kj67 l0 bt171.2.2)))) else ((spec_DrawIsWetCarpet.f l0).bind fun bt184 => ((impl_IsWetCarpet.f bt184.1 bt184.2.1 bt184.2.2.1 bt184.2.2.2.1 bt184.2.2.2.2).bind fun t190 => ((spec_IsWetCarpet.f bt184.1 bt184.2.1 bt184.2.2.1 bt184.2.2.2.1 bt184.2.2.2.2).bind fun t191 => (some (t190 == t191)))))) = some r := by rw [if_neg (show ¬ (false = true) by decide)] at H; exact H
                 clear H
                 have H := H1
                 clear H1
                 by_cases c78 : t157 = true
                 ·subst c78
                  have H1 : ((impl_ShearCarpet.f kj67 (([(⟨t150, t151, t152, t153, t154⟩ : S25)] : List (S25))) t150 t156).bind fun bt163 => ((impl_ShearCarpet.f kj67 (([(⟨t150, t151, t152, t153, t154⟩ : S25)] : List (S25))) t150 (wrap64 (t156 + 1))).bind fun bt171 => (if (bt163.2.2 != (decide (t156 > 0))) = true then (laws_FnDryLines.j7 kj67 l0 true) else (laws_FnDryLines.j7 kj67 l0 bt171.2.2)))) = some r := by rw [if_pos rfl] at H; exact H
                  clear H
                  have H := H1
                  clear H1
                  obtain ⟨y160, hy160⟩ : ∃ y_ : List (S25), y_ = (([(⟨t150, t151, t152, t153, t154⟩ : S25)] : List (S25))) := ⟨_, rfl⟩
                  replace H : ((impl_ShearCarpet.f kj67 y160 t150 t156).bind fun bt163 => ((impl_ShearCarpet.f kj67 (([(⟨t150, t151, t152, t153, t154⟩ : S25)] : List (S25))) t150 (wrap64 (t156 + 1))).bind fun bt171 => (if (bt163.2.2 != (decide (t156 > 0))) = true then (laws_FnDryLines.j7 kj67 l0 true) else (laws_FnDryLines.j7 kj67 l0 bt171.2.2)))) = some r := by first | (rw [hy160]; with_reducible exact H) | (have H2_ := (Option.bind_some _ _).symm.trans H; rw [hy160]; with_reducible exact H2_) | (have H2_ := (Option.bind_some _ _).symm.trans H; with_reducible exact H2_) | with_reducible exact H | (rw [hy160]; exact H) | exact H
                  have Ny160 := Aside0.mk hy160
                  clear hy160
                  replace H := Option.bind_eq_some_iff.mp H
                  obtain ⟨⟨t163, t164, t165⟩, A790, H⟩ := H
                  replace H : ((impl_ShearCarpet.f kj67 (([(⟨t150, t151, t152, t153, t154⟩ : S25)] : List (S25))) t150 (wrap64 (t156 + 1))).bind fun bt171 => (if (t165 != (decide (t156 > 0))) = true then (laws_FnDryLines.j7 kj67 l0 true) else (laws_FnDryLines.j7 kj67 l0 bt171.2.2))) = some r := H
                  have A79 := Aside0.mk A790
                  clear A790
                  obtain ⟨y168, hy168⟩ : ∃ y_ : List (S25), y_ = (([(⟨t150, t151, t152, t153, t154⟩ : S25)] : List (S25))) := ⟨_, rfl⟩
                  replace H : ((impl_ShearCarpet.f kj67 y168 t150 (wrap64 (t156 + 1))).bind fun bt171 => (if (t165 != (decide (t156 > 0))) = true then (laws_FnDryLines.j7 kj67 l0 true) else (laws_FnDryLines.j7 kj67 l0 bt171.2.2))) = some r := by first | (rw [hy168]; with_reducible exact H) | (have H2_ := (Option.bind_some _ _).symm.trans H; rw [hy168]; with_reducible exact H2_) | (have H2_ := (Option.bind_some _ _).symm.trans H; with_reducible exact H2_) | with_reducible exact H | (rw [hy168]; exact H) | exact H
                  have Ny168 := Aside0.mk hy168
                  clear hy168
                  replace H := Option.bind_eq_some_iff.mp H
                  obtain ⟨⟨t171, t172, t173⟩, A800, H⟩ := H
                  replace H : (if (t165 != (decide (t156 > 0))) = true then (laws_FnDryLines.j7 kj67 l0 true) else (laws_FnDryLines.j7 kj67 l0 t173)) = some r := H
                  have A80 := Aside0.mk A800
                  clear A800
                  have HC81 := Aside0.mk H
                  clear H
                  have hnb82 := NB155_145.out
                  have hnc82 := NB145_155.out
                  have hcz83_0 : wc.cell? ⟨gb155, 0, none⟩ = some (.int .i64 t150) := (blk_cell BK155.out 0).trans rfl
                  have hcz83_1 : wc.cell? ⟨gb155, 1, none⟩ = some (.int .i64 t151) := (blk_cell BK155.out 1).trans rfl
                  have hcz83_2 : wc.cell? ⟨gb155, 2, none⟩ = some (.int .i64 t152) := (blk_cell BK155.out 2).trans rfl
                  have hcz83_3 : wc.cell? ⟨gb155, 3, none⟩ = some (.int .i64 t153) := (blk_cell BK155.out 3).trans rfl
                  have hcz83_4 : wc.cell? ⟨gb155, 4, none⟩ = some (.int .i64 t154) := (blk_cell BK155.out 4).trans rfl
                  have hfz83_0 := blk_frozen BK155.out 0
                  have hfz83_1 := blk_frozen BK155.out 1
                  have hfz83_2 := blk_frozen BK155.out 2
                  have hfz83_3 := blk_frozen BK155.out 3
                  have hfz83_4 := blk_frozen BK155.out 4
                  go_upto_region 34 with (first | ((with_reducible refine gate_dst (N := 197) rfl ?_); refine Kd.R_lit k25 _ 25 ?hg (N := 197) ?hd (xs := ([(⟨t150, t151, t152, t153, t154⟩ : S25)] : List (S25))) (inner := [.int .i64 t150, .int .i64 t151, .int .i64 t152, .int .i64 t153, .int .i64 t154]) (ok := fun _ => True) (okp := fun _ => True) ?hr ?hp (fun _ hk => hk) trivial (Below.refl _ _) (Nat.le_refl _) (by simp) ?_; (case hd => rfl); (case hg => rfl); (case hr => first | (go_simp; done) | (go_simp; rfl)); (case hp => exact (Reps.c5 (show Kd.M k25 _ _ _ (⟨t150, t151, t152, t153, t154⟩ : S25) [.int .i64 t150, .int .i64 t151, .int .i64 t152, .int .i64 t153, .int .i64 t154] from (k25_mkM _ _ _ (⟨t150, t151, t152, t153, t154⟩ : S25) )) (Reps.none _ _))); intro v161 w84 ho85 hb hg_ hnew_; clear hg_ hnew_; (first | rw [← Ny160.out] at ho85 | (simp only [Int.reduceToNat] at ho85; rw [← Ny160.out] at ho85)); have n0_ := Aside0.mk (Kd.R_lower (Kd.R_newB (Kd.R_newB ho85 (bS BK145.out)) (bS BK155.out)) (below_size (by exact eS HB.out))); have n1_ := Aside0.mk (blk_below (bS BK145.out) hb); have n2_ := Aside0.mk (blk_below (bS BK155.out) hb); have n3_ := Aside0.mk (below_step (by exact eS HB.out) hb); clear BK145; clear BK155; clear HB; have HO162 := n0_; have BK145 := n1_; have BK155 := n2_; have HB := n3_; clear n0_ n1_ n2_ n3_; clear hb ho85; have hcz86_0 : w84.cell? ⟨gb155, 0, none⟩ = some (.int .i64 t150) := (blk_cell BK155.out 0).trans rfl; have hcz86_1 : w84.cell? ⟨gb155, 1, none⟩ = some (.int .i64 t151) := (blk_cell BK155.out 1).trans rfl; have hcz86_2 : w84.cell? ⟨gb155, 2, none⟩ = some (.int .i64 t152) := (blk_cell BK155.out 2).trans rfl; have hcz86_3 : w84.cell? ⟨gb155, 3, none⟩ = some (.int .i64 t153) := (blk_cell BK155.out 3).trans rfl; have hcz86_4 : w84.cell? ⟨gb155, 4, none⟩ = some (.int .i64 t154) := (blk_cell BK155.out 4).trans rfl; have hfz86_0 := blk_frozen BK155.out 0; have hfz86_1 := blk_frozen BK155.out 1; have hfz86_2 := blk_frozen BK155.out 2; have hfz86_3 := blk_frozen BK155.out 3; have hfz86_4 := blk_frozen BK155.out 4; obtain ⟨Ao87, co87, eo87⟩ := Kd.R_slice HO162.out; subst eo87) | ((with_reducible refine gate_callee (f := 38) rfl ?_); refine goesL_ (some 201) rfl rfl Try.func38 (by kernel_rfl) rfl #[.slice Ao87 y160.length co87, .int .i64 t150, .int .i64 t156] rfl (by (try simp only [List.map_toArray, List.map_cons, List.map_nil]); first | done | rfl | (simp only [List.length_drop, List.length_take]; rfl)) ?_; (with_reducible refine (impl_ShearCarpet.calls kj67 _ _ y160 t150 t156 t163 t164 t165 _ ?side1 ?side2 A79.out).mono ?_); (case side1 => repeat (first | exact (Kd.R_reads' HO162.out).2.2 | (with_reducible refine Kd.C_alloc ?_ _) | (with_reducible refine Kd.C_drewN ?_ _) | (with_reducible refine Kd.C_drew ?_))); (case side2 => exact (Kd.R_reads' HO162.out).2.1); rintro e w88 ⟨v166, rfl, ho0, hb⟩; refine ⟨_, rfl, ?_⟩; have n0_ := Aside0.mk (Kd.R_elder' (by exact Ho.RS <| HO162.out) (Kd.R_base ho0) hb); have n1_ := Aside0.mk (Kd.R_lower (Kd.R_newB (Kd.R_newB (Kd.R_new' ho0 (Kd.R_lt (by exact Ho.RS <| HO162.out))) (bS BK145.out)) (bS BK155.out)) (below_size (by exact eS HB.out))); have n2_ := Aside0.mk (blk_below (bS BK145.out) hb); have n3_ := Aside0.mk (blk_below (bS BK155.out) hb); have n4_ := Aside0.mk (below_step (by exact eS HB.out) hb); clear HO162; clear BK145; clear BK155; clear HB; have HO162 := n0_; have HO167 := n1_; have BK145 := n2_; have BK155 := n3_; have HB := n4_; clear n0_ n1_ n2_ n3_ n4_; (try clear hb); (try clear hb2); (try clear hk); (try clear hi); (try clear ho0); have hcz89_0 : w88.cell? ⟨gb155, 0, none⟩ = some (.int .i64 t150) := (blk_cell BK155.out 0).trans rfl; have hcz89_1 : w88.cell? ⟨gb155, 1, none⟩ = some (.int .i64 t151) := (blk_cell BK155.out 1).trans rfl; have hcz89_2 : w88.cell? ⟨gb155, 2, none⟩ = some (.int .i64 t152) := (blk_cell BK155.out 2).trans rfl; have hcz89_3 : w88.cell? ⟨gb155, 3, none⟩ = some (.int .i64 t153) := (blk_cell BK155.out 3).trans rfl; have hcz89_4 : w88.cell? ⟨gb155, 4, none⟩ = some (.int .i64 t154) := (blk_cell BK155.out 4).trans rfl; have hfz89_0 := blk_frozen BK155.out 0; have hfz89_1 := blk_frozen BK155.out 1; have hfz89_2 := blk_frozen BK155.out 2; have hfz89_3 := blk_frozen BK155.out 3; have hfz89_4 := blk_frozen BK155.out 4) | ((with_reducible refine gate_dst (N := 207) rfl ?_); refine Kd.R_lit k25 _ 25 ?hg (N := 207) ?hd (xs := ([(⟨t150, t151, t152, t153, t154⟩ : S25)] : List (S25))) (inner := [.int .i64 t150, .int .i64 t151, .int .i64 t152, .int .i64 t153, .int .i64 t154]) (ok := fun _ => True) (okp := fun _ => True) ?hr ?hp (fun _ hk => hk) trivial (Below.refl _ _) (Nat.le_refl _) (by simp) ?_; (case hd => rfl); (case hg => rfl); (case hr => first | (go_simp; done) | (go_simp; rfl)); (case hp => exact (Reps.c5 (show Kd.M k25 _ _ _ (⟨t150, t151, t152, t153, t154⟩ : S25) [.int .i64 t150, .int .i64 t151, .int .i64 t152, .int .i64 t153, .int .i64 t154] from (k25_mkM _ _ _ (⟨t150, t151, t152, t153, t154⟩ : S25) )) (Reps.none _ _))); intro v169 w90 ho91 hb hg_ hnew_; clear hg_ hnew_; (first | rw [← Ny168.out] at ho91 | (simp only [Int.reduceToNat] at ho91; rw [← Ny168.out] at ho91)); have n0_ := Aside0.mk (Kd.R_elder' (by exact Ho.RS <| HO162.out) (Kd.R_base ho91) hb); have n1_ := Aside0.mk (Kd.R_elder' (by exact Ho.RS <| HO167.out) (Kd.R_base ho91) hb); have n2_ := Aside0.mk (Kd.R_lower (Kd.R_newB (Kd.R_newB (Kd.R_new' (Kd.R_new' ho91 (Kd.R_lt (by exact Ho.RS <| HO162.out))) (Kd.R_lt (by exact Ho.RS <| HO167.out))) (bS BK145.out)) (bS BK155.out)) (below_size (by exact eS HB.out))); have n3_ := Aside0.mk (blk_below (bS BK145.out) hb); have n4_ := Aside0.mk (blk_below (bS BK155.out) hb); have n5_ := Aside0.mk (below_step (by exact eS HB.out) hb); clear HO162; clear HO167; clear BK145; clear BK155; clear HB; have HO162 := n0_; have HO167 := n1_; have HO170 := n2_; have BK145 := n3_; have BK155 := n4_; have HB := n5_; clear n0_ n1_ n2_ n3_ n4_ n5_; clear hb ho91; have hcz92_0 : w90.cell? ⟨gb155, 0, none⟩ = some (.int .i64 t150) := (blk_cell BK155.out 0).trans rfl; have hcz92_1 : w90.cell? ⟨gb155, 1, none⟩ = some (.int .i64 t151) := (blk_cell BK155.out 1).trans rfl; have hcz92_2 : w90.cell? ⟨gb155, 2, none⟩ = some (.int .i64 t152) := (blk_cell BK155.out 2).trans rfl; have hcz92_3 : w90.cell? ⟨gb155, 3, none⟩ = some (.int .i64 t153) := (blk_cell BK155.out 3).trans rfl; have hcz92_4 : w90.cell? ⟨gb155, 4, none⟩ = some (.int .i64 t154) := (blk_cell BK155.out 4).trans rfl; have hfz92_0 := blk_frozen BK155.out 0; have hfz92_1 := blk_frozen BK155.out 1; have hfz92_2 := blk_frozen BK155.out 2; have hfz92_3 := blk_frozen BK155.out 3; have hfz92_4 := blk_frozen BK155.out 4; obtain ⟨Ao93, co93, eo93⟩ := Kd.R_slice HO170.out; subst eo93) | ((with_reducible refine gate_callee (f := 38) rfl ?_); refine goesL_ (some 212) rfl rfl Try.func38 (by kernel_rfl) rfl #[.slice Ao93 y168.length co93, .int .i64 t150, .int .i64 (wrap64 (t156 + 1))] rfl (by (try simp only [List.map_toArray, List.map_cons, List.map_nil]); first | done | rfl | (simp only [List.length_drop, List.length_take]; rfl)) ?_; (with_reducible refine (impl_ShearCarpet.calls kj67 _ _ y168 t150 (wrap64 (t156 + 1)) t171 t172 t173 _ ?side1 ?side2 A80.out).mono ?_); (case side1 => repeat (first | exact (Kd.R_reads' HO170.out).2.2 | (with_reducible refine Kd.C_alloc ?_ _) | (with_reducible refine Kd.C_drewN ?_ _) | (with_reducible refine Kd.C_drew ?_))); (case side2 => exact (Kd.R_reads' HO170.out).2.1); rintro e w94 ⟨v174, rfl, ho0, hb⟩; refine ⟨_, rfl, ?_⟩; have n0_ := Aside0.mk (Kd.R_elder' (by exact Ho.RS <| HO162.out) (Kd.R_base ho0) hb); have n1_ := Aside0.mk (Kd.R_elder' (by exact Ho.RS <| HO167.out) (Kd.R_base ho0) hb); have n2_ := Aside0.mk (Kd.R_elder' (by exact Ho.RS <| HO170.out) (Kd.R_base ho0) hb); have n3_ := Aside0.mk (Kd.R_lower (Kd.R_newB (Kd.R_newB (Kd.R_new' (Kd.R_new' (Kd.R_new' ho0 (Kd.R_lt (by exact Ho.RS <| HO162.out))) (Kd.R_lt (by exact Ho.RS <| HO167.out))) (Kd.R_lt (by exact Ho.RS <| HO170.out))) (bS BK145.out)) (bS BK155.out)) (below_size (by exact eS HB.out))); have n4_ := Aside0.mk (blk_below (bS BK145.out) hb); have n5_ := Aside0.mk (blk_below (bS BK155.out) hb); have n6_ := Aside0.mk (below_step (by exact eS HB.out) hb); clear HO162; clear HO167; clear HO170; clear BK145; clear BK155; clear HB; have HO162 := n0_; have HO167 := n1_; have HO170 := n2_; have HO175 := n3_; have BK145 := n4_; have BK155 := n5_; have HB := n6_; clear n0_ n1_ n2_ n3_ n4_ n5_ n6_; (try clear hb); (try clear hb2); (try clear hk); (try clear hi); (try clear ho0)))
                  (try simp only [Act.put, List.setIfInBounds_toArray, List.set_cons_zero, List.set_cons_succ])
                  go_cut [222] (fun v222 wc => ∃ (kq : Nat) (x222_80 : Bool), v222 = .bool x222_80 ∧ Aside0 (laws_FnDryLines.j7 kq l0 x222_80 = some r) ∧ Aside0 (kq ≤ kj67) ∧ Aside0 (wc.heap[gb145]? = some (.cells #[.int .i64 t139, .int .i64 t140, .int .i64 t141, .int .i64 t142, .int .i64 t143] 25 (0, 0))) ∧ Aside0 (wc.heap[gb155]? = some (.cells #[.int .i64 t150, .int .i64 t151, .int .i64 t152, .int .i64 t153, .int .i64 t154] 25 (0, 0))) ∧ Aside0 (Below w.heap.size w wc))
                  case first =>
                   have H := HC81.out
                   clear HC81
                   by_cases c95 : (t165 != (decide (t156 > 0))) = true
                   ·rw [if_pos c95] at H
                    have c95b0 : (t165 != (decide (t156 > 0))) = true := c95
                    (try (have c95b1 : decide (t165 = (decide (t156 > 0))) = false := by simpa using c95))
                    (try (have c95b2 : (t165 == (decide (t156 > 0))) = false := by simpa using c95))
                    (try (have c95b3 : ¬ (t165 = (decide (t156 > 0))) := by simpa using c95))
                    clear c95
                    (first | rw [c95b0] | (simp only [i64_w, i32_w]; rw [c95b0]) | skip)
                    as_aux_lemma =>
                     have H' := Aside0.mk H
                     clear H
                     go_wp2
                     go_meet
                     case rel => exact ⟨_, (true), (by first | rfl | (simp; done) | (simp [*]; done)), H', ⟨by have := HJ6.out; have := HJ22.out; have := HJ24.out; have := HJ44.out; have := HJ53.out; have := HJ67.out; first | omega | exact Nat.le_refl _⟩, ⟨by exact bS BK145.out⟩, ⟨by exact bS BK155.out⟩, ⟨by exact eS HB.out⟩⟩
                   ·rw [if_neg c95] at H
                    have c95b0 : (t165 != (decide (t156 > 0))) = false := by simpa using c95
                    (try (have c95b1 : decide (t165 = (decide (t156 > 0))) = true := by simpa using c95))
                    (try (have c95b2 : (t165 == (decide (t156 > 0))) = true := by simpa using c95))
                    clear c95
                    (first | rw [c95b0] | (simp only [i64_w, i32_w]; rw [c95b0]) | skip)
                    as_aux_lemma =>
                     have H' := Aside0.mk H
                     clear H
                     go_wp2
                     go_meet
                     case rel => exact ⟨_, (t173), (by first | rfl | (simp; done) | (simp [*]; done)), H', ⟨by have := HJ6.out; have := HJ22.out; have := HJ24.out; have := HJ44.out; have := HJ53.out; have := HJ67.out; first | omega | exact Nat.le_refl _⟩, ⟨by exact bS BK145.out⟩, ⟨by exact bS BK155.out⟩, ⟨by exact eS HB.out⟩⟩
                  case rest =>
                   clear HC81
                   try clear c1
                   try clear c2
                   try clear p2
                   try clear c3
                   try clear c4
                   try clear c5
                   try clear c6
                   try clear p6
                   try clear c7
                   try clear c8
                   try clear c9
                   try clear c12
                   try clear c12b0
                   try clear c12b1
                   try clear c12b2
                   try clear c13
                   try clear c14
                   try clear c18
                   try clear c19
                   try clear c20
                   try clear c21
                   try clear c22
                   try clear c24
                   try clear c26
                   try clear c29
                   try clear c30
                   try clear c32
                   try clear c34
                   try clear c38
                   try clear c39
                   try clear c40
                   try clear c44
                   try clear c45
                   try clear c48
                   try clear c49
                   try clear c52
                   try clear c52b0
                   try clear c52b1
                   try clear c53
                   try clear c55
                   try clear c57
                   try clear c57b0
                   try clear c58
                   try clear c58b0
                   try clear c59
                   try clear c59b0
                   try clear c60
                   try clear c60b0
                   try clear c61
                   try clear c61b0
                   try clear c61b1
                   try clear c62
                   try clear c62b0
                   try clear c63
                   try clear c63b0
                   try clear c63b1
                   try clear c64
                   try clear c64b0
                   try clear p64
                   try clear c71
                   try clear c76
                   try clear c76b0
                   try clear c76b1
                   try clear c77
                   try clear c78
                   try clear c82
                   try clear c95
                   try clear c95b0
                   try clear c95b1
                   try clear c95b2
                   try clear hcz48_0
                   try clear hcz48_1
                   try clear hcz48_2
                   try clear hcz48_3
                   try clear hcz48_4
                   try clear hcz50_0
                   try clear hcz50_1
                   try clear hcz50_2
                   try clear hcz50_3
                   try clear hcz50_4
                   try clear hcz56_0
                   try clear hcz56_1
                   try clear hcz56_2
                   try clear hcz56_3
                   try clear hcz56_4
                   try clear hcz72_0
                   try clear hcz72_1
                   try clear hcz72_2
                   try clear hcz72_3
                   try clear hcz72_4
                   try clear hcz74_0
                   try clear hcz74_1
                   try clear hcz74_2
                   try clear hcz74_3
                   try clear hcz74_4
                   try clear hcz83_0
                   try clear hcz83_1
                   try clear hcz83_2
                   try clear hcz83_3
                   try clear hcz83_4
                   try clear hcz86_0
                   try clear hcz86_1
                   try clear hcz86_2
                   try clear hcz86_3
                   try clear hcz86_4
                   try clear hcz89_0
                   try clear hcz89_1
                   try clear hcz89_2
                   try clear hcz89_3
                   try clear hcz89_4
                   try clear hcz92_0
                   try clear hcz92_1
                   try clear hcz92_2
                   try clear hcz92_3
                   try clear hcz92_4
                   try clear hfz48_0
                   try clear hfz48_1
                   try clear hfz48_2
                   try clear hfz48_3
                   try clear hfz48_4
                   try clear hfz50_0
                   try clear hfz50_1
                   try clear hfz50_2
                   try clear hfz50_3
                   try clear hfz50_4
                   try clear hfz56_0
                   try clear hfz56_1
                   try clear hfz56_2
                   try clear hfz56_3
                   try clear hfz56_4
                   try clear hfz72_0
                   try clear hfz72_1
                   try clear hfz72_2
                   try clear hfz72_3
                   try clear hfz72_4
                   try clear hfz74_0
                   try clear hfz74_1
                   try clear hfz74_2
                   try clear hfz74_3
                   try clear hfz74_4
                   try clear hfz83_0
                   try clear hfz83_1
                   try clear hfz83_2
                   try clear hfz83_3
                   try clear hfz83_4
                   try clear hfz86_0
                   try clear hfz86_1
                   try clear hfz86_2
                   try clear hfz86_3
                   try clear hfz86_4
                   try clear hfz89_0
                   try clear hfz89_1
                   try clear hfz89_2
                   try clear hfz89_3
                   try clear hfz89_4
                   try clear hfz92_0
                   try clear hfz92_1
                   try clear hfz92_2
                   try clear hfz92_3
                   try clear hfz92_4
                   try clear p2
                   try clear p6
                   try clear p64
                   obtain ⟨kq, x222_80, rfl, HA, HJ80, BK145, BK155, HB⟩ := hcut
                   cases kq with
                   | zero => exact absurd HA.out (by simp [laws_FnDryLines.j7])
                   | succ kj80 =>
                    have H := HA.out
                    clear HA
                    simp only [laws_FnDryLines.j7] at H
                    by_cases c96 : x222_80 = true
                    ·subst c96
                     have H1 : (some false) = some r := by rw [if_pos rfl] at H; exact H
                     clear H
                     have H := H1
                     clear H1
                     as_aux_lemma =>
                      exact absurd ((Option.some.inj H).trans HT.out) (by decide)
                    ·replace c96 := Bool.eq_false_iff.mpr c96
                     subst c96
                     have H1 : ((spec_DrawIsWetCarpet.f l0).bind fun bt176 => ((impl_IsWetCarpet.f bt176.1 bt176.2.1 bt176.2.2.1 bt176.2.2.2.1 bt176.2.2.2.2).bind fun t182 => ((spec_IsWetCarpet.f bt176.1 bt176.2.1 bt176.2.2.1 bt176.2.2.2.1 bt176.2.2.2.2).bind fun t183 => (some (t182 == t183))))) = some r := by rw [if_neg (show ¬ (false = true) by decide)] at H; exact H
                     clear H
                     have H := H1
                     clear H1
                     replace H := Option.bind_eq_some_iff.mp H
                     obtain ⟨⟨t176, t177, t178, t179, t180⟩, A970, H⟩ := H
                     replace H : ((impl_IsWetCarpet.f t176 t177 t178 t179 t180).bind fun t182 => ((spec_IsWetCarpet.f t176 t177 t178 t179 t180).bind fun t183 => (some (t182 == t183)))) = some r := H
                     have A97 := Aside0.mk A970
                     clear A970
                     replace H := Option.bind_eq_some_iff.mp H
                     obtain ⟨t182, A980, H⟩ := H
                     replace H : ((spec_IsWetCarpet.f t176 t177 t178 t179 t180).bind fun t183 => (some (t182 == t183))) = some r := H
                     have A98 := Aside0.mk A980
                     clear A980
                     replace H := Option.bind_eq_some_iff.mp H
                     obtain ⟨t183, A990, H⟩ := H
                     replace H : (some (t182 == t183)) = some r := H
                     have A99 := Aside0.mk A990
                     clear A990
                     as_aux_lemma =>
                      obtain rfl := Option.some.inj H
                      try go_wp2_with (first | ((with_reducible refine gate_callee (f := 50) rfl ?_); refine goesL_ (some 224) rfl rfl Try.func50 (by kernel_rfl) rfl #[.slice A0 l0.length c0] rfl (by (try simp only [List.map_toArray, List.map_cons, List.map_nil]); first | done | rfl | (simp only [List.length_drop, List.length_take]; rfl)) ?_; (with_reducible refine (spec_DrawIsWetCarpet.calls _ _ l0 t176 t177 t178 t179 t180 _ ?side1 ?side2 A97.out).mono ?_); (case side1 => repeat (first | exact (Kd.C_below HR0.out HB.out) | (with_reducible refine Kd.C_alloc ?_ _) | (with_reducible refine Kd.C_drewN ?_ _) | (with_reducible refine Kd.C_drew ?_))); (case side2 => exact HC0.out); rintro e w100 ⟨rfl, hb⟩; refine ⟨_, rfl, ?_⟩; have n0_ := Aside0.mk (blk_below (bS BK145.out) hb); have n1_ := Aside0.mk (blk_below (bS BK155.out) hb); have n2_ := Aside0.mk (below_step (by exact eS HB.out) hb); clear BK145; clear BK155; clear HB; have BK145 := n0_; have BK155 := n1_; have HB := n2_; clear n0_ n1_ n2_; (try clear hb); (try clear hb2); (try clear hk); (try clear hi)) | ((with_reducible refine gate_dst (N := 37) rfl ?_); refine box_event ?hg (N := 37) ?hd (cs := #[.int .i64 0, .int .i64 0, .int .i64 0, .int .i64 0, .int .i64 0]) (t := 25) ?hr ?_; (case hd => rfl); (case hg => rfl); (case hr => first | (go_simp; done) | (go_simp; rfl)); intro gb181 hg w101 hbox hb; have n0_ := Aside0.mk (blk_below (bS BK145.out) hb); have n1_ := Aside0.mk (blk_below (bS BK155.out) hb); have n2_ := Aside0.mk (below_step (by exact eS HB.out) hb); have n3_ := Aside0.mk (hbox); have n4_ := Aside0.mk ((by rw [hg]; exact (below_size (by exact eS HB.out)) : w.heap.size ≤ gb181)); have n5_ := Aside0.mk ((by rw [hg]; exact (below_size (by exact eS HB.out)) : w.heap.size ≤ gb181)); have n6_ := Aside0.mk ((by rw [hg]; exact Nat.ne_of_lt (blk_lt (bS BK145.out)) : gb145 ≠ gb181)); have n7_ := Aside0.mk ((by rw [hg]; exact Nat.ne_of_gt (blk_lt (bS BK145.out)) : gb181 ≠ gb145)); have n8_ := Aside0.mk ((by rw [hg]; exact Nat.ne_of_lt (blk_lt (bS BK155.out)) : gb155 ≠ gb181)); have n9_ := Aside0.mk ((by rw [hg]; exact Nat.ne_of_gt (blk_lt (bS BK155.out)) : gb181 ≠ gb155)); clear BK145; clear BK155; clear HB; have BK145 := n0_; have BK155 := n1_; have HB := n2_; have BK181 := n3_; have GW181 := n4_; have GE181 := n5_; have NB145_181 := n6_; have NB181_145 := n7_; have NB155_181 := n8_; have NB181_155 := n9_; clear n0_ n1_ n2_ n3_ n4_ n5_ n6_ n7_ n8_ n9_; clear hb hbox hg; have hnb102 := NB181_145.out; have hnc102 := NB145_181.out; have hnb103 := NB181_155.out; have hnc103 := NB155_181.out; have hcz104_0 : w101.cell? ⟨gb181, 0, none⟩ = some (.int .i64 0) := (blk_cell BK181.out 0).trans rfl; have hcz104_1 : w101.cell? ⟨gb181, 1, none⟩ = some (.int .i64 0) := (blk_cell BK181.out 1).trans rfl; have hcz104_2 : w101.cell? ⟨gb181, 2, none⟩ = some (.int .i64 0) := (blk_cell BK181.out 2).trans rfl; have hcz104_3 : w101.cell? ⟨gb181, 3, none⟩ = some (.int .i64 0) := (blk_cell BK181.out 3).trans rfl; have hcz104_4 : w101.cell? ⟨gb181, 4, none⟩ = some (.int .i64 0) := (blk_cell BK181.out 4).trans rfl; have hfz104_0 := blk_frozen BK181.out 0; have hfz104_1 := blk_frozen BK181.out 1; have hfz104_2 := blk_frozen BK181.out 2; have hfz104_3 := blk_frozen BK181.out 3; have hfz104_4 := blk_frozen BK181.out 4))
                      have n0_ : Aside0 ((((((w101.setCell ⟨gb181, 0, none⟩ (.int .i64 t176)).setCell ⟨gb181, 1, none⟩ (.int .i64 t177)).setCell ⟨gb181, 2, none⟩ (.int .i64 t178)).setCell ⟨gb181, 3, none⟩ (.int .i64 t179)).setCell ⟨gb181, 4, none⟩ (.int .i64 t180)).heap[gb145]? = some (.cells #[.int .i64 t139, .int .i64 t140, .int .i64 t141, .int .i64 t142, .int .i64 t143] 25 (0, 0))) := ⟨by (with_reducible repeat (first | refine blk_drewN ?_ _ | refine blk_drew ?_ | refine blk_alloc ?_ _)); refine blk_far ?_ NB145_181.out _; (with_reducible repeat (first | refine blk_drewN ?_ _ | refine blk_drew ?_ | refine blk_alloc ?_ _)); refine blk_far ?_ NB145_181.out _; (with_reducible repeat (first | refine blk_drewN ?_ _ | refine blk_drew ?_ | refine blk_alloc ?_ _)); refine blk_far ?_ NB145_181.out _; (with_reducible repeat (first | refine blk_drewN ?_ _ | refine blk_drew ?_ | refine blk_alloc ?_ _)); refine blk_far ?_ NB145_181.out _; (with_reducible repeat (first | refine blk_drewN ?_ _ | refine blk_drew ?_ | refine blk_alloc ?_ _)); refine blk_far ?_ NB145_181.out _; exact bS BK145.out⟩
                      have n1_ : Aside0 ((((((w101.setCell ⟨gb181, 0, none⟩ (.int .i64 t176)).setCell ⟨gb181, 1, none⟩ (.int .i64 t177)).setCell ⟨gb181, 2, none⟩ (.int .i64 t178)).setCell ⟨gb181, 3, none⟩ (.int .i64 t179)).setCell ⟨gb181, 4, none⟩ (.int .i64 t180)).heap[gb155]? = some (.cells #[.int .i64 t150, .int .i64 t151, .int .i64 t152, .int .i64 t153, .int .i64 t154] 25 (0, 0))) := ⟨by (with_reducible repeat (first | refine blk_drewN ?_ _ | refine blk_drew ?_ | refine blk_alloc ?_ _)); refine blk_far ?_ NB155_181.out _; (with_reducible repeat (first | refine blk_drewN ?_ _ | refine blk_drew ?_ | refine blk_alloc ?_ _)); refine blk_far ?_ NB155_181.out _; (with_reducible repeat (first | refine blk_drewN ?_ _ | refine blk_drew ?_ | refine blk_alloc ?_ _)); refine blk_far ?_ NB155_181.out _; (with_reducible repeat (first | refine blk_drewN ?_ _ | refine blk_drew ?_ | refine blk_alloc ?_ _)); refine blk_far ?_ NB155_181.out _; (with_reducible repeat (first | refine blk_drewN ?_ _ | refine blk_drew ?_ | refine blk_alloc ?_ _)); refine blk_far ?_ NB155_181.out _; exact bS BK155.out⟩
                      have n2_ : Aside0 ((((((w101.setCell ⟨gb181, 0, none⟩ (.int .i64 t176)).setCell ⟨gb181, 1, none⟩ (.int .i64 t177)).setCell ⟨gb181, 2, none⟩ (.int .i64 t178)).setCell ⟨gb181, 3, none⟩ (.int .i64 t179)).setCell ⟨gb181, 4, none⟩ (.int .i64 t180)).heap[gb181]? = some (.cells #[.int .i64 t176, .int .i64 t177, .int .i64 t178, .int .i64 t179, .int .i64 t180] 25 (0, 0))) := ⟨by (with_reducible repeat (first | refine blk_drewN ?_ _ | refine blk_drew ?_ | refine blk_alloc ?_ _)); refine blk_put (cs := #[.int .i64 t176, .int .i64 t177, .int .i64 t178, .int .i64 t179, .int .i64 0]) ?_ 4 _ rfl; (with_reducible repeat (first | refine blk_drewN ?_ _ | refine blk_drew ?_ | refine blk_alloc ?_ _)); refine blk_put (cs := #[.int .i64 t176, .int .i64 t177, .int .i64 t178, .int .i64 0, .int .i64 0]) ?_ 3 _ rfl; (with_reducible repeat (first | refine blk_drewN ?_ _ | refine blk_drew ?_ | refine blk_alloc ?_ _)); refine blk_put (cs := #[.int .i64 t176, .int .i64 t177, .int .i64 0, .int .i64 0, .int .i64 0]) ?_ 2 _ rfl; (with_reducible repeat (first | refine blk_drewN ?_ _ | refine blk_drew ?_ | refine blk_alloc ?_ _)); refine blk_put (cs := #[.int .i64 t176, .int .i64 0, .int .i64 0, .int .i64 0, .int .i64 0]) ?_ 1 _ rfl; (with_reducible repeat (first | refine blk_drewN ?_ _ | refine blk_drew ?_ | refine blk_alloc ?_ _)); refine blk_put (cs := #[.int .i64 0, .int .i64 0, .int .i64 0, .int .i64 0, .int .i64 0]) ?_ 0 _ rfl; exact bS BK181.out⟩
                      have n3_ : Aside0 (Below w.heap.size w (((((w101.setCell ⟨gb181, 0, none⟩ (.int .i64 t176)).setCell ⟨gb181, 1, none⟩ (.int .i64 t177)).setCell ⟨gb181, 2, none⟩ (.int .i64 t178)).setCell ⟨gb181, 3, none⟩ (.int .i64 t179)).setCell ⟨gb181, 4, none⟩ (.int .i64 t180))) := ⟨by repeat (first | (with_reducible first | exact HB.out | apply below_alloc | apply pw_below_drewN | apply below_drew1 | refine below_set ?_ GE145.out | refine below_set ?_ GE155.out | refine below_set ?_ GE181.out) | exact HB.out)⟩
                      (try clear BK145)
                      (try clear BK155)
                      (try clear BK181)
                      (try clear HB)
                      generalize (((((w101.setCell ⟨gb181, 0, none⟩ (.int .i64 t176)).setCell ⟨gb181, 1, none⟩ (.int .i64 t177)).setCell ⟨gb181, 2, none⟩ (.int .i64 t178)).setCell ⟨gb181, 3, none⟩ (.int .i64 t179)).setCell ⟨gb181, 4, none⟩ (.int .i64 t180)) = w105 at n0_ n1_ n2_ n3_ ⊢
                      have BK145 := n0_
                      have BK155 := n1_
                      have BK181 := n2_
                      have HB := n3_
                      clear n0_ n1_ n2_ n3_
                      have n0_ := Aside0.mk (blk_drew BK145.out)
                      have n1_ := Aside0.mk (blk_drew BK155.out)
                      have n2_ := Aside0.mk (blk_drew BK181.out)
                      have n3_ := Aside0.mk (below_drew1 HB.out)
                      clear BK145
                      clear BK155
                      clear BK181
                      clear HB
                      have BK145 := n0_
                      have BK155 := n1_
                      have BK181 := n2_
                      have HB := n3_
                      clear n0_ n1_ n2_ n3_
                      refine start_ (n := 6) (S := fun w' => w'.cell? ⟨gb181, 0, none⟩ = some (.int .i64 t176) ∧ w'.cell? ⟨gb181, 1, none⟩ = some (.int .i64 t177) ∧ w'.cell? ⟨gb181, 2, none⟩ = some (.int .i64 t178) ∧ w'.cell? ⟨gb181, 3, none⟩ = some (.int .i64 t179) ∧ w'.cell? ⟨gb181, 4, none⟩ = some (.int .i64 t180)) (ds := []) #[O,O,O,O,O,O] (by kernel_rfl) rfl rfl ⟨(blk_cell BK181.out 0).trans rfl, (blk_cell BK181.out 1).trans rfl, (blk_cell BK181.out 2).trans rfl, (blk_cell BK181.out 3).trans rfl, (blk_cell BK181.out 4).trans rfl⟩ (fun hHeld => ?_)
                      generalize w105.drew = w106 at BK145 BK155 BK181 HB hHeld ⊢
                      refine take_ (i := 0) (N := some 225) (v := ?_) (a' := ?_) #[I,O,O,O,O,O] rfl rfl (by kernel_rfl) (fun _ _ _ h => h) (Or.inl ⟨by rfl, ?_⟩) hHeld ?_ ?_
                      rotate_left; (rintro w' ⟨s0, s1, s2, s3, s4⟩; go_simp; with_reducible rfl); rotate_left; (simp only [Z]; rfl)
                      refine take_ (i := 2) (N := some 227) (v := ?_) (a' := ?_) #[I,O,I,O,O,O] rfl rfl (by kernel_rfl) (fun _ _ _ h => h) (Or.inl ⟨by rfl, ?_⟩) hHeld ?_ ?_
                      rotate_left; (rintro w' ⟨s0, s1, s2, s3, s4⟩; go_simp; with_reducible rfl); rotate_left; (simp only [Z]; rfl)
                      refine one_ (i := 1) (N := some 226) #[I,I,I,O,O,O] rfl rfl (by kernel_rfl) (by decide) (fun K hK => ?_)
                      refine goes_ Try.func17 (by kernel_rfl) rfl #[.agg #[.int .i64 t176, .int .i64 t177, .int .i64 t178, .int .i64 t179, .int .i64 t180]] (by rfl) rfl rfl (by (try simp only [List.map_toArray, List.map_cons, List.map_nil]); first | done | rfl | (simp only [List.length_drop, List.length_take]; rfl)) ?_
                      with_reducible refine (impl_IsWetCarpet.calls t176 t177 t178 t179 t180 t182 _ A98.out).mono ?_
                      rintro e w107 ⟨rfl, hb⟩
                      refine ⟨_, rfl, ?_⟩
                      have n0_ := Aside0.mk (blk_below (bS BK145.out) hb)
                      have n1_ := Aside0.mk (blk_below (bS BK155.out) hb)
                      have n2_ := Aside0.mk (blk_below (bS BK181.out) hb)
                      have n3_ := Aside0.mk (below_step (by exact eS HB.out) hb)
                      clear BK145
                      clear BK155
                      clear BK181
                      clear HB
                      have BK145 := n0_
                      have BK155 := n1_
                      have BK181 := n2_
                      have HB := n3_
                      clear n0_ n1_ n2_ n3_
                      (try clear hb)
                      (try clear hb2)
                      (try clear hk)
                      (try clear hi)
                      refine hK.out _ _ ⟨(blk_cell BK181.out 0).trans rfl, (blk_cell BK181.out 1).trans rfl, (blk_cell BK181.out 2).trans rfl, (blk_cell BK181.out 3).trans rfl, (blk_cell BK181.out 4).trans rfl⟩ (fun hHeld => ?_)
                      clear hK K
                      refine norm_ (a' := ?_) ?_ ?_
                      rotate_left
                      ·show Act.put _ (some 226) _ = _
                       simp only [Z]
                       rfl
                      refine one_ (i := 3) (N := some 228) #[I,I,I,I,O,O] rfl rfl (by kernel_rfl) (by decide) (fun K hK => ?_)
                      refine goes_ Try.func15 (by kernel_rfl) rfl #[.agg #[.int .i64 t176, .int .i64 t177, .int .i64 t178, .int .i64 t179, .int .i64 t180]] (by rfl) rfl rfl (by (try simp only [List.map_toArray, List.map_cons, List.map_nil]); first | done | rfl | (simp only [List.length_drop, List.length_take]; rfl)) ?_
                      with_reducible refine (spec_IsWetCarpet.calls t176 t177 t178 t179 t180 t183 _ A99.out).mono ?_
                      rintro e w108 ⟨rfl, hb⟩
                      refine ⟨_, rfl, ?_⟩
                      have n0_ := Aside0.mk (blk_below (bS BK145.out) hb)
                      have n1_ := Aside0.mk (blk_below (bS BK155.out) hb)
                      have n2_ := Aside0.mk (blk_below (bS BK181.out) hb)
                      have n3_ := Aside0.mk (below_step (by exact eS HB.out) hb)
                      clear BK145
                      clear BK155
                      clear BK181
                      clear HB
                      have BK145 := n0_
                      have BK155 := n1_
                      have BK181 := n2_
                      have HB := n3_
                      clear n0_ n1_ n2_ n3_
                      (try clear hb)
                      (try clear hb2)
                      (try clear hk)
                      (try clear hi)
                      refine hK.out _ _ ⟨(blk_cell BK181.out 0).trans rfl, (blk_cell BK181.out 1).trans rfl, (blk_cell BK181.out 2).trans rfl, (blk_cell BK181.out 3).trans rfl, (blk_cell BK181.out 4).trans rfl⟩ (fun hHeld => ?_)
                      clear hK K
                      refine norm_ (a' := ?_) ?_ ?_
                      rotate_left
                      ·show Act.put _ (some 228) _ = _
                       simp only [Z]
                       rfl
                      refine pure_ (i := 4) (N := some 229) (v := ?_) (a' := ?_) #[I,I,I,I,I,O] rfl rfl (by kernel_rfl) (fun _ _ _ h => h) (Or.inl ⟨by rfl, ?_⟩) ?_ ?_
                      rotate_left; (intro w'; go_simp; with_reducible rfl); rotate_left; (simp only [Z]; rfl)
                      refine pure_ (i := 5) (N := some 2) (v := ?_) (a' := ?_) #[I,I,I,I,I,I] rfl rfl (by kernel_rfl) (fun _ _ _ h => h) (Or.inl ⟨by rfl, ?_⟩) ?_ ?_
                      rotate_left; (intro w'; go_simp; with_reducible rfl); rotate_left; (simp only [Z]; rfl)
                      refine done_ (by kernel_rfl) ?_
                      try go_wp2
                      go_ret
                      exact ⟨by first | rfl | (simp [errW_none, errW_some] <;> rfl) | (simp [*, errW_none, errW_some] <;> rfl), by exact eS HB.out⟩
                 ·replace c78 := Bool.eq_false_iff.mpr c78
                  subst c78
                  have H1 : ((spec_DrawIsWetCarpet.f l0).bind fun bt184 => ((impl_IsWetCarpet.f bt184.1 bt184.2.1 bt184.2.2.1 bt184.2.2.2.1 bt184.2.2.2.2).bind fun t190 => ((spec_IsWetCarpet.f bt184.1 bt184.2.1 bt184.2.2.1 bt184.2.2.2.1 bt184.2.2.2.2).bind fun t191 => (some (t190 == t191))))) = some r := by rw [if_neg (show ¬ (false = true) by decide)] at H; exact H
                  clear H
                  have H := H1
                  clear H1
                  replace H := Option.bind_eq_some_iff.mp H
                  obtain ⟨⟨t184, t185, t186, t187, t188⟩, A1090, H⟩ := H
                  replace H : ((impl_IsWetCarpet.f t184 t185 t186 t187 t188).bind fun t190 => ((spec_IsWetCarpet.f t184 t185 t186 t187 t188).bind fun t191 => (some (t190 == t191)))) = some r := H
                  have A109 := Aside0.mk A1090
                  clear A1090
                  replace H := Option.bind_eq_some_iff.mp H
                  obtain ⟨t190, A1100, H⟩ := H
                  replace H : ((spec_IsWetCarpet.f t184 t185 t186 t187 t188).bind fun t191 => (some (t190 == t191))) = some r := H
                  have A110 := Aside0.mk A1100
                  clear A1100
                  replace H := Option.bind_eq_some_iff.mp H
                  obtain ⟨t191, A1110, H⟩ := H
                  replace H : (some (t190 == t191)) = some r := H
                  have A111 := Aside0.mk A1110
                  clear A1110
                  as_aux_lemma =>
                   obtain rfl := Option.some.inj H
                   try go_wp2_with (first | ((with_reducible refine gate_callee (f := 50) rfl ?_); refine goesL_ (some 224) rfl rfl Try.func50 (by kernel_rfl) rfl #[.slice A0 l0.length c0] rfl (by (try simp only [List.map_toArray, List.map_cons, List.map_nil]); first | done | rfl | (simp only [List.length_drop, List.length_take]; rfl)) ?_; (with_reducible refine (spec_DrawIsWetCarpet.calls _ _ l0 t184 t185 t186 t187 t188 _ ?side1 ?side2 A109.out).mono ?_); (case side1 => repeat (first | exact (Kd.C_below HR0.out HB.out) | (with_reducible refine Kd.C_alloc ?_ _) | (with_reducible refine Kd.C_drewN ?_ _) | (with_reducible refine Kd.C_drew ?_))); (case side2 => exact HC0.out); rintro e w112 ⟨rfl, hb⟩; refine ⟨_, rfl, ?_⟩; have n0_ := Aside0.mk (blk_below (bS BK145.out) hb); have n1_ := Aside0.mk (blk_below (bS BK155.out) hb); have n2_ := Aside0.mk (below_step (by exact eS HB.out) hb); clear BK145; clear BK155; clear HB; have BK145 := n0_; have BK155 := n1_; have HB := n2_; clear n0_ n1_ n2_; (try clear hb); (try clear hb2); (try clear hk); (try clear hi)) | ((with_reducible refine gate_dst (N := 37) rfl ?_); refine box_event ?hg (N := 37) ?hd (cs := #[.int .i64 0, .int .i64 0, .int .i64 0, .int .i64 0, .int .i64 0]) (t := 25) ?hr ?_; (case hd => rfl); (case hg => rfl); (case hr => first | (go_simp; done) | (go_simp; rfl)); intro gb189 hg w113 hbox hb; have n0_ := Aside0.mk (blk_below (bS BK145.out) hb); have n1_ := Aside0.mk (blk_below (bS BK155.out) hb); have n2_ := Aside0.mk (below_step (by exact eS HB.out) hb); have n3_ := Aside0.mk (hbox); have n4_ := Aside0.mk ((by rw [hg]; exact (below_size (by exact eS HB.out)) : w.heap.size ≤ gb189)); have n5_ := Aside0.mk ((by rw [hg]; exact (below_size (by exact eS HB.out)) : w.heap.size ≤ gb189)); have n6_ := Aside0.mk ((by rw [hg]; exact Nat.ne_of_lt (blk_lt (bS BK145.out)) : gb145 ≠ gb189)); have n7_ := Aside0.mk ((by rw [hg]; exact Nat.ne_of_gt (blk_lt (bS BK145.out)) : gb189 ≠ gb145)); have n8_ := Aside0.mk ((by rw [hg]; exact Nat.ne_of_lt (blk_lt (bS BK155.out)) : gb155 ≠ gb189)); have n9_ := Aside0.mk ((by rw [hg]; exact Nat.ne_of_gt (blk_lt (bS BK155.out)) : gb189 ≠ gb155)); clear BK145; clear BK155; clear HB; have BK145 := n0_; have BK155 := n1_; have HB := n2_; have BK189 := n3_; have GW189 := n4_; have GE189 := n5_; have NB145_189 := n6_; have NB189_145 := n7_; have NB155_189 := n8_; have NB189_155 := n9_; clear n0_ n1_ n2_ n3_ n4_ n5_ n6_ n7_ n8_ n9_; clear hb hbox hg; have hnb114 := NB189_145.out; have hnc114 := NB145_189.out; have hnb115 := NB189_155.out; have hnc115 := NB155_189.out; have hcz116_0 : w113.cell? ⟨gb189, 0, none⟩ = some (.int .i64 0) := (blk_cell BK189.out 0).trans rfl; have hcz116_1 : w113.cell? ⟨gb189, 1, none⟩ = some (.int .i64 0) := (blk_cell BK189.out 1).trans rfl; have hcz116_2 : w113.cell? ⟨gb189, 2, none⟩ = some (.int .i64 0) := (blk_cell BK189.out 2).trans rfl; have hcz116_3 : w113.cell? ⟨gb189, 3, none⟩ = some (.int .i64 0) := (blk_cell BK189.out 3).trans rfl; have hcz116_4 : w113.cell? ⟨gb189, 4, none⟩ = some (.int .i64 0) := (blk_cell BK189.out 4).trans rfl; have hfz116_0 := blk_frozen BK189.out 0; have hfz116_1 := blk_frozen BK189.out 1; have hfz116_2 := blk_frozen BK189.out 2; have hfz116_3 := blk_frozen BK189.out 3; have hfz116_4 := blk_frozen BK189.out 4))
                   have n0_ : Aside0 ((((((w113.setCell ⟨gb189, 0, none⟩ (.int .i64 t184)).setCell ⟨gb189, 1, none⟩ (.int .i64 t185)).setCell ⟨gb189, 2, none⟩ (.int .i64 t186)).setCell ⟨gb189, 3, none⟩ (.int .i64 t187)).setCell ⟨gb189, 4, none⟩ (.int .i64 t188)).heap[gb145]? = some (.cells #[.int .i64 t139, .int .i64 t140, .int .i64 t141, .int .i64 t142, .int .i64 t143] 25 (0, 0))) := ⟨by (with_reducible repeat (first | refine blk_drewN ?_ _ | refine blk_drew ?_ | refine blk_alloc ?_ _)); refine blk_far ?_ NB145_189.out _; (with_reducible repeat (first | refine blk_drewN ?_ _ | refine blk_drew ?_ | refine blk_alloc ?_ _)); refine blk_far ?_ NB145_189.out _; (with_reducible repeat (first | refine blk_drewN ?_ _ | refine blk_drew ?_ | refine blk_alloc ?_ _)); refine blk_far ?_ NB145_189.out _; (with_reducible repeat (first | refine blk_drewN ?_ _ | refine blk_drew ?_ | refine blk_alloc ?_ _)); refine blk_far ?_ NB145_189.out _; (with_reducible repeat (first | refine blk_drewN ?_ _ | refine blk_drew ?_ | refine blk_alloc ?_ _)); refine blk_far ?_ NB145_189.out _; exact bS BK145.out⟩
                   have n1_ : Aside0 ((((((w113.setCell ⟨gb189, 0, none⟩ (.int .i64 t184)).setCell ⟨gb189, 1, none⟩ (.int .i64 t185)).setCell ⟨gb189, 2, none⟩ (.int .i64 t186)).setCell ⟨gb189, 3, none⟩ (.int .i64 t187)).setCell ⟨gb189, 4, none⟩ (.int .i64 t188)).heap[gb155]? = some (.cells #[.int .i64 t150, .int .i64 t151, .int .i64 t152, .int .i64 t153, .int .i64 t154] 25 (0, 0))) := ⟨by (with_reducible repeat (first | refine blk_drewN ?_ _ | refine blk_drew ?_ | refine blk_alloc ?_ _)); refine blk_far ?_ NB155_189.out _; (with_reducible repeat (first | refine blk_drewN ?_ _ | refine blk_drew ?_ | refine blk_alloc ?_ _)); refine blk_far ?_ NB155_189.out _; (with_reducible repeat (first | refine blk_drewN ?_ _ | refine blk_drew ?_ | refine blk_alloc ?_ _)); refine blk_far ?_ NB155_189.out _; (with_reducible repeat (first | refine blk_drewN ?_ _ | refine blk_drew ?_ | refine blk_alloc ?_ _)); refine blk_far ?_ NB155_189.out _; (with_reducible repeat (first | refine blk_drewN ?_ _ | refine blk_drew ?_ | refine blk_alloc ?_ _)); refine blk_far ?_ NB155_189.out _; exact bS BK155.out⟩
                   have n2_ : Aside0 ((((((w113.setCell ⟨gb189, 0, none⟩ (.int .i64 t184)).setCell ⟨gb189, 1, none⟩ (.int .i64 t185)).setCell ⟨gb189, 2, none⟩ (.int .i64 t186)).setCell ⟨gb189, 3, none⟩ (.int .i64 t187)).setCell ⟨gb189, 4, none⟩ (.int .i64 t188)).heap[gb189]? = some (.cells #[.int .i64 t184, .int .i64 t185, .int .i64 t186, .int .i64 t187, .int .i64 t188] 25 (0, 0))) := ⟨by (with_reducible repeat (first | refine blk_drewN ?_ _ | refine blk_drew ?_ | refine blk_alloc ?_ _)); refine blk_put (cs := #[.int .i64 t184, .int .i64 t185, .int .i64 t186, .int .i64 t187, .int .i64 0]) ?_ 4 _ rfl; (with_reducible repeat (first | refine blk_drewN ?_ _ | refine blk_drew ?_ | refine blk_alloc ?_ _)); refine blk_put (cs := #[.int .i64 t184, .int .i64 t185, .int .i64 t186, .int .i64 0, .int .i64 0]) ?_ 3 _ rfl; (with_reducible repeat (first | refine blk_drewN ?_ _ | refine blk_drew ?_ | refine blk_alloc ?_ _)); refine blk_put (cs := #[.int .i64 t184, .int .i64 t185, .int .i64 0, .int .i64 0, .int .i64 0]) ?_ 2 _ rfl; (with_reducible repeat (first | refine blk_drewN ?_ _ | refine blk_drew ?_ | refine blk_alloc ?_ _)); refine blk_put (cs := #[.int .i64 t184, .int .i64 0, .int .i64 0, .int .i64 0, .int .i64 0]) ?_ 1 _ rfl; (with_reducible repeat (first | refine blk_drewN ?_ _ | refine blk_drew ?_ | refine blk_alloc ?_ _)); refine blk_put (cs := #[.int .i64 0, .int .i64 0, .int .i64 0, .int .i64 0, .int .i64 0]) ?_ 0 _ rfl; exact bS BK189.out⟩
                   have n3_ : Aside0 (Below w.heap.size w (((((w113.setCell ⟨gb189, 0, none⟩ (.int .i64 t184)).setCell ⟨gb189, 1, none⟩ (.int .i64 t185)).setCell ⟨gb189, 2, none⟩ (.int .i64 t186)).setCell ⟨gb189, 3, none⟩ (.int .i64 t187)).setCell ⟨gb189, 4, none⟩ (.int .i64 t188))) := ⟨by repeat (first | (with_reducible first | exact HB.out | apply below_alloc | apply pw_below_drewN | apply below_drew1 | refine below_set ?_ GE145.out | refine below_set ?_ GE155.out | refine below_set ?_ GE189.out) | exact HB.out)⟩
                   (try clear BK145)
                   (try clear BK155)
                   (try clear BK189)
                   (try clear HB)
                   generalize (((((w113.setCell ⟨gb189, 0, none⟩ (.int .i64 t184)).setCell ⟨gb189, 1, none⟩ (.int .i64 t185)).setCell ⟨gb189, 2, none⟩ (.int .i64 t186)).setCell ⟨gb189, 3, none⟩ (.int .i64 t187)).setCell ⟨gb189, 4, none⟩ (.int .i64 t188)) = w117 at n0_ n1_ n2_ n3_ ⊢
                   have BK145 := n0_
                   have BK155 := n1_
                   have BK189 := n2_
                   have HB := n3_
                   clear n0_ n1_ n2_ n3_
                   have n0_ := Aside0.mk (blk_drew BK145.out)
                   have n1_ := Aside0.mk (blk_drew BK155.out)
                   have n2_ := Aside0.mk (blk_drew BK189.out)
                   have n3_ := Aside0.mk (below_drew1 HB.out)
                   clear BK145
                   clear BK155
                   clear BK189
                   clear HB
                   have BK145 := n0_
                   have BK155 := n1_
                   have BK189 := n2_
                   have HB := n3_
                   clear n0_ n1_ n2_ n3_
                   refine start_ (n := 6) (S := fun w' => w'.cell? ⟨gb189, 0, none⟩ = some (.int .i64 t184) ∧ w'.cell? ⟨gb189, 1, none⟩ = some (.int .i64 t185) ∧ w'.cell? ⟨gb189, 2, none⟩ = some (.int .i64 t186) ∧ w'.cell? ⟨gb189, 3, none⟩ = some (.int .i64 t187) ∧ w'.cell? ⟨gb189, 4, none⟩ = some (.int .i64 t188)) (ds := []) #[O,O,O,O,O,O] (by kernel_rfl) rfl rfl ⟨(blk_cell BK189.out 0).trans rfl, (blk_cell BK189.out 1).trans rfl, (blk_cell BK189.out 2).trans rfl, (blk_cell BK189.out 3).trans rfl, (blk_cell BK189.out 4).trans rfl⟩ (fun hHeld => ?_)
                   generalize w117.drew = w118 at BK145 BK155 BK189 HB hHeld ⊢
                   refine take_ (i := 0) (N := some 225) (v := ?_) (a' := ?_) #[I,O,O,O,O,O] rfl rfl (by kernel_rfl) (fun _ _ _ h => h) (Or.inl ⟨by rfl, ?_⟩) hHeld ?_ ?_
                   rotate_left; (rintro w' ⟨s0, s1, s2, s3, s4⟩; go_simp; with_reducible rfl); rotate_left; (simp only [Z]; rfl)
                   refine take_ (i := 2) (N := some 227) (v := ?_) (a' := ?_) #[I,O,I,O,O,O] rfl rfl (by kernel_rfl) (fun _ _ _ h => h) (Or.inl ⟨by rfl, ?_⟩) hHeld ?_ ?_
                   rotate_left; (rintro w' ⟨s0, s1, s2, s3, s4⟩; go_simp; with_reducible rfl); rotate_left; (simp only [Z]; rfl)
                   refine one_ (i := 1) (N := some 226) #[I,I,I,O,O,O] rfl rfl (by kernel_rfl) (by decide) (fun K hK => ?_)
                   refine goes_ Try.func17 (by kernel_rfl) rfl #[.agg #[.int .i64 t184, .int .i64 t185, .int .i64 t186, .int .i64 t187, .int .i64 t188]] (by rfl) rfl rfl (by (try simp only [List.map_toArray, List.map_cons, List.map_nil]); first | done | rfl | (simp only [List.length_drop, List.length_take]; rfl)) ?_
                   with_reducible refine (impl_IsWetCarpet.calls t184 t185 t186 t187 t188 t190 _ A110.out).mono ?_
                   rintro e w119 ⟨rfl, hb⟩
                   refine ⟨_, rfl, ?_⟩
                   have n0_ := Aside0.mk (blk_below (bS BK145.out) hb)
                   have n1_ := Aside0.mk (blk_below (bS BK155.out) hb)
                   have n2_ := Aside0.mk (blk_below (bS BK189.out) hb)
                   have n3_ := Aside0.mk (below_step (by exact eS HB.out) hb)
                   clear BK145
                   clear BK155
                   clear BK189
                   clear HB
                   have BK145 := n0_
                   have BK155 := n1_
                   have BK189 := n2_
                   have HB := n3_
                   clear n0_ n1_ n2_ n3_
                   (try clear hb)
                   (try clear hb2)
                   (try clear hk)
                   (try clear hi)
                   refine hK.out _ _ ⟨(blk_cell BK189.out 0).trans rfl, (blk_cell BK189.out 1).trans rfl, (blk_cell BK189.out 2).trans rfl, (blk_cell BK189.out 3).trans rfl, (blk_cell BK189.out 4).trans rfl⟩ (fun hHeld => ?_)
                   clear hK K
                   refine norm_ (a' := ?_) ?_ ?_
                   rotate_left
                   ·show Act.put _ (some 226) _ = _
                    simp only [Z]
                    rfl
                   refine one_ (i := 3) (N := some 228) #[I,I,I,I,O,O] rfl rfl (by kernel_rfl) (by decide) (fun K hK => ?_)
                   refine goes_ Try.func15 (by kernel_rfl) rfl #[.agg #[.int .i64 t184, .int .i64 t185, .int .i64 t186, .int .i64 t187, .int .i64 t188]] (by rfl) rfl rfl (by (try simp only [List.map_toArray, List.map_cons, List.map_nil]); first | done | rfl | (simp only [List.length_drop, List.length_take]; rfl)) ?_
                   with_reducible refine (spec_IsWetCarpet.calls t184 t185 t186 t187 t188 t191 _ A111.out).mono ?_
                   rintro e w120 ⟨rfl, hb⟩
                   refine ⟨_, rfl, ?_⟩
                   have n0_ := Aside0.mk (blk_below (bS BK145.out) hb)
                   have n1_ := Aside0.mk (blk_below (bS BK155.out) hb)
                   have n2_ := Aside0.mk (blk_below (bS BK189.out) hb)
                   have n3_ := Aside0.mk (below_step (by exact eS HB.out) hb)
                   clear BK145
                   clear BK155
                   clear BK189
                   clear HB
                   have BK145 := n0_
                   have BK155 := n1_
                   have BK189 := n2_
                   have HB := n3_
                   clear n0_ n1_ n2_ n3_
                   (try clear hb)
                   (try clear hb2)
                   (try clear hk)
                   (try clear hi)
                   refine hK.out _ _ ⟨(blk_cell BK189.out 0).trans rfl, (blk_cell BK189.out 1).trans rfl, (blk_cell BK189.out 2).trans rfl, (blk_cell BK189.out 3).trans rfl, (blk_cell BK189.out 4).trans rfl⟩ (fun hHeld => ?_)
                   clear hK K
                   refine norm_ (a' := ?_) ?_ ?_
                   rotate_left
                   ·show Act.put _ (some 228) _ = _
                    simp only [Z]
                    rfl
                   refine pure_ (i := 4) (N := some 229) (v := ?_) (a' := ?_) #[I,I,I,I,I,O] rfl rfl (by kernel_rfl) (fun _ _ _ h => h) (Or.inl ⟨by rfl, ?_⟩) ?_ ?_
                   rotate_left; (intro w'; go_simp; with_reducible rfl); rotate_left; (simp only [Z]; rfl)
                   refine pure_ (i := 5) (N := some 2) (v := ?_) (a' := ?_) #[I,I,I,I,I,I] rfl rfl (by kernel_rfl) (fun _ _ _ h => h) (Or.inl ⟨by rfl, ?_⟩) ?_ ?_
                   rotate_left; (intro w'; go_simp; with_reducible rfl); rotate_left; (simp only [Z]; rfl)
                   refine done_ (by kernel_rfl) ?_
                   try go_wp2
                   go_ret
                   exact ⟨by first | rfl | (simp [errW_none, errW_some] <;> rfl) | (simp [*, errW_none, errW_some] <;> rfl), by exact eS HB.out⟩

/-- THE ONE PURE STATEMENT of laws_FnDryLines: yours. -/
def laws_FnDryLines.Pure : Prop := ∀ (l0 : List Int), (l0.length ≤ 9223372036854775807 ∧ ∀ y_ ∈ l0, (Lit.int .u8 y_).wf = true) → ∃ k, laws_FnDryLines.f k l0 = some true

end Go.Proofs.Ytdennkmfjkgfhaa.X

-- Qbase
namespace Go.Proofs.Ytdennkmfjkgfhaa.Pure
open Go Go.RowKit Go.Proofs Go.Proofs.YtdennkmfjkgfhaaW.PrintWords Go.Proofs.YtdennkmfjkgfhaaW.PrintLast
set_option linter.unusedVariables false
set_option linter.unusedSimpArgs false

theorem w64 {x : Int} (h1 : -9223372036854775808 ≤ x) (h2 : x ≤ 9223372036854775807) : wrap64 x = x := by unfold wrap64; omega
/-- a product of two numbers within bounds -/
theorem mul_bd {a b A B : Int} (ha : 0 ≤ a) (hA : a ≤ A) (hb : 0 ≤ b) (hB : b ≤ B) : 0 ≤ a * b ∧ a * b ≤ A * B :=
  ⟨Int.mul_nonneg ha hb, Int.mul_le_mul hA hB hb (Int.le_trans ha hA)⟩
theorem drop_step {α : Type} {l : List α} {i : Nat} (h : i < l.length) (d : α) : l.drop i = l.getD i d :: l.drop (i + 1) := by
  rw [List.drop_eq_getElem_cons h]; congr 1; simp [List.getD_eq_getElem?_getD, List.getElem?_eq_getElem h]
theorem wstep {i : Nat} {n : Nat} (h : i < n) (hn : n ≤ 9223372036854775807) : wrap64 ((i : Int) + 1) = ((i + 1 : Nat) : Int) := by unfold wrap64; omega
theorem nat_of {i : Int} (h : 0 ≤ i) : ∃ n : Nat, i = n := ⟨i.toNat, by omega⟩
theorem succ_of {k d : Nat} (h : d < k) : ∃ m, k = m + 1 ∧ d ≤ m := ⟨k - 1, by omega, by omega⟩

end Go.Proofs.Ytdennkmfjkgfhaa.Pure

-- Qloops
namespace Go.Proofs.Ytdennkmfjkgfhaa.Pure
open Go Go.RowKit Go.Proofs Go.Proofs.YtdennkmfjkgfhaaW.PrintWords Go.Proofs.YtdennkmfjkgfhaaW.PrintLast
set_option linter.unusedVariables false
set_option linter.unusedSimpArgs false

/-- A loop that compares a row with itself. -/
theorem refl_loop {α : Type} (L : Nat → List α → List α → Int → Option Bool) (l : List α) (hb : l.length ≤ 9223372036854775806)
    (hs : ∀ k (i : Nat), i < l.length → L (k + 1) l l i = L k l l (wrap64 ((i : Int) + 1))) (he : ∀ k (i : Nat), l.length ≤ i → L (k + 1) l l i = some true) :
    ∀ n k (i : Nat), i + n = l.length → n < k → L k l l i = some true := by
  intro n
  induction n with
  | zero =>
    intro k i hi hk
    obtain ⟨k, rfl, _⟩ := succ_of hk
    exact he k i (by omega)
  | succ n ih =>
    intro k i hi hk
    obtain ⟨k, rfl, hk⟩ := succ_of hk
    rw [hs k i (by omega), wstep (show i < l.length by omega) (by omega)]
    exact ih k (i + 1) (by omega) (by omega)
theorem rd_nat (l : List Int) (i : Nat) : rd l (i : Int) = l.getD i 0 := by simp [rd]

end Go.Proofs.Ytdennkmfjkgfhaa.Pure

-- Qcursor
namespace Go.Proofs.Ytdennkmfjkgfhaa.Pure
open Go Go.RowKit Go.Proofs Go.Proofs.Ytdennkmfjkgfhaa.X Go.Proofs.YtdennkmfjkgfhaaW.PrintWords Go.Proofs.YtdennkmfjkgfhaaW.PrintLast
set_option linter.unusedVariables false
set_option linter.unusedSimpArgs false

/-- a code that is drawn from: bytes, and not too many -/
def curOk (s : List Int) : Prop := s.length ≤ 65536 ∧ ∀ y ∈ s, 0 ≤ y ∧ y ≤ 255
theorem wf8 {x : Int} (h : (Lit.int .u8 x).wf = true) : 0 ≤ x ∧ x ≤ 255 := by
  have h1 := h
  simp [Lit.wf] at h1
  have h2 := h1.1; have h3 := h1.2
  constructor
  · exact h2
  · exact h3
theorem and255 (n : Int) : 0 ≤ wrap64 (Go.bits .and .u64 (IntKind.u64.wrap n / 1099511627776) 255) ∧ wrap64 (Go.bits .and .u64 (IntKind.u64.wrap n / 1099511627776) 255) ≤ 255 := by
  have hw : IntKind.u64.wrap n = n % 18446744073709551616 := by simp [IntKind.wrap, IntKind.bits, IntKind.signed]
  have h32 : (2 : Int) ^ 32 = 4294967296 := by decide
  have h := bits_mask .u64 32 (by decide) (fun n h0 h1 => by simp [IntKind.wrap, IntKind.bits, IntKind.signed]; omega) 8 (by decide) (IntKind.u64.wrap n / 1099511627776) (by rw [hw]; omega) (by rw [hw]; omega)
  rw [show ((2 : Int) ^ 8 - 1) = 255 by decide, show ((2 : Int) ^ 8) = 256 by decide] at h
  rw [h, w64 (by omega) (by omega)]
  omega
theorem next_ex {s : List Int} {p : Int} (h : Int) (hs : curOk s) (hp : 0 ≤ p ∧ p ≤ 1000000000) : ∃ a h', spec_l1Cur_next.f s p h = some (a, p + 1, h') ∧ 0 ≤ a ∧ a ≤ 255 := by
  have hw : wrap64 (p + 1) = p + 1 := w64 (by omega) (by omega)
  simp only [spec_l1Cur_next.f, hw]
  by_cases g : p < s.length
  · rw [if_pos g, if_pos hp.1, if_pos (by omega)]
    refine ⟨_, _, rfl, ?_⟩
    obtain ⟨n, rfl⟩ := nat_of hp.1
    have hm : s.getD n 0 ∈ s := by rw [List.getD_eq_getElem?_getD, List.getElem?_eq_getElem (by omega)]; exact List.getElem_mem (by omega)
    have := hs.2 _ hm
    rw [rd_nat, w64 (by omega) (by omega)]
    exact this
  · rw [if_neg g, if_neg (by omega)]
    exact ⟨_, _, rfl, and255 _⟩
theorem pick_ex {s : List Int} {p n : Int} (h : Int) (hs : curOk s) (hp : 0 ≤ p ∧ p ≤ 1000000) (hn : n ≤ 50000) : ∃ a p' h', spec_l1Cur_pick.f s p h n = some (a, p', h') ∧ (p ≤ p' ∧ p' ≤ p + 2) ∧ 0 ≤ a ∧ (1 ≤ n → a < n) := by
  unfold spec_l1Cur_pick.f
  by_cases g : n ≤ 1
  · rw [if_pos g]; exact ⟨_, _, _, rfl, by omega, by omega, by omega⟩
  rw [if_neg g]
  obtain ⟨a, h1, e1, b1⟩ := next_ex h hs (p := p) (by omega)
  rw [e1]
  simp only [Option.bind_some]
  by_cases g2 : n > 200
  · rw [if_pos g2]
    obtain ⟨b, h2, e2, b2⟩ := next_ex h1 hs (p := p + 1) (by omega)
    rw [e2]
    simp only [Option.bind_some]
    rw [if_neg (by omega), w64 (x := a * 256) (by omega) (by omega), w64 (x := a * 256 + b) (by omega) (by omega)]
    exact ⟨_, _, _, rfl, by omega, Int.tmod_nonneg _ (by omega), fun _ => Int.tmod_lt_of_pos _ (by omega)⟩
  · rw [if_neg g2, if_neg (by omega)]
    exact ⟨_, _, _, rfl, by omega, Int.tmod_nonneg _ (by omega), fun _ => Int.tmod_lt_of_pos _ (by omega)⟩
theorem one_ex {s : List Int} {p n : Int} (h : Int) (hs : curOk s) (hp : 0 ≤ p ∧ p ≤ 1000000) (hn : n ≤ 50000) : ∃ b p' h', spec_l1Cur_one.f s p h n = some (b, p', h') ∧ (p ≤ p' ∧ p' ≤ p + 2) := by
  obtain ⟨a, p1, h1, e1, b1, _⟩ := pick_ex h hs hp hn
  simp only [spec_l1Cur_one.f, e1, Option.bind_some]
  exact ⟨_, _, _, rfl, b1⟩
theorem among_ex {s : List Int} {p : Int} (h : Int) (xs : List Int) (hs : curOk s) (hp : 0 ≤ p ∧ p ≤ 1000000) (hx : 1 ≤ xs.length ∧ xs.length ≤ 50000) : ∃ v p' h', spec_l1Cur_among.f s p h xs = some (v, p', h') ∧ (p ≤ p' ∧ p' ≤ p + 2) ∧ v ∈ xs := by
  obtain ⟨a, p1, h1, e1, b1, b2, b3⟩ := pick_ex (n := (xs.length : Int)) h hs hp (by omega)
  have b4 := b3 (by omega)
  simp only [spec_l1Cur_among.f, e1, Option.bind_some]
  rw [if_pos b2, if_pos b4]
  refine ⟨_, _, _, rfl, b1, ?_⟩
  obtain ⟨n, rfl⟩ := nat_of b2
  rw [rd_nat, List.getD_eq_getElem?_getD, List.getElem?_eq_getElem (by omega)]
  exact List.getElem_mem (by omega)

end Go.Proofs.Ytdennkmfjkgfhaa.Pure

-- Qinrange
namespace Go.Proofs.Ytdennkmfjkgfhaa.Pure
open Go Go.RowKit Go.Proofs Go.Proofs.Ytdennkmfjkgfhaa.X Go.Proofs.YtdennkmfjkgfhaaW.PrintWords Go.Proofs.YtdennkmfjkgfhaaW.PrintLast
set_option linter.unusedVariables false
set_option linter.unusedSimpArgs false

theorem in_eq (x a b : Int) : impl_in.f x a b = some (decide (a ≤ x ∧ x ≤ b)) := by
  unfold impl_in.f
  by_cases h1 : a ≤ x <;> simp [h1]

end Go.Proofs.Ytdennkmfjkgfhaa.Pure

-- Qspecin
namespace Go.Proofs.Ytdennkmfjkgfhaa.Pure
open Go Go.RowKit Go.Proofs Go.Proofs.Ytdennkmfjkgfhaa.X Go.Proofs.YtdennkmfjkgfhaaW.PrintWords Go.Proofs.YtdennkmfjkgfhaaW.PrintLast
set_option linter.unusedVariables false
set_option linter.unusedSimpArgs false

theorem l1In_eq (x a b : Int) : spec_l1In.f x a b = some (decide (a ≤ x ∧ x ≤ b)) := by
  unfold spec_l1In.f
  by_cases h1 : a ≤ x <;> simp [h1]

end Go.Proofs.Ytdennkmfjkgfhaa.Pure

-- Qwet
namespace Go.Proofs.Ytdennkmfjkgfhaa.Pure
open Go Go.RowKit Go.Proofs Go.Proofs.Ytdennkmfjkgfhaa.X Go.Proofs.YtdennkmfjkgfhaaW.PrintWords Go.Proofs.YtdennkmfjkgfhaaW.PrintLast
set_option linter.unusedVariables false
set_option linter.unusedSimpArgs false

def wetB (i a d w p : Int) : Bool := decide (1 ≤ i ∧ i ≤ 999) && (decide (1 ≤ a ∧ a ≤ 4000) && (decide (1 ≤ d ∧ d ≤ 200000) && (decide (0 ≤ w ∧ w ≤ 2 * d) && decide (20 ≤ p ∧ p ≤ 300))))
theorem wet_of {i a d w p : Int} (h : wetB i a d w p = true) : (1 ≤ i ∧ i ≤ 999) ∧ (1 ≤ a ∧ a ≤ 4000) ∧ (1 ≤ d ∧ d ≤ 200000) ∧ (0 ≤ w ∧ w ≤ 2 * d) ∧ (20 ≤ p ∧ p ≤ 300) := by
  simpa [wetB] using h
theorem l18One_eq (i a d w p : Int) : spec_l18One.f i a d w p = some (wetB i a d w p) := by
  simp only [spec_l18One.f, l1In_eq, Option.bind_some, wetB]
  cases decide (1 ≤ i ∧ i ≤ 999)
  · rfl
  cases decide (1 ≤ a ∧ a ≤ 4000)
  · rfl
  cases h : decide (1 ≤ d ∧ d ≤ 200000)
  · rfl
  have := of_decide_eq_true h
  rw [w64 (x := 2 * d) (by omega) (by omega)]
  cases decide (0 ≤ w ∧ w ≤ 2 * d) <;> rfl
theorem IsWetCarpet_eq (i a d w p : Int) : impl_IsWetCarpet.f i a d w p = some (wetB i a d w p) := by
  simp only [impl_IsWetCarpet.f, impl_isNumber.f, in_eq, Option.bind_some, wetB]
  cases decide (1 ≤ i ∧ i ≤ 999)
  · rfl
  cases decide (1 ≤ a ∧ a ≤ 4000)
  · rfl
  cases h : decide (1 ≤ d ∧ d ≤ 200000)
  · rfl
  have := of_decide_eq_true h
  rw [w64 (x := 2 * d) (by omega) (by omega)]
  cases decide (0 ≤ w ∧ w ≤ 2 * d) <;> rfl

end Go.Proofs.Ytdennkmfjkgfhaa.Pure

-- Qshear
namespace Go.Proofs.Ytdennkmfjkgfhaa.Pure
open Go Go.RowKit Go.Proofs Go.Proofs.Ytdennkmfjkgfhaa.X Go.Proofs.YtdennkmfjkgfhaaW.PrintWords Go.Proofs.YtdennkmfjkgfhaaW.PrintLast
set_option linter.unusedVariables false
set_option linter.unusedSimpArgs false

/-- the largest number up to n that q holds of, or 0 -/
def downM (q : Nat → Bool) : Nat → Nat
  | 0 => 0
  | n + 1 => if q (n + 1) = true then n + 1 else downM q n
theorem downM_le (q : Nat → Bool) : ∀ n, downM q n ≤ n
  | 0 => Nat.le_refl _
  | n + 1 => by have := downM_le q n; simp only [downM]; split <;> omega
theorem up_loop {α : Type} (L : Nat → Int → Int → Option α) (r : Int → Option α) (q : Nat → Bool) (n0 : Nat) (hb : n0 ≤ 1000000)
    (hs : ∀ k x (i : Nat), 1 ≤ i → i ≤ n0 → L (k + 1) x (i : Int) = if q i = true then L k (i : Int) (wrap64 ((i : Int) + 1)) else L k x (wrap64 ((i : Int) + 1)))
    (he : ∀ k x (i : Nat), n0 < i → L (k + 1) x (i : Int) = r x) :
    ∀ n k (j : Nat), j + n = n0 → n < k → L k ((downM q j : Nat) : Int) ((j + 1 : Nat) : Int) = r ((downM q n0 : Nat) : Int) := by
  intro n
  induction n with
  | zero =>
    intro k j hj hk
    obtain ⟨k, rfl, _⟩ := succ_of hk
    rw [he k _ (j + 1) (by omega), show j = n0 by omega]
  | succ n ih =>
    intro k j hj hk
    obtain ⟨k, rfl, hk⟩ := succ_of hk
    have h := ih k (j + 1) (by omega) (by omega)
    rw [hs k _ (j + 1) (by omega) (by omega), wstep (n := j + 2) (by omega) (by omega)]
    simp only [downM] at h
    cases hq : q (j + 1)
    · rw [hq] at h; simpa using h
    · rw [hq] at h; simpa using h
theorem down_loop {α : Type} (L : Nat → Int → Option α) (r : Int → Option α) (q : Nat → Bool) (n0 : Nat) (hb : n0 ≤ 1000000)
    (hs : ∀ k (i : Nat), i ≤ n0 → L (k + 1) (i : Int) = if q i = true then r (i : Int) else L k (wrap64 ((i : Int) - 1))) (h0 : q 0 = true) :
    ∀ (n : Nat) k, n ≤ n0 → n < k → L k (n : Int) = r ((downM q n : Nat) : Int) := by
  intro n
  induction n with
  | zero =>
    intro k _ hk
    obtain ⟨k, rfl, _⟩ := succ_of hk
    rw [hs k 0 (by omega), h0]; rfl
  | succ n ih =>
    intro k hn hk
    obtain ⟨k, rfl, hk⟩ := succ_of hk
    rw [hs k (n + 1) hn]
    simp only [downM]
    cases hq : q (n + 1)
    · simp only [Bool.false_eq_true, if_false]
      rw [w64 (by omega) (by omega), show ((n + 1 : Nat) : Int) - 1 = (n : Int) by omega]
      exact ih k (by omega) (by omega)
    · simp
def dryB (d w : Int) : Bool := decide (50 * w ≤ d)
theorem l18Dry_eq {d w : Int} (hw : 0 ≤ w ∧ w ≤ 400000) (i a p : Int) : spec_l18Dry.f i a d w p = some (dryB d w) := by
  unfold spec_l18Dry.f; rw [w64 (by omega) (by omega)]; rfl
theorem isDry_eq {d w : Int} (hw : 0 ≤ w ∧ w ≤ 400000) (i a p : Int) : impl_WetCarpet_isDry.f i a d w p = some (dryB d w) := by
  unfold impl_WetCarpet_isDry.f; rw [w64 (by omega) (by omega)]; rfl
theorem shorn_w {i a d w p n : Int} (h : wetB i a d w p = true) (hn : 0 ≤ n ∧ n ≤ 20) : wrap64 (d - (wrap64 ((wrap64 (a * n)) * 2))) = d - 2 * a * n ∧ wrap64 (d - (wrap64 ((wrap64 (2 * a)) * n))) = d - 2 * a * n ∧ wrap64 (p - n) = p - n := by
  have hw := wet_of h
  have h1 := mul_bd (a := a) (b := n) (A := 4000) (B := 20) (by omega) (by omega) (by omega) (by omega)
  have h2 : 2 * a * n = 2 * (a * n) := Int.mul_assoc _ _ _
  rw [w64 (x := a * n) (by omega) (by omega), w64 (x := 2 * a) (by omega) (by omega), h2, w64 (x := 2 * (a * n)) (by omega) (by omega), w64 (x := a * n * 2) (by omega) (by omega), w64 (x := p - n) (by omega) (by omega), Int.mul_comm (a * n) 2, w64 (by omega) (by omega)]
  exact ⟨rfl, rfl, rfl⟩
theorem shorn_eq {i a d w p n : Int} (h : wetB i a d w p = true) (hd : dryB d w = true) (hn : 0 ≤ n ∧ n ≤ 20) : spec_l18Shorn.f i a d w p n = some (i, a, d - 2 * a * n, w, p - n, wetB i a (d - 2 * a * n) w (p - n)) := by
  have hw := wet_of h
  obtain ⟨h1, h2, h3⟩ := shorn_w h hn
  unfold spec_l18Shorn.f
  rw [l18Dry_eq (by omega), hd, h1, h3, l18One_eq]
  rfl
theorem sheared_eq {i a d w p n : Int} (h : wetB i a d w p = true) (hn : 0 ≤ n ∧ n ≤ 20) : impl_WetCarpet_sheared.f i a d w p n = some (i, a, d - 2 * a * n, w, p - n) := by
  obtain ⟨h1, h2, h3⟩ := shorn_w h hn
  unfold impl_WetCarpet_sheared.f
  rw [h2, h3]
def shearM (i a d w p : Int) : Int × Bool := if wetB i a d w p && dryB d w then ((downM (fun n => wetB i a (d - 2 * a * n) w (p - n)) 20 : Nat), true) else (0, false)
theorem shearS_eq {k : Nat} (hk : 30 < k) (i a d w p : Int) : spec_MostShear.f k i a d w p = some (shearM i a d w p) := by
  obtain ⟨k, rfl, hk2⟩ := succ_of hk
  simp only [spec_MostShear.f, l18One_eq, Option.bind_some, shearM]
  cases hw : wetB i a d w p
  · simp [spec_MostShear.j0]
  have hw' := wet_of hw
  rw [l18Dry_eq (by omega)]
  cases hd : dryB d w
  · simp [spec_MostShear.j0]
  simp only [if_true, spec_MostShear.j0, Option.bind_some, Bool.not_true, Bool.false_eq_true, if_false, Bool.and_self]
  have := up_loop (fun k x n => spec_MostShear.l0 k x n i a d w p) (fun c => some (c, true)) (fun n => wetB i a (d - 2 * a * n) w (p - n)) 20 (by omega)
    (fun k x j h1 h2 => by simp only [spec_MostShear.l0]; rw [if_pos (by omega), shorn_eq hw hd (by omega)]; rfl)
    (fun k x j h1 => by simp only [spec_MostShear.l0]; rw [if_neg (by omega)])
    20 k 0 rfl (by omega)
  simpa [downM] using this
theorem shearI_eq {k : Nat} (hk : 30 < k) (i a d w p : Int) : impl_MostShear.f k i a d w p = some (shearM i a d w p) := by
  obtain ⟨k, rfl, hk2⟩ := succ_of hk
  simp only [impl_MostShear.f, IsWetCarpet_eq, Option.bind_some, shearM]
  cases hw : wetB i a d w p
  · simp [impl_MostShear.j0]
  have hw' := wet_of hw
  rw [isDry_eq (by omega)]
  cases hd : dryB d w
  · simp [impl_MostShear.j0]
  simp only [if_true, impl_MostShear.j0, Option.bind_some, Bool.not_true, Bool.false_eq_true, if_false, Bool.and_self]
  exact down_loop (fun k n => impl_MostShear.l0 k n i a d w p) (fun c => some (c, true)) (fun n => wetB i a (d - 2 * a * n) w (p - n)) 20 (by omega)
    (fun k j h1 => by
      simp only [impl_MostShear.l0]
      rw [sheared_eq hw (by omega)]
      simp only [Option.bind_some, IsWetCarpet_eq])
    (by simpa using hw) 20 k (by omega) (by omega)

end Go.Proofs.Ytdennkmfjkgfhaa.Pure

-- Qhours
namespace Go.Proofs.Ytdennkmfjkgfhaa.Pure
open Go Go.RowKit Go.Proofs Go.Proofs.Ytdennkmfjkgfhaa.X Go.Proofs.YtdennkmfjkgfhaaW.PrintWords Go.Proofs.YtdennkmfjkgfhaaW.PrintLast
set_option linter.unusedVariables false
set_option linter.unusedSimpArgs false

def posI (x : Int) : Int := if x < 0 then 0 else x
theorem most0_eq (x : Int) : spec_l1Most.f 0 x = some (posI x) := by
  unfold spec_l1Most.f posI
  (repeat' split) <;> simp <;> omega
theorem mx0_eq (x : Int) : mx 0 x = posI x := by
  unfold mx posI
  (repeat' split) <;> omega
theorem posI_bd {x B : Int} (h : x ≤ B) (hB : 0 ≤ B) : 0 ≤ posI x ∧ posI x ≤ B := by unfold posI; split <;> omega
/-- what dries in an hour -/
def hourlyM (a g : Int) : Int := a * g / 10
theorem hourly_w {a g : Int} (ha : 1 ≤ a ∧ a ≤ 4000) (hg : 5 ≤ g ∧ g ≤ 40) : wrap64 (Int.tdiv (wrap64 (a * g)) 10) = hourlyM a g ∧ 0 ≤ hourlyM a g ∧ hourlyM a g ≤ 16000 := by
  have h1 := mul_bd (a := a) (b := g) (A := 4000) (B := 40) (by omega) (by omega) (by omega) (by omega)
  unfold hourlyM
  rw [w64 (x := a * g) (by omega) (by omega), Int.tdiv_eq_ediv_of_nonneg (by omega), w64 (by omega) (by omega)]
  exact ⟨rfl, by omega, by omega⟩
theorem l18Hour_eq {i a d w p g : Int} (ha : 1 ≤ a ∧ a ≤ 4000) (hg : 5 ≤ g ∧ g ≤ 40) (hw : 0 ≤ w ∧ w ≤ 400000) : spec_l18Hour.f i a d w p g = some (i, a, d, posI (w - hourlyM a g), p) := by
  obtain ⟨h1, h2, h3⟩ := hourly_w ha hg
  unfold spec_l18Hour.f
  rw [h1, w64 (x := w - hourlyM a g) (by omega) (by omega), most0_eq]
  rfl
theorem hourly_eq {i a d w p g : Int} (ha : 1 ≤ a ∧ a ≤ 4000) (hg : 5 ≤ g ∧ g ≤ 40) : impl_WetCarpet_hourly.f i a d w p g = some (hourlyM a g) := by
  obtain ⟨h1, h2, h3⟩ := hourly_w ha hg
  unfold impl_WetCarpet_hourly.f
  rw [h1]
def degreesB (g : Int) : Bool := decide (5 ≤ g ∧ g ≤ 40)
theorem l18Degrees_eq (g : Int) : spec_l18Degrees.f g = some (degreesB g) := by simp only [spec_l18Degrees.f, l1In_eq, Option.bind_some, degreesB]
theorem isDegrees_eq (g : Int) : impl_isDegrees.f g = some (degreesB g) := by simp only [impl_isDegrees.f, in_eq, Option.bind_some, degreesB]
end Go.Proofs.Ytdennkmfjkgfhaa.Pure

-- Qwetlist
namespace Go.Proofs.Ytdennkmfjkgfhaa.Pure
open Go Go.RowKit Go.Proofs Go.Proofs.Ytdennkmfjkgfhaa.X Go.Proofs.YtdennkmfjkgfhaaW.PrintWords Go.Proofs.YtdennkmfjkgfhaaW.PrintLast
set_option linter.unusedVariables false
set_option linter.unusedSimpArgs false

theorem rdIW_nat (l : List S25) (i : Nat) : rd_T25 l (i : Int) = l.getD i z25 := by simp [rd_T25]
end Go.Proofs.Ytdennkmfjkgfhaa.Pure

-- Qidxall
namespace Go.Proofs.Ytdennkmfjkgfhaa.Pure
open Go Go.RowKit Go.Proofs Go.Proofs.YtdennkmfjkgfhaaW.PrintWords Go.Proofs.YtdennkmfjkgfhaaW.PrintLast
set_option linter.unusedVariables false
set_option linter.unusedSimpArgs false

/-- q at all numbers from i on, n of them -/
def allR (q : Nat → Bool) (i n : Nat) : Bool := (List.range' i n).all q
theorem allR_iff {q : Nat → Bool} {i n : Nat} : allR q i n = true ↔ ∀ j, i ≤ j → j < i + n → q j = true := by
  unfold allR
  rw [List.all_eq_true]
  exact ⟨fun h j h1 h2 => h j (List.mem_range'_1.mpr ⟨h1, h2⟩), fun h j hj => h j (List.mem_range'_1.mp hj).1 (List.mem_range'_1.mp hj).2⟩
theorem allR_succ (q : Nat → Bool) (i n : Nat) : allR q i (n + 1) = (q i && allR q (i + 1) n) := by
  unfold allR; rw [List.range'_succ, List.all_cons]
/-- A loop that asks of all numbers, from i on. -/
theorem idx_loop (L : Nat → Int → Option Bool) (q : Nat → Bool) (i0 n0 : Nat) (e : Bool) (hb : n0 ≤ 9223372036854775806)
    (hs : ∀ k (i : Nat), i0 ≤ i → i < n0 → L (k + 1) i = if q i = true then L k (wrap64 ((i : Int) + 1)) else some false) (he : ∀ k (i : Nat), n0 ≤ i → L (k + 1) i = some e) :
    ∀ n k (i : Nat), i0 ≤ i → i + n = n0 → n < k → L k i = some (allR q i n && e) := by
  intro n
  induction n with
  | zero =>
    intro k i h0 hi hk
    obtain ⟨k, rfl, _⟩ := succ_of hk
    rw [he k i (by omega)]; simp [allR]
  | succ n ih =>
    intro k i h0 hi hk
    obtain ⟨k, rfl, hk⟩ := succ_of hk
    rw [hs k i h0 (by omega), wstep (show i < n0 by omega) (by omega), allR_succ, ih k (i + 1) (by omega) (by omega) (by omega)]
    cases q i <;> simp
theorem all_getD {α : Type} {p : α → Bool} {l : List α} (d : α) : l.all p = true ↔ ∀ j, j < l.length → p (l.getD j d) = true := by
  rw [List.all_eq_true]
  constructor
  · intro h j hj
    rw [List.getD_eq_getElem?_getD, List.getElem?_eq_getElem hj]
    exact h _ (List.getElem_mem hj)
  · intro h x hx
    obtain ⟨j, hj, rfl⟩ := List.mem_iff_getElem.mp hx
    have := h j hj
    rwa [List.getD_eq_getElem?_getD, List.getElem?_eq_getElem hj] at this
end Go.Proofs.Ytdennkmfjkgfhaa.Pure

-- Qwets
namespace Go.Proofs.Ytdennkmfjkgfhaa.Pure
open Go Go.RowKit Go.Proofs Go.Proofs.Ytdennkmfjkgfhaa.X Go.Proofs.YtdennkmfjkgfhaaW.PrintWords Go.Proofs.YtdennkmfjkgfhaaW.PrintLast
set_option linter.unusedVariables false
set_option linter.unusedSimpArgs false

def wetS (x : S25) : Bool := wetB x.f0 x.f1 x.f2 x.f3 x.f4
/-- the one before has the lower number -/
def ascW (l : List S25) (j : Nat) : Bool := decide ((l.getD (j - 1) z25).f0 < (l.getD j z25).f0)
def wetsB (l : List S25) : Bool := decide (l.length ≤ 10) && (l.all wetS && allR (ascW l) 1 (l.length - 1))
theorem rdW_nat (l : List S25) (i : Nat) : rd_T25 l (i : Int) = l.getD i z25 := by simp [rd_T25]
theorem goodW_eq {k : Nat} {l : List S25} (hk : l.length < k) (hl : l.length ≤ 1073741824) : spec_l18Good.f k l = some (wetsB l) := by
  unfold spec_l18Good.f
  have h := idx_loop (fun k i => spec_l18Good.l0 k l i) (fun j => wetS (l.getD j z25) && (decide (j = 0) || ascW l j)) 0 l.length (decide ((l.length : Int) ≤ 10)) (by omega)
    (fun k i _ h1 => by
      simp only [spec_l18Good.l0]
      rw [if_pos (by omega), if_pos (by omega), l18One_eq, rdW_nat]
      simp only [Option.bind_some]
      show (if wetS (l.getD i z25) = true then _ else _) = _
      cases wetS (l.getD i z25)
      · simp
      by_cases hi : i = 0
      · subst hi; simp
      · rw [if_pos rfl, if_pos (by omega), w64 (x := (i : Int) - 1) (by omega) (by omega), if_pos (by omega), if_pos (by omega), show (i : Int) - 1 = ((i - 1 : Nat) : Int) by omega, rdW_nat]
        by_cases hc : (l.getD (i - 1) z25).f0 < (l.getD i z25).f0
        · rw [if_neg (by omega)]; simp only [ascW, hc, decide_true, Bool.or_true, Bool.and_self, if_true]
        · rw [if_pos (by omega)]; simp only [ascW, hc, decide_false, Bool.or_false, hi, Bool.and_false, Bool.false_eq_true, if_false])
    (fun k i h1 => by simp only [spec_l18Good.l0]; rw [if_neg (by omega)])
    l.length k 0 (by omega) (by omega) hk
  refine h.trans (congrArg some ?_)
  unfold wetsB
  have e1 : decide ((l.length : Int) ≤ 10) = decide (l.length ≤ 10) := by
    congr 1; exact propext ⟨fun h => by omega, fun h => by omega⟩
  rw [e1, Bool.and_comm]
  congr 1
  rw [Bool.eq_iff_iff, Bool.and_eq_true, allR_iff, allR_iff, all_getD z25]
  constructor
  · intro h
    refine ⟨fun j hj => ?_, fun j h1 h2 => ?_⟩
    · have := h j (by omega) (by omega)
      rw [Bool.and_eq_true] at this; exact this.1
    · have := h j (by omega) (by omega)
      rw [Bool.and_eq_true, Bool.or_eq_true] at this
      rcases this.2 with h3 | h3
      · have := of_decide_eq_true h3; omega
      · exact h3
  · intro h j h1 h2
    rw [Bool.and_eq_true, Bool.or_eq_true]
    refine ⟨h.1 j (by omega), ?_⟩
    by_cases hj : j = 0
    · exact .inl (by simp [hj])
    · exact .inr (h.2 j (by omega) (by omega))
theorem AreWetCarpets_eq {k : Nat} {l : List S25} (hk : l.length < k) (hl : l.length ≤ 1073741824) : impl_AreWetCarpets.f k l = some (wetsB l) := by
  unfold impl_AreWetCarpets.f
  by_cases h10 : (10 : Int) < l.length
  · rw [if_neg (by omega)]; unfold wetsB; simp [show ¬ l.length ≤ 10 by omega]
  rw [if_pos (by omega)]
  simp only [impl_WetCarpet__impl_IsWetCarpet.f]
  rw [Ho.allO_eq (q := wetS) (fun x _ => IsWetCarpet_eq _ _ _ _ _)]
  simp only [Option.bind_some]
  unfold wetsB
  rw [show decide (l.length ≤ 10) = true by simp; omega]
  cases hall : l.all wetS
  · simp
  simp only [if_true, Bool.true_and]
  by_cases h0 : l.length = 0
  · obtain ⟨k, rfl, _⟩ := succ_of hk
    simp only [impl_WetCarpet__impl_AreWetCarpets_1.f, impl_WetCarpet__impl_AreWetCarpets_1.l0]
    rw [if_neg (by omega), h0]; simp [allR]
  have h := idx_loop (fun k i => impl_WetCarpet__impl_AreWetCarpets_1.l0 k l i) (ascW l) 1 l.length true (by omega)
    (fun k i h0 h1 => by
      simp only [impl_WetCarpet__impl_AreWetCarpets_1.l0, impl_AreWetCarpets_1.f, Option.bind_some]
      rw [if_pos (by omega), w64 (x := (i : Int) - 1) (by omega) (by omega), if_pos (by omega), if_pos (by omega), show (i : Int) - 1 = ((i - 1 : Nat) : Int) by omega, rdW_nat, rdW_nat, if_pos (by omega)]
      by_cases hc : (l.getD (i - 1) z25).f0 < (l.getD i z25).f0
      · rw [if_neg (by omega)]; simp only [ascW, hc, decide_true, if_true]
      · rw [if_pos (by omega)]; simp only [ascW, hc, decide_false, Bool.false_eq_true, if_false])
    (fun k i h1 => by simp only [impl_WetCarpet__impl_AreWetCarpets_1.l0]; rw [if_neg (by omega)])
    (l.length - 1) k 1 (by omega) (by omega) (by omega)
  unfold impl_WetCarpet__impl_AreWetCarpets_1.f
  rw [show ((1 : Nat) : Int) = 1 from rfl] at h
  rw [h]; simp
theorem wets_of {l : List S25} (h : wetsB l = true) : l.length ≤ 10 ∧ ∀ x ∈ l, wetS x = true := by
  simp only [wetsB, Bool.and_eq_true, decide_eq_true_eq, List.all_eq_true] at h
  exact ⟨h.1, h.2.1⟩

end Go.Proofs.Ytdennkmfjkgfhaa.Pure

-- Qdry
namespace Go.Proofs.Ytdennkmfjkgfhaa.Pure
open Go Go.RowKit Go.Proofs Go.Proofs.Ytdennkmfjkgfhaa.X Go.Proofs.YtdennkmfjkgfhaaW.PrintWords Go.Proofs.YtdennkmfjkgfhaaW.PrintLast
set_option linter.unusedVariables false
set_option linter.unusedSimpArgs false

theorem posI_nn {x : Int} (h : 0 ≤ x) : posI x = x := by unfold posI; split <;> omega
theorem posI_sub {a m : Int} (h : 0 ≤ m) : posI (posI a - m) = posI (a - m) := by unfold posI; (repeat' split) <;> omega
/-- a carpet after some hours -/
def dryX (g H : Int) (x : S25) : S25 := ⟨x.f0, x.f1, x.f2, posI (x.f3 - H * hourlyM x.f1 g), x.f4⟩
def dryIds (l : List S25) : List Int := (l.filter fun x => dryB x.f2 x.f3).map fun x => x.f0
def dryM (l : List S25) (g H : Int) : List S25 × List Int × Bool :=
  if wetsB l && (degreesB g && decide (0 ≤ H ∧ H ≤ 100)) then (l.map (dryX g H), dryIds (l.map (dryX g H)), true) else ([], [], false)
theorem dryIds_cons (x : S25) (l : List S25) : dryIds (x :: l) = if dryB x.f2 x.f3 = true then x.f0 :: dryIds l else dryIds l := by
  unfold dryIds; rw [List.filter_cons]; split <;> simp
theorem dryIds_len (l : List S25) : (dryIds l).length ≤ l.length := by
  unfold dryIds; rw [List.length_map]; exact List.length_filter_le _ _
theorem dryM_len (l : List S25) (g H : Int) : (dryM l g H).1.length ≤ l.length ∧ (dryM l g H).2.1.length ≤ l.length := by
  unfold dryM; split
  · have := dryIds_len (l.map (dryX g H)); simp only [List.length_map] at this ⊢; exact ⟨Nat.le_refl _, this⟩
  · simp
theorem hours_w {a g H : Int} (ha : 1 ≤ a ∧ a ≤ 4000) (hg : 5 ≤ g ∧ g ≤ 40) (hH : 0 ≤ H ∧ H ≤ 100) : 0 ≤ H * hourlyM a g ∧ H * hourlyM a g ≤ 1600000 := by
  obtain ⟨_, h2, h3⟩ := hourly_w ha hg
  have := mul_bd (a := H) (b := hourlyM a g) (A := 100) (B := 16000) hH.1 hH.2 h2 h3
  omega
theorem dryS_eq {k : Nat} {l : List S25} (hk : 300 * l.length + 300 < k) (hl : l.length ≤ 1073741824) (g H : Int) : spec_DryCarpets.f k l g H = some (dryM l g H) := by
  obtain ⟨k, rfl, hk2⟩ := succ_of hk
  simp only [spec_DryCarpets.f, spec_DryCarpets.j0, Option.bind_some, goodW_eq (k := k + 1) (l := l) (by omega) hl, l18Degrees_eq, l1In_eq, dryM]
  cases hw : wetsB l
  · simp
  cases hg : degreesB g
  · simp
  cases hH : decide (0 ≤ H ∧ H ≤ 100)
  · simp
  have hg := of_decide_eq_true hg; have hH := of_decide_eq_true hH; have h10 := wets_of hw
  simp only [if_true, Bool.not_true, Bool.false_eq_true, if_false, Bool.and_self]
  obtain ⟨hn, rfl⟩ := nat_of hH.1
  have inner : ∀ (m k : Nat) (c w : Int) (out : List S25) (dry : List Int) (i : Int) (id a d p : Int), c + m = hn → 0 ≤ c → (1 ≤ a ∧ a ≤ 4000) → (0 ≤ w ∧ w ≤ 400000) →
      spec_DryCarpets.l1 (k + m) l g (hn : Int) out dry i c id a d w p = spec_DryCarpets.l1 k l g (hn : Int) out dry i (hn : Int) id a d (posI (w - m * hourlyM a g)) p := by
    intro m
    induction m with
    | zero =>
      intro k c w out dry i id a d p hc h0 ha hw
      rw [show c = hn by omega, show ((0 : Nat) : Int) * hourlyM a g = 0 by simp, Int.sub_zero, posI_nn hw.1]; rfl
    | succ m ih =>
      intro k c w out dry i id a d p hc h0 ha hw
      obtain ⟨e1, e2, e3⟩ := hourly_w (a := a) (g := g) ha hg
      show spec_DryCarpets.l1 (k + m + 1) l g (hn : Int) out dry i c id a d w p = _
      rw [spec_DryCarpets.l1]
      rw [if_pos (by omega), l18Hour_eq ha hg hw]
      simp only [Option.bind_some]
      rw [w64 (x := c + 1) (by omega) (by omega), ih k (c + 1) _ out dry i id a d p (by omega) (by omega) ha (posI_bd (by omega) (by omega))]
      have hm : 0 ≤ (m : Int) * hourlyM a g := Int.mul_nonneg (by omega) e2
      rw [posI_sub hm]
      congr 2
      push_cast
      rw [Int.add_mul, Int.one_mul]; omega
  have outer : ∀ (n k i : Nat) (out : List S25) (dry : List Int), i + n = l.length → 300 * n + 300 ≤ k → out.length = i → dry.length ≤ i →
      spec_DryCarpets.l0 k l g (hn : Int) out dry (i : Int) = some (out ++ (l.drop i).map (dryX g hn), dry ++ dryIds ((l.drop i).map (dryX g hn)), true) := by
    intro n
    induction n with
    | zero =>
      intro k i out dry hi hk ho hd
      obtain ⟨k, rfl, _⟩ := succ_of (show 0 < k by omega)
      rw [spec_DryCarpets.l0]
      rw [if_neg (by omega), List.drop_eq_nil_of_le (by omega)]
      simp [dryIds]
    | succ n ih =>
      intro k i out dry hi hk ho hd
      obtain ⟨k, rfl, hk'⟩ := succ_of (show 0 < k by omega)
      obtain ⟨k, rfl⟩ : ∃ k2, k = k2 + 1 + hn := ⟨k - 1 - hn, by omega⟩
      have hlt : i < l.length := by omega
      have hm : l.getD i z25 ∈ l := by rw [List.getD_eq_getElem?_getD, List.getElem?_eq_getElem hlt]; exact List.getElem_mem hlt
      have hx := wet_of (h10.2 _ hm)
      rw [spec_DryCarpets.l0]
      rw [if_pos (by omega), if_pos (by omega), rdIW_nat]
      rw [inner hn (k + 1) 0 _ out dry _ _ _ _ _ (by omega) (by omega) (by omega) (by omega)]
      rw [spec_DryCarpets.l1]
      have hh := hours_w (a := (l.getD i z25).f1) (g := g) (H := hn) (by omega) hg hH
      have hp := posI_bd (x := (l.getD i z25).f3 - hn * hourlyM (l.getD i z25).f1 g) (B := 400000) (by omega) (by omega)
      rw [if_neg (by omega), if_pos (by omega)]
      simp only [Option.bind_some]
      rw [l18Dry_eq hp]
      simp only [Option.bind_some]
      rw [wstep hlt (by omega), drop_step hlt z25, List.map_cons, dryIds_cons]
      have e : (⟨(l.getD i z25).f0, (l.getD i z25).f1, (l.getD i z25).f2, posI ((l.getD i z25).f3 - hn * hourlyM (l.getD i z25).f1 g), (l.getD i z25).f4⟩ : S25) = dryX g hn (l.getD i z25) := rfl
      rw [e]
      show (if dryB (dryX g hn (l.getD i z25)).f2 (dryX g hn (l.getD i z25)).f3 = true then _ else _) = _
      cases hd' : dryB (dryX g hn (l.getD i z25)).f2 (dryX g hn (l.getD i z25)).f3
      · simp only [Bool.false_eq_true, if_false]
        rw [ih k (i + 1) _ dry (by omega) (by omega) (by simp [ho]) (by omega), List.append_assoc]; rfl
      · simp only [if_true]
        rw [if_pos (by omega), ih k (i + 1) _ _ (by omega) (by omega) (by simp [ho]) (by simp; omega), List.append_assoc, List.append_assoc]; rfl
  have := outer l.length k 0 [] [] (by omega) (by omega) rfl (by simp)
  simpa using this
theorem dryI_eq {k : Nat} {l : List S25} (hk : l.length + 1 < k) (hl : l.length ≤ 1073741824) (g H : Int) : impl_DryCarpets.f k l g H = some (dryM l g H) := by
  obtain ⟨k, rfl, hk2⟩ := succ_of hk
  simp only [impl_DryCarpets.f, impl_DryCarpets.j0, Option.bind_some, AreWetCarpets_eq (k := k + 1) (l := l) (by omega) hl, isDegrees_eq, in_eq, dryM]
  cases hw : wetsB l
  · simp
  cases hg : degreesB g
  · simp
  cases hH : decide (0 ≤ H ∧ H ≤ 100)
  · simp
  have hg := of_decide_eq_true hg; have hH := of_decide_eq_true hH; have h10 := wets_of hw
  simp only [if_true, Bool.not_true, Bool.false_eq_true, if_false, Bool.and_self, impl_WetCarpet_77.f, List.length_nil, Nat.zero_add, List.nil_append, Option.bind_some]
  rw [if_pos (by omega)]
  simp only [Option.bind_some]
  have outer : ∀ (n k i : Nat) (dry : List Int), i + n = l.length → n < k → dry.length ≤ i →
      impl_DryCarpets.l0 k g H ((l.take i).map (dryX g H) ++ l.drop i) dry l (l.length : Int) (i : Int) = some (l.map (dryX g H), dry ++ dryIds ((l.drop i).map (dryX g H)), true) := by
    intro n
    induction n with
    | zero =>
      intro k i dry hi hk hd
      obtain ⟨k, rfl, _⟩ := succ_of hk
      rw [impl_DryCarpets.l0]
      rw [if_neg (by omega), List.drop_eq_nil_of_le (by omega), List.take_of_length_le (by omega)]
      simp [dryIds]
    | succ n ih =>
      intro k i dry hi hk hd
      obtain ⟨k, rfl, hk⟩ := succ_of hk
      have hlt : i < l.length := by omega
      have hm : l.getD i z25 ∈ l := by rw [List.getD_eq_getElem?_getD, List.getElem?_eq_getElem hlt]; exact List.getElem_mem hlt
      have hx := wet_of (h10.2 _ hm)
      have hlen : ((l.take i).map (dryX g H)).length = i := by rw [List.length_map, List.length_take]; omega
      have e1 : ((l.take i).map (dryX g H) ++ l.drop i).getD i z25 = l.getD i z25 := by
        rw [List.getD_eq_getElem?_getD, List.getElem?_append_right (by omega), hlen, Nat.sub_self, List.getElem?_drop, Nat.add_zero, ← List.getD_eq_getElem?_getD]
      have e2 : ((l.take i).map (dryX g H) ++ l.drop i).length = l.length := by rw [List.length_append, hlen, List.length_drop]; omega
      have e3 : ∀ v, ((l.take i).map (dryX g H) ++ l.drop i).set i v = (l.take i).map (dryX g H) ++ v :: l.drop (i + 1) := by
        intro v
        rw [List.set_append_right _ _ (by omega), hlen, Nat.sub_self, drop_step hlt z25]; rfl
      have e4 : (l.take (i + 1)).map (dryX g H) ++ l.drop (i + 1) = (l.take i).map (dryX g H) ++ dryX g H (l.getD i z25) :: l.drop (i + 1) := by
        rw [List.take_succ_eq_append_getElem hlt, List.map_append, List.append_assoc]
        simp [List.getD_eq_getElem?_getD, List.getElem?_eq_getElem hlt]
      have hh := hours_w (a := (l.getD i z25).f1) (g := g) (H := H) (by omega) hg hH
      have hp := posI_bd (x := (l.getD i z25).f3 - H * hourlyM (l.getD i z25).f1 g) (B := 400000) (by omega) (by omega)
      rw [impl_DryCarpets.l0]
      simp only [rdIW_nat, e1, e2, Int.toNat_natCast]
      rw [if_pos (by omega), if_pos (by omega), if_pos (by omega), hourly_eq (by omega) hg]
      simp only [Option.bind_some]
      rw [if_pos (by omega), w64 (x := H * _) (by omega) (by omega), w64 (x := _ - H * _) (by omega) (by omega), mx0_eq, isDry_eq hp]
      simp only [Option.bind_some]
      have e : (⟨(l.getD i z25).f0, (l.getD i z25).f1, (l.getD i z25).f2, posI ((l.getD i z25).f3 - H * hourlyM (l.getD i z25).f1 g), (l.getD i z25).f4⟩ : S25) = dryX g H (l.getD i z25) := rfl
      rw [e, e3, ← e4, wstep hlt (by omega), drop_step hlt z25, List.map_cons, dryIds_cons]
      show (if dryB (dryX g H (l.getD i z25)).f2 (dryX g H (l.getD i z25)).f3 = true then _ else _) = _
      cases hd' : dryB (dryX g H (l.getD i z25)).f2 (dryX g H (l.getD i z25)).f3
      · simp only [Bool.false_eq_true, if_false]
        exact ih k (i + 1) dry (by omega) (by omega) (by omega)
      · simp only [if_true]
        rw [if_pos (by omega), ih k (i + 1) _ (by omega) (by omega) (by simp; omega), List.append_assoc]; rfl
  have := outer l.length k 0 [] (by omega) (by omega) (by simp)
  simpa using this

end Go.Proofs.Ytdennkmfjkgfhaa.Pure

-- Qfindw
namespace Go.Proofs.Ytdennkmfjkgfhaa.Pure
open Go Go.RowKit Go.Proofs Go.Proofs.Ytdennkmfjkgfhaa.X Go.Proofs.YtdennkmfjkgfhaaW.PrintWords Go.Proofs.YtdennkmfjkgfhaaW.PrintLast
set_option linter.unusedVariables false
set_option linter.unusedSimpArgs false

def findW (l : List S25) (n : Int) : Int := if wetsB l then (match l.findIdx? (fun x => x.f0 == n) with | some j => (j : Int) | none => -1) else -1
theorem findW_of {l : List S25} {n : Int} (h : 0 ≤ findW l n) : ∃ j : Nat, findW l n = j ∧ j < l.length ∧ (l.getD j z25).f0 = n ∧ wetsB l = true ∧ wetS (l.getD j z25) = true := by
  unfold findW at h ⊢
  cases hw : wetsB l
  · simp [hw] at h
  simp only [hw, if_true] at h ⊢
  cases hf : l.findIdx? (fun x => x.f0 == n) with
  | none => simp [hf] at h
  | some j =>
    obtain ⟨hj, h1, _⟩ := List.findIdx?_eq_some_iff_getElem.mp hf
    have e : l.getD j z25 = l[j] := by simp [List.getD_eq_getElem?_getD, List.getElem?_eq_getElem hj]
    refine ⟨j, rfl, hj, ?_, by trivial, ?_⟩
    · rw [e]; simpa using h1
    · rw [e]; exact (wets_of hw).2 _ (List.getElem_mem hj)
theorem findW_none {l : List S25} {n : Int} (h : ¬ 0 ≤ findW l n) : findW l n = -1 := by
  unfold findW at h ⊢
  cases hw : wetsB l
  · simp
  simp only [hw, if_true] at h ⊢
  cases hf : l.findIdx? (fun x => x.f0 == n) with
  | none => rfl
  | some j => simp [hf] at h
theorem findWI_eq {k : Nat} {l : List S25} (hk : l.length < k) (hl : l.length ≤ 1073741824) (n : Int) : impl_findCarpet.f k l n = some (findW l n) := by
  simp only [impl_findCarpet.f, AreWetCarpets_eq hk hl, Option.bind_some, findW]
  cases hw : wetsB l
  · simp
  simp only [if_true, impl_WetCarpet__impl_findCarpet_1.f]
  simp only [impl_findCarpet_1.f]
  rw [Ho.idxO_eq (p := fun x : S25 => some (x.f0 == n)) (q := fun x => x.f0 == n) (fun x _ => rfl)]
  simp only [Option.bind_some]
  cases l.findIdx? (fun x => x.f0 == n) with
  | none => rfl
  | some j => simp
theorem withWI_eq {l : List S25} (hl : l.length ≤ 1073741824) {j : Nat} (hj : j < l.length) (a b c d e : Int) : impl_withCarpet.f l (j : Int) a b c d e = some (l.set j ⟨a, b, c, d, e⟩) := by
  simp only [impl_withCarpet.f, Option.bind_some, impl_WetCarpet_77.f, List.length_nil, Nat.zero_add, List.nil_append, Int.toNat_natCast]
  rw [if_pos (by omega)]
  simp only [Option.bind_some]
  rw [if_pos (by omega), if_pos (by omega)]

end Go.Proofs.Ytdennkmfjkgfhaa.Pure

-- Qsomecur
namespace Go.Proofs.Ytdennkmfjkgfhaa.Pure
open Go Go.RowKit Go.Proofs Go.Proofs.Ytdennkmfjkgfhaa.X Go.Proofs.YtdennkmfjkgfhaaW.PrintWords Go.Proofs.YtdennkmfjkgfhaaW.PrintLast
set_option linter.unusedVariables false
set_option linter.unusedSimpArgs false

theorem tdiv11 {t : Int} (h : 0 ≤ t ∧ t < 24) : wrap64 (Int.tdiv t 11) = t / 11 := by
  rw [Int.tdiv_eq_ediv_of_nonneg h.1]; exact w64 (by omega) (by omega)
/-- an element of the front of a list, how much of it is drawn -/
theorem some_ex {s : List Int} {p b : Int} (h : Int) (xs : List Int) (hs : curOk s) (hp : 0 ≤ p ∧ p ≤ 900000) (hb : 1 ≤ b ∧ b + 2 ≤ xs.length) (hx : xs.length ≤ 1000) : ∃ t p1 h1 v p2 h2, spec_l1Cur_pick.f s p h 24 = some (t, p1, h1) ∧ 0 ≤ wrap64 (b + wrap64 (Int.tdiv t 11)) ∧ wrap64 (b + wrap64 (Int.tdiv t 11)) ≤ (xs.length : Int) ∧ spec_l1Cur_among.f s p1 h1 (xs.take (wrap64 (b + wrap64 (Int.tdiv t 11))).toNat) = some (v, p2, h2) ∧ p ≤ p2 ∧ p2 ≤ p + 4 := by
  obtain ⟨t, p1, h1, e1, b1, b2, b3⟩ := pick_ex h hs (p := p) (n := 24) (by omega) (by omega)
  have b4 := b3 (by omega)
  have ht := tdiv11 (t := t) (by omega)
  have hw : wrap64 (b + wrap64 (Int.tdiv t 11)) = b + t / 11 := by rw [ht]; exact w64 (by omega) (by omega)
  have hl : (xs.take (b + t / 11).toNat).length = (b + t / 11).toNat := by rw [List.length_take]; omega
  obtain ⟨v, p2, h2, e2, b5, _⟩ := among_ex h1 (xs.take (b + t / 11).toNat) hs (p := p1) (by omega) (by omega)
  exact ⟨t, p1, h1, v, p2, h2, e1, by omega, by omega, by rw [hw]; exact e2, by omega, by omega⟩

end Go.Proofs.Ytdennkmfjkgfhaa.Pure

-- Qspins
namespace Go.Proofs.Ytdennkmfjkgfhaa.Pure
open Go Go.RowKit Go.Proofs Go.Proofs.Ytdennkmfjkgfhaa.X Go.Proofs.YtdennkmfjkgfhaaW.PrintWords Go.Proofs.YtdennkmfjkgfhaaW.PrintLast
set_option linter.unusedVariables false
set_option linter.unusedSimpArgs false

/-- how often the water is halved until it is at most x -/
def spinsF : Nat → Int → Int → Int
  | 0, _, _ => 0
  | n + 1, x, w => if w > x then 1 + spinsF n x (w / 2) else 0
theorem spinsF_bd : ∀ (n : Nat) (x w : Int), 0 ≤ spinsF n x w ∧ spinsF n x w ≤ n
  | 0, _, _ => by simp [spinsF]
  | n + 1, x, w => by
    have := spinsF_bd n x (w / 2)
    simp only [spinsF]
    split <;> omega
theorem spins_loop {α : Type} (L : Nat → Int → Int → Option α) (r : Int → Option α) (x : Int) (hx : 0 ≤ x) (hs : ∀ k c w, w > x → L (k + 1) c w = L k (wrap64 (c + 1)) (wrap64 (Int.tdiv w 2))) (he : ∀ k c w, ¬ w > x → L (k + 1) c w = r c) :
    ∀ (n : Nat) (w c : Int) k, 0 ≤ w → w.toNat ≤ n → n < k → n ≤ 400000 → 0 ≤ c → c + n ≤ 400000 → L k c w = r (c + spinsF n x w) := by
  intro n
  induction n with
  | zero =>
    intro w c k h0 hn hk _ hc hcn
    obtain ⟨k, rfl, _⟩ := succ_of hk
    rw [he k c w (by omega)]; simp [spinsF]
  | succ n ih =>
    intro w c k h0 hn hk hb hc hcn
    obtain ⟨k, rfl, hk⟩ := succ_of hk
    simp only [spinsF]
    by_cases hw : w > x
    · rw [hs k c w hw, if_pos hw, Int.tdiv_eq_ediv_of_nonneg h0, w64 (x := c + 1) (by omega) (by omega), w64 (x := w / 2) (by omega) (by omega)]
      rw [ih (w / 2) (c + 1) k (by omega) (by omega) (by omega) (by omega) (by omega) (by omega)]
      rw [Int.add_assoc]
    · rw [he k c w hw, if_neg hw, Int.add_zero]
def spinsM (i a d w p x : Int) : Int × Bool := if wetB i a d w p && decide (0 ≤ x ∧ x ≤ 400000) then (spinsF w.toNat x w, true) else (0, false)
theorem spinsS_eq {k : Nat} (hk : 400002 < k) (i a d w p x : Int) : spec_FewestSpins.f k i a d w p x = some (spinsM i a d w p x) := by
  obtain ⟨k, rfl, hk2⟩ := succ_of hk
  simp only [spec_FewestSpins.f, l18One_eq, l1In_eq, Option.bind_some, spinsM]
  cases hw : wetB i a d w p
  · simp [spec_FewestSpins.j0]
  cases hx : decide (0 ≤ x ∧ x ≤ 400000)
  · simp [spec_FewestSpins.j0]
  have hw := wet_of hw; have hx := of_decide_eq_true hx
  simp only [if_true, spec_FewestSpins.j0, Bool.not_true, Bool.false_eq_true, if_false, Bool.and_self]
  rw [spins_loop (fun k c w => spec_FewestSpins.l0 k x c i a d w p) (fun c => some (c, true)) x hx.1 (fun k c w h => by simp only [spec_FewestSpins.l0]; rw [if_pos h]) (fun k c w h => by simp only [spec_FewestSpins.l0]; rw [if_neg h]) w.toNat w 0 k (by omega) (by omega) (by omega) (by omega) (by omega) (by omega)]
  simp
theorem spinsI_eq {k : Nat} (hk : 400002 < k) (i a d w p x : Int) : impl_FewestSpins.f k i a d w p x = some (spinsM i a d w p x) := by
  obtain ⟨k, rfl, hk2⟩ := succ_of hk
  simp only [impl_FewestSpins.f, IsWetCarpet_eq, in_eq, Option.bind_some, spinsM]
  cases hw : wetB i a d w p
  · simp [impl_FewestSpins.j0]
  cases hx : decide (0 ≤ x ∧ x ≤ 400000)
  · simp [impl_FewestSpins.j0]
  have hw := wet_of hw; have hx := of_decide_eq_true hx
  simp only [if_true, impl_FewestSpins.j0, Bool.not_true, Bool.false_eq_true, if_false, Bool.and_self]
  rw [spins_loop (fun k c w => impl_FewestSpins.l0 k x c i a d w p) (fun c => some (c, true)) x hx.1 (fun k c w h => by simp only [impl_FewestSpins.l0]; rw [if_pos h]) (fun k c w h => by simp only [impl_FewestSpins.l0]; rw [if_neg h]) w.toNat w 0 k (by omega) (by omega) (by omega) (by omega) (by omega) (by omega)]
  simp

end Go.Proofs.Ytdennkmfjkgfhaa.Pure

-- Qwashes
namespace Go.Proofs.Ytdennkmfjkgfhaa.Pure
open Go Go.RowKit Go.Proofs Go.Proofs.Ytdennkmfjkgfhaa.X Go.Proofs.YtdennkmfjkgfhaaW.PrintWords Go.Proofs.YtdennkmfjkgfhaaW.PrintLast
set_option linter.unusedVariables false
set_option linter.unusedSimpArgs false

def shearWM (l : List S25) (n s : Int) : List S25 × Int × Bool :=
  if findW l n < 0 then ([], 0, false) else
  (let x := l.getD (findW l n).toNat z25;
    if decide (1 ≤ s ∧ s ≤ 20) && (dryB x.f2 x.f3 && wetB x.f0 x.f1 (x.f2 - 2 * x.f1 * s) x.f3 (x.f4 - s)) then
      (l.set (findW l n).toNat ⟨x.f0, x.f1, x.f2 - 2 * x.f1 * s, x.f3, x.f4 - s⟩, 2 * x.f1 * s, true) else ([], 0, false))
theorem shearWI_eq {k : Nat} {l : List S25} (hk : l.length < k) (hl : l.length ≤ 1073741824) (n s : Int) : impl_ShearCarpet.f k l n s = some (shearWM l n s) := by
  obtain ⟨k, rfl, hk2⟩ := succ_of hk
  simp only [impl_ShearCarpet.f, impl_ShearCarpet.j0, findWI_eq (k := k + 1) (l := l) (by omega) hl, Option.bind_some, shearWM, in_eq]
  by_cases h : 0 ≤ findW l n
  · obtain ⟨j, hj, hlt, _, _, hw⟩ := findW_of h
    have hw' := wet_of hw
    rw [hj, if_neg (show ¬ (j : Int) < 0 by omega), if_neg (show ¬ (j : Int) < 0 by omega)]
    cases hs : decide (1 ≤ s ∧ s ≤ 20)
    · simp
    have hs := of_decide_eq_true hs
    simp only [if_true, Bool.true_and, Int.toNat_natCast]
    rw [if_pos (show (0 : Int) ≤ j by omega), if_pos (show (j : Int) < l.length by omega), rdIW_nat, isDry_eq (by omega)]
    simp only [Option.bind_some]
    cases hd : dryB (l.getD j z25).f2 (l.getD j z25).f3
    · simp
    simp only [Bool.not_true, Bool.false_eq_true, if_false, Bool.true_and]
    rw [if_pos (show (0 : Int) ≤ j by omega), if_pos (show (j : Int) < l.length by omega), sheared_eq hw (by omega)]
    simp only [Option.bind_some, IsWetCarpet_eq]
    cases wetB (l.getD j z25).f0 (l.getD j z25).f1 ((l.getD j z25).f2 - 2 * (l.getD j z25).f1 * s) (l.getD j z25).f3 ((l.getD j z25).f4 - s)
    · simp
    · simp only [if_true, withWI_eq hl hlt, Option.bind_some]
      have hm := mul_bd (a := 2 * (l.getD j z25).f1) (b := s) (A := 8000) (B := 20) (by omega) (by omega) (by omega) (by omega)
      rw [show ∀ a b : Int, a - (a - b) = b from fun a b => by omega, w64 (by omega) (by omega)]
  · rw [findW_none h]; simp
end Go.Proofs.Ytdennkmfjkgfhaa.Pure

-- Qwetcur
namespace Go.Proofs.Ytdennkmfjkgfhaa.Pure
open Go Go.RowKit Go.Proofs Go.Proofs.Ytdennkmfjkgfhaa.X Go.Proofs.YtdennkmfjkgfhaaW.PrintWords Go.Proofs.YtdennkmfjkgfhaaW.PrintLast
set_option linter.unusedVariables false
set_option linter.unusedSimpArgs false

theorem wetCarpet_ex {s : List Int} {p : Int} (h id : Int) (hs : curOk s) (hp : 0 ≤ p ∧ p ≤ 900000) : ∃ a b c d e p' h', spec_l1Cur_wetCarpet.f s p h id = some (a, b, c, d, e, p', h') ∧ (p ≤ p' ∧ p' ≤ p + 14) := by
  obtain ⟨v1, p1, h1, e1, b1, _⟩ := among_ex h [1, 60, 240, 4000] hs (p := p) (by omega) (by simp)
  obtain ⟨v2, p2, h2, e2, b2, _⟩ := among_ex h1 [1, 50, 3000, 12000, 200000] hs (p := p1) (by omega) (by simp)
  obtain ⟨v3, p3, h3, e3, b3, _⟩ := among_ex h2 [20, 25, 80, 300] hs (p := p2) (by omega) (by simp)
  obtain ⟨v4, p4, h4, e4, b4, _⟩ := among_ex h3 [0, wrap64 (Int.tdiv v2 50), wrap64 ((wrap64 (Int.tdiv v2 50)) + 1), v2, wrap64 (2 * v2)] hs (p := p3) (by omega) (by simp)
  obtain ⟨v5, p5, h5, e5, b5, _⟩ := pick_ex h4 hs (p := p4) (n := 70) (by omega) (by omega)
  obtain ⟨v6, p6, h6, e6, b6, _⟩ := among_ex h5 [0, 999, 1000] hs (p := p5) (by omega) (by simp)
  obtain ⟨v7, p7, h7, e7, b7, _⟩ := among_ex h5 [0, 4001] hs (p := p5) (by omega) (by simp)
  obtain ⟨v8, p8, h8, e8, b8, _⟩ := among_ex h5 [0, 200001] hs (p := p5) (by omega) (by simp)
  obtain ⟨v9, p9, h9, e9, b9, _⟩ := among_ex h5 [-1, wrap64 ((wrap64 (2 * v2)) + 1)] hs (p := p5) (by omega) (by simp)
  obtain ⟨v10, p10, h10, e10, b10, _⟩ := among_ex h5 [19, 301] hs (p := p5) (by omega) (by simp)
  simp only [spec_l1Cur_wetCarpet.f, e1, e2, e3, e4, e5, e6, e7, e8, e9, e10, Option.bind_some]
  by_cases g0 : v5 = 0
  · rw [if_pos g0]; exact ⟨_, _, _, _, _, _, _, rfl, by omega⟩
  rw [if_neg g0]
  by_cases g1 : v5 = 1
  · rw [if_pos g1]; exact ⟨_, _, _, _, _, _, _, rfl, by omega⟩
  rw [if_neg g1]
  by_cases g2 : v5 = 2
  · rw [if_pos g2]; exact ⟨_, _, _, _, _, _, _, rfl, by omega⟩
  rw [if_neg g2]
  by_cases g3 : v5 = 3
  · rw [if_pos g3]; exact ⟨_, _, _, _, _, _, _, rfl, by omega⟩
  rw [if_neg g3]
  by_cases g4 : v5 = 4
  · rw [if_pos g4]; exact ⟨_, _, _, _, _, _, _, rfl, by omega⟩
  rw [if_neg g4]; exact ⟨_, _, _, _, _, _, _, rfl, by omega⟩
theorem degrees_ex {s : List Int} {p : Int} (h : Int) (hs : curOk s) (hp : 0 ≤ p ∧ p ≤ 900000) : ∃ v p' h', spec_l1Cur_degrees18.f s p h = some (v, p', h') ∧ p ≤ p' ∧ p' ≤ p + 4 := by
  obtain ⟨t, p1, h1, v, p2, h2, e1, c1, c2, e2, b⟩ := some_ex (b := 5) h [5, 15, 15, 30, 40, 4, 41] hs hp (by simp) (by simp)
  simp only [spec_l1Cur_degrees18.f, e1, Option.bind_some]
  rw [if_pos c1, if_pos c2, e2]
  exact ⟨_, _, _, rfl, b⟩
theorem wets_l1 {s : List Int} (hs : curOk s) : ∀ (n k : Nat) (x : List S25) (id p h : Int), x.length + n = 12 → n < k → 0 ≤ p → p + 2 * n ≤ 900000 → ∃ x' p' h', spec_l1Cur_wetCarpets.l1 k x id s p h = some (x', p', h') ∧ x'.length ≤ 12 ∧ p ≤ p' ∧ p' ≤ p + 2 * n + 2 := by
  intro n
  induction n with
  | zero =>
    intro k x id p h hx hk h0 h1
    obtain ⟨k, rfl, _⟩ := succ_of hk
    obtain ⟨t, p1, h1', e1, b1, b2, b3⟩ := pick_ex h hs (p := p) (n := 2) (by omega) (by omega)
    have b4 := b3 (by omega)
    simp only [spec_l1Cur_wetCarpets.l1, e1, Option.bind_some]
    rw [w64 (x := 10 + t) (by omega) (by omega), if_neg (by omega)]
    exact ⟨_, _, _, rfl, by omega, by omega, by omega⟩
  | succ n ih =>
    intro k x id p h hx hk h0 h1
    obtain ⟨k, rfl, _⟩ := succ_of hk
    obtain ⟨t, p1, h1', e1, b1, b2, b3⟩ := pick_ex h hs (p := p) (n := 2) (by omega) (by omega)
    have b4 := b3 (by omega)
    simp only [spec_l1Cur_wetCarpets.l1, e1, Option.bind_some]
    rw [w64 (x := 10 + t) (by omega) (by omega)]
    by_cases g : (x.length : Int) < 10 + t
    · rw [if_pos g, if_pos (by omega)]
      obtain ⟨x', p', h', e, c1, c2, c3⟩ := ih k (x ++ [⟨wrap64 (id + 1), 10, 500, 0, 50⟩]) (wrap64 (id + 1)) p1 h1' (by rw [List.length_append, List.length_singleton]; omega) (by omega) (by omega) (by push_cast at h1; omega)
      exact ⟨x', p', h', e, c1, by omega, by push_cast; omega⟩
    · rw [if_neg g]
      exact ⟨_, _, _, rfl, by omega, by omega, by push_cast; omega⟩
theorem wets_l0 {s : List Int} (hs : curOk s) : ∀ (n k : Nat) (x : List S25) (id p h : Int), x.length + n ≤ 6 → n + 20 < k → 0 ≤ p → p + 20 * n ≤ 800000 → ∃ x' p' h', spec_l1Cur_wetCarpets.l0 k x id (n : Int) s p h = some (x', p', h') ∧ x'.length ≤ 12 ∧ p ≤ p' ∧ p' ≤ p + 20 * n + 40 := by
  intro n
  induction n with
  | zero =>
    intro k x id p h hx hk h0 h1
    obtain ⟨k, rfl, _⟩ := succ_of (show 0 < k by omega)
    obtain ⟨b, p1, h1', e1, b1⟩ := one_ex h hs (p := p) (n := 24) (by omega) (by omega)
    simp only [spec_l1Cur_wetCarpets.l0, e1, Option.bind_some]
    rw [if_neg (by omega)]
    cases b
    · simp only [Bool.false_eq_true, if_false]
      exact ⟨_, _, _, rfl, by omega, by omega, by omega⟩
    · simp only [if_true]
      obtain ⟨x', p', h', e, c1, c2, c3⟩ := wets_l1 hs (12 - x.length) k x id p1 h1' (by omega) (by omega) (by omega) (by omega)
      exact ⟨x', p', h', e, c1, by omega, by omega⟩
  | succ n ih =>
    intro k x id p h hx hk h0 h1
    obtain ⟨k, rfl, _⟩ := succ_of (show 0 < k by omega)
    push_cast at h1
    obtain ⟨t1, p1, h1', e1, b1, _⟩ := pick_ex h hs (p := p) (n := 3) (by omega) (by omega)
    obtain ⟨t2, p2, h2', e2, b2, _⟩ := pick_ex h1' hs (p := p1) (n := 80) (by omega) (by omega)
    obtain ⟨a, b, c, d, e, p3, h3', e3, b3⟩ := wetCarpet_ex h2' (wrap64 ((wrap64 ((wrap64 (id + 1)) + t1)) - (wrap64 (Int.tdiv t2 79)))) hs (p := p2) (by omega)
    simp only [spec_l1Cur_wetCarpets.l0, e1, e2, e3, Option.bind_some]
    rw [if_pos (by omega), if_pos (by omega), w64 (x := ((n + 1 : Nat) : Int) - 1) (by omega) (by omega), show ((n + 1 : Nat) : Int) - 1 = (n : Int) by omega]
    obtain ⟨x', p', h', e4, c1, c2, c3⟩ := ih k (x ++ [⟨a, b, c, d, e⟩]) (wrap64 ((wrap64 ((wrap64 (id + 1)) + t1)) - (wrap64 (Int.tdiv t2 79)))) p3 h3' (by rw [List.length_append, List.length_singleton]; omega) (by omega) (by omega) (by omega)
    exact ⟨x', p', h', e4, c1, by omega, by push_cast; omega⟩
theorem wetCarpets_ex {k : Nat} {s : List Int} (h : Int) (hs : curOk s) (hk : 100 < k) : ∃ x' p' h', spec_l1Cur_wetCarpets.f k s 0 h = some (x', p', h') ∧ x'.length ≤ 12 ∧ 0 ≤ p' ∧ p' ≤ 1000 := by
  obtain ⟨t, p1, h1, e1, b1, b2, b3⟩ := pick_ex h hs (p := 0) (n := 7) (by omega) (by omega)
  have b4 := b3 (by omega)
  obtain ⟨n, rfl⟩ := nat_of b2
  obtain ⟨x', p', h', e, c1, c2, c3⟩ := wets_l0 hs n k [] 0 p1 h1 (by simp; omega) (by omega) (by omega) (by omega)
  simp only [spec_l1Cur_wetCarpets.f, e1, Option.bind_some]
  exact ⟨x', p', h', e, c1, by omega, by omega⟩
theorem rWet_refl {k : Nat} {l : List S25} (hk : l.length < k) (hl : l.length ≤ 1048576) : laws_rWet.f k l l = some true := by
  unfold laws_rWet.f
  rw [if_pos rfl]
  exact refl_loop laws_rWet.l0 l (by omega)
    (fun k i h => by simp only [laws_rWet.l0]; rw [if_pos (by omega), if_pos (by omega), if_pos (by omega)]; simp)
    (fun k i h => by simp only [laws_rWet.l0]; rw [if_neg (by omega)])
    l.length k 0 (by omega) hk

end Go.Proofs.Ytdennkmfjkgfhaa.Pure

-- Qdrylaws
namespace Go.Proofs.Ytdennkmfjkgfhaa.Pure
open Go Go.RowKit Go.Proofs Go.Proofs.Ytdennkmfjkgfhaa.X Go.Proofs.YtdennkmfjkgfhaaW.PrintWords Go.Proofs.YtdennkmfjkgfhaaW.PrintLast
set_option linter.unusedVariables false
set_option linter.unusedSimpArgs false

theorem dry_wets {l : List S25} {g H : Int} (hw : wetsB l = true) (hg : 5 ≤ g ∧ g ≤ 40) (hH : 0 ≤ H ∧ H ≤ 100) : wetsB (l.map (dryX g H)) = true := by
  have hx := wets_of hw
  simp only [wetsB, Bool.and_eq_true, decide_eq_true_eq] at hw ⊢
  refine ⟨by rw [List.length_map]; exact hw.1, ?_, ?_⟩
  · rw [List.all_eq_true]
    intro y hy
    obtain ⟨x, hxm, rfl⟩ := List.mem_map.mp hy
    have h := wet_of (hx.2 x hxm)
    have hh := hours_w (a := x.f1) (g := g) (H := H) (by omega) hg hH
    show wetB x.f0 x.f1 x.f2 (posI (x.f3 - H * hourlyM x.f1 g)) x.f4 = true
    have hp := posI_bd (x := x.f3 - H * hourlyM x.f1 g) (B := 2 * x.f2) (by omega) (by omega)
    simp only [wetB, Bool.and_eq_true, decide_eq_true_eq]
    exact ⟨h.1, h.2.1, h.2.2.1, hp, h.2.2.2.2⟩
  · rw [allR_iff] at *
    intro j h1 h2
    rw [List.length_map] at h2
    have h3 := hw.2.2 j h1 h2
    unfold ascW at h3 ⊢
    have hg2 : ∀ q, q < l.length → ((l.map (dryX g H)).getD q z25).f0 = (l.getD q z25).f0 := by
      intro q hq
      rw [List.getD_eq_getElem?_getD, List.getElem?_map, List.getElem?_eq_getElem hq, List.getD_eq_getElem?_getD, List.getElem?_eq_getElem hq]; rfl
    rw [hg2 _ (by omega), hg2 _ (by omega)]
    exact h3
theorem dry_two {l : List S25} {g H : Int} (hw : wetsB l = true) (hg : 5 ≤ g ∧ g ≤ 40) (hH : 1 ≤ H ∧ H ≤ 100) : (l.map (dryX g 1)).map (dryX g (H - 1)) = l.map (dryX g H) := by
  rw [List.map_map]
  apply List.map_congr_left
  intro x hx
  have h := wet_of ((wets_of hw).2 x hx)
  obtain ⟨_, h2, h3⟩ := hourly_w (a := x.f1) (g := g) (by omega) hg
  show (⟨x.f0, x.f1, x.f2, posI (posI (x.f3 - 1 * hourlyM x.f1 g) - (H - 1) * hourlyM x.f1 g), x.f4⟩ : S25) = ⟨x.f0, x.f1, x.f2, posI (x.f3 - H * hourlyM x.f1 g), x.f4⟩
  rw [posI_sub (Int.mul_nonneg (by omega) h2)]
  have e : x.f3 - 1 * hourlyM x.f1 g - (H - 1) * hourlyM x.f1 g = x.f3 - H * hourlyM x.f1 g := by
    rw [Int.sub_mul]; omega
  rw [e]
theorem halve_loop (l : List Int) (x : Int) (hx : 0 ≤ x) : ∀ (n : Nat) (w i : Int) (k : Nat), 0 ≤ w → w ≤ 400000 → w.toNat ≤ n → n ≤ 400000 → n + 1 < k → 0 ≤ i → i + n ≤ 400000 → 0 < spinsF n x w → ∃ k', k ≤ k' + n + 1 ∧ laws_FnDryLines.l0 k l x (i + spinsF n x w) w i = laws_FnDryLines.j5 k' l := by
  intro n
  induction n with
  | zero => intro w i k h0 h1 hn _ hk h2 h3 h4; simp [spinsF] at h4
  | succ n ih =>
    intro w i k h0 h1 hn hb hk h2 h3 h4
    obtain ⟨k, rfl, hk2⟩ := succ_of (show n + 2 < k by omega)
    have hbd := spinsF_bd n x (w / 2)
    by_cases hw : w > x
    · have e : spinsF (n + 1) x w = 1 + spinsF n x (w / 2) := by simp only [spinsF]; rw [if_pos hw]
      rw [e]
      simp only [laws_FnDryLines.l0]
      rw [w64 (x := i + 1) (by omega) (by omega), Int.tdiv_eq_ediv_of_nonneg h0, w64 (x := w / 2) (by omega) (by omega)]
      by_cases g : 0 < spinsF n x (w / 2)
      · rw [if_pos (by omega)]
        obtain ⟨k', hk', e2⟩ := ih (w / 2) (i + 1) k (by omega) (by omega) (by omega) (by omega) (by omega) (by omega) (by push_cast at h3; omega) g
        refine ⟨k', by omega, ?_⟩
        rw [← e2, Int.add_assoc]
      · have h0' : spinsF n x (w / 2) = 0 := by omega
        have hle : ¬ w / 2 > x := by
          intro hc
          cases n with
          | zero => omega
          | succ n => simp only [spinsF] at h0'; rw [if_pos hc] at h0'; have := spinsF_bd n x (w / 2 / 2); omega
        rw [h0']
        rw [if_neg (by omega), if_pos (by omega), if_neg (by omega), if_neg hle, if_neg (by omega)]
        exact ⟨k, by omega, rfl⟩
    · simp only [spinsF] at h4; rw [if_neg hw] at h4; omega
theorem single_wets {i a d w p : Int} (h : wetB i a d w p = true) : findW [⟨i, a, d, w, p⟩] i = 0 := by
  unfold findW
  have hw : wetsB [(⟨i, a, d, w, p⟩ : S25)] = true := by
    simp only [wetsB, Bool.and_eq_true, decide_eq_true_eq]
    refine ⟨by simp, by simpa [wetS] using h, ?_⟩
    simp [allR]
  rw [hw, if_pos rfl]
  simp
theorem downM_spec (q : Nat → Bool) : ∀ n, (downM q n ≠ 0 → q (downM q n) = true) ∧ ∀ j, downM q n < j → j ≤ n → q j = false := by
  intro n
  induction n with
  | zero => exact ⟨fun h => absurd rfl h, fun j h1 h2 => by simp [downM] at h1; omega⟩
  | succ n ih =>
    simp only [downM]
    by_cases g : q (n + 1) = true
    · rw [if_pos g]
      exact ⟨fun _ => g, fun j h1 h2 => by omega⟩
    · rw [if_neg g]
      refine ⟨ih.1, fun j h1 h2 => ?_⟩
      by_cases e : j = n + 1
      · subst e; simpa using g
      · exact ih.2 j h1 (by omega)
theorem isWet_end {k : Nat} {l : List Int} (hs : curOk l) : laws_FnDryLines.j7 (k + 1) l false = some true := by
  obtain ⟨id, p1, h1, e1, b1, _⟩ := among_ex 0 [1, 42, 999] hs (p := 0) (by omega) (by simp)
  obtain ⟨a, b, c, d, e, p2, h2, e2, b2⟩ := wetCarpet_ex h1 id hs (p := p1) (by omega)
  simp only [laws_FnDryLines.j7, Bool.false_eq_true, if_false, spec_DrawIsWetCarpet.f, e1, e2, Option.bind_some, IsWetCarpet_eq, spec_IsWetCarpet.f, l18One_eq]
  simp
theorem shear_end {k : Nat} {l : List Int} (hs : curOk l) (hk : 60 < k) : laws_FnDryLines.j5 k l = some true := by
  obtain ⟨k, rfl, hk2⟩ := succ_of hk
  obtain ⟨i, a, d, w, p, p1, h1, e1, b1⟩ := wetCarpet_ex 0 5 hs (p := 0) (by omega)
  obtain ⟨b, p2, h2, e2, b2⟩ := one_ex h1 hs (p := p1) (n := 3) (by omega) (by omega)
  obtain ⟨w2, hw2⟩ : ∃ w2, spec_DrawMostShear.f l = some (i, a, d, w2, p) := by
    simp only [spec_DrawMostShear.f, e1, e2, Option.bind_some]
    cases b
    · exact ⟨_, rfl⟩
    · exact ⟨_, rfl⟩
  simp only [laws_FnDryLines.j5, hw2, Option.bind_some, shearI_eq (k := k) (by omega) i a d w2 p, shearS_eq (k := k) (by omega) i a d w2 p, if_true, bne_self_eq_false]
  obtain ⟨k, rfl, hk3⟩ := succ_of hk2
  simp only [laws_FnDryLines.j6, Bool.false_eq_true, if_false]
  by_cases hc : (wetB i a d w2 p && dryB d w2) = true
  · obtain ⟨q, hq⟩ : ∃ q : Nat → Bool, q = fun (n : Nat) => wetB i a (d - 2 * a * (n : Int)) w2 (p - (n : Int)) := ⟨_, rfl⟩
    have hM : shearM i a d w2 p = (((downM q 20 : Nat) : Int), true) := by unfold shearM; rw [if_pos hc, hq]
    have hle := downM_le q 20
    obtain ⟨s1, s2⟩ := downM_spec q 20
    rw [Bool.and_eq_true] at hc
    have hf := single_wets hc.1
    have hl : (([(⟨i, a, d, w2, p⟩ : S25)]).length) = 1 := rfl
    rw [hM]
    simp only [if_true]
    rw [shearWI_eq (k := k) (l := [⟨i, a, d, w2, p⟩]) (by rw [hl]; omega) (by rw [hl]; omega) i _, w64 (x := ((downM q 20 : Nat) : Int) + 1) (by omega) (by omega), shearWI_eq (k := k) (l := [⟨i, a, d, w2, p⟩]) (by rw [hl]; omega) (by rw [hl]; omega) i _]
    simp only [Option.bind_some]
    have r1 : (shearWM [⟨i, a, d, w2, p⟩] i ((downM q 20 : Nat) : Int)).2.2 = decide (((downM q 20 : Nat) : Int) > 0) := by
      unfold shearWM
      rw [hf, if_neg (by omega)]
      have e0 : ([(⟨i, a, d, w2, p⟩ : S25)]).getD (0 : Int).toNat z25 = ⟨i, a, d, w2, p⟩ := rfl
      simp only [e0]
      by_cases g : downM q 20 = 0
      · rw [g, decide_eq_false (show ¬ (1 ≤ ((0 : Nat) : Int) ∧ ((0 : Nat) : Int) ≤ 20) by omega), decide_eq_false (show ¬ (((0 : Nat) : Int) > 0) by omega)]; rfl
      · have := s1 g
        rw [hq] at this
        simp only at this
        rw [← hq] at this
        rw [decide_eq_true (show 1 ≤ ((downM q 20 : Nat) : Int) ∧ ((downM q 20 : Nat) : Int) ≤ 20 by omega), decide_eq_true (show ((downM q 20 : Nat) : Int) > 0 by omega), hc.2, this]; rfl
    have r2 : (shearWM [⟨i, a, d, w2, p⟩] i (((downM q 20 : Nat) : Int) + 1)).2.2 = false := by
      unfold shearWM
      rw [hf, if_neg (by omega)]
      have e0 : ([(⟨i, a, d, w2, p⟩ : S25)]).getD (0 : Int).toNat z25 = ⟨i, a, d, w2, p⟩ := rfl
      simp only [e0]
      by_cases g : downM q 20 = 20
      · rw [decide_eq_false (show ¬ (1 ≤ ((downM q 20 : Nat) : Int) + 1 ∧ ((downM q 20 : Nat) : Int) + 1 ≤ 20) by omega)]; rfl
      · have := s2 (downM q 20 + 1) (by omega) (by omega)
        rw [hq] at this
        simp only at this
        rw [← hq] at this
        push_cast at this
        rw [this, Bool.and_false, Bool.and_false]; rfl
    rw [r1, r2, bne_self_eq_false, if_neg (by simp)]
    obtain ⟨k, rfl, _⟩ := succ_of (show 0 < k by omega)
    exact isWet_end hs
  · have hM : shearM i a d w2 p = (0, false) := by unfold shearM; rw [if_neg hc]
    rw [hM]
    simp only [Bool.false_eq_true, if_false]
    obtain ⟨id, p1, h1, e1, b1, _⟩ := among_ex 0 [1, 42, 999] hs (p := 0) (by omega) (by simp)
    obtain ⟨a, b, c, d, e, p2, h2, e2, b2⟩ := wetCarpet_ex h1 id hs (p := p1) (by omega)
    simp only [spec_DrawIsWetCarpet.f, e1, e2, Option.bind_some, IsWetCarpet_eq, spec_IsWetCarpet.f, l18One_eq]
    simp
theorem spins_end {k : Nat} {l : List Int} (hs : curOk l) (hk : 900000 < k) : laws_FnDryLines.j2 k l = some true := by
  obtain ⟨k, rfl, hk2⟩ := succ_of hk
  obtain ⟨i, a, d, w, p, p1, h1, e1, b1⟩ := wetCarpet_ex 0 5 hs (p := 0) (by omega)
  obtain ⟨t, p2, h2, x, p3, h3, e2, c1, c2, e3, _⟩ := some_ex (b := 5) h1 [0, 1, 100, 3000, 400000, -1, 400001] hs (p := p1) (by omega) (by simp) (by simp)
  have hd : spec_DrawFewestSpins.f l = some (i, a, d, w, p, x) := by
    simp only [spec_DrawFewestSpins.f, e1, e2, Option.bind_some]
    rw [if_pos c1, if_pos c2, e3]; rfl
  simp only [laws_FnDryLines.j2, hd, Option.bind_some, spinsI_eq (k := k) (by omega) i a d w p x, spinsS_eq (k := k) (by omega) i a d w p x, if_true, bne_self_eq_false]
  obtain ⟨k, rfl, hk3⟩ := succ_of hk2
  simp only [laws_FnDryLines.j3, Bool.false_eq_true, if_false]
  unfold spinsM
  by_cases hc : (wetB i a d w p && decide (0 ≤ x ∧ x ≤ 400000)) = true
  · rw [if_pos hc]
    rw [Bool.and_eq_true] at hc
    have hw := wet_of hc.1
    have hx := of_decide_eq_true hc.2
    have hbd := spinsF_bd w.toNat x w
    simp only [if_true]
    by_cases g : 0 < spinsF w.toNat x w
    · obtain ⟨k', hk', e⟩ := halve_loop l x hx.1 w.toNat w 0 k (by omega) (by omega) (by omega) (by omega) (by omega) (by omega) (by omega) g
      rw [Int.zero_add] at e
      rw [e]
      exact shear_end hs (by omega)
    · have h0 : spinsF w.toNat x w = 0 := by omega
      have hle : ¬ w > x := by
        intro hc2
        obtain ⟨n, hn⟩ : ∃ n, w.toNat = n + 1 := ⟨w.toNat - 1, by omega⟩
        rw [hn] at h0
        simp only [spinsF] at h0
        rw [if_pos hc2] at h0
        have := spinsF_bd n x (w / 2)
        omega
      rw [h0]
      obtain ⟨k, rfl, hk4⟩ := succ_of (show 0 < k by omega)
      simp only [laws_FnDryLines.l0, Int.zero_add]
      rw [w64 (x := 1) (by omega) (by omega), if_neg (by omega), if_neg (by omega), if_pos trivial, if_neg hle]
      exact shear_end hs (by omega)
  · rw [if_neg hc]
    simp only [Bool.false_eq_true, if_false]
    exact shear_end hs (by omega)

end Go.Proofs.Ytdennkmfjkgfhaa.Pure

-- Qrlists
namespace Go.Proofs.Ytdennkmfjkgfhaa.Pure
open Go Go.RowKit Go.Proofs Go.Proofs.Ytdennkmfjkgfhaa.X Go.Proofs.YtdennkmfjkgfhaaW.PrintWords Go.Proofs.YtdennkmfjkgfhaaW.PrintLast
set_option linter.unusedVariables false
set_option linter.unusedSimpArgs false

theorem rInts_refl {k : Nat} {l : List Int} (hk : l.length < k) (hl : l.length ≤ 1048576) : laws_rInts.f k l l = some true := by
  unfold laws_rInts.f
  rw [if_pos rfl]
  exact refl_loop laws_rInts.l0 l (by omega)
    (fun k i h => by simp only [laws_rInts.l0]; rw [if_pos (by omega), if_pos (by omega), if_pos (by omega), if_pos trivial])
    (fun k i h => by simp only [laws_rInts.l0]; rw [if_neg (by omega)])
    l.length k 0 (by omega) hk

end Go.Proofs.Ytdennkmfjkgfhaa.Pure

-- PureFnDryLines
namespace Go.Proofs.Ytdennkmfjkgfhaa.Pure
open Go Go.RowKit Go.Proofs Go.Proofs.Ytdennkmfjkgfhaa.X Go.Proofs.YtdennkmfjkgfhaaW.PrintWords Go.Proofs.YtdennkmfjkgfhaaW.PrintLast
set_option linter.unusedVariables false
set_option linter.unusedSimpArgs false

theorem FnDryLines : laws_FnDryLines.Pure := by
  intro l hl
  refine ⟨2000004, ?_⟩
  simp only [laws_FnDryLines.f, laws_rBig.f, Option.bind_some]
  by_cases hbig : (l.length : Int) > 65536
  · rw [decide_eq_true hbig, if_pos rfl]
  rw [decide_eq_false hbig, if_neg (by simp)]
  have hs : curOk l := ⟨by omega, fun y hy => wf8 (hl.2 y hy)⟩
  obtain ⟨x, p1, h1, e1, hx, b1, b2⟩ := wetCarpets_ex (k := 2000004) 0 hs (by omega)
  obtain ⟨g, p2, h2, e2, b3, b4⟩ := degrees_ex h1 hs (p := p1) (by omega)
  obtain ⟨t, p3, h3, H, p4, h4, e3, c1, c2, e4, _⟩ := some_ex (b := 5) h2 [0, 1, 5, 24, 100, -1, 101] hs (p := p2) (by omega) (by simp) (by simp)
  have hd : spec_DrawDryCarpets.f 2000004 l = some (x, g, H) := by
    simp only [spec_DrawDryCarpets.f, e1, e2, e3, Option.bind_some]
    rw [if_pos c1, if_pos c2, e4]; rfl
  have hlen := dryM_len x g H
  simp only [hd, Option.bind_some, dryI_eq (k := 2000004) (l := x) (by omega) (by omega) g H, dryS_eq (k := 2000004) (l := x) (by omega) (by omega) g H, bne_self_eq_false, Bool.false_eq_true, if_false, rWet_refl (k := 2000004) (l := (dryM x g H).1) (by omega) (by omega), rInts_refl (k := 2000004) (l := (dryM x g H).2.1) (by omega) (by omega), if_true, Bool.not_true, laws_FnDryLines.j0]
  by_cases hc : (wetsB x && (degreesB g && decide (0 ≤ H ∧ H ≤ 100))) = true
  · have hM : dryM x g H = (x.map (dryX g H), dryIds (x.map (dryX g H)), true) := by unfold dryM; rw [if_pos hc]
    simp only [Bool.and_eq_true] at hc
    have hg := of_decide_eq_true hc.2.1
    have hH := of_decide_eq_true hc.2.2
    rw [hM]
    simp only [if_true]
    by_cases h0 : H > 0
    · rw [decide_eq_true h0]
      have hM1 : dryM x g 1 = (x.map (dryX g 1), dryIds (x.map (dryX g 1)), true) := by
        unfold dryM; rw [if_pos (by rw [hc.1, hc.2.1]; simp)]
      have hw1 := dry_wets (H := 1) hc.1 hg (by omega)
      have hM2 : dryM (x.map (dryX g 1)) g (H - 1) = (x.map (dryX g H), dryIds (x.map (dryX g H)), true) := by
        unfold dryM
        rw [if_pos (by rw [hw1, hc.2.1, decide_eq_true (show 0 ≤ H - 1 ∧ H - 1 ≤ 100 by omega)]; rfl), dry_two hc.1 hg (by omega)]
      have hdl := dryIds_len (x.map (dryX g H))
      rw [List.length_map] at hdl
      simp only [laws_FnDryLines.j1, if_true, dryI_eq (k := 2000002) (l := x) (by omega) (by omega) g 1, hM1, Option.bind_some, w64 (x := H - 1) (by omega) (by omega), dryI_eq (k := 2000002) (l := x.map (dryX g 1)) (by rw [List.length_map]; omega) (by rw [List.length_map]; omega) g (H - 1), hM2, rWet_refl (k := 2000002) (l := x.map (dryX g H)) (by rw [List.length_map]; omega) (by rw [List.length_map]; omega), rInts_refl (k := 2000002) (l := dryIds (x.map (dryX g H))) (by omega) (by omega)]
      exact spins_end hs (by omega)
    · rw [decide_eq_false h0]
      simp only [laws_FnDryLines.j1, Bool.false_eq_true, if_false]
      exact spins_end hs (by omega)
  · have hM : dryM x g H = ([], [], false) := by unfold dryM; rw [if_neg hc]
    rw [hM]
    simp only [Bool.false_eq_true, if_false, laws_FnDryLines.j1]
    exact spins_end hs (by omega)

end Go.Proofs.Ytdennkmfjkgfhaa.Pure

-- Open
namespace Go.Proofs.Open
open Go.RowKit Go.WideShapes Go.Proofs.YtdennkmfjkgfhaaW.PrintWords
set_option linter.unusedVariables false

theorem mapM_cons_some {α β : Type} {f : α → Option β} {a : α} {l : List α} {ys : List β} (h : (a :: l).mapM f = some ys) : ∃ y ys', f a = some y ∧ l.mapM f = some ys' ∧ ys = y :: ys' := by
  rw [List.mapM_cons] at h
  obtain ⟨y, hy, h⟩ := Option.bind_eq_some_iff.mp h
  obtain ⟨ys', hys, h⟩ := Option.bind_eq_some_iff.mp h
  exact ⟨y, ys', hy, hys, (Option.some.inj h).symm⟩
theorem mapM_some_get {α β : Type} {f : α → Option β} : ∀ {l : List α} {ys : List β}, l.mapM f = some ys → ys.length = l.length ∧ ∀ (i : Nat) (a : α), l[i]? = some a → ∃ y, f a = some y ∧ ys[i]? = some y
  | [], ys, h => by
    obtain rfl : ys = [] := by simpa using h
    exact ⟨rfl, fun i a h => by simp at h⟩
  | a :: l, ys, h => by
    obtain ⟨y, ys', hy, hys, rfl⟩ := mapM_cons_some h
    obtain ⟨hl, hg⟩ := mapM_some_get hys
    refine ⟨by simp [hl], fun i b hb => ?_⟩
    cases i with
    | zero => obtain rfl : a = b := by simpa using hb
              exact ⟨y, hy, rfl⟩
    | succ i => exact hg i b (by simpa using hb)
theorem cells_get {w : World} {base n : Nat} {a : Addr} {cs : List Value} (h : w.cells? base a n = some cs) : cs.length = n ∧ ∀ i u, cs[i]? = some u → w.cell? (a.add i) = some u := by
  unfold World.cells? at h
  split at h
  · obtain ⟨hl, hg⟩ := mapM_some_get h
    rw [List.length_range] at hl
    refine ⟨hl, fun i u hu => ?_⟩
    have hi : i < n := by have := (List.getElem?_eq_some_iff.1 hu).1; omega
    obtain ⟨y, hy, hy2⟩ := hg i i (by simp [List.getElem?_range hi])
    rw [hu] at hy2
    injection hy2 with hy2
    rw [hy2]; exact hy
  · cases h
theorem add_add (a : Addr) (i j : Nat) : (a.add i).add j = a.add (i + j) := by
  by_cases hi : i = 0
  · subst hi
    rw [Nat.zero_add, show a.add 0 = a by unfold Addr.add; simp]
  · by_cases hj : j = 0
    · subst hj
      rw [Nat.add_zero, show (a.add i).add 0 = a.add i by unfold Addr.add; simp]
    · unfold Addr.add
      simp [hi, hj, Nat.add_assoc]
/-- Whatever reads as a datum of type t is an x of kind d, within ok. -/
structure Opens {α : Type} (P : Program) (W : World) (t : TypeId) (d : Kd α) (ok : α → Prop) : Prop where
  get : ∀ {H : Type} (enc : TypeId × Value → H) (base : Nat) (spare : Nat → Bool) (held : Bool) (fuel : Nat) (cs : List Value) (y : DataW H × List MemPlace), DataW.trod enc P W base spare held fuel t cs = some y → ∃ x, d.K W x cs ∧ ok x
theorem Opens.int {P : Program} {W : World} {t : TypeId} {k : IntKind} (hu : P.underlying t = some (.int k)) : Opens P W t (Kd.int k) (fun x => (Lit.int k x).wf = true) := ⟨by
  intro H enc base spare held fuel cs y h
  cases fuel with
  | zero => simp [DataW.trod] at h
  | succ fuel =>
    simp only [DataW.trod, hu] at h
    split at h <;> first | (cases h; done) | skip
    all_goals rename_i heq
    all_goals first | (cases heq; done) | skip
    rename_i k0 k' n
    injection heq with heq
    injection heq with heq
    subst heq
    split at h
    · rename_i hk
      obtain ⟨rfl, hw⟩ := hk
      exact ⟨n, rfl, hw⟩
    · cases h⟩
theorem Opens.bool {P : Program} {W : World} {t : TypeId} (hu : P.underlying t = some .bool) : Opens P W t Kd.bool (fun _ => True) := ⟨by
  intro H enc base spare held fuel cs y h
  cases fuel with
  | zero => simp [DataW.trod] at h
  | succ fuel =>
    simp only [DataW.trod, hu] at h
    split at h <;> first | (cases h; done) | skip
    all_goals rename_i heq
    all_goals first | (cases heq; done) | skip
    rename_i b
    exact ⟨b, rfl, trivial⟩⟩
theorem Opens.string {P : Program} {W : World} {t : TypeId} (hu : P.underlying t = some .string) : Opens P W t Kd.string (fun s => s.size ≤ 9223372036854775807) := ⟨by
  intro H enc base spare held fuel cs y h
  cases fuel with
  | zero => simp [DataW.trod] at h
  | succ fuel =>
    simp only [DataW.trod, hu] at h
    split at h <;> first | (cases h; done) | skip
    all_goals rename_i heq
    all_goals first | (cases heq; done) | skip
    rename_i s
    split at h
    · rename_i hs
      exact ⟨s, rfl, by simpa [maxLen] using hs⟩
    · cases h⟩
theorem pick {α : Type} {n : Nat} {Q : Nat → α → Prop} (h : ∀ i, i < n → ∃ x, Q i x) : ∃ xs : List α, xs.length = n ∧ ∀ i x, xs[i]? = some x → Q i x := by
  induction n with
  | zero => exact ⟨[], rfl, fun i x h => by simp at h⟩
  | succ n ih =>
    obtain ⟨xs, hl, hq⟩ := ih (fun i hi => h i (by omega))
    obtain ⟨x, hx⟩ := h n (by omega)
    refine ⟨xs ++ [x], by simp [hl], fun i z hz => ?_⟩
    by_cases hi : i < n
    · rw [List.getElem?_append_left (by omega)] at hz
      exact hq i z hz
    · have hlt := (List.getElem?_eq_some_iff.1 hz).1
      simp [hl] at hlt
      obtain rfl : i = n := by omega
      rw [List.getElem?_append_right (by omega), hl, Nat.sub_self] at hz
      obtain rfl : x = z := by simpa using hz
      exact hx
theorem Opens.slice {α : Type} {P : Program} {W : World} {t e : TypeId} {d : Kd α} {ok : α → Prop} (hu : P.underlying t = some (.slice e)) (hc : P.cellsOf e = d.sz) (h : Opens P W e d ok) :
    Opens P W t (Kd.slice e d) (fun l => l.length ≤ 9223372036854775807 ∧ ∀ x ∈ l, ok x) := ⟨by
  intro H enc base spare held fuel cs y hd
  cases fuel with
  | zero => simp [DataW.trod] at hd
  | succ fuel =>
    simp only [DataW.trod, hu] at hd
    split at hd <;> first | (cases hd; done) | skip
    all_goals rename_i heq
    all_goals first | (cases heq; done) | skip
    · exact ⟨[], ⟨none, 0, rfl, Nat.le_refl _, rfl, by simp, fun hp => absurd hp (by simp)⟩, by simp, fun x hx => by simp at hx⟩
    · rename_i e' a len cap
      injection heq with heq
      injection heq with heq
      subst heq
      split at hd
      · rename_i hb
        obtain ⟨hb1, hb2, hb3⟩ := hb
        obtain ⟨elems, hel, _⟩ := Option.bind_eq_some_iff.mp hd
        obtain ⟨hl, hg⟩ := mapM_some_get hel
        rw [List.length_range] at hl
        have hm : len ≤ 9223372036854775807 := by have : cap ≤ 9223372036854775807 := by simpa [maxLen] using hb3
                                                  omega
        obtain ⟨xs, hxl, hxs⟩ := pick (n := len) (Q := fun i x => ∃ c, c.length = d.sz ∧ d.K W x c ∧ ok x ∧ ∀ j u, c[j]? = some u → W.cell? (a.add (i * d.sz + j)) = some u) (fun i hi => by
          obtain ⟨z, hz, _⟩ := hg i i (by simp [List.getElem?_range hi])
          obtain ⟨c, hcc, hct⟩ := Option.bind_eq_some_iff.mp hz
          obtain ⟨x, hK, hok⟩ := h.get enc base spare held fuel c z hct
          obtain ⟨hcl, hcell⟩ := cells_get hcc
          refine ⟨x, c, by rw [hcl, hc], hK, hok, fun j u hu => ?_⟩
          have := hcell j u hu
          rw [add_add, hc] at this
          exact this)
        refine ⟨xs, ⟨some a, cap, by rw [hxl], by omega, rfl, by omega, fun _ => ⟨a, rfl, fun j p hj => ?_⟩⟩, by omega, fun x hx => ?_⟩
        · obtain ⟨c, h1, h2, h3, h4⟩ := hxs j p hj
          exact ⟨c, h1, h2, h4⟩
        · obtain ⟨j, hj, rfl⟩ := List.mem_iff_getElem.mp hx
          obtain ⟨c, h1, h2, h3, h4⟩ := hxs j _ (List.getElem?_eq_getElem hj)
          exact h3
      · cases hd⟩
/-- The fields from an offset on. -/
structure OpensAt {α : Type} (P : Program) (W : World) (fs : List Field) (off : Nat) (d : Kd α) (ok : α → Prop) : Prop where
  get : ∀ {H : Type} (enc : TypeId × Value → H) (base : Nat) (spare : Nat → Bool) (held : Bool) (fuel : Nat) (cs : List Value) (ys : List (DataW H × List MemPlace)), cs.length = off + d.sz →
    (fs.mapM fun f => DataW.trod enc P W base spare held fuel f.type ((cs.drop f.offset).take (P.cellsOf f.type))) = some ys → ∃ x, d.K W x (cs.drop off) ∧ ok x
theorem OpensAt.one {α : Type} {P : Program} {W : World} {f : Field} {off : Nat} {d : Kd α} {ok : α → Prop} (ho : f.offset = off) (hc : P.cellsOf f.type = d.sz) (h : Opens P W f.type d ok) : OpensAt P W [f] off d ok := ⟨by
  intro H enc base spare held fuel cs ys hl hm
  obtain ⟨y, _, hy, _, _⟩ := mapM_cons_some hm
  rw [ho, hc, List.take_of_length_le (by rw [List.length_drop]; omega)] at hy
  exact h.get enc base spare held fuel _ y hy⟩
theorem OpensAt.cons {α β : Type} {P : Program} {W : World} {f : Field} {fs : List Field} {off : Nat} {d : Kd α} {d2 : Kd β} {ok : α → Prop} {ok2 : β → Prop} (ho : f.offset = off) (hc : P.cellsOf f.type = d.sz) (h : Opens P W f.type d ok) (h2 : OpensAt P W fs (off + d.sz) d2 ok2) :
    OpensAt P W (f :: fs) off (Kd.pair d d2) (fun x => ok x.1 ∧ ok2 x.2) := ⟨by
  intro H enc base spare held fuel cs ys hl hm
  have hl2 : cs.length = off + (d.sz + d2.sz) := hl
  obtain ⟨y, ys', hy, hys, _⟩ := mapM_cons_some hm
  rw [ho, hc] at hy
  obtain ⟨x, hK, hok⟩ := h.get enc base spare held fuel _ y hy
  obtain ⟨x2, hK2, hok2⟩ := h2.get enc base spare held fuel cs ys' (by omega) hys
  refine ⟨(x, x2), ⟨(cs.drop off).take d.sz, cs.drop (off + d.sz), ?_, hK, hK2⟩, hok, hok2⟩
  rw [← List.drop_drop, List.take_append_drop]⟩
theorem Opens.struct {α : Type} {P : Program} {W : World} {t : TypeId} {fs : Array Field} {d : Kd α} {ok : α → Prop} (hu : P.underlying t = some (.struct fs)) (hc : P.cellsOf t = d.sz) (h : OpensAt P W fs.toList 0 d ok) : Opens P W t d ok := ⟨by
  intro H enc base spare held fuel cs y hd
  cases fuel with
  | zero => simp [DataW.trod] at hd
  | succ fuel =>
    simp only [DataW.trod, hu] at hd
    split at hd
    · rename_i hl
      obtain ⟨ys, hys, _⟩ := Option.map_eq_some_iff.mp hd
      exact h.get enc base spare held fuel cs ys (by omega) hys
    · cases hd⟩
theorem Opens.iso {α β : Type} {P : Program} {W : World} {t : TypeId} {d : Kd α} {f : β → α} {ok : α → Prop} (h : Opens P W t d ok) (g : α → β) (hg : ∀ x, f (g x) = x) : Opens P W t (Kd.iso d f) (fun y => ok (f y)) := ⟨by
  intro H enc base spare held fuel cs y hd
  obtain ⟨x, hK, hok⟩ := h.get enc base spare held fuel cs y hd
  refine ⟨g x, ?_, ?_⟩
  · show d.K W (f (g x)) cs
    rw [hg]; exact hK
  · rw [hg]; exact hok⟩
theorem wf_i64 {x : Int} (h : (Lit.int .i64 x).wf = true) : -9223372036854775808 ≤ x ∧ x ≤ 9223372036854775807 := by
  have h1 := h
  simp [Lit.wf] at h1
  exact ⟨h1.1, h1.2⟩
end Go.Proofs.Open

-- XOpens
namespace Go.Proofs.Ytdennkmfjkgfhaa.X
open Ho (bS eS)
open Go.RowKit Go.Proofs.YtdennkmfjkgfhaaW.PrintWords Go.Proofs.YtdennkmfjkgfhaaW.PrintLast Go.Proofs.YtdennkmfjkgfhaaW.PrintMore
attribute [local go_sem] max2_int min2_int max_two min_two max_three min_three max_four min_four   -- for this text's walks alone
set_option linter.unusedVariables false
set_option linter.unusedSimpArgs false

def ok23 (x : S23) : Prop := (Lit.int .i64 x.f0).wf = true ∧ (Lit.int .i64 x.f1).wf = true ∧ (Lit.int .i64 x.f2).wf = true ∧ (Lit.int .i64 x.f3).wf = true ∧ (Lit.int .i64 x.f4).wf = true
theorem opens23 (W : World) : Open.Opens Try.prog W 23 k23 ok23 := ⟨fun enc base spare held fuel cs y h => by
  obtain ⟨x, hK, hok⟩ := (Open.Opens.iso (f := fun x : S23 => (x.f0, x.f1, x.f2, x.f3, x.f4)) (Open.Opens.struct Try.underlying23 (by kernel_rfl) (Open.OpensAt.cons rfl (by kernel_rfl) (Open.Opens.int Try.underlying3) (Open.OpensAt.cons rfl (by kernel_rfl) (Open.Opens.int Try.underlying3) (Open.OpensAt.cons rfl (by kernel_rfl) (Open.Opens.int Try.underlying3) (Open.OpensAt.cons rfl (by kernel_rfl) (Open.Opens.int Try.underlying3) (Open.OpensAt.one rfl (by kernel_rfl) (Open.Opens.int Try.underlying3))))))) (fun x => ⟨x.1, x.2.1, x.2.2.1, x.2.2.2.1, x.2.2.2.2⟩) (fun x => rfl)).get enc base spare held fuel cs y h
  exact ⟨x, hK, hok⟩⟩
end Go.Proofs.Ytdennkmfjkgfhaa.X
