/- What the law FnSheets needs, part 6 of 6: what each function of the program that it reaches returns (printed by this session's own program, checked by Lean), and plain mathematics about it. Conditions: those of each theorem. -/
import Derived.Test.YtbfhphobnngeaaaZFnSheets4
import Derived.Test.YtbfhphobnngeaaaYG
import Derived.ProofKit
import Derived.WideShapes
namespace Go.Proofs.Ytbfhphobnngeaaa.X
open Ho (bS eS)
open Go.RowKit Go.Proofs.YtbfhphobnngeaaaW.PrintWords Go.Proofs.YtbfhphobnngeaaaW.PrintLast Go.Proofs.YtbfhphobnngeaaaW.PrintMore
attribute [local go_sem] max2_int min2_int max_two min_two max_three min_three max_four min_four   -- for this text's walks alone
set_option linter.unusedVariables false
set_option linter.unusedSimpArgs false
attribute [local go_sem ↓] Ho.isSome_setCell_   -- a store leaves all places there
/-! ### Fd: function 9 -/
mutual
def Fd.j0 : Nat → List Int → List (S61) → List Int → Bool → Bool → Option (Bool)
  | 0, _, _, _, _, _ => none
  | k + 1, x0, x3, x4, x5, x53 => if x53 = true then (some false) else (Fd.l0 k x0 x3 x4 x5 0)
def Fd.l0 : Nat → List Int → List (S61) → List Int → Bool → Int → Option (Bool)
  | 0, _, _, _, _, _ => none
  | k + 1, x0, x3, x4, x5, x8 => if x8 < (x3.length : Int) then (Fd.j2 k x0 x3 x4 x5 x8 x5) else (Fd.j2 k x0 x3 x4 x5 x8 false)
def Fd.j2 : Nat → List Int → List (S61) → List Int → Bool → Int → Bool → Option (Bool)
  | 0, _, _, _, _, _, _ => none
  | k + 1, x0, x3, x4, x5, x8, x60 => if x60 = true then (if 0 ≤ x8 then (if x8 < (x3.length : Int) then ((Faa.f k x4 ((rd_T61 x3 x8).f0)).bind fun t116 => (if t116 = true then (Fd.l0 k x0 x3 x4 x5 (wrap64 (x8 + 1))) else (some false))) else (none)) else (none)) else ((Fu.f k x0).bind fun bt117 => ((Fl.f k bt117.1 bt117.2).bind fun bt121 => ((Fr.f k bt117.1 bt117.2).bind fun bt123 => (if bt121.1 = bt123.1 then (Fd.j3 k x0 bt117.1 bt117.2 bt121.1 bt121.2 (bt121.2 != bt123.2)) else (Fd.j3 k x0 bt117.1 bt117.2 bt121.1 bt121.2 true)))))
def Fd.j3 : Nat → List Int → List (S61) → Int → Int → Bool → Bool → Option (Bool)
  | 0, _, _, _, _, _, _ => none
  | k + 1, x0, x9, x10, x11, x12, x95 => if x95 = true then (some false) else (Fd.l1 k x0 x9 x10 x11 x12 (-1) 0)
def Fd.l1 : Nat → List Int → List (S61) → Int → Int → Bool → Int → Int → Option (Bool)
  | 0, _, _, _, _, _, _, _ => none
  | k + 1, x0, x9, x10, x11, x12, x15, x16 => if x16 < (x9.length : Int) then (Fd.j5 k x0 x9 x10 x11 x12 x15 x16 x12) else (Fd.j5 k x0 x9 x10 x11 x12 x15 x16 false)
def Fd.j5 : Nat → List Int → List (S61) → Int → Int → Bool → Int → Int → Bool → Option (Bool)
  | 0, _, _, _, _, _, _, _, _ => none
  | k + 1, x0, x9, x10, x11, x12, x15, x16, x102 => if x102 = true then (if 0 ≤ x16 then (if x16 < (x9.length : Int) then (if ((rd_T61 x9 x16).f0) = x10 then (if ((rd_T61 x9 x16).f1) = x11 then (Fd.l1 k x0 x9 x10 x11 x12 (wrap64 (((rd_T61 x9 x16).f2) - ((rd_T61 x9 x16).f3))) (wrap64 (x16 + 1))) else (Fd.l1 k x0 x9 x10 x11 x12 x15 (wrap64 (x16 + 1)))) else (Fd.l1 k x0 x9 x10 x11 x12 x15 (wrap64 (x16 + 1)))) else (none)) else (none)) else (Fd.l2 k x0 x9 x10 x12 x15 0)
def Fd.l2 : Nat → List Int → List (S61) → Int → Bool → Int → Int → Option (Bool)
  | 0, _, _, _, _, _, _ => none
  | k + 1, x0, x9, x10, x12, x15, x17 => if x17 < (x9.length : Int) then (Fd.j7 k x0 x9 x10 x12 x15 x17 x12) else (Fd.j7 k x0 x9 x10 x12 x15 x17 false)
def Fd.j7 : Nat → List Int → List (S61) → Int → Bool → Int → Int → Bool → Option (Bool)
  | 0, _, _, _, _, _, _, _ => none
  | k + 1, x0, x9, x10, x12, x15, x17, x138 => if x138 = true then (if 0 ≤ x17 then (if x17 < (x9.length : Int) then (if ((rd_T61 x9 x17).f0) = x10 then (if (wrap64 (((rd_T61 x9 x17).f2) - ((rd_T61 x9 x17).f3))) > x15 then (some false) else (Fd.l2 k x0 x9 x10 x12 x15 (wrap64 (x17 + 1)))) else (Fd.l2 k x0 x9 x10 x12 x15 (wrap64 (x17 + 1)))) else (none)) else (none)) else ((Fs.f k x0).bind fun t132 => ((Fm.f k t132).bind fun bt135 => ((Fn.f k t132).bind fun bt139 => (if (bt135.2 != bt139.2) = true then (Fd.j8 k t132 bt135.1 true) else ((Fv.f k bt135.1 bt139.1).bind fun t143 => (Fd.j8 k t132 bt135.1 (!t143)))))))
def Fd.j8 : Nat → List (S61) → List Int → Bool → Option (Bool)
  | 0, _, _, _ => none
  | k + 1, x18, x19, x183 => if x183 = true then (some false) else (Fd.l3 k x18 x19 0)
def Fd.l3 : Nat → List (S61) → List Int → Int → Option (Bool)
  | 0, _, _, _ => none
  | k + 1, x18, x19, x23 => if x23 < (x19.length : Int) then (if 0 ≤ x23 then (if 0 ≤ (rd x19 x23) then (if (rd x19 x23) < (x18.length : Int) then (if ((rd_T61 x18 (rd x19 x23)).f2) < 8000 then (some false) else (if (wrap64 (((rd_T61 x18 (rd x19 x23)).f2) - ((rd_T61 x18 (rd x19 x23)).f3))) ≥ 8000 then (some false) else (Fd.l3 k x18 x19 (wrap64 (x23 + 1))))) else (none)) else (none)) else (none)) else (some true)
end
def Fd.f (k : Nat) (l0 : List Int) : Option (Bool) := (Fax.f l0).bind fun t101 => (if t101 = true then (some true) else ((Fp.f k l0).bind fun t102 => ((Ft.f k t102).bind fun bt105 => ((Fe.f k t102).bind fun bt109 => (if (bt105.2 != bt109.2) = true then (Fd.j0 k l0 t102 bt105.1 bt105.2 true) else ((Fv.f k bt105.1 bt109.1).bind fun t113 => (if t113 = true then ((Fo.f k t102).bind fun t114 => (Fd.j0 k l0 t102 bt105.1 bt105.2 (bt105.2 != t114))) else (Fd.j0 k l0 t102 bt105.1 bt105.2 true))))))))
theorem Fd.mono_l : ∀ k, (∀ y0 y1 y2 y3 y4, LeO (Fd.j0 k y0 y1 y2 y3 y4) (Fd.j0 (k + 1) y0 y1 y2 y3 y4)) ∧ (∀ y0 y1 y2 y3 y4, LeO (Fd.l0 k y0 y1 y2 y3 y4) (Fd.l0 (k + 1) y0 y1 y2 y3 y4)) ∧ (∀ y0 y1 y2 y3 y4 y5, LeO (Fd.j2 k y0 y1 y2 y3 y4 y5) (Fd.j2 (k + 1) y0 y1 y2 y3 y4 y5)) ∧ (∀ y0 y1 y2 y3 y4 y5, LeO (Fd.j3 k y0 y1 y2 y3 y4 y5) (Fd.j3 (k + 1) y0 y1 y2 y3 y4 y5)) ∧ (∀ y0 y1 y2 y3 y4 y5 y6, LeO (Fd.l1 k y0 y1 y2 y3 y4 y5 y6) (Fd.l1 (k + 1) y0 y1 y2 y3 y4 y5 y6)) ∧ (∀ y0 y1 y2 y3 y4 y5 y6 y7, LeO (Fd.j5 k y0 y1 y2 y3 y4 y5 y6 y7) (Fd.j5 (k + 1) y0 y1 y2 y3 y4 y5 y6 y7)) ∧ (∀ y0 y1 y2 y3 y4 y5, LeO (Fd.l2 k y0 y1 y2 y3 y4 y5) (Fd.l2 (k + 1) y0 y1 y2 y3 y4 y5)) ∧ (∀ y0 y1 y2 y3 y4 y5 y6, LeO (Fd.j7 k y0 y1 y2 y3 y4 y5 y6) (Fd.j7 (k + 1) y0 y1 y2 y3 y4 y5 y6)) ∧ (∀ y0 y1 y2, LeO (Fd.j8 k y0 y1 y2) (Fd.j8 (k + 1) y0 y1 y2)) ∧ (∀ y0 y1 y2, LeO (Fd.l3 k y0 y1 y2) (Fd.l3 (k + 1) y0 y1 y2))
  | 0 => ⟨fun _ _ _ _ _ r h => by simp [Fd.j0] at h, fun _ _ _ _ _ r h => by simp [Fd.l0] at h, fun _ _ _ _ _ _ r h => by simp [Fd.j2] at h, fun _ _ _ _ _ _ r h => by simp [Fd.j3] at h, fun _ _ _ _ _ _ _ r h => by simp [Fd.l1] at h, fun _ _ _ _ _ _ _ _ r h => by simp [Fd.j5] at h, fun _ _ _ _ _ _ r h => by simp [Fd.l2] at h, fun _ _ _ _ _ _ _ r h => by simp [Fd.j7] at h, fun _ _ _ r h => by simp [Fd.j8] at h, fun _ _ _ r h => by simp [Fd.l3] at h⟩
  | k + 1 => by
    obtain ⟨ih0, ih1, ih2, ih3, ih4, ih5, ih6, ih7, ih8, ih9⟩ := Fd.mono_l k
    refine ⟨?_, ?_, ?_, ?_, ?_, ?_, ?_, ?_, ?_, ?_⟩
    · intro y0 y1 y2 y3 y4
      unfold Fd.j0
      repeat' first | (with_reducible first | exact ih0 _ _ _ _ _ | exact ih1 _ _ _ _ _ | exact ih2 _ _ _ _ _ _ | exact ih3 _ _ _ _ _ _ | exact ih4 _ _ _ _ _ _ _ | exact ih5 _ _ _ _ _ _ _ _ | exact ih6 _ _ _ _ _ _ | exact ih7 _ _ _ _ _ _ _ | exact ih8 _ _ _ | exact ih9 _ _ _ | exact Fo.mono _ _ | exact Fl.mono _ _ _ | exact Ft.mono _ _ | exact Fm.mono _ _ | exact Faa.mono _ _ _ | exact Fv.mono _ _ _ | exact Fr.mono _ _ _ | exact Fe.mono _ _ | exact Fu.mono _ _ | exact Fp.mono _ _ | exact Fs.mono _ _ | exact Fn.mono _ _ | exact LeO.refl _ | exact LeO.none _ | refine LeO.ite ?_ ?_ | refine LeO.bind ?_ (fun _ => ?_)) | exact ih0 _ _ _ _ _ | exact ih1 _ _ _ _ _ | exact ih2 _ _ _ _ _ _ | exact ih3 _ _ _ _ _ _ | exact ih4 _ _ _ _ _ _ _ | exact ih5 _ _ _ _ _ _ _ _ | exact ih6 _ _ _ _ _ _ | exact ih7 _ _ _ _ _ _ _ | exact ih8 _ _ _ | exact ih9 _ _ _ | exact Fo.mono _ _ | exact Fl.mono _ _ _ | exact Ft.mono _ _ | exact Fm.mono _ _ | exact Faa.mono _ _ _ | exact Fv.mono _ _ _ | exact Fr.mono _ _ _ | exact Fe.mono _ _ | exact Fu.mono _ _ | exact Fp.mono _ _ | exact Fs.mono _ _ | exact Fn.mono _ _ | exact LeO.none _ | refine LeO.ite ?_ ?_ | refine LeO.bind ?_ (fun _ => ?_)
    · intro y0 y1 y2 y3 y4
      unfold Fd.l0
      repeat' first | (with_reducible first | exact ih0 _ _ _ _ _ | exact ih1 _ _ _ _ _ | exact ih2 _ _ _ _ _ _ | exact ih3 _ _ _ _ _ _ | exact ih4 _ _ _ _ _ _ _ | exact ih5 _ _ _ _ _ _ _ _ | exact ih6 _ _ _ _ _ _ | exact ih7 _ _ _ _ _ _ _ | exact ih8 _ _ _ | exact ih9 _ _ _ | exact Fo.mono _ _ | exact Fl.mono _ _ _ | exact Ft.mono _ _ | exact Fm.mono _ _ | exact Faa.mono _ _ _ | exact Fv.mono _ _ _ | exact Fr.mono _ _ _ | exact Fe.mono _ _ | exact Fu.mono _ _ | exact Fp.mono _ _ | exact Fs.mono _ _ | exact Fn.mono _ _ | exact LeO.refl _ | exact LeO.none _ | refine LeO.ite ?_ ?_ | refine LeO.bind ?_ (fun _ => ?_)) | exact ih0 _ _ _ _ _ | exact ih1 _ _ _ _ _ | exact ih2 _ _ _ _ _ _ | exact ih3 _ _ _ _ _ _ | exact ih4 _ _ _ _ _ _ _ | exact ih5 _ _ _ _ _ _ _ _ | exact ih6 _ _ _ _ _ _ | exact ih7 _ _ _ _ _ _ _ | exact ih8 _ _ _ | exact ih9 _ _ _ | exact Fo.mono _ _ | exact Fl.mono _ _ _ | exact Ft.mono _ _ | exact Fm.mono _ _ | exact Faa.mono _ _ _ | exact Fv.mono _ _ _ | exact Fr.mono _ _ _ | exact Fe.mono _ _ | exact Fu.mono _ _ | exact Fp.mono _ _ | exact Fs.mono _ _ | exact Fn.mono _ _ | exact LeO.none _ | refine LeO.ite ?_ ?_ | refine LeO.bind ?_ (fun _ => ?_)
    · intro y0 y1 y2 y3 y4 y5
      unfold Fd.j2
      repeat' first | (with_reducible first | exact ih0 _ _ _ _ _ | exact ih1 _ _ _ _ _ | exact ih2 _ _ _ _ _ _ | exact ih3 _ _ _ _ _ _ | exact ih4 _ _ _ _ _ _ _ | exact ih5 _ _ _ _ _ _ _ _ | exact ih6 _ _ _ _ _ _ | exact ih7 _ _ _ _ _ _ _ | exact ih8 _ _ _ | exact ih9 _ _ _ | exact Fo.mono _ _ | exact Fl.mono _ _ _ | exact Ft.mono _ _ | exact Fm.mono _ _ | exact Faa.mono _ _ _ | exact Fv.mono _ _ _ | exact Fr.mono _ _ _ | exact Fe.mono _ _ | exact Fu.mono _ _ | exact Fp.mono _ _ | exact Fs.mono _ _ | exact Fn.mono _ _ | exact LeO.refl _ | exact LeO.none _ | refine LeO.ite ?_ ?_ | refine LeO.bind ?_ (fun _ => ?_)) | exact ih0 _ _ _ _ _ | exact ih1 _ _ _ _ _ | exact ih2 _ _ _ _ _ _ | exact ih3 _ _ _ _ _ _ | exact ih4 _ _ _ _ _ _ _ | exact ih5 _ _ _ _ _ _ _ _ | exact ih6 _ _ _ _ _ _ | exact ih7 _ _ _ _ _ _ _ | exact ih8 _ _ _ | exact ih9 _ _ _ | exact Fo.mono _ _ | exact Fl.mono _ _ _ | exact Ft.mono _ _ | exact Fm.mono _ _ | exact Faa.mono _ _ _ | exact Fv.mono _ _ _ | exact Fr.mono _ _ _ | exact Fe.mono _ _ | exact Fu.mono _ _ | exact Fp.mono _ _ | exact Fs.mono _ _ | exact Fn.mono _ _ | exact LeO.none _ | refine LeO.ite ?_ ?_ | refine LeO.bind ?_ (fun _ => ?_)
    · intro y0 y1 y2 y3 y4 y5
      unfold Fd.j3
      repeat' first | (with_reducible first | exact ih0 _ _ _ _ _ | exact ih1 _ _ _ _ _ | exact ih2 _ _ _ _ _ _ | exact ih3 _ _ _ _ _ _ | exact ih4 _ _ _ _ _ _ _ | exact ih5 _ _ _ _ _ _ _ _ | exact ih6 _ _ _ _ _ _ | exact ih7 _ _ _ _ _ _ _ | exact ih8 _ _ _ | exact ih9 _ _ _ | exact Fo.mono _ _ | exact Fl.mono _ _ _ | exact Ft.mono _ _ | exact Fm.mono _ _ | exact Faa.mono _ _ _ | exact Fv.mono _ _ _ | exact Fr.mono _ _ _ | exact Fe.mono _ _ | exact Fu.mono _ _ | exact Fp.mono _ _ | exact Fs.mono _ _ | exact Fn.mono _ _ | exact LeO.refl _ | exact LeO.none _ | refine LeO.ite ?_ ?_ | refine LeO.bind ?_ (fun _ => ?_)) | exact ih0 _ _ _ _ _ | exact ih1 _ _ _ _ _ | exact ih2 _ _ _ _ _ _ | exact ih3 _ _ _ _ _ _ | exact ih4 _ _ _ _ _ _ _ | exact ih5 _ _ _ _ _ _ _ _ | exact ih6 _ _ _ _ _ _ | exact ih7 _ _ _ _ _ _ _ | exact ih8 _ _ _ | exact ih9 _ _ _ | exact Fo.mono _ _ | exact Fl.mono _ _ _ | exact Ft.mono _ _ | exact Fm.mono _ _ | exact Faa.mono _ _ _ | exact Fv.mono _ _ _ | exact Fr.mono _ _ _ | exact Fe.mono _ _ | exact Fu.mono _ _ | exact Fp.mono _ _ | exact Fs.mono _ _ | exact Fn.mono _ _ | exact LeO.none _ | refine LeO.ite ?_ ?_ | refine LeO.bind ?_ (fun _ => ?_)
    · intro y0 y1 y2 y3 y4 y5 y6
      unfold Fd.l1
      repeat' first | (with_reducible first | exact ih0 _ _ _ _ _ | exact ih1 _ _ _ _ _ | exact ih2 _ _ _ _ _ _ | exact ih3 _ _ _ _ _ _ | exact ih4 _ _ _ _ _ _ _ | exact ih5 _ _ _ _ _ _ _ _ | exact ih6 _ _ _ _ _ _ | exact ih7 _ _ _ _ _ _ _ | exact ih8 _ _ _ | exact ih9 _ _ _ | exact Fo.mono _ _ | exact Fl.mono _ _ _ | exact Ft.mono _ _ | exact Fm.mono _ _ | exact Faa.mono _ _ _ | exact Fv.mono _ _ _ | exact Fr.mono _ _ _ | exact Fe.mono _ _ | exact Fu.mono _ _ | exact Fp.mono _ _ | exact Fs.mono _ _ | exact Fn.mono _ _ | exact LeO.refl _ | exact LeO.none _ | refine LeO.ite ?_ ?_ | refine LeO.bind ?_ (fun _ => ?_)) | exact ih0 _ _ _ _ _ | exact ih1 _ _ _ _ _ | exact ih2 _ _ _ _ _ _ | exact ih3 _ _ _ _ _ _ | exact ih4 _ _ _ _ _ _ _ | exact ih5 _ _ _ _ _ _ _ _ | exact ih6 _ _ _ _ _ _ | exact ih7 _ _ _ _ _ _ _ | exact ih8 _ _ _ | exact ih9 _ _ _ | exact Fo.mono _ _ | exact Fl.mono _ _ _ | exact Ft.mono _ _ | exact Fm.mono _ _ | exact Faa.mono _ _ _ | exact Fv.mono _ _ _ | exact Fr.mono _ _ _ | exact Fe.mono _ _ | exact Fu.mono _ _ | exact Fp.mono _ _ | exact Fs.mono _ _ | exact Fn.mono _ _ | exact LeO.none _ | refine LeO.ite ?_ ?_ | refine LeO.bind ?_ (fun _ => ?_)
    · intro y0 y1 y2 y3 y4 y5 y6 y7
      unfold Fd.j5
      repeat' first | (with_reducible first | exact ih0 _ _ _ _ _ | exact ih1 _ _ _ _ _ | exact ih2 _ _ _ _ _ _ | exact ih3 _ _ _ _ _ _ | exact ih4 _ _ _ _ _ _ _ | exact ih5 _ _ _ _ _ _ _ _ | exact ih6 _ _ _ _ _ _ | exact ih7 _ _ _ _ _ _ _ | exact ih8 _ _ _ | exact ih9 _ _ _ | exact Fo.mono _ _ | exact Fl.mono _ _ _ | exact Ft.mono _ _ | exact Fm.mono _ _ | exact Faa.mono _ _ _ | exact Fv.mono _ _ _ | exact Fr.mono _ _ _ | exact Fe.mono _ _ | exact Fu.mono _ _ | exact Fp.mono _ _ | exact Fs.mono _ _ | exact Fn.mono _ _ | exact LeO.refl _ | exact LeO.none _ | refine LeO.ite ?_ ?_ | refine LeO.bind ?_ (fun _ => ?_)) | exact ih0 _ _ _ _ _ | exact ih1 _ _ _ _ _ | exact ih2 _ _ _ _ _ _ | exact ih3 _ _ _ _ _ _ | exact ih4 _ _ _ _ _ _ _ | exact ih5 _ _ _ _ _ _ _ _ | exact ih6 _ _ _ _ _ _ | exact ih7 _ _ _ _ _ _ _ | exact ih8 _ _ _ | exact ih9 _ _ _ | exact Fo.mono _ _ | exact Fl.mono _ _ _ | exact Ft.mono _ _ | exact Fm.mono _ _ | exact Faa.mono _ _ _ | exact Fv.mono _ _ _ | exact Fr.mono _ _ _ | exact Fe.mono _ _ | exact Fu.mono _ _ | exact Fp.mono _ _ | exact Fs.mono _ _ | exact Fn.mono _ _ | exact LeO.none _ | refine LeO.ite ?_ ?_ | refine LeO.bind ?_ (fun _ => ?_)
    · intro y0 y1 y2 y3 y4 y5
      unfold Fd.l2
      repeat' first | (with_reducible first | exact ih0 _ _ _ _ _ | exact ih1 _ _ _ _ _ | exact ih2 _ _ _ _ _ _ | exact ih3 _ _ _ _ _ _ | exact ih4 _ _ _ _ _ _ _ | exact ih5 _ _ _ _ _ _ _ _ | exact ih6 _ _ _ _ _ _ | exact ih7 _ _ _ _ _ _ _ | exact ih8 _ _ _ | exact ih9 _ _ _ | exact Fo.mono _ _ | exact Fl.mono _ _ _ | exact Ft.mono _ _ | exact Fm.mono _ _ | exact Faa.mono _ _ _ | exact Fv.mono _ _ _ | exact Fr.mono _ _ _ | exact Fe.mono _ _ | exact Fu.mono _ _ | exact Fp.mono _ _ | exact Fs.mono _ _ | exact Fn.mono _ _ | exact LeO.refl _ | exact LeO.none _ | refine LeO.ite ?_ ?_ | refine LeO.bind ?_ (fun _ => ?_)) | exact ih0 _ _ _ _ _ | exact ih1 _ _ _ _ _ | exact ih2 _ _ _ _ _ _ | exact ih3 _ _ _ _ _ _ | exact ih4 _ _ _ _ _ _ _ | exact ih5 _ _ _ _ _ _ _ _ | exact ih6 _ _ _ _ _ _ | exact ih7 _ _ _ _ _ _ _ | exact ih8 _ _ _ | exact ih9 _ _ _ | exact Fo.mono _ _ | exact Fl.mono _ _ _ | exact Ft.mono _ _ | exact Fm.mono _ _ | exact Faa.mono _ _ _ | exact Fv.mono _ _ _ | exact Fr.mono _ _ _ | exact Fe.mono _ _ | exact Fu.mono _ _ | exact Fp.mono _ _ | exact Fs.mono _ _ | exact Fn.mono _ _ | exact LeO.none _ | refine LeO.ite ?_ ?_ | refine LeO.bind ?_ (fun _ => ?_)
    · intro y0 y1 y2 y3 y4 y5 y6
      unfold Fd.j7
      repeat' first | (with_reducible first | exact ih0 _ _ _ _ _ | exact ih1 _ _ _ _ _ | exact ih2 _ _ _ _ _ _ | exact ih3 _ _ _ _ _ _ | exact ih4 _ _ _ _ _ _ _ | exact ih5 _ _ _ _ _ _ _ _ | exact ih6 _ _ _ _ _ _ | exact ih7 _ _ _ _ _ _ _ | exact ih8 _ _ _ | exact ih9 _ _ _ | exact Fo.mono _ _ | exact Fl.mono _ _ _ | exact Ft.mono _ _ | exact Fm.mono _ _ | exact Faa.mono _ _ _ | exact Fv.mono _ _ _ | exact Fr.mono _ _ _ | exact Fe.mono _ _ | exact Fu.mono _ _ | exact Fp.mono _ _ | exact Fs.mono _ _ | exact Fn.mono _ _ | exact LeO.refl _ | exact LeO.none _ | refine LeO.ite ?_ ?_ | refine LeO.bind ?_ (fun _ => ?_)) | exact ih0 _ _ _ _ _ | exact ih1 _ _ _ _ _ | exact ih2 _ _ _ _ _ _ | exact ih3 _ _ _ _ _ _ | exact ih4 _ _ _ _ _ _ _ | exact ih5 _ _ _ _ _ _ _ _ | exact ih6 _ _ _ _ _ _ | exact ih7 _ _ _ _ _ _ _ | exact ih8 _ _ _ | exact ih9 _ _ _ | exact Fo.mono _ _ | exact Fl.mono _ _ _ | exact Ft.mono _ _ | exact Fm.mono _ _ | exact Faa.mono _ _ _ | exact Fv.mono _ _ _ | exact Fr.mono _ _ _ | exact Fe.mono _ _ | exact Fu.mono _ _ | exact Fp.mono _ _ | exact Fs.mono _ _ | exact Fn.mono _ _ | exact LeO.none _ | refine LeO.ite ?_ ?_ | refine LeO.bind ?_ (fun _ => ?_)
    · intro y0 y1 y2
      unfold Fd.j8
      repeat' first | (with_reducible first | exact ih0 _ _ _ _ _ | exact ih1 _ _ _ _ _ | exact ih2 _ _ _ _ _ _ | exact ih3 _ _ _ _ _ _ | exact ih4 _ _ _ _ _ _ _ | exact ih5 _ _ _ _ _ _ _ _ | exact ih6 _ _ _ _ _ _ | exact ih7 _ _ _ _ _ _ _ | exact ih8 _ _ _ | exact ih9 _ _ _ | exact Fo.mono _ _ | exact Fl.mono _ _ _ | exact Ft.mono _ _ | exact Fm.mono _ _ | exact Faa.mono _ _ _ | exact Fv.mono _ _ _ | exact Fr.mono _ _ _ | exact Fe.mono _ _ | exact Fu.mono _ _ | exact Fp.mono _ _ | exact Fs.mono _ _ | exact Fn.mono _ _ | exact LeO.refl _ | exact LeO.none _ | refine LeO.ite ?_ ?_ | refine LeO.bind ?_ (fun _ => ?_)) | exact ih0 _ _ _ _ _ | exact ih1 _ _ _ _ _ | exact ih2 _ _ _ _ _ _ | exact ih3 _ _ _ _ _ _ | exact ih4 _ _ _ _ _ _ _ | exact ih5 _ _ _ _ _ _ _ _ | exact ih6 _ _ _ _ _ _ | exact ih7 _ _ _ _ _ _ _ | exact ih8 _ _ _ | exact ih9 _ _ _ | exact Fo.mono _ _ | exact Fl.mono _ _ _ | exact Ft.mono _ _ | exact Fm.mono _ _ | exact Faa.mono _ _ _ | exact Fv.mono _ _ _ | exact Fr.mono _ _ _ | exact Fe.mono _ _ | exact Fu.mono _ _ | exact Fp.mono _ _ | exact Fs.mono _ _ | exact Fn.mono _ _ | exact LeO.none _ | refine LeO.ite ?_ ?_ | refine LeO.bind ?_ (fun _ => ?_)
    · intro y0 y1 y2
      unfold Fd.l3
      repeat' first | (with_reducible first | exact ih0 _ _ _ _ _ | exact ih1 _ _ _ _ _ | exact ih2 _ _ _ _ _ _ | exact ih3 _ _ _ _ _ _ | exact ih4 _ _ _ _ _ _ _ | exact ih5 _ _ _ _ _ _ _ _ | exact ih6 _ _ _ _ _ _ | exact ih7 _ _ _ _ _ _ _ | exact ih8 _ _ _ | exact ih9 _ _ _ | exact Fo.mono _ _ | exact Fl.mono _ _ _ | exact Ft.mono _ _ | exact Fm.mono _ _ | exact Faa.mono _ _ _ | exact Fv.mono _ _ _ | exact Fr.mono _ _ _ | exact Fe.mono _ _ | exact Fu.mono _ _ | exact Fp.mono _ _ | exact Fs.mono _ _ | exact Fn.mono _ _ | exact LeO.refl _ | exact LeO.none _ | refine LeO.ite ?_ ?_ | refine LeO.bind ?_ (fun _ => ?_)) | exact ih0 _ _ _ _ _ | exact ih1 _ _ _ _ _ | exact ih2 _ _ _ _ _ _ | exact ih3 _ _ _ _ _ _ | exact ih4 _ _ _ _ _ _ _ | exact ih5 _ _ _ _ _ _ _ _ | exact ih6 _ _ _ _ _ _ | exact ih7 _ _ _ _ _ _ _ | exact ih8 _ _ _ | exact ih9 _ _ _ | exact Fo.mono _ _ | exact Fl.mono _ _ _ | exact Ft.mono _ _ | exact Fm.mono _ _ | exact Faa.mono _ _ _ | exact Fv.mono _ _ _ | exact Fr.mono _ _ _ | exact Fe.mono _ _ | exact Fu.mono _ _ | exact Fp.mono _ _ | exact Fs.mono _ _ | exact Fn.mono _ _ | exact LeO.none _ | refine LeO.ite ?_ ?_ | refine LeO.bind ?_ (fun _ => ?_)
theorem Fd.mono : ∀ a0 k, LeO (Fd.f k a0) (Fd.f (k + 1) a0) := by
  intro a0 k
  obtain ⟨ih0, ih1, ih2, ih3, ih4, ih5, ih6, ih7, ih8, ih9⟩ := Fd.mono_l k
  unfold Fd.f
  repeat' first | (with_reducible first | exact ih0 _ _ _ _ _ | exact ih1 _ _ _ _ _ | exact ih2 _ _ _ _ _ _ | exact ih3 _ _ _ _ _ _ | exact ih4 _ _ _ _ _ _ _ | exact ih5 _ _ _ _ _ _ _ _ | exact ih6 _ _ _ _ _ _ | exact ih7 _ _ _ _ _ _ _ | exact ih8 _ _ _ | exact ih9 _ _ _ | exact Fo.mono _ _ | exact Fl.mono _ _ _ | exact Ft.mono _ _ | exact Fm.mono _ _ | exact Faa.mono _ _ _ | exact Fv.mono _ _ _ | exact Fr.mono _ _ _ | exact Fe.mono _ _ | exact Fu.mono _ _ | exact Fp.mono _ _ | exact Fs.mono _ _ | exact Fn.mono _ _ | exact LeO.refl _ | exact LeO.none _ | refine LeO.ite ?_ ?_ | refine LeO.bind ?_ (fun _ => ?_)) | exact ih0 _ _ _ _ _ | exact ih1 _ _ _ _ _ | exact ih2 _ _ _ _ _ _ | exact ih3 _ _ _ _ _ _ | exact ih4 _ _ _ _ _ _ _ | exact ih5 _ _ _ _ _ _ _ _ | exact ih6 _ _ _ _ _ _ | exact ih7 _ _ _ _ _ _ _ | exact ih8 _ _ _ | exact ih9 _ _ _ | exact Fo.mono _ _ | exact Fl.mono _ _ _ | exact Ft.mono _ _ | exact Fm.mono _ _ | exact Faa.mono _ _ _ | exact Fv.mono _ _ _ | exact Fr.mono _ _ _ | exact Fe.mono _ _ | exact Fu.mono _ _ | exact Fp.mono _ _ | exact Fs.mono _ _ | exact Fn.mono _ _ | exact LeO.none _ | refine LeO.ite ?_ ?_ | refine LeO.bind ?_ (fun _ => ?_)
set_option maxHeartbeats 64000000 in
set_option maxRecDepth 100000 in
theorem Fd.calls (k : Nat) (A0 : Option Addr) (c0 : Nat) (l0 : List Int) (r : Bool) (w : World) (hr0 : Kd.C (Kd.int .u8) w A0 l0.length l0) (hc0 : l0.length ≤ c0) (ht : r = true) (h : Fd.f k l0 = some r) :
  Calls Try.prog 9 #[.slice A0 l0.length c0] w fun e w' => e = .returned (.bool r) ∧ Below w.heap.size w w' := by
 have hu61 := Try.underlying61
 have HR0 := Aside0.mk hr0
 have HC0 := Aside0.mk hc0
 clear hr0 hc0
 have HB := Aside0.mk (Below.refl w.heap.size w)
 have HT := Aside0.mk ht
 clear ht
 have H : ((Fax.f l0).bind fun t101 => (if t101 = true then (some true) else ((Fp.f k l0).bind fun t102 => ((Ft.f k t102).bind fun bt105 => ((Fe.f k t102).bind fun bt109 => (if (bt105.2 != bt109.2) = true then (Fd.j0 k l0 t102 bt105.1 bt105.2 true) else ((Fv.f k bt105.1 bt109.1).bind fun t113 => (if t113 = true then ((Fo.f k t102).bind fun t114 => (Fd.j0 k l0 t102 bt105.1 bt105.2 (bt105.2 != t114))) else (Fd.j0 k l0 t102 bt105.1 bt105.2 true))))))))) = some r := h
 clear h
 replace H := Option.bind_eq_some_iff.mp H
 obtain ⟨t101, A20, H⟩ := H
 (try dsimp only at H)
 have A2 := Aside0.mk A20
 clear A20
 by_cases c3 : t101 = true
 ·subst c3
  have H1 : (some true) = some r := by rw [if_pos rfl] at H; exact H
  clear H
  have H := H1
  clear H1
  as_aux_lemma =>
   obtain rfl := Option.some.inj H
   go_enter Try.func9, Try.ntmps9
   go_wp2_with (first | (go_at_call 34; (with_reducible refine (Fax.calls _ _ l0 true _ ?side1 ?side2 A2.out).mono ?_); (case side1 => repeat (first | exact HR0.out | (with_reducible refine Kd.C_alloc ?_ _) | (with_reducible refine Kd.C_drewN ?_ _) | (with_reducible refine Kd.C_drew ?_))); (case side2 => exact HC0.out); rintro e w' ⟨rfl, ⟨nd, rfl⟩⟩; (try first | exact ⟨rfl, _, World.drewN_drewN _ _ _⟩ | exact ⟨rfl, _, Eq.trans (World.drewN_drewN _ _ _) (congrArg (World.drewN _) (Nat.add_assoc _ _ _))⟩)))
   repeat (go_quiet (first | (go_at_call 34; (with_reducible refine (Fax.calls _ _ l0 true _ ?side1 ?side2 A2.out).mono ?_); (case side1 => repeat (first | exact HR0.out | (with_reducible refine Kd.C_alloc ?_ _) | (with_reducible refine Kd.C_drewN ?_ _) | (with_reducible refine Kd.C_drew ?_))); (case side2 => exact HC0.out); rintro e w' ⟨rfl, ⟨nd, rfl⟩⟩; (try first | exact ⟨rfl, _, World.drewN_drewN _ _ _⟩ | exact ⟨rfl, _, Eq.trans (World.drewN_drewN _ _ _) (congrArg (World.drewN _) (Nat.add_assoc _ _ _))⟩))); try go_wp2_with (first | (go_at_call 34; (with_reducible refine (Fax.calls _ _ l0 true _ ?side1 ?side2 A2.out).mono ?_); (case side1 => repeat (first | exact HR0.out | (with_reducible refine Kd.C_alloc ?_ _) | (with_reducible refine Kd.C_drewN ?_ _) | (with_reducible refine Kd.C_drew ?_))); (case side2 => exact HC0.out); rintro e w' ⟨rfl, ⟨nd, rfl⟩⟩; (try first | exact ⟨rfl, _, World.drewN_drewN _ _ _⟩ | exact ⟨rfl, _, Eq.trans (World.drewN_drewN _ _ _) (congrArg (World.drewN _) (Nat.add_assoc _ _ _))⟩))))
   go_ret
   exact ⟨by first | rfl | (simp [errW_none, errW_some] <;> rfl) | (simp [*, errW_none, errW_some] <;> rfl), by exact eS HB.out⟩
 replace c3 := Bool.eq_false_iff.mpr c3
 subst c3
 have H1 : ((Fp.f k l0).bind fun t102 => ((Ft.f k t102).bind fun bt105 => ((Fe.f k t102).bind fun bt109 => (if (bt105.2 != bt109.2) = true then (Fd.j0 k l0 t102 bt105.1 bt105.2 true) else ((Fv.f k bt105.1 bt109.1).bind fun t113 => (if t113 = true then ((Fo.f k t102).bind fun t114 => (Fd.j0 k l0 t102 bt105.1 bt105.2 (bt105.2 != t114))) else (Fd.j0 k l0 t102 bt105.1 bt105.2 true))))))) = some r := by rw [if_neg (show ¬ (false = true) by decide)] at H; exact H
 clear H
 have H := H1
 clear H1
 replace H := Option.bind_eq_some_iff.mp H
 obtain ⟨t102, A40, H⟩ := H
 (try dsimp only at H)
 have A4 := Aside0.mk A40
 clear A40
 replace H := Option.bind_eq_some_iff.mp H
 obtain ⟨⟨t105, t106⟩, A50, H⟩ := H
 (try dsimp only at H)
 have A5 := Aside0.mk A50
 clear A50
 replace H := Option.bind_eq_some_iff.mp H
 obtain ⟨⟨t109, t110⟩, A60, H⟩ := H
 (try dsimp only at H)
 have A6 := Aside0.mk A60
 clear A60
 have HC7 := Aside0.mk H
 clear H
 go_enter Try.func9, Try.ntmps9
 go_upto_region 6 with (first | (go_at_call 34; (with_reducible refine (Fax.calls _ _ l0 false _ ?side1 ?side2 A2.out).mono ?_); (case side1 => repeat (first | exact HR0.out | (with_reducible refine Kd.C_alloc ?_ _) | (with_reducible refine Kd.C_drewN ?_ _) | (with_reducible refine Kd.C_drew ?_))); (case side2 => exact HC0.out); rintro e w' ⟨rfl, ⟨nd, rfl⟩⟩; (try first | exact ⟨rfl, _, World.drewN_drewN _ _ _⟩ | exact ⟨rfl, _, Eq.trans (World.drewN_drewN _ _ _) (congrArg (World.drewN _) (Nat.add_assoc _ _ _))⟩)) | (go_at_call 35; (with_reducible refine (Fp.calls k _ _ l0 t102 _ ?side1 ?side2 A4.out).mono ?_); (case side1 => repeat (first | exact HR0.out | (with_reducible refine Kd.C_alloc ?_ _) | (with_reducible refine Kd.C_drewN ?_ _) | (with_reducible refine Kd.C_drew ?_))); (case side2 => exact HC0.out); rintro e w8 ⟨v103, rfl, ho0, hb⟩; have n0_ := Aside0.mk (Kd.R_lower ho0 (below_size (by exact eS HB.out))); have n1_ := Aside0.mk (below_step (by exact eS HB.out) hb); clear HB; have HO104 := n0_; have HB := n1_; clear n0_ n1_; (try clear hb); (try clear hb2); (try clear hk); (try clear hi); (try clear ho0); obtain ⟨Ao9, co9, eo9⟩ := Kd.R_slice HO104.out; subst eo9) | (go_at_call 36; (with_reducible refine (Ft.calls k _ _ t102 t105 t106 _ ?side1 ?side2 A5.out).mono ?_); (case side1 => repeat (first | exact (Kd.R_reads' HO104.out).2.2 | (with_reducible refine Kd.C_alloc ?_ _) | (with_reducible refine Kd.C_drewN ?_ _) | (with_reducible refine Kd.C_drew ?_))); (case side2 => exact (Kd.R_reads' HO104.out).2.1); rintro e w10 ⟨v107, rfl, ho0, hb⟩; have n0_ := Aside0.mk (Kd.R_below (by exact Ho.RS <| HO104.out) hb); have n1_ := Aside0.mk (Kd.R_lower ho0 (below_size (by exact eS HB.out))); have n2_ := Aside0.mk (below_step (by exact eS HB.out) hb); clear HO104; clear HB; have HO104 := n0_; have HO108 := n1_; have HB := n2_; clear n0_ n1_ n2_; (try clear hb); (try clear hb2); (try clear hk); (try clear hi); (try clear ho0)) | (go_at_call 37; (with_reducible refine (Fe.calls k _ _ t102 t109 t110 _ ?side1 ?side2 A6.out).mono ?_); (case side1 => repeat (first | exact (Kd.R_reads' HO104.out).2.2 | (with_reducible refine Kd.C_alloc ?_ _) | (with_reducible refine Kd.C_drewN ?_ _) | (with_reducible refine Kd.C_drew ?_))); (case side2 => exact (Kd.R_reads' HO104.out).2.1); rintro e w11 ⟨v111, rfl, ho0, hb⟩; have n0_ := Aside0.mk (Kd.R_below (by exact Ho.RS <| HO104.out) hb); have n1_ := Aside0.mk (Kd.R_elder' (by exact Ho.RS <| HO108.out) (Kd.R_base ho0) hb); have n2_ := Aside0.mk (Kd.R_lower (Kd.R_new' ho0 (Kd.R_lt (by exact Ho.RS <| HO108.out))) (below_size (by exact eS HB.out))); have n3_ := Aside0.mk (below_step (by exact eS HB.out) hb); clear HO104; clear HO108; clear HB; have HO104 := n0_; have HO108 := n1_; have HO112 := n2_; have HB := n3_; clear n0_ n1_ n2_ n3_; (try clear hb); (try clear hb2); (try clear hk); (try clear hi); (try clear ho0)))
 repeat (go_quiet (first | (go_at_call 34; (with_reducible refine (Fax.calls _ _ l0 false _ ?side1 ?side2 A2.out).mono ?_); (case side1 => repeat (first | exact HR0.out | (with_reducible refine Kd.C_alloc ?_ _) | (with_reducible refine Kd.C_drewN ?_ _) | (with_reducible refine Kd.C_drew ?_))); (case side2 => exact HC0.out); rintro e w' ⟨rfl, ⟨nd, rfl⟩⟩; (try first | exact ⟨rfl, _, World.drewN_drewN _ _ _⟩ | exact ⟨rfl, _, Eq.trans (World.drewN_drewN _ _ _) (congrArg (World.drewN _) (Nat.add_assoc _ _ _))⟩)) | (go_at_call 35; (with_reducible refine (Fp.calls k _ _ l0 t102 _ ?side1 ?side2 A4.out).mono ?_); (case side1 => repeat (first | exact HR0.out | (with_reducible refine Kd.C_alloc ?_ _) | (with_reducible refine Kd.C_drewN ?_ _) | (with_reducible refine Kd.C_drew ?_))); (case side2 => exact HC0.out); rintro e w8 ⟨v103, rfl, ho0, hb⟩; have n0_ := Aside0.mk (Kd.R_lower ho0 (below_size (by exact eS HB.out))); have n1_ := Aside0.mk (below_step (by exact eS HB.out) hb); clear HB; have HO104 := n0_; have HB := n1_; clear n0_ n1_; (try clear hb); (try clear hb2); (try clear hk); (try clear hi); (try clear ho0); obtain ⟨Ao9, co9, eo9⟩ := Kd.R_slice HO104.out; subst eo9) | (go_at_call 36; (with_reducible refine (Ft.calls k _ _ t102 t105 t106 _ ?side1 ?side2 A5.out).mono ?_); (case side1 => repeat (first | exact (Kd.R_reads' HO104.out).2.2 | (with_reducible refine Kd.C_alloc ?_ _) | (with_reducible refine Kd.C_drewN ?_ _) | (with_reducible refine Kd.C_drew ?_))); (case side2 => exact (Kd.R_reads' HO104.out).2.1); rintro e w10 ⟨v107, rfl, ho0, hb⟩; have n0_ := Aside0.mk (Kd.R_below (by exact Ho.RS <| HO104.out) hb); have n1_ := Aside0.mk (Kd.R_lower ho0 (below_size (by exact eS HB.out))); have n2_ := Aside0.mk (below_step (by exact eS HB.out) hb); clear HO104; clear HB; have HO104 := n0_; have HO108 := n1_; have HB := n2_; clear n0_ n1_ n2_; (try clear hb); (try clear hb2); (try clear hk); (try clear hi); (try clear ho0)) | (go_at_call 37; (with_reducible refine (Fe.calls k _ _ t102 t109 t110 _ ?side1 ?side2 A6.out).mono ?_); (case side1 => repeat (first | exact (Kd.R_reads' HO104.out).2.2 | (with_reducible refine Kd.C_alloc ?_ _) | (with_reducible refine Kd.C_drewN ?_ _) | (with_reducible refine Kd.C_drew ?_))); (case side2 => exact (Kd.R_reads' HO104.out).2.1); rintro e w11 ⟨v111, rfl, ho0, hb⟩; have n0_ := Aside0.mk (Kd.R_below (by exact Ho.RS <| HO104.out) hb); have n1_ := Aside0.mk (Kd.R_elder' (by exact Ho.RS <| HO108.out) (Kd.R_base ho0) hb); have n2_ := Aside0.mk (Kd.R_lower (Kd.R_new' ho0 (Kd.R_lt (by exact Ho.RS <| HO108.out))) (below_size (by exact eS HB.out))); have n3_ := Aside0.mk (below_step (by exact eS HB.out) hb); clear HO104; clear HO108; clear HB; have HO104 := n0_; have HO108 := n1_; have HO112 := n2_; have HB := n3_; clear n0_ n1_ n2_ n3_; (try clear hb); (try clear hb2); (try clear hk); (try clear hi); (try clear ho0))); go_upto_region 6 with (first | (go_at_call 34; (with_reducible refine (Fax.calls _ _ l0 false _ ?side1 ?side2 A2.out).mono ?_); (case side1 => repeat (first | exact HR0.out | (with_reducible refine Kd.C_alloc ?_ _) | (with_reducible refine Kd.C_drewN ?_ _) | (with_reducible refine Kd.C_drew ?_))); (case side2 => exact HC0.out); rintro e w' ⟨rfl, ⟨nd, rfl⟩⟩; (try first | exact ⟨rfl, _, World.drewN_drewN _ _ _⟩ | exact ⟨rfl, _, Eq.trans (World.drewN_drewN _ _ _) (congrArg (World.drewN _) (Nat.add_assoc _ _ _))⟩)) | (go_at_call 35; (with_reducible refine (Fp.calls k _ _ l0 t102 _ ?side1 ?side2 A4.out).mono ?_); (case side1 => repeat (first | exact HR0.out | (with_reducible refine Kd.C_alloc ?_ _) | (with_reducible refine Kd.C_drewN ?_ _) | (with_reducible refine Kd.C_drew ?_))); (case side2 => exact HC0.out); rintro e w8 ⟨v103, rfl, ho0, hb⟩; have n0_ := Aside0.mk (Kd.R_lower ho0 (below_size (by exact eS HB.out))); have n1_ := Aside0.mk (below_step (by exact eS HB.out) hb); clear HB; have HO104 := n0_; have HB := n1_; clear n0_ n1_; (try clear hb); (try clear hb2); (try clear hk); (try clear hi); (try clear ho0); obtain ⟨Ao9, co9, eo9⟩ := Kd.R_slice HO104.out; subst eo9) | (go_at_call 36; (with_reducible refine (Ft.calls k _ _ t102 t105 t106 _ ?side1 ?side2 A5.out).mono ?_); (case side1 => repeat (first | exact (Kd.R_reads' HO104.out).2.2 | (with_reducible refine Kd.C_alloc ?_ _) | (with_reducible refine Kd.C_drewN ?_ _) | (with_reducible refine Kd.C_drew ?_))); (case side2 => exact (Kd.R_reads' HO104.out).2.1); rintro e w10 ⟨v107, rfl, ho0, hb⟩; have n0_ := Aside0.mk (Kd.R_below (by exact Ho.RS <| HO104.out) hb); have n1_ := Aside0.mk (Kd.R_lower ho0 (below_size (by exact eS HB.out))); have n2_ := Aside0.mk (below_step (by exact eS HB.out) hb); clear HO104; clear HB; have HO104 := n0_; have HO108 := n1_; have HB := n2_; clear n0_ n1_ n2_; (try clear hb); (try clear hb2); (try clear hk); (try clear hi); (try clear ho0)) | (go_at_call 37; (with_reducible refine (Fe.calls k _ _ t102 t109 t110 _ ?side1 ?side2 A6.out).mono ?_); (case side1 => repeat (first | exact (Kd.R_reads' HO104.out).2.2 | (with_reducible refine Kd.C_alloc ?_ _) | (with_reducible refine Kd.C_drewN ?_ _) | (with_reducible refine Kd.C_drew ?_))); (case side2 => exact (Kd.R_reads' HO104.out).2.1); rintro e w11 ⟨v111, rfl, ho0, hb⟩; have n0_ := Aside0.mk (Kd.R_below (by exact Ho.RS <| HO104.out) hb); have n1_ := Aside0.mk (Kd.R_elder' (by exact Ho.RS <| HO108.out) (Kd.R_base ho0) hb); have n2_ := Aside0.mk (Kd.R_lower (Kd.R_new' ho0 (Kd.R_lt (by exact Ho.RS <| HO108.out))) (below_size (by exact eS HB.out))); have n3_ := Aside0.mk (below_step (by exact eS HB.out) hb); clear HO104; clear HO108; clear HB; have HO104 := n0_; have HO108 := n1_; have HO112 := n2_; have HB := n3_; clear n0_ n1_ n2_ n3_; (try clear hb); (try clear hb2); (try clear hk); (try clear hi); (try clear ho0))))
 (try simp only [Act.put, List.setIfInBounds_toArray, List.set_cons_zero, List.set_cons_succ])
 go_cut [53] (fun v53 wc => ∃ (kq : Nat) (x53_6 : Bool), v53 = .bool x53_6 ∧ Aside0 (Fd.j0 kq l0 t102 t105 t106 x53_6 = some r) ∧ Aside0 (kq ≤ k) ∧ Aside0 (Kd.R k61 61 wc w.heap.size (fun _ => True) (.slice Ao9 t102.length co9) t102) ∧ Aside0 (Kd.R (Kd.int .i64) 3 wc w.heap.size (fun _ => True) v107 t105) ∧ Aside0 (Below w.heap.size w wc))
 case first =>
  have H := HC7.out
  clear HC7
  by_cases c12 : (t106 != t110) = true
  ·rw [if_pos c12] at H
   have c12b0 : (t106 != t110) = true := c12
   (try (have c12b1 : decide (t106 = t110) = false := by simpa using c12))
   (try (have c12b2 : (t106 == t110) = false := by simpa using c12))
   (try (have c12b3 : ¬ (t106 = t110) := by simpa using c12))
   clear c12
   (first | rw [c12b0] | (simp only [i64_w, i32_w]; rw [c12b0]) | skip)
   as_aux_lemma =>
    have H' := Aside0.mk H
    clear H
    go_wp2
    repeat (go_quiet (fail); try go_wp2)
    go_meet
    case rel => exact ⟨_, (true), (by first | rfl | (simp; done) | (simp [*]; done)), H', ⟨by first | omega | exact Nat.le_refl _⟩, ⟨by exact Ho.RS <| HO104.out⟩, ⟨by exact Ho.RS <| Kd.R_mono HO108.out (fun _ hk => trivial)⟩, ⟨by exact eS HB.out⟩⟩
  rw [if_neg c12] at H
  have c12b0 : (t106 != t110) = false := by simpa using c12
  (try (have c12b1 : decide (t106 = t110) = true := by simpa using c12))
  (try (have c12b2 : (t106 == t110) = true := by simpa using c12))
  clear c12
  (first | rw [c12b0] | (simp only [i64_w, i32_w]; rw [c12b0]) | skip)
  replace H := Option.bind_eq_some_iff.mp H
  obtain ⟨t113, A130, H⟩ := H
  (try dsimp only at H)
  have A13 := Aside0.mk A130
  clear A130
  by_cases c14 : t113 = true
  rotate_left
  ·replace c14 := Bool.eq_false_iff.mpr c14
   subst c14
   have H1 : (Fd.j0 k l0 t102 t105 t106 true) = some r := by rw [if_neg (show ¬ (false = true) by decide)] at H; exact H
   clear H
   have H := H1
   clear H1
   as_aux_lemma =>
    have H' := Aside0.mk H
    clear H
    obtain ⟨Ao19, co19, eo19⟩ := Kd.R_slice HO108.out
    subst eo19
    obtain ⟨Ao20, co20, eo20⟩ := Kd.R_slice HO112.out
    subst eo20
    go_wp2_with (first | (go_at_call 38; (with_reducible refine (Fv.calls k _ _ t105 _ _ t109 false _ ?side1 ?side2 ?side3 ?side4 A13.out).mono ?_); (case side1 => repeat (first | exact (Kd.R_reads' HO108.out).2.2 | (with_reducible refine Kd.C_alloc ?_ _) | (with_reducible refine Kd.C_drewN ?_ _) | (with_reducible refine Kd.C_drew ?_))); (case side2 => exact (Kd.R_reads' HO108.out).2.1); (case side3 => repeat (first | exact (Kd.R_reads' HO112.out).2.2 | (with_reducible refine Kd.C_alloc ?_ _) | (with_reducible refine Kd.C_drewN ?_ _) | (with_reducible refine Kd.C_drew ?_))); (case side4 => exact (Kd.R_reads' HO112.out).2.1); rintro e w' ⟨rfl, ⟨nd, rfl⟩⟩; (try first | exact ⟨rfl, _, World.drewN_drewN _ _ _⟩ | exact ⟨rfl, _, Eq.trans (World.drewN_drewN _ _ _) (congrArg (World.drewN _) (Nat.add_assoc _ _ _))⟩)))
    repeat (go_quiet (first | (go_at_call 38; (with_reducible refine (Fv.calls k _ _ t105 _ _ t109 false _ ?side1 ?side2 ?side3 ?side4 A13.out).mono ?_); (case side1 => repeat (first | exact (Kd.R_reads' HO108.out).2.2 | (with_reducible refine Kd.C_alloc ?_ _) | (with_reducible refine Kd.C_drewN ?_ _) | (with_reducible refine Kd.C_drew ?_))); (case side2 => exact (Kd.R_reads' HO108.out).2.1); (case side3 => repeat (first | exact (Kd.R_reads' HO112.out).2.2 | (with_reducible refine Kd.C_alloc ?_ _) | (with_reducible refine Kd.C_drewN ?_ _) | (with_reducible refine Kd.C_drew ?_))); (case side4 => exact (Kd.R_reads' HO112.out).2.1); rintro e w' ⟨rfl, ⟨nd, rfl⟩⟩; (try first | exact ⟨rfl, _, World.drewN_drewN _ _ _⟩ | exact ⟨rfl, _, Eq.trans (World.drewN_drewN _ _ _) (congrArg (World.drewN _) (Nat.add_assoc _ _ _))⟩))); try go_wp2_with (first | (go_at_call 38; (with_reducible refine (Fv.calls k _ _ t105 _ _ t109 false _ ?side1 ?side2 ?side3 ?side4 A13.out).mono ?_); (case side1 => repeat (first | exact (Kd.R_reads' HO108.out).2.2 | (with_reducible refine Kd.C_alloc ?_ _) | (with_reducible refine Kd.C_drewN ?_ _) | (with_reducible refine Kd.C_drew ?_))); (case side2 => exact (Kd.R_reads' HO108.out).2.1); (case side3 => repeat (first | exact (Kd.R_reads' HO112.out).2.2 | (with_reducible refine Kd.C_alloc ?_ _) | (with_reducible refine Kd.C_drewN ?_ _) | (with_reducible refine Kd.C_drew ?_))); (case side4 => exact (Kd.R_reads' HO112.out).2.1); rintro e w' ⟨rfl, ⟨nd, rfl⟩⟩; (try first | exact ⟨rfl, _, World.drewN_drewN _ _ _⟩ | exact ⟨rfl, _, Eq.trans (World.drewN_drewN _ _ _) (congrArg (World.drewN _) (Nat.add_assoc _ _ _))⟩))))
    go_meet
    case rel => exact ⟨_, (true), (by first | rfl | (simp; done) | (simp [*]; done)), H', ⟨by first | omega | exact Nat.le_refl _⟩, ⟨by exact Ho.RS <| HO104.out⟩, ⟨by exact Ho.RS <| Kd.R_mono HO108.out (fun _ hk => trivial)⟩, ⟨by exact eS HB.out⟩⟩
  subst c14
  have H1 : ((Fo.f k t102).bind fun t114 => (Fd.j0 k l0 t102 t105 t106 (t106 != t114))) = some r := by rw [if_pos rfl] at H; exact H
  clear H
  have H := H1
  clear H1
  replace H := Option.bind_eq_some_iff.mp H
  obtain ⟨t114, A150, H⟩ := H
  (try dsimp only at H)
  have A15 := Aside0.mk A150
  clear A150
  as_aux_lemma =>
   have H' := Aside0.mk H
   clear H
   obtain ⟨Ao16, co16, eo16⟩ := Kd.R_slice HO108.out
   subst eo16
   obtain ⟨Ao17, co17, eo17⟩ := Kd.R_slice HO112.out
   subst eo17
   go_wp2_with (first | (go_at_call 38; (with_reducible refine (Fv.calls k _ _ t105 _ _ t109 true _ ?side1 ?side2 ?side3 ?side4 A13.out).mono ?_); (case side1 => repeat (first | exact (Kd.R_reads' HO108.out).2.2 | (with_reducible refine Kd.C_alloc ?_ _) | (with_reducible refine Kd.C_drewN ?_ _) | (with_reducible refine Kd.C_drew ?_))); (case side2 => exact (Kd.R_reads' HO108.out).2.1); (case side3 => repeat (first | exact (Kd.R_reads' HO112.out).2.2 | (with_reducible refine Kd.C_alloc ?_ _) | (with_reducible refine Kd.C_drewN ?_ _) | (with_reducible refine Kd.C_drew ?_))); (case side4 => exact (Kd.R_reads' HO112.out).2.1); rintro e w' ⟨rfl, ⟨nd, rfl⟩⟩; (try first | exact ⟨rfl, _, World.drewN_drewN _ _ _⟩ | exact ⟨rfl, _, Eq.trans (World.drewN_drewN _ _ _) (congrArg (World.drewN _) (Nat.add_assoc _ _ _))⟩)) | (go_at_call 39; (with_reducible refine (Fo.calls k _ _ t102 t114 _ ?side1 ?side2 A15.out).mono ?_); (case side1 => repeat (first | exact (Kd.R_reads' HO104.out).2.2 | (with_reducible refine Kd.C_alloc ?_ _) | (with_reducible refine Kd.C_drewN ?_ _) | (with_reducible refine Kd.C_drew ?_))); (case side2 => exact (Kd.R_reads' HO104.out).2.1); rintro e w18 ⟨rfl, hb⟩; have n0_ := Aside0.mk (Kd.R_below (by exact Ho.RS <| HO104.out) hb); have n1_ := Aside0.mk (Kd.R_below (by exact Ho.RS <| HO108.out) hb); have n2_ := Aside0.mk (Kd.R_below (by exact Ho.RS <| HO112.out) hb); have n3_ := Aside0.mk (below_step (by exact eS HB.out) hb); clear HO104; clear HO108; clear HO112; clear HB; have HO104 := n0_; have HO108 := n1_; have HO112 := n2_; have HB := n3_; clear n0_ n1_ n2_ n3_; (try clear hb); (try clear hb2); (try clear hk); (try clear hi)))
   repeat (go_quiet (first | (go_at_call 38; (with_reducible refine (Fv.calls k _ _ t105 _ _ t109 true _ ?side1 ?side2 ?side3 ?side4 A13.out).mono ?_); (case side1 => repeat (first | exact (Kd.R_reads' HO108.out).2.2 | (with_reducible refine Kd.C_alloc ?_ _) | (with_reducible refine Kd.C_drewN ?_ _) | (with_reducible refine Kd.C_drew ?_))); (case side2 => exact (Kd.R_reads' HO108.out).2.1); (case side3 => repeat (first | exact (Kd.R_reads' HO112.out).2.2 | (with_reducible refine Kd.C_alloc ?_ _) | (with_reducible refine Kd.C_drewN ?_ _) | (with_reducible refine Kd.C_drew ?_))); (case side4 => exact (Kd.R_reads' HO112.out).2.1); rintro e w' ⟨rfl, ⟨nd, rfl⟩⟩; (try first | exact ⟨rfl, _, World.drewN_drewN _ _ _⟩ | exact ⟨rfl, _, Eq.trans (World.drewN_drewN _ _ _) (congrArg (World.drewN _) (Nat.add_assoc _ _ _))⟩)) | (go_at_call 39; (with_reducible refine (Fo.calls k _ _ t102 t114 _ ?side1 ?side2 A15.out).mono ?_); (case side1 => repeat (first | exact (Kd.R_reads' HO104.out).2.2 | (with_reducible refine Kd.C_alloc ?_ _) | (with_reducible refine Kd.C_drewN ?_ _) | (with_reducible refine Kd.C_drew ?_))); (case side2 => exact (Kd.R_reads' HO104.out).2.1); rintro e w18 ⟨rfl, hb⟩; have n0_ := Aside0.mk (Kd.R_below (by exact Ho.RS <| HO104.out) hb); have n1_ := Aside0.mk (Kd.R_below (by exact Ho.RS <| HO108.out) hb); have n2_ := Aside0.mk (Kd.R_below (by exact Ho.RS <| HO112.out) hb); have n3_ := Aside0.mk (below_step (by exact eS HB.out) hb); clear HO104; clear HO108; clear HO112; clear HB; have HO104 := n0_; have HO108 := n1_; have HO112 := n2_; have HB := n3_; clear n0_ n1_ n2_ n3_; (try clear hb); (try clear hb2); (try clear hk); (try clear hi))); try go_wp2_with (first | (go_at_call 38; (with_reducible refine (Fv.calls k _ _ t105 _ _ t109 true _ ?side1 ?side2 ?side3 ?side4 A13.out).mono ?_); (case side1 => repeat (first | exact (Kd.R_reads' HO108.out).2.2 | (with_reducible refine Kd.C_alloc ?_ _) | (with_reducible refine Kd.C_drewN ?_ _) | (with_reducible refine Kd.C_drew ?_))); (case side2 => exact (Kd.R_reads' HO108.out).2.1); (case side3 => repeat (first | exact (Kd.R_reads' HO112.out).2.2 | (with_reducible refine Kd.C_alloc ?_ _) | (with_reducible refine Kd.C_drewN ?_ _) | (with_reducible refine Kd.C_drew ?_))); (case side4 => exact (Kd.R_reads' HO112.out).2.1); rintro e w' ⟨rfl, ⟨nd, rfl⟩⟩; (try first | exact ⟨rfl, _, World.drewN_drewN _ _ _⟩ | exact ⟨rfl, _, Eq.trans (World.drewN_drewN _ _ _) (congrArg (World.drewN _) (Nat.add_assoc _ _ _))⟩)) | (go_at_call 39; (with_reducible refine (Fo.calls k _ _ t102 t114 _ ?side1 ?side2 A15.out).mono ?_); (case side1 => repeat (first | exact (Kd.R_reads' HO104.out).2.2 | (with_reducible refine Kd.C_alloc ?_ _) | (with_reducible refine Kd.C_drewN ?_ _) | (with_reducible refine Kd.C_drew ?_))); (case side2 => exact (Kd.R_reads' HO104.out).2.1); rintro e w18 ⟨rfl, hb⟩; have n0_ := Aside0.mk (Kd.R_below (by exact Ho.RS <| HO104.out) hb); have n1_ := Aside0.mk (Kd.R_below (by exact Ho.RS <| HO108.out) hb); have n2_ := Aside0.mk (Kd.R_below (by exact Ho.RS <| HO112.out) hb); have n3_ := Aside0.mk (below_step (by exact eS HB.out) hb); clear HO104; clear HO108; clear HO112; clear HB; have HO104 := n0_; have HO108 := n1_; have HO112 := n2_; have HB := n3_; clear n0_ n1_ n2_ n3_; (try clear hb); (try clear hb2); (try clear hk); (try clear hi))))
   go_meet
   case rel => exact ⟨_, ((t106 != t114)), (by first | rfl | (simp; done) | (simp [*]; done)), H', ⟨by first | omega | exact Nat.le_refl _⟩, ⟨by exact Ho.RS <| HO104.out⟩, ⟨by exact Ho.RS <| Kd.R_mono HO108.out (fun _ hk => trivial)⟩, ⟨by exact eS HB.out⟩⟩
 case rest =>
  clear HC7
  try clear c1
  try clear p2
  try clear c3
  try clear c9
  try clear c12
  try clear c12b0
  try clear c12b1
  try clear c12b2
  try clear c14
  as_aux_lemma =>
   obtain ⟨kq, x53_6, rfl, HA, HJ6, HO_3, HO_4, HB⟩ := hcut
   cases kq with
   | zero => exact absurd HA.out (by simp [Fd.j0])
   | succ kj6 =>
    have H := HA.out
    clear HA
    simp only [Fd.j0] at H
    by_cases c21 : x53_6 = true
    ·subst c21
     have H1 : (some false) = some r := by rw [if_pos rfl] at H; exact H
     clear H
     have H := H1
     clear H1
     as_aux_lemma =>
      exact absurd ((Option.some.inj H).trans HT.out) (by decide)
    replace c21 := Bool.eq_false_iff.mpr c21
    subst c21
    have H1 : (Fd.l0 kj6 l0 t102 t105 t106 0) = some r := by rw [if_neg (show ¬ (false = true) by decide)] at H; exact H
    clear H
    have H := H1
    clear H1
    have H' := Aside0.mk H
    clear H
    go_wp2
    repeat (go_quiet (fail); try go_wp2)
    go_loopg [8] kj6 (fun kq v8 w' => ∃ (x8_2 : Int), v8 = .int .i64 x8_2 ∧ Aside0 (Fd.l0 kq l0 t102 t105 t106 x8_2 = some r) ∧ Aside0 (kq ≤ kj6) ∧ Aside0 (Kd.R k61 61 w' w.heap.size (fun _ => True) (.slice Ao9 t102.length co9) t102) ∧ Aside0 (Kd.R (Kd.int .i64) 3 w' w.heap.size (fun _ => True) v107 t105) ∧ Aside0 (Below w.heap.size w w'))
    case atStart => exact ⟨(0), (by first | rfl | (simp; done) | (simp [*]; done)), H', ⟨Nat.le_refl _⟩, ⟨by exact Ho.RS <| HO_3.out⟩, ⟨by exact Ho.RS <| HO_4.out⟩, ⟨by exact eS HB.out⟩⟩
    case round =>
     clear H'
     try clear c1
     try clear c2
     try clear p2
     try clear c3
     try clear c9
     try clear c12
     try clear c12b0
     try clear c12b1
     try clear c12b2
     try clear c14
     try clear c21
     try clear p2
     obtain ⟨x8_2, rfl, HA, HK2, HO_3, HO_4, HB⟩ := hrel
     cases gk with
     | zero => exact absurd HA.out (by simp [Fd.l0])
     | succ k2 =>
      have H := HA.out
      clear HA
      simp only [Fd.l0] at H
      have HC22 := Aside0.mk H
      clear H
      go_upto_region 9 with (fail)
      repeat (go_quiet (fail); go_upto_region 9 with (fail))
      go_cut [60] (fun v60 wc => ∃ (kq : Nat) (x60_21 : Bool), v60 = .bool x60_21 ∧ Aside0 (Fd.j2 kq l0 t102 t105 t106 x8_2 x60_21 = some r) ∧ Aside0 (kq ≤ k2) ∧ Aside0 (Kd.R k61 61 wc w.heap.size (fun _ => True) (.slice Ao9 t102.length co9) t102) ∧ Aside0 (Kd.R (Kd.int .i64) 3 wc w.heap.size (fun _ => True) v107 t105) ∧ Aside0 (Below w.heap.size w wc))
      case first =>
       have H := HC22.out
       clear HC22
       by_cases c23 : x8_2 < (t102.length : Int)
       ·rw [if_pos c23] at H
        have c23b0 : decide (x8_2 < (t102.length : Int)) = true := decide_eq_true c23
        clear c23
        (first | rw [c23b0] | (simp only [i64_w, i32_w]; rw [c23b0]) | skip)
        as_aux_lemma =>
         have H' := Aside0.mk H
         clear H
         go_wp2
         repeat (go_quiet (fail); try go_wp2)
         go_meet
         case rel => exact ⟨_, (t106), (by first | rfl | (simp; done) | (simp [*]; done)), H', ⟨by have := HJ6.out; have := HK2.out; first | omega | exact Nat.le_refl _⟩, ⟨by exact Ho.RS <| HO_3.out⟩, ⟨by exact Ho.RS <| HO_4.out⟩, ⟨by exact eS HB.out⟩⟩
       rw [if_neg c23] at H
       have c23b0 : decide (x8_2 < (t102.length : Int)) = false := decide_eq_false c23
       clear c23
       (first | rw [c23b0] | (simp only [i64_w, i32_w]; rw [c23b0]) | skip)
       as_aux_lemma =>
        have H' := Aside0.mk H
        clear H
        go_wp2
        repeat (go_quiet (fail); try go_wp2)
        go_meet
        case rel => exact ⟨_, (false), (by first | rfl | (simp; done) | (simp [*]; done)), H', ⟨by have := HJ6.out; have := HK2.out; first | omega | exact Nat.le_refl _⟩, ⟨by exact Ho.RS <| HO_3.out⟩, ⟨by exact Ho.RS <| HO_4.out⟩, ⟨by exact eS HB.out⟩⟩
      case rest =>
       clear HC22
       try clear c1
       try clear c2
       try clear p2
       try clear c3
       try clear c9
       try clear c12
       try clear c12b0
       try clear c12b1
       try clear c12b2
       try clear c14
       try clear c21
       try clear c23
       try clear c23b0
       try clear p2
       as_aux_lemma =>
        obtain ⟨kq, x60_21, rfl, HA, HJ21, HO_3, HO_4, HB⟩ := hcut
        cases kq with
        | zero => exact absurd HA.out (by simp [Fd.j2])
        | succ kj21 =>
         have H := HA.out
         clear HA
         simp only [Fd.j2] at H
         by_cases c24 : x60_21 = true
         ·subst c24
          have H1 : (if 0 ≤ x8_2 then (if x8_2 < (t102.length : Int) then ((Faa.f kj21 t105 ((rd_T61 t102 x8_2).f0)).bind fun t116 => (if t116 = true then (Fd.l0 kj21 l0 t102 t105 t106 (wrap64 (x8_2 + 1))) else (some false))) else (none)) else (none)) = some r := by rw [if_pos rfl] at H; exact H
          clear H
          have H := H1
          clear H1
          by_cases c25 : 0 ≤ x8_2
          rotate_left
          ·rw [if_neg c25] at H
           exact absurd H (by simp)
          rw [if_pos c25] at H
          have c25b0 : decide (0 ≤ x8_2) = true := decide_eq_true c25
          clear c25
          by_cases c26 : x8_2 < (t102.length : Int)
          rotate_left
          ·rw [if_neg c26] at H
           exact absurd H (by simp)
          rw [if_pos c26] at H
          have c26b0 : decide (x8_2 < (t102.length : Int)) = true := decide_eq_true c26
          clear c26
          replace H := Option.bind_eq_some_iff.mp H
          obtain ⟨t116, A270, H⟩ := H
          (try dsimp only at H)
          have A27 := Aside0.mk A270
          clear A270
          by_cases c28 : t116 = true
          rotate_left
          ·replace c28 := Bool.eq_false_iff.mpr c28
           subst c28
           have H1 : (some false) = some r := by rw [if_neg (show ¬ (false = true) by decide)] at H; exact H
           clear H
           have H := H1
           clear H1
           as_aux_lemma =>
            exact absurd ((Option.some.inj H).trans HT.out) (by decide)
          subst c28
          have H1 : (Fd.l0 kj21 l0 t102 t105 t106 (wrap64 (x8_2 + 1))) = some r := by rw [if_pos rfl] at H; exact H
          clear H
          have H := H1
          clear H1
          as_aux_lemma =>
           have H' := Aside0.mk H
           clear H
           have p115 : 0 ≤ (x8_2 : Int) := of_decide_eq_true (by first | (with_reducible assumption) | assumption)
           have q115 : x8_2 < (t102.length : Int) := of_decide_eq_true (by first | (with_reducible assumption) | assumption)
           obtain ⟨ad115, e115, hx115_0, hx115_1, hx115_2, hx115_3, hx115_4⟩ := at_T61 (Kd.R_reads' HO_3.out).2.2 x8_2 p115 q115
           cases e115
           replace p115 := eq_true p115
           replace q115 := eq_true q115
           obtain ⟨Ao29, co29, eo29⟩ := Kd.R_slice HO_4.out
           subst eo29
           go_wp2_with (first | (go_at_call 40; (with_reducible refine (Faa.calls kj21 _ _ t105 ((rd_T61 t102 x8_2).f0) true _ ?side1 ?side2 A27.out).mono ?_); (case side1 => repeat (first | exact (Kd.R_reads' HO_4.out).2.2 | (with_reducible refine Kd.C_alloc ?_ _) | (with_reducible refine Kd.C_drewN ?_ _) | (with_reducible refine Kd.C_drew ?_))); (case side2 => exact (Kd.R_reads' HO_4.out).2.1); rintro e w' ⟨rfl, ⟨nd, rfl⟩⟩; (try first | exact ⟨rfl, _, World.drewN_drewN _ _ _⟩ | exact ⟨rfl, _, Eq.trans (World.drewN_drewN _ _ _) (congrArg (World.drewN _) (Nat.add_assoc _ _ _))⟩)))
           repeat (go_quiet (first | (go_at_call 40; (with_reducible refine (Faa.calls kj21 _ _ t105 ((rd_T61 t102 x8_2).f0) true _ ?side1 ?side2 A27.out).mono ?_); (case side1 => repeat (first | exact (Kd.R_reads' HO_4.out).2.2 | (with_reducible refine Kd.C_alloc ?_ _) | (with_reducible refine Kd.C_drewN ?_ _) | (with_reducible refine Kd.C_drew ?_))); (case side2 => exact (Kd.R_reads' HO_4.out).2.1); rintro e w' ⟨rfl, ⟨nd, rfl⟩⟩; (try first | exact ⟨rfl, _, World.drewN_drewN _ _ _⟩ | exact ⟨rfl, _, Eq.trans (World.drewN_drewN _ _ _) (congrArg (World.drewN _) (Nat.add_assoc _ _ _))⟩))); try go_wp2_with (first | (go_at_call 40; (with_reducible refine (Faa.calls kj21 _ _ t105 ((rd_T61 t102 x8_2).f0) true _ ?side1 ?side2 A27.out).mono ?_); (case side1 => repeat (first | exact (Kd.R_reads' HO_4.out).2.2 | (with_reducible refine Kd.C_alloc ?_ _) | (with_reducible refine Kd.C_drewN ?_ _) | (with_reducible refine Kd.C_drew ?_))); (case side2 => exact (Kd.R_reads' HO_4.out).2.1); rintro e w' ⟨rfl, ⟨nd, rfl⟩⟩; (try first | exact ⟨rfl, _, World.drewN_drewN _ _ _⟩ | exact ⟨rfl, _, Eq.trans (World.drewN_drewN _ _ _) (congrArg (World.drewN _) (Nat.add_assoc _ _ _))⟩))))
           go_roundg kj21
           case measure => have := HJ6.out; have := HK2.out; have := HJ21.out; omega
           case rel => exact ⟨(wrap64 (x8_2 + 1)), (by first | rfl | (simp; done) | (simp [*]; done)), H', ⟨by have := HJ6.out; have := HK2.out; have := HJ21.out; omega⟩, ⟨by exact Ho.RS <| HO_3.out⟩, ⟨by exact Ho.RS <| HO_4.out⟩, ⟨by exact eS HB.out⟩⟩
         replace c24 := Bool.eq_false_iff.mpr c24
         subst c24
         have H1 : ((Fu.f kj21 l0).bind fun bt117 => ((Fl.f kj21 bt117.1 bt117.2).bind fun bt121 => ((Fr.f kj21 bt117.1 bt117.2).bind fun bt123 => (if bt121.1 = bt123.1 then (Fd.j3 kj21 l0 bt117.1 bt117.2 bt121.1 bt121.2 (bt121.2 != bt123.2)) else (Fd.j3 kj21 l0 bt117.1 bt117.2 bt121.1 bt121.2 true))))) = some r := by rw [if_neg (show ¬ (false = true) by decide)] at H; exact H
         clear H
         have H := H1
         clear H1
         replace H := Option.bind_eq_some_iff.mp H
         obtain ⟨⟨t117, t118⟩, A300, H⟩ := H
         (try dsimp only at H)
         have A30 := Aside0.mk A300
         clear A300
         replace H := Option.bind_eq_some_iff.mp H
         obtain ⟨⟨t121, t122⟩, A310, H⟩ := H
         (try dsimp only at H)
         have A31 := Aside0.mk A310
         clear A310
         replace H := Option.bind_eq_some_iff.mp H
         obtain ⟨⟨t123, t124⟩, A320, H⟩ := H
         (try dsimp only at H)
         have A32 := Aside0.mk A320
         clear A320
         have HC33 := Aside0.mk H
         clear H
         go_upto_region 16 with (first | (go_at_call 41; (with_reducible refine (Fu.calls kj21 _ _ l0 t117 t118 _ ?side1 ?side2 A30.out).mono ?_); (case side1 => repeat (first | exact (Kd.C_below HR0.out HB.out) | (with_reducible refine Kd.C_alloc ?_ _) | (with_reducible refine Kd.C_drewN ?_ _) | (with_reducible refine Kd.C_drew ?_))); (case side2 => exact HC0.out); rintro e w34 ⟨v119, rfl, ho0, hb⟩; have n0_ := Aside0.mk (Kd.R_elder' (by exact Ho.RS <| HO_3.out) (Kd.R_base ho0) hb); have n1_ := Aside0.mk (Kd.R_below (by exact Ho.RS <| HO_4.out) hb); have n2_ := Aside0.mk (Kd.R_lower (Kd.R_new' ho0 (Kd.R_lt (by exact Ho.RS <| HO_3.out))) (below_size (by exact eS HB.out))); have n3_ := Aside0.mk (below_step (by exact eS HB.out) hb); clear HO_3; clear HO_4; clear HB; have HO_3 := n0_; have HO_4 := n1_; have HO120 := n2_; have HB := n3_; clear n0_ n1_ n2_ n3_; (try clear hb); (try clear hb2); (try clear hk); (try clear hi); (try clear ho0); obtain ⟨Ao35, co35, eo35⟩ := Kd.R_slice HO120.out; subst eo35) | (go_at_call 42; (with_reducible refine (Fl.calls kj21 _ _ t117 t118 t121 t122 _ ?side1 ?side2 A31.out).mono ?_); (case side1 => repeat (first | exact (Kd.R_reads' HO120.out).2.2 | (with_reducible refine Kd.C_alloc ?_ _) | (with_reducible refine Kd.C_drewN ?_ _) | (with_reducible refine Kd.C_drew ?_))); (case side2 => exact (Kd.R_reads' HO120.out).2.1); rintro e w36 ⟨rfl, hb⟩; have n0_ := Aside0.mk (Kd.R_below (by exact Ho.RS <| HO_3.out) hb); have n1_ := Aside0.mk (Kd.R_below (by exact Ho.RS <| HO_4.out) hb); have n2_ := Aside0.mk (Kd.R_below (by exact Ho.RS <| HO120.out) hb); have n3_ := Aside0.mk (below_step (by exact eS HB.out) hb); clear HO_3; clear HO_4; clear HO120; clear HB; have HO_3 := n0_; have HO_4 := n1_; have HO120 := n2_; have HB := n3_; clear n0_ n1_ n2_ n3_; (try clear hb); (try clear hb2); (try clear hk); (try clear hi)) | (go_at_call 43; (with_reducible refine (Fr.calls kj21 _ _ t117 t118 t123 t124 _ ?side1 ?side2 A32.out).mono ?_); (case side1 => repeat (first | exact (Kd.R_reads' HO120.out).2.2 | (with_reducible refine Kd.C_alloc ?_ _) | (with_reducible refine Kd.C_drewN ?_ _) | (with_reducible refine Kd.C_drew ?_))); (case side2 => exact (Kd.R_reads' HO120.out).2.1); rintro e w37 ⟨rfl, hb⟩; have n0_ := Aside0.mk (Kd.R_below (by exact Ho.RS <| HO_3.out) hb); have n1_ := Aside0.mk (Kd.R_below (by exact Ho.RS <| HO_4.out) hb); have n2_ := Aside0.mk (Kd.R_below (by exact Ho.RS <| HO120.out) hb); have n3_ := Aside0.mk (below_step (by exact eS HB.out) hb); clear HO_3; clear HO_4; clear HO120; clear HB; have HO_3 := n0_; have HO_4 := n1_; have HO120 := n2_; have HB := n3_; clear n0_ n1_ n2_ n3_; (try clear hb); (try clear hb2); (try clear hk); (try clear hi)))
         repeat (go_quiet (first | (go_at_call 41; (with_reducible refine (Fu.calls kj21 _ _ l0 t117 t118 _ ?side1 ?side2 A30.out).mono ?_); (case side1 => repeat (first | exact (Kd.C_below HR0.out HB.out) | (with_reducible refine Kd.C_alloc ?_ _) | (with_reducible refine Kd.C_drewN ?_ _) | (with_reducible refine Kd.C_drew ?_))); (case side2 => exact HC0.out); rintro e w34 ⟨v119, rfl, ho0, hb⟩; have n0_ := Aside0.mk (Kd.R_elder' (by exact Ho.RS <| HO_3.out) (Kd.R_base ho0) hb); have n1_ := Aside0.mk (Kd.R_below (by exact Ho.RS <| HO_4.out) hb); have n2_ := Aside0.mk (Kd.R_lower (Kd.R_new' ho0 (Kd.R_lt (by exact Ho.RS <| HO_3.out))) (below_size (by exact eS HB.out))); have n3_ := Aside0.mk (below_step (by exact eS HB.out) hb); clear HO_3; clear HO_4; clear HB; have HO_3 := n0_; have HO_4 := n1_; have HO120 := n2_; have HB := n3_; clear n0_ n1_ n2_ n3_; (try clear hb); (try clear hb2); (try clear hk); (try clear hi); (try clear ho0); obtain ⟨Ao35, co35, eo35⟩ := Kd.R_slice HO120.out; subst eo35) | (go_at_call 42; (with_reducible refine (Fl.calls kj21 _ _ t117 t118 t121 t122 _ ?side1 ?side2 A31.out).mono ?_); (case side1 => repeat (first | exact (Kd.R_reads' HO120.out).2.2 | (with_reducible refine Kd.C_alloc ?_ _) | (with_reducible refine Kd.C_drewN ?_ _) | (with_reducible refine Kd.C_drew ?_))); (case side2 => exact (Kd.R_reads' HO120.out).2.1); rintro e w36 ⟨rfl, hb⟩; have n0_ := Aside0.mk (Kd.R_below (by exact Ho.RS <| HO_3.out) hb); have n1_ := Aside0.mk (Kd.R_below (by exact Ho.RS <| HO_4.out) hb); have n2_ := Aside0.mk (Kd.R_below (by exact Ho.RS <| HO120.out) hb); have n3_ := Aside0.mk (below_step (by exact eS HB.out) hb); clear HO_3; clear HO_4; clear HO120; clear HB; have HO_3 := n0_; have HO_4 := n1_; have HO120 := n2_; have HB := n3_; clear n0_ n1_ n2_ n3_; (try clear hb); (try clear hb2); (try clear hk); (try clear hi)) | (go_at_call 43; (with_reducible refine (Fr.calls kj21 _ _ t117 t118 t123 t124 _ ?side1 ?side2 A32.out).mono ?_); (case side1 => repeat (first | exact (Kd.R_reads' HO120.out).2.2 | (with_reducible refine Kd.C_alloc ?_ _) | (with_reducible refine Kd.C_drewN ?_ _) | (with_reducible refine Kd.C_drew ?_))); (case side2 => exact (Kd.R_reads' HO120.out).2.1); rintro e w37 ⟨rfl, hb⟩; have n0_ := Aside0.mk (Kd.R_below (by exact Ho.RS <| HO_3.out) hb); have n1_ := Aside0.mk (Kd.R_below (by exact Ho.RS <| HO_4.out) hb); have n2_ := Aside0.mk (Kd.R_below (by exact Ho.RS <| HO120.out) hb); have n3_ := Aside0.mk (below_step (by exact eS HB.out) hb); clear HO_3; clear HO_4; clear HO120; clear HB; have HO_3 := n0_; have HO_4 := n1_; have HO120 := n2_; have HB := n3_; clear n0_ n1_ n2_ n3_; (try clear hb); (try clear hb2); (try clear hk); (try clear hi))); go_upto_region 16 with (first | (go_at_call 41; (with_reducible refine (Fu.calls kj21 _ _ l0 t117 t118 _ ?side1 ?side2 A30.out).mono ?_); (case side1 => repeat (first | exact (Kd.C_below HR0.out HB.out) | (with_reducible refine Kd.C_alloc ?_ _) | (with_reducible refine Kd.C_drewN ?_ _) | (with_reducible refine Kd.C_drew ?_))); (case side2 => exact HC0.out); rintro e w34 ⟨v119, rfl, ho0, hb⟩; have n0_ := Aside0.mk (Kd.R_elder' (by exact Ho.RS <| HO_3.out) (Kd.R_base ho0) hb); have n1_ := Aside0.mk (Kd.R_below (by exact Ho.RS <| HO_4.out) hb); have n2_ := Aside0.mk (Kd.R_lower (Kd.R_new' ho0 (Kd.R_lt (by exact Ho.RS <| HO_3.out))) (below_size (by exact eS HB.out))); have n3_ := Aside0.mk (below_step (by exact eS HB.out) hb); clear HO_3; clear HO_4; clear HB; have HO_3 := n0_; have HO_4 := n1_; have HO120 := n2_; have HB := n3_; clear n0_ n1_ n2_ n3_; (try clear hb); (try clear hb2); (try clear hk); (try clear hi); (try clear ho0); obtain ⟨Ao35, co35, eo35⟩ := Kd.R_slice HO120.out; subst eo35) | (go_at_call 42; (with_reducible refine (Fl.calls kj21 _ _ t117 t118 t121 t122 _ ?side1 ?side2 A31.out).mono ?_); (case side1 => repeat (first | exact (Kd.R_reads' HO120.out).2.2 | (with_reducible refine Kd.C_alloc ?_ _) | (with_reducible refine Kd.C_drewN ?_ _) | (with_reducible refine Kd.C_drew ?_))); (case side2 => exact (Kd.R_reads' HO120.out).2.1); rintro e w36 ⟨rfl, hb⟩; have n0_ := Aside0.mk (Kd.R_below (by exact Ho.RS <| HO_3.out) hb); have n1_ := Aside0.mk (Kd.R_below (by exact Ho.RS <| HO_4.out) hb); have n2_ := Aside0.mk (Kd.R_below (by exact Ho.RS <| HO120.out) hb); have n3_ := Aside0.mk (below_step (by exact eS HB.out) hb); clear HO_3; clear HO_4; clear HO120; clear HB; have HO_3 := n0_; have HO_4 := n1_; have HO120 := n2_; have HB := n3_; clear n0_ n1_ n2_ n3_; (try clear hb); (try clear hb2); (try clear hk); (try clear hi)) | (go_at_call 43; (with_reducible refine (Fr.calls kj21 _ _ t117 t118 t123 t124 _ ?side1 ?side2 A32.out).mono ?_); (case side1 => repeat (first | exact (Kd.R_reads' HO120.out).2.2 | (with_reducible refine Kd.C_alloc ?_ _) | (with_reducible refine Kd.C_drewN ?_ _) | (with_reducible refine Kd.C_drew ?_))); (case side2 => exact (Kd.R_reads' HO120.out).2.1); rintro e w37 ⟨rfl, hb⟩; have n0_ := Aside0.mk (Kd.R_below (by exact Ho.RS <| HO_3.out) hb); have n1_ := Aside0.mk (Kd.R_below (by exact Ho.RS <| HO_4.out) hb); have n2_ := Aside0.mk (Kd.R_below (by exact Ho.RS <| HO120.out) hb); have n3_ := Aside0.mk (below_step (by exact eS HB.out) hb); clear HO_3; clear HO_4; clear HO120; clear HB; have HO_3 := n0_; have HO_4 := n1_; have HO120 := n2_; have HB := n3_; clear n0_ n1_ n2_ n3_; (try clear hb); (try clear hb2); (try clear hk); (try clear hi))))
         (try simp only [Act.put, List.setIfInBounds_toArray, List.set_cons_zero, List.set_cons_succ])
         go_cut [95] (fun v95 wc => ∃ (kq : Nat) (x95_32 : Bool), v95 = .bool x95_32 ∧ Aside0 (Fd.j3 kq l0 t117 t118 t121 t122 x95_32 = some r) ∧ Aside0 (kq ≤ kj21) ∧ Aside0 (Kd.R k61 61 wc w.heap.size (fun _ => True) (.slice Ao35 t117.length co35) t117) ∧ Aside0 (Below w.heap.size w wc))
         case first =>
          have H := HC33.out
          clear HC33
          by_cases c38 : t121 = t123
          rotate_left
          ·rw [if_neg c38] at H
           have c38b0 : (t121 == t123) = false := beq_eq_false_iff_ne.mpr c38
           have c38b1 : (t121 != t123) = true := bne_iff_ne.mpr c38
           (first | rw [c38b0] | (simp only [i64_w, i32_w]; rw [c38b0]) | skip)
           as_aux_lemma =>
            have H' := Aside0.mk H
            clear H
            go_wp2
            repeat (go_quiet (fail); try go_wp2)
            go_meet
            case rel => exact ⟨_, (true), (by first | rfl | (simp; done) | (simp [*]; done)), H', ⟨by have := HJ6.out; have := HK2.out; have := HJ21.out; first | omega | exact Nat.le_refl _⟩, ⟨by exact Ho.RS <| Kd.R_mono HO120.out (fun _ hk => trivial)⟩, ⟨by exact eS HB.out⟩⟩
          rw [if_pos c38] at H
          have c38b0 : (t121 == t123) = true := beq_iff_eq.mpr c38
          have c38b1 : (t121 != t123) = false := bne_eq_false_iff_eq.mpr c38
          clear c38
          (first | rw [c38b0] | (simp only [i64_w, i32_w]; rw [c38b0]) | skip)
          as_aux_lemma =>
           have H' := Aside0.mk H
           clear H
           go_wp2
           repeat (go_quiet (fail); try go_wp2)
           go_meet
           case rel => exact ⟨_, ((t122 != t124)), (by first | rfl | (simp; done) | (simp [*]; done)), H', ⟨by have := HJ6.out; have := HK2.out; have := HJ21.out; first | omega | exact Nat.le_refl _⟩, ⟨by exact Ho.RS <| Kd.R_mono HO120.out (fun _ hk => trivial)⟩, ⟨by exact eS HB.out⟩⟩
         case rest =>
          clear HC33
          try clear c1
          try clear p1
          try clear q1
          try clear hx1
          try clear c2
          try clear p2
          try clear c3
          try clear p6
          try clear c9
          try clear p11
          try clear q11
          try clear hx11
          try clear c12
          try clear c12b0
          try clear c12b1
          try clear c12b2
          try clear c14
          try clear c21
          try clear c23
          try clear c23b0
          try clear c24
          try clear c25
          try clear c25b0
          try clear c26
          try clear c26b0
          try clear c28
          try clear c38
          try clear c38b0
          try clear c38b1
          try clear hx115_0
          try clear hx115_1
          try clear hx115_2
          try clear hx115_3
          try clear hx115_4
          try clear p115
          try clear p2
          try clear q115
          as_aux_lemma =>
           obtain ⟨kq, x95_32, rfl, HA, HJ32, HO_9, HB⟩ := hcut
           cases kq with
           | zero => exact absurd HA.out (by simp [Fd.j3])
           | succ kj32 =>
            have H := HA.out
            clear HA
            simp only [Fd.j3] at H
            by_cases c39 : x95_32 = true
            ·subst c39
             have H1 : (some false) = some r := by rw [if_pos rfl] at H; exact H
             clear H
             have H := H1
             clear H1
             as_aux_lemma =>
              exact absurd ((Option.some.inj H).trans HT.out) (by decide)
            replace c39 := Bool.eq_false_iff.mpr c39
            subst c39
            have H1 : (Fd.l1 kj32 l0 t117 t118 t121 t122 (-1) 0) = some r := by rw [if_neg (show ¬ (false = true) by decide)] at H; exact H
            clear H
            have H := H1
            clear H1
            have H' := Aside0.mk H
            clear H
            go_wp2
            repeat (go_quiet (fail); try go_wp2)
            go_loopg [15, 16] kj32 (fun kq v15 v16 w' => ∃ (x15_5 : Int) (x16_5 : Int), v15 = .int .i64 x15_5 ∧ v16 = .int .i64 x16_5 ∧ Aside0 (Fd.l1 kq l0 t117 t118 t121 t122 x15_5 x16_5 = some r) ∧ Aside0 (kq ≤ kj32) ∧ Aside0 (Kd.R k61 61 w' w.heap.size (fun _ => True) (.slice Ao35 t117.length co35) t117) ∧ Aside0 (Below w.heap.size w w'))
            case atStart => exact ⟨((-1)), (0), (by first | rfl | (simp; done) | (simp [*]; done)), (by first | rfl | (simp; done) | (simp [*]; done)), H', ⟨Nat.le_refl _⟩, ⟨by exact Ho.RS <| HO_9.out⟩, ⟨by exact eS HB.out⟩⟩
            case round =>
             clear H'
             try clear c1
             try clear p1
             try clear q1
             try clear hx1
             try clear c2
             try clear p2
             try clear c3
             try clear p6
             try clear c9
             try clear p11
             try clear q11
             try clear hx11
             try clear c12
             try clear c12b0
             try clear c12b1
             try clear c12b2
             try clear c14
             try clear c21
             try clear c23
             try clear c23b0
             try clear c24
             try clear c25
             try clear c25b0
             try clear c26
             try clear c26b0
             try clear c28
             try clear c38
             try clear c38b0
             try clear c38b1
             try clear c39
             try clear hx115_0
             try clear hx115_1
             try clear hx115_2
             try clear hx115_3
             try clear hx115_4
             try clear p1
             try clear p11
             try clear p115
             try clear p2
             try clear p6
             try clear q1
             try clear q11
             try clear q115
             obtain ⟨x15_5, x16_5, rfl, rfl, HA, HK5, HO_9, HB⟩ := hrel
             cases gk with
             | zero => exact absurd HA.out (by simp [Fd.l1])
             | succ k5 =>
              have H := HA.out
              clear HA
              simp only [Fd.l1] at H
              have HC40 := Aside0.mk H
              clear H
              go_upto_region 20 with (fail)
              repeat (go_quiet (fail); go_upto_region 20 with (fail))
              go_cut [102] (fun v102 wc => ∃ (kq : Nat) (x102_39 : Bool), v102 = .bool x102_39 ∧ Aside0 (Fd.j5 kq l0 t117 t118 t121 t122 x15_5 x16_5 x102_39 = some r) ∧ Aside0 (kq ≤ k5) ∧ Aside0 (Kd.R k61 61 wc w.heap.size (fun _ => True) (.slice Ao35 t117.length co35) t117) ∧ Aside0 (Below w.heap.size w wc))
              case first =>
               have H := HC40.out
               clear HC40
               by_cases c41 : x16_5 < (t117.length : Int)
               ·rw [if_pos c41] at H
                have c41b0 : decide (x16_5 < (t117.length : Int)) = true := decide_eq_true c41
                clear c41
                (first | rw [c41b0] | (simp only [i64_w, i32_w]; rw [c41b0]) | skip)
                as_aux_lemma =>
                 have H' := Aside0.mk H
                 clear H
                 go_wp2
                 repeat (go_quiet (fail); try go_wp2)
                 go_meet
                 case rel => exact ⟨_, (t122), (by first | rfl | (simp; done) | (simp [*]; done)), H', ⟨by have := HJ6.out; have := HK2.out; have := HJ21.out; have := HJ32.out; have := HK5.out; first | omega | exact Nat.le_refl _⟩, ⟨by exact Ho.RS <| HO_9.out⟩, ⟨by exact eS HB.out⟩⟩
               rw [if_neg c41] at H
               have c41b0 : decide (x16_5 < (t117.length : Int)) = false := decide_eq_false c41
               clear c41
               (first | rw [c41b0] | (simp only [i64_w, i32_w]; rw [c41b0]) | skip)
               as_aux_lemma =>
                have H' := Aside0.mk H
                clear H
                go_wp2
                repeat (go_quiet (fail); try go_wp2)
                go_meet
                case rel => exact ⟨_, (false), (by first | rfl | (simp; done) | (simp [*]; done)), H', ⟨by have := HJ6.out; have := HK2.out; have := HJ21.out; have := HJ32.out; have := HK5.out; first | omega | exact Nat.le_refl _⟩, ⟨by exact Ho.RS <| HO_9.out⟩, ⟨by exact eS HB.out⟩⟩
              case rest =>
               clear HC40
               try clear c1
               try clear p1
               try clear q1
               try clear hx1
               try clear c2
               try clear p2
               try clear c3
               try clear c4
               try clear p6
               try clear c9
               try clear p11
               try clear q11
               try clear hx11
               try clear c12
               try clear c12b0
               try clear c12b1
               try clear c12b2
               try clear c14
               try clear c21
               try clear c23
               try clear c23b0
               try clear c24
               try clear c25
               try clear c25b0
               try clear c26
               try clear c26b0
               try clear c28
               try clear c38
               try clear c38b0
               try clear c38b1
               try clear c39
               try clear c41
               try clear c41b0
               try clear hx115_0
               try clear hx115_1
               try clear hx115_2
               try clear hx115_3
               try clear hx115_4
               try clear p1
               try clear p11
               try clear p115
               try clear p2
               try clear p6
               try clear q1
               try clear q11
               try clear q115
               as_aux_lemma =>
                obtain ⟨kq, x102_39, rfl, HA, HJ39, HO_9, HB⟩ := hcut
                cases kq with
                | zero => exact absurd HA.out (by simp [Fd.j5])
                | succ kj39 =>
                 have H := HA.out
                 clear HA
                 simp only [Fd.j5] at H
                 by_cases c42 : x102_39 = true
                 ·subst c42
                  have H1 : (if 0 ≤ x16_5 then (if x16_5 < (t117.length : Int) then (if ((rd_T61 t117 x16_5).f0) = t118 then (if ((rd_T61 t117 x16_5).f1) = t121 then (Fd.l1 kj39 l0 t117 t118 t121 t122 (wrap64 (((rd_T61 t117 x16_5).f2) - ((rd_T61 t117 x16_5).f3))) (wrap64 (x16_5 + 1))) else (Fd.l1 kj39 l0 t117 t118 t121 t122 x15_5 (wrap64 (x16_5 + 1)))) else (Fd.l1 kj39 l0 t117 t118 t121 t122 x15_5 (wrap64 (x16_5 + 1)))) else (none)) else (none)) = some r := by rw [if_pos rfl] at H; exact H
                  clear H
                  have H := H1
                  clear H1
                  by_cases c43 : 0 ≤ x16_5
                  rotate_left
                  ·rw [if_neg c43] at H
                   exact absurd H (by simp)
                  rw [if_pos c43] at H
                  have c43b0 : decide (0 ≤ x16_5) = true := decide_eq_true c43
                  clear c43
                  by_cases c44 : x16_5 < (t117.length : Int)
                  rotate_left
                  ·rw [if_neg c44] at H
                   exact absurd H (by simp)
                  rw [if_pos c44] at H
                  have c44b0 : decide (x16_5 < (t117.length : Int)) = true := decide_eq_true c44
                  clear c44
                  by_cases c45 : ((rd_T61 t117 x16_5).f0) = t118
                  rotate_left
                  ·rw [if_neg c45] at H
                   have c45b0 : (((rd_T61 t117 x16_5).f0) == t118) = false := beq_eq_false_iff_ne.mpr c45
                   have c45b1 : (((rd_T61 t117 x16_5).f0) != t118) = true := bne_iff_ne.mpr c45
                   as_aux_lemma =>
                    have H' := Aside0.mk H
                    clear H
                    have p125 : 0 ≤ (x16_5 : Int) := of_decide_eq_true (by first | (with_reducible assumption) | assumption)
                    have q125 : x16_5 < (t117.length : Int) := of_decide_eq_true (by first | (with_reducible assumption) | assumption)
                    obtain ⟨ad125, e125, hx125_0, hx125_1, hx125_2, hx125_3, hx125_4⟩ := at_T61 (Kd.R_reads' HO_9.out).2.2 x16_5 p125 q125
                    cases e125
                    replace p125 := eq_true p125
                    replace q125 := eq_true q125
                    go_wp2
                    repeat (go_quiet (fail); try go_wp2)
                    go_roundg kj39
                    case measure => have := HJ6.out; have := HK2.out; have := HJ21.out; have := HJ32.out; have := HK5.out; have := HJ39.out; omega
                    case rel => exact ⟨(x15_5), (wrap64 (x16_5 + 1)), (by first | rfl | (simp; done) | (simp [*]; done)), (by first | rfl | (simp; done) | (simp [*]; done)), H', ⟨by have := HJ6.out; have := HK2.out; have := HJ21.out; have := HJ32.out; have := HK5.out; have := HJ39.out; omega⟩, ⟨by exact Ho.RS <| HO_9.out⟩, ⟨by exact eS HB.out⟩⟩
                  rw [if_pos c45] at H
                  have c45b0 : (((rd_T61 t117 x16_5).f0) == t118) = true := beq_iff_eq.mpr c45
                  have c45b1 : (((rd_T61 t117 x16_5).f0) != t118) = false := bne_eq_false_iff_eq.mpr c45
                  clear c45
                  by_cases c46 : ((rd_T61 t117 x16_5).f1) = t121
                  rotate_left
                  ·rw [if_neg c46] at H
                   have c46b0 : (((rd_T61 t117 x16_5).f1) == t121) = false := beq_eq_false_iff_ne.mpr c46
                   have c46b1 : (((rd_T61 t117 x16_5).f1) != t121) = true := bne_iff_ne.mpr c46
                   as_aux_lemma =>
                    have H' := Aside0.mk H
                    clear H
                    have p125 : 0 ≤ (x16_5 : Int) := of_decide_eq_true (by first | (with_reducible assumption) | assumption)
                    have q125 : x16_5 < (t117.length : Int) := of_decide_eq_true (by first | (with_reducible assumption) | assumption)
                    obtain ⟨ad125, e125, hx125_0, hx125_1, hx125_2, hx125_3, hx125_4⟩ := at_T61 (Kd.R_reads' HO_9.out).2.2 x16_5 p125 q125
                    cases e125
                    replace p125 := eq_true p125
                    replace q125 := eq_true q125
                    have p126 : 0 ≤ (x16_5 : Int) := of_decide_eq_true (by first | (with_reducible assumption) | assumption)
                    have q126 : x16_5 < (t117.length : Int) := of_decide_eq_true (by first | (with_reducible assumption) | assumption)
                    obtain ⟨ad126, e126, hx126_0, hx126_1, hx126_2, hx126_3, hx126_4⟩ := at_T61 (Kd.R_reads' HO_9.out).2.2 x16_5 p126 q126
                    obtain rfl : ad125 = ad126 := (by injection e126)
                    replace p126 := eq_true p126
                    replace q126 := eq_true q126
                    go_wp2
                    repeat (go_quiet (fail); try go_wp2)
                    go_roundg kj39
                    case measure => have := HJ6.out; have := HK2.out; have := HJ21.out; have := HJ32.out; have := HK5.out; have := HJ39.out; omega
                    case rel => exact ⟨(x15_5), (wrap64 (x16_5 + 1)), (by first | rfl | (simp; done) | (simp [*]; done)), (by first | rfl | (simp; done) | (simp [*]; done)), H', ⟨by have := HJ6.out; have := HK2.out; have := HJ21.out; have := HJ32.out; have := HK5.out; have := HJ39.out; omega⟩, ⟨by exact Ho.RS <| HO_9.out⟩, ⟨by exact eS HB.out⟩⟩
                  rw [if_pos c46] at H
                  have c46b0 : (((rd_T61 t117 x16_5).f1) == t121) = true := beq_iff_eq.mpr c46
                  have c46b1 : (((rd_T61 t117 x16_5).f1) != t121) = false := bne_eq_false_iff_eq.mpr c46
                  clear c46
                  as_aux_lemma =>
                   have H' := Aside0.mk H
                   clear H
                   have p125 : 0 ≤ (x16_5 : Int) := of_decide_eq_true (by first | (with_reducible assumption) | assumption)
                   have q125 : x16_5 < (t117.length : Int) := of_decide_eq_true (by first | (with_reducible assumption) | assumption)
                   obtain ⟨ad125, e125, hx125_0, hx125_1, hx125_2, hx125_3, hx125_4⟩ := at_T61 (Kd.R_reads' HO_9.out).2.2 x16_5 p125 q125
                   cases e125
                   replace p125 := eq_true p125
                   replace q125 := eq_true q125
                   have p126 : 0 ≤ (x16_5 : Int) := of_decide_eq_true (by first | (with_reducible assumption) | assumption)
                   have q126 : x16_5 < (t117.length : Int) := of_decide_eq_true (by first | (with_reducible assumption) | assumption)
                   obtain ⟨ad126, e126, hx126_0, hx126_1, hx126_2, hx126_3, hx126_4⟩ := at_T61 (Kd.R_reads' HO_9.out).2.2 x16_5 p126 q126
                   obtain rfl : ad125 = ad126 := (by injection e126)
                   replace p126 := eq_true p126
                   replace q126 := eq_true q126
                   have p127 : 0 ≤ (x16_5 : Int) := of_decide_eq_true (by first | (with_reducible assumption) | assumption)
                   have q127 : x16_5 < (t117.length : Int) := of_decide_eq_true (by first | (with_reducible assumption) | assumption)
                   obtain ⟨ad127, e127, hx127_0, hx127_1, hx127_2, hx127_3, hx127_4⟩ := at_T61 (Kd.R_reads' HO_9.out).2.2 x16_5 p127 q127
                   obtain rfl : ad125 = ad127 := (by injection e127)
                   replace p127 := eq_true p127
                   replace q127 := eq_true q127
                   have p128 : 0 ≤ (x16_5 : Int) := of_decide_eq_true (by first | (with_reducible assumption) | assumption)
                   have q128 : x16_5 < (t117.length : Int) := of_decide_eq_true (by first | (with_reducible assumption) | assumption)
                   obtain ⟨ad128, e128, hx128_0, hx128_1, hx128_2, hx128_3, hx128_4⟩ := at_T61 (Kd.R_reads' HO_9.out).2.2 x16_5 p128 q128
                   obtain rfl : ad125 = ad128 := (by injection e128)
                   replace p128 := eq_true p128
                   replace q128 := eq_true q128
                   go_wp2
                   repeat (go_quiet (fail); try go_wp2)
                   go_roundg kj39
                   case measure => have := HJ6.out; have := HK2.out; have := HJ21.out; have := HJ32.out; have := HK5.out; have := HJ39.out; omega
                   case rel => exact ⟨(wrap64 (((rd_T61 t117 x16_5).f2) - ((rd_T61 t117 x16_5).f3))), (wrap64 (x16_5 + 1)), (by first | rfl | (simp; done) | (simp [*]; done)), (by first | rfl | (simp; done) | (simp [*]; done)), H', ⟨by have := HJ6.out; have := HK2.out; have := HJ21.out; have := HJ32.out; have := HK5.out; have := HJ39.out; omega⟩, ⟨by exact Ho.RS <| HO_9.out⟩, ⟨by exact eS HB.out⟩⟩
                 replace c42 := Bool.eq_false_iff.mpr c42
                 subst c42
                 have H1 : (Fd.l2 kj39 l0 t117 t118 t122 x15_5 0) = some r := by rw [if_neg (show ¬ (false = true) by decide)] at H; exact H
                 clear H
                 have H := H1
                 clear H1
                 have H' := Aside0.mk H
                 clear H
                 go_wp2
                 repeat (go_quiet (fail); try go_wp2)
                 go_loopg [17] kj39 (fun kq v17 w' => ∃ (x17_7 : Int), v17 = .int .i64 x17_7 ∧ Aside0 (Fd.l2 kq l0 t117 t118 t122 x15_5 x17_7 = some r) ∧ Aside0 (kq ≤ kj39) ∧ Aside0 (Kd.R k61 61 w' w.heap.size (fun _ => True) (.slice Ao35 t117.length co35) t117) ∧ Aside0 (Below w.heap.size w w'))
                 case atStart => exact ⟨(0), (by first | rfl | (simp; done) | (simp [*]; done)), H', ⟨Nat.le_refl _⟩, ⟨by exact Ho.RS <| HO_9.out⟩, ⟨by exact eS HB.out⟩⟩
                 case round =>
                  clear H'
                  try clear c1
                  try clear p1
                  try clear q1
                  try clear hx1
                  try clear c2
                  try clear p2
                  try clear c3
                  try clear c4
                  try clear p6
                  try clear c9
                  try clear p11
                  try clear q11
                  try clear hx11
                  try clear c12
                  try clear c12b0
                  try clear c12b1
                  try clear c12b2
                  try clear p12
                  try clear q12
                  try clear hx12
                  try clear c14
                  try clear c21
                  try clear c23
                  try clear c23b0
                  try clear c24
                  try clear c25
                  try clear c25b0
                  try clear c26
                  try clear c26b0
                  try clear c28
                  try clear c38
                  try clear c38b0
                  try clear c38b1
                  try clear c39
                  try clear c41
                  try clear c41b0
                  try clear c42
                  try clear c43
                  try clear c43b0
                  try clear c44
                  try clear c44b0
                  try clear c45
                  try clear c45b0
                  try clear c45b1
                  try clear c46
                  try clear c46b0
                  try clear c46b1
                  try clear hx115_0
                  try clear hx115_1
                  try clear hx115_2
                  try clear hx115_3
                  try clear hx115_4
                  try clear hx125_0
                  try clear hx125_1
                  try clear hx125_2
                  try clear hx125_3
                  try clear hx125_4
                  try clear hx126_0
                  try clear hx126_1
                  try clear hx126_2
                  try clear hx126_3
                  try clear hx126_4
                  try clear hx127_0
                  try clear hx127_1
                  try clear hx127_2
                  try clear hx127_3
                  try clear hx127_4
                  try clear hx128_0
                  try clear hx128_1
                  try clear hx128_2
                  try clear hx128_3
                  try clear hx128_4
                  try clear p1
                  try clear p11
                  try clear p115
                  try clear p125
                  try clear p126
                  try clear p127
                  try clear p128
                  try clear p2
                  try clear p6
                  try clear q1
                  try clear q11
                  try clear q115
                  try clear q125
                  try clear q126
                  try clear q127
                  try clear q128
                  obtain ⟨x17_7, rfl, HA, HK7, HO_9, HB⟩ := hrel
                  cases gk with
                  | zero => exact absurd HA.out (by simp [Fd.l2])
                  | succ k7 =>
                   have H := HA.out
                   clear HA
                   simp only [Fd.l2] at H
                   have HC47 := Aside0.mk H
                   clear H
                   go_upto_region 25 with (fail)
                   repeat (go_quiet (fail); go_upto_region 25 with (fail))
                   go_cut [138] (fun v138 wc => ∃ (kq : Nat) (x138_46 : Bool), v138 = .bool x138_46 ∧ Aside0 (Fd.j7 kq l0 t117 t118 t122 x15_5 x17_7 x138_46 = some r) ∧ Aside0 (kq ≤ k7) ∧ Aside0 (Kd.R k61 61 wc w.heap.size (fun _ => True) (.slice Ao35 t117.length co35) t117) ∧ Aside0 (Below w.heap.size w wc))
                   case first =>
                    have H := HC47.out
                    clear HC47
                    by_cases c48 : x17_7 < (t117.length : Int)
                    ·rw [if_pos c48] at H
                     have c48b0 : decide (x17_7 < (t117.length : Int)) = true := decide_eq_true c48
                     clear c48
                     (first | rw [c48b0] | (simp only [i64_w, i32_w]; rw [c48b0]) | skip)
                     as_aux_lemma =>
                      have H' := Aside0.mk H
                      clear H
                      go_wp2
                      repeat (go_quiet (fail); try go_wp2)
                      go_meet
                      case rel => exact ⟨_, (t122), (by first | rfl | (simp; done) | (simp [*]; done)), H', ⟨by have := HJ6.out; have := HK2.out; have := HJ21.out; have := HJ32.out; have := HK5.out; have := HJ39.out; have := HK7.out; first | omega | exact Nat.le_refl _⟩, ⟨by exact Ho.RS <| HO_9.out⟩, ⟨by exact eS HB.out⟩⟩
                    rw [if_neg c48] at H
                    have c48b0 : decide (x17_7 < (t117.length : Int)) = false := decide_eq_false c48
                    clear c48
                    (first | rw [c48b0] | (simp only [i64_w, i32_w]; rw [c48b0]) | skip)
                    as_aux_lemma =>
                     have H' := Aside0.mk H
                     clear H
                     go_wp2
                     repeat (go_quiet (fail); try go_wp2)
                     go_meet
                     case rel => exact ⟨_, (false), (by first | rfl | (simp; done) | (simp [*]; done)), H', ⟨by have := HJ6.out; have := HK2.out; have := HJ21.out; have := HJ32.out; have := HK5.out; have := HJ39.out; have := HK7.out; first | omega | exact Nat.le_refl _⟩, ⟨by exact Ho.RS <| HO_9.out⟩, ⟨by exact eS HB.out⟩⟩
                   case rest =>
                    clear HC47
                    try clear c1
                    try clear p1
                    try clear q1
                    try clear hx1
                    try clear c2
                    try clear p2
                    try clear c3
                    try clear c4
                    try clear p6
                    try clear c9
                    try clear p11
                    try clear q11
                    try clear hx11
                    try clear c12
                    try clear c12b0
                    try clear c12b1
                    try clear c12b2
                    try clear p12
                    try clear q12
                    try clear hx12
                    try clear c14
                    try clear c21
                    try clear c23
                    try clear c23b0
                    try clear c24
                    try clear c25
                    try clear c25b0
                    try clear c26
                    try clear c26b0
                    try clear c28
                    try clear c38
                    try clear c38b0
                    try clear c38b1
                    try clear c39
                    try clear c41
                    try clear c41b0
                    try clear c42
                    try clear c43
                    try clear c43b0
                    try clear c44
                    try clear c44b0
                    try clear c45
                    try clear c45b0
                    try clear c45b1
                    try clear c46
                    try clear c46b0
                    try clear c46b1
                    try clear c48
                    try clear c48b0
                    try clear hx115_0
                    try clear hx115_1
                    try clear hx115_2
                    try clear hx115_3
                    try clear hx115_4
                    try clear hx125_0
                    try clear hx125_1
                    try clear hx125_2
                    try clear hx125_3
                    try clear hx125_4
                    try clear hx126_0
                    try clear hx126_1
                    try clear hx126_2
                    try clear hx126_3
                    try clear hx126_4
                    try clear hx127_0
                    try clear hx127_1
                    try clear hx127_2
                    try clear hx127_3
                    try clear hx127_4
                    try clear hx128_0
                    try clear hx128_1
                    try clear hx128_2
                    try clear hx128_3
                    try clear hx128_4
                    try clear p1
                    try clear p11
                    try clear p115
                    try clear p12
                    try clear p125
                    try clear p126
                    try clear p127
                    try clear p128
                    try clear p2
                    try clear p6
                    try clear q1
                    try clear q11
                    try clear q115
                    try clear q12
                    try clear q125
                    try clear q126
                    try clear q127
                    try clear q128
                    as_aux_lemma =>
                     obtain ⟨kq, x138_46, rfl, HA, HJ46, HO_9, HB⟩ := hcut
                     cases kq with
                     | zero => exact absurd HA.out (by simp [Fd.j7])
                     | succ kj46 =>
                      have H := HA.out
                      clear HA
                      simp only [Fd.j7] at H
                      by_cases c49 : x138_46 = true
                      ·subst c49
                       have H1 : (if 0 ≤ x17_7 then (if x17_7 < (t117.length : Int) then (if ((rd_T61 t117 x17_7).f0) = t118 then (if (wrap64 (((rd_T61 t117 x17_7).f2) - ((rd_T61 t117 x17_7).f3))) > x15_5 then (some false) else (Fd.l2 kj46 l0 t117 t118 t122 x15_5 (wrap64 (x17_7 + 1)))) else (Fd.l2 kj46 l0 t117 t118 t122 x15_5 (wrap64 (x17_7 + 1)))) else (none)) else (none)) = some r := by rw [if_pos rfl] at H; exact H
                       clear H
                       have H := H1
                       clear H1
                       by_cases c50 : 0 ≤ x17_7
                       rotate_left
                       ·rw [if_neg c50] at H
                        exact absurd H (by simp)
                       rw [if_pos c50] at H
                       have c50b0 : decide (0 ≤ x17_7) = true := decide_eq_true c50
                       clear c50
                       by_cases c51 : x17_7 < (t117.length : Int)
                       rotate_left
                       ·rw [if_neg c51] at H
                        exact absurd H (by simp)
                       rw [if_pos c51] at H
                       have c51b0 : decide (x17_7 < (t117.length : Int)) = true := decide_eq_true c51
                       clear c51
                       by_cases c52 : ((rd_T61 t117 x17_7).f0) = t118
                       rotate_left
                       ·rw [if_neg c52] at H
                        have c52b0 : (((rd_T61 t117 x17_7).f0) == t118) = false := beq_eq_false_iff_ne.mpr c52
                        have c52b1 : (((rd_T61 t117 x17_7).f0) != t118) = true := bne_iff_ne.mpr c52
                        as_aux_lemma =>
                         have H' := Aside0.mk H
                         clear H
                         have p129 : 0 ≤ (x17_7 : Int) := of_decide_eq_true (by first | (with_reducible assumption) | assumption)
                         have q129 : x17_7 < (t117.length : Int) := of_decide_eq_true (by first | (with_reducible assumption) | assumption)
                         obtain ⟨ad129, e129, hx129_0, hx129_1, hx129_2, hx129_3, hx129_4⟩ := at_T61 (Kd.R_reads' HO_9.out).2.2 x17_7 p129 q129
                         cases e129
                         replace p129 := eq_true p129
                         replace q129 := eq_true q129
                         go_wp2
                         repeat (go_quiet (fail); try go_wp2)
                         go_roundg kj46
                         case measure => have := HJ6.out; have := HK2.out; have := HJ21.out; have := HJ32.out; have := HK5.out; have := HJ39.out; have := HK7.out; have := HJ46.out; omega
                         case rel => exact ⟨(wrap64 (x17_7 + 1)), (by first | rfl | (simp; done) | (simp [*]; done)), H', ⟨by have := HJ6.out; have := HK2.out; have := HJ21.out; have := HJ32.out; have := HK5.out; have := HJ39.out; have := HK7.out; have := HJ46.out; omega⟩, ⟨by exact Ho.RS <| HO_9.out⟩, ⟨by exact eS HB.out⟩⟩
                       rw [if_pos c52] at H
                       have c52b0 : (((rd_T61 t117 x17_7).f0) == t118) = true := beq_iff_eq.mpr c52
                       have c52b1 : (((rd_T61 t117 x17_7).f0) != t118) = false := bne_eq_false_iff_eq.mpr c52
                       clear c52
                       by_cases c53 : (wrap64 (((rd_T61 t117 x17_7).f2) - ((rd_T61 t117 x17_7).f3))) > x15_5
                       ·rw [if_pos c53] at H
                        have c53b0 : decide (x15_5 < (wrap64 (((rd_T61 t117 x17_7).f2) - ((rd_T61 t117 x17_7).f3)))) = true := decide_eq_true c53
                        clear c53
                        as_aux_lemma =>
                         exact absurd ((Option.some.inj H).trans HT.out) (by decide)
                       rw [if_neg c53] at H
                       have c53b0 : decide (x15_5 < (wrap64 (((rd_T61 t117 x17_7).f2) - ((rd_T61 t117 x17_7).f3)))) = false := decide_eq_false c53
                       clear c53
                       as_aux_lemma =>
                        have H' := Aside0.mk H
                        clear H
                        have p129 : 0 ≤ (x17_7 : Int) := of_decide_eq_true (by first | (with_reducible assumption) | assumption)
                        have q129 : x17_7 < (t117.length : Int) := of_decide_eq_true (by first | (with_reducible assumption) | assumption)
                        obtain ⟨ad129, e129, hx129_0, hx129_1, hx129_2, hx129_3, hx129_4⟩ := at_T61 (Kd.R_reads' HO_9.out).2.2 x17_7 p129 q129
                        cases e129
                        replace p129 := eq_true p129
                        replace q129 := eq_true q129
                        have p130 : 0 ≤ (x17_7 : Int) := of_decide_eq_true (by first | (with_reducible assumption) | assumption)
                        have q130 : x17_7 < (t117.length : Int) := of_decide_eq_true (by first | (with_reducible assumption) | assumption)
                        obtain ⟨ad130, e130, hx130_0, hx130_1, hx130_2, hx130_3, hx130_4⟩ := at_T61 (Kd.R_reads' HO_9.out).2.2 x17_7 p130 q130
                        obtain rfl : ad129 = ad130 := (by injection e130)
                        replace p130 := eq_true p130
                        replace q130 := eq_true q130
                        have p131 : 0 ≤ (x17_7 : Int) := of_decide_eq_true (by first | (with_reducible assumption) | assumption)
                        have q131 : x17_7 < (t117.length : Int) := of_decide_eq_true (by first | (with_reducible assumption) | assumption)
                        obtain ⟨ad131, e131, hx131_0, hx131_1, hx131_2, hx131_3, hx131_4⟩ := at_T61 (Kd.R_reads' HO_9.out).2.2 x17_7 p131 q131
                        obtain rfl : ad129 = ad131 := (by injection e131)
                        replace p131 := eq_true p131
                        replace q131 := eq_true q131
                        go_wp2
                        repeat (go_quiet (fail); try go_wp2)
                        go_roundg kj46
                        case measure => have := HJ6.out; have := HK2.out; have := HJ21.out; have := HJ32.out; have := HK5.out; have := HJ39.out; have := HK7.out; have := HJ46.out; omega
                        case rel => exact ⟨(wrap64 (x17_7 + 1)), (by first | rfl | (simp; done) | (simp [*]; done)), H', ⟨by have := HJ6.out; have := HK2.out; have := HJ21.out; have := HJ32.out; have := HK5.out; have := HJ39.out; have := HK7.out; have := HJ46.out; omega⟩, ⟨by exact Ho.RS <| HO_9.out⟩, ⟨by exact eS HB.out⟩⟩
                      replace c49 := Bool.eq_false_iff.mpr c49
                      subst c49
                      have H1 : ((Fs.f kj46 l0).bind fun t132 => ((Fm.f kj46 t132).bind fun bt135 => ((Fn.f kj46 t132).bind fun bt139 => (if (bt135.2 != bt139.2) = true then (Fd.j8 kj46 t132 bt135.1 true) else ((Fv.f kj46 bt135.1 bt139.1).bind fun t143 => (Fd.j8 kj46 t132 bt135.1 (!t143))))))) = some r := by rw [if_neg (show ¬ (false = true) by decide)] at H; exact H
                      clear H
                      have H := H1
                      clear H1
                      replace H := Option.bind_eq_some_iff.mp H
                      obtain ⟨t132, A540, H⟩ := H
                      (try dsimp only at H)
                      have A54 := Aside0.mk A540
                      clear A540
                      replace H := Option.bind_eq_some_iff.mp H
                      obtain ⟨⟨t135, t136⟩, A550, H⟩ := H
                      (try dsimp only at H)
                      have A55 := Aside0.mk A550
                      clear A550
                      replace H := Option.bind_eq_some_iff.mp H
                      obtain ⟨⟨t139, t140⟩, A560, H⟩ := H
                      (try dsimp only at H)
                      have A56 := Aside0.mk A560
                      clear A560
                      have HC57 := Aside0.mk H
                      clear H
                      go_upto_region 32 with (first | (go_at_call 44; (with_reducible refine (Fs.calls kj46 _ _ l0 t132 _ ?side1 ?side2 A54.out).mono ?_); (case side1 => repeat (first | exact (Kd.C_below HR0.out HB.out) | (with_reducible refine Kd.C_alloc ?_ _) | (with_reducible refine Kd.C_drewN ?_ _) | (with_reducible refine Kd.C_drew ?_))); (case side2 => exact HC0.out); rintro e w58 ⟨v133, rfl, ho0, hb⟩; have n0_ := Aside0.mk (Kd.R_elder' (by exact Ho.RS <| HO_9.out) (Kd.R_base ho0) hb); have n1_ := Aside0.mk (Kd.R_lower (Kd.R_new' ho0 (Kd.R_lt (by exact Ho.RS <| HO_9.out))) (below_size (by exact eS HB.out))); have n2_ := Aside0.mk (below_step (by exact eS HB.out) hb); clear HO_9; clear HB; have HO_9 := n0_; have HO134 := n1_; have HB := n2_; clear n0_ n1_ n2_; (try clear hb); (try clear hb2); (try clear hk); (try clear hi); (try clear ho0); obtain ⟨Ao59, co59, eo59⟩ := Kd.R_slice HO134.out; subst eo59) | (go_at_call 45; (with_reducible refine (Fm.calls kj46 _ _ t132 t135 t136 _ ?side1 ?side2 A55.out).mono ?_); (case side1 => repeat (first | exact (Kd.R_reads' HO134.out).2.2 | (with_reducible refine Kd.C_alloc ?_ _) | (with_reducible refine Kd.C_drewN ?_ _) | (with_reducible refine Kd.C_drew ?_))); (case side2 => exact (Kd.R_reads' HO134.out).2.1); rintro e w60 ⟨v137, rfl, ho0, hb⟩; have n0_ := Aside0.mk (Kd.R_below (by exact Ho.RS <| HO_9.out) hb); have n1_ := Aside0.mk (Kd.R_below (by exact Ho.RS <| HO134.out) hb); have n2_ := Aside0.mk (Kd.R_lower ho0 (below_size (by exact eS HB.out))); have n3_ := Aside0.mk (below_step (by exact eS HB.out) hb); clear HO_9; clear HO134; clear HB; have HO_9 := n0_; have HO134 := n1_; have HO138 := n2_; have HB := n3_; clear n0_ n1_ n2_ n3_; (try clear hb); (try clear hb2); (try clear hk); (try clear hi); (try clear ho0)) | (go_at_call 46; (with_reducible refine (Fn.calls kj46 _ _ t132 t139 t140 _ ?side1 ?side2 A56.out).mono ?_); (case side1 => repeat (first | exact (Kd.R_reads' HO134.out).2.2 | (with_reducible refine Kd.C_alloc ?_ _) | (with_reducible refine Kd.C_drewN ?_ _) | (with_reducible refine Kd.C_drew ?_))); (case side2 => exact (Kd.R_reads' HO134.out).2.1); rintro e w61 ⟨v141, rfl, ho0, hb⟩; have n0_ := Aside0.mk (Kd.R_below (by exact Ho.RS <| HO_9.out) hb); have n1_ := Aside0.mk (Kd.R_below (by exact Ho.RS <| HO134.out) hb); have n2_ := Aside0.mk (Kd.R_elder' (by exact Ho.RS <| HO138.out) (Kd.R_base ho0) hb); have n3_ := Aside0.mk (Kd.R_lower (Kd.R_new' ho0 (Kd.R_lt (by exact Ho.RS <| HO138.out))) (below_size (by exact eS HB.out))); have n4_ := Aside0.mk (below_step (by exact eS HB.out) hb); clear HO_9; clear HO134; clear HO138; clear HB; have HO_9 := n0_; have HO134 := n1_; have HO138 := n2_; have HO142 := n3_; have HB := n4_; clear n0_ n1_ n2_ n3_ n4_; (try clear hb); (try clear hb2); (try clear hk); (try clear hi); (try clear ho0)))
                      repeat (go_quiet (first | (go_at_call 44; (with_reducible refine (Fs.calls kj46 _ _ l0 t132 _ ?side1 ?side2 A54.out).mono ?_); (case side1 => repeat (first | exact (Kd.C_below HR0.out HB.out) | (with_reducible refine Kd.C_alloc ?_ _) | (with_reducible refine Kd.C_drewN ?_ _) | (with_reducible refine Kd.C_drew ?_))); (case side2 => exact HC0.out); rintro e w58 ⟨v133, rfl, ho0, hb⟩; have n0_ := Aside0.mk (Kd.R_elder' (by exact Ho.RS <| HO_9.out) (Kd.R_base ho0) hb); have n1_ := Aside0.mk (Kd.R_lower (Kd.R_new' ho0 (Kd.R_lt (by exact Ho.RS <| HO_9.out))) (below_size (by exact eS HB.out))); have n2_ := Aside0.mk (below_step (by exact eS HB.out) hb); clear HO_9; clear HB; have HO_9 := n0_; have HO134 := n1_; have HB := n2_; clear n0_ n1_ n2_; (try clear hb); (try clear hb2); (try clear hk); (try clear hi); (try clear ho0); obtain ⟨Ao59, co59, eo59⟩ := Kd.R_slice HO134.out; subst eo59) | (go_at_call 45; (with_reducible refine (Fm.calls kj46 _ _ t132 t135 t136 _ ?side1 ?side2 A55.out).mono ?_); (case side1 => repeat (first | exact (Kd.R_reads' HO134.out).2.2 | (with_reducible refine Kd.C_alloc ?_ _) | (with_reducible refine Kd.C_drewN ?_ _) | (with_reducible refine Kd.C_drew ?_))); (case side2 => exact (Kd.R_reads' HO134.out).2.1); rintro e w60 ⟨v137, rfl, ho0, hb⟩; have n0_ := Aside0.mk (Kd.R_below (by exact Ho.RS <| HO_9.out) hb); have n1_ := Aside0.mk (Kd.R_below (by exact Ho.RS <| HO134.out) hb); have n2_ := Aside0.mk (Kd.R_lower ho0 (below_size (by exact eS HB.out))); have n3_ := Aside0.mk (below_step (by exact eS HB.out) hb); clear HO_9; clear HO134; clear HB; have HO_9 := n0_; have HO134 := n1_; have HO138 := n2_; have HB := n3_; clear n0_ n1_ n2_ n3_; (try clear hb); (try clear hb2); (try clear hk); (try clear hi); (try clear ho0)) | (go_at_call 46; (with_reducible refine (Fn.calls kj46 _ _ t132 t139 t140 _ ?side1 ?side2 A56.out).mono ?_); (case side1 => repeat (first | exact (Kd.R_reads' HO134.out).2.2 | (with_reducible refine Kd.C_alloc ?_ _) | (with_reducible refine Kd.C_drewN ?_ _) | (with_reducible refine Kd.C_drew ?_))); (case side2 => exact (Kd.R_reads' HO134.out).2.1); rintro e w61 ⟨v141, rfl, ho0, hb⟩; have n0_ := Aside0.mk (Kd.R_below (by exact Ho.RS <| HO_9.out) hb); have n1_ := Aside0.mk (Kd.R_below (by exact Ho.RS <| HO134.out) hb); have n2_ := Aside0.mk (Kd.R_elder' (by exact Ho.RS <| HO138.out) (Kd.R_base ho0) hb); have n3_ := Aside0.mk (Kd.R_lower (Kd.R_new' ho0 (Kd.R_lt (by exact Ho.RS <| HO138.out))) (below_size (by exact eS HB.out))); have n4_ := Aside0.mk (below_step (by exact eS HB.out) hb); clear HO_9; clear HO134; clear HO138; clear HB; have HO_9 := n0_; have HO134 := n1_; have HO138 := n2_; have HO142 := n3_; have HB := n4_; clear n0_ n1_ n2_ n3_ n4_; (try clear hb); (try clear hb2); (try clear hk); (try clear hi); (try clear ho0))); go_upto_region 32 with (first | (go_at_call 44; (with_reducible refine (Fs.calls kj46 _ _ l0 t132 _ ?side1 ?side2 A54.out).mono ?_); (case side1 => repeat (first | exact (Kd.C_below HR0.out HB.out) | (with_reducible refine Kd.C_alloc ?_ _) | (with_reducible refine Kd.C_drewN ?_ _) | (with_reducible refine Kd.C_drew ?_))); (case side2 => exact HC0.out); rintro e w58 ⟨v133, rfl, ho0, hb⟩; have n0_ := Aside0.mk (Kd.R_elder' (by exact Ho.RS <| HO_9.out) (Kd.R_base ho0) hb); have n1_ := Aside0.mk (Kd.R_lower (Kd.R_new' ho0 (Kd.R_lt (by exact Ho.RS <| HO_9.out))) (below_size (by exact eS HB.out))); have n2_ := Aside0.mk (below_step (by exact eS HB.out) hb); clear HO_9; clear HB; have HO_9 := n0_; have HO134 := n1_; have HB := n2_; clear n0_ n1_ n2_; (try clear hb); (try clear hb2); (try clear hk); (try clear hi); (try clear ho0); obtain ⟨Ao59, co59, eo59⟩ := Kd.R_slice HO134.out; subst eo59) | (go_at_call 45; (with_reducible refine (Fm.calls kj46 _ _ t132 t135 t136 _ ?side1 ?side2 A55.out).mono ?_); (case side1 => repeat (first | exact (Kd.R_reads' HO134.out).2.2 | (with_reducible refine Kd.C_alloc ?_ _) | (with_reducible refine Kd.C_drewN ?_ _) | (with_reducible refine Kd.C_drew ?_))); (case side2 => exact (Kd.R_reads' HO134.out).2.1); rintro e w60 ⟨v137, rfl, ho0, hb⟩; have n0_ := Aside0.mk (Kd.R_below (by exact Ho.RS <| HO_9.out) hb); have n1_ := Aside0.mk (Kd.R_below (by exact Ho.RS <| HO134.out) hb); have n2_ := Aside0.mk (Kd.R_lower ho0 (below_size (by exact eS HB.out))); have n3_ := Aside0.mk (below_step (by exact eS HB.out) hb); clear HO_9; clear HO134; clear HB; have HO_9 := n0_; have HO134 := n1_; have HO138 := n2_; have HB := n3_; clear n0_ n1_ n2_ n3_; (try clear hb); (try clear hb2); (try clear hk); (try clear hi); (try clear ho0)) | (go_at_call 46; (with_reducible refine (Fn.calls kj46 _ _ t132 t139 t140 _ ?side1 ?side2 A56.out).mono ?_); (case side1 => repeat (first | exact (Kd.R_reads' HO134.out).2.2 | (with_reducible refine Kd.C_alloc ?_ _) | (with_reducible refine Kd.C_drewN ?_ _) | (with_reducible refine Kd.C_drew ?_))); (case side2 => exact (Kd.R_reads' HO134.out).2.1); rintro e w61 ⟨v141, rfl, ho0, hb⟩; have n0_ := Aside0.mk (Kd.R_below (by exact Ho.RS <| HO_9.out) hb); have n1_ := Aside0.mk (Kd.R_below (by exact Ho.RS <| HO134.out) hb); have n2_ := Aside0.mk (Kd.R_elder' (by exact Ho.RS <| HO138.out) (Kd.R_base ho0) hb); have n3_ := Aside0.mk (Kd.R_lower (Kd.R_new' ho0 (Kd.R_lt (by exact Ho.RS <| HO138.out))) (below_size (by exact eS HB.out))); have n4_ := Aside0.mk (below_step (by exact eS HB.out) hb); clear HO_9; clear HO134; clear HO138; clear HB; have HO_9 := n0_; have HO134 := n1_; have HO138 := n2_; have HO142 := n3_; have HB := n4_; clear n0_ n1_ n2_ n3_ n4_; (try clear hb); (try clear hb2); (try clear hk); (try clear hi); (try clear ho0))))
                      (try simp only [Act.put, List.setIfInBounds_toArray, List.set_cons_zero, List.set_cons_succ])
                      go_cut [183] (fun v183 wc => ∃ (kq : Nat) (x183_56 : Bool), v183 = .bool x183_56 ∧ Aside0 (Fd.j8 kq t132 t135 x183_56 = some r) ∧ Aside0 (kq ≤ kj46) ∧ Aside0 (Kd.R k61 61 wc w.heap.size (fun _ => True) (.slice Ao59 t132.length co59) t132) ∧ Aside0 (Kd.R (Kd.int .i64) 3 wc w.heap.size (fun _ => True) v137 t135) ∧ Aside0 (Below w.heap.size w wc))
                      case first =>
                       have H := HC57.out
                       clear HC57
                       by_cases c62 : (t136 != t140) = true
                       ·rw [if_pos c62] at H
                        have c62b0 : (t136 != t140) = true := c62
                        (try (have c62b1 : decide (t136 = t140) = false := by simpa using c62))
                        (try (have c62b2 : (t136 == t140) = false := by simpa using c62))
                        (try (have c62b3 : ¬ (t136 = t140) := by simpa using c62))
                        clear c62
                        (first | rw [c62b0] | (simp only [i64_w, i32_w]; rw [c62b0]) | skip)
                        as_aux_lemma =>
                         have H' := Aside0.mk H
                         clear H
                         go_wp2
                         repeat (go_quiet (fail); try go_wp2)
                         go_meet
                         case rel => exact ⟨_, (true), (by first | rfl | (simp; done) | (simp [*]; done)), H', ⟨by have := HJ6.out; have := HK2.out; have := HJ21.out; have := HJ32.out; have := HK5.out; have := HJ39.out; have := HK7.out; have := HJ46.out; first | omega | exact Nat.le_refl _⟩, ⟨by exact Ho.RS <| Kd.R_mono HO134.out (fun _ hk => trivial)⟩, ⟨by exact Ho.RS <| Kd.R_mono HO138.out (fun _ hk => trivial)⟩, ⟨by exact eS HB.out⟩⟩
                       rw [if_neg c62] at H
                       have c62b0 : (t136 != t140) = false := by simpa using c62
                       (try (have c62b1 : decide (t136 = t140) = true := by simpa using c62))
                       (try (have c62b2 : (t136 == t140) = true := by simpa using c62))
                       clear c62
                       (first | rw [c62b0] | (simp only [i64_w, i32_w]; rw [c62b0]) | skip)
                       replace H := Option.bind_eq_some_iff.mp H
                       obtain ⟨t143, A630, H⟩ := H
                       (try dsimp only at H)
                       have A63 := Aside0.mk A630
                       clear A630
                       as_aux_lemma =>
                        have H' := Aside0.mk H
                        clear H
                        obtain ⟨Ao64, co64, eo64⟩ := Kd.R_slice HO138.out
                        subst eo64
                        obtain ⟨Ao65, co65, eo65⟩ := Kd.R_slice HO142.out
                        subst eo65
                        go_wp2_with (first | (go_at_call 38; (with_reducible refine (Fv.calls kj46 _ _ t135 _ _ t139 t143 _ ?side1 ?side2 ?side3 ?side4 A63.out).mono ?_); (case side1 => repeat (first | exact (Kd.R_reads' HO138.out).2.2 | (with_reducible refine Kd.C_alloc ?_ _) | (with_reducible refine Kd.C_drewN ?_ _) | (with_reducible refine Kd.C_drew ?_))); (case side2 => exact (Kd.R_reads' HO138.out).2.1); (case side3 => repeat (first | exact (Kd.R_reads' HO142.out).2.2 | (with_reducible refine Kd.C_alloc ?_ _) | (with_reducible refine Kd.C_drewN ?_ _) | (with_reducible refine Kd.C_drew ?_))); (case side4 => exact (Kd.R_reads' HO142.out).2.1); rintro e w' ⟨rfl, ⟨nd, rfl⟩⟩; (try first | exact ⟨rfl, _, World.drewN_drewN _ _ _⟩ | exact ⟨rfl, _, Eq.trans (World.drewN_drewN _ _ _) (congrArg (World.drewN _) (Nat.add_assoc _ _ _))⟩)))
                        repeat (go_quiet (first | (go_at_call 38; (with_reducible refine (Fv.calls kj46 _ _ t135 _ _ t139 t143 _ ?side1 ?side2 ?side3 ?side4 A63.out).mono ?_); (case side1 => repeat (first | exact (Kd.R_reads' HO138.out).2.2 | (with_reducible refine Kd.C_alloc ?_ _) | (with_reducible refine Kd.C_drewN ?_ _) | (with_reducible refine Kd.C_drew ?_))); (case side2 => exact (Kd.R_reads' HO138.out).2.1); (case side3 => repeat (first | exact (Kd.R_reads' HO142.out).2.2 | (with_reducible refine Kd.C_alloc ?_ _) | (with_reducible refine Kd.C_drewN ?_ _) | (with_reducible refine Kd.C_drew ?_))); (case side4 => exact (Kd.R_reads' HO142.out).2.1); rintro e w' ⟨rfl, ⟨nd, rfl⟩⟩; (try first | exact ⟨rfl, _, World.drewN_drewN _ _ _⟩ | exact ⟨rfl, _, Eq.trans (World.drewN_drewN _ _ _) (congrArg (World.drewN _) (Nat.add_assoc _ _ _))⟩))); try go_wp2_with (first | (go_at_call 38; (with_reducible refine (Fv.calls kj46 _ _ t135 _ _ t139 t143 _ ?side1 ?side2 ?side3 ?side4 A63.out).mono ?_); (case side1 => repeat (first | exact (Kd.R_reads' HO138.out).2.2 | (with_reducible refine Kd.C_alloc ?_ _) | (with_reducible refine Kd.C_drewN ?_ _) | (with_reducible refine Kd.C_drew ?_))); (case side2 => exact (Kd.R_reads' HO138.out).2.1); (case side3 => repeat (first | exact (Kd.R_reads' HO142.out).2.2 | (with_reducible refine Kd.C_alloc ?_ _) | (with_reducible refine Kd.C_drewN ?_ _) | (with_reducible refine Kd.C_drew ?_))); (case side4 => exact (Kd.R_reads' HO142.out).2.1); rintro e w' ⟨rfl, ⟨nd, rfl⟩⟩; (try first | exact ⟨rfl, _, World.drewN_drewN _ _ _⟩ | exact ⟨rfl, _, Eq.trans (World.drewN_drewN _ _ _) (congrArg (World.drewN _) (Nat.add_assoc _ _ _))⟩))))
                        go_meet
                        case rel => exact ⟨_, (!t143), (by first | rfl | (simp; done) | (simp [*]; done)), H', ⟨by have := HJ6.out; have := HK2.out; have := HJ21.out; have := HJ32.out; have := HK5.out; have := HJ39.out; have := HK7.out; have := HJ46.out; first | omega | exact Nat.le_refl _⟩, ⟨by exact Ho.RS <| Kd.R_mono HO134.out (fun _ hk => trivial)⟩, ⟨by exact Ho.RS <| Kd.R_mono HO138.out (fun _ hk => trivial)⟩, ⟨by exact eS HB.out⟩⟩
                      case rest =>
                       clear HC57
                       try clear c1
                       try clear p1
                       try clear q1
                       try clear hx1
                       try clear c2
                       try clear p2
                       try clear c3
                       try clear c4
                       try clear c5
                       try clear c6
                       try clear p6
                       try clear c9
                       try clear p11
                       try clear q11
                       try clear hx11
                       try clear c12
                       try clear c12b0
                       try clear c12b1
                       try clear c12b2
                       try clear p12
                       try clear q12
                       try clear hx12
                       try clear p13
                       try clear q13
                       try clear hx13
                       try clear c14
                       try clear c21
                       try clear c23
                       try clear c23b0
                       try clear c24
                       try clear c25
                       try clear c25b0
                       try clear c26
                       try clear c26b0
                       try clear c28
                       try clear c38
                       try clear c38b0
                       try clear c38b1
                       try clear c39
                       try clear c41
                       try clear c41b0
                       try clear c42
                       try clear c43
                       try clear c43b0
                       try clear c44
                       try clear c44b0
                       try clear c45
                       try clear c45b0
                       try clear c45b1
                       try clear c46
                       try clear c46b0
                       try clear c46b1
                       try clear c48
                       try clear c48b0
                       try clear c49
                       try clear c50
                       try clear c50b0
                       try clear c51
                       try clear c51b0
                       try clear c52
                       try clear c52b0
                       try clear c52b1
                       try clear c53
                       try clear c53b0
                       try clear c62
                       try clear c62b0
                       try clear c62b1
                       try clear c62b2
                       try clear p64
                       try clear hx115_0
                       try clear hx115_1
                       try clear hx115_2
                       try clear hx115_3
                       try clear hx115_4
                       try clear hx125_0
                       try clear hx125_1
                       try clear hx125_2
                       try clear hx125_3
                       try clear hx125_4
                       try clear hx126_0
                       try clear hx126_1
                       try clear hx126_2
                       try clear hx126_3
                       try clear hx126_4
                       try clear hx127_0
                       try clear hx127_1
                       try clear hx127_2
                       try clear hx127_3
                       try clear hx127_4
                       try clear hx128_0
                       try clear hx128_1
                       try clear hx128_2
                       try clear hx128_3
                       try clear hx128_4
                       try clear hx129_0
                       try clear hx129_1
                       try clear hx129_2
                       try clear hx129_3
                       try clear hx129_4
                       try clear hx130_0
                       try clear hx130_1
                       try clear hx130_2
                       try clear hx130_3
                       try clear hx130_4
                       try clear hx131_0
                       try clear hx131_1
                       try clear hx131_2
                       try clear hx131_3
                       try clear hx131_4
                       try clear p1
                       try clear p11
                       try clear p115
                       try clear p12
                       try clear p125
                       try clear p126
                       try clear p127
                       try clear p128
                       try clear p129
                       try clear p130
                       try clear p131
                       try clear p2
                       try clear p6
                       try clear q1
                       try clear q11
                       try clear q115
                       try clear q12
                       try clear q125
                       try clear q126
                       try clear q127
                       try clear q128
                       try clear q129
                       try clear q130
                       try clear q131
                       as_aux_lemma =>
                        obtain ⟨kq, x183_56, rfl, HA, HJ56, HO_18, HO_19, HB⟩ := hcut
                        cases kq with
                        | zero => exact absurd HA.out (by simp [Fd.j8])
                        | succ kj56 =>
                         have H := HA.out
                         clear HA
                         simp only [Fd.j8] at H
                         by_cases c66 : x183_56 = true
                         ·subst c66
                          have H1 : (some false) = some r := by rw [if_pos rfl] at H; exact H
                          clear H
                          have H := H1
                          clear H1
                          as_aux_lemma =>
                           exact absurd ((Option.some.inj H).trans HT.out) (by decide)
                         replace c66 := Bool.eq_false_iff.mpr c66
                         subst c66
                         have H1 : (Fd.l3 kj56 t132 t135 0) = some r := by rw [if_neg (show ¬ (false = true) by decide)] at H; exact H
                         clear H
                         have H := H1
                         clear H1
                         have H' := Aside0.mk H
                         clear H
                         go_wp2
                         repeat (go_quiet (fail); try go_wp2)
                         go_loopg [23] kj56 (fun kq v23 w' => ∃ (x23_10 : Int), v23 = .int .i64 x23_10 ∧ Aside0 (Fd.l3 kq t132 t135 x23_10 = some r) ∧ Aside0 (kq ≤ kj56) ∧ Aside0 (Kd.R k61 61 w' w.heap.size (fun _ => True) (.slice Ao59 t132.length co59) t132) ∧ Aside0 (Kd.R (Kd.int .i64) 3 w' w.heap.size (fun _ => True) v137 t135) ∧ Aside0 (Below w.heap.size w w'))
                         case atStart => exact ⟨(0), (by first | rfl | (simp; done) | (simp [*]; done)), H', ⟨Nat.le_refl _⟩, ⟨by exact Ho.RS <| HO_18.out⟩, ⟨by exact Ho.RS <| HO_19.out⟩, ⟨by exact eS HB.out⟩⟩
                         case round =>
                          clear H'
                          try clear c1
                          try clear p1
                          try clear q1
                          try clear hx1
                          try clear c2
                          try clear p2
                          try clear c3
                          try clear c4
                          try clear c5
                          try clear c6
                          try clear p6
                          try clear c9
                          try clear p11
                          try clear q11
                          try clear hx11
                          try clear c12
                          try clear c12b0
                          try clear c12b1
                          try clear c12b2
                          try clear p12
                          try clear q12
                          try clear hx12
                          try clear p13
                          try clear q13
                          try clear hx13
                          try clear c14
                          try clear c21
                          try clear c23
                          try clear c23b0
                          try clear c24
                          try clear c25
                          try clear c25b0
                          try clear c26
                          try clear c26b0
                          try clear c28
                          try clear c38
                          try clear c38b0
                          try clear c38b1
                          try clear c39
                          try clear c41
                          try clear c41b0
                          try clear c42
                          try clear c43
                          try clear c43b0
                          try clear c44
                          try clear c44b0
                          try clear c45
                          try clear c45b0
                          try clear c45b1
                          try clear c46
                          try clear c46b0
                          try clear c46b1
                          try clear c48
                          try clear c48b0
                          try clear c49
                          try clear c50
                          try clear c50b0
                          try clear c51
                          try clear c51b0
                          try clear c52
                          try clear c52b0
                          try clear c52b1
                          try clear c53
                          try clear c53b0
                          try clear c62
                          try clear c62b0
                          try clear c62b1
                          try clear c62b2
                          try clear p64
                          try clear c66
                          try clear hx115_0
                          try clear hx115_1
                          try clear hx115_2
                          try clear hx115_3
                          try clear hx115_4
                          try clear hx125_0
                          try clear hx125_1
                          try clear hx125_2
                          try clear hx125_3
                          try clear hx125_4
                          try clear hx126_0
                          try clear hx126_1
                          try clear hx126_2
                          try clear hx126_3
                          try clear hx126_4
                          try clear hx127_0
                          try clear hx127_1
                          try clear hx127_2
                          try clear hx127_3
                          try clear hx127_4
                          try clear hx128_0
                          try clear hx128_1
                          try clear hx128_2
                          try clear hx128_3
                          try clear hx128_4
                          try clear hx129_0
                          try clear hx129_1
                          try clear hx129_2
                          try clear hx129_3
                          try clear hx129_4
                          try clear hx130_0
                          try clear hx130_1
                          try clear hx130_2
                          try clear hx130_3
                          try clear hx130_4
                          try clear hx131_0
                          try clear hx131_1
                          try clear hx131_2
                          try clear hx131_3
                          try clear hx131_4
                          try clear p1
                          try clear p11
                          try clear p115
                          try clear p12
                          try clear p125
                          try clear p126
                          try clear p127
                          try clear p128
                          try clear p129
                          try clear p13
                          try clear p130
                          try clear p131
                          try clear p2
                          try clear p6
                          try clear p64
                          try clear q1
                          try clear q11
                          try clear q115
                          try clear q12
                          try clear q125
                          try clear q126
                          try clear q127
                          try clear q128
                          try clear q129
                          try clear q13
                          try clear q130
                          try clear q131
                          obtain ⟨x23_10, rfl, HA, HK10, HO_18, HO_19, HB⟩ := hrel
                          cases gk with
                          | zero => exact absurd HA.out (by simp [Fd.l3])
                          | succ k10 =>
                           have H := HA.out
                           clear HA
                           simp only [Fd.l3] at H
                           by_cases c67 : x23_10 < (t135.length : Int)
                           rotate_left
                           ·rw [if_neg c67] at H
                            have c67b0 : decide (x23_10 < (t135.length : Int)) = false := decide_eq_false c67
                            clear c67
                            as_aux_lemma =>
                             obtain rfl := Option.some.inj H
                             obtain ⟨Ao76, co76, eo76⟩ := Kd.R_slice HO_19.out
                             subst eo76
                             go_wp2
                             repeat (go_quiet (fail); try go_wp2)
                             go_ret
                             exact ⟨by first | rfl | (simp [errW_none, errW_some] <;> rfl) | (simp [*, errW_none, errW_some] <;> rfl), by exact eS HB.out⟩
                           rw [if_pos c67] at H
                           have c67b0 : decide (x23_10 < (t135.length : Int)) = true := decide_eq_true c67
                           clear c67
                           by_cases c68 : 0 ≤ x23_10
                           rotate_left
                           ·rw [if_neg c68] at H
                            exact absurd H (by simp)
                           rw [if_pos c68] at H
                           have c68b0 : decide (0 ≤ x23_10) = true := decide_eq_true c68
                           clear c68
                           by_cases c69 : 0 ≤ (rd t135 x23_10)
                           rotate_left
                           ·rw [if_neg c69] at H
                            exact absurd H (by simp)
                           rw [if_pos c69] at H
                           have c69b0 : decide (0 ≤ (rd t135 x23_10)) = true := decide_eq_true c69
                           clear c69
                           by_cases c70 : (rd t135 x23_10) < (t132.length : Int)
                           rotate_left
                           ·rw [if_neg c70] at H
                            exact absurd H (by simp)
                           rw [if_pos c70] at H
                           have c70b0 : decide ((rd t135 x23_10) < (t132.length : Int)) = true := decide_eq_true c70
                           clear c70
                           by_cases c71 : ((rd_T61 t132 (rd t135 x23_10)).f2) < 8000
                           ·rw [if_pos c71] at H
                            have c71b0 : decide (((rd_T61 t132 (rd t135 x23_10)).f2) < 8000) = true := decide_eq_true c71
                            clear c71
                            as_aux_lemma =>
                             exact absurd ((Option.some.inj H).trans HT.out) (by decide)
                           rw [if_neg c71] at H
                           have c71b0 : decide (((rd_T61 t132 (rd t135 x23_10)).f2) < 8000) = false := decide_eq_false c71
                           clear c71
                           by_cases c72 : (wrap64 (((rd_T61 t132 (rd t135 x23_10)).f2) - ((rd_T61 t132 (rd t135 x23_10)).f3))) ≥ 8000
                           ·rw [if_pos c72] at H
                            have c72b0 : decide (8000 ≤ (wrap64 (((rd_T61 t132 (rd t135 x23_10)).f2) - ((rd_T61 t132 (rd t135 x23_10)).f3)))) = true := decide_eq_true c72
                            clear c72
                            as_aux_lemma =>
                             exact absurd ((Option.some.inj H).trans HT.out) (by decide)
                           rw [if_neg c72] at H
                           have c72b0 : decide (8000 ≤ (wrap64 (((rd_T61 t132 (rd t135 x23_10)).f2) - ((rd_T61 t132 (rd t135 x23_10)).f3)))) = false := decide_eq_false c72
                           clear c72
                           as_aux_lemma =>
                            have H' := Aside0.mk H
                            clear H
                            obtain ⟨Ao73, co73, eo73⟩ := Kd.R_slice HO_19.out
                            subst eo73
                            have p144 : 0 ≤ (x23_10 : Int) := of_decide_eq_true (by first | (with_reducible assumption) | assumption)
                            have q144 : x23_10 < (t135.length : Int) := of_decide_eq_true (by first | (with_reducible assumption) | assumption)
                            obtain ⟨ad144, e144, hx144_0⟩ := Kd.at_int (Kd.R_reads' HO_19.out).2.2 x23_10 p144 q144
                            cases e144
                            replace p144 := eq_true p144
                            replace q144 := eq_true q144
                            have p145 : 0 ≤ ((rd t135 x23_10) : Int) := of_decide_eq_true (by first | (with_reducible assumption) | assumption)
                            have q145 : (rd t135 x23_10) < (t132.length : Int) := of_decide_eq_true (by first | (with_reducible assumption) | assumption)
                            obtain ⟨ad145, e145, hx145_0, hx145_1, hx145_2, hx145_3, hx145_4⟩ := at_T61 (Kd.R_reads' HO_18.out).2.2 (rd t135 x23_10) p145 q145
                            cases e145
                            replace p145 := eq_true p145
                            replace q145 := eq_true q145
                            go_wp2_with (first | ((with_reducible refine gate_dst (N := 24) rfl ?_); refine box_event ?hg (N := 24) ?hd (cs := #[.int .i64 0, .int .i64 0, .int .i64 0, .int .i64 0, .int .i64 0]) (t := 61) ?hr ?_; (case hd => rfl); (case hg => rfl); (case hr => first | (go_simp; done) | (go_simp; rfl)); intro gb146 hg w74 hbox hb; have n0_ := Aside0.mk (Kd.R_below (Kd.R_elderB (by exact Ho.RS <| HO_18.out) gb146 (Nat.le_of_eq hg.symm)) hb); have n1_ := Aside0.mk (Kd.R_below (by exact Ho.RS <| HO_19.out) hb); have n2_ := Aside0.mk (below_step (by exact eS HB.out) hb); have n3_ := Aside0.mk (hbox); have n4_ := Aside0.mk ((by rw [hg]; exact (below_size (by exact eS HB.out)) : w.heap.size ≤ gb146)); have n5_ := Aside0.mk ((by rw [hg]; exact (below_size (by exact eS HB.out)) : w.heap.size ≤ gb146)); clear HO_18; clear HO_19; clear HB; have HO_18 := n0_; have HO_19 := n1_; have HB := n2_; have BK146 := n3_; have GW146 := n4_; have GE146 := n5_; clear n0_ n1_ n2_ n3_ n4_ n5_; clear hb hbox hg; obtain ⟨hcz75_0, hcz75_1, hcz75_2, hcz75_3, hcz75_4, hfz75_0, hfz75_1, hfz75_2, hfz75_3, hfz75_4⟩ := Sq.c5 BK146.out))
                            repeat (go_quiet (first | ((with_reducible refine gate_dst (N := 24) rfl ?_); refine box_event ?hg (N := 24) ?hd (cs := #[.int .i64 0, .int .i64 0, .int .i64 0, .int .i64 0, .int .i64 0]) (t := 61) ?hr ?_; (case hd => rfl); (case hg => rfl); (case hr => first | (go_simp; done) | (go_simp; rfl)); intro gb146 hg w74 hbox hb; have n0_ := Aside0.mk (Kd.R_below (Kd.R_elderB (by exact Ho.RS <| HO_18.out) gb146 (Nat.le_of_eq hg.symm)) hb); have n1_ := Aside0.mk (Kd.R_below (by exact Ho.RS <| HO_19.out) hb); have n2_ := Aside0.mk (below_step (by exact eS HB.out) hb); have n3_ := Aside0.mk (hbox); have n4_ := Aside0.mk ((by rw [hg]; exact (below_size (by exact eS HB.out)) : w.heap.size ≤ gb146)); have n5_ := Aside0.mk ((by rw [hg]; exact (below_size (by exact eS HB.out)) : w.heap.size ≤ gb146)); clear HO_18; clear HO_19; clear HB; have HO_18 := n0_; have HO_19 := n1_; have HB := n2_; have BK146 := n3_; have GW146 := n4_; have GE146 := n5_; clear n0_ n1_ n2_ n3_ n4_ n5_; clear hb hbox hg; obtain ⟨hcz75_0, hcz75_1, hcz75_2, hcz75_3, hcz75_4, hfz75_0, hfz75_1, hfz75_2, hfz75_3, hfz75_4⟩ := Sq.c5 BK146.out)); try go_wp2_with (first | ((with_reducible refine gate_dst (N := 24) rfl ?_); refine box_event ?hg (N := 24) ?hd (cs := #[.int .i64 0, .int .i64 0, .int .i64 0, .int .i64 0, .int .i64 0]) (t := 61) ?hr ?_; (case hd => rfl); (case hg => rfl); (case hr => first | (go_simp; done) | (go_simp; rfl)); intro gb146 hg w74 hbox hb; have n0_ := Aside0.mk (Kd.R_below (Kd.R_elderB (by exact Ho.RS <| HO_18.out) gb146 (Nat.le_of_eq hg.symm)) hb); have n1_ := Aside0.mk (Kd.R_below (by exact Ho.RS <| HO_19.out) hb); have n2_ := Aside0.mk (below_step (by exact eS HB.out) hb); have n3_ := Aside0.mk (hbox); have n4_ := Aside0.mk ((by rw [hg]; exact (below_size (by exact eS HB.out)) : w.heap.size ≤ gb146)); have n5_ := Aside0.mk ((by rw [hg]; exact (below_size (by exact eS HB.out)) : w.heap.size ≤ gb146)); clear HO_18; clear HO_19; clear HB; have HO_18 := n0_; have HO_19 := n1_; have HB := n2_; have BK146 := n3_; have GW146 := n4_; have GE146 := n5_; clear n0_ n1_ n2_ n3_ n4_ n5_; clear hb hbox hg; obtain ⟨hcz75_0, hcz75_1, hcz75_2, hcz75_3, hcz75_4, hfz75_0, hfz75_1, hfz75_2, hfz75_3, hfz75_4⟩ := Sq.c5 BK146.out)))
                            go_roundg k10
                            case measure => have := HJ6.out; have := HK2.out; have := HJ21.out; have := HJ32.out; have := HK5.out; have := HJ39.out; have := HK7.out; have := HJ46.out; have := HJ56.out; have := HK10.out; omega
                            case rel => exact ⟨(wrap64 (x23_10 + 1)), (by first | rfl | (simp; done) | (simp [*]; done)), H', ⟨by have := HJ6.out; have := HK2.out; have := HJ21.out; have := HJ32.out; have := HK5.out; have := HJ39.out; have := HK7.out; have := HJ46.out; have := HJ56.out; have := HK10.out; omega⟩, ⟨by exact Ho.RS <| Kd.R_mono (Kd.R_far (p := ⟨gb146, 4, none⟩) (Kd.R_far (p := ⟨gb146, 3, none⟩) (Kd.R_far (p := ⟨gb146, 2, none⟩) (Kd.R_far (p := ⟨gb146, 1, none⟩) (Kd.R_far (p := ⟨gb146, 0, none⟩) (Kd.R_mono HO_18.out (fun k_ hk => (⟨hk, hk.2⟩ : _ ∧ k_ ≠ gb146))) (fun _ hk => hk.2) (.int .i64 ((rd_T61 t132 (rd t135 x23_10)).f0))) (fun _ hk => hk.2) (.int .i64 ((rd_T61 t132 (rd t135 x23_10)).f1))) (fun _ hk => hk.2) (.int .i64 ((rd_T61 t132 (rd t135 x23_10)).f2))) (fun _ hk => hk.2) (.int .i64 ((rd_T61 t132 (rd t135 x23_10)).f3))) (fun _ hk => hk.2) (.int .i64 ((rd_T61 t132 (rd t135 x23_10)).f4))) (fun _ hk => trivial)⟩, ⟨by exact Ho.RS <| Kd.R_mono (Kd.R_far (p := ⟨gb146, 4, none⟩) (Kd.R_far (p := ⟨gb146, 3, none⟩) (Kd.R_far (p := ⟨gb146, 2, none⟩) (Kd.R_far (p := ⟨gb146, 1, none⟩) (Kd.R_far (p := ⟨gb146, 0, none⟩) (Kd.R_types HO_19.out BK146.out (by decide)) (fun _ hk => hk.2) (.int .i64 ((rd_T61 t132 (rd t135 x23_10)).f0))) (fun _ hk => hk.2) (.int .i64 ((rd_T61 t132 (rd t135 x23_10)).f1))) (fun _ hk => hk.2) (.int .i64 ((rd_T61 t132 (rd t135 x23_10)).f2))) (fun _ hk => hk.2) (.int .i64 ((rd_T61 t132 (rd t135 x23_10)).f3))) (fun _ hk => hk.2) (.int .i64 ((rd_T61 t132 (rd t135 x23_10)).f4))) (fun _ hk => trivial)⟩, ⟨by repeat (first | (with_reducible first | exact HB.out | apply below_alloc | apply pw_below_drewN | apply below_drew1 | refine below_set ?_ GE146.out) | exact HB.out)⟩⟩
/-- THE ONE PURE STATEMENT of Fd: yours. -/
def Fd.Pure : Prop := ∀ (l0 : List Int), (l0.length ≤ 9223372036854775807 ∧ ∀ y_ ∈ l0, (Lit.int .u8 y_).wf = true) → ∃ k, Fd.f k l0 = some true
end Go.Proofs.Ytbfhphobnngeaaa.X

namespace Go.Proofs.Ytbfhphobnngeaaa.Pure
open Go Go.RowKit Go.Proofs Go.Proofs.YtbfhphobnngeaaaW.PrintWords Go.Proofs.YtbfhphobnngeaaaW.PrintLast
set_option linter.unusedVariables false
set_option linter.unusedSimpArgs false
theorem w64 {x : Int} (h1 : -9223372036854775808 ≤ x) (h2 : x ≤ 9223372036854775807) : wrap64 x = x := by unfold wrap64; omega
/-- a product of two numbers within bounds -/
theorem mul_bd {a b A B : Int} (ha : 0 ≤ a) (hA : a ≤ A) (hb : 0 ≤ b) (hB : b ≤ B) : 0 ≤ a * b ∧ a * b ≤ A * B :=
  ⟨Int.mul_nonneg ha hb, Int.mul_le_mul hA hB hb (Int.le_trans ha hA)⟩
theorem drop_step {α : Type} {l : List α} {i : Nat} (h : i < l.length) (d : α) : l.drop i = l.getD i d :: l.drop (i + 1) := by
  rw [List.drop_eq_getElem_cons h]; congr 1; simp [List.getD_eq_getElem?_getD, List.getElem?_eq_getElem h]
theorem wstep {i : Nat} {n : Nat} (h : i < n) (hn : n ≤ 9223372036854775807) : wrap64 ((i : Int) + 1) = ((i + 1 : Nat) : Int) := by unfold wrap64; omega
theorem nat_of {i : Int} (h : 0 ≤ i) : ∃ n : Nat, i = n := ⟨i.toNat, by omega⟩
theorem succ_of {k d : Nat} (h : d < k) : ∃ m, k = m + 1 ∧ d ≤ m := ⟨k - 1, by omega, by omega⟩
end Go.Proofs.Ytbfhphobnngeaaa.Pure

namespace Go.Proofs.Ytbfhphobnngeaaa.Pure
open Go Go.RowKit Go.Proofs Go.Proofs.Ytbfhphobnngeaaa.X Go.Proofs.YtbfhphobnngeaaaW.PrintWords Go.Proofs.YtbfhphobnngeaaaW.PrintLast
set_option linter.unusedVariables false
set_option linter.unusedSimpArgs false
def cmpI (a b : Int) : Int := if a < b then -1 else if a > b then 1 else 0
theorem cmpI_eq (a b : Int) : Far.f a b = some (cmpI a b) := by
  simp only [Far.f, Fah.f, bne_self_eq_false, Option.bind_some, Bool.false_eq_true, if_false, cmpI]
  (repeat' split) <;> rfl
theorem in_eq (x a b : Int) : Fan.f x a b = some (decide (a ≤ x ∧ x ≤ b)) := by
  unfold Fan.f
  by_cases h1 : a ≤ x <;> simp [h1]
end Go.Proofs.Ytbfhphobnngeaaa.Pure

namespace Go.Proofs.Ytbfhphobnngeaaa.Pure
open Go Go.RowKit Go.Proofs Go.Proofs.YtbfhphobnngeaaaW.PrintWords Go.Proofs.YtbfhphobnngeaaaW.PrintLast
set_option linter.unusedVariables false
set_option linter.unusedSimpArgs false
/-- an element put into a list (whose reverse is given), from the right -/
def insB {α : Type} (lt : α → α → Bool) : List α → α → List α
  | [], x => [x]
  | y :: rp, x => if lt x y = true then insB lt rp x ++ [y] else (y :: rp).reverse ++ [x]
def isortB {α : Type} (lt : α → α → Bool) (P l : List α) : List α := l.foldl (fun P x => insB lt P.reverse x) P
theorem insB_perm {α : Type} (lt : α → α → Bool) : ∀ (rp : List α) (x : α), (insB lt rp x).Perm (x :: rp) := by
  intro rp
  induction rp with
  | nil => intro x; exact List.Perm.refl _
  | cons y rp ih =>
    intro x
    rw [insB]
    split
    · have h1 : (insB lt rp x ++ [y]).Perm ((x :: rp) ++ [y]) := (ih x).append_right _
      refine h1.trans ?_
      have h2 : ((x :: rp) ++ [y]).Perm ([y] ++ (x :: rp)) := List.perm_append_comm
      exact h2.trans (List.Perm.swap _ _ _)
    · have h1 : ((y :: rp).reverse ++ [x]).Perm ([x] ++ (y :: rp).reverse) := List.perm_append_comm
      refine h1.trans ?_
      exact List.Perm.cons _ (List.reverse_perm _)
theorem insB_len {α : Type} (lt : α → α → Bool) (rp : List α) (x : α) : (insB lt rp x).length = rp.length + 1 := by
  rw [(insB_perm lt rp x).length_eq, List.length_cons]
theorem isortB_perm {α : Type} (lt : α → α → Bool) : ∀ (l P : List α), (isortB lt P l).Perm (P ++ l) := by
  intro l
  induction l with
  | nil => intro P; rw [List.append_nil]; exact List.Perm.refl _
  | cons x l ih =>
    intro P
    unfold isortB at *
    rw [List.foldl_cons]
    refine (ih _).trans ?_
    have h1 : (insB lt P.reverse x ++ l).Perm ((x :: P.reverse) ++ l) := (insB_perm lt _ x).append_right _
    refine h1.trans ?_
    have h2 : ((x :: P.reverse) ++ l).Perm ((x :: P) ++ l) := (List.Perm.cons _ (List.reverse_perm _)).append_right _
    exact h2.trans List.perm_middle.symm
theorem insB_sorted {α : Type} (lt : α → α → Bool) (R : α → α → Prop) (tr : ∀ a b c, R a b → R b c → R a c) : ∀ (rp : List α) (x : α), rp.reverse.Pairwise R → (∀ y ∈ rp, lt x y = true → R x y) → (∀ y ∈ rp, lt x y = false → R y x) → (insB lt rp x).Pairwise R := by
  intro rp
  induction rp with
  | nil => intro x _ _ _; simp [insB]
  | cons y rp ih =>
    intro x hP h1 h2
    rw [List.reverse_cons, List.pairwise_append] at hP
    rw [insB]
    split
    · rename_i g
      rw [List.pairwise_append]
      refine ⟨ih x hP.1 (fun z hz => h1 z (List.mem_cons_of_mem _ hz)) (fun z hz => h2 z (List.mem_cons_of_mem _ hz)), List.pairwise_singleton _ _, fun a ha b hb => ?_⟩
      rw [List.mem_singleton] at hb
      subst hb
      rcases List.mem_cons.mp ((insB_perm lt rp x).mem_iff.mp ha) with e | e
      · subst e; exact h1 b List.mem_cons_self g
      · exact hP.2.2 a (List.mem_reverse.mpr e) b (List.mem_singleton.mpr rfl)
    · rename_i g
      have g : lt x y = false := by simpa using g
      have hy := h2 y List.mem_cons_self g
      rw [List.pairwise_append]
      refine ⟨by rw [List.reverse_cons, List.pairwise_append]; exact hP, List.pairwise_singleton _ _, fun a ha b hb => ?_⟩
      rw [List.mem_singleton] at hb
      subst hb
      rw [List.mem_reverse] at ha
      rcases List.mem_cons.mp ha with e | e
      · subst e; exact hy
      · exact tr _ _ _ (hP.2.2 a (List.mem_reverse.mpr e) y (List.mem_singleton.mpr rfl)) hy
/-- the inner loop of the library's insertion sort -/
theorem ins_l1 {α : Type} (z : α) (lt : α → α → Bool) (L0 : Nat → List α → Int → Option (List α)) (L1 : Nat → List α → Int → Int → Option (List α))
    (h1 : ∀ k (s : List α) (i : Int) (j : Nat), 0 < j → j < s.length → s.length ≤ 1048576 → L1 (k + 1) s i (j : Int) = if lt (s.getD j z) (s.getD (j - 1) z) = true then L1 k ((s.set j (s.getD (j - 1) z)).set (j - 1) (s.getD j z)) i ((j - 1 : Nat) : Int) else L0 k s (wrap64 (i + 1)))
    (h2 : ∀ k (s : List α) (i : Int), L1 (k + 1) s i 0 = L0 k s (wrap64 (i + 1))) :
    ∀ (rp : List α) (k : Nat) (x : α) (Q : List α) (i : Int), rp.length + 1 + Q.length ≤ 1048576 → rp.length < k → ∃ k', k ≤ k' + rp.length + 1 ∧ L1 k (rp.reverse ++ x :: Q) i (rp.length : Int) = L0 k' (insB lt rp x ++ Q) (wrap64 (i + 1)) := by
  intro rp
  induction rp with
  | nil =>
    intro k x Q i hb hk
    obtain ⟨k, rfl, _⟩ := succ_of hk
    refine ⟨k, by simp, ?_⟩
    have := h2 k (x :: Q) i
    simpa [insB] using this
  | cons y rp ih =>
    intro k x Q i hb hk
    obtain ⟨k, rfl, hk2⟩ := succ_of hk
    rw [List.length_cons] at *
    have hs : (y :: rp).reverse ++ x :: Q = rp.reverse ++ y :: x :: Q := by simp
    have hlen : (rp.reverse ++ y :: x :: Q).length = rp.length + 2 + Q.length := by simp; omega
    have e1 : (rp.reverse ++ y :: x :: Q).getD (rp.length + 1) z = x := by
      rw [List.getD_eq_getElem?_getD, List.getElem?_append_right (by rw [List.length_reverse]; omega), List.length_reverse, show rp.length + 1 - rp.length = 1 by omega]; rfl
    have e2 : (rp.reverse ++ y :: x :: Q).getD rp.length z = y := by
      rw [List.getD_eq_getElem?_getD, List.getElem?_append_right (by rw [List.length_reverse]; omega), List.length_reverse, Nat.sub_self]; rfl
    have e3 : ((rp.reverse ++ y :: x :: Q).set (rp.length + 1) y).set rp.length x = rp.reverse ++ x :: y :: Q := by
      rw [List.set_append_right _ _ (by rw [List.length_reverse]; omega), List.length_reverse, show rp.length + 1 - rp.length = 1 by omega, List.set_append_right _ _ (by rw [List.length_reverse]; omega), List.length_reverse, Nat.sub_self]; rfl
    rw [hs, h1 k _ i (rp.length + 1) (by omega) (by omega) (by omega), e1, Nat.add_sub_cancel, e2, e3]
    by_cases g : lt x y = true
    · rw [if_pos g]
      obtain ⟨k', hk', e⟩ := ih k x (y :: Q) i (by rw [List.length_cons]; omega) (by omega)
      refine ⟨k', by omega, ?_⟩
      rw [e, insB, if_pos g, List.append_assoc]; rfl
    · rw [if_neg g]
      refine ⟨k, by omega, ?_⟩
      rw [insB, if_neg g]; simp
theorem ins_l0 {α : Type} (z : α) (lt : α → α → Bool) (n0 : Nat) (hn0 : n0 ≤ 1048576) (L0 : Nat → List α → Int → Option (List α)) (L1 : Nat → List α → Int → Int → Option (List α))
    (h1 : ∀ k (s : List α) (i : Int) (j : Nat), 0 < j → j < s.length → s.length ≤ 1048576 → L1 (k + 1) s i (j : Int) = if lt (s.getD j z) (s.getD (j - 1) z) = true then L1 k ((s.set j (s.getD (j - 1) z)).set (j - 1) (s.getD j z)) i ((j - 1 : Nat) : Int) else L0 k s (wrap64 (i + 1)))
    (h2 : ∀ k (s : List α) (i : Int), L1 (k + 1) s i 0 = L0 k s (wrap64 (i + 1)))
    (h3 : ∀ k (s : List α) (i : Nat), i < n0 → L0 (k + 1) s (i : Int) = L1 k s (i : Int) (i : Int)) (h4 : ∀ k (s : List α) (i : Nat), n0 ≤ i → L0 (k + 1) s (i : Int) = some s) :
    ∀ (Q P : List α) (k : Nat), P.length + Q.length = n0 → (Q.length + 1) * (n0 + 3) < k → L0 k (P ++ Q) (P.length : Int) = some (isortB lt P Q) := by
  intro Q
  induction Q with
  | nil =>
    intro P k hn hk
    obtain ⟨k, rfl, _⟩ := succ_of (show 0 < k by omega)
    rw [h4 k _ _ (by simpa using Nat.le_of_eq hn.symm), List.append_nil]; rfl
  | cons x Q ih =>
    intro P k hn hk
    rw [List.length_cons, Nat.add_mul, Nat.one_mul] at hk
    rw [List.length_cons] at hn
    obtain ⟨k, rfl, _⟩ := succ_of (show 0 < k by omega)
    rw [h3 k _ _ (by omega)]
    obtain ⟨k', hk', e⟩ := ins_l1 z lt L0 L1 h1 h2 P.reverse k x Q (P.length : Int) (by rw [List.length_reverse]; omega) (by rw [List.length_reverse]; omega)
    rw [List.reverse_reverse, List.length_reverse] at e
    rw [List.length_reverse] at hk'
    have hl := insB_len lt P.reverse x
    rw [List.length_reverse] at hl
    rw [e, wstep (n := n0) (by omega) (by omega), ← hl, ih (insB lt P.reverse x) k' (by omega) (by omega)]
    rfl
/-- the library's insertion sort, from the second element on -/
theorem ins_eq {α : Type} (z : α) (lt : α → α → Bool) (l : List α) (hl : l.length ≤ 1048576) (L0 : Nat → List α → Int → Option (List α)) (L1 : Nat → List α → Int → Int → Option (List α))
    (h1 : ∀ k (s : List α) (i : Int) (j : Nat), 0 < j → j < s.length → s.length ≤ 1048576 → L1 (k + 1) s i (j : Int) = if lt (s.getD j z) (s.getD (j - 1) z) = true then L1 k ((s.set j (s.getD (j - 1) z)).set (j - 1) (s.getD j z)) i ((j - 1 : Nat) : Int) else L0 k s (wrap64 (i + 1)))
    (h2 : ∀ k (s : List α) (i : Int), L1 (k + 1) s i 0 = L0 k s (wrap64 (i + 1)))
    (h3 : ∀ k (s : List α) (i : Nat), i < l.length → L0 (k + 1) s (i : Int) = L1 k s (i : Int) (i : Int)) (h4 : ∀ k (s : List α) (i : Nat), l.length ≤ i → L0 (k + 1) s (i : Int) = some s) {k : Nat} (hk : (l.length + 1) * (l.length + 3) < k) :
    L0 k l 1 = some (isortB lt [] l) := by
  cases l with
  | nil =>
    obtain ⟨k, rfl, _⟩ := succ_of (show 0 < k by omega)
    exact h4 k [] 1 (by simp)
  | cons x l =>
    have hk2 : (l.length + 1) * ((x :: l).length + 3) < k := Nat.lt_of_le_of_lt (Nat.mul_le_mul_right _ (by rw [List.length_cons]; omega)) hk
    exact ins_l0 z lt (x :: l).length hl L0 L1 h1 h2 h3 h4 l [x] k (by simp only [List.length_cons, List.length_nil]; omega) hk2
/-- the inner loop of the library's insertion sort -/
theorem insM_l1 {α : Type} (M : Nat) (z : α) (lt : α → α → Bool) (L0 : Nat → List α → Int → Option (List α)) (L1 : Nat → List α → Int → Int → Option (List α))
    (h1 : ∀ k (s : List α) (i : Int) (j : Nat), M ≤ k → 0 < j → j < s.length → s.length ≤ 1048576 → L1 (k + 1) s i (j : Int) = if lt (s.getD j z) (s.getD (j - 1) z) = true then L1 k ((s.set j (s.getD (j - 1) z)).set (j - 1) (s.getD j z)) i ((j - 1 : Nat) : Int) else L0 k s (wrap64 (i + 1)))
    (h2 : ∀ k (s : List α) (i : Int), L1 (k + 1) s i 0 = L0 k s (wrap64 (i + 1))) :
    ∀ (rp : List α) (k : Nat) (x : α) (Q : List α) (i : Int), rp.length + 1 + Q.length ≤ 1048576 → rp.length + M < k → ∃ k', k ≤ k' + rp.length + 1 ∧ L1 k (rp.reverse ++ x :: Q) i (rp.length : Int) = L0 k' (insB lt rp x ++ Q) (wrap64 (i + 1)) := by
  intro rp
  induction rp with
  | nil =>
    intro k x Q i hb hk
    obtain ⟨k, rfl, _⟩ := succ_of hk
    refine ⟨k, by simp, ?_⟩
    have := h2 k (x :: Q) i
    simpa [insB] using this
  | cons y rp ih =>
    intro k x Q i hb hk
    obtain ⟨k, rfl, hk2⟩ := succ_of hk
    rw [List.length_cons] at *
    have hs : (y :: rp).reverse ++ x :: Q = rp.reverse ++ y :: x :: Q := by simp
    have hlen : (rp.reverse ++ y :: x :: Q).length = rp.length + 2 + Q.length := by simp; omega
    have e1 : (rp.reverse ++ y :: x :: Q).getD (rp.length + 1) z = x := by
      rw [List.getD_eq_getElem?_getD, List.getElem?_append_right (by rw [List.length_reverse]; omega), List.length_reverse, show rp.length + 1 - rp.length = 1 by omega]; rfl
    have e2 : (rp.reverse ++ y :: x :: Q).getD rp.length z = y := by
      rw [List.getD_eq_getElem?_getD, List.getElem?_append_right (by rw [List.length_reverse]; omega), List.length_reverse, Nat.sub_self]; rfl
    have e3 : ((rp.reverse ++ y :: x :: Q).set (rp.length + 1) y).set rp.length x = rp.reverse ++ x :: y :: Q := by
      rw [List.set_append_right _ _ (by rw [List.length_reverse]; omega), List.length_reverse, show rp.length + 1 - rp.length = 1 by omega, List.set_append_right _ _ (by rw [List.length_reverse]; omega), List.length_reverse, Nat.sub_self]; rfl
    rw [hs, h1 k _ i (rp.length + 1) (by omega) (by omega) (by omega) (by omega), e1, Nat.add_sub_cancel, e2, e3]
    by_cases g : lt x y = true
    · rw [if_pos g]
      obtain ⟨k', hk', e⟩ := ih k x (y :: Q) i (by rw [List.length_cons]; omega) (by omega)
      refine ⟨k', by omega, ?_⟩
      rw [e, insB, if_pos g, List.append_assoc]; rfl
    · rw [if_neg g]
      refine ⟨k, by omega, ?_⟩
      rw [insB, if_neg g]; simp
theorem insM_l0 {α : Type} (M : Nat) (z : α) (lt : α → α → Bool) (n0 : Nat) (hn0 : n0 ≤ 1048576) (L0 : Nat → List α → Int → Option (List α)) (L1 : Nat → List α → Int → Int → Option (List α))
    (h1 : ∀ k (s : List α) (i : Int) (j : Nat), M ≤ k → 0 < j → j < s.length → s.length ≤ 1048576 → L1 (k + 1) s i (j : Int) = if lt (s.getD j z) (s.getD (j - 1) z) = true then L1 k ((s.set j (s.getD (j - 1) z)).set (j - 1) (s.getD j z)) i ((j - 1 : Nat) : Int) else L0 k s (wrap64 (i + 1)))
    (h2 : ∀ k (s : List α) (i : Int), L1 (k + 1) s i 0 = L0 k s (wrap64 (i + 1)))
    (h3 : ∀ k (s : List α) (i : Nat), i < n0 → L0 (k + 1) s (i : Int) = L1 k s (i : Int) (i : Int)) (h4 : ∀ k (s : List α) (i : Nat), n0 ≤ i → L0 (k + 1) s (i : Int) = some s) :
    ∀ (Q P : List α) (k : Nat), P.length + Q.length = n0 → (Q.length + 1) * (n0 + 3) + M < k → L0 k (P ++ Q) (P.length : Int) = some (isortB lt P Q) := by
  intro Q
  induction Q with
  | nil =>
    intro P k hn hk
    obtain ⟨k, rfl, _⟩ := succ_of (show 0 < k by omega)
    rw [h4 k _ _ (by simpa using Nat.le_of_eq hn.symm), List.append_nil]; rfl
  | cons x Q ih =>
    intro P k hn hk
    rw [List.length_cons, Nat.add_mul, Nat.one_mul] at hk
    rw [List.length_cons] at hn
    obtain ⟨k, rfl, _⟩ := succ_of (show 0 < k by omega)
    rw [h3 k _ _ (by omega)]
    obtain ⟨k', hk', e⟩ := insM_l1 M z lt L0 L1 h1 h2 P.reverse k x Q (P.length : Int) (by rw [List.length_reverse]; omega) (by rw [List.length_reverse]; omega)
    rw [List.reverse_reverse, List.length_reverse] at e
    rw [List.length_reverse] at hk'
    have hl := insB_len lt P.reverse x
    rw [List.length_reverse] at hl
    rw [e, wstep (n := n0) (by omega) (by omega), ← hl, ih (insB lt P.reverse x) k' (by omega) (by omega)]
    rfl
/-- the library's insertion sort, from the second element on -/
theorem insM_eq {α : Type} (M : Nat) (z : α) (lt : α → α → Bool) (l : List α) (hl : l.length ≤ 1048576) (L0 : Nat → List α → Int → Option (List α)) (L1 : Nat → List α → Int → Int → Option (List α))
    (h1 : ∀ k (s : List α) (i : Int) (j : Nat), M ≤ k → 0 < j → j < s.length → s.length ≤ 1048576 → L1 (k + 1) s i (j : Int) = if lt (s.getD j z) (s.getD (j - 1) z) = true then L1 k ((s.set j (s.getD (j - 1) z)).set (j - 1) (s.getD j z)) i ((j - 1 : Nat) : Int) else L0 k s (wrap64 (i + 1)))
    (h2 : ∀ k (s : List α) (i : Int), L1 (k + 1) s i 0 = L0 k s (wrap64 (i + 1)))
    (h3 : ∀ k (s : List α) (i : Nat), i < l.length → L0 (k + 1) s (i : Int) = L1 k s (i : Int) (i : Int)) (h4 : ∀ k (s : List α) (i : Nat), l.length ≤ i → L0 (k + 1) s (i : Int) = some s) {k : Nat} (hk : (l.length + 1) * (l.length + 3) + M < k) :
    L0 k l 1 = some (isortB lt [] l) := by
  cases l with
  | nil =>
    obtain ⟨k, rfl, _⟩ := succ_of (show 0 < k by omega)
    exact h4 k [] 1 (by simp)
  | cons x l =>
    have hk2 : (l.length + 1) * ((x :: l).length + 3) + M < k := Nat.lt_of_le_of_lt (Nat.add_le_add_right (Nat.mul_le_mul_right _ (by rw [List.length_cons]; omega)) M) hk
    exact insM_l0 M z lt (x :: l).length hl L0 L1 h1 h2 h3 h4 l [x] k (by simp only [List.length_cons, List.length_nil]; omega) hk2
/-- a place that is looked for from the right, and what stands there behind -/
theorem insM_scan {α β : Type} (M : Nat) (z x : α) (lt : α → α → Bool) (O : List α) (L : Nat → Int → Option β) (K : Nat → Nat → Option β)
    (h1 : ∀ k (j : Nat), M ≤ k → 0 < j → j ≤ O.length → L (k + 1) (j : Int) = if lt x (O.getD (j - 1) z) = true then L k ((j - 1 : Nat) : Int) else K k j) (h2 : ∀ k, L (k + 1) 0 = K k 0) :
    ∀ (j k : Nat), j ≤ O.length → j + M < k → ∃ k' j', k ≤ k' + j + 1 ∧ j' ≤ j ∧ L k (j : Int) = K k' j' ∧ O.take j' ++ x :: O.drop j' = insB lt (O.take j).reverse x ++ O.drop j := by
  intro j
  induction j with
  | zero =>
    intro k _ hk
    obtain ⟨k, rfl, _⟩ := succ_of hk
    exact ⟨k, 0, by omega, by omega, h2 k, by simp [insB]⟩
  | succ j ih =>
    intro k hj hk
    obtain ⟨k, rfl, hk⟩ := succ_of hk
    have hlt : j < O.length := by omega
    have ht : (O.take (j + 1)).reverse = O.getD j z :: (O.take j).reverse := by
      rw [List.take_add_one, List.getElem?_eq_getElem hlt, List.getD_eq_getElem?_getD, List.getElem?_eq_getElem hlt]; simp
    have hd : O.drop j = O.getD j z :: O.drop (j + 1) := drop_step hlt z
    rw [h1 k (j + 1) (by omega) (by omega) hj, Nat.add_sub_cancel]
    by_cases g : lt x (O.getD j z) = true
    · rw [if_pos g]
      obtain ⟨k', j', a, b, c, d⟩ := ih k (by omega) (by omega)
      refine ⟨k', j', by omega, by omega, c, ?_⟩
      rw [d, ht, insB, if_pos g, hd, List.append_assoc]; rfl
    · rw [if_neg g]
      refine ⟨k, j + 1, by omega, by omega, rfl, ?_⟩
      rw [ht, insB, if_neg g]
      have e : (O.getD j z :: (O.take j).reverse).reverse = O.take (j + 1) := by rw [← ht, List.reverse_reverse]
      rw [e, List.append_assoc]; rfl
theorem insM_scan_all {α β : Type} (M : Nat) (z x : α) (lt : α → α → Bool) (O : List α) (L : Nat → Int → Option β) (K : Nat → Nat → Option β)
    (h1 : ∀ k (j : Nat), M ≤ k → 0 < j → j ≤ O.length → L (k + 1) (j : Int) = if lt x (O.getD (j - 1) z) = true then L k ((j - 1 : Nat) : Int) else K k j) (h2 : ∀ k, L (k + 1) 0 = K k 0) {k : Nat} (hk : O.length + M < k) :
    ∃ k' j', k ≤ k' + O.length + 1 ∧ j' ≤ O.length ∧ L k (O.length : Int) = K k' j' ∧ O.take j' ++ x :: O.drop j' = insB lt O.reverse x := by
  obtain ⟨k', j', a, b, c, d⟩ := insM_scan M z x lt O L K h1 h2 O.length k (by omega) hk
  refine ⟨k', j', a, b, c, ?_⟩
  rw [d, List.take_of_length_le (by omega), List.drop_eq_nil_of_le (by omega), List.append_nil]
/-- A loop that compares a row with itself. -/
theorem refl_loop {α : Type} (L : Nat → List α → List α → Int → Option Bool) (l : List α) (hb : l.length ≤ 9223372036854775806)
    (hs : ∀ k (i : Nat), i < l.length → L (k + 1) l l i = L k l l (wrap64 ((i : Int) + 1))) (he : ∀ k (i : Nat), l.length ≤ i → L (k + 1) l l i = some true) :
    ∀ n k (i : Nat), i + n = l.length → n < k → L k l l i = some true := by
  intro n
  induction n with
  | zero =>
    intro k i hi hk
    obtain ⟨k, rfl, _⟩ := succ_of hk
    exact he k i (by omega)
  | succ n ih =>
    intro k i hi hk
    obtain ⟨k, rfl, hk⟩ := succ_of hk
    rw [hs k i (by omega), wstep (show i < l.length by omega) (by omega)]
    exact ih k (i + 1) (by omega) (by omega)
theorem rd_nat (l : List Int) (i : Nat) : rd l (i : Int) = l.getD i 0 := by simp [rd]
theorem asc_ext : ∀ (a b : List Int), a.Pairwise (· < ·) → b.Pairwise (· < ·) → (∀ x, x ∈ a ↔ x ∈ b) → a = b := by
  intro a
  induction a with
  | nil =>
    intro b _ _ h
    cases b with
    | nil => rfl
    | cons y b => exact absurd ((h y).mpr List.mem_cons_self) (by simp)
  | cons x a ih =>
    intro b ha hb h
    cases b with
    | nil => exact absurd ((h x).mp List.mem_cons_self) (by simp)
    | cons y b =>
      rw [List.pairwise_cons] at ha hb
      have hxy : x = y := by
        rcases List.mem_cons.mp ((h x).mp List.mem_cons_self) with e | e
        · exact e
        · rcases List.mem_cons.mp ((h y).mpr List.mem_cons_self) with e2 | e2
          · exact e2.symm
          · have := hb.1 x e; have := ha.1 y e2; omega
      subst hxy
      congr 1
      refine ih b ha.2 hb.2 (fun z => ?_)
      have hz := h z
      rw [List.mem_cons, List.mem_cons] at hz
      constructor
      · intro e
        rcases hz.mp (.inr e) with q | q
        · have := ha.1 z e; omega
        · exact q
      · intro e
        rcases hz.mpr (.inr e) with q | q
        · have := hb.1 z e; omega
        · exact q
/-- how many elements at the front are less than n -/
def lessC (l : List Int) (n : Int) : Nat := (l.takeWhile fun y => decide (y < n)).length
theorem lessC_le (l : List Int) (n : Int) : lessC l n ≤ l.length := by
  unfold lessC; exact (List.takeWhile_sublist _).length_le
theorem lessC_lt {n : Int} : ∀ {l : List Int} {j : Nat}, j < lessC l n → l.getD j 0 < n := by
  intro l
  induction l with
  | nil => intro j h; simp [lessC] at h
  | cons x l ih =>
    intro j h
    unfold lessC at h
    by_cases g : x < n
    · rw [List.takeWhile_cons_of_pos (by simpa using g), List.length_cons] at h
      cases j with
      | zero => simpa using g
      | succ j => simp only [List.getD_cons_succ]; exact ih (by unfold lessC; omega)
    · rw [List.takeWhile_cons_of_neg (by simpa using g)] at h; simp at h
theorem lessC_at {l : List Int} {n : Int} (h : lessC l n < l.length) : ¬ l.getD (lessC l n) 0 < n := by
  induction l with
  | nil => simp at h
  | cons x l ih =>
    unfold lessC at h ⊢
    by_cases g : x < n
    · rw [List.takeWhile_cons_of_pos (by simpa using g)] at h ⊢
      simp only [List.length_cons, List.getD_cons_succ] at h ⊢
      exact ih (by unfold lessC; omega)
    · rw [List.takeWhile_cons_of_neg (by simpa using g)]
      simpa using g
theorem put_asc {l : List Int} (h : l.Pairwise (· < ·)) {n : Int} (hn : n ∉ l) : (l.take (lessC l n) ++ n :: l.drop (lessC l n)).Pairwise (· < ·) := by
  have hd : (l.drop (lessC l n)).Pairwise (· < ·) := h.sublist (List.drop_sublist _ _)
  have hgt : ∀ y ∈ l.drop (lessC l n), n < y := by
    intro y hy
    by_cases hlt : lessC l n < l.length
    · have h0 := lessC_at hlt
      rw [drop_step hlt 0] at hy hd
      have hm : l.getD (lessC l n) 0 ∈ l := by rw [List.getD_eq_getElem?_getD, List.getElem?_eq_getElem hlt]; exact List.getElem_mem hlt
      have hne : l.getD (lessC l n) 0 ≠ n := fun e => hn (e ▸ hm)
      rcases List.mem_cons.mp hy with e | e
      · omega
      · have := (List.pairwise_cons.mp hd).1 y e; omega
    · rw [List.drop_eq_nil_of_le (by omega)] at hy; simp at hy
  rw [List.pairwise_append]
  refine ⟨h.sublist (List.take_sublist _ _), List.pairwise_cons.mpr ⟨hgt, hd⟩, fun a ha b hb => ?_⟩
  have ha2 : a < n := by
    obtain ⟨i, hi, rfl⟩ := List.mem_iff_getElem.mp ha
    rw [List.length_take] at hi
    rw [List.getElem_take]
    have := lessC_lt (l := l) (n := n) (j := i) (by omega)
    rwa [List.getD_eq_getElem?_getD, List.getElem?_eq_getElem (by omega)] at this
  rcases List.mem_cons.mp hb with e | e
  · omega
  · have := hgt b e; omega
theorem put_mem (l : List Int) (n x : Int) : x ∈ l.take (lessC l n) ++ n :: l.drop (lessC l n) ↔ x = n ∨ x ∈ l := by
  have : x ∈ l ↔ x ∈ l.take (lessC l n) ∨ x ∈ l.drop (lessC l n) := by
    rw [← List.mem_append, List.take_append_drop]
  rw [List.mem_append, List.mem_cons, this]
  constructor
  · rintro (h | h | h)
    · exact .inr (.inl h)
    · exact .inl h
    · exact .inr (.inr h)
  · rintro (h | h | h)
    · exact .inr (.inl h)
    · exact .inl h
    · exact .inr (.inr h)
/-- each run of equals once -/
def dedS (l : List Int) : List Int := l.foldl (fun acc c => if acc.getLast? = some c then acc else acc ++ [c]) []
theorem dedS_snoc (l : List Int) (c : Int) : dedS (l ++ [c]) = if (dedS l).getLast? = some c then dedS l else dedS l ++ [c] := by
  unfold dedS
  rw [List.foldl_append]; rfl
theorem snoc_ind {P : List Int → Prop} (h0 : P []) (hs : ∀ l c, P l → P (l ++ [c])) (l : List Int) : P l := by
  have : ∀ r : List Int, P r.reverse := by
    intro r
    induction r with
    | nil => exact h0
    | cons c r ih => rw [List.reverse_cons]; exact hs _ _ ih
  have h := this l.reverse
  rwa [List.reverse_reverse] at h
theorem dedS_last (l : List Int) : (dedS l).getLast? = l.getLast? := by
  refine snoc_ind (P := fun l => (dedS l).getLast? = l.getLast?) rfl (fun l c _ => ?_) l
  rw [dedS_snoc]
  split
  · rename_i h; rw [h]; simp
  · simp
theorem dedS_mem (l : List Int) (x : Int) : x ∈ dedS l ↔ x ∈ l := by
  refine snoc_ind (P := fun l => x ∈ dedS l ↔ x ∈ l) (by simp [dedS]) (fun l c ih => ?_) l
  rw [dedS_snoc, List.mem_append, List.mem_singleton]
  split
  · rename_i h
    have hc : c ∈ dedS l := List.mem_of_getLast? h
    constructor
    · intro h2; exact .inl (ih.mp h2)
    · rintro (h2 | h2)
      · exact ih.mpr h2
      · rw [h2]; exact hc
  · rw [List.mem_append, List.mem_singleton, ih]
theorem dedS_asc (l : List Int) (h : l.Pairwise (· ≤ ·)) : (dedS l).Pairwise (· < ·) := by
  refine snoc_ind (P := fun l => l.Pairwise (· ≤ ·) → (dedS l).Pairwise (· < ·)) (by intro _; simp [dedS]) (fun l c ih => ?_) l h
  intro h
  rw [List.pairwise_append] at h
  have ih := ih h.1
  rw [dedS_snoc]
  split
  · exact ih
  · rename_i hc
    rw [List.pairwise_append]
    refine ⟨ih, List.pairwise_singleton _ _, fun a ha b hb => ?_⟩
    rw [List.mem_singleton] at hb
    subst hb
    have h1 := h.2.2 a ((dedS_mem l a).mp ha) b (List.mem_singleton.mpr rfl)
    rcases Int.lt_or_eq_of_le h1 with q | q
    · exact q
    · exfalso
      subst q
      -- a is the last one: all are at most it, and the order is strict
      cases hl : (dedS l).getLast? with
      | none => rw [List.getLast?_eq_none_iff] at hl; rw [hl] at ha; simp at ha
      | some d =>
        have hd : d ∈ dedS l := List.mem_of_getLast? hl
        have h2 := h.2.2 d ((dedS_mem l d).mp hd) a (List.mem_singleton.mpr rfl)
        have h3 : a ≤ d := by
          obtain ⟨ys, e⟩ := List.getLast?_eq_some_iff.mp hl
          rw [e] at ha ih
          rcases List.mem_append.mp ha with q | q
          · have := (List.pairwise_append.mp ih).2.2 a q d (List.mem_singleton.mpr rfl); omega
          · rw [List.mem_singleton] at q; omega
        have : d = a := by omega
        subst this
        exact hc hl
def ltI (a b : Int) : Bool := decide (a < b)
theorem isortI_sorted (l : List Int) : (isortB ltI [] l).Pairwise (· ≤ ·) := by
  have : ∀ (l P : List Int), P.Pairwise (· ≤ ·) → (isortB ltI P l).Pairwise (· ≤ ·) := by
    intro l
    induction l with
    | nil => intro P h; exact h
    | cons x l ih =>
      intro P h
      exact ih _ (insB_sorted ltI (· ≤ ·) (fun a b c h1 h2 => Int.le_trans h1 h2) P.reverse x (by rw [List.reverse_reverse]; exact h) (fun y _ h => by unfold ltI at h; have := of_decide_eq_true h; omega) (fun y _ h => by unfold ltI at h; have := of_decide_eq_false h; omega))
  exact this l [] List.Pairwise.nil
end Go.Proofs.Ytbfhphobnngeaaa.Pure

namespace Go.Proofs.Ytbfhphobnngeaaa.Pure
open Go Go.RowKit Go.Proofs Go.Proofs.Ytbfhphobnngeaaa.X Go.Proofs.YtbfhphobnngeaaaW.PrintWords Go.Proofs.YtbfhphobnngeaaaW.PrintLast
set_option linter.unusedVariables false
set_option linter.unusedSimpArgs false
theorem bitsLen_ex (k : Nat) (n : Int) (h : 0 ≤ n ∧ n < 256) : ∃ b, Faw.f (k + 1) n = some b := by
  have h64 : ∃ b, Fai.f (k + 1) n = some b := by
    unfold Fai.f
    rw [if_neg (by omega), Fai.j0]
    rw [if_neg (show ¬ n ≥ 65536 by omega)]
    rw [if_neg (show ¬ n ≥ 256 by omega)]
    rw [if_pos (show 0 ≤ n % 256 by omega)]
    rw [if_pos (show n % 256 < 256 by omega)]
    exact ⟨_, rfl⟩
  obtain ⟨b, hb⟩ := h64
  refine ⟨b, ?_⟩
  unfold Faw.f
  rw [hb]; rfl
theorem clr_take_ {α : Type} (l : List α) (k : Nat) (z : α) (h : k ≤ l.length) : (Cl.clr l k z).take k = l.take k := by
  unfold Cl.clr
  rw [List.take_append_of_le_length (by rw [List.length_take]; omega), List.take_of_length_le (by rw [List.length_take]; omega)]
theorem take_snoc {x : List Int} {n : Nat} (h : n < x.length) : x.take (n + 1) = x.take n ++ [x.getD n 0] := by
  rw [List.take_add_one, List.getElem?_eq_getElem h, List.getD_eq_getElem?_getD, List.getElem?_eq_getElem h]; rfl
theorem last_take {x : List Int} {n : Nat} (h0 : 1 ≤ n) (h : n ≤ x.length) : (x.take n).getLast? = some (x.getD (n - 1) 0) := by
  obtain ⟨m, rfl⟩ : ∃ m, n = m + 1 := ⟨n - 1, by omega⟩
  rw [take_snoc (by omega), Nat.add_sub_cancel]; simp
theorem ded_step {x : List Int} {n : Nat} (h0 : 1 ≤ n) (h : n < x.length) : dedS (x.take (n + 1)) = if x.getD n 0 = x.getD (n - 1) 0 then dedS (x.take n) else dedS (x.take n) ++ [x.getD n 0] := by
  rw [take_snoc h, dedS_snoc, dedS_last, last_take h0 (by omega)]
  by_cases g : x.getD n 0 = x.getD (n - 1) 0
  · rw [if_pos g, if_pos (by rw [g])]
  · rw [if_neg g, if_neg (fun e => g (Option.some.inj e).symm)]
theorem cmp_l1 {x : List Int} (hs : x.length ≤ 1048576) (j : Nat) : ∀ (m k i o : Nat) (s : List Int), j + i + m = x.length → m < k → 1 ≤ i → s.length = x.length → o ≤ j + i → s.take o = dedS (x.take (j + i)) → Fi.l1 k s (o : Int) (x.drop j) (i : Int) = some (dedS x) := by
  intro m
  induction m with
  | zero =>
    intro k i o s hi hk h1 hl ho ht
    obtain ⟨k, rfl, _⟩ := succ_of hk
    have hd : (x.drop j).length = x.length - j := List.length_drop
    rw [Fi.l1, if_neg (by omega), if_pos (by omega), if_pos (by omega), Int.toNat_natCast, clr_take_ _ _ _ (by omega), ht, List.take_of_length_le (by omega)]
  | succ m ih =>
    intro k i o s hi hk h1 hl ho ht
    obtain ⟨k, rfl, _⟩ := succ_of hk
    have hd : (x.drop j).length = x.length - j := List.length_drop
    have hr : ∀ q : Nat, rd (x.drop j) (q : Int) = x.getD (j + q) 0 := by
      intro q
      rw [rd_nat, List.getD_eq_getElem?_getD, List.getD_eq_getElem?_getD, List.getElem?_drop]
    have hn := ded_step (x := x) (n := j + i) (by omega) (by omega)
    rw [Fi.l1, if_pos (by omega), if_pos (by omega), w64 (x := (i : Int) - 1) (by omega) (by omega), if_pos (by omega), if_pos (by omega), show (i : Int) - 1 = ((i - 1 : Nat) : Int) by omega, hr, hr, wstep (n := x.length) (i := i) (by omega) (by omega)]
    rw [show j + (i - 1) = j + i - 1 by omega]
    by_cases g : x.getD (j + i) 0 = x.getD (j + i - 1) 0
    · rw [if_pos g] at hn ⊢
      exact ih k (i + 1) o s (by omega) (by omega) (by omega) hl (by omega) (by rw [show j + (i + 1) = j + i + 1 by omega, hn]; exact ht)
    · rw [if_neg g] at hn ⊢
      rw [if_pos (by omega), if_pos (by omega), wstep (n := x.length) (i := o) (by omega) (by omega)]
      refine ih k (i + 1) (o + 1) _ (by omega) (by omega) (by omega) (by rw [List.length_set]; exact hl) (by omega) ?_
      rw [show j + (i + 1) = j + i + 1 by omega, hn, ← ht, Int.toNat_natCast, List.take_add_one, List.take_set_of_le (by omega), List.getElem?_set_self (by omega)]; rfl
theorem cmp_l0 {x : List Int} (hs : x.length ≤ 1048576) : ∀ (m k i : Nat), i + m = x.length → m + x.length < k → 1 ≤ i → x.take i = dedS (x.take i) → Fi.l0 k x (i : Int) = some (dedS x) := by
  intro m
  induction m with
  | zero =>
    intro k i hi hk h1 ho
    obtain ⟨k, rfl, _⟩ := succ_of hk
    rw [Fi.l0, if_neg (by omega)]
    rw [List.take_of_length_le (by omega)] at ho
    rw [← ho]
  | succ m ih =>
    intro k i hi hk h1 ho
    obtain ⟨k, rfl, _⟩ := succ_of hk
    have hn := ded_step (x := x) (n := i) h1 (by omega)
    rw [Fi.l0, if_pos (by omega), if_pos (by omega), w64 (x := (i : Int) - 1) (by omega) (by omega), if_pos (by omega), if_pos (by omega), show (i : Int) - 1 = ((i - 1 : Nat) : Int) by omega, rd_nat, rd_nat]
    by_cases g : x.getD i 0 = x.getD (i - 1) 0
    · rw [if_pos g] at hn ⊢
      rw [if_pos (by omega), Int.toNat_natCast]
      have := cmp_l1 hs i m k 1 i x (by omega) (by omega) (by omega) rfl (by omega) (by rw [hn]; exact ho)
      simpa using this
    · rw [if_neg g] at hn ⊢
      rw [wstep (n := x.length) (by omega) (by omega)]
      exact ih k (i + 1) (by omega) (by omega) (by omega) (by rw [hn, ← ho, take_snoc (by omega)])
theorem compact_eq {k : Nat} {x : List Int} (hs : x.length ≤ 1048576) (hk : 2 * x.length < k) : Fi.f k x = some (dedS x) := by
  unfold Fi.f
  by_cases g : (x.length : Int) < 2
  · rw [if_pos g]
    cases x with
    | nil => rfl
    | cons a x =>
      cases x with
      | nil => rfl
      | cons b x => simp only [List.length_cons] at g; omega
  · rw [if_neg g]
    refine cmp_l0 hs (x.length - 1) k 1 (by omega) (by omega) (by omega) ?_
    cases x with
    | nil => rfl
    | cons a x => simp [dedS]
end Go.Proofs.Ytbfhphobnngeaaa.Pure

namespace Go.Proofs.Ytbfhphobnngeaaa.Pure
open Go Go.RowKit Go.Proofs Go.Proofs.YtbfhphobnngeaaaW.PrintWords Go.Proofs.YtbfhphobnngeaaaW.PrintLast
set_option linter.unusedVariables false
set_option linter.unusedSimpArgs false
/-- A loop that looks for an element. -/
theorem any_loop {α : Type} (L : Nat → Int → Option Bool) (q : α → Bool) (d : α) (l : List α) (hb : l.length ≤ 9223372036854775806)
    (hs : ∀ k (i : Nat), i < l.length → L (k + 1) i = if q (l.getD i d) = true then some true else L k (wrap64 ((i : Int) + 1))) (he : ∀ k (i : Nat), l.length ≤ i → L (k + 1) i = some false) :
    ∀ n k (i : Nat), i + n = l.length → n < k → L k i = some ((l.drop i).any q) := by
  intro n
  induction n with
  | zero =>
    intro k i hi hk
    obtain ⟨k, rfl, _⟩ := succ_of hk
    rw [he k i (by omega), List.drop_eq_nil_of_le (by omega)]; rfl
  | succ n ih =>
    intro k i hi hk
    obtain ⟨k, rfl, hk⟩ := succ_of hk
    rw [hs k i (by omega), wstep (show i < l.length by omega) (by omega), drop_step (by omega) d, List.any_cons, ih k (i + 1) (by omega) (by omega)]
    cases q (l.getD i d) <;> simp
end Go.Proofs.Ytbfhphobnngeaaa.Pure

namespace Go.Proofs.Ytbfhphobnngeaaa.Pure
open Go Go.RowKit Go.Proofs Go.Proofs.Ytbfhphobnngeaaa.X Go.Proofs.YtbfhphobnngeaaaW.PrintWords Go.Proofs.YtbfhphobnngeaaaW.PrintLast
set_option linter.unusedVariables false
set_option linter.unusedSimpArgs false
theorem hasS_eq {k : Nat} {t : List Int} (hk : t.length < k) (hl : t.length ≤ 1048576) (v : Int) : Fag.f k t v = some (t.any fun y => decide (y = v)) := by
  unfold Fag.f
  have := any_loop (fun k i => Fag.l0 k t v i) (fun y => decide (y = v)) 0 t (by omega)
    (fun k i h => by
      simp only [Fag.l0]
      rw [if_pos (by omega), if_pos (by omega), rd_nat]
      by_cases g : t.getD i 0 = v
      · rw [if_pos g, if_pos (decide_eq_true g)]
      · rw [if_neg g, if_neg (by simpa using g)])
    (fun k i h => by simp only [Fag.l0]; rw [if_neg (by omega)])
    t.length k 0 (by omega) hk
  simpa using this
end Go.Proofs.Ytbfhphobnngeaaa.Pure

namespace Go.Proofs.Ytbfhphobnngeaaa.Pure
open Go Go.RowKit Go.Proofs Go.Proofs.YtbfhphobnngeaaaW.PrintWords Go.Proofs.YtbfhphobnngeaaaW.PrintLast
set_option linter.unusedVariables false
set_option linter.unusedSimpArgs false
/-- q at all numbers from i on, n of them -/
def allR (q : Nat → Bool) (i n : Nat) : Bool := (List.range' i n).all q
theorem allR_iff {q : Nat → Bool} {i n : Nat} : allR q i n = true ↔ ∀ j, i ≤ j → j < i + n → q j = true := by
  unfold allR
  rw [List.all_eq_true]
  exact ⟨fun h j h1 h2 => h j (List.mem_range'_1.mpr ⟨h1, h2⟩), fun h j hj => h j (List.mem_range'_1.mp hj).1 (List.mem_range'_1.mp hj).2⟩
theorem allR_succ (q : Nat → Bool) (i n : Nat) : allR q i (n + 1) = (q i && allR q (i + 1) n) := by
  unfold allR; rw [List.range'_succ, List.all_cons]
/-- A loop that asks of all numbers, from i on. -/
theorem idx_loop (L : Nat → Int → Option Bool) (q : Nat → Bool) (i0 n0 : Nat) (e : Bool) (hb : n0 ≤ 9223372036854775806)
    (hs : ∀ k (i : Nat), i0 ≤ i → i < n0 → L (k + 1) i = if q i = true then L k (wrap64 ((i : Int) + 1)) else some false) (he : ∀ k (i : Nat), n0 ≤ i → L (k + 1) i = some e) :
    ∀ n k (i : Nat), i0 ≤ i → i + n = n0 → n < k → L k i = some (allR q i n && e) := by
  intro n
  induction n with
  | zero =>
    intro k i h0 hi hk
    obtain ⟨k, rfl, _⟩ := succ_of hk
    rw [he k i (by omega)]; simp [allR]
  | succ n ih =>
    intro k i h0 hi hk
    obtain ⟨k, rfl, hk⟩ := succ_of hk
    rw [hs k i h0 (by omega), wstep (show i < n0 by omega) (by omega), allR_succ, ih k (i + 1) (by omega) (by omega) (by omega)]
    cases q i <;> simp
theorem all_getD {α : Type} {p : α → Bool} {l : List α} (d : α) : l.all p = true ↔ ∀ j, j < l.length → p (l.getD j d) = true := by
  rw [List.all_eq_true]
  constructor
  · intro h j hj
    rw [List.getD_eq_getElem?_getD, List.getElem?_eq_getElem hj]
    exact h _ (List.getElem_mem hj)
  · intro h x hx
    obtain ⟨j, hj, rfl⟩ := List.mem_iff_getElem.mp hx
    have := h j hj
    rwa [List.getD_eq_getElem?_getD, List.getElem?_eq_getElem hj] at this
end Go.Proofs.Ytbfhphobnngeaaa.Pure

namespace Go.Proofs.Ytbfhphobnngeaaa.Pure
open Go Go.RowKit Go.Proofs Go.Proofs.Ytbfhphobnngeaaa.X Go.Proofs.YtbfhphobnngeaaaW.PrintWords Go.Proofs.YtbfhphobnngeaaaW.PrintLast
set_option linter.unusedVariables false
set_option linter.unusedSimpArgs false
theorem l1In_eq (x a b : Int) : Fal.f x a b = some (decide (a ≤ x ∧ x ≤ b)) := by
  unfold Fal.f
  by_cases h1 : a ≤ x <;> simp [h1]
def sheetB (x : S61) : Bool := decide (1 ≤ x.f0 ∧ x.f0 ≤ 99) && (decide (0 ≤ x.f1 ∧ x.f1 ≤ 4000) && (decide (0 ≤ x.f2 ∧ x.f2 ≤ 12000) && (decide (0 ≤ x.f3 ∧ x.f3 ≤ x.f2) && decide (0 ≤ x.f4 ∧ x.f4 ≤ 12))))
theorem sheet_of {x : S61} (h : sheetB x = true) : (1 ≤ x.f0 ∧ x.f0 ≤ 99) ∧ (0 ≤ x.f1 ∧ x.f1 ≤ 4000) ∧ (0 ≤ x.f2 ∧ x.f2 ≤ 12000) ∧ (0 ≤ x.f3 ∧ x.f3 ≤ x.f2) ∧ (0 ≤ x.f4 ∧ x.f4 ≤ 12) := by
  simpa [sheetB] using h
def keyW (x : S61) : Int := 100 * x.f1 + x.f0
/-- the one before has the lower key -/
def ascSh (l : List S61) (j : Nat) : Bool := decide (keyW (l.getD (j - 1) z61) < keyW (l.getD j z61))
def sheetsB (l : List S61) : Bool := decide (l.length ≤ 12) && (l.all sheetB && allR (ascSh l) 1 (l.length - 1))
theorem rdSh_nat (l : List S61) (i : Nat) : rd_T61 l (i : Int) = l.getD i z61 := by simp [rd_T61]
theorem l14One_eq (x : S61) : Fau.f x.f0 x.f1 x.f2 x.f3 x.f4 = some (sheetB x) := by
  simp only [Fau.f, Fba.f, l1In_eq, Option.bind_some, sheetB]
  generalize decide (1 ≤ x.f0 ∧ x.f0 ≤ 99) = p1; generalize decide (0 ≤ x.f1 ∧ x.f1 ≤ 4000) = p2; generalize decide (0 ≤ x.f2 ∧ x.f2 ≤ 12000) = p3; generalize decide (0 ≤ x.f3 ∧ x.f3 ≤ x.f2) = p4; generalize decide (0 ≤ x.f4 ∧ x.f4 ≤ 12) = p5
  cases p1 <;> cases p2 <;> cases p3 <;> cases p4 <;> rfl
theorem IsWorkSheet_eq (x : S61) : Fas.f x.f0 x.f1 x.f2 x.f3 x.f4 = some (sheetB x) := by
  simp only [Fas.f, Fav.f, Faz.f, in_eq, Option.bind_some, sheetB]
  generalize decide (1 ≤ x.f0 ∧ x.f0 ≤ 99) = p1; generalize decide (0 ≤ x.f1 ∧ x.f1 ≤ 4000) = p2; generalize decide (0 ≤ x.f2 ∧ x.f2 ≤ 12000) = p3; generalize decide (0 ≤ x.f3 ∧ x.f3 ≤ x.f2) = p4; generalize decide (0 ≤ x.f4 ∧ x.f4 ≤ 12) = p5
  cases p1 <;> cases p2 <;> cases p3 <;> cases p4 <;> rfl
def badSh (l : List S61) (j : Nat) : Bool := decide ((l.getD (j - 1) z61).f1 > (l.getD j z61).f1) || (decide ((l.getD (j - 1) z61).f1 = (l.getD j z61).f1) && decide ((l.getD (j - 1) z61).f0 ≥ (l.getD j z61).f0))
theorem bad_asc {l : List S61} (h : l.all sheetB = true) {j : Nat} (h1 : 1 ≤ j) (h2 : j < l.length) : badSh l j = !ascSh l j := by
  rw [all_getD z61] at h
  have ha := sheet_of (h (j - 1) (by omega))
  have hb := sheet_of (h j h2)
  unfold badSh ascSh keyW
  generalize l.getD (j - 1) z61 = a at *
  generalize l.getD j z61 = b at *
  have hN : ¬ (100 * a.f1 + a.f0 < 100 * b.f1 + b.f0) ↔ (a.f1 > b.f1 ∨ (a.f1 = b.f1 ∧ a.f0 ≥ b.f0)) := by omega
  rw [Bool.eq_iff_iff]
  simp only [Bool.or_eq_true, Bool.and_eq_true, decide_eq_true_eq, Bool.not_eq_true', decide_eq_false_iff_not]
  exact hN.symm
theorem sheetsS_eq {k : Nat} {l : List S61} (hk : l.length < k) (hl : l.length ≤ 1048576) : Fk.f k l = some (sheetsB l) := by
  unfold Fk.f
  have h := idx_loop (fun k i => Fk.l0 k l i) (fun j => sheetB (l.getD j z61) && (decide (j = 0) || !badSh l j)) 0 l.length (decide ((l.length : Int) ≤ 12)) (by omega)
    (fun k i _ h1 => by
      simp only [Fk.l0]
      rw [if_pos (by omega), if_pos (by omega), rdSh_nat, l14One_eq]
      simp only [Option.bind_some]
      cases sheetB (l.getD i z61)
      · simp
      by_cases hi : i = 0
      · subst hi; simp
      · rw [if_pos rfl, if_pos (by omega), w64 (x := (i : Int) - 1) (by omega) (by omega), if_pos (by omega), if_pos (by omega), show (i : Int) - 1 = ((i - 1 : Nat) : Int) by omega, rdSh_nat]
        unfold badSh
        generalize l.getD (i - 1) z61 = a
        generalize l.getD i z61 = b
        by_cases g : a.f1 > b.f1
        · simp [g, hi]
        · by_cases g2 : a.f1 = b.f1
          · by_cases g3 : a.f0 ≥ b.f0
            · simp [g2, g3, hi]
            · simp [g2, g3, hi]
          · simp [g, g2, hi])
    (fun k i h1 => by simp only [Fk.l0]; rw [if_neg (by omega)])
    l.length k 0 (by omega) (by omega) hk
  refine h.trans (congrArg some ?_)
  unfold sheetsB
  have e1 : decide ((l.length : Int) ≤ 12) = decide (l.length ≤ 12) := by
    congr 1; exact propext ⟨fun h => by omega, fun h => by omega⟩
  rw [e1, Bool.and_comm]
  congr 1
  rw [Bool.eq_iff_iff, Bool.and_eq_true, allR_iff, allR_iff]
  constructor
  · intro h
    have ha : l.all sheetB = true := by
      rw [all_getD z61]
      intro j hj
      have := h j (by omega) (by omega)
      rw [Bool.and_eq_true] at this; exact this.1
    refine ⟨ha, fun j h1 h2 => ?_⟩
    have := h j (by omega) (by omega)
    rw [Bool.and_eq_true, decide_eq_false (show ¬ j = 0 by omega), Bool.false_or, bad_asc ha h1 (by omega), Bool.not_not] at this
    exact this.2
  · intro h j h1 h2
    rw [Bool.and_eq_true]
    refine ⟨(all_getD z61).mp h.1 j (by omega), ?_⟩
    by_cases hj : j = 0
    · rw [decide_eq_true hj]; rfl
    · rw [bad_asc h.1 (by omega) (by omega), Bool.not_not, h.2 j (by omega) (by omega), Bool.or_true]
theorem sheets_of {l : List S61} (h : sheetsB l = true) : l.length ≤ 12 ∧ ∀ x ∈ l, sheetB x = true := by
  simp only [sheetsB, Bool.and_eq_true, decide_eq_true_eq, List.all_eq_true] at h
  exact ⟨h.1, h.2.1⟩
theorem sheetsI_eq {k : Nat} {l : List S61} (hk : l.length < k) (hl : l.length ≤ 1048576) : Fo.f k l = some (sheetsB l) := by
  unfold Fo.f
  by_cases h10 : (12 : Int) < l.length
  · rw [if_neg (by omega)]; unfold sheetsB; simp [show ¬ l.length ≤ 12 by omega]
  rw [if_pos (by omega)]
  simp only [Fam.f]
  rw [Ho.allO_eq (q := sheetB) (fun x _ => IsWorkSheet_eq x)]
  simp only [Option.bind_some]
  unfold sheetsB
  rw [show decide (l.length ≤ 12) = true by simp; omega]
  cases hall : l.all sheetB
  · simp
  simp only [if_true, Bool.true_and]
  by_cases h0 : l.length = 0
  · obtain ⟨k, rfl, _⟩ := succ_of hk
    simp only [Ff.f, Ff.l0]
    rw [if_neg (by omega), h0]; simp [allR]
  have hx := (all_getD z61).mp hall
  have h := idx_loop (fun k i => Ff.l0 k l i) (ascSh l) 1 l.length true (by omega)
    (fun k i h0 h1 => by
      have ha := sheet_of (hx (i - 1) (by omega))
      have hb := sheet_of (hx i h1)
      simp only [Ff.l0, Fap.f, Option.bind_some]
      rw [if_pos (by omega), w64 (x := (i : Int) - 1) (by omega) (by omega), if_pos (by omega), if_pos (by omega), show (i : Int) - 1 = ((i - 1 : Nat) : Int) by omega, rdSh_nat, rdSh_nat, if_pos (by omega)]
      rw [w64 (x := 100 * (l.getD (i - 1) z61).f1) (by omega) (by omega), w64 (x := 100 * (l.getD i z61).f1) (by omega) (by omega), w64 (x := 100 * (l.getD (i - 1) z61).f1 + _) (by omega) (by omega), w64 (x := 100 * (l.getD i z61).f1 + _) (by omega) (by omega)]
      unfold ascSh keyW
      by_cases hc : 100 * (l.getD (i - 1) z61).f1 + (l.getD (i - 1) z61).f0 < 100 * (l.getD i z61).f1 + (l.getD i z61).f0
      · rw [if_neg (by omega), decide_eq_true hc, if_pos rfl]
      · rw [if_pos (by omega), decide_eq_false hc, if_neg (by simp)])
    (fun k i h1 => by simp only [Ff.l0]; rw [if_neg (by omega)])
    (l.length - 1) k 1 (by omega) (by omega) (by omega)
  unfold Ff.f
  rw [show ((1 : Nat) : Int) = 1 from rfl] at h
  rw [h]; simp
/-- two sheets of one weaver on one day are one -/
theorem uniqSh {l : List S61} (h : sheetsB l = true) {i j : Nat} (hi : i < l.length) (hj : j < l.length) (e0 : (l.getD i z61).f0 = (l.getD j z61).f0) (e1 : (l.getD i z61).f1 = (l.getD j z61).f1) : i = j := by
  have hlt : ∀ n i, i + n + 1 < l.length → keyW (l.getD i z61) < keyW (l.getD (i + n + 1) z61) := by
    simp only [sheetsB, Bool.and_eq_true] at h
    have h := h.2.2
    rw [allR_iff] at h
    intro n
    induction n with
    | zero =>
      intro i hi
      have := h (i + 1) (by omega) (by omega)
      unfold ascSh at this
      simpa using this
    | succ n ih =>
      intro i hi
      have h1 := ih i (by omega)
      have h2 := h (i + (n + 1) + 1) (by omega) (by omega)
      unfold ascSh at h2
      have h2 := of_decide_eq_true h2
      rw [show i + (n + 1) + 1 - 1 = i + n + 1 by omega] at h2
      omega
  have e : keyW (l.getD i z61) = keyW (l.getD j z61) := by unfold keyW; rw [e0, e1]
  by_cases g : i < j
  · have := hlt (j - i - 1) i (by omega)
    rw [show i + (j - i - 1) + 1 = j by omega] at this
    omega
  · by_cases g2 : j < i
    · have := hlt (i - j - 1) j (by omega)
      rw [show j + (i - j - 1) + 1 = i by omega] at this
      omega
    · omega
def maxOne (n : Int) : Int := if n > 1 then n else 1
/-- wrong knots of a weaver, and all of them, one at least -/
def wrongV (w : Int) (x : S61) : Int := if x.f0 = w then x.f3 else 0
def knotsV (w : Int) (x : S61) : Int := if x.f0 = w then x.f2 else 0
def wrongM (l : List S61) (w : Int) : Int := (l.map (wrongV w)).sum
def knotsM14 (l : List S61) (w : Int) : Int := maxOne ((l.map (knotsV w)).sum)
theorem sum2_loop {β : Type} (L : Nat → Int → Int → Int → Option β) (R : Int → Int → Option β) (w : Int) (l : List S61) (hl : l.length ≤ 12) (hx : ∀ x ∈ l, sheetB x = true)
    (hs : ∀ k (a b : Int) (i : Nat), i < l.length → L (k + 1) a b (i : Int) = if (l.getD i z61).f0 = w then L k (wrap64 (a + (l.getD i z61).f3)) (wrap64 (b + (l.getD i z61).f2)) (wrap64 ((i : Int) + 1)) else L k a b (wrap64 ((i : Int) + 1)))
    (he : ∀ k (a b : Int), L (k + 1) a b (l.length : Int) = R a b) :
    ∀ (m k i : Nat) (a b : Int), i + m = l.length → m < k → (0 ≤ a ∧ a ≤ 12000 * i) → (0 ≤ b ∧ b ≤ 12000 * i) → L k a b (i : Int) = R (a + ((l.drop i).map (wrongV w)).sum) (b + ((l.drop i).map (knotsV w)).sum) := by
  intro m
  induction m with
  | zero =>
    intro k i a b hi hk ha hb
    obtain ⟨k, rfl, _⟩ := succ_of hk
    obtain rfl : i = l.length := by omega
    rw [he, List.drop_eq_nil_of_le (by omega)]; simp
  | succ m ih =>
    intro k i a b hi hk ha hb
    obtain ⟨k, rfl, _⟩ := succ_of hk
    have hlt : i < l.length := by omega
    have hm : l.getD i z61 ∈ l := by rw [List.getD_eq_getElem?_getD, List.getElem?_eq_getElem hlt]; exact List.getElem_mem hlt
    have hb2 := sheet_of (hx _ hm)
    rw [hs k a b i hlt, drop_step hlt z61, List.map_cons, List.map_cons, List.sum_cons, List.sum_cons, wstep hlt (by omega)]
    unfold wrongV knotsV
    by_cases g : (l.getD i z61).f0 = w
    · rw [if_pos g, if_pos g, if_pos g, w64 (x := a + _) (by omega) (by omega), w64 (x := b + _) (by omega) (by omega), ih k (i + 1) _ _ (by omega) (by omega) (by push_cast; omega) (by push_cast; omega)]
      unfold wrongV knotsV
      rw [Int.add_assoc, Int.add_assoc]
    · rw [if_neg g, if_neg g, if_neg g, ih k (i + 1) _ _ (by omega) (by omega) (by push_cast; omega) (by push_cast; omega)]
      unfold wrongV knotsV
      rw [Int.zero_add, Int.zero_add]
theorem errorsS_eq {k : Nat} {l : List S61} (hk : 20 < k) (hb : sheetsB l = true) (w : Int) : Fy.f k l w = some (wrongM l w, knotsM14 l w) := by
  obtain ⟨h12, hx⟩ := sheets_of hb
  unfold Fy.f
  have h := sum2_loop (fun k a b i => Fy.l0 k l w a b i) (fun a b => (Fbb.f 1 b).bind fun t => some (a, t)) w l h12 hx
    (fun k a b i hi => by
      simp only [Fy.l0]
      rw [if_pos (by omega), if_pos (by omega)]
      simp only [rdSh_nat])
    (fun k a b => by simp only [Fy.l0]; rw [if_neg (by omega)])
    l.length k 0 0 0 (by omega) (by omega) (by omega) (by omega)
  rw [show ((0 : Nat) : Int) = 0 from rfl] at h
  rw [h]
  simp only [List.drop_zero, Int.zero_add, wrongM, knotsM14, maxOne, Fbb.f]
  generalize (l.map (knotsV w)).sum = n
  (repeat' split) <;> first | rfl | (simp only [Option.bind_some]; congr 2; omega) | omega
theorem tally_eq {k : Nat} {l : List S61} (hk : 20 < k) (hb : sheetsB l = true) (w : Int) : Fad.f k l w = some (knotsM14 l w, wrongM l w) := by
  obtain ⟨h12, hx⟩ := sheets_of hb
  unfold Fad.f
  have h := sum2_loop (fun k a b i => Fad.l0 k w b a l (l.length : Int) i) (fun a b => some (mx b 1, a)) w l h12 hx
    (fun k a b i hi => by
      simp only [Fad.l0]
      rw [if_pos (by omega), if_pos (by omega), if_pos (by omega)]
      simp only [rdSh_nat])
    (fun k a b => by simp only [Fad.l0]; rw [if_neg (by omega)])
    l.length k 0 0 0 (by omega) (by omega) (by omega) (by omega)
  rw [show ((0 : Nat) : Int) = 0 from rfl] at h
  rw [h]
  simp only [List.drop_zero, Int.zero_add, wrongM, knotsM14]
  congr 2
  unfold mx maxOne
  (repeat' split) <;> omega
theorem err_bd {l : List S61} (hb : sheetsB l = true) (w : Int) : (0 ≤ wrongM l w ∧ wrongM l w ≤ 144000) ∧ (1 ≤ knotsM14 l w ∧ knotsM14 l w ≤ 144000) := by
  obtain ⟨h12, hx⟩ := sheets_of hb
  have hs : ∀ (v : S61 → Int) (l : List S61), (∀ x ∈ l, 0 ≤ v x ∧ v x ≤ 12000) → 0 ≤ (l.map v).sum ∧ (l.map v).sum ≤ 12000 * l.length := by
    intro v l
    induction l with
    | nil => intro _; simp
    | cons x l ih =>
      intro h
      have := ih (fun y hy => h y (List.mem_cons_of_mem _ hy))
      have := h x List.mem_cons_self
      simp only [List.map_cons, List.sum_cons, List.length_cons]
      push_cast; omega
  have h1 := hs (wrongV w) l (fun x hm => by have := sheet_of (hx x hm); unfold wrongV; split <;> omega)
  have h2 := hs (knotsV w) l (fun x hm => by have := sheet_of (hx x hm); unfold knotsV; split <;> omega)
  unfold wrongM knotsM14 maxOne
  refine ⟨by omega, ?_⟩
  split <;> omega
/-- the weavers, ascending -/
def weaversM (l : List S61) : List Int := dedS (isortB ltI [] (l.map fun x => x.f0))
theorem weaversM_asc (l : List S61) : (weaversM l).Pairwise (· < ·) := dedS_asc _ (isortI_sorted _)
theorem weaversM_mem (l : List S61) (w : Int) : w ∈ weaversM l ↔ w ∈ l.map fun x => x.f0 := by
  unfold weaversM
  rw [dedS_mem, (isortB_perm ltI (l.map fun x => x.f0) []).mem_iff, List.nil_append]
theorem dedS_len (x : List Int) : (dedS x).length ≤ x.length := by
  refine snoc_ind (P := fun x => (dedS x).length ≤ x.length) (by simp [dedS]) (fun l c ih => ?_) x
  rw [dedS_snoc]
  split
  · rw [List.length_append]; omega
  · simp only [List.length_append, List.length_singleton]; omega
theorem weaversM_len (l : List S61) : (weaversM l).length ≤ l.length := by
  have h1 := dedS_len (isortB ltI [] (l.map fun x => x.f0))
  have h2 := (isortB_perm ltI (l.map fun x => x.f0) []).length_eq
  rw [List.nil_append, List.length_map] at h2
  unfold weaversM; omega
theorem put_eq {k : Nat} {l : List Int} {n : Int} (hk : l.length < k) (hl : l.length ≤ 1048576) (hn : n ∉ l) : Fab.f k l n = some (l.take (lessC l n) ++ n :: l.drop (lessC l n)) := by
  unfold Fab.f
  have hle := lessC_le l n
  have : ∀ (m k i : Nat), i + m = lessC l n → m + (l.length - lessC l n) < k → Fab.l0 k l n (i : Int) = some (l.take (lessC l n) ++ n :: l.drop (lessC l n)) := by
    intro m
    induction m with
    | zero =>
      intro k i hi hk
      obtain ⟨k, rfl, _⟩ := succ_of (show 0 < k by omega)
      obtain rfl : i = lessC l n := by omega
      simp only [Fab.l0, Option.bind_some, rd_nat, Int.toNat_natCast, List.length_nil, List.nil_append, List.length_append, List.length_take, List.length_drop, List.length_singleton]
      by_cases g : lessC l n < l.length
      · have h1 := lessC_at g
        have hm : l.getD (lessC l n) 0 ∈ l := by rw [List.getD_eq_getElem?_getD, List.getElem?_eq_getElem g]; exact List.getElem_mem g
        rw [if_pos (by omega), if_pos (by omega), if_neg h1, if_neg (show ¬ l.getD (lessC l n) 0 = n from fun e => hn (e ▸ hm)), if_pos (by omega), if_pos (by omega), if_pos (by omega), if_pos (by omega)]
        simp only [List.append_assoc, List.singleton_append]
      · rw [if_neg (by omega), if_pos (by omega), if_pos (by omega), if_pos (by omega), if_pos (by omega), if_pos (by omega)]
        simp only [List.append_assoc, List.singleton_append]
    | succ m ih =>
      intro k i hi hk
      obtain ⟨k, rfl, _⟩ := succ_of (show 0 < k by omega)
      have h1 := lessC_lt (l := l) (n := n) (j := i) (by omega)
      simp only [Fab.l0, rd_nat]
      rw [if_pos (by omega), if_pos (by omega), if_pos h1, wstep (n := l.length) (by omega) (by omega)]
      exact ih k (i + 1) (by omega) (by omega)
  exact this (lessC l n) k 0 (by omega) (by omega)
theorem weaversS_loop {l : List S61} (hl : l.length ≤ 12) : ∀ (m k i : Nat) (acc : List Int), i + m = l.length → m + 40 < k → acc.length ≤ i → acc.Pairwise (· < ·) → (∀ w, w ∈ acc ↔ w ∈ (l.take i).map fun x => x.f0) → ∃ r, Fw.l0 k l acc (i : Int) = some r ∧ r.Pairwise (· < ·) ∧ ∀ w, w ∈ r ↔ w ∈ l.map fun x => x.f0 := by
  intro m
  induction m with
  | zero =>
    intro k i acc hi hk ha hp hm
    obtain ⟨k, rfl, _⟩ := succ_of (show 0 < k by omega)
    rw [Fw.l0, if_neg (by omega)]
    rw [List.take_of_length_le (by omega)] at hm
    exact ⟨acc, rfl, hp, hm⟩
  | succ m ih =>
    intro k i acc hi hk ha hp hm
    obtain ⟨k, rfl, _⟩ := succ_of (show 0 < k by omega)
    have hlt : i < l.length := by omega
    have ht : (l.take (i + 1)).map (fun x => x.f0) = (l.take i).map (fun x => x.f0) ++ [(l.getD i z61).f0] := by
      rw [List.take_add_one, List.getElem?_eq_getElem hlt, List.getD_eq_getElem?_getD, List.getElem?_eq_getElem hlt, List.map_append]; rfl
    rw [Fw.l0, if_pos (by omega), if_pos (by omega), rdSh_nat, hasS_eq (k := k) (t := acc) (by omega) (by omega)]
    simp only [Option.bind_some]
    cases hc : (acc.any fun y => decide (y = (l.getD i z61).f0))
    · have hni : (l.getD i z61).f0 ∉ acc := by
        intro h
        rw [List.any_eq_false] at hc
        exact hc _ h (by simp)
      simp only [Bool.false_eq_true, if_false]
      rw [put_eq (k := k) (by omega) (by omega) hni, wstep hlt (by omega)]
      simp only [Option.bind_some]
      refine ih k (i + 1) _ (by omega) (by omega) ?_ (put_asc hp hni) (fun w => ?_)
      · have := lessC_le acc (l.getD i z61).f0
        rw [List.length_append, List.length_cons, List.length_take, List.length_drop]; omega
      · rw [put_mem, hm, ht, List.mem_append, List.mem_singleton]
        exact ⟨fun h => h.symm, fun h => h.symm⟩
    · rw [if_pos rfl, wstep hlt (by omega)]
      refine ih k (i + 1) acc (by omega) (by omega) (by omega) hp (fun w => ?_)
      rw [hm, ht, List.mem_append, List.mem_singleton]
      constructor
      · exact .inl
      · rintro (h | h)
        · exact h
        · rw [List.any_eq_true] at hc
          obtain ⟨y, hy, e⟩ := hc
          have e := of_decide_eq_true e
          rw [h, ← e]; exact (hm y).mp hy
theorem weaversS_eq {k : Nat} {l : List S61} (hk : 100 < k) (hl : l.length ≤ 12) : Fw.f k l = some (weaversM l) := by
  unfold Fw.f
  obtain ⟨r, e, h1, h2⟩ := weaversS_loop hl l.length k 0 [] (by omega) (by omega) (by simp) List.Pairwise.nil (fun w => by simp)
  rw [show ((0 : Nat) : Int) = 0 from rfl] at e
  rw [e, asc_ext r (weaversM l) h1 (weaversM_asc l) (fun w => by rw [h2, weaversM_mem])]
theorem insI_eq {k : Nat} {l : List Int} (hl : l.length ≤ 12) (hk : 300 ≤ k) : Fc.f k l 0 (l.length : Int) = some (isortB ltI [] l) := by
  unfold Fc.f
  rw [Int.zero_add]
  rw [show wrap64 1 = 1 from w64 (by omega) (by omega)]
  exact ins_eq 0 ltI l (by omega) (fun k s i => Fc.l0 k s 0 (l.length : Int) i) (fun k s i j => Fc.l1 k s 0 (l.length : Int) i j)
    (fun k s i j h0 h1 h2 => by
      simp only [Fc.l1]
      rw [w64 (x := (j : Int) - 1) (by omega) (by omega), if_pos (by omega), if_pos (by omega), if_pos (by omega), if_pos (by omega), if_pos (by omega), show (j : Int) - 1 = ((j - 1 : Nat) : Int) by omega]
      simp only [rd_nat, Fay.f, Fah.f, bne_self_eq_false, Option.bind_some, Int.toNat_natCast, Bool.false_eq_true, if_false]
      by_cases g : s.getD j 0 < s.getD (j - 1) 0
      · simp [ltI, g]
      · simp [ltI, g])
    (fun k s i => by
      simp only [Fc.l1]
      rw [if_neg (by omega)])
    (fun k s i h => by
      simp only [Fc.l0]
      rw [if_pos (by omega)])
    (fun k s i h => by
      simp only [Fc.l0]
      rw [if_neg (by omega)]) (by have : (l.length + 1) * (l.length + 3) ≤ 13 * 15 := Nat.mul_le_mul (by omega) (by omega); omega)
theorem sortI_eq {k : Nat} {l : List Int} (hl : l.length ≤ 12) (hk : 400 < k) : Faj.f k l = some (isortB ltI [] l) := by
  have hw : IntKind.u64.wrap (l.length : Int) = (l.length : Int) := by simp [IntKind.wrap, IntKind.bits, IntKind.signed]; omega
  obtain ⟨k, rfl, hk2⟩ := succ_of hk
  obtain ⟨b, hb⟩ := bitsLen_ex k (l.length : Int) (by omega)
  unfold Faj.f
  rw [hw, hb, Option.bind_some]
  clear hb
  obtain ⟨k, rfl, hk3⟩ := succ_of (show 0 < k by omega)
  rw [Fq.f, Fq.l0, Int.sub_zero, w64 (x := (l.length : Int)) (by omega) (by omega), if_pos (by omega), insI_eq hl (by omega)]
  rfl
theorem weaversI_loop {l : List S61} (hl : l.length ≤ 12) : ∀ (m k i : Nat) (acc : List Int), i + m = l.length → m + 500 < k → acc.length = i → Fz.l0 k acc l (l.length : Int) (i : Int) = some (dedS (isortB ltI [] (acc ++ (l.drop i).map fun x => x.f0))) := by
  intro m
  induction m with
  | zero =>
    intro k i acc hi hk ha
    obtain ⟨k, rfl, _⟩ := succ_of (show 0 < k by omega)
    have hp := (isortB_perm ltI acc []).length_eq
    rw [List.nil_append] at hp
    rw [Fz.l0, if_neg (by omega), List.drop_eq_nil_of_le (by omega), sortI_eq (by omega) (by omega), Option.bind_some, compact_eq (by omega) (by omega)]
    simp
  | succ m ih =>
    intro k i acc hi hk ha
    obtain ⟨k, rfl, _⟩ := succ_of (show 0 < k by omega)
    have hlt : i < l.length := by omega
    rw [Fz.l0, if_pos (by omega), if_pos (by omega), if_pos (by omega), if_pos (by omega), rdSh_nat, wstep hlt (by omega), ih k (i + 1) _ (by omega) (by omega) (by rw [List.length_append, List.length_singleton]; omega), drop_step hlt z61, List.map_cons, List.append_assoc]
    rfl
theorem weaversI_eq {k : Nat} {l : List S61} (hk : 600 < k) (hl : l.length ≤ 12) : Fz.f k l = some (weaversM l) := by
  have h := weaversI_loop hl l.length k 0 [] (by omega) (by omega) rfl
  simpa [Fz.f, weaversM] using h
def ltC (l : List S61) (x y : Int) : Bool := decide (wrongM l x * knotsM14 l y < wrongM l y * knotsM14 l x)
def carefulM (l : List S61) : List Int × Bool := if sheetsB l then (isortB (ltC l) [] (weaversM l), true) else ([], false)
theorem isortC_len (l : List S61) (W : List Int) : (isortB (ltC l) [] W).length = W.length := by
  have h := (isortB_perm (ltC l) W []).length_eq
  simpa using h
theorem carefulM_len (l : List S61) : (carefulM l).1.length ≤ 12 := by
  unfold carefulM
  split
  · rename_i h
    have := (sheets_of h).1
    have := weaversM_len l
    simp only [isortC_len]; omega
  · simp
theorem prod_w {l : List S61} (hb : sheetsB l = true) (x y : Int) : wrap64 (wrongM l x * knotsM14 l y) = wrongM l x * knotsM14 l y := by
  have h1 := err_bd hb x
  have h2 := err_bd hb y
  have := mul_bd (a := wrongM l x) (b := knotsM14 l y) (A := 144000) (B := 144000) (by omega) (by omega) (by omega) (by omega)
  exact w64 (by omega) (by omega)
theorem careS_l0 {l : List S61} (hb : sheetsB l = true) {W : List Int} (hW : W.length ≤ 12) : ∀ (m k i : Nat) (O : List Int), i + m = W.length → 60 * m + 60 < k → O.length = i → Fe.l0 k l O W (i : Int) = some (isortB (ltC l) O (W.drop i), true) := by
  intro m
  induction m with
  | zero =>
    intro k i O hi hk ho
    obtain ⟨k, rfl, _⟩ := succ_of (show 0 < k by omega)
    rw [Fe.l0, if_neg (by omega), List.drop_eq_nil_of_le (by omega)]; rfl
  | succ m ih =>
    intro k i O hi hk ho
    obtain ⟨k, rfl, _⟩ := succ_of (show 0 < k by omega)
    have hlt : i < W.length := by omega
    rw [Fe.l0, if_pos (by omega), if_pos (by omega), rd_nat, errorsS_eq (k := k) (by omega) hb, drop_step hlt 0]
    simp only [Option.bind_some]
    obtain ⟨k', j', h1, h2, e, h3⟩ := insM_scan_all 30 0 (W.getD i 0) (ltC l) O (fun k j => Fe.l1 k l O W (i : Int) (wrongM l (W.getD i 0)) (knotsM14 l (W.getD i 0)) j) (fun k j => Fe.l0 k l (O.take j ++ (W.getD i 0) :: O.drop j) W (wrap64 ((i : Int) + 1)))
      (fun k j hM h0 h1 => by
        simp only [Fe.l1, Option.bind_some]
        rw [w64 (x := (j : Int) - 1) (by omega) (by omega), if_pos (by omega), if_pos (by omega), if_pos (by omega), show (j : Int) - 1 = ((j - 1 : Nat) : Int) by omega]
        simp only [rd_nat, Int.toNat_natCast, List.length_nil, List.nil_append, List.length_append, List.length_take, List.length_drop, List.length_singleton]
        rw [errorsS_eq (k := k) (by omega) hb]
        simp only [Option.bind_some]
        rw [prod_w hb, prod_w hb]
        by_cases g : wrongM l (O.getD (j - 1) 0) * knotsM14 l (W.getD i 0) ≤ wrongM l (W.getD i 0) * knotsM14 l (O.getD (j - 1) 0)
        · rw [if_pos g, if_neg (show ¬ ltC l _ _ = true from by unfold ltC; rw [decide_eq_false (by omega)]; simp), if_pos (by omega), if_pos (by omega), if_pos (by omega), if_pos (by omega), if_pos (by omega), if_pos (by omega), if_pos (by omega)]
          simp only [List.append_assoc, List.singleton_append]
        · rw [if_neg g, if_pos (show ltC l _ _ = true from decide_eq_true (by omega))])
      (fun k => by
        simp only [Fe.l1, Option.bind_some]
        rw [if_neg (by omega), if_pos (by omega), if_pos (by omega)]
        simp only [rd_nat, List.take_zero, List.drop_zero, List.length_nil, List.nil_append, List.length_append, List.length_singleton, Int.toNat_zero]
        rw [if_pos (by omega), if_pos (by omega), if_pos (by omega), if_pos (by omega), if_pos (by omega)]
        simp only [List.singleton_append]) (k := k) (by omega)
    have e : Fe.l1 k l O W (i : Int) (wrongM l (W.getD i 0)) (knotsM14 l (W.getD i 0)) (O.length : Int) = _ := e
    rw [e, h3, wstep hlt (by omega)]
    have hl := insB_len (ltC l) O.reverse (W.getD i 0)
    rw [List.length_reverse] at hl
    rw [ih k' (i + 1) (insB (ltC l) O.reverse (W.getD i 0)) (by omega) (by omega) (by omega)]
    rfl
theorem carefulS_eq {k : Nat} {l : List S61} (hk : 2000000 < k) (hl : l.length ≤ 1048576) : Fe.f k l = some (carefulM l) := by
  simp only [Fe.f, sheetsS_eq (k := k) (l := l) (by omega) hl, Option.bind_some, carefulM]
  cases hb : sheetsB l
  · simp
  have h12 := (sheets_of hb).1
  have hw := weaversM_len l
  simp only [if_true]
  rw [weaversS_eq (by omega) h12, Option.bind_some]
  have h := careS_l0 hb (W := weaversM l) (by omega) (weaversM l).length k 0 [] (by omega) (by omega) rfl
  rw [show ((0 : Nat) : Int) = 0 from rfl] at h
  rw [h]; rfl
theorem insC_eq {k : Nat} {l : List S61} (hb : sheetsB l = true) {W : List Int} (hl : W.length ≤ 12) (hk : 400 ≤ k) : Fa.f k W 0 (W.length : Int) l = some (isortB (ltC l) [] W) := by
  unfold Fa.f
  rw [Int.zero_add]
  rw [show wrap64 1 = 1 from w64 (by omega) (by omega)]
  exact insM_eq 60 0 (ltC l) W (by omega) (fun k s i => Fa.l0 k s 0 (W.length : Int) i l) (fun k s i j => Fa.l1 k s 0 (W.length : Int) i j l)
    (fun k s i j hM h0 h1 h2 => by
      simp only [Fa.l1]
      rw [w64 (x := (j : Int) - 1) (by omega) (by omega), if_pos (by omega), if_pos (by omega), if_pos (by omega), if_pos (by omega), if_pos (by omega), show (j : Int) - 1 = ((j - 1 : Nat) : Int) by omega]
      simp only [rd_nat, Fac.f, tally_eq (k := k) (by omega) hb, cmpI_eq, Option.bind_some, Int.toNat_natCast]
      rw [prod_w hb, prod_w hb]
      by_cases g : wrongM l (s.getD j 0) * knotsM14 l (s.getD (j - 1) 0) < wrongM l (s.getD (j - 1) 0) * knotsM14 l (s.getD j 0)
      · rw [if_pos (by unfold cmpI; rw [if_pos g]; omega), if_pos (show ltC l _ _ = true from decide_eq_true g)]
      · rw [if_neg (by unfold cmpI; rw [if_neg g]; split <;> omega), if_neg (by unfold ltC; rw [decide_eq_false g]; simp)])
    (fun k s i => by
      simp only [Fa.l1]
      rw [if_neg (by omega)])
    (fun k s i h => by
      simp only [Fa.l0]
      rw [if_pos (by omega)])
    (fun k s i h => by
      simp only [Fa.l0]
      rw [if_neg (by omega)]) (by have : (W.length + 1) * (W.length + 3) ≤ 13 * 15 := Nat.mul_le_mul (by omega) (by omega); omega)
theorem stableC_eq {k : Nat} {l : List S61} (hb : sheetsB l = true) {W : List Int} (hl : W.length ≤ 12) (hk : 500 ≤ k) : Fh.f k W l = some (isortB (ltC l) [] W) := by
  unfold Fh.f Fb.f
  obtain ⟨k, rfl, hk2⟩ := succ_of (show 499 < k by omega)
  rw [Fb.l0, if_neg (by omega), insC_eq hb hl (by omega)]
  obtain ⟨k, rfl, hk3⟩ := succ_of (show 0 < k by omega)
  simp only [Option.bind_some, Fb.l1]
  rw [if_neg (by omega)]; rfl
theorem carefulI_eq {k : Nat} {l : List S61} (hk : 2000000 < k) (hl : l.length ≤ 1048576) : Ft.f k l = some (carefulM l) := by
  simp only [Ft.f, sheetsI_eq (k := k) (l := l) (by omega) hl, Option.bind_some, carefulM]
  cases hb : sheetsB l
  · simp
  have h12 := (sheets_of hb).1
  have hw := weaversM_len l
  simp only [if_true]
  rw [weaversI_eq (by omega) h12, Option.bind_some, stableC_eq hb (by omega) (by omega)]
  rfl
/-- the best day, and its right knots -/
def bestF (w : Int) (s : Int × Int) (x : S61) : Int × Int := if x.f0 = w then (if x.f2 - x.f3 > s.2 then (x.f1, x.f2 - x.f3) else s) else s
def bestM (l : List S61) (w : Int) : Int × Bool := if sheetsB l then ((l.foldl (bestF w) (0, -1)).1, decide ((l.foldl (bestF w) (0, -1)).2 ≥ 0)) else (0, false)
theorem best_loop {β : Type} (L : Nat → Int → Int → Int → Option β) (R : Int → Int → Option β) (w : Int) (l : List S61) (hl : l.length ≤ 12)
    (hs : ∀ k (a b : Int) (i : Nat), i < l.length → L (k + 1) a b (i : Int) = L k (bestF w (a, b) (l.getD i z61)).1 (bestF w (a, b) (l.getD i z61)).2 (wrap64 ((i : Int) + 1)))
    (he : ∀ k (a b : Int), L (k + 1) a b (l.length : Int) = R a b) :
    ∀ (m k i : Nat) (a b : Int), i + m = l.length → m < k → L k a b (i : Int) = R ((l.drop i).foldl (bestF w) (a, b)).1 ((l.drop i).foldl (bestF w) (a, b)).2 := by
  intro m
  induction m with
  | zero =>
    intro k i a b hi hk
    obtain ⟨k, rfl, _⟩ := succ_of hk
    obtain rfl : i = l.length := by omega
    rw [he, List.drop_eq_nil_of_le (by omega)]; rfl
  | succ m ih =>
    intro k i a b hi hk
    obtain ⟨k, rfl, _⟩ := succ_of hk
    have hlt : i < l.length := by omega
    rw [hs k a b i hlt, drop_step hlt z61, List.foldl_cons, wstep hlt (by omega), ih k (i + 1) _ _ (by omega) (by omega)]
theorem bestS_eq {k : Nat} {l : List S61} (hk : 1048600 < k) (hl : l.length ≤ 1048576) (w : Int) : Fr.f k l w = some (bestM l w) := by
  simp only [Fr.f, sheetsS_eq (k := k) (l := l) (by omega) hl, Option.bind_some, bestM]
  cases hb : sheetsB l
  · simp
  obtain ⟨h12, hx⟩ := sheets_of hb
  simp only [if_true]
  have h := best_loop (fun k a b i => Fr.l0 k l w a b i) (fun a b => some (a, decide (b ≥ 0))) w l h12
    (fun k a b i hi => by
      have hm : l.getD i z61 ∈ l := by rw [List.getD_eq_getElem?_getD, List.getElem?_eq_getElem hi]; exact List.getElem_mem hi
      have hb2 := sheet_of (hx _ hm)
      simp only [Fr.l0, rdSh_nat]
      rw [if_pos (by omega), if_pos (by omega), w64 (x := _ - _) (by omega) (by omega)]
      unfold bestF
      by_cases g : (l.getD i z61).f0 = w
      · rw [if_pos g, if_pos g]
        by_cases g2 : (l.getD i z61).f2 - (l.getD i z61).f3 > b
        · rw [if_pos g2, if_pos g2]
        · rw [if_neg g2, if_neg g2]
      · rw [if_neg g, if_neg g])
    (fun k a b => by simp only [Fr.l0]; rw [if_neg (by omega)])
    l.length k 0 0 (-1) (by omega) (by omega)
  rw [show ((0 : Nat) : Int) = 0 from rfl] at h
  rw [h]; rfl
theorem best_none {l : List S61} (w : Int) (h : ∀ x ∈ l, x.f0 ≠ w) : ∀ s, l.foldl (bestF w) s = s := by
  induction l with
  | nil => intro s; rfl
  | cons x l ih =>
    intro s
    rw [List.foldl_cons]
    have : bestF w s x = s := by unfold bestF; rw [if_neg (h x List.mem_cons_self)]
    rw [this]
    exact ih (fun y hy => h y (List.mem_cons_of_mem _ hy)) s
theorem bestI_eq {k : Nat} {l : List S61} (hk : 1048600 < k) (hl : l.length ≤ 1048576) (w : Int) : Fl.f k l w = some (bestM l w) := by
  obtain ⟨k, rfl, hk2⟩ := succ_of hk
  simp only [Fl.f, sheetsI_eq (k := k + 1) (l := l) (by omega) hl, Fav.f, in_eq, Option.bind_some, bestM, Fl.j0]
  cases hb : sheetsB l
  · simp
  obtain ⟨h12, hx⟩ := sheets_of hb
  by_cases hw : 1 ≤ w ∧ w ≤ 99
  · rw [decide_eq_true hw]
    simp only [if_true, Bool.not_true, Bool.false_eq_true, if_false]
    have h := best_loop (fun k a b i => Fl.l0 k w a b l (l.length : Int) i) (fun a b => some (a, decide (b ≥ 0))) w l h12
      (fun k a b i hi => by
        have hm : l.getD i z61 ∈ l := by rw [List.getD_eq_getElem?_getD, List.getElem?_eq_getElem hi]; exact List.getElem_mem hi
        have hb2 := sheet_of (hx _ hm)
        simp only [Fl.l0, rdSh_nat, Fak.f, Option.bind_some]
        rw [if_pos (by omega), if_pos (by omega), if_pos (by omega), w64 (x := _ - _) (by omega) (by omega)]
        unfold bestF
        by_cases g : (l.getD i z61).f0 = w
        · rw [if_pos g, if_pos g]
          by_cases g2 : (l.getD i z61).f2 - (l.getD i z61).f3 > b
          · rw [if_pos g2, if_pos g2]
          · rw [if_neg g2, if_neg g2]
        · rw [if_neg g, if_neg g])
      (fun k a b => by simp only [Fl.l0]; rw [if_neg (by omega)])
      l.length k 0 0 (-1) (by omega) (by omega)
    rw [show ((0 : Nat) : Int) = 0 from rfl] at h
    rw [h]; rfl
  · rw [decide_eq_false hw, best_none w (fun x hm e => hw (by have := (sheet_of (hx x hm)).1; omega))]
    simp
/-- what the best day tells of a weaver -/
theorem best_fact {l : List S61} {w : Int} : ∀ (s : Int × Int), let r := l.foldl (bestF w) s; s.2 ≤ r.2 ∧ (∀ x ∈ l, x.f0 = w → x.f2 - x.f3 ≤ r.2) ∧ (r = s ∨ ∃ x ∈ l, x.f0 = w ∧ r = (x.f1, x.f2 - x.f3)) := by
  induction l with
  | nil => intro s; exact ⟨Int.le_refl _, fun x hx => absurd hx (by simp), .inl rfl⟩
  | cons x l ih =>
    intro s
    obtain ⟨h1, h2, h3⟩ := ih (bestF w s x)
    have hs : s.2 ≤ (bestF w s x).2 ∧ (x.f0 = w → x.f2 - x.f3 ≤ (bestF w s x).2) ∧ (bestF w s x = s ∨ (x.f0 = w ∧ bestF w s x = (x.f1, x.f2 - x.f3))) := by
      unfold bestF
      by_cases g : x.f0 = w
      · rw [if_pos g]
        by_cases g2 : x.f2 - x.f3 > s.2
        · rw [if_pos g2]; exact ⟨by simp only; omega, fun _ => Int.le_refl _, .inr ⟨g, rfl⟩⟩
        · rw [if_neg g2]; exact ⟨Int.le_refl _, fun _ => by omega, .inl rfl⟩
      · rw [if_neg g]; exact ⟨Int.le_refl _, fun e => absurd e g, .inl rfl⟩
    refine ⟨Int.le_trans hs.1 h1, fun y hy e => ?_, ?_⟩
    · rcases List.mem_cons.mp hy with q | q
      · rw [q] at e ⊢; exact Int.le_trans (hs.2.1 e) h1
      · exact h2 y q e
    · rcases h3 with q | ⟨y, hy, e, q⟩
      · rcases hs.2.2 with p | ⟨e, p⟩
        · exact .inl (q.trans p)
        · exact .inr ⟨x, List.mem_cons_self, e, q.trans p⟩
      · exact .inr ⟨y, List.mem_cons_of_mem _ hy, e, q⟩
def missV (x : S61) : Bool := decide (x.f2 ≥ 8000) && decide (x.f2 - x.f3 < 8000)
def missL : List S61 → Nat → List Int
  | [], _ => []
  | x :: l, i => if missV x = true then (i : Int) :: missL l (i + 1) else missL l (i + 1)
def missM (l : List S61) : List Int × Bool := if sheetsB l then (missL l 0, true) else ([], false)
theorem missL_len (l : List S61) : ∀ i, (missL l i).length ≤ l.length := by
  induction l with
  | nil => intro i; simp [missL]
  | cons x l ih =>
    intro i
    have := ih (i + 1)
    simp only [missL, List.length_cons]
    split
    · rw [List.length_cons]; omega
    · omega
theorem missM_len (l : List S61) : (missM l).1.length ≤ 12 := by
  unfold missM
  split
  · rename_i h
    have := (sheets_of h).1
    have := missL_len l 0
    simp only; omega
  · simp
theorem missL_mem {l0 : List S61} : ∀ (l : List S61) (i : Nat), l = l0.drop i → ∀ y ∈ missL l i, ∃ j : Nat, y = j ∧ j < l0.length ∧ missV (l0.getD j z61) = true := by
  intro l
  induction l with
  | nil => intro i _ y hy; simp [missL] at hy
  | cons x l ih =>
    intro i h y hy
    have hi : i < l0.length := by
      rcases Nat.lt_or_ge i l0.length with q | q
      · exact q
      · rw [List.drop_eq_nil_of_le q] at h; exact absurd h (by simp)
    rw [drop_step hi z61] at h
    obtain ⟨hx, hl⟩ := List.cons.inj h
    simp only [missL] at hy
    split at hy
    · rename_i g
      rcases List.mem_cons.mp hy with e | e
      · exact ⟨i, e, hi, by rw [← hx]; exact g⟩
      · exact ih (i + 1) hl y e
    · exact ih (i + 1) hl y hy
theorem miss_loop {β : Type} (L : Nat → List Int → Int → Option β) (R : List Int → Option β) (l : List S61) (hl : l.length ≤ 12)
    (hs : ∀ k (a : List Int) (i : Nat), i < l.length → a.length ≤ i → L (k + 1) a (i : Int) = if missV (l.getD i z61) = true then L k (a ++ [(i : Int)]) (wrap64 ((i : Int) + 1)) else L k a (wrap64 ((i : Int) + 1)))
    (he : ∀ k (a : List Int), L (k + 1) a (l.length : Int) = R a) :
    ∀ (m k i : Nat) (a : List Int), i + m = l.length → m < k → a.length ≤ i → L k a (i : Int) = R (a ++ missL (l.drop i) i) := by
  intro m
  induction m with
  | zero =>
    intro k i a hi hk ha
    obtain ⟨k, rfl, _⟩ := succ_of hk
    obtain rfl : i = l.length := by omega
    rw [he, List.drop_eq_nil_of_le (by omega)]; simp [missL]
  | succ m ih =>
    intro k i a hi hk ha
    obtain ⟨k, rfl, _⟩ := succ_of hk
    have hlt : i < l.length := by omega
    rw [hs k a i hlt ha, drop_step hlt z61, missL, wstep hlt (by omega)]
    by_cases g : missV (l.getD i z61) = true
    · rw [if_pos g, if_pos g, ih k (i + 1) _ (by omega) (by omega) (by rw [List.length_append, List.length_singleton]; omega), List.append_assoc]; rfl
    · rw [if_neg g, if_neg g, ih k (i + 1) _ (by omega) (by omega) (by omega)]
theorem missS_eq {k : Nat} {l : List S61} (hk : 1048600 < k) (hl : l.length ≤ 1048576) : Fn.f k l = some (missM l) := by
  simp only [Fn.f, sheetsS_eq (k := k) (l := l) (by omega) hl, Option.bind_some, missM]
  cases hb : sheetsB l
  · simp
  obtain ⟨h12, hx⟩ := sheets_of hb
  simp only [if_true]
  have h := miss_loop (fun k a i => Fn.l0 k l a i) (fun a => some (a, true)) l h12
    (fun k a i hi ha => by
      have hm : l.getD i z61 ∈ l := by rw [List.getD_eq_getElem?_getD, List.getElem?_eq_getElem hi]; exact List.getElem_mem hi
      have hb2 := sheet_of (hx _ hm)
      simp only [Fn.l0, rdSh_nat]
      rw [if_pos (by omega), if_pos (by omega), w64 (x := _ - _) (by omega) (by omega), if_pos (show a.length < 17592186044416 by omega)]
      unfold missV
      by_cases g : (l.getD i z61).f2 ≥ 8000
      · rw [if_pos g, decide_eq_true g]
        by_cases g2 : (l.getD i z61).f2 - (l.getD i z61).f3 < 8000
        · rw [if_pos g2, decide_eq_true g2]; rfl
        · rw [if_neg g2, decide_eq_false g2]; rfl
      · rw [if_neg g, decide_eq_false g]; rfl)
    (fun k a => by simp only [Fn.l0]; rw [if_neg (by omega)])
    l.length k 0 [] (by omega) (by omega) (by simp)
  rw [show ((0 : Nat) : Int) = 0 from rfl] at h
  rw [h]; rfl
theorem missI_eq {k : Nat} {l : List S61} (hk : 1048600 < k) (hl : l.length ≤ 1048576) : Fm.f k l = some (missM l) := by
  simp only [Fm.f, sheetsI_eq (k := k) (l := l) (by omega) hl, Option.bind_some, missM]
  cases hb : sheetsB l
  · simp
  obtain ⟨h12, hx⟩ := sheets_of hb
  simp only [if_true]
  have h := miss_loop (fun k a i => Fm.l0 k a l (l.length : Int) i) (fun a => some (a, true)) l h12
    (fun k a i hi ha => by
      have hm : l.getD i z61 ∈ l := by rw [List.getD_eq_getElem?_getD, List.getElem?_eq_getElem hi]; exact List.getElem_mem hi
      have hb2 := sheet_of (hx _ hm)
      simp only [Fm.l0, rdSh_nat, Fak.f, Option.bind_some]
      rw [if_pos (by omega), if_pos (by omega), if_pos (by omega), w64 (x := _ - _) (by omega) (by omega), if_pos (show a.length < 17592186044416 by omega)]
      unfold missV
      by_cases g2 : (l.getD i z61).f2 - (l.getD i z61).f3 < 8000
      · rw [if_pos g2, decide_eq_true g2]
        by_cases g : (l.getD i z61).f2 ≥ 8000
        · rw [if_pos g, decide_eq_true g]; rfl
        · rw [if_neg g, decide_eq_false g]; rfl
      · rw [if_neg g2, decide_eq_false g2, Bool.and_false]; rfl)
    (fun k a => by simp only [Fm.l0]; rw [if_neg (by omega)])
    l.length k 0 [] (by omega) (by omega) (by simp)
  rw [show ((0 : Nat) : Int) = 0 from rfl] at h
  rw [h]; rfl
/-- a code that is drawn from: bytes, and not too many -/
def curOk (s : List Int) : Prop := s.length ≤ 65536 ∧ ∀ y ∈ s, 0 ≤ y ∧ y ≤ 255
theorem wf8 {x : Int} (h : (Lit.int .u8 x).wf = true) : 0 ≤ x ∧ x ≤ 255 := by
  have h1 := h
  simp [Lit.wf] at h1
  have h2 := h1.1; have h3 := h1.2
  constructor
  · exact h2
  · exact h3
theorem and255 (n : Int) : 0 ≤ wrap64 (Go.bits .and .u64 (IntKind.u64.wrap n / 1099511627776) 255) ∧ wrap64 (Go.bits .and .u64 (IntKind.u64.wrap n / 1099511627776) 255) ≤ 255 := by
  have hw : IntKind.u64.wrap n = n % 18446744073709551616 := by simp [IntKind.wrap, IntKind.bits, IntKind.signed]
  have h32 : (2 : Int) ^ 32 = 4294967296 := by decide
  have h := bits_mask .u64 32 (by decide) (fun n h0 h1 => by simp [IntKind.wrap, IntKind.bits, IntKind.signed]; omega) 8 (by decide) (IntKind.u64.wrap n / 1099511627776) (by rw [hw]; omega) (by rw [hw]; omega)
  rw [show ((2 : Int) ^ 8 - 1) = 255 by decide, show ((2 : Int) ^ 8) = 256 by decide] at h
  rw [h, w64 (by omega) (by omega)]
  omega
theorem next_ex {s : List Int} {p : Int} (h : Int) (hs : curOk s) (hp : 0 ≤ p ∧ p ≤ 1000000000) : ∃ a h', Fao.f s p h = some (a, p + 1, h') ∧ 0 ≤ a ∧ a ≤ 255 := by
  have hw : wrap64 (p + 1) = p + 1 := w64 (by omega) (by omega)
  simp only [Fao.f, hw]
  by_cases g : p < s.length
  · rw [if_pos g, if_pos hp.1, if_pos (by omega)]
    refine ⟨_, _, rfl, ?_⟩
    obtain ⟨n, rfl⟩ := nat_of hp.1
    have hm : s.getD n 0 ∈ s := by rw [List.getD_eq_getElem?_getD, List.getElem?_eq_getElem (by omega)]; exact List.getElem_mem (by omega)
    have := hs.2 _ hm
    rw [rd_nat, w64 (by omega) (by omega)]
    exact this
  · rw [if_neg g, if_neg (by omega)]
    exact ⟨_, _, rfl, and255 _⟩
theorem pick_ex {s : List Int} {p n : Int} (h : Int) (hs : curOk s) (hp : 0 ≤ p ∧ p ≤ 1000000) (hn : n ≤ 50000) : ∃ a p' h', Fx.f s p h n = some (a, p', h') ∧ (p ≤ p' ∧ p' ≤ p + 2) ∧ 0 ≤ a ∧ (1 ≤ n → a < n) := by
  unfold Fx.f
  by_cases g : n ≤ 1
  · rw [if_pos g]; exact ⟨_, _, _, rfl, by omega, by omega, by omega⟩
  rw [if_neg g]
  obtain ⟨a, h1, e1, b1⟩ := next_ex h hs (p := p) (by omega)
  rw [e1]
  simp only [Option.bind_some]
  by_cases g2 : n > 200
  · rw [if_pos g2]
    obtain ⟨b, h2, e2, b2⟩ := next_ex h1 hs (p := p + 1) (by omega)
    rw [e2]
    simp only [Option.bind_some]
    rw [if_neg (by omega), w64 (x := a * 256) (by omega) (by omega), w64 (x := a * 256 + b) (by omega) (by omega)]
    exact ⟨_, _, _, rfl, by omega, Int.tmod_nonneg _ (by omega), fun _ => Int.tmod_lt_of_pos _ (by omega)⟩
  · rw [if_neg g2, if_neg (by omega)]
    exact ⟨_, _, _, rfl, by omega, Int.tmod_nonneg _ (by omega), fun _ => Int.tmod_lt_of_pos _ (by omega)⟩
theorem one_ex {s : List Int} {p n : Int} (h : Int) (hs : curOk s) (hp : 0 ≤ p ∧ p ≤ 1000000) (hn : n ≤ 50000) : ∃ b p' h', Faq.f s p h n = some (b, p', h') ∧ (p ≤ p' ∧ p' ≤ p + 2) := by
  obtain ⟨a, p1, h1, e1, b1, _⟩ := pick_ex h hs hp hn
  simp only [Faq.f, e1, Option.bind_some]
  exact ⟨_, _, _, rfl, b1⟩
theorem among_ex {s : List Int} {p : Int} (h : Int) (xs : List Int) (hs : curOk s) (hp : 0 ≤ p ∧ p ≤ 1000000) (hx : 1 ≤ xs.length ∧ xs.length ≤ 50000) : ∃ v p' h', Fj.f s p h xs = some (v, p', h') ∧ (p ≤ p' ∧ p' ≤ p + 2) ∧ v ∈ xs := by
  obtain ⟨a, p1, h1, e1, b1, b2, b3⟩ := pick_ex (n := (xs.length : Int)) h hs hp (by omega)
  have b4 := b3 (by omega)
  simp only [Fj.f, e1, Option.bind_some]
  rw [if_pos b2, if_pos b4]
  refine ⟨_, _, _, rfl, b1, ?_⟩
  obtain ⟨n, rfl⟩ := nat_of b2
  rw [rd_nat, List.getD_eq_getElem?_getD, List.getElem?_eq_getElem (by omega)]
  exact List.getElem_mem (by omega)
theorem rHas_eq {k : Nat} {t : List Int} (hk : t.length < k) (hl : t.length ≤ 1048576) (v : Int) : Faa.f k t v = some (t.any fun y => decide (y = v)) := by
  unfold Faa.f
  have := any_loop (fun k i => Faa.l0 k t v i) (fun y => decide (y = v)) 0 t (by omega)
    (fun k i h => by
      simp only [Faa.l0]
      rw [if_pos (by omega), if_pos (by omega), rd_nat]
      by_cases g : t.getD i 0 = v
      · rw [if_pos g, if_pos (decide_eq_true g)]
      · rw [if_neg g, if_neg (by simpa using g)])
    (fun k i h => by simp only [Faa.l0]; rw [if_neg (by omega)])
    t.length k 0 (by omega) hk
  simpa using this
theorem rInts_refl {k : Nat} {l : List Int} (hk : l.length < k) (hl : l.length ≤ 1048576) : Fv.f k l l = some true := by
  unfold Fv.f
  rw [if_pos rfl]
  exact refl_loop Fv.l0 l (by omega)
    (fun k i h => by simp only [Fv.l0]; rw [if_pos (by omega), if_pos (by omega), if_pos (by omega), if_pos trivial])
    (fun k i h => by simp only [Fv.l0]; rw [if_neg (by omega)])
    l.length k 0 (by omega) hk
theorem least_ex (a b : Int) : ∃ t, Fat.f a b = some t := by
  unfold Fat.f; split <;> exact ⟨_, rfl⟩
theorem workSheet_ex {s : List Int} {p : Int} (h a b : Int) (hs : curOk s) (hp : 0 ≤ p ∧ p ≤ 900000) : ∃ x0 x1 x2 x3 x4 p' h', Fae.f s p h a b = some (x0, x1, x2, x3, x4, p', h') ∧ (p ≤ p' ∧ p' ≤ p + 14) := by
  obtain ⟨v1, p1, h1, e1, b1, _⟩ := among_ex h [0, 500, 7999, 8000, 8100, 12000] hs (p := p) (by omega) (by simp)
  obtain ⟨v2, p2, h2, e2, b2, _⟩ := among_ex h1 [0, 0, 3, 12] hs (p := p1) (by omega) (by simp)
  obtain ⟨v3, p3, h3, e3, b3, _⟩ := among_ex h2 [0, 0, 99, 100, 250, 12000] hs (p := p2) (by omega) (by simp)
  obtain ⟨t, et⟩ := least_ex v1 v3
  obtain ⟨v5, p5, h5, e5, b5, _⟩ := pick_ex h3 hs (p := p3) (n := 80) (by omega) (by omega)
  obtain ⟨w0, q0, g0, f0, c0, _⟩ := among_ex h5 [0, 99, 100] hs (p := p5) (by omega) (by simp)
  obtain ⟨w1, q1, g1, f1, c1, _⟩ := among_ex h5 [-1, 4001] hs (p := p5) (by omega) (by simp)
  obtain ⟨w2, q2, g2, f2, c2, _⟩ := among_ex h5 [-1, 12001] hs (p := p5) (by omega) (by simp)
  obtain ⟨w3, q3, g3, f3, c3, _⟩ := among_ex h5 [-1, wrap64 (v1 + 1)] hs (p := p5) (by omega) (by simp)
  obtain ⟨w4, q4, g4, f4, c4, _⟩ := among_ex h5 [-1, 13] hs (p := p5) (by omega) (by simp)
  simp only [Fae.f, e1, e2, e3, et, e5, f0, f1, f2, f3, f4, Option.bind_some]
  by_cases z0 : v5 = 0
  · rw [if_pos z0]; exact ⟨_, _, _, _, _, _, _, rfl, by omega⟩
  rw [if_neg z0]
  by_cases z1 : v5 = 1
  · rw [if_pos z1]; exact ⟨_, _, _, _, _, _, _, rfl, by omega⟩
  rw [if_neg z1]
  by_cases z2 : v5 = 2
  · rw [if_pos z2]; exact ⟨_, _, _, _, _, _, _, rfl, by omega⟩
  rw [if_neg z2]
  by_cases z3 : v5 = 3
  · rw [if_pos z3]; exact ⟨_, _, _, _, _, _, _, rfl, by omega⟩
  rw [if_neg z3]
  by_cases z4 : v5 = 4
  · rw [if_pos z4]; exact ⟨_, _, _, _, _, _, _, rfl, by omega⟩
  rw [if_neg z4]; exact ⟨_, _, _, _, _, _, _, rfl, by omega⟩
theorem sheets_l1 {s : List Int} (hs : curOk s) : ∀ (n k : Nat) (x : List S61) (i p h : Int), i + n = 14 → x.length + n ≤ 14 → n < k → 0 ≤ i → 0 ≤ p → p + 2 * n ≤ 900000 → ∃ x' p' h', Fg.l1 k x i s p h = some (x', p', h') ∧ x'.length ≤ 14 ∧ p ≤ p' ∧ p' ≤ p + 2 * n + 2 := by
  intro n
  induction n with
  | zero =>
    intro k x i p h hx hx2 hk h2 h0 h1
    obtain ⟨k, rfl, _⟩ := succ_of hk
    obtain ⟨t, p1, h1', e1, b1, b2, b3⟩ := pick_ex h hs (p := p) (n := 2) (by omega) (by omega)
    have b4 := b3 (by omega)
    simp only [Fg.l1, e1, Option.bind_some]
    rw [w64 (x := 12 + t) (by omega) (by omega), if_neg (by omega)]
    exact ⟨_, _, _, rfl, by omega, by omega, by omega⟩
  | succ n ih =>
    intro k x i p h hx hx2 hk h2 h0 h1
    obtain ⟨k, rfl, _⟩ := succ_of hk
    obtain ⟨t, p1, h1', e1, b1, b2, b3⟩ := pick_ex h hs (p := p) (n := 2) (by omega) (by omega)
    have b4 := b3 (by omega)
    simp only [Fg.l1, e1, Option.bind_some]
    rw [w64 (x := 12 + t) (by omega) (by omega)]
    by_cases g : i < 12 + t
    · rw [if_pos g, if_pos (by omega), w64 (x := i + 1) (by omega) (by omega)]
      obtain ⟨x', p', h', e, c1, c2, c3⟩ := ih k (x ++ [⟨wrap64 (1 + i), 5, wrap64 (100 * i), 0, 0⟩]) (i + 1) p1 h1' (by push_cast at hx; omega) (by rw [List.length_append, List.length_singleton]; omega) (by omega) (by omega) (by omega) (by push_cast at h1; omega)
      exact ⟨x', p', h', e, c1, by omega, by push_cast; omega⟩
    · rw [if_neg g]
      exact ⟨_, _, _, rfl, by omega, by omega, by push_cast; omega⟩
theorem sheets_l0 {s : List Int} (hs : curOk s) : ∀ (n k : Nat) (x : List S61) (day weaver p h : Int), x.length + n ≤ 9 → n + 20 < k → 0 ≤ p → p + 30 * n ≤ 800000 → ∃ x' p' h', Fg.l0 k x day weaver (n : Int) s p h = some (x', p', h') ∧ x'.length ≤ 14 ∧ p ≤ p' ∧ p' ≤ p + 30 * n + 60 := by
  intro n
  induction n with
  | zero =>
    intro k x day weaver p h hx hk h0 h1
    obtain ⟨k, rfl, _⟩ := succ_of (show 0 < k by omega)
    obtain ⟨b, p1, h1', e1, b1⟩ := one_ex h hs (p := p) (n := 24) (by omega) (by omega)
    simp only [Fg.l0, e1, Option.bind_some]
    rw [if_neg (by omega)]
    cases b
    · simp only [Bool.false_eq_true, if_false]
      exact ⟨_, _, _, rfl, by omega, by omega, by omega⟩
    · simp only [if_true]
      obtain ⟨x', p', h', e, c1, c2, c3⟩ := sheets_l1 hs 14 k [] 0 p1 h1' (by omega) (by simp) (by omega) (by omega) (by omega) (by omega)
      exact ⟨x', p', h', e, c1, by omega, by omega⟩
  | succ n ih =>
    intro k x day weaver p h hx hk h0 h1
    obtain ⟨k, rfl, _⟩ := succ_of (show 0 < k by omega)
    push_cast at h1
    obtain ⟨x0, x1, x2, x3, x4, p1, h1', e1, b1⟩ := workSheet_ex h day weaver hs (p := p) (by omega)
    obtain ⟨t2, p2, h2', e2, b2, _⟩ := pick_ex h1' hs (p := p1) (n := 2) (by omega) (by omega)
    obtain ⟨t3, p3, h3', e3, b3, _⟩ := pick_ex h2' hs (p := p2) (n := 80) (by omega) (by omega)
    obtain ⟨b, p4, h4', e4, b4⟩ := one_ex h3' hs (p := p3) (n := 2) (by omega) (by omega)
    obtain ⟨t5, p5, h5', e5, b5, _⟩ := among_ex h4' [1, 5] hs (p := p4) (by omega) (by simp)
    obtain ⟨t6, p6, h6', e6, b6, _⟩ := pick_ex h5' hs (p := p5) (n := 3) (by omega) (by omega)
    simp only [Fg.l0, e1, e2, e3, e4, e5, e6, Option.bind_some]
    rw [if_pos (by omega), if_pos (by omega), w64 (x := ((n + 1 : Nat) : Int) - 1) (by omega) (by omega), show ((n + 1 : Nat) : Int) - 1 = (n : Int) by omega]
    cases b
    · simp only [Bool.false_eq_true, if_false]
      obtain ⟨x', p', h', e, c1, c2, c3⟩ := ih k (x ++ [⟨x0, x1, x2, x3, x4⟩]) day (wrap64 ((wrap64 ((wrap64 (weaver + 1)) + t2)) - (wrap64 (Int.tdiv t3 79)))) p4 h4' (by rw [List.length_append, List.length_singleton]; omega) (by omega) (by omega) (by omega)
      exact ⟨x', p', h', e, c1, by omega, by push_cast; omega⟩
    · simp only [if_true]
      obtain ⟨x', p', h', e, c1, c2, c3⟩ := ih k (x ++ [⟨x0, x1, x2, x3, x4⟩]) (wrap64 (day + t5)) (wrap64 (1 + t6)) p6 h6' (by rw [List.length_append, List.length_singleton]; omega) (by omega) (by omega) (by omega)
      exact ⟨x', p', h', e, c1, by omega, by push_cast; omega⟩
theorem workSheets_ex {k : Nat} {s : List Int} (h : Int) (hs : curOk s) (hk : 100 < k) : ∃ x' p' h', Fg.f k s 0 h = some (x', p', h') ∧ x'.length ≤ 14 ∧ 0 ≤ p' ∧ p' ≤ 1000 := by
  obtain ⟨d, p0, h0, e0, b0, _⟩ := among_ex h [0, 10, 3990] hs (p := 0) (by omega) (by simp)
  obtain ⟨t, p1, h1, e1, b1, b2, b3⟩ := pick_ex h0 hs (p := p0) (n := 9) (by omega) (by omega)
  have b4 := b3 (by omega)
  obtain ⟨n, rfl⟩ := nat_of b2
  obtain ⟨x', p', h', e, c1, c2, c3⟩ := sheets_l0 hs n k [] d 1 p1 h1 (by simp; omega) (by omega) (by omega) (by omega)
  simp only [Fg.f, e0, e1, Option.bind_some]
  exact ⟨x', p', h', e, c1, by omega, by omega⟩
end Go.Proofs.Ytbfhphobnngeaaa.Pure

namespace Go.Proofs.Ytbfhphobnngeaaa.Pure
open Go Go.RowKit Go.Proofs Go.Proofs.YtbfhphobnngeaaaW.PrintWords Go.Proofs.YtbfhphobnngeaaaW.PrintLast
set_option linter.unusedVariables false
set_option linter.unusedSimpArgs false
/-- A loop whose rounds all pass. -/
theorem pass_loop {β : Type} (L : Nat → Int → Option β) (K : Nat → Option β) (n M : Nat) (hn : n ≤ 1048576)
    (hs : ∀ k (i : Nat), M ≤ k → i < n → L (k + 1) i = L k (wrap64 ((i : Int) + 1))) (he : ∀ k, L (k + 1) (n : Int) = K k) :
    ∀ (m k i : Nat), i + m = n → m + M < k → ∃ k', k ≤ k' + m + 1 ∧ M ≤ k' ∧ L k (i : Int) = K k' := by
  intro m
  induction m with
  | zero =>
    intro k i hi hk
    obtain ⟨k, rfl, _⟩ := succ_of (show 0 < k by omega)
    obtain rfl : i = n := by omega
    exact ⟨k, by omega, by omega, he k⟩
  | succ m ih =>
    intro k i hi hk
    obtain ⟨k, rfl, _⟩ := succ_of (show 0 < k by omega)
    rw [hs k i (by omega) (by omega), wstep (n := n) (by omega) (by omega)]
    obtain ⟨k', h1, h2, h3⟩ := ih k (i + 1) (by omega) (by omega)
    exact ⟨k', by omega, h2, h3⟩
end Go.Proofs.Ytbfhphobnngeaaa.Pure

namespace Go.Proofs.Ytbfhphobnngeaaa.Pure
open Go Go.RowKit Go.Proofs Go.Proofs.Ytbfhphobnngeaaa.X Go.Proofs.YtbfhphobnngeaaaW.PrintWords Go.Proofs.YtbfhphobnngeaaaW.PrintLast
set_option linter.unusedVariables false
set_option linter.unusedSimpArgs false
theorem sheets_j8 {k : Nat} {u : List S61} (hu : u.length ≤ 14) (hk : 100 < k) : Fd.j8 k u (missM u).1 false = some true := by
  obtain ⟨k, rfl, _⟩ := succ_of hk
  have hlen := missM_len u
  simp only [Fd.j8, Bool.false_eq_true, if_false]
  obtain ⟨k', _, _, e⟩ := pass_loop (fun k i => Fd.l3 k u (missM u).1 i) (fun _ => some true) (missM u).1.length 0 (by omega)
    (fun k i _ hi => by
      have hm : (missM u).1.getD i 0 ∈ (missM u).1 := by rw [List.getD_eq_getElem?_getD, List.getElem?_eq_getElem hi]; exact List.getElem_mem hi
      have hf : ∃ j : Nat, (missM u).1.getD i 0 = j ∧ j < u.length ∧ missV (u.getD j z61) = true ∧ sheetsB u = true := by
        unfold missM at hm ⊢
        split at hm
        · rename_i hb
          rw [if_pos hb]
          obtain ⟨j, a, b, c⟩ := missL_mem (l0 := u) u 0 (by simp) _ hm
          exact ⟨j, a, b, c, hb⟩
        · simp at hm
      obtain ⟨j, ej, hj, hv, hb⟩ := hf
      simp only [Fd.l3, rd_nat]
      rw [ej]
      simp only [rdSh_nat]
      have hm2 : u.getD j z61 ∈ u := by rw [List.getD_eq_getElem?_getD, List.getElem?_eq_getElem hj]; exact List.getElem_mem hj
      have hx := sheet_of ((sheets_of hb).2 _ hm2)
      unfold missV at hv
      rw [Bool.and_eq_true] at hv
      have h1 := of_decide_eq_true hv.1
      have h2 := of_decide_eq_true hv.2
      rw [if_pos (by omega), if_pos (by omega), if_pos (by omega), if_pos (by omega), if_neg (by omega), w64 (x := _ - _) (by omega) (by omega), if_neg (by omega)])
    (fun k => by simp only [Fd.l3]; rw [if_neg (by omega)])
    (missM u).1.length k 0 (by omega) (by omega)
  exact e
theorem sheets_miss {k : Nat} {l : List Int} (hs : curOk l) (hk : 1100000 < k) : ((Fs.f k l).bind fun t132 => ((Fm.f k t132).bind fun bt135 => ((Fn.f k t132).bind fun bt139 => (if (bt135.2 != bt139.2) = true then (Fd.j8 k t132 bt135.1 true) else ((Fv.f k bt135.1 bt139.1).bind fun t143 => (Fd.j8 k t132 bt135.1 (!t143))))))) = some true := by
  obtain ⟨u, p1, h1, e1, hu, b1, b2⟩ := workSheets_ex (k := k) 0 hs (by omega)
  have hd : Fs.f k l = some u := by simp only [Fs.f, Faf.f, e1, Option.bind_some]
  have hlen := missM_len u
  simp only [hd, Option.bind_some, missI_eq (k := k) (l := u) (by omega) (by omega), missS_eq (k := k) (l := u) (by omega) (by omega), bne_self_eq_false, Bool.false_eq_true, if_false, rInts_refl (k := k) (l := (missM u).1) (by omega) (by omega), Bool.not_true]
  exact sheets_j8 hu (by omega)
theorem j_loop2 {k : Nat} {l : List Int} {x : List S61} {w most : Int} {fine : Bool} (hs : curOk l) (hx : x.length ≤ 14) (hf : fine = true → ∀ i, i < x.length → (x.getD i z61).f0 = w → wrap64 ((x.getD i z61).f2 - (x.getD i z61).f3) ≤ most) (hk : 1200000 < k) : Fd.l2 k l x w fine most 0 = some true := by
  cases fine
  · obtain ⟨k, rfl, _⟩ := succ_of hk
    obtain ⟨k, rfl, _⟩ := succ_of (show 0 < k by omega)
    simp only [Fd.l2, Fd.j7, Bool.false_eq_true, if_false, ite_self]
    exact sheets_miss hs (by omega)
  · have hf := hf rfl
    have : ∀ (m k i : Nat), i + m = x.length → 1100100 + 2 * m < k → Fd.l2 k l x w true most (i : Int) = some true := by
      intro m
      induction m with
      | zero =>
        intro k i hi hk
        obtain ⟨k, rfl, _⟩ := succ_of (show 0 < k by omega)
        obtain ⟨k, rfl, _⟩ := succ_of (show 0 < k by omega)
        rw [Fd.l2, if_neg (by omega), Fd.j7, if_neg (by simp)]
        exact sheets_miss hs (by omega)
      | succ m ih =>
        intro k i hi hk
        obtain ⟨k, rfl, _⟩ := succ_of (show 0 < k by omega)
        obtain ⟨k, rfl, _⟩ := succ_of (show 0 < k by omega)
        rw [Fd.l2, if_pos (by omega), Fd.j7, if_pos rfl, if_pos (by omega), if_pos (by omega)]
        simp only [rdSh_nat]
        by_cases g : (x.getD i z61).f0 = w
        · have := hf i (by omega) g
          rw [if_pos g, if_neg (by omega), wstep (n := x.length) (by omega) (by omega)]
          exact ih k (i + 1) (by omega) (by omega)
        · rw [if_neg g, wstep (n := x.length) (by omega) (by omega)]
          exact ih k (i + 1) (by omega) (by omega)
    exact this x.length k 0 (by omega) (by omega)
theorem j_loop1 {k : Nat} {l : List Int} {x : List S61} {w day : Int} (hs : curOk l) (hx : x.length ≤ 14) (hb : sheetsB x = true) (hday : bestM x w = (day, true)) (hk : 1300000 < k) : Fd.l1 k l x w day true (-1) 0 = some true := by
  obtain ⟨f1, f2, f3⟩ := best_fact (l := x) (w := w) (0, -1)
  unfold bestM at hday
  rw [if_pos hb] at hday
  have hfine : 0 ≤ (x.foldl (bestF w) (0, -1)).2 := of_decide_eq_true (Prod.mk.inj hday).2
  have hd := (Prod.mk.inj hday).1
  rcases f3 with e | ⟨y, hy, hy0, e⟩
  · rw [e] at hfine; simp at hfine
  rw [e] at hd f2
  simp only at hd f2
  obtain ⟨q, hq, ey⟩ := List.mem_iff_getElem.mp hy
  have ey : x.getD q z61 = y := by rw [List.getD_eq_getElem?_getD, List.getElem?_eq_getElem hq]; exact ey
  have hsh := sheets_of hb
  have hby := sheet_of (hsh.2 y hy)
  have : ∀ (m k i : Nat) (most : Int), i + m = x.length → 1250000 + 2 * m < k → (q < i → most = y.f2 - y.f3) → Fd.l1 k l x w day true most (i : Int) = some true := by
    intro m
    induction m with
    | zero =>
      intro k i most hi hk hm
      obtain ⟨k, rfl, _⟩ := succ_of (show 0 < k by omega)
      obtain ⟨k, rfl, _⟩ := succ_of (show 0 < k by omega)
      rw [Fd.l1, if_neg (by omega), Fd.j5, if_neg (by simp)]
      refine j_loop2 hs hx (fun _ j hj hw => ?_) (by omega)
      have hm2 : x.getD j z61 ∈ x := by rw [List.getD_eq_getElem?_getD, List.getElem?_eq_getElem hj]; exact List.getElem_mem hj
      have hbj := sheet_of (hsh.2 _ hm2)
      rw [w64 (by omega) (by omega), hm (by omega)]
      exact f2 _ hm2 hw
    | succ m ih =>
      intro k i most hi hk hm
      obtain ⟨k, rfl, _⟩ := succ_of (show 0 < k by omega)
      obtain ⟨k, rfl, _⟩ := succ_of (show 0 < k by omega)
      rw [Fd.l1, if_pos (by omega), Fd.j5, if_pos rfl, if_pos (by omega), if_pos (by omega)]
      simp only [rdSh_nat]
      rw [wstep (n := x.length) (by omega) (by omega)]
      by_cases g : (x.getD i z61).f0 = w
      · rw [if_pos g]
        by_cases g2 : (x.getD i z61).f1 = day
        · rw [if_pos g2]
          have e2 : i = q := uniqSh hb (by omega) hq (by rw [g, ey, hy0]) (by rw [g2, ey, ← hd])
          subst e2
          rw [ey, w64 (by omega) (by omega)]
          exact ih k (i + 1) _ (by omega) (by omega) (fun _ => rfl)
        · rw [if_neg g2]
          refine ih k (i + 1) _ (by omega) (by omega) (fun hqi => hm ?_)
          by_cases e3 : q = i
          · subst e3; rw [ey] at g2; exact absurd hd g2
          · omega
      · rw [if_neg g]
        refine ih k (i + 1) _ (by omega) (by omega) (fun hqi => hm ?_)
        by_cases e3 : q = i
        · subst e3; rw [ey] at g; exact absurd hy0 g
        · omega
  exact this x.length k 0 (-1) (by omega) (by omega) (fun h => by omega)
theorem sheets_j3 {k : Nat} {l : List Int} {x : List S61} {w : Int} (hs : curOk l) (hx : x.length ≤ 14) (hk : 1400000 < k) : Fd.j3 k l x w (bestM x w).1 (bestM x w).2 false = some true := by
  obtain ⟨k, rfl, _⟩ := succ_of hk
  simp only [Fd.j3, Bool.false_eq_true, if_false]
  cases hf : (bestM x w).2
  · obtain ⟨k, rfl, _⟩ := succ_of (show 0 < k by omega)
    obtain ⟨k, rfl, _⟩ := succ_of (show 0 < k by omega)
    simp only [Fd.l1, Fd.j5, Bool.false_eq_true, if_false, ite_self]
    exact j_loop2 hs hx (fun h => absurd h (by simp)) (by omega)
  · have hb : sheetsB x = true := by
      unfold bestM at hf
      by_cases g : sheetsB x = true
      · exact g
      · rw [if_neg g] at hf; simp at hf
    exact j_loop1 hs hx hb (Prod.ext rfl hf) (by omega)
theorem sheets_best {k : Nat} {l : List Int} (hs : curOk l) (hk : 1500000 < k) : ((Fu.f k l).bind fun bt117 => ((Fl.f k bt117.1 bt117.2).bind fun bt121 => ((Fr.f k bt117.1 bt117.2).bind fun bt123 => (if bt121.1 = bt123.1 then (Fd.j3 k l bt117.1 bt117.2 bt121.1 bt121.2 (bt121.2 != bt123.2)) else (Fd.j3 k l bt117.1 bt117.2 bt121.1 bt121.2 true))))) = some true := by
  obtain ⟨x, p1, h1, e1, hx, b1, b2⟩ := workSheets_ex (k := k) 0 hs (by omega)
  obtain ⟨w, p2, h2, e2, b3, _⟩ := among_ex h1 [1, 1, 2, 3, 50, 0] hs (p := p1) (by omega) (by simp)
  have hd : Fu.f k l = some (x, w) := by simp only [Fu.f, e1, e2, Option.bind_some]
  simp only [hd, Option.bind_some, bestI_eq (k := k) (l := x) (by omega) (by omega) w, bestS_eq (k := k) (l := x) (by omega) (by omega) w, bne_self_eq_false, if_true]
  exact sheets_j3 hs hx (by omega)
theorem FnSheets : Fd.Pure := by
  intro l hl
  obtain ⟨k, hk⟩ : ∃ k, k = 2100000 := ⟨_, rfl⟩
  refine ⟨k, ?_⟩
  simp only [Fd.f, Fax.f, Option.bind_some]
  by_cases hbig : (l.length : Int) > 65536
  · rw [decide_eq_true hbig, if_pos rfl]
  rw [decide_eq_false hbig, if_neg (by simp)]
  have hs : curOk l := ⟨by omega, fun y hy => wf8 (hl.2 y hy)⟩
  obtain ⟨x, p1, h1, e1, hx, b1, b2⟩ := workSheets_ex (k := k) 0 hs (by omega)
  have hd : Fp.f k l = some x := by simp only [Fp.f, Faf.f, e1, Option.bind_some]
  have hlen := carefulM_len x
  have hok : (carefulM x).2 = sheetsB x := by
    unfold carefulM
    cases sheetsB x <;> rfl
  simp only [hd, Option.bind_some, carefulI_eq (k := k) (l := x) (by omega) (by omega), carefulS_eq (k := k) (l := x) (by omega) (by omega), bne_self_eq_false, Bool.false_eq_true, if_false, rInts_refl (k := k) (l := (carefulM x).1) (by omega) (by omega), if_true, sheetsI_eq (k := k) (l := x) (by omega) (by omega), hok]
  obtain ⟨k, rfl, hk2⟩ := succ_of (show 2099999 < k by omega)
  simp only [Fd.j0, Bool.false_eq_true, if_false]
  cases hb : sheetsB x
  · obtain ⟨k, rfl, _⟩ := succ_of (show 0 < k by omega)
    obtain ⟨k, rfl, _⟩ := succ_of (show 0 < k by omega)
    simp only [Fd.l0, Fd.j2, Bool.false_eq_true, if_false, ite_self]
    exact sheets_best hs (by omega)
  · have hO : ∀ i, i < x.length → ((carefulM x).1.any fun y => decide (y = (x.getD i z61).f0)) = true := by
      intro i hi
      rw [List.any_eq_true]
      refine ⟨(x.getD i z61).f0, ?_, by simp⟩
      unfold carefulM
      rw [if_pos hb]
      simp only
      rw [(isortB_perm (ltC x) (weaversM x) []).mem_iff, List.nil_append, weaversM_mem, List.mem_map]
      refine ⟨x.getD i z61, ?_, rfl⟩
      rw [List.getD_eq_getElem?_getD, List.getElem?_eq_getElem hi]; exact List.getElem_mem hi
    have : ∀ (m k i : Nat), i + m = x.length → 1600000 + 2 * m < k → Fd.l0 k l x (carefulM x).1 true (i : Int) = some true := by
      intro m
      induction m with
      | zero =>
        intro k i hi hk
        obtain ⟨k, rfl, _⟩ := succ_of (show 0 < k by omega)
        obtain ⟨k, rfl, _⟩ := succ_of (show 0 < k by omega)
        rw [Fd.l0, if_neg (by omega), Fd.j2, if_neg (by simp)]
        exact sheets_best hs (by omega)
      | succ m ih =>
        intro k i hi hk
        obtain ⟨k, rfl, _⟩ := succ_of (show 0 < k by omega)
        obtain ⟨k, rfl, _⟩ := succ_of (show 0 < k by omega)
        rw [Fd.l0, if_pos (by omega), Fd.j2, if_pos rfl, if_pos (by omega), if_pos (by omega)]
        simp only [rdSh_nat]
        rw [rHas_eq (k := k) (by omega) (by omega), hO i (by omega), wstep (n := x.length) (by omega) (by omega)]
        simp only [Option.bind_some, if_true]
        exact ih k (i + 1) (by omega) (by omega)
    exact this x.length k 0 (by omega) (by omega)
end Go.Proofs.Ytbfhphobnngeaaa.Pure

namespace Go.Proofs.Open
open Go.RowKit Go.WideShapes Go.Proofs.YtbfhphobnngeaaaW.PrintWords
set_option linter.unusedVariables false
theorem mapM_cons_some {α β : Type} {f : α → Option β} {a : α} {l : List α} {ys : List β} (h : (a :: l).mapM f = some ys) : ∃ y ys', f a = some y ∧ l.mapM f = some ys' ∧ ys = y :: ys' := by
  rw [List.mapM_cons] at h
  obtain ⟨y, hy, h⟩ := Option.bind_eq_some_iff.mp h
  obtain ⟨ys', hys, h⟩ := Option.bind_eq_some_iff.mp h
  exact ⟨y, ys', hy, hys, (Option.some.inj h).symm⟩
theorem mapM_some_get {α β : Type} {f : α → Option β} : ∀ {l : List α} {ys : List β}, l.mapM f = some ys → ys.length = l.length ∧ ∀ (i : Nat) (a : α), l[i]? = some a → ∃ y, f a = some y ∧ ys[i]? = some y
  | [], ys, h => by
    obtain rfl : ys = [] := by simpa using h
    exact ⟨rfl, fun i a h => by simp at h⟩
  | a :: l, ys, h => by
    obtain ⟨y, ys', hy, hys, rfl⟩ := mapM_cons_some h
    obtain ⟨hl, hg⟩ := mapM_some_get hys
    refine ⟨by simp [hl], fun i b hb => ?_⟩
    cases i with
    | zero => obtain rfl : a = b := by simpa using hb
              exact ⟨y, hy, rfl⟩
    | succ i => exact hg i b (by simpa using hb)
theorem cells_get {w : World} {base n : Nat} {a : Addr} {cs : List Value} (h : w.cells? base a n = some cs) : cs.length = n ∧ ∀ i u, cs[i]? = some u → w.cell? (a.add i) = some u := by
  unfold World.cells? at h
  split at h
  · obtain ⟨hl, hg⟩ := mapM_some_get h
    rw [List.length_range] at hl
    refine ⟨hl, fun i u hu => ?_⟩
    have hi : i < n := by have := (List.getElem?_eq_some_iff.1 hu).1; omega
    obtain ⟨y, hy, hy2⟩ := hg i i (by simp [List.getElem?_range hi])
    rw [hu] at hy2
    injection hy2 with hy2
    rw [hy2]; exact hy
  · cases h
theorem add_add (a : Addr) (i j : Nat) : (a.add i).add j = a.add (i + j) := by
  by_cases hi : i = 0
  · subst hi
    rw [Nat.zero_add, show a.add 0 = a by unfold Addr.add; simp]
  · by_cases hj : j = 0
    · subst hj
      rw [Nat.add_zero, show (a.add i).add 0 = a.add i by unfold Addr.add; simp]
    · unfold Addr.add
      simp [hi, hj, Nat.add_assoc]
/-- Whatever reads as a datum of type t is an x of kind d, within ok. -/
structure Opens {α : Type} (P : Program) (W : World) (t : TypeId) (d : Kd α) (ok : α → Prop) : Prop where
  get : ∀ {H : Type} (enc : TypeId × Value → H) (base : Nat) (spare : Nat → Bool) (held : Bool) (fuel : Nat) (cs : List Value) (y : DataW H × List MemPlace), DataW.trod enc P W base spare held fuel t cs = some y → ∃ x, d.K W x cs ∧ ok x
theorem Opens.int {P : Program} {W : World} {t : TypeId} {k : IntKind} (hu : P.underlying t = some (.int k)) : Opens P W t (Kd.int k) (fun x => (Lit.int k x).wf = true) := ⟨by
  intro H enc base spare held fuel cs y h
  cases fuel with
  | zero => simp [DataW.trod] at h
  | succ fuel =>
    simp only [DataW.trod, hu] at h
    split at h <;> first | (cases h; done) | skip
    all_goals rename_i heq
    all_goals first | (cases heq; done) | skip
    rename_i k0 k' n
    injection heq with heq
    injection heq with heq
    subst heq
    split at h
    · rename_i hk
      obtain ⟨rfl, hw⟩ := hk
      exact ⟨n, rfl, hw⟩
    · cases h⟩
theorem Opens.bool {P : Program} {W : World} {t : TypeId} (hu : P.underlying t = some .bool) : Opens P W t Kd.bool (fun _ => True) := ⟨by
  intro H enc base spare held fuel cs y h
  cases fuel with
  | zero => simp [DataW.trod] at h
  | succ fuel =>
    simp only [DataW.trod, hu] at h
    split at h <;> first | (cases h; done) | skip
    all_goals rename_i heq
    all_goals first | (cases heq; done) | skip
    rename_i b
    exact ⟨b, rfl, trivial⟩⟩
theorem Opens.string {P : Program} {W : World} {t : TypeId} (hu : P.underlying t = some .string) : Opens P W t Kd.string (fun s => s.size ≤ 9223372036854775807) := ⟨by
  intro H enc base spare held fuel cs y h
  cases fuel with
  | zero => simp [DataW.trod] at h
  | succ fuel =>
    simp only [DataW.trod, hu] at h
    split at h <;> first | (cases h; done) | skip
    all_goals rename_i heq
    all_goals first | (cases heq; done) | skip
    rename_i s
    split at h
    · rename_i hs
      exact ⟨s, rfl, by simpa [maxLen] using hs⟩
    · cases h⟩
theorem pick {α : Type} {n : Nat} {Q : Nat → α → Prop} (h : ∀ i, i < n → ∃ x, Q i x) : ∃ xs : List α, xs.length = n ∧ ∀ i x, xs[i]? = some x → Q i x := by
  induction n with
  | zero => exact ⟨[], rfl, fun i x h => by simp at h⟩
  | succ n ih =>
    obtain ⟨xs, hl, hq⟩ := ih (fun i hi => h i (by omega))
    obtain ⟨x, hx⟩ := h n (by omega)
    refine ⟨xs ++ [x], by simp [hl], fun i z hz => ?_⟩
    by_cases hi : i < n
    · rw [List.getElem?_append_left (by omega)] at hz
      exact hq i z hz
    · have hlt := (List.getElem?_eq_some_iff.1 hz).1
      simp [hl] at hlt
      obtain rfl : i = n := by omega
      rw [List.getElem?_append_right (by omega), hl, Nat.sub_self] at hz
      obtain rfl : x = z := by simpa using hz
      exact hx
theorem Opens.slice {α : Type} {P : Program} {W : World} {t e : TypeId} {d : Kd α} {ok : α → Prop} (hu : P.underlying t = some (.slice e)) (hc : P.cellsOf e = d.sz) (h : Opens P W e d ok) :
    Opens P W t (Kd.slice e d) (fun l => l.length ≤ 9223372036854775807 ∧ ∀ x ∈ l, ok x) := ⟨by
  intro H enc base spare held fuel cs y hd
  cases fuel with
  | zero => simp [DataW.trod] at hd
  | succ fuel =>
    simp only [DataW.trod, hu] at hd
    split at hd <;> first | (cases hd; done) | skip
    all_goals rename_i heq
    all_goals first | (cases heq; done) | skip
    · exact ⟨[], ⟨none, 0, rfl, Nat.le_refl _, rfl, by simp, fun hp => absurd hp (by simp)⟩, by simp, fun x hx => by simp at hx⟩
    · rename_i e' a len cap
      injection heq with heq
      injection heq with heq
      subst heq
      split at hd
      · rename_i hb
        obtain ⟨hb1, hb2, hb3⟩ := hb
        obtain ⟨elems, hel, _⟩ := Option.bind_eq_some_iff.mp hd
        obtain ⟨hl, hg⟩ := mapM_some_get hel
        rw [List.length_range] at hl
        have hm : len ≤ 9223372036854775807 := by have : cap ≤ 9223372036854775807 := by simpa [maxLen] using hb3
                                                  omega
        obtain ⟨xs, hxl, hxs⟩ := pick (n := len) (Q := fun i x => ∃ c, c.length = d.sz ∧ d.K W x c ∧ ok x ∧ ∀ j u, c[j]? = some u → W.cell? (a.add (i * d.sz + j)) = some u) (fun i hi => by
          obtain ⟨z, hz, _⟩ := hg i i (by simp [List.getElem?_range hi])
          obtain ⟨c, hcc, hct⟩ := Option.bind_eq_some_iff.mp hz
          obtain ⟨x, hK, hok⟩ := h.get enc base spare held fuel c z hct
          obtain ⟨hcl, hcell⟩ := cells_get hcc
          refine ⟨x, c, by rw [hcl, hc], hK, hok, fun j u hu => ?_⟩
          have := hcell j u hu
          rw [add_add, hc] at this
          exact this)
        refine ⟨xs, ⟨some a, cap, by rw [hxl], by omega, rfl, by omega, fun _ => ⟨a, rfl, fun j p hj => ?_⟩⟩, by omega, fun x hx => ?_⟩
        · obtain ⟨c, h1, h2, h3, h4⟩ := hxs j p hj
          exact ⟨c, h1, h2, h4⟩
        · obtain ⟨j, hj, rfl⟩ := List.mem_iff_getElem.mp hx
          obtain ⟨c, h1, h2, h3, h4⟩ := hxs j _ (List.getElem?_eq_getElem hj)
          exact h3
      · cases hd⟩
/-- The fields from an offset on. -/
structure OpensAt {α : Type} (P : Program) (W : World) (fs : List Field) (off : Nat) (d : Kd α) (ok : α → Prop) : Prop where
  get : ∀ {H : Type} (enc : TypeId × Value → H) (base : Nat) (spare : Nat → Bool) (held : Bool) (fuel : Nat) (cs : List Value) (ys : List (DataW H × List MemPlace)), cs.length = off + d.sz →
    (fs.mapM fun f => DataW.trod enc P W base spare held fuel f.type ((cs.drop f.offset).take (P.cellsOf f.type))) = some ys → ∃ x, d.K W x (cs.drop off) ∧ ok x
theorem OpensAt.one {α : Type} {P : Program} {W : World} {f : Field} {off : Nat} {d : Kd α} {ok : α → Prop} (ho : f.offset = off) (hc : P.cellsOf f.type = d.sz) (h : Opens P W f.type d ok) : OpensAt P W [f] off d ok := ⟨by
  intro H enc base spare held fuel cs ys hl hm
  obtain ⟨y, _, hy, _, _⟩ := mapM_cons_some hm
  rw [ho, hc, List.take_of_length_le (by rw [List.length_drop]; omega)] at hy
  exact h.get enc base spare held fuel _ y hy⟩
theorem OpensAt.cons {α β : Type} {P : Program} {W : World} {f : Field} {fs : List Field} {off : Nat} {d : Kd α} {d2 : Kd β} {ok : α → Prop} {ok2 : β → Prop} (ho : f.offset = off) (hc : P.cellsOf f.type = d.sz) (h : Opens P W f.type d ok) (h2 : OpensAt P W fs (off + d.sz) d2 ok2) :
    OpensAt P W (f :: fs) off (Kd.pair d d2) (fun x => ok x.1 ∧ ok2 x.2) := ⟨by
  intro H enc base spare held fuel cs ys hl hm
  have hl2 : cs.length = off + (d.sz + d2.sz) := hl
  obtain ⟨y, ys', hy, hys, _⟩ := mapM_cons_some hm
  rw [ho, hc] at hy
  obtain ⟨x, hK, hok⟩ := h.get enc base spare held fuel _ y hy
  obtain ⟨x2, hK2, hok2⟩ := h2.get enc base spare held fuel cs ys' (by omega) hys
  refine ⟨(x, x2), ⟨(cs.drop off).take d.sz, cs.drop (off + d.sz), ?_, hK, hK2⟩, hok, hok2⟩
  rw [← List.drop_drop, List.take_append_drop]⟩
theorem Opens.struct {α : Type} {P : Program} {W : World} {t : TypeId} {fs : Array Field} {d : Kd α} {ok : α → Prop} (hu : P.underlying t = some (.struct fs)) (hc : P.cellsOf t = d.sz) (h : OpensAt P W fs.toList 0 d ok) : Opens P W t d ok := ⟨by
  intro H enc base spare held fuel cs y hd
  cases fuel with
  | zero => simp [DataW.trod] at hd
  | succ fuel =>
    simp only [DataW.trod, hu] at hd
    split at hd
    · rename_i hl
      obtain ⟨ys, hys, _⟩ := Option.map_eq_some_iff.mp hd
      exact h.get enc base spare held fuel cs ys (by omega) hys
    · cases hd⟩
theorem Opens.iso {α β : Type} {P : Program} {W : World} {t : TypeId} {d : Kd α} {f : β → α} {ok : α → Prop} (h : Opens P W t d ok) (g : α → β) (hg : ∀ x, f (g x) = x) : Opens P W t (Kd.iso d f) (fun y => ok (f y)) := ⟨by
  intro H enc base spare held fuel cs y hd
  obtain ⟨x, hK, hok⟩ := h.get enc base spare held fuel cs y hd
  refine ⟨g x, ?_, ?_⟩
  · show d.K W (f (g x)) cs
    rw [hg]; exact hK
  · rw [hg]; exact hok⟩
theorem wf_i64 {x : Int} (h : (Lit.int .i64 x).wf = true) : -9223372036854775808 ≤ x ∧ x ≤ 9223372036854775807 := by
  have h1 := h
  simp [Lit.wf] at h1
  exact ⟨h1.1, h1.2⟩
end Go.Proofs.Open

namespace Go.Proofs.Ytbfhphobnngeaaa.X
open Ho (bS eS)
open Go.RowKit Go.Proofs.YtbfhphobnngeaaaW.PrintWords Go.Proofs.YtbfhphobnngeaaaW.PrintLast Go.Proofs.YtbfhphobnngeaaaW.PrintMore
attribute [local go_sem] max2_int min2_int max_two min_two max_three min_three max_four min_four   -- for this text's walks alone
set_option linter.unusedVariables false
set_option linter.unusedSimpArgs false
def ok24 (x : S24) : Prop := (Lit.int .i64 x.f0).wf = true ∧ (Lit.int .i64 x.f1).wf = true ∧ (x.f2.length ≤ 9223372036854775807 ∧ ∀ y_ ∈ x.f2, (Lit.int .i64 y_).wf = true)
theorem opens24 (W : World) : Open.Opens Try.prog W 24 k24 ok24 := ⟨fun enc base spare held fuel cs y h => by
  obtain ⟨x, hK, hok⟩ := (Open.Opens.iso (f := fun x : S24 => (x.f0, x.f1, x.f2)) (Open.Opens.struct Try.underlying24 (by kernel_rfl) (Open.OpensAt.cons rfl (by kernel_rfl) (Open.Opens.int Try.underlying3) (Open.OpensAt.cons rfl (by kernel_rfl) (Open.Opens.int Try.underlying3) (Open.OpensAt.one rfl (by kernel_rfl) (Open.Opens.slice Try.underlying22 (by kernel_rfl) (Open.Opens.int Try.underlying3)))))) (fun x => ⟨x.1, x.2.1, x.2.2⟩) (fun x => rfl)).get enc base spare held fuel cs y h
  exact ⟨x, hK, hok⟩⟩
def ok67 (x : S67) : Prop := (Lit.int .i64 x.f0).wf = true ∧ (Lit.int .i64 x.f1).wf = true ∧ (Lit.int .i64 x.f2).wf = true ∧ (Lit.int .i64 x.f3).wf = true
theorem opens67 (W : World) : Open.Opens Try.prog W 67 k67 ok67 := ⟨fun enc base spare held fuel cs y h => by
  obtain ⟨x, hK, hok⟩ := (Open.Opens.iso (f := fun x : S67 => (x.f0, x.f1, x.f2, x.f3)) (Open.Opens.struct Try.underlying67 (by kernel_rfl) (Open.OpensAt.cons rfl (by kernel_rfl) (Open.Opens.int Try.underlying3) (Open.OpensAt.cons rfl (by kernel_rfl) (Open.Opens.int Try.underlying3) (Open.OpensAt.cons rfl (by kernel_rfl) (Open.Opens.int Try.underlying3) (Open.OpensAt.one rfl (by kernel_rfl) (Open.Opens.int Try.underlying3)))))) (fun x => ⟨x.1, x.2.1, x.2.2.1, x.2.2.2⟩) (fun x => rfl)).get enc base spare held fuel cs y h
  exact ⟨x, hK, hok⟩⟩
end Go.Proofs.Ytbfhphobnngeaaa.X
