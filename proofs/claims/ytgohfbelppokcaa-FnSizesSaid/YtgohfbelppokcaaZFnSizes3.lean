/- What the law FnSizes needs, part 4 of 5: what each function of the program that it reaches returns (printed by this session's own program, checked by Lean), and plain mathematics about it. Conditions: those of each theorem. -/
import Derived.Test.YtgohfbelppokcaaZFnSizes2
import Derived.Test.YtgohfbelppokcaaYG
-- XlawsFnSizesF13
namespace Go.Proofs.Ytgohfbelppokcaa.X
open Ho (bS eS)
open Go.RowKit Go.Proofs.YtgohfbelppokcaaW.PrintWords Go.Proofs.YtgohfbelppokcaaW.PrintLast Go.Proofs.YtgohfbelppokcaaW.PrintMore
attribute [local go_sem] max2_int min2_int max_two min_two max_three min_three max_four min_four   -- for this text's walks alone
set_option linter.unusedVariables false
set_option linter.unusedSimpArgs false

attribute [local go_sem ↓] Ho.isSome_setCell_   -- a store leaves all places there
/-! ### laws_FnSizes: function 13 -/
mutual
def laws_FnSizes.j0 : Nat → List Int → Int → Int → Int → Int → Bool → Bool → Int → Int → Int → Option (Bool)
  | 0, _, _, _, _, _, _, _, _, _, _ => none
  | k + 1, x0, x4, x5, x6, x7, x8, x78, x108000, x108001, x108002 => if x78 = true then (some false) else (if x8 = true then (if (wrap64 ((wrap64 (100 * x6)) + (wrap64 ((wrap64 (2 * x108002)) * x108000)))) > (wrap64 (x4 * x108000)) then (some false) else (if (wrap64 ((wrap64 (100 * (wrap64 (x6 + 1)))) + (wrap64 ((wrap64 (2 * x108002)) * x108000)))) ≤ (wrap64 (x4 * x108000)) then (some false) else (if (wrap64 ((wrap64 (100 * x7)) + (wrap64 ((wrap64 (2 * x108002)) * x108001)))) > (wrap64 (x5 * x108001)) then (some false) else (if (wrap64 ((wrap64 (100 * (wrap64 (x7 + 1)))) + (wrap64 ((wrap64 (2 * x108002)) * x108001)))) ≤ (wrap64 (x5 * x108001)) then (some false) else (laws_FnSizes.j1 k x0))))) else (laws_FnSizes.j1 k x0))
def laws_FnSizes.j1 : Nat → List Int → Option (Bool)
  | 0, _ => none
  | k + 1, x0 => (spec_DrawSizeOf.f k x0).bind fun bt116 => ((impl_SizeOf.f k bt116.1 bt116.2.1 bt116.2.2.1 bt116.2.2.2.1 bt116.2.2.2.2.1 bt116.2.2.2.2.2).bind fun bt126 => ((spec_SizeOf.f k bt116.1 bt116.2.1 bt116.2.2.1 bt116.2.2.2.1 bt116.2.2.2.2.1 bt116.2.2.2.2.2).bind fun bt131 => (if bt126.1 = bt131.1 then (if bt126.2.1 = bt131.2.1 then (if bt126.2.2.1 = bt131.2.2.1 then (if bt126.2.2.2.1 = bt131.2.2.2.1 then (laws_FnSizes.j2 k x0 bt126.1 bt126.2.1 bt126.2.2.1 bt126.2.2.2.1 bt126.2.2.2.2 (bt126.2.2.2.2 != bt131.2.2.2.2) bt116.1 bt116.2.1 bt116.2.2.1 bt116.2.2.2.1 bt116.2.2.2.2.1 bt116.2.2.2.2.2) else (laws_FnSizes.j2 k x0 bt126.1 bt126.2.1 bt126.2.2.1 bt126.2.2.2.1 bt126.2.2.2.2 true bt116.1 bt116.2.1 bt116.2.2.1 bt116.2.2.2.1 bt116.2.2.2.2.1 bt116.2.2.2.2.2)) else (laws_FnSizes.j2 k x0 bt126.1 bt126.2.1 bt126.2.2.1 bt126.2.2.2.1 bt126.2.2.2.2 true bt116.1 bt116.2.1 bt116.2.2.1 bt116.2.2.2.1 bt116.2.2.2.2.1 bt116.2.2.2.2.2)) else (laws_FnSizes.j2 k x0 bt126.1 bt126.2.1 bt126.2.2.1 bt126.2.2.2.1 bt126.2.2.2.2 true bt116.1 bt116.2.1 bt116.2.2.1 bt116.2.2.2.1 bt116.2.2.2.2.1 bt116.2.2.2.2.2)) else (laws_FnSizes.j2 k x0 bt126.1 bt126.2.1 bt126.2.2.1 bt126.2.2.2.1 bt126.2.2.2.2 true bt116.1 bt116.2.1 bt116.2.2.1 bt116.2.2.2.1 bt116.2.2.2.2.1 bt116.2.2.2.2.2))))
def laws_FnSizes.j2 : Nat → List Int → Int → Int → Int → Int → Bool → Bool → Int → Int → List Int → Int → Int → Int → Option (Bool)
  | 0, _, _, _, _, _, _, _, _, _, _, _, _, _ => none
  | k + 1, x0, x14, x15, x16, x17, x18, x189, x125000, x125001, x125002, x126000, x126001, x126002 => if x189 = true then (some false) else ((impl_AspectOf.f k x125000 x125001 x125002 x126000 x126001 x126002).bind fun bt136 => ((spec_AspectOf.f k x125000 x125001 x125002 x126000 x126001 x126002).bind fun bt139 => (if bt136.1 = bt139.1 then (if bt136.2.1 = bt139.2.1 then (if (bt136.2.2 != bt139.2.2) = true then (laws_FnSizes.j3 k x0 true) else (if (bt136.2.2 != x18) = true then (laws_FnSizes.j3 k x0 true) else (if x18 = true then (laws_FnSizes.j3 k x0 ((wrap64 ((wrap64 (bt136.1 * x15)) * x16)) != (wrap64 ((wrap64 (bt136.2.1 * x14)) * x17)))) else (laws_FnSizes.j3 k x0 false)))) else (laws_FnSizes.j3 k x0 true)) else (laws_FnSizes.j3 k x0 true))))
def laws_FnSizes.j3 : Nat → List Int → Bool → Option (Bool)
  | 0, _, _ => none
  | k + 1, x0, x237 => if x237 = true then (some false) else ((spec_DrawKnotsPerArea.f x0).bind fun bt142 => ((impl_KnotsPerArea.f bt142.1 bt142.2.1 bt142.2.2).bind fun bt146 => ((spec_KnotsPerArea.f bt142.1 bt142.2.1 bt142.2.2).bind fun bt148 => (if bt146.1 = bt148.1 then (some (bt146.2 == bt148.2)) else (some false)))))
end
def laws_FnSizes.f (k : Nat) (l0 : List Int) : Option (Bool) := (laws_vBig.f l0).bind fun t101 => (if t101 = true then (some true) else ((spec_DrawKnotsForSize.f l0).bind fun bt102 => ((impl_KnotsForSize.f k bt102.1 bt102.2.1 bt102.2.2.1 bt102.2.2.2.1 bt102.2.2.2.2).bind fun bt108 => ((spec_KnotsForSize.f k bt102.1 bt102.2.1 bt102.2.2.1 bt102.2.2.2.1 bt102.2.2.2.2).bind fun bt111 => (if bt108.1 = bt111.1 then (if bt108.2.1 = bt111.2.1 then (if (bt108.2.2 != bt111.2.2) = true then (laws_FnSizes.j0 k l0 bt102.2.2.2.1 bt102.2.2.2.2 bt108.1 bt108.2.1 bt108.2.2 true bt102.1 bt102.2.1 bt102.2.2.1) else ((impl_IsGauge.f bt102.1 bt102.2.1 bt102.2.2.1).bind fun t114 => ((spec_IsGauge.f bt102.1 bt102.2.1 bt102.2.2.1).bind fun t115 => (laws_FnSizes.j0 k l0 bt102.2.2.2.1 bt102.2.2.2.2 bt108.1 bt108.2.1 bt108.2.2 (t114 != t115) bt102.1 bt102.2.1 bt102.2.2.1)))) else (laws_FnSizes.j0 k l0 bt102.2.2.2.1 bt102.2.2.2.2 bt108.1 bt108.2.1 bt108.2.2 true bt102.1 bt102.2.1 bt102.2.2.1)) else (laws_FnSizes.j0 k l0 bt102.2.2.2.1 bt102.2.2.2.2 bt108.1 bt108.2.1 bt108.2.2 true bt102.1 bt102.2.1 bt102.2.2.1))))))
theorem laws_FnSizes.mono_l : ∀ k, (∀ y0 y1 y2 y3 y4 y5 y6 y7 y8 y9, LeO (laws_FnSizes.j0 k y0 y1 y2 y3 y4 y5 y6 y7 y8 y9) (laws_FnSizes.j0 (k + 1) y0 y1 y2 y3 y4 y5 y6 y7 y8 y9)) ∧ (∀ y0, LeO (laws_FnSizes.j1 k y0) (laws_FnSizes.j1 (k + 1) y0)) ∧ (∀ y0 y1 y2 y3 y4 y5 y6 y7 y8 y9 y10 y11 y12, LeO (laws_FnSizes.j2 k y0 y1 y2 y3 y4 y5 y6 y7 y8 y9 y10 y11 y12) (laws_FnSizes.j2 (k + 1) y0 y1 y2 y3 y4 y5 y6 y7 y8 y9 y10 y11 y12)) ∧ (∀ y0 y1, LeO (laws_FnSizes.j3 k y0 y1) (laws_FnSizes.j3 (k + 1) y0 y1))
  | 0 => ⟨fun _ _ _ _ _ _ _ _ _ _ r h => by simp [laws_FnSizes.j0] at h, fun _ r h => by simp [laws_FnSizes.j1] at h, fun _ _ _ _ _ _ _ _ _ _ _ _ _ r h => by simp [laws_FnSizes.j2] at h, fun _ _ r h => by simp [laws_FnSizes.j3] at h⟩
  | k + 1 => by
    obtain ⟨ih0, ih1, ih2, ih3⟩ := laws_FnSizes.mono_l k
    refine ⟨?_, ?_, ?_, ?_⟩
    · intro y0 y1 y2 y3 y4 y5 y6 y7 y8 y9
      unfold laws_FnSizes.j0
      repeat' first
      | (with_reducible exact ih0 _ _ _ _ _ _ _ _ _ _)
      | (with_reducible exact ih1 _)
      | (with_reducible exact ih2 _ _ _ _ _ _ _ _ _ _ _ _ _)
      | (with_reducible exact ih3 _ _)
      | (with_reducible exact impl_AspectOf.mono _ _ _ _ _ _ _)
      | (with_reducible exact impl_KnotsForSize.mono _ _ _ _ _ _)
      | (with_reducible exact impl_SizeOf.mono _ _ _ _ _ _ _)
      | (with_reducible exact spec_AspectOf.mono _ _ _ _ _ _ _)
      | (with_reducible exact spec_DrawSizeOf.mono _ _)
      | (with_reducible exact spec_KnotsForSize.mono _ _ _ _ _ _)
      | (with_reducible exact spec_SizeOf.mono _ _ _ _ _ _ _)
      | (with_reducible exact LeO.refl _)
      | (with_reducible exact LeO.none _)
      | (with_reducible refine LeO.ite ?_ ?_)
      | (with_reducible refine LeO.bind ?_ (fun _ => ?_))
      | exact ih0 _ _ _ _ _ _ _ _ _ _
      | exact ih1 _
      | exact ih2 _ _ _ _ _ _ _ _ _ _ _ _ _
      | exact ih3 _ _
      | exact impl_AspectOf.mono _ _ _ _ _ _ _
      | exact impl_KnotsForSize.mono _ _ _ _ _ _
      | exact impl_SizeOf.mono _ _ _ _ _ _ _
      | exact spec_AspectOf.mono _ _ _ _ _ _ _
      | exact spec_DrawSizeOf.mono _ _
      | exact spec_KnotsForSize.mono _ _ _ _ _ _
      | exact spec_SizeOf.mono _ _ _ _ _ _ _
      | exact LeO.none _
      | refine LeO.ite ?_ ?_
      | refine LeO.bind ?_ (fun _ => ?_)
    · intro y0
      unfold laws_FnSizes.j1
      repeat' first
      | (with_reducible exact ih0 _ _ _ _ _ _ _ _ _ _)
      | (with_reducible exact ih1 _)
      | (with_reducible exact ih2 _ _ _ _ _ _ _ _ _ _ _ _ _)
      | (with_reducible exact ih3 _ _)
      | (with_reducible exact impl_AspectOf.mono _ _ _ _ _ _ _)
      | (with_reducible exact impl_KnotsForSize.mono _ _ _ _ _ _)
      | (with_reducible exact impl_SizeOf.mono _ _ _ _ _ _ _)
      | (with_reducible exact spec_AspectOf.mono _ _ _ _ _ _ _)
      | (with_reducible exact spec_DrawSizeOf.mono _ _)
      | (with_reducible exact spec_KnotsForSize.mono _ _ _ _ _ _)
      | (with_reducible exact spec_SizeOf.mono _ _ _ _ _ _ _)
      | (with_reducible exact LeO.refl _)
      | (with_reducible exact LeO.none _)
      | (with_reducible refine LeO.ite ?_ ?_)
      | (with_reducible refine LeO.bind ?_ (fun _ => ?_))
      | exact ih0 _ _ _ _ _ _ _ _ _ _
      | exact ih1 _
      | exact ih2 _ _ _ _ _ _ _ _ _ _ _ _ _
      | exact ih3 _ _
      | exact impl_AspectOf.mono _ _ _ _ _ _ _
      | exact impl_KnotsForSize.mono _ _ _ _ _ _
      | exact impl_SizeOf.mono _ _ _ _ _ _ _
      | exact spec_AspectOf.mono _ _ _ _ _ _ _
      | exact spec_DrawSizeOf.mono _ _
      | exact spec_KnotsForSize.mono _ _ _ _ _ _
      | exact spec_SizeOf.mono _ _ _ _ _ _ _
      | exact LeO.none _
      | refine LeO.ite ?_ ?_
      | refine LeO.bind ?_ (fun _ => ?_)
    · intro y0 y1 y2 y3 y4 y5 y6 y7 y8 y9 y10 y11 y12
      unfold laws_FnSizes.j2
      repeat' first
      | (with_reducible exact ih0 _ _ _ _ _ _ _ _ _ _)
      | (with_reducible exact ih1 _)
      | (with_reducible exact ih2 _ _ _ _ _ _ _ _ _ _ _ _ _)
      | (with_reducible exact ih3 _ _)
      | (with_reducible exact impl_AspectOf.mono _ _ _ _ _ _ _)
      | (with_reducible exact impl_KnotsForSize.mono _ _ _ _ _ _)
      | (with_reducible exact impl_SizeOf.mono _ _ _ _ _ _ _)
      | (with_reducible exact spec_AspectOf.mono _ _ _ _ _ _ _)
      | (with_reducible exact spec_DrawSizeOf.mono _ _)
      | (with_reducible exact spec_KnotsForSize.mono _ _ _ _ _ _)
      | (with_reducible exact spec_SizeOf.mono _ _ _ _ _ _ _)
      | (with_reducible exact LeO.refl _)
      | (with_reducible exact LeO.none _)
      | (with_reducible refine LeO.ite ?_ ?_)
      | (with_reducible refine LeO.bind ?_ (fun _ => ?_))
      | exact ih0 _ _ _ _ _ _ _ _ _ _
      | exact ih1 _
      | exact ih2 _ _ _ _ _ _ _ _ _ _ _ _ _
      | exact ih3 _ _
      | exact impl_AspectOf.mono _ _ _ _ _ _ _
      | exact impl_KnotsForSize.mono _ _ _ _ _ _
      | exact impl_SizeOf.mono _ _ _ _ _ _ _
      | exact spec_AspectOf.mono _ _ _ _ _ _ _
      | exact spec_DrawSizeOf.mono _ _
      | exact spec_KnotsForSize.mono _ _ _ _ _ _
      | exact spec_SizeOf.mono _ _ _ _ _ _ _
      | exact LeO.none _
      | refine LeO.ite ?_ ?_
      | refine LeO.bind ?_ (fun _ => ?_)
    · intro y0 y1
      unfold laws_FnSizes.j3
      repeat' first
      | (with_reducible exact ih0 _ _ _ _ _ _ _ _ _ _)
      | (with_reducible exact ih1 _)
      | (with_reducible exact ih2 _ _ _ _ _ _ _ _ _ _ _ _ _)
      | (with_reducible exact ih3 _ _)
      | (with_reducible exact impl_AspectOf.mono _ _ _ _ _ _ _)
      | (with_reducible exact impl_KnotsForSize.mono _ _ _ _ _ _)
      | (with_reducible exact impl_SizeOf.mono _ _ _ _ _ _ _)
      | (with_reducible exact spec_AspectOf.mono _ _ _ _ _ _ _)
      | (with_reducible exact spec_DrawSizeOf.mono _ _)
      | (with_reducible exact spec_KnotsForSize.mono _ _ _ _ _ _)
      | (with_reducible exact spec_SizeOf.mono _ _ _ _ _ _ _)
      | (with_reducible exact LeO.refl _)
      | (with_reducible exact LeO.none _)
      | (with_reducible refine LeO.ite ?_ ?_)
      | (with_reducible refine LeO.bind ?_ (fun _ => ?_))
      | exact ih0 _ _ _ _ _ _ _ _ _ _
      | exact ih1 _
      | exact ih2 _ _ _ _ _ _ _ _ _ _ _ _ _
      | exact ih3 _ _
      | exact impl_AspectOf.mono _ _ _ _ _ _ _
      | exact impl_KnotsForSize.mono _ _ _ _ _ _
      | exact impl_SizeOf.mono _ _ _ _ _ _ _
      | exact spec_AspectOf.mono _ _ _ _ _ _ _
      | exact spec_DrawSizeOf.mono _ _
      | exact spec_KnotsForSize.mono _ _ _ _ _ _
      | exact spec_SizeOf.mono _ _ _ _ _ _ _
      | exact LeO.none _
      | refine LeO.ite ?_ ?_
      | refine LeO.bind ?_ (fun _ => ?_)
theorem laws_FnSizes.mono : ∀ a0 k, LeO (laws_FnSizes.f k a0) (laws_FnSizes.f (k + 1) a0) := by
  intro a0 k
  obtain ⟨ih0, ih1, ih2, ih3⟩ := laws_FnSizes.mono_l k
  unfold laws_FnSizes.f
  repeat' first
      | (with_reducible exact ih0 _ _ _ _ _ _ _ _ _ _)
      | (with_reducible exact ih1 _)
      | (with_reducible exact ih2 _ _ _ _ _ _ _ _ _ _ _ _ _)
      | (with_reducible exact ih3 _ _)
      | (with_reducible exact impl_AspectOf.mono _ _ _ _ _ _ _)
      | (with_reducible exact impl_KnotsForSize.mono _ _ _ _ _ _)
      | (with_reducible exact impl_SizeOf.mono _ _ _ _ _ _ _)
      | (with_reducible exact spec_AspectOf.mono _ _ _ _ _ _ _)
      | (with_reducible exact spec_DrawSizeOf.mono _ _)
      | (with_reducible exact spec_KnotsForSize.mono _ _ _ _ _ _)
      | (with_reducible exact spec_SizeOf.mono _ _ _ _ _ _ _)
      | (with_reducible exact LeO.refl _)
      | (with_reducible exact LeO.none _)
      | (with_reducible refine LeO.ite ?_ ?_)
      | (with_reducible refine LeO.bind ?_ (fun _ => ?_))
      | exact ih0 _ _ _ _ _ _ _ _ _ _
      | exact ih1 _
      | exact ih2 _ _ _ _ _ _ _ _ _ _ _ _ _
      | exact ih3 _ _
      | exact impl_AspectOf.mono _ _ _ _ _ _ _
      | exact impl_KnotsForSize.mono _ _ _ _ _ _
      | exact impl_SizeOf.mono _ _ _ _ _ _ _
      | exact spec_AspectOf.mono _ _ _ _ _ _ _
      | exact spec_DrawSizeOf.mono _ _
      | exact spec_KnotsForSize.mono _ _ _ _ _ _
      | exact spec_SizeOf.mono _ _ _ _ _ _ _
      | exact LeO.none _
      | refine LeO.ite ?_ ?_
      | refine LeO.bind ?_ (fun _ => ?_)
def laws_FnSizes.T6 : Bool × List (List Nat × List Nat) := (true, [([], []), ([], []), ([0, 1], [0, 1]), ([2], [2]), ([3], [3]), ([3], [3]), ([4, 5, 3], [3, 4, 5]), ([3, 6], [3, 6]), ([7, 3], [7]), ([8], [8]), ([8], [8]), ([9, 10, 8], [8, 9, 10]), ([8, 11], [8, 11]), ([12, 8], [12]), ([13], [13]), ([14, 13, 13], [13, 14]), ([13], [13]), ([16, 15, 13], [13, 16]), ([15, 17, 13], [13, 15, 17]), ([13, 18], [13, 18])])
def laws_FnSizes.B6 : List Nat := [0, 0, 3, 7, 15, 15, 63, 127, 255, 511, 511, 2047, 4095, 8191, 16383, 32767, 16383, 131071, 262143, 524287]
theorem laws_FnSizes.tab6 : rtab .any (opsOf Try.f13 6) = laws_FnSizes.T6 := by kernel_rfl
theorem laws_FnSizes.bits6 : waitsOk laws_FnSizes.T6.2 laws_FnSizes.B6 = true := by kernel_rfl
set_option maxHeartbeats 8000000 in
set_option maxRecDepth 100000 in
theorem laws_FnSizes.calls (k : Nat) (A0 : Option Addr) (c0 : Nat) (l0 : List Int) (r : Bool) (w : World) (hr0 : Kd.C (Kd.int .u8) w A0 l0.length l0) (hc0 : l0.length ≤ c0) (ht : r = true) (h : laws_FnSizes.f k l0 = some r) :
    Calls Try.prog 13 #[.slice A0 l0.length c0] w fun e w' => e = .returned (.bool r) ∧ Below w.heap.size w w' := by
  have hu25 := Try.underlying25
  have hu46 := Try.underlying46
  have HR0 := Aside0.mk hr0
  have HC0 := Aside0.mk hc0
  clear hr0 hc0
  have HB := Aside0.mk (Below.refl w.heap.size w)
  have HT := Aside0.mk ht
  clear ht
  have H : ((laws_vBig.f l0).bind fun t101 => (if t101 = true then (some true) else ((spec_DrawKnotsForSize.f l0).bind fun bt102 => ((impl_KnotsForSize.f k bt102.1 bt102.2.1 bt102.2.2.1 bt102.2.2.2.1 bt102.2.2.2.2).bind fun bt108 => ((spec_KnotsForSize.f k bt102.1 bt102.2.1 bt102.2.2.1 bt102.2.2.2.1 bt102.2.2.2.2).bind fun bt111 => (if bt108.1 = bt111.1 then (if bt108.2.1 = bt111.2.1 then (if (bt108.2.2 != bt111.2.2) = true then (laws_FnSizes.j0 k l0 bt102.2.2.2.1 bt102.2.2.2.2 bt108.1 bt108.2.1 bt108.2.2 true bt102.1 bt102.2.1 bt102.2.2.1) else ((impl_IsGauge.f bt102.1 bt102.2.1 bt102.2.2.1).bind fun t114 => ((spec_IsGauge.f bt102.1 bt102.2.1 bt102.2.2.1).bind fun t115 => (laws_FnSizes.j0 k l0 bt102.2.2.2.1 bt102.2.2.2.2 bt108.1 bt108.2.1 bt108.2.2 (t114 != t115) bt102.1 bt102.2.1 bt102.2.2.1)))) else (laws_FnSizes.j0 k l0 bt102.2.2.2.1 bt102.2.2.2.2 bt108.1 bt108.2.1 bt108.2.2 true bt102.1 bt102.2.1 bt102.2.2.1)) else (laws_FnSizes.j0 k l0 bt102.2.2.2.1 bt102.2.2.2.2 bt108.1 bt108.2.1 bt108.2.2 true bt102.1 bt102.2.1 bt102.2.2.1))))))) = some r := h
  clear h
  replace H := Option.bind_eq_some_iff.mp H
  obtain ⟨t101, A20, H⟩ := H
  replace H : (if t101 = true then (some true) else ((spec_DrawKnotsForSize.f l0).bind fun bt102 => ((impl_KnotsForSize.f k bt102.1 bt102.2.1 bt102.2.2.1 bt102.2.2.2.1 bt102.2.2.2.2).bind fun bt108 => ((spec_KnotsForSize.f k bt102.1 bt102.2.1 bt102.2.2.1 bt102.2.2.2.1 bt102.2.2.2.2).bind fun bt111 => (if bt108.1 = bt111.1 then (if bt108.2.1 = bt111.2.1 then (if (bt108.2.2 != bt111.2.2) = true then (laws_FnSizes.j0 k l0 bt102.2.2.2.1 bt102.2.2.2.2 bt108.1 bt108.2.1 bt108.2.2 true bt102.1 bt102.2.1 bt102.2.2.1) else ((impl_IsGauge.f bt102.1 bt102.2.1 bt102.2.2.1).bind fun t114 => ((spec_IsGauge.f bt102.1 bt102.2.1 bt102.2.2.1).bind fun t115 => (laws_FnSizes.j0 k l0 bt102.2.2.2.1 bt102.2.2.2.2 bt108.1 bt108.2.1 bt108.2.2 (t114 != t115) bt102.1 bt102.2.1 bt102.2.2.1)))) else (laws_FnSizes.j0 k l0 bt102.2.2.2.1 bt102.2.2.2.2 bt108.1 bt108.2.1 bt108.2.2 true bt102.1 bt102.2.1 bt102.2.2.1)) else (laws_FnSizes.j0 k l0 bt102.2.2.2.1 bt102.2.2.2.2 bt108.1 bt108.2.1 bt108.2.2 true bt102.1 bt102.2.1 bt102.2.2.1)))))) = some r := H
  have A2 := Aside0.mk A20
  clear A20
  by_cases c3 : t101 = true
  · subst c3
    have H1 : (some true) = some r := by rw [if_pos rfl] at H; exact H
    clear H
    have H := H1
    clear H1
    as_aux_lemma =>
      obtain rfl := Option.some.inj H
      go_enter Try.func13, Try.ntmps13
      go_wp2_with (first | ((with_reducible refine gate_callee (f := 40) rfl ?_); refine goesL_ (some 36) rfl rfl Try.func40 (by kernel_rfl) rfl #[.slice A0 l0.length c0] rfl (by (try simp only [List.map_toArray, List.map_cons, List.map_nil]); first | done | rfl | (simp only [List.length_drop, List.length_take]; rfl)) ?_; (with_reducible refine (laws_vBig.calls _ _ l0 true _ ?side1 ?side2 A2.out).mono ?_); (case side1 => repeat (first | exact HR0.out | (with_reducible refine Kd.C_alloc ?_ _) | (with_reducible refine Kd.C_drewN ?_ _) | (with_reducible refine Kd.C_drew ?_))); (case side2 => exact HC0.out); rintro e w' ⟨rfl, ⟨nd, rfl⟩⟩; refine ⟨_, rfl, ?_⟩))
      go_ret
      exact ⟨by first | rfl | (simp [errW_none, errW_some] <;> rfl) | (simp [*, errW_none, errW_some] <;> rfl), by exact eS HB.out⟩
  · replace c3 := Bool.eq_false_iff.mpr c3
    subst c3
    have H1 : ((spec_DrawKnotsForSize.f l0).bind fun bt102 => ((impl_KnotsForSize.f k bt102.1 bt102.2.1 bt102.2.2.1 bt102.2.2.2.1 bt102.2.2.2.2).bind fun bt108 => ((spec_KnotsForSize.f k bt102.1 bt102.2.1 bt102.2.2.1 bt102.2.2.2.1 bt102.2.2.2.2).bind fun bt111 => (if bt108.1 = bt111.1 then (if bt108.2.1 = bt111.2.1 then (if (bt108.2.2 != bt111.2.2) = true then (laws_FnSizes.j0 k l0 bt102.2.2.2.1 bt102.2.2.2.2 bt108.1 bt108.2.1 bt108.2.2 true bt102.1 bt102.2.1 bt102.2.2.1) else ((impl_IsGauge.f bt102.1 bt102.2.1 bt102.2.2.1).bind fun t114 => ((spec_IsGauge.f bt102.1 bt102.2.1 bt102.2.2.1).bind fun t115 => (laws_FnSizes.j0 k l0 bt102.2.2.2.1 bt102.2.2.2.2 bt108.1 bt108.2.1 bt108.2.2 (t114 != t115) bt102.1 bt102.2.1 bt102.2.2.1)))) else (laws_FnSizes.j0 k l0 bt102.2.2.2.1 bt102.2.2.2.2 bt108.1 bt108.2.1 bt108.2.2 true bt102.1 bt102.2.1 bt102.2.2.1)) else (laws_FnSizes.j0 k l0 bt102.2.2.2.1 bt102.2.2.2.2 bt108.1 bt108.2.1 bt108.2.2 true bt102.1 bt102.2.1 bt102.2.2.1))))) = some r := by rw [if_neg (show ¬ (false = true) by decide)] at H; exact H
    clear H
    have H := H1
    clear H1
    replace H := Option.bind_eq_some_iff.mp H
    obtain ⟨⟨t102, t103, t104, t105, t106⟩, A40, H⟩ := H
    replace H : ((impl_KnotsForSize.f k t102 t103 t104 t105 t106).bind fun bt108 => ((spec_KnotsForSize.f k t102 t103 t104 t105 t106).bind fun bt111 => (if bt108.1 = bt111.1 then (if bt108.2.1 = bt111.2.1 then (if (bt108.2.2 != bt111.2.2) = true then (laws_FnSizes.j0 k l0 t105 t106 bt108.1 bt108.2.1 bt108.2.2 true t102 t103 t104) else ((impl_IsGauge.f t102 t103 t104).bind fun t114 => ((spec_IsGauge.f t102 t103 t104).bind fun t115 => (laws_FnSizes.j0 k l0 t105 t106 bt108.1 bt108.2.1 bt108.2.2 (t114 != t115) t102 t103 t104)))) else (laws_FnSizes.j0 k l0 t105 t106 bt108.1 bt108.2.1 bt108.2.2 true t102 t103 t104)) else (laws_FnSizes.j0 k l0 t105 t106 bt108.1 bt108.2.1 bt108.2.2 true t102 t103 t104)))) = some r := H
    have A4 := Aside0.mk A40
    clear A40
    replace H := Option.bind_eq_some_iff.mp H
    obtain ⟨⟨t108, t109, t110⟩, A50, H⟩ := H
    replace H : ((spec_KnotsForSize.f k t102 t103 t104 t105 t106).bind fun bt111 => (if t108 = bt111.1 then (if t109 = bt111.2.1 then (if (t110 != bt111.2.2) = true then (laws_FnSizes.j0 k l0 t105 t106 t108 t109 t110 true t102 t103 t104) else ((impl_IsGauge.f t102 t103 t104).bind fun t114 => ((spec_IsGauge.f t102 t103 t104).bind fun t115 => (laws_FnSizes.j0 k l0 t105 t106 t108 t109 t110 (t114 != t115) t102 t103 t104)))) else (laws_FnSizes.j0 k l0 t105 t106 t108 t109 t110 true t102 t103 t104)) else (laws_FnSizes.j0 k l0 t105 t106 t108 t109 t110 true t102 t103 t104))) = some r := H
    have A5 := Aside0.mk A50
    clear A50
    replace H := Option.bind_eq_some_iff.mp H
    obtain ⟨⟨t111, t112, t113⟩, A60, H⟩ := H
    replace H : (if t108 = t111 then (if t109 = t112 then (if (t110 != t113) = true then (laws_FnSizes.j0 k l0 t105 t106 t108 t109 t110 true t102 t103 t104) else ((impl_IsGauge.f t102 t103 t104).bind fun t114 => ((spec_IsGauge.f t102 t103 t104).bind fun t115 => (laws_FnSizes.j0 k l0 t105 t106 t108 t109 t110 (t114 != t115) t102 t103 t104)))) else (laws_FnSizes.j0 k l0 t105 t106 t108 t109 t110 true t102 t103 t104)) else (laws_FnSizes.j0 k l0 t105 t106 t108 t109 t110 true t102 t103 t104)) = some r := H
    have A6 := Aside0.mk A60
    clear A60
    have HC7 := Aside0.mk H
    clear H
    go_enter Try.func13, Try.ntmps13
    go_upto_region 6 with (first | ((with_reducible refine gate_callee (f := 40) rfl ?_); refine goesL_ (some 36) rfl rfl Try.func40 (by kernel_rfl) rfl #[.slice A0 l0.length c0] rfl (by (try simp only [List.map_toArray, List.map_cons, List.map_nil]); first | done | rfl | (simp only [List.length_drop, List.length_take]; rfl)) ?_; (with_reducible refine (laws_vBig.calls _ _ l0 false _ ?side1 ?side2 A2.out).mono ?_); (case side1 => repeat (first | exact HR0.out | (with_reducible refine Kd.C_alloc ?_ _) | (with_reducible refine Kd.C_drewN ?_ _) | (with_reducible refine Kd.C_drew ?_))); (case side2 => exact HC0.out); rintro e w' ⟨rfl, ⟨nd, rfl⟩⟩; refine ⟨_, rfl, ?_⟩) | ((with_reducible refine gate_callee (f := 41) rfl ?_); refine goesL_ (some 39) rfl rfl Try.func41 (by kernel_rfl) rfl #[.slice A0 l0.length c0] rfl (by (try simp only [List.map_toArray, List.map_cons, List.map_nil]); first | done | rfl | (simp only [List.length_drop, List.length_take]; rfl)) ?_; (with_reducible refine (spec_DrawKnotsForSize.calls _ _ l0 t102 t103 t104 t105 t106 _ ?side1 ?side2 A4.out).mono ?_); (case side1 => repeat (first | exact HR0.out | (with_reducible refine Kd.C_alloc ?_ _) | (with_reducible refine Kd.C_drewN ?_ _) | (with_reducible refine Kd.C_drew ?_))); (case side2 => exact HC0.out); rintro e w8 ⟨rfl, hb⟩; refine ⟨_, rfl, ?_⟩; have n0_ := Aside0.mk (below_step (by exact eS HB.out) hb); clear HB; have HB := n0_; clear n0_; (try clear hb); (try clear hb2); (try clear hk); (try clear hi)) | ((with_reducible refine gate_dst (N := 3) rfl ?_); refine box_event ?hg (N := 3) ?hd (cs := #[.int .i64 0, .int .i64 0, .int .i64 0]) (t := 25) ?hr ?_; (case hd => rfl); (case hg => rfl); (case hr => first | (go_simp; done) | (go_simp; rfl)); intro gb107 hg w9 hbox hb; have n0_ := Aside0.mk (below_step (by exact eS HB.out) hb); have n1_ := Aside0.mk (hbox); have n2_ := Aside0.mk ((by rw [hg]; exact (below_size (by exact eS HB.out)) : w.heap.size ≤ gb107)); have n3_ := Aside0.mk ((by rw [hg]; exact (below_size (by exact eS HB.out)) : w.heap.size ≤ gb107)); clear HB; have HB := n0_; have BK107 := n1_; have GW107 := n2_; have GE107 := n3_; clear n0_ n1_ n2_ n3_; clear hb hbox hg; have hcz10_0 : w9.cell? ⟨gb107, 0, none⟩ = some (.int .i64 0) := (blk_cell BK107.out 0).trans rfl; have hcz10_1 : w9.cell? ⟨gb107, 1, none⟩ = some (.int .i64 0) := (blk_cell BK107.out 1).trans rfl; have hcz10_2 : w9.cell? ⟨gb107, 2, none⟩ = some (.int .i64 0) := (blk_cell BK107.out 2).trans rfl; have hfz10_0 := blk_frozen BK107.out 0; have hfz10_1 := blk_frozen BK107.out 1; have hfz10_2 := blk_frozen BK107.out 2) | ((with_reducible refine gate_callee (f := 21) rfl ?_); refine goesL_ (some 47) rfl rfl Try.func21 (by kernel_rfl) rfl #[.agg #[.int .i64 t102, .int .i64 t103, .int .i64 t104], .int .i64 t105, .int .i64 t106] rfl (by (try simp only [List.map_toArray, List.map_cons, List.map_nil]); first | done | rfl | (simp only [List.length_drop, List.length_take]; rfl)) ?_; (with_reducible refine (impl_KnotsForSize.calls k t102 t103 t104 t105 t106 t108 t109 t110 _ A5.out).mono ?_); rintro e w11 ⟨rfl, hb⟩; refine ⟨_, rfl, ?_⟩; have n0_ := Aside0.mk (blk_below (g := gb107) (o := .cells #[.int .i64 t102, .int .i64 t103, .int .i64 t104] 25 (0, 0)) (by (with_reducible repeat (first | refine blk_drewN ?_ _ | refine blk_drew ?_ | refine blk_alloc ?_ _)); refine blk_put (cs := #[.int .i64 t102, .int .i64 t103, .int .i64 0]) ?_ 2 _ rfl; (with_reducible repeat (first | refine blk_drewN ?_ _ | refine blk_drew ?_ | refine blk_alloc ?_ _)); refine blk_put (cs := #[.int .i64 t102, .int .i64 0, .int .i64 0]) ?_ 1 _ rfl; (with_reducible repeat (first | refine blk_drewN ?_ _ | refine blk_drew ?_ | refine blk_alloc ?_ _)); refine blk_put (cs := #[.int .i64 0, .int .i64 0, .int .i64 0]) ?_ 0 _ rfl; exact bS BK107.out) hb); have n1_ := Aside0.mk (below_step (by repeat (first | (with_reducible first | exact HB.out | apply below_alloc | apply pw_below_drewN | apply below_drew1 | refine below_set ?_ GE107.out) | exact HB.out)) hb); clear BK107; clear HB; have BK107 := n0_; have HB := n1_; clear n0_ n1_; (try clear hb); (try clear hb2); (try clear hk); (try clear hi); have hcz12_0 : w11.cell? ⟨gb107, 0, none⟩ = some (.int .i64 t102) := (blk_cell BK107.out 0).trans rfl; have hcz12_1 : w11.cell? ⟨gb107, 1, none⟩ = some (.int .i64 t103) := (blk_cell BK107.out 1).trans rfl; have hcz12_2 : w11.cell? ⟨gb107, 2, none⟩ = some (.int .i64 t104) := (blk_cell BK107.out 2).trans rfl; have hfz12_0 := blk_frozen BK107.out 0; have hfz12_1 := blk_frozen BK107.out 1; have hfz12_2 := blk_frozen BK107.out 2) | ((with_reducible refine gate_callee (f := 20) rfl ?_); refine goesL_ (some 55) rfl rfl Try.func20 (by kernel_rfl) rfl #[.agg #[.int .i64 t102, .int .i64 t103, .int .i64 t104], .int .i64 t105, .int .i64 t106] rfl (by (try simp only [List.map_toArray, List.map_cons, List.map_nil]); first | done | rfl | (simp only [List.length_drop, List.length_take]; rfl)) ?_; (with_reducible refine (spec_KnotsForSize.calls k t102 t103 t104 t105 t106 t111 t112 t113 _ A6.out).mono ?_); rintro e w13 ⟨rfl, hb⟩; refine ⟨_, rfl, ?_⟩; have n0_ := Aside0.mk (blk_below (bS BK107.out) hb); have n1_ := Aside0.mk (below_step (by exact eS HB.out) hb); clear BK107; clear HB; have BK107 := n0_; have HB := n1_; clear n0_ n1_; (try clear hb); (try clear hb2); (try clear hk); (try clear hi)))
    (try simp only [Act.put, List.setIfInBounds_toArray, List.set_cons_zero, List.set_cons_succ])
    go_cut [78] (fun v78 wc => ∃ (kq : Nat) (x78_6 : Bool), v78 = .bool x78_6 ∧ Aside0 (laws_FnSizes.j0 kq l0 t105 t106 t108 t109 t110 x78_6 t102 t103 t104 = some r) ∧ Aside0 (kq ≤ k) ∧ Aside0 (wc.heap[gb107]? = some (.cells #[.int .i64 t102, .int .i64 t103, .int .i64 t104] 25 (0, 0))) ∧ Aside0 (Below w.heap.size w wc))
    case first =>
      have H := HC7.out
      clear HC7
      by_cases c14 : t108 = t111
      · rw [if_pos c14] at H
        have c14b0 : (t108 == t111) = true := beq_iff_eq.mpr c14
        have c14b1 : (t108 != t111) = false := bne_eq_false_iff_eq.mpr c14
        clear c14
        (first | rw [c14b0] | (simp only [i64_w, i32_w]; rw [c14b0]) | skip)
        by_cases c15 : t109 = t112
        · rw [if_pos c15] at H
          have c15b0 : (t109 == t112) = true := beq_iff_eq.mpr c15
          have c15b1 : (t109 != t112) = false := bne_eq_false_iff_eq.mpr c15
          clear c15
          by_cases c16 : (t110 != t113) = true
          · rw [if_pos c16] at H
            have c16b0 : (t110 != t113) = true := c16
            (try (have c16b1 : decide (t110 = t113) = false := by simpa using c16))
            (try (have c16b2 : (t110 == t113) = false := by simpa using c16))
            (try (have c16b3 : ¬ (t110 = t113) := by simpa using c16))
            clear c16
            as_aux_lemma =>
              have H' := Aside0.mk H
              clear H
              try go_wp2
              have n0_ := Aside0.mk (blk_drew BK107.out)
              have n1_ := Aside0.mk (below_drew1 HB.out)
              clear BK107
              clear HB
              have BK107 := n0_
              have HB := n1_
              clear n0_ n1_
              refine start_ (n := 20) (S := fun w' => True) (ds := []) #[false, false, false, false, false, false, false, false, false, false, false, false, false, false, false, false, false, false, false, false] (by kernel_rfl) rfl rfl trivial (fun hHeld => ?_); refine with_tabW laws_FnSizes.tab6 laws_FnSizes.bits6 (fun HT_ HW_ => ?_)
              generalize w13.drew = w17 at BK107 HB hHeld ⊢
              refine pure_ (i := 0) (N := some 59) (v := ?_) (a' := ?_) #[true, false, false, false, false, false, false, false, false, false, false, false, false, false, false, false, false, false, false, false] rfl rfl (any_of HT_.out (by kernel_rfl)) (fun _ _ _ h => h) (Or.inl ⟨by rfl, ?_⟩) ?_ ?_
              rotate_left
              · intro w'
                go_simp
                with_reducible rfl
              rotate_left
              · simp only [Act.put, List.setIfInBounds_toArray, List.set_cons_zero, List.set_cons_succ, i64_w, i32_w]
                rfl
              refine pure_ (i := 1) (N := some 60) (v := ?_) (a' := ?_) #[true, true, false, false, false, false, false, false, false, false, false, false, false, false, false, false, false, false, false, false] rfl rfl (any_of HT_.out (by kernel_rfl)) (fun _ _ _ h => h) (Or.inl ⟨by rfl, ?_⟩) ?_ ?_
              rotate_left
              · intro w'
                go_simp
                with_reducible rfl
              rotate_left
              · simp only [Act.put, List.setIfInBounds_toArray, List.set_cons_zero, List.set_cons_succ, i64_w, i32_w]
                rfl
              refine pure_ (i := 2) (N := some 61) (v := ?_) (a' := ?_) #[true, true, true, false, false, false, false, false, false, false, false, false, false, false, false, false, false, false, false, false] rfl rfl (any_of HT_.out (by kernel_rfl)) (fun _ _ _ h => h) (Or.inl ⟨by rfl, ?_⟩) ?_ ?_
              rotate_left
              · intro w'
                go_simp
                with_reducible rfl
              rotate_left
              · simp only [Act.put, List.setIfInBounds_toArray, List.set_cons_zero, List.set_cons_succ, i64_w, i32_w]
                rfl
              refine pure_ (i := 3) (N := some 62) (v := ?_) (a' := ?_) #[true, true, true, true, false, false, false, false, false, false, false, false, false, false, false, false, false, false, false, false] rfl rfl (any_of HT_.out (by kernel_rfl)) (fun _ _ _ h => h) (Or.inl ⟨by rfl, ?_⟩) ?_ ?_
              rotate_left
              · intro w'
                go_simp
                with_reducible rfl
              rotate_left
              · simp only [Act.put, List.setIfInBounds_toArray, List.set_cons_zero, List.set_cons_succ, i64_w, i32_w]
                rfl
              refine pure_ (i := 4) (N := some 63) (v := ?_) (a' := ?_) #[true, true, true, true, true, false, false, false, false, false, false, false, false, false, false, false, false, false, false, false] rfl rfl (any_of HT_.out (by kernel_rfl)) (fun _ _ _ h => h) (Or.inl ⟨by rfl, ?_⟩) ?_ ?_
              rotate_left
              · intro w'
                go_simp
                with_reducible rfl
              rotate_left
              · simp only [Act.put, List.setIfInBounds_toArray, List.set_cons_zero, List.set_cons_succ, i64_w, i32_w]
                rfl
              refine pure_ (i := 5) (N := some 64) (v := ?_) (a' := ?_) #[true, true, true, true, true, true, false, false, false, false, false, false, false, false, false, false, false, false, false, false] rfl rfl (any_of HT_.out (by kernel_rfl)) (fun _ _ _ h => h) (Or.inl ⟨by rfl, ?_⟩) ?_ ?_
              rotate_left
              · intro w'
                go_simp
                with_reducible rfl
              rotate_left
              · simp only [Act.put, List.setIfInBounds_toArray, List.set_cons_zero, List.set_cons_succ, i64_w, i32_w]
                rfl
              refine pure_ (i := 6) (N := some 65) (v := ?_) (a' := ?_) #[true, true, true, true, true, true, true, false, false, false, false, false, false, false, false, false, false, false, false, false] rfl rfl (any_of HT_.out (by kernel_rfl)) (fun _ _ _ h => h) (Or.inl ⟨by rfl, ?_⟩) ?_ ?_
              rotate_left
              · intro w'
                go_simp
                with_reducible rfl
              rotate_left
              · simp only [Act.put, List.setIfInBounds_toArray, List.set_cons_zero, List.set_cons_succ, i64_w, i32_w]
                rfl
              refine pure_ (i := 7) (N := some 66) (v := ?_) (a' := ?_) #[true, true, true, true, true, true, true, true, false, false, false, false, false, false, false, false, false, false, false, false] rfl rfl (any_of HT_.out (by kernel_rfl)) (fun _ _ _ h => h) (Or.inl ⟨by rfl, ?_⟩) ?_ ?_
              rotate_left
              · intro w'
                go_simp
                with_reducible rfl
              rotate_left
              · simp only [Act.put, List.setIfInBounds_toArray, List.set_cons_zero, List.set_cons_succ, i64_w, i32_w]
                rfl
              refine pure_ (i := 8) (N := some 67) (v := ?_) (a' := ?_) #[true, true, true, true, true, true, true, true, true, false, false, false, false, false, false, false, false, false, false, false] rfl rfl (any_of HT_.out (by kernel_rfl)) (fun _ _ _ h => h) (Or.inl ⟨by rfl, ?_⟩) ?_ ?_
              rotate_left
              · intro w'
                go_simp
                with_reducible rfl
              rotate_left
              · simp only [Act.put, List.setIfInBounds_toArray, List.set_cons_zero, List.set_cons_succ, i64_w, i32_w]
                rfl
              refine pure_ (i := 9) (N := some 68) (v := ?_) (a' := ?_) #[true, true, true, true, true, true, true, true, true, true, false, false, false, false, false, false, false, false, false, false] rfl rfl (any_of HT_.out (by kernel_rfl)) (fun _ _ _ h => h) (Or.inl ⟨by rfl, ?_⟩) ?_ ?_
              rotate_left
              · intro w'
                go_simp
                with_reducible rfl
              rotate_left
              · simp only [Act.put, List.setIfInBounds_toArray, List.set_cons_zero, List.set_cons_succ, i64_w, i32_w]
                rfl
              refine pure_ (i := 10) (N := some 69) (v := ?_) (a' := ?_) #[true, true, true, true, true, true, true, true, true, true, true, false, false, false, false, false, false, false, false, false] rfl rfl (any_of HT_.out (by kernel_rfl)) (fun _ _ _ h => h) (Or.inl ⟨by rfl, ?_⟩) ?_ ?_
              rotate_left
              · intro w'
                go_simp
                with_reducible rfl
              rotate_left
              · simp only [Act.put, List.setIfInBounds_toArray, List.set_cons_zero, List.set_cons_succ, i64_w, i32_w]
                rfl
              refine pure_ (i := 11) (N := some 70) (v := ?_) (a' := ?_) #[true, true, true, true, true, true, true, true, true, true, true, true, false, false, false, false, false, false, false, false] rfl rfl (any_of HT_.out (by kernel_rfl)) (fun _ _ _ h => h) (Or.inl ⟨by rfl, ?_⟩) ?_ ?_
              rotate_left
              · intro w'
                go_simp
                with_reducible rfl
              rotate_left
              · simp only [Act.put, List.setIfInBounds_toArray, List.set_cons_zero, List.set_cons_succ, i64_w, i32_w]
                rfl
              refine pure_ (i := 12) (N := some 71) (v := ?_) (a' := ?_) #[true, true, true, true, true, true, true, true, true, true, true, true, true, false, false, false, false, false, false, false] rfl rfl (any_of HT_.out (by kernel_rfl)) (fun _ _ _ h => h) (Or.inl ⟨by rfl, ?_⟩) ?_ ?_
              rotate_left
              · intro w'
                go_simp
                with_reducible rfl
              rotate_left
              · simp only [Act.put, List.setIfInBounds_toArray, List.set_cons_zero, List.set_cons_succ, i64_w, i32_w]
                rfl
              refine pure_ (i := 13) (N := some 72) (v := ?_) (a' := ?_) #[true, true, true, true, true, true, true, true, true, true, true, true, true, true, false, false, false, false, false, false] rfl rfl (any_of HT_.out (by kernel_rfl)) (fun _ _ _ h => h) (Or.inl ⟨by rfl, ?_⟩) ?_ ?_
              rotate_left
              · intro w'
                go_simp
                with_reducible rfl
              rotate_left
              · simp only [Act.put, List.setIfInBounds_toArray, List.set_cons_zero, List.set_cons_succ, i64_w, i32_w]
                rfl
              refine pure_ (i := 14) (N := some 73) (v := undef) (a' := ?_) #[true, true, true, true, true, true, true, true, true, true, true, true, true, true, true, false, false, false, false, false] rfl rfl (any_of HT_.out (by kernel_rfl)) (fun _ _ _ h => h) (Or.inr ⟨by rfl, rfl⟩) ?_ ?_
              rotate_left
              · simp only [Act.put, List.setIfInBounds_toArray, List.set_cons_zero, List.set_cons_succ, i64_w, i32_w]
                rfl
              refine pure_ (i := 15) (N := some 74) (v := undef) (a' := ?_) #[true, true, true, true, true, true, true, true, true, true, true, true, true, true, true, true, false, false, false, false] rfl rfl (any_of HT_.out (by kernel_rfl)) (fun _ _ _ h => h) (Or.inr ⟨by rfl, rfl⟩) ?_ ?_
              rotate_left
              · simp only [Act.put, List.setIfInBounds_toArray, List.set_cons_zero, List.set_cons_succ, i64_w, i32_w]
                rfl
              refine pure_ (i := 16) (N := some 75) (v := undef) (a' := ?_) #[true, true, true, true, true, true, true, true, true, true, true, true, true, true, true, true, true, false, false, false] rfl rfl (any_of HT_.out (by kernel_rfl)) (fun _ _ _ h => h) (Or.inr ⟨by rfl, rfl⟩) ?_ ?_
              rotate_left
              · simp only [Act.put, List.setIfInBounds_toArray, List.set_cons_zero, List.set_cons_succ, i64_w, i32_w]
                rfl
              refine pure_ (i := 17) (N := some 76) (v := undef) (a' := ?_) #[true, true, true, true, true, true, true, true, true, true, true, true, true, true, true, true, true, true, false, false] rfl rfl (any_of HT_.out (by kernel_rfl)) (fun _ _ _ h => h) (Or.inr ⟨by rfl, rfl⟩) ?_ ?_
              rotate_left
              · simp only [Act.put, List.setIfInBounds_toArray, List.set_cons_zero, List.set_cons_succ, i64_w, i32_w]
                rfl
              refine pure_ (i := 18) (N := some 77) (v := undef) (a' := ?_) #[true, true, true, true, true, true, true, true, true, true, true, true, true, true, true, true, true, true, true, false] rfl rfl (any_of HT_.out (by kernel_rfl)) (fun _ _ _ h => h) (Or.inr ⟨by rfl, rfl⟩) ?_ ?_
              rotate_left
              · simp only [Act.put, List.setIfInBounds_toArray, List.set_cons_zero, List.set_cons_succ, i64_w, i32_w]
                rfl
              refine pure_ (i := 19) (N := some 78) (v := ?_) (a' := ?_) #[true, true, true, true, true, true, true, true, true, true, true, true, true, true, true, true, true, true, true, true] rfl rfl (any_of HT_.out (by kernel_rfl)) (fun _ _ _ h => h) (Or.inl ⟨by rfl, ?_⟩) ?_ ?_
              rotate_left
              · intro w'
                go_simp
                with_reducible rfl
              rotate_left
              · simp only [Act.put, List.setIfInBounds_toArray, List.set_cons_zero, List.set_cons_succ, i64_w, i32_w]
                rfl
              refine done_ (done_of HT_.out (by kernel_rfl)) ?_
              try go_wp2
              go_meet
              case rel => exact ⟨_, (true), (by first | rfl | (simp; done) | (simp [*]; done)), H', ⟨by first | omega | exact Nat.le_refl _⟩, ⟨by exact bS BK107.out⟩, ⟨by exact eS HB.out⟩⟩
          · rw [if_neg c16] at H
            have c16b0 : (t110 != t113) = false := by simpa using c16
            (try (have c16b1 : decide (t110 = t113) = true := by simpa using c16))
            (try (have c16b2 : (t110 == t113) = true := by simpa using c16))
            clear c16
            replace H := Option.bind_eq_some_iff.mp H
            obtain ⟨t114, A180, H⟩ := H
            replace H : ((spec_IsGauge.f t102 t103 t104).bind fun t115 => (laws_FnSizes.j0 k l0 t105 t106 t108 t109 t110 (t114 != t115) t102 t103 t104)) = some r := H
            have A18 := Aside0.mk A180
            clear A180
            replace H := Option.bind_eq_some_iff.mp H
            obtain ⟨t115, A190, H⟩ := H
            replace H : (laws_FnSizes.j0 k l0 t105 t106 t108 t109 t110 (t114 != t115) t102 t103 t104) = some r := H
            have A19 := Aside0.mk A190
            clear A190
            as_aux_lemma =>
              have H' := Aside0.mk H
              clear H
              try go_wp2
              have n0_ := Aside0.mk (blk_drew BK107.out)
              have n1_ := Aside0.mk (below_drew1 HB.out)
              clear BK107
              clear HB
              have BK107 := n0_
              have HB := n1_
              clear n0_ n1_
              refine start_ (n := 20) (S := fun w' => w'.cell? ⟨gb107, 0, none⟩ = some (.int .i64 t102) ∧ w'.cell? ⟨gb107, 1, none⟩ = some (.int .i64 t103) ∧ w'.cell? ⟨gb107, 2, none⟩ = some (.int .i64 t104)) (ds := []) #[false, false, false, false, false, false, false, false, false, false, false, false, false, false, false, false, false, false, false, false] (by kernel_rfl) rfl rfl ⟨(blk_cell BK107.out 0).trans rfl, (blk_cell BK107.out 1).trans rfl, (blk_cell BK107.out 2).trans rfl⟩ (fun hHeld => ?_); refine with_tabW laws_FnSizes.tab6 laws_FnSizes.bits6 (fun HT_ HW_ => ?_)
              generalize w13.drew = w20 at BK107 HB hHeld ⊢
              refine pure_ (i := 0) (N := some 59) (v := ?_) (a' := ?_) #[true, false, false, false, false, false, false, false, false, false, false, false, false, false, false, false, false, false, false, false] rfl rfl (any_of HT_.out (by kernel_rfl)) (fun _ _ _ h => h) (Or.inl ⟨by rfl, ?_⟩) ?_ ?_
              rotate_left
              · intro w'
                go_simp
                with_reducible rfl
              rotate_left
              · simp only [Act.put, List.setIfInBounds_toArray, List.set_cons_zero, List.set_cons_succ, i64_w, i32_w]
                rfl
              refine pure_ (i := 1) (N := some 60) (v := ?_) (a' := ?_) #[true, true, false, false, false, false, false, false, false, false, false, false, false, false, false, false, false, false, false, false] rfl rfl (any_of HT_.out (by kernel_rfl)) (fun _ _ _ h => h) (Or.inl ⟨by rfl, ?_⟩) ?_ ?_
              rotate_left
              · intro w'
                go_simp
                with_reducible rfl
              rotate_left
              · simp only [Act.put, List.setIfInBounds_toArray, List.set_cons_zero, List.set_cons_succ, i64_w, i32_w]
                rfl
              refine pure_ (i := 2) (N := some 61) (v := ?_) (a' := ?_) #[true, true, true, false, false, false, false, false, false, false, false, false, false, false, false, false, false, false, false, false] rfl rfl (any_of HT_.out (by kernel_rfl)) (fun _ _ _ h => h) (Or.inl ⟨by rfl, ?_⟩) ?_ ?_
              rotate_left
              · intro w'
                go_simp
                with_reducible rfl
              rotate_left
              · simp only [Act.put, List.setIfInBounds_toArray, List.set_cons_zero, List.set_cons_succ, i64_w, i32_w]
                rfl
              refine pure_ (i := 3) (N := some 62) (v := ?_) (a' := ?_) #[true, true, true, true, false, false, false, false, false, false, false, false, false, false, false, false, false, false, false, false] rfl rfl (any_of HT_.out (by kernel_rfl)) (fun _ _ _ h => h) (Or.inl ⟨by rfl, ?_⟩) ?_ ?_
              rotate_left
              · intro w'
                go_simp
                with_reducible rfl
              rotate_left
              · simp only [Act.put, List.setIfInBounds_toArray, List.set_cons_zero, List.set_cons_succ, i64_w, i32_w]
                rfl
              refine pure_ (i := 4) (N := some 63) (v := ?_) (a' := ?_) #[true, true, true, true, true, false, false, false, false, false, false, false, false, false, false, false, false, false, false, false] rfl rfl (any_of HT_.out (by kernel_rfl)) (fun _ _ _ h => h) (Or.inl ⟨by rfl, ?_⟩) ?_ ?_
              rotate_left
              · intro w'
                go_simp
                with_reducible rfl
              rotate_left
              · simp only [Act.put, List.setIfInBounds_toArray, List.set_cons_zero, List.set_cons_succ, i64_w, i32_w]
                rfl
              refine pure_ (i := 5) (N := some 64) (v := ?_) (a' := ?_) #[true, true, true, true, true, true, false, false, false, false, false, false, false, false, false, false, false, false, false, false] rfl rfl (any_of HT_.out (by kernel_rfl)) (fun _ _ _ h => h) (Or.inl ⟨by rfl, ?_⟩) ?_ ?_
              rotate_left
              · intro w'
                go_simp
                with_reducible rfl
              rotate_left
              · simp only [Act.put, List.setIfInBounds_toArray, List.set_cons_zero, List.set_cons_succ, i64_w, i32_w]
                rfl
              refine pure_ (i := 6) (N := some 65) (v := ?_) (a' := ?_) #[true, true, true, true, true, true, true, false, false, false, false, false, false, false, false, false, false, false, false, false] rfl rfl (any_of HT_.out (by kernel_rfl)) (fun _ _ _ h => h) (Or.inl ⟨by rfl, ?_⟩) ?_ ?_
              rotate_left
              · intro w'
                go_simp
                with_reducible rfl
              rotate_left
              · simp only [Act.put, List.setIfInBounds_toArray, List.set_cons_zero, List.set_cons_succ, i64_w, i32_w]
                rfl
              refine pure_ (i := 7) (N := some 66) (v := ?_) (a' := ?_) #[true, true, true, true, true, true, true, true, false, false, false, false, false, false, false, false, false, false, false, false] rfl rfl (any_of HT_.out (by kernel_rfl)) (fun _ _ _ h => h) (Or.inl ⟨by rfl, ?_⟩) ?_ ?_
              rotate_left
              · intro w'
                go_simp
                with_reducible rfl
              rotate_left
              · simp only [Act.put, List.setIfInBounds_toArray, List.set_cons_zero, List.set_cons_succ, i64_w, i32_w]
                rfl
              refine pure_ (i := 8) (N := some 67) (v := ?_) (a' := ?_) #[true, true, true, true, true, true, true, true, true, false, false, false, false, false, false, false, false, false, false, false] rfl rfl (any_of HT_.out (by kernel_rfl)) (fun _ _ _ h => h) (Or.inl ⟨by rfl, ?_⟩) ?_ ?_
              rotate_left
              · intro w'
                go_simp
                with_reducible rfl
              rotate_left
              · simp only [Act.put, List.setIfInBounds_toArray, List.set_cons_zero, List.set_cons_succ, i64_w, i32_w]
                rfl
              refine pure_ (i := 9) (N := some 68) (v := ?_) (a' := ?_) #[true, true, true, true, true, true, true, true, true, true, false, false, false, false, false, false, false, false, false, false] rfl rfl (any_of HT_.out (by kernel_rfl)) (fun _ _ _ h => h) (Or.inl ⟨by rfl, ?_⟩) ?_ ?_
              rotate_left
              · intro w'
                go_simp
                with_reducible rfl
              rotate_left
              · simp only [Act.put, List.setIfInBounds_toArray, List.set_cons_zero, List.set_cons_succ, i64_w, i32_w]
                rfl
              refine pure_ (i := 10) (N := some 69) (v := ?_) (a' := ?_) #[true, true, true, true, true, true, true, true, true, true, true, false, false, false, false, false, false, false, false, false] rfl rfl (any_of HT_.out (by kernel_rfl)) (fun _ _ _ h => h) (Or.inl ⟨by rfl, ?_⟩) ?_ ?_
              rotate_left
              · intro w'
                go_simp
                with_reducible rfl
              rotate_left
              · simp only [Act.put, List.setIfInBounds_toArray, List.set_cons_zero, List.set_cons_succ, i64_w, i32_w]
                rfl
              refine pure_ (i := 11) (N := some 70) (v := ?_) (a' := ?_) #[true, true, true, true, true, true, true, true, true, true, true, true, false, false, false, false, false, false, false, false] rfl rfl (any_of HT_.out (by kernel_rfl)) (fun _ _ _ h => h) (Or.inl ⟨by rfl, ?_⟩) ?_ ?_
              rotate_left
              · intro w'
                go_simp
                with_reducible rfl
              rotate_left
              · simp only [Act.put, List.setIfInBounds_toArray, List.set_cons_zero, List.set_cons_succ, i64_w, i32_w]
                rfl
              refine pure_ (i := 12) (N := some 71) (v := ?_) (a' := ?_) #[true, true, true, true, true, true, true, true, true, true, true, true, true, false, false, false, false, false, false, false] rfl rfl (any_of HT_.out (by kernel_rfl)) (fun _ _ _ h => h) (Or.inl ⟨by rfl, ?_⟩) ?_ ?_
              rotate_left
              · intro w'
                go_simp
                with_reducible rfl
              rotate_left
              · simp only [Act.put, List.setIfInBounds_toArray, List.set_cons_zero, List.set_cons_succ, i64_w, i32_w]
                rfl
              refine pure_ (i := 13) (N := some 72) (v := ?_) (a' := ?_) #[true, true, true, true, true, true, true, true, true, true, true, true, true, true, false, false, false, false, false, false] rfl rfl (any_of HT_.out (by kernel_rfl)) (fun _ _ _ h => h) (Or.inl ⟨by rfl, ?_⟩) ?_ ?_
              rotate_left
              · intro w'
                go_simp
                with_reducible rfl
              rotate_left
              · simp only [Act.put, List.setIfInBounds_toArray, List.set_cons_zero, List.set_cons_succ, i64_w, i32_w]
                rfl
              refine take_ (i := 14) (N := some 73) (v := ?_) (a' := ?_) #[true, true, true, true, true, true, true, true, true, true, true, true, true, true, true, false, false, false, false, false] rfl rfl (take_ofW HT_.out HW_.out (by kernel_rfl)) (fun _ _ _ h => h) (Or.inl ⟨by rfl, ?_⟩) hHeld ?_ ?_
              rotate_left
              · rintro w' ⟨s0, s1, s2⟩
                go_simp
                with_reducible rfl
              rotate_left
              · simp only [Act.put, List.setIfInBounds_toArray, List.set_cons_zero, List.set_cons_succ, i64_w, i32_w]
                rfl
              refine take_ (i := 16) (N := some 75) (v := ?_) (a' := ?_) #[true, true, true, true, true, true, true, true, true, true, true, true, true, true, true, false, true, false, false, false] rfl rfl (take_ofW HT_.out HW_.out (by kernel_rfl)) (fun _ _ _ h => h) (Or.inl ⟨by rfl, ?_⟩) hHeld ?_ ?_
              rotate_left
              · rintro w' ⟨s0, s1, s2⟩
                go_simp
                with_reducible rfl
              rotate_left
              · simp only [Act.put, List.setIfInBounds_toArray, List.set_cons_zero, List.set_cons_succ, i64_w, i32_w]
                rfl
              refine one_ (i := 15) (N := some 74) #[true, true, true, true, true, true, true, true, true, true, true, true, true, true, true, true, true, false, false, false] rfl rfl (one_of HT_.out (by kernel_rfl)) (by decide) (fun K hK => ?_)
              refine goes_ Try.func17 (by kernel_rfl) rfl #[.agg #[.int .i64 t102, .int .i64 t103, .int .i64 t104]] (by rfl) rfl rfl (by (try simp only [List.map_toArray, List.map_cons, List.map_nil]); first | done | rfl | (simp only [List.length_drop, List.length_take]; rfl)) ?_
              with_reducible refine (impl_IsGauge.calls t102 t103 t104 t114 _ A18.out).mono ?_
              rintro e w21 ⟨rfl, hb⟩
              refine ⟨_, rfl, ?_⟩
              have n0_ := Aside0.mk (blk_below (bS BK107.out) hb)
              have n1_ := Aside0.mk (below_step (by exact eS HB.out) hb)
              clear BK107
              clear HB
              have BK107 := n0_
              have HB := n1_
              clear n0_ n1_
              (try clear hb)
              (try clear hb2)
              (try clear hk)
              (try clear hi)
              refine hK.out _ _ ⟨(blk_cell BK107.out 0).trans rfl, (blk_cell BK107.out 1).trans rfl, (blk_cell BK107.out 2).trans rfl⟩ (fun hHeld => ?_)
              clear hK K
              refine norm_ (a' := ?_) ?_ ?_
              rotate_left
              · show Act.put _ (some 74) _ = _
                simp only [Act.put, List.setIfInBounds_toArray, List.set_cons_zero, List.set_cons_succ, i64_w, i32_w]
                rfl
              refine one_ (i := 17) (N := some 76) #[true, true, true, true, true, true, true, true, true, true, true, true, true, true, true, true, true, true, false, false] rfl rfl (one_of HT_.out (by kernel_rfl)) (by decide) (fun K hK => ?_)
              refine goes_ Try.func15 (by kernel_rfl) rfl #[.agg #[.int .i64 t102, .int .i64 t103, .int .i64 t104]] (by rfl) rfl rfl (by (try simp only [List.map_toArray, List.map_cons, List.map_nil]); first | done | rfl | (simp only [List.length_drop, List.length_take]; rfl)) ?_
              with_reducible refine (spec_IsGauge.calls t102 t103 t104 t115 _ A19.out).mono ?_
              rintro e w22 ⟨rfl, hb⟩
              refine ⟨_, rfl, ?_⟩
              have n0_ := Aside0.mk (blk_below (bS BK107.out) hb)
              have n1_ := Aside0.mk (below_step (by exact eS HB.out) hb)
              clear BK107
              clear HB
              have BK107 := n0_
              have HB := n1_
              clear n0_ n1_
              (try clear hb)
              (try clear hb2)
              (try clear hk)
              (try clear hi)
              refine hK.out _ _ ⟨(blk_cell BK107.out 0).trans rfl, (blk_cell BK107.out 1).trans rfl, (blk_cell BK107.out 2).trans rfl⟩ (fun hHeld => ?_)
              clear hK K
              refine norm_ (a' := ?_) ?_ ?_
              rotate_left
              · show Act.put _ (some 76) _ = _
                simp only [Act.put, List.setIfInBounds_toArray, List.set_cons_zero, List.set_cons_succ, i64_w, i32_w]
                rfl
              refine pure_ (i := 18) (N := some 77) (v := ?_) (a' := ?_) #[true, true, true, true, true, true, true, true, true, true, true, true, true, true, true, true, true, true, true, false] rfl rfl (any_of HT_.out (by kernel_rfl)) (fun _ _ _ h => h) (Or.inl ⟨by rfl, ?_⟩) ?_ ?_
              rotate_left
              · intro w'
                go_simp
                with_reducible rfl
              rotate_left
              · simp only [Act.put, List.setIfInBounds_toArray, List.set_cons_zero, List.set_cons_succ, i64_w, i32_w]
                rfl
              refine pure_ (i := 19) (N := some 78) (v := ?_) (a' := ?_) #[true, true, true, true, true, true, true, true, true, true, true, true, true, true, true, true, true, true, true, true] rfl rfl (any_of HT_.out (by kernel_rfl)) (fun _ _ _ h => h) (Or.inl ⟨by rfl, ?_⟩) ?_ ?_
              rotate_left
              · intro w'
                go_simp
                with_reducible rfl
              rotate_left
              · simp only [Act.put, List.setIfInBounds_toArray, List.set_cons_zero, List.set_cons_succ, i64_w, i32_w]
                rfl
              refine done_ (done_of HT_.out (by kernel_rfl)) ?_
              try go_wp2
              go_meet
              case rel => exact ⟨_, ((t114 != t115)), (by first | rfl | (simp; done) | (simp [*]; done)), H', ⟨by first | omega | exact Nat.le_refl _⟩, ⟨by exact bS BK107.out⟩, ⟨by exact eS HB.out⟩⟩
        · rw [if_neg c15] at H
          have c15b0 : (t109 == t112) = false := beq_eq_false_iff_ne.mpr c15
          have c15b1 : (t109 != t112) = true := bne_iff_ne.mpr c15
          as_aux_lemma =>
            have H' := Aside0.mk H
            clear H
            try go_wp2
            have n0_ := Aside0.mk (blk_drew BK107.out)
            have n1_ := Aside0.mk (below_drew1 HB.out)
            clear BK107
            clear HB
            have BK107 := n0_
            have HB := n1_
            clear n0_ n1_
            refine start_ (n := 20) (S := fun w' => True) (ds := []) #[false, false, false, false, false, false, false, false, false, false, false, false, false, false, false, false, false, false, false, false] (by kernel_rfl) rfl rfl trivial (fun hHeld => ?_); refine with_tabW laws_FnSizes.tab6 laws_FnSizes.bits6 (fun HT_ HW_ => ?_)
            generalize w13.drew = w23 at BK107 HB hHeld ⊢
            refine pure_ (i := 0) (N := some 59) (v := ?_) (a' := ?_) #[true, false, false, false, false, false, false, false, false, false, false, false, false, false, false, false, false, false, false, false] rfl rfl (any_of HT_.out (by kernel_rfl)) (fun _ _ _ h => h) (Or.inl ⟨by rfl, ?_⟩) ?_ ?_
            rotate_left
            · intro w'
              go_simp
              with_reducible rfl
            rotate_left
            · simp only [Act.put, List.setIfInBounds_toArray, List.set_cons_zero, List.set_cons_succ, i64_w, i32_w]
              rfl
            refine pure_ (i := 1) (N := some 60) (v := ?_) (a' := ?_) #[true, true, false, false, false, false, false, false, false, false, false, false, false, false, false, false, false, false, false, false] rfl rfl (any_of HT_.out (by kernel_rfl)) (fun _ _ _ h => h) (Or.inl ⟨by rfl, ?_⟩) ?_ ?_
            rotate_left
            · intro w'
              go_simp
              with_reducible rfl
            rotate_left
            · simp only [Act.put, List.setIfInBounds_toArray, List.set_cons_zero, List.set_cons_succ, i64_w, i32_w]
              rfl
            refine pure_ (i := 2) (N := some 61) (v := ?_) (a' := ?_) #[true, true, true, false, false, false, false, false, false, false, false, false, false, false, false, false, false, false, false, false] rfl rfl (any_of HT_.out (by kernel_rfl)) (fun _ _ _ h => h) (Or.inl ⟨by rfl, ?_⟩) ?_ ?_
            rotate_left
            · intro w'
              go_simp
              with_reducible rfl
            rotate_left
            · simp only [Act.put, List.setIfInBounds_toArray, List.set_cons_zero, List.set_cons_succ, i64_w, i32_w]
              rfl
            refine pure_ (i := 3) (N := some 62) (v := ?_) (a' := ?_) #[true, true, true, true, false, false, false, false, false, false, false, false, false, false, false, false, false, false, false, false] rfl rfl (any_of HT_.out (by kernel_rfl)) (fun _ _ _ h => h) (Or.inl ⟨by rfl, ?_⟩) ?_ ?_
            rotate_left
            · intro w'
              go_simp
              with_reducible rfl
            rotate_left
            · simp only [Act.put, List.setIfInBounds_toArray, List.set_cons_zero, List.set_cons_succ, i64_w, i32_w]
              rfl
            refine pure_ (i := 4) (N := some 63) (v := ?_) (a' := ?_) #[true, true, true, true, true, false, false, false, false, false, false, false, false, false, false, false, false, false, false, false] rfl rfl (any_of HT_.out (by kernel_rfl)) (fun _ _ _ h => h) (Or.inl ⟨by rfl, ?_⟩) ?_ ?_
            rotate_left
            · intro w'
              go_simp
              with_reducible rfl
            rotate_left
            · simp only [Act.put, List.setIfInBounds_toArray, List.set_cons_zero, List.set_cons_succ, i64_w, i32_w]
              rfl
            refine pure_ (i := 5) (N := some 64) (v := ?_) (a' := ?_) #[true, true, true, true, true, true, false, false, false, false, false, false, false, false, false, false, false, false, false, false] rfl rfl (any_of HT_.out (by kernel_rfl)) (fun _ _ _ h => h) (Or.inl ⟨by rfl, ?_⟩) ?_ ?_
            rotate_left
            · intro w'
              go_simp
              with_reducible rfl
            rotate_left
            · simp only [Act.put, List.setIfInBounds_toArray, List.set_cons_zero, List.set_cons_succ, i64_w, i32_w]
              rfl
            refine pure_ (i := 6) (N := some 65) (v := ?_) (a' := ?_) #[true, true, true, true, true, true, true, false, false, false, false, false, false, false, false, false, false, false, false, false] rfl rfl (any_of HT_.out (by kernel_rfl)) (fun _ _ _ h => h) (Or.inl ⟨by rfl, ?_⟩) ?_ ?_
            rotate_left
            · intro w'
              go_simp
              with_reducible rfl
            rotate_left
            · simp only [Act.put, List.setIfInBounds_toArray, List.set_cons_zero, List.set_cons_succ, i64_w, i32_w]
              rfl
            refine pure_ (i := 7) (N := some 66) (v := ?_) (a' := ?_) #[true, true, true, true, true, true, true, true, false, false, false, false, false, false, false, false, false, false, false, false] rfl rfl (any_of HT_.out (by kernel_rfl)) (fun _ _ _ h => h) (Or.inl ⟨by rfl, ?_⟩) ?_ ?_
            rotate_left
            · intro w'
              go_simp
              with_reducible rfl
            rotate_left
            · simp only [Act.put, List.setIfInBounds_toArray, List.set_cons_zero, List.set_cons_succ, i64_w, i32_w]
              rfl
            refine pure_ (i := 8) (N := some 67) (v := ?_) (a' := ?_) #[true, true, true, true, true, true, true, true, true, false, false, false, false, false, false, false, false, false, false, false] rfl rfl (any_of HT_.out (by kernel_rfl)) (fun _ _ _ h => h) (Or.inl ⟨by rfl, ?_⟩) ?_ ?_
            rotate_left
            · intro w'
              go_simp
              with_reducible rfl
            rotate_left
            · simp only [Act.put, List.setIfInBounds_toArray, List.set_cons_zero, List.set_cons_succ, i64_w, i32_w]
              rfl
            refine pure_ (i := 9) (N := some 68) (v := undef) (a' := ?_) #[true, true, true, true, true, true, true, true, true, true, false, false, false, false, false, false, false, false, false, false] rfl rfl (any_of HT_.out (by kernel_rfl)) (fun _ _ _ h => h) (Or.inr ⟨by rfl, rfl⟩) ?_ ?_
            rotate_left
            · simp only [Act.put, List.setIfInBounds_toArray, List.set_cons_zero, List.set_cons_succ, i64_w, i32_w]
              rfl
            refine pure_ (i := 10) (N := some 69) (v := undef) (a' := ?_) #[true, true, true, true, true, true, true, true, true, true, true, false, false, false, false, false, false, false, false, false] rfl rfl (any_of HT_.out (by kernel_rfl)) (fun _ _ _ h => h) (Or.inr ⟨by rfl, rfl⟩) ?_ ?_
            rotate_left
            · simp only [Act.put, List.setIfInBounds_toArray, List.set_cons_zero, List.set_cons_succ, i64_w, i32_w]
              rfl
            refine pure_ (i := 11) (N := some 70) (v := undef) (a' := ?_) #[true, true, true, true, true, true, true, true, true, true, true, true, false, false, false, false, false, false, false, false] rfl rfl (any_of HT_.out (by kernel_rfl)) (fun _ _ _ h => h) (Or.inr ⟨by rfl, rfl⟩) ?_ ?_
            rotate_left
            · simp only [Act.put, List.setIfInBounds_toArray, List.set_cons_zero, List.set_cons_succ, i64_w, i32_w]
              rfl
            refine pure_ (i := 12) (N := some 71) (v := ?_) (a' := ?_) #[true, true, true, true, true, true, true, true, true, true, true, true, true, false, false, false, false, false, false, false] rfl rfl (any_of HT_.out (by kernel_rfl)) (fun _ _ _ h => h) (Or.inl ⟨by rfl, ?_⟩) ?_ ?_
            rotate_left
            · intro w'
              go_simp
              with_reducible rfl
            rotate_left
            · simp only [Act.put, List.setIfInBounds_toArray, List.set_cons_zero, List.set_cons_succ, i64_w, i32_w]
              rfl
            refine pure_ (i := 13) (N := some 72) (v := ?_) (a' := ?_) #[true, true, true, true, true, true, true, true, true, true, true, true, true, true, false, false, false, false, false, false] rfl rfl (any_of HT_.out (by kernel_rfl)) (fun _ _ _ h => h) (Or.inl ⟨by rfl, ?_⟩) ?_ ?_
            rotate_left
            · intro w'
              go_simp
              with_reducible rfl
            rotate_left
            · simp only [Act.put, List.setIfInBounds_toArray, List.set_cons_zero, List.set_cons_succ, i64_w, i32_w]
              rfl
            refine pure_ (i := 14) (N := some 73) (v := undef) (a' := ?_) #[true, true, true, true, true, true, true, true, true, true, true, true, true, true, true, false, false, false, false, false] rfl rfl (any_of HT_.out (by kernel_rfl)) (fun _ _ _ h => h) (Or.inr ⟨by rfl, rfl⟩) ?_ ?_
            rotate_left
            · simp only [Act.put, List.setIfInBounds_toArray, List.set_cons_zero, List.set_cons_succ, i64_w, i32_w]
              rfl
            refine pure_ (i := 15) (N := some 74) (v := undef) (a' := ?_) #[true, true, true, true, true, true, true, true, true, true, true, true, true, true, true, true, false, false, false, false] rfl rfl (any_of HT_.out (by kernel_rfl)) (fun _ _ _ h => h) (Or.inr ⟨by rfl, rfl⟩) ?_ ?_
            rotate_left
            · simp only [Act.put, List.setIfInBounds_toArray, List.set_cons_zero, List.set_cons_succ, i64_w, i32_w]
              rfl
            refine pure_ (i := 16) (N := some 75) (v := undef) (a' := ?_) #[true, true, true, true, true, true, true, true, true, true, true, true, true, true, true, true, true, false, false, false] rfl rfl (any_of HT_.out (by kernel_rfl)) (fun _ _ _ h => h) (Or.inr ⟨by rfl, rfl⟩) ?_ ?_
            rotate_left
            · simp only [Act.put, List.setIfInBounds_toArray, List.set_cons_zero, List.set_cons_succ, i64_w, i32_w]
              rfl
            refine pure_ (i := 17) (N := some 76) (v := undef) (a' := ?_) #[true, true, true, true, true, true, true, true, true, true, true, true, true, true, true, true, true, true, false, false] rfl rfl (any_of HT_.out (by kernel_rfl)) (fun _ _ _ h => h) (Or.inr ⟨by rfl, rfl⟩) ?_ ?_
            rotate_left
            · simp only [Act.put, List.setIfInBounds_toArray, List.set_cons_zero, List.set_cons_succ, i64_w, i32_w]
              rfl
            refine pure_ (i := 18) (N := some 77) (v := undef) (a' := ?_) #[true, true, true, true, true, true, true, true, true, true, true, true, true, true, true, true, true, true, true, false] rfl rfl (any_of HT_.out (by kernel_rfl)) (fun _ _ _ h => h) (Or.inr ⟨by rfl, rfl⟩) ?_ ?_
            rotate_left
            · simp only [Act.put, List.setIfInBounds_toArray, List.set_cons_zero, List.set_cons_succ, i64_w, i32_w]
              rfl
            refine pure_ (i := 19) (N := some 78) (v := ?_) (a' := ?_) #[true, true, true, true, true, true, true, true, true, true, true, true, true, true, true, true, true, true, true, true] rfl rfl (any_of HT_.out (by kernel_rfl)) (fun _ _ _ h => h) (Or.inl ⟨by rfl, ?_⟩) ?_ ?_
            rotate_left
            · intro w'
              go_simp
              with_reducible rfl
            rotate_left
            · simp only [Act.put, List.setIfInBounds_toArray, List.set_cons_zero, List.set_cons_succ, i64_w, i32_w]
              rfl
            refine done_ (done_of HT_.out (by kernel_rfl)) ?_
            try go_wp2
            go_meet
            case rel => exact ⟨_, (true), (by first | rfl | (simp; done) | (simp [*]; done)), H', ⟨by first | omega | exact Nat.le_refl _⟩, ⟨by exact bS BK107.out⟩, ⟨by exact eS HB.out⟩⟩
      · rw [if_neg c14] at H
        have c14b0 : (t108 == t111) = false := beq_eq_false_iff_ne.mpr c14
        have c14b1 : (t108 != t111) = true := bne_iff_ne.mpr c14
        (first | rw [c14b0] | (simp only [i64_w, i32_w]; rw [c14b0]) | skip)
        as_aux_lemma =>
          have H' := Aside0.mk H
          clear H
          try go_wp2
          have n0_ := Aside0.mk (blk_drew BK107.out)
          have n1_ := Aside0.mk (below_drew1 HB.out)
          clear BK107
          clear HB
          have BK107 := n0_
          have HB := n1_
          clear n0_ n1_
          refine start_ (n := 20) (S := fun w' => True) (ds := []) #[false, false, false, false, false, false, false, false, false, false, false, false, false, false, false, false, false, false, false, false] (by kernel_rfl) rfl rfl trivial (fun hHeld => ?_); refine with_tabW laws_FnSizes.tab6 laws_FnSizes.bits6 (fun HT_ HW_ => ?_)
          generalize w13.drew = w24 at BK107 HB hHeld ⊢
          refine pure_ (i := 0) (N := some 59) (v := ?_) (a' := ?_) #[true, false, false, false, false, false, false, false, false, false, false, false, false, false, false, false, false, false, false, false] rfl rfl (any_of HT_.out (by kernel_rfl)) (fun _ _ _ h => h) (Or.inl ⟨by rfl, ?_⟩) ?_ ?_
          rotate_left
          · intro w'
            go_simp
            with_reducible rfl
          rotate_left
          · simp only [Act.put, List.setIfInBounds_toArray, List.set_cons_zero, List.set_cons_succ, i64_w, i32_w]
            rfl
          refine pure_ (i := 1) (N := some 60) (v := ?_) (a' := ?_) #[true, true, false, false, false, false, false, false, false, false, false, false, false, false, false, false, false, false, false, false] rfl rfl (any_of HT_.out (by kernel_rfl)) (fun _ _ _ h => h) (Or.inl ⟨by rfl, ?_⟩) ?_ ?_
          rotate_left
          · intro w'
            go_simp
            with_reducible rfl
          rotate_left
          · simp only [Act.put, List.setIfInBounds_toArray, List.set_cons_zero, List.set_cons_succ, i64_w, i32_w]
            rfl
          refine pure_ (i := 2) (N := some 61) (v := ?_) (a' := ?_) #[true, true, true, false, false, false, false, false, false, false, false, false, false, false, false, false, false, false, false, false] rfl rfl (any_of HT_.out (by kernel_rfl)) (fun _ _ _ h => h) (Or.inl ⟨by rfl, ?_⟩) ?_ ?_
          rotate_left
          · intro w'
            go_simp
            with_reducible rfl
          rotate_left
          · simp only [Act.put, List.setIfInBounds_toArray, List.set_cons_zero, List.set_cons_succ, i64_w, i32_w]
            rfl
          refine pure_ (i := 3) (N := some 62) (v := ?_) (a' := ?_) #[true, true, true, true, false, false, false, false, false, false, false, false, false, false, false, false, false, false, false, false] rfl rfl (any_of HT_.out (by kernel_rfl)) (fun _ _ _ h => h) (Or.inl ⟨by rfl, ?_⟩) ?_ ?_
          rotate_left
          · intro w'
            go_simp
            with_reducible rfl
          rotate_left
          · simp only [Act.put, List.setIfInBounds_toArray, List.set_cons_zero, List.set_cons_succ, i64_w, i32_w]
            rfl
          refine pure_ (i := 4) (N := some 63) (v := undef) (a' := ?_) #[true, true, true, true, true, false, false, false, false, false, false, false, false, false, false, false, false, false, false, false] rfl rfl (any_of HT_.out (by kernel_rfl)) (fun _ _ _ h => h) (Or.inr ⟨by rfl, rfl⟩) ?_ ?_
          rotate_left
          · simp only [Act.put, List.setIfInBounds_toArray, List.set_cons_zero, List.set_cons_succ, i64_w, i32_w]
            rfl
          refine pure_ (i := 5) (N := some 64) (v := undef) (a' := ?_) #[true, true, true, true, true, true, false, false, false, false, false, false, false, false, false, false, false, false, false, false] rfl rfl (any_of HT_.out (by kernel_rfl)) (fun _ _ _ h => h) (Or.inr ⟨by rfl, rfl⟩) ?_ ?_
          rotate_left
          · simp only [Act.put, List.setIfInBounds_toArray, List.set_cons_zero, List.set_cons_succ, i64_w, i32_w]
            rfl
          refine pure_ (i := 6) (N := some 65) (v := undef) (a' := ?_) #[true, true, true, true, true, true, true, false, false, false, false, false, false, false, false, false, false, false, false, false] rfl rfl (any_of HT_.out (by kernel_rfl)) (fun _ _ _ h => h) (Or.inr ⟨by rfl, rfl⟩) ?_ ?_
          rotate_left
          · simp only [Act.put, List.setIfInBounds_toArray, List.set_cons_zero, List.set_cons_succ, i64_w, i32_w]
            rfl
          refine pure_ (i := 7) (N := some 66) (v := ?_) (a' := ?_) #[true, true, true, true, true, true, true, true, false, false, false, false, false, false, false, false, false, false, false, false] rfl rfl (any_of HT_.out (by kernel_rfl)) (fun _ _ _ h => h) (Or.inl ⟨by rfl, ?_⟩) ?_ ?_
          rotate_left
          · intro w'
            go_simp
            with_reducible rfl
          rotate_left
          · simp only [Act.put, List.setIfInBounds_toArray, List.set_cons_zero, List.set_cons_succ, i64_w, i32_w]
            rfl
          refine pure_ (i := 8) (N := some 67) (v := ?_) (a' := ?_) #[true, true, true, true, true, true, true, true, true, false, false, false, false, false, false, false, false, false, false, false] rfl rfl (any_of HT_.out (by kernel_rfl)) (fun _ _ _ h => h) (Or.inl ⟨by rfl, ?_⟩) ?_ ?_
          rotate_left
          · intro w'
            go_simp
            with_reducible rfl
          rotate_left
          · simp only [Act.put, List.setIfInBounds_toArray, List.set_cons_zero, List.set_cons_succ, i64_w, i32_w]
            rfl
          refine pure_ (i := 9) (N := some 68) (v := undef) (a' := ?_) #[true, true, true, true, true, true, true, true, true, true, false, false, false, false, false, false, false, false, false, false] rfl rfl (any_of HT_.out (by kernel_rfl)) (fun _ _ _ h => h) (Or.inr ⟨by rfl, rfl⟩) ?_ ?_
          rotate_left
          · simp only [Act.put, List.setIfInBounds_toArray, List.set_cons_zero, List.set_cons_succ, i64_w, i32_w]
            rfl
          refine pure_ (i := 10) (N := some 69) (v := undef) (a' := ?_) #[true, true, true, true, true, true, true, true, true, true, true, false, false, false, false, false, false, false, false, false] rfl rfl (any_of HT_.out (by kernel_rfl)) (fun _ _ _ h => h) (Or.inr ⟨by rfl, rfl⟩) ?_ ?_
          rotate_left
          · simp only [Act.put, List.setIfInBounds_toArray, List.set_cons_zero, List.set_cons_succ, i64_w, i32_w]
            rfl
          refine pure_ (i := 11) (N := some 70) (v := undef) (a' := ?_) #[true, true, true, true, true, true, true, true, true, true, true, true, false, false, false, false, false, false, false, false] rfl rfl (any_of HT_.out (by kernel_rfl)) (fun _ _ _ h => h) (Or.inr ⟨by rfl, rfl⟩) ?_ ?_
          rotate_left
          · simp only [Act.put, List.setIfInBounds_toArray, List.set_cons_zero, List.set_cons_succ, i64_w, i32_w]
            rfl
          refine pure_ (i := 12) (N := some 71) (v := ?_) (a' := ?_) #[true, true, true, true, true, true, true, true, true, true, true, true, true, false, false, false, false, false, false, false] rfl rfl (any_of HT_.out (by kernel_rfl)) (fun _ _ _ h => h) (Or.inl ⟨by rfl, ?_⟩) ?_ ?_
          rotate_left
          · intro w'
            go_simp
            with_reducible rfl
          rotate_left
          · simp only [Act.put, List.setIfInBounds_toArray, List.set_cons_zero, List.set_cons_succ, i64_w, i32_w]
            rfl
          refine pure_ (i := 13) (N := some 72) (v := ?_) (a' := ?_) #[true, true, true, true, true, true, true, true, true, true, true, true, true, true, false, false, false, false, false, false] rfl rfl (any_of HT_.out (by kernel_rfl)) (fun _ _ _ h => h) (Or.inl ⟨by rfl, ?_⟩) ?_ ?_
          rotate_left
          · intro w'
            go_simp
            with_reducible rfl
          rotate_left
          · simp only [Act.put, List.setIfInBounds_toArray, List.set_cons_zero, List.set_cons_succ, i64_w, i32_w]
            rfl
          refine pure_ (i := 14) (N := some 73) (v := undef) (a' := ?_) #[true, true, true, true, true, true, true, true, true, true, true, true, true, true, true, false, false, false, false, false] rfl rfl (any_of HT_.out (by kernel_rfl)) (fun _ _ _ h => h) (Or.inr ⟨by rfl, rfl⟩) ?_ ?_
          rotate_left
          · simp only [Act.put, List.setIfInBounds_toArray, List.set_cons_zero, List.set_cons_succ, i64_w, i32_w]
            rfl
          refine pure_ (i := 15) (N := some 74) (v := undef) (a' := ?_) #[true, true, true, true, true, true, true, true, true, true, true, true, true, true, true, true, false, false, false, false] rfl rfl (any_of HT_.out (by kernel_rfl)) (fun _ _ _ h => h) (Or.inr ⟨by rfl, rfl⟩) ?_ ?_
          rotate_left
          · simp only [Act.put, List.setIfInBounds_toArray, List.set_cons_zero, List.set_cons_succ, i64_w, i32_w]
            rfl
          refine pure_ (i := 16) (N := some 75) (v := undef) (a' := ?_) #[true, true, true, true, true, true, true, true, true, true, true, true, true, true, true, true, true, false, false, false] rfl rfl (any_of HT_.out (by kernel_rfl)) (fun _ _ _ h => h) (Or.inr ⟨by rfl, rfl⟩) ?_ ?_
          rotate_left
          · simp only [Act.put, List.setIfInBounds_toArray, List.set_cons_zero, List.set_cons_succ, i64_w, i32_w]
            rfl
          refine pure_ (i := 17) (N := some 76) (v := undef) (a' := ?_) #[true, true, true, true, true, true, true, true, true, true, true, true, true, true, true, true, true, true, false, false] rfl rfl (any_of HT_.out (by kernel_rfl)) (fun _ _ _ h => h) (Or.inr ⟨by rfl, rfl⟩) ?_ ?_
          rotate_left
          · simp only [Act.put, List.setIfInBounds_toArray, List.set_cons_zero, List.set_cons_succ, i64_w, i32_w]
            rfl
          refine pure_ (i := 18) (N := some 77) (v := undef) (a' := ?_) #[true, true, true, true, true, true, true, true, true, true, true, true, true, true, true, true, true, true, true, false] rfl rfl (any_of HT_.out (by kernel_rfl)) (fun _ _ _ h => h) (Or.inr ⟨by rfl, rfl⟩) ?_ ?_
          rotate_left
          · simp only [Act.put, List.setIfInBounds_toArray, List.set_cons_zero, List.set_cons_succ, i64_w, i32_w]
            rfl
          refine pure_ (i := 19) (N := some 78) (v := ?_) (a' := ?_) #[true, true, true, true, true, true, true, true, true, true, true, true, true, true, true, true, true, true, true, true] rfl rfl (any_of HT_.out (by kernel_rfl)) (fun _ _ _ h => h) (Or.inl ⟨by rfl, ?_⟩) ?_ ?_
          rotate_left
          · intro w'
            go_simp
            with_reducible rfl
          rotate_left
          · simp only [Act.put, List.setIfInBounds_toArray, List.set_cons_zero, List.set_cons_succ, i64_w, i32_w]
            rfl
          refine done_ (done_of HT_.out (by kernel_rfl)) ?_
          try go_wp2
          go_meet
          case rel => exact ⟨_, (true), (by first | rfl | (simp; done) | (simp [*]; done)), H', ⟨by first | omega | exact Nat.le_refl _⟩, ⟨by exact bS BK107.out⟩, ⟨by exact eS HB.out⟩⟩
    case rest =>
      clear HC7
      try clear c1
      try clear p2
      try clear c14
      try clear c14b0
      try clear c14b1
      try clear c15
      try clear c15b0
      try clear c15b1
      try clear c16
      try clear c16b0
      try clear c16b1
      try clear c16b2
      try clear c17
      obtain ⟨kq, x78_6, rfl, HA, HJ6, BK107, HB⟩ := hcut
      cases kq with
      | zero => exact absurd HA.out (by simp [laws_FnSizes.j0])
      | succ kj6 =>
        have H := HA.out
        clear HA
        simp only [laws_FnSizes.j0] at H
        by_cases c25 : x78_6 = true
        · subst c25
          have H1 : (some false) = some r := by rw [if_pos rfl] at H; exact H
          clear H
          have H := H1
          clear H1
          as_aux_lemma =>
            exact absurd ((Option.some.inj H).trans HT.out) (by decide)
        · replace c25 := Bool.eq_false_iff.mpr c25
          subst c25
          have H1 : (if t110 = true then (if (wrap64 ((wrap64 (100 * t108)) + (wrap64 ((wrap64 (2 * t104)) * t102)))) > (wrap64 (t105 * t102)) then (some false) else (if (wrap64 ((wrap64 (100 * (wrap64 (t108 + 1)))) + (wrap64 ((wrap64 (2 * t104)) * t102)))) ≤ (wrap64 (t105 * t102)) then (some false) else (if (wrap64 ((wrap64 (100 * t109)) + (wrap64 ((wrap64 (2 * t104)) * t103)))) > (wrap64 (t106 * t103)) then (some false) else (if (wrap64 ((wrap64 (100 * (wrap64 (t109 + 1)))) + (wrap64 ((wrap64 (2 * t104)) * t103)))) ≤ (wrap64 (t106 * t103)) then (some false) else (laws_FnSizes.j1 kj6 l0))))) else (laws_FnSizes.j1 kj6 l0)) = some r := by rw [if_neg (show ¬ (false = true) by decide)] at H; exact H
          clear H
          have H := H1
          clear H1
          have HC26 := Aside0.mk H
          clear H
          go_upto_if 79 with (fail)
          go_cut [] (fun wc => ∃ (kq : Nat), Aside0 (laws_FnSizes.j1 kq l0 = some r) ∧ Aside0 (kq ≤ kj6) ∧ Aside0 (wc.heap[gb107]? = some (.cells #[.int .i64 t102, .int .i64 t103, .int .i64 t104] 25 (0, 0))) ∧ Aside0 (Below w.heap.size w wc))
          case first =>
            have H := HC26.out
            clear HC26
            by_cases c27 : t110 = true
            · subst c27
              have H1 : (if (wrap64 ((wrap64 (100 * t108)) + (wrap64 ((wrap64 (2 * t104)) * t102)))) > (wrap64 (t105 * t102)) then (some false) else (if (wrap64 ((wrap64 (100 * (wrap64 (t108 + 1)))) + (wrap64 ((wrap64 (2 * t104)) * t102)))) ≤ (wrap64 (t105 * t102)) then (some false) else (if (wrap64 ((wrap64 (100 * t109)) + (wrap64 ((wrap64 (2 * t104)) * t103)))) > (wrap64 (t106 * t103)) then (some false) else (if (wrap64 ((wrap64 (100 * (wrap64 (t109 + 1)))) + (wrap64 ((wrap64 (2 * t104)) * t103)))) ≤ (wrap64 (t106 * t103)) then (some false) else (laws_FnSizes.j1 kj6 l0))))) = some r := by rw [if_pos rfl] at H; exact H
              clear H
              have H := H1
              clear H1
              by_cases c28 : (wrap64 ((wrap64 (100 * t108)) + (wrap64 ((wrap64 (2 * t104)) * t102)))) > (wrap64 (t105 * t102))
              · rw [if_pos c28] at H
                have c28b0 : decide ((wrap64 (t105 * t102)) < (wrap64 ((wrap64 (100 * t108)) + (wrap64 ((wrap64 (2 * t104)) * t102))))) = true := decide_eq_true c28
                clear c28
                (first | rw [c28b0] | (simp only [i64_w, i32_w]; rw [c28b0]) | skip)
                as_aux_lemma =>
                  exact absurd ((Option.some.inj H).trans HT.out) (by decide)
              · rw [if_neg c28] at H
                have c28b0 : decide ((wrap64 (t105 * t102)) < (wrap64 ((wrap64 (100 * t108)) + (wrap64 ((wrap64 (2 * t104)) * t102))))) = false := decide_eq_false c28
                clear c28
                (first | rw [c28b0] | (simp only [i64_w, i32_w]; rw [c28b0]) | skip)
                by_cases c29 : (wrap64 ((wrap64 (100 * (wrap64 (t108 + 1)))) + (wrap64 ((wrap64 (2 * t104)) * t102)))) ≤ (wrap64 (t105 * t102))
                · rw [if_pos c29] at H
                  have c29b0 : decide ((wrap64 ((wrap64 (100 * (wrap64 (t108 + 1)))) + (wrap64 ((wrap64 (2 * t104)) * t102)))) ≤ (wrap64 (t105 * t102))) = true := decide_eq_true c29
                  clear c29
                  as_aux_lemma =>
                    exact absurd ((Option.some.inj H).trans HT.out) (by decide)
                · rw [if_neg c29] at H
                  have c29b0 : decide ((wrap64 ((wrap64 (100 * (wrap64 (t108 + 1)))) + (wrap64 ((wrap64 (2 * t104)) * t102)))) ≤ (wrap64 (t105 * t102))) = false := decide_eq_false c29
                  clear c29
                  by_cases c30 : (wrap64 ((wrap64 (100 * t109)) + (wrap64 ((wrap64 (2 * t104)) * t103)))) > (wrap64 (t106 * t103))
                  · rw [if_pos c30] at H
                    have c30b0 : decide ((wrap64 (t106 * t103)) < (wrap64 ((wrap64 (100 * t109)) + (wrap64 ((wrap64 (2 * t104)) * t103))))) = true := decide_eq_true c30
                    clear c30
                    as_aux_lemma =>
                      exact absurd ((Option.some.inj H).trans HT.out) (by decide)
                  · rw [if_neg c30] at H
                    have c30b0 : decide ((wrap64 (t106 * t103)) < (wrap64 ((wrap64 (100 * t109)) + (wrap64 ((wrap64 (2 * t104)) * t103))))) = false := decide_eq_false c30
                    clear c30
                    by_cases c31 : (wrap64 ((wrap64 (100 * (wrap64 (t109 + 1)))) + (wrap64 ((wrap64 (2 * t104)) * t103)))) ≤ (wrap64 (t106 * t103))
                    · rw [if_pos c31] at H
                      have c31b0 : decide ((wrap64 ((wrap64 (100 * (wrap64 (t109 + 1)))) + (wrap64 ((wrap64 (2 * t104)) * t103)))) ≤ (wrap64 (t106 * t103))) = true := decide_eq_true c31
                      clear c31
                      as_aux_lemma =>
                        exact absurd ((Option.some.inj H).trans HT.out) (by decide)
                    · rw [if_neg c31] at H
                      have c31b0 : decide ((wrap64 ((wrap64 (100 * (wrap64 (t109 + 1)))) + (wrap64 ((wrap64 (2 * t104)) * t103)))) ≤ (wrap64 (t106 * t103))) = false := decide_eq_false c31
                      clear c31
                      as_aux_lemma =>
                        have H' := Aside0.mk H
                        clear H
                        have hcz32_0 : wc.cell? ⟨gb107, 0, none⟩ = some (.int .i64 t102) := (blk_cell BK107.out 0).trans rfl
                        have hcz32_1 : wc.cell? ⟨gb107, 1, none⟩ = some (.int .i64 t103) := (blk_cell BK107.out 1).trans rfl
                        have hcz32_2 : wc.cell? ⟨gb107, 2, none⟩ = some (.int .i64 t104) := (blk_cell BK107.out 2).trans rfl
                        have hfz32_0 := blk_frozen BK107.out 0
                        have hfz32_1 := blk_frozen BK107.out 1
                        have hfz32_2 := blk_frozen BK107.out 2
                        go_wp2
                        go_meet
                        case rel => exact ⟨_, H', ⟨by have := HJ6.out; first | omega | exact Nat.le_refl _⟩, ⟨by exact bS BK107.out⟩, ⟨by exact eS HB.out⟩⟩
            · replace c27 := Bool.eq_false_iff.mpr c27
              subst c27
              have H1 : (laws_FnSizes.j1 kj6 l0) = some r := by rw [if_neg (show ¬ (false = true) by decide)] at H; exact H
              clear H
              have H := H1
              clear H1
              as_aux_lemma =>
                have H' := Aside0.mk H
                clear H
                go_wp2
                go_meet
                case rel => exact ⟨_, H', ⟨by have := HJ6.out; first | omega | exact Nat.le_refl _⟩, ⟨by exact bS BK107.out⟩, ⟨by exact eS HB.out⟩⟩
          case rest =>
            clear HC26
            try clear c1
            try clear c2
            try clear p2
            try clear c3
            try clear p6
            try clear c14
            try clear c14b0
            try clear c14b1
            try clear c15
            try clear c15b0
            try clear c15b1
            try clear c16
            try clear c16b0
            try clear c16b1
            try clear c16b2
            try clear c17
            try clear c25
            try clear c27
            try clear c28
            try clear c28b0
            try clear c29
            try clear c29b0
            try clear c30
            try clear c30b0
            try clear c31
            try clear c31b0
            try clear hcz32_0
            try clear hcz32_1
            try clear hcz32_2
            try clear hfz32_0
            try clear hfz32_1
            try clear hfz32_2
            try clear p2
            obtain ⟨kq, HA, HJ25, BK107, HB⟩ := hcut
            cases kq with
            | zero => exact absurd HA.out (by simp [laws_FnSizes.j1])
            | succ kj25 =>
              have H := HA.out
              clear HA
              simp only [laws_FnSizes.j1] at H
              replace H := Option.bind_eq_some_iff.mp H
              obtain ⟨⟨t116, t117, t118, t121, t122, t123⟩, A330, H⟩ := H
              replace H : ((impl_SizeOf.f kj25 t116 t117 t118 t121 t122 t123).bind fun bt126 => ((spec_SizeOf.f kj25 t116 t117 t118 t121 t122 t123).bind fun bt131 => (if bt126.1 = bt131.1 then (if bt126.2.1 = bt131.2.1 then (if bt126.2.2.1 = bt131.2.2.1 then (if bt126.2.2.2.1 = bt131.2.2.2.1 then (laws_FnSizes.j2 kj25 l0 bt126.1 bt126.2.1 bt126.2.2.1 bt126.2.2.2.1 bt126.2.2.2.2 (bt126.2.2.2.2 != bt131.2.2.2.2) t116 t117 t118 t121 t122 t123) else (laws_FnSizes.j2 kj25 l0 bt126.1 bt126.2.1 bt126.2.2.1 bt126.2.2.2.1 bt126.2.2.2.2 true t116 t117 t118 t121 t122 t123)) else (laws_FnSizes.j2 kj25 l0 bt126.1 bt126.2.1 bt126.2.2.1 bt126.2.2.2.1 bt126.2.2.2.2 true t116 t117 t118 t121 t122 t123)) else (laws_FnSizes.j2 kj25 l0 bt126.1 bt126.2.1 bt126.2.2.1 bt126.2.2.2.1 bt126.2.2.2.2 true t116 t117 t118 t121 t122 t123)) else (laws_FnSizes.j2 kj25 l0 bt126.1 bt126.2.1 bt126.2.2.1 bt126.2.2.2.1 bt126.2.2.2.2 true t116 t117 t118 t121 t122 t123)))) = some r := H
              have A33 := Aside0.mk A330
              clear A330
              replace H := Option.bind_eq_some_iff.mp H
              obtain ⟨⟨t126, t127, t128, t129, t130⟩, A340, H⟩ := H
              replace H : ((spec_SizeOf.f kj25 t116 t117 t118 t121 t122 t123).bind fun bt131 => (if t126 = bt131.1 then (if t127 = bt131.2.1 then (if t128 = bt131.2.2.1 then (if t129 = bt131.2.2.2.1 then (laws_FnSizes.j2 kj25 l0 t126 t127 t128 t129 t130 (t130 != bt131.2.2.2.2) t116 t117 t118 t121 t122 t123) else (laws_FnSizes.j2 kj25 l0 t126 t127 t128 t129 t130 true t116 t117 t118 t121 t122 t123)) else (laws_FnSizes.j2 kj25 l0 t126 t127 t128 t129 t130 true t116 t117 t118 t121 t122 t123)) else (laws_FnSizes.j2 kj25 l0 t126 t127 t128 t129 t130 true t116 t117 t118 t121 t122 t123)) else (laws_FnSizes.j2 kj25 l0 t126 t127 t128 t129 t130 true t116 t117 t118 t121 t122 t123))) = some r := H
              have A34 := Aside0.mk A340
              clear A340
              replace H := Option.bind_eq_some_iff.mp H
              obtain ⟨⟨t131, t132, t133, t134, t135⟩, A350, H⟩ := H
              replace H : (if t126 = t131 then (if t127 = t132 then (if t128 = t133 then (if t129 = t134 then (laws_FnSizes.j2 kj25 l0 t126 t127 t128 t129 t130 (t130 != t135) t116 t117 t118 t121 t122 t123) else (laws_FnSizes.j2 kj25 l0 t126 t127 t128 t129 t130 true t116 t117 t118 t121 t122 t123)) else (laws_FnSizes.j2 kj25 l0 t126 t127 t128 t129 t130 true t116 t117 t118 t121 t122 t123)) else (laws_FnSizes.j2 kj25 l0 t126 t127 t128 t129 t130 true t116 t117 t118 t121 t122 t123)) else (laws_FnSizes.j2 kj25 l0 t126 t127 t128 t129 t130 true t116 t117 t118 t121 t122 t123)) = some r := H
              have A35 := Aside0.mk A350
              clear A350
              have HC36 := Aside0.mk H
              clear H
              go_upto_region 14 with (first | ((with_reducible refine gate_callee (f := 42) rfl ?_); refine goesL_ (some 146) rfl rfl Try.func42 (by kernel_rfl) rfl #[.slice A0 l0.length c0] rfl (by (try simp only [List.map_toArray, List.map_cons, List.map_nil]); first | done | rfl | (simp only [List.length_drop, List.length_take]; rfl)) ?_; (with_reducible refine (spec_DrawSizeOf.calls kj25 _ _ l0 t116 t117 t118 t121 t122 t123 _ ?side1 ?side2 A33.out).mono ?_); (case side1 => repeat (first | exact (Kd.C_below HR0.out HB.out) | (with_reducible refine Kd.C_alloc ?_ _) | (with_reducible refine Kd.C_drewN ?_ _) | (with_reducible refine Kd.C_drew ?_))); (case side2 => exact HC0.out); rintro e w37 ⟨v119, rfl, ho0, hb⟩; refine ⟨_, rfl, ?_⟩; have n0_ := Aside0.mk (Kd.R_lower ho0 (below_size (by exact eS HB.out))); have n1_ := Aside0.mk (blk_below (bS BK107.out) hb); have n2_ := Aside0.mk (below_step (by exact eS HB.out) hb); clear BK107; clear HB; have HO120 := n0_; have BK107 := n1_; have HB := n2_; clear n0_ n1_ n2_; (try clear hb); (try clear hb2); (try clear hk); (try clear hi); (try clear ho0)) | ((with_reducible refine gate_dst (N := 12) rfl ?_); refine box_event ?hg (N := 12) ?hd (cs := #[.int .i64 0, .int .i64 0, .slice none 0 0]) (t := 46) ?hr ?_; (case hd => rfl); (case hg => rfl); (case hr => first | (go_simp; done) | (go_simp; rfl)); intro gb124 hg w38 hbox hb; have n0_ := Aside0.mk (Kd.R_below (by exact Ho.RS <| HO120.out) hb); have n1_ := Aside0.mk (blk_below (bS BK107.out) hb); have n2_ := Aside0.mk (below_step (by exact eS HB.out) hb); have n3_ := Aside0.mk (hbox); have n4_ := Aside0.mk ((by rw [hg]; exact (below_size (by exact eS HB.out)) : w.heap.size ≤ gb124)); have n5_ := Aside0.mk ((by rw [hg]; exact (below_size (by exact eS HB.out)) : w.heap.size ≤ gb124)); have n6_ := Aside0.mk ((by rw [hg]; exact Nat.ne_of_lt (blk_lt (bS BK107.out)) : gb107 ≠ gb124)); have n7_ := Aside0.mk ((by rw [hg]; exact Nat.ne_of_gt (blk_lt (bS BK107.out)) : gb124 ≠ gb107)); clear HO120; clear BK107; clear HB; have HO120 := n0_; have BK107 := n1_; have HB := n2_; have BK124 := n3_; have GW124 := n4_; have GE124 := n5_; have NB107_124 := n6_; have NB124_107 := n7_; clear n0_ n1_ n2_ n3_ n4_ n5_ n6_ n7_; clear hb hbox hg) | ((with_reducible refine gate_dst (N := 13) rfl ?_); refine box_event ?hg (N := 13) ?hd (cs := #[.int .i64 0, .int .i64 0, .int .i64 0]) (t := 25) ?hr ?_; (case hd => rfl); (case hg => rfl); (case hr => first | (go_simp; done) | (go_simp; rfl)); intro gb125 hg w39 hbox hb; have n0_ := Aside0.mk (Kd.R_below (by exact Ho.RS <| HO120.out) hb); have n1_ := Aside0.mk (blk_below (bS BK107.out) hb); have n2_ := Aside0.mk (blk_below (bS BK124.out) hb); have n3_ := Aside0.mk (below_step (by exact eS HB.out) hb); have n4_ := Aside0.mk (hbox); have n5_ := Aside0.mk ((by rw [hg]; exact (below_size (by exact eS HB.out)) : w.heap.size ≤ gb125)); have n6_ := Aside0.mk ((by rw [hg]; exact (below_size (by exact eS HB.out)) : w.heap.size ≤ gb125)); have n7_ := Aside0.mk ((by rw [hg]; exact Nat.ne_of_lt (blk_lt (bS BK107.out)) : gb107 ≠ gb125)); have n8_ := Aside0.mk ((by rw [hg]; exact Nat.ne_of_gt (blk_lt (bS BK107.out)) : gb125 ≠ gb107)); have n9_ := Aside0.mk ((by rw [hg]; exact Nat.ne_of_lt (blk_lt (bS BK124.out)) : gb124 ≠ gb125)); have n10_ := Aside0.mk ((by rw [hg]; exact Nat.ne_of_gt (blk_lt (bS BK124.out)) : gb125 ≠ gb124)); clear HO120; clear BK107; clear BK124; clear HB; have HO120 := n0_; have BK107 := n1_; have BK124 := n2_; have HB := n3_; have BK125 := n4_; have GW125 := n5_; have GE125 := n6_; have NB107_125 := n7_; have NB125_107 := n8_; have NB124_125 := n9_; have NB125_124 := n10_; clear n0_ n1_ n2_ n3_ n4_ n5_ n6_ n7_ n8_ n9_ n10_; clear hb hbox hg; have hnb40 := NB124_107.out; have hnc40 := NB107_124.out; have hnb41 := NB124_125.out; have hnc41 := NB125_124.out; have hcz42_0 : w39.cell? ⟨gb124, 0, none⟩ = some (.int .i64 0) := (blk_cell BK124.out 0).trans rfl; have hcz42_1 : w39.cell? ⟨gb124, 1, none⟩ = some (.int .i64 0) := (blk_cell BK124.out 1).trans rfl; have hcz42_2 : w39.cell? ⟨gb124, 2, none⟩ = some (.slice none 0 0) := (blk_cell BK124.out 2).trans rfl; have hfz42_0 := blk_frozen BK124.out 0; have hfz42_1 := blk_frozen BK124.out 1; have hfz42_2 := blk_frozen BK124.out 2; obtain ⟨Ao43, co43, eo43⟩ := Kd.R_slice HO120.out; subst eo43; have hnb44 := NB125_107.out; have hnc44 := NB107_125.out; have hcz45_0 : w39.cell? ⟨gb125, 0, none⟩ = some (.int .i64 0) := (blk_cell BK125.out 0).trans rfl; have hcz45_1 : w39.cell? ⟨gb125, 1, none⟩ = some (.int .i64 0) := (blk_cell BK125.out 1).trans rfl; have hcz45_2 : w39.cell? ⟨gb125, 2, none⟩ = some (.int .i64 0) := (blk_cell BK125.out 2).trans rfl; have hfz45_0 := blk_frozen BK125.out 0; have hfz45_1 := blk_frozen BK125.out 1; have hfz45_2 := blk_frozen BK125.out 2) | ((with_reducible refine gate_callee (f := 32) rfl ?_); refine goesL_ (some 152) rfl rfl Try.func32 (by kernel_rfl) rfl #[.agg #[.int .i64 t116, .int .i64 t117, .slice Ao43 t118.length co43], .agg #[.int .i64 t121, .int .i64 t122, .int .i64 t123]] rfl (by (try simp only [List.map_toArray, List.map_cons, List.map_nil]); first | done | rfl | (simp only [List.length_drop, List.length_take]; rfl)) ?_; (with_reducible refine (impl_SizeOf.calls kj25 t116 t117 _ _ t118 t121 t122 t123 t126 t127 t128 t129 t130 _ ?side1 ?side2 A34.out).mono ?_); (case side1 => refine (Kd.R_reads' (e := 3) (base := w.heap.size) (ok := fun k_ => True) (n := t118.length) (c := co43) ?_).2.2; exact (by exact Ho.RS <| (Kd.R_mono (Kd.R_mono (Kd.R_far (p := ⟨gb125, 2, none⟩) (Kd.R_far (p := ⟨gb125, 1, none⟩) (Kd.R_far (p := ⟨gb125, 0, none⟩) (Kd.R_far (p := ⟨gb124, 2, none⟩) (Kd.R_far (p := ⟨gb124, 1, none⟩) (Kd.R_far (p := ⟨gb124, 0, none⟩) (Kd.R_types (Kd.R_types HO120.out BK124.out (by decide)) BK125.out (by decide)) (fun _ hk => hk.1.2) (.int .i64 t116)) (fun _ hk => hk.1.2) (.int .i64 t117)) (fun _ hk => hk.1.2) (.slice Ao43 t118.length co43)) (fun _ hk => hk.2) (.int .i64 t121)) (fun _ hk => hk.2) (.int .i64 t122)) (fun _ hk => hk.2) (.int .i64 t123)) (fun _ h_ => h_.1)) (fun _ h_ => h_.1)))); (case side2 => exact (Kd.R_reads' HO120.out).2.1); rintro e w46 ⟨rfl, hb⟩; refine ⟨_, rfl, ?_⟩; have n0_ := Aside0.mk (Kd.R_below (by exact Ho.RS <| (Kd.R_mono (Kd.R_mono (Kd.R_far (p := ⟨gb125, 2, none⟩) (Kd.R_far (p := ⟨gb125, 1, none⟩) (Kd.R_far (p := ⟨gb125, 0, none⟩) (Kd.R_far (p := ⟨gb124, 2, none⟩) (Kd.R_far (p := ⟨gb124, 1, none⟩) (Kd.R_far (p := ⟨gb124, 0, none⟩) (Kd.R_types (Kd.R_types HO120.out BK124.out (by decide)) BK125.out (by decide)) (fun _ hk => hk.1.2) (.int .i64 t116)) (fun _ hk => hk.1.2) (.int .i64 t117)) (fun _ hk => hk.1.2) (.slice Ao43 t118.length co43)) (fun _ hk => hk.2) (.int .i64 t121)) (fun _ hk => hk.2) (.int .i64 t122)) (fun _ hk => hk.2) (.int .i64 t123)) (fun _ h_ => h_.1)) (fun _ h_ => h_.1))) hb); have n1_ := Aside0.mk (blk_below (g := gb107) (o := .cells #[.int .i64 t102, .int .i64 t103, .int .i64 t104] 25 (0, 0)) (by (with_reducible repeat (first | refine blk_drewN ?_ _ | refine blk_drew ?_ | refine blk_alloc ?_ _)); refine blk_far ?_ NB107_125.out _; (with_reducible repeat (first | refine blk_drewN ?_ _ | refine blk_drew ?_ | refine blk_alloc ?_ _)); refine blk_far ?_ NB107_125.out _; (with_reducible repeat (first | refine blk_drewN ?_ _ | refine blk_drew ?_ | refine blk_alloc ?_ _)); refine blk_far ?_ NB107_125.out _; (with_reducible repeat (first | refine blk_drewN ?_ _ | refine blk_drew ?_ | refine blk_alloc ?_ _)); refine blk_far ?_ NB107_124.out _; (with_reducible repeat (first | refine blk_drewN ?_ _ | refine blk_drew ?_ | refine blk_alloc ?_ _)); refine blk_far ?_ NB107_124.out _; (with_reducible repeat (first | refine blk_drewN ?_ _ | refine blk_drew ?_ | refine blk_alloc ?_ _)); refine blk_far ?_ NB107_124.out _; exact bS BK107.out) hb); have n2_ := Aside0.mk (blk_below (g := gb124) (o := .cells #[.int .i64 t116, .int .i64 t117, .slice Ao43 t118.length co43] 46 (0, 0)) (by (with_reducible repeat (first | refine blk_drewN ?_ _ | refine blk_drew ?_ | refine blk_alloc ?_ _)); refine blk_far ?_ NB124_125.out _; (with_reducible repeat (first | refine blk_drewN ?_ _ | refine blk_drew ?_ | refine blk_alloc ?_ _)); refine blk_far ?_ NB124_125.out _; (with_reducible repeat (first | refine blk_drewN ?_ _ | refine blk_drew ?_ | refine blk_alloc ?_ _)); refine blk_far ?_ NB124_125.out _; (with_reducible repeat (first | refine blk_drewN ?_ _ | refine blk_drew ?_ | refine blk_alloc ?_ _)); refine blk_put (cs := #[.int .i64 t116, .int .i64 t117, .slice none 0 0]) ?_ 2 _ rfl; (with_reducible repeat (first | refine blk_drewN ?_ _ | refine blk_drew ?_ | refine blk_alloc ?_ _)); refine blk_put (cs := #[.int .i64 t116, .int .i64 0, .slice none 0 0]) ?_ 1 _ rfl; (with_reducible repeat (first | refine blk_drewN ?_ _ | refine blk_drew ?_ | refine blk_alloc ?_ _)); refine blk_put (cs := #[.int .i64 0, .int .i64 0, .slice none 0 0]) ?_ 0 _ rfl; exact bS BK124.out) hb); have n3_ := Aside0.mk (blk_below (g := gb125) (o := .cells #[.int .i64 t121, .int .i64 t122, .int .i64 t123] 25 (0, 0)) (by (with_reducible repeat (first | refine blk_drewN ?_ _ | refine blk_drew ?_ | refine blk_alloc ?_ _)); refine blk_put (cs := #[.int .i64 t121, .int .i64 t122, .int .i64 0]) ?_ 2 _ rfl; (with_reducible repeat (first | refine blk_drewN ?_ _ | refine blk_drew ?_ | refine blk_alloc ?_ _)); refine blk_put (cs := #[.int .i64 t121, .int .i64 0, .int .i64 0]) ?_ 1 _ rfl; (with_reducible repeat (first | refine blk_drewN ?_ _ | refine blk_drew ?_ | refine blk_alloc ?_ _)); refine blk_put (cs := #[.int .i64 0, .int .i64 0, .int .i64 0]) ?_ 0 _ rfl; (with_reducible repeat (first | refine blk_drewN ?_ _ | refine blk_drew ?_ | refine blk_alloc ?_ _)); refine blk_far ?_ NB125_124.out _; (with_reducible repeat (first | refine blk_drewN ?_ _ | refine blk_drew ?_ | refine blk_alloc ?_ _)); refine blk_far ?_ NB125_124.out _; (with_reducible repeat (first | refine blk_drewN ?_ _ | refine blk_drew ?_ | refine blk_alloc ?_ _)); refine blk_far ?_ NB125_124.out _; exact bS BK125.out) hb); have n4_ := Aside0.mk (below_step (by repeat (first | (with_reducible first | exact HB.out | apply below_alloc | apply pw_below_drewN | apply below_drew1 | refine below_set ?_ GE107.out | refine below_set ?_ GE124.out | refine below_set ?_ GE125.out) | exact HB.out)) hb); clear HO120; clear BK107; clear BK124; clear BK125; clear HB; have HO120 := n0_; have BK107 := n1_; have BK124 := n2_; have BK125 := n3_; have HB := n4_; clear n0_ n1_ n2_ n3_ n4_; (try clear hb); (try clear hb2); (try clear hk); (try clear hi); have hcz47_0 : w46.cell? ⟨gb124, 0, none⟩ = some (.int .i64 t116) := (blk_cell BK124.out 0).trans rfl; have hcz47_1 : w46.cell? ⟨gb124, 1, none⟩ = some (.int .i64 t117) := (blk_cell BK124.out 1).trans rfl; have hcz47_2 : w46.cell? ⟨gb124, 2, none⟩ = some (.slice Ao43 t118.length co43) := (blk_cell BK124.out 2).trans rfl; have hfz47_0 := blk_frozen BK124.out 0; have hfz47_1 := blk_frozen BK124.out 1; have hfz47_2 := blk_frozen BK124.out 2; have hcz48_0 : w46.cell? ⟨gb125, 0, none⟩ = some (.int .i64 t121) := (blk_cell BK125.out 0).trans rfl; have hcz48_1 : w46.cell? ⟨gb125, 1, none⟩ = some (.int .i64 t122) := (blk_cell BK125.out 1).trans rfl; have hcz48_2 : w46.cell? ⟨gb125, 2, none⟩ = some (.int .i64 t123) := (blk_cell BK125.out 2).trans rfl; have hfz48_0 := blk_frozen BK125.out 0; have hfz48_1 := blk_frozen BK125.out 1; have hfz48_2 := blk_frozen BK125.out 2) | ((with_reducible refine gate_callee (f := 30) rfl ?_); refine goesL_ (some 161) rfl rfl Try.func30 (by kernel_rfl) rfl #[.agg #[.int .i64 t116, .int .i64 t117, .slice Ao43 t118.length co43], .agg #[.int .i64 t121, .int .i64 t122, .int .i64 t123]] rfl (by (try simp only [List.map_toArray, List.map_cons, List.map_nil]); first | done | rfl | (simp only [List.length_drop, List.length_take]; rfl)) ?_; (with_reducible refine (spec_SizeOf.calls kj25 t116 t117 _ _ t118 t121 t122 t123 t131 t132 t133 t134 t135 _ ?side1 ?side2 A35.out).mono ?_); (case side1 => repeat (first | exact (Kd.R_reads' HO120.out).2.2 | (with_reducible refine Kd.C_alloc ?_ _) | (with_reducible refine Kd.C_drewN ?_ _) | (with_reducible refine Kd.C_drew ?_))); (case side2 => exact (Kd.R_reads' HO120.out).2.1); rintro e w49 ⟨rfl, hb⟩; refine ⟨_, rfl, ?_⟩; have n0_ := Aside0.mk (Kd.R_below (by exact Ho.RS <| HO120.out) hb); have n1_ := Aside0.mk (blk_below (bS BK107.out) hb); have n2_ := Aside0.mk (blk_below (bS BK124.out) hb); have n3_ := Aside0.mk (blk_below (bS BK125.out) hb); have n4_ := Aside0.mk (below_step (by exact eS HB.out) hb); clear HO120; clear BK107; clear BK124; clear BK125; clear HB; have HO120 := n0_; have BK107 := n1_; have BK124 := n2_; have BK125 := n3_; have HB := n4_; clear n0_ n1_ n2_ n3_ n4_; (try clear hb); (try clear hb2); (try clear hk); (try clear hi)))
              (try simp only [Act.put, List.setIfInBounds_toArray, List.set_cons_zero, List.set_cons_succ])
              go_cut [189] (fun v189 wc => ∃ (kq : Nat) (x189_35 : Bool), v189 = .bool x189_35 ∧ Aside0 (laws_FnSizes.j2 kq l0 t126 t127 t128 t129 t130 x189_35 t116 t117 t118 t121 t122 t123 = some r) ∧ Aside0 (kq ≤ kj25) ∧ Aside0 (Kd.R (Kd.int .i64) 3 wc w.heap.size (fun _ => True) (.slice Ao43 t118.length co43) t118) ∧ Aside0 (wc.heap[gb107]? = some (.cells #[.int .i64 t102, .int .i64 t103, .int .i64 t104] 25 (0, 0))) ∧ Aside0 (wc.heap[gb124]? = some (.cells #[.int .i64 t116, .int .i64 t117, (.slice Ao43 t118.length co43)] 46 (0, 0))) ∧ Aside0 (wc.heap[gb125]? = some (.cells #[.int .i64 t121, .int .i64 t122, .int .i64 t123] 25 (0, 0))) ∧ Aside0 (Below w.heap.size w wc))
              case first =>
                have H := HC36.out
                clear HC36
                by_cases c50 : t126 = t131
                · rw [if_pos c50] at H
                  have c50b0 : (t126 == t131) = true := beq_iff_eq.mpr c50
                  have c50b1 : (t126 != t131) = false := bne_eq_false_iff_eq.mpr c50
                  clear c50
                  (first | rw [c50b0] | (simp only [i64_w, i32_w]; rw [c50b0]) | skip)
                  by_cases c51 : t127 = t132
                  · rw [if_pos c51] at H
                    have c51b0 : (t127 == t132) = true := beq_iff_eq.mpr c51
                    have c51b1 : (t127 != t132) = false := bne_eq_false_iff_eq.mpr c51
                    clear c51
                    by_cases c52 : t128 = t133
                    · rw [if_pos c52] at H
                      have c52b0 : (t128 == t133) = true := beq_iff_eq.mpr c52
                      have c52b1 : (t128 != t133) = false := bne_eq_false_iff_eq.mpr c52
                      clear c52
                      by_cases c53 : t129 = t134
                      · rw [if_pos c53] at H
                        have c53b0 : (t129 == t134) = true := beq_iff_eq.mpr c53
                        have c53b1 : (t129 != t134) = false := bne_eq_false_iff_eq.mpr c53
                        clear c53
                        as_aux_lemma =>
                          have H' := Aside0.mk H
                          clear H
                          go_wp2
                          go_meet
                          case rel => exact ⟨_, ((t130 != t135)), (by first | rfl | (simp; done) | (simp [*]; done)), H', ⟨by have := HJ6.out; have := HJ25.out; first | omega | exact Nat.le_refl _⟩, ⟨by exact Ho.RS <| HO120.out⟩, ⟨by exact bS BK107.out⟩, ⟨by exact bS BK124.out⟩, ⟨by exact bS BK125.out⟩, ⟨by exact eS HB.out⟩⟩
                      · rw [if_neg c53] at H
                        have c53b0 : (t129 == t134) = false := beq_eq_false_iff_ne.mpr c53
                        have c53b1 : (t129 != t134) = true := bne_iff_ne.mpr c53
                        as_aux_lemma =>
                          have H' := Aside0.mk H
                          clear H
                          go_wp2
                          go_meet
                          case rel => exact ⟨_, (true), (by first | rfl | (simp; done) | (simp [*]; done)), H', ⟨by have := HJ6.out; have := HJ25.out; first | omega | exact Nat.le_refl _⟩, ⟨by exact Ho.RS <| HO120.out⟩, ⟨by exact bS BK107.out⟩, ⟨by exact bS BK124.out⟩, ⟨by exact bS BK125.out⟩, ⟨by exact eS HB.out⟩⟩
                    · rw [if_neg c52] at H
                      have c52b0 : (t128 == t133) = false := beq_eq_false_iff_ne.mpr c52
                      have c52b1 : (t128 != t133) = true := bne_iff_ne.mpr c52
                      as_aux_lemma =>
                        have H' := Aside0.mk H
                        clear H
                        go_wp2
                        go_meet
                        case rel => exact ⟨_, (true), (by first | rfl | (simp; done) | (simp [*]; done)), H', ⟨by have := HJ6.out; have := HJ25.out; first | omega | exact Nat.le_refl _⟩, ⟨by exact Ho.RS <| HO120.out⟩, ⟨by exact bS BK107.out⟩, ⟨by exact bS BK124.out⟩, ⟨by exact bS BK125.out⟩, ⟨by exact eS HB.out⟩⟩
                  · rw [if_neg c51] at H
                    have c51b0 : (t127 == t132) = false := beq_eq_false_iff_ne.mpr c51
                    have c51b1 : (t127 != t132) = true := bne_iff_ne.mpr c51
                    as_aux_lemma =>
                      have H' := Aside0.mk H
                      clear H
                      go_wp2
                      go_meet
                      case rel => exact ⟨_, (true), (by first | rfl | (simp; done) | (simp [*]; done)), H', ⟨by have := HJ6.out; have := HJ25.out; first | omega | exact Nat.le_refl _⟩, ⟨by exact Ho.RS <| HO120.out⟩, ⟨by exact bS BK107.out⟩, ⟨by exact bS BK124.out⟩, ⟨by exact bS BK125.out⟩, ⟨by exact eS HB.out⟩⟩
                · rw [if_neg c50] at H
                  have c50b0 : (t126 == t131) = false := beq_eq_false_iff_ne.mpr c50
                  have c50b1 : (t126 != t131) = true := bne_iff_ne.mpr c50
                  (first | rw [c50b0] | (simp only [i64_w, i32_w]; rw [c50b0]) | skip)
                  as_aux_lemma =>
                    have H' := Aside0.mk H
                    clear H
                    go_wp2
                    go_meet
                    case rel => exact ⟨_, (true), (by first | rfl | (simp; done) | (simp [*]; done)), H', ⟨by have := HJ6.out; have := HJ25.out; first | omega | exact Nat.le_refl _⟩, ⟨by exact Ho.RS <| HO120.out⟩, ⟨by exact bS BK107.out⟩, ⟨by exact bS BK124.out⟩, ⟨by exact bS BK125.out⟩, ⟨by exact eS HB.out⟩⟩
              case rest =>
                clear HC36
                try clear c1
                try clear c2
                try clear p2
                try clear c3
                try clear c4
                try clear c5
                try clear p6
                try clear c14
                try clear c14b0
                try clear c14b1
                try clear c15
                try clear c15b0
                try clear c15b1
                try clear c16
                try clear c16b0
                try clear c16b1
                try clear c16b2
                try clear c17
                try clear c25
                try clear c27
                try clear c28
                try clear c28b0
                try clear c29
                try clear c29b0
                try clear c30
                try clear c30b0
                try clear c31
                try clear c31b0
                try clear c32
                try clear c40
                try clear c41
                try clear c42
                try clear c44
                try clear c50
                try clear c50b0
                try clear c50b1
                try clear c51
                try clear c51b0
                try clear c51b1
                try clear c52
                try clear c52b0
                try clear c52b1
                try clear c53
                try clear c53b0
                try clear c53b1
                try clear hcz32_0
                try clear hcz32_1
                try clear hcz32_2
                try clear hcz42_0
                try clear hcz42_1
                try clear hcz42_2
                try clear hcz45_0
                try clear hcz45_1
                try clear hcz45_2
                try clear hcz47_0
                try clear hcz47_1
                try clear hcz47_2
                try clear hcz48_0
                try clear hcz48_1
                try clear hcz48_2
                try clear hfz32_0
                try clear hfz32_1
                try clear hfz32_2
                try clear hfz42_0
                try clear hfz42_1
                try clear hfz42_2
                try clear hfz45_0
                try clear hfz45_1
                try clear hfz45_2
                try clear hfz47_0
                try clear hfz47_1
                try clear hfz47_2
                try clear hfz48_0
                try clear hfz48_1
                try clear hfz48_2
                try clear p2
                try clear p6
                obtain ⟨kq, x189_35, rfl, HA, HJ35, HO_125002, BK107, BK124, BK125, HB⟩ := hcut
                cases kq with
                | zero => exact absurd HA.out (by simp [laws_FnSizes.j2])
                | succ kj35 =>
                  have H := HA.out
                  clear HA
                  simp only [laws_FnSizes.j2] at H
                  by_cases c54 : x189_35 = true
                  · subst c54
                    have H1 : (some false) = some r := by rw [if_pos rfl] at H; exact H
                    clear H
                    have H := H1
                    clear H1
                    as_aux_lemma =>
                      exact absurd ((Option.some.inj H).trans HT.out) (by decide)
                  · replace c54 := Bool.eq_false_iff.mpr c54
                    subst c54
                    have H1 : ((impl_AspectOf.f kj35 t116 t117 t118 t121 t122 t123).bind fun bt136 => ((spec_AspectOf.f kj35 t116 t117 t118 t121 t122 t123).bind fun bt139 => (if bt136.1 = bt139.1 then (if bt136.2.1 = bt139.2.1 then (if (bt136.2.2 != bt139.2.2) = true then (laws_FnSizes.j3 kj35 l0 true) else (if (bt136.2.2 != t130) = true then (laws_FnSizes.j3 kj35 l0 true) else (if t130 = true then (laws_FnSizes.j3 kj35 l0 ((wrap64 ((wrap64 (bt136.1 * t127)) * t128)) != (wrap64 ((wrap64 (bt136.2.1 * t126)) * t129)))) else (laws_FnSizes.j3 kj35 l0 false)))) else (laws_FnSizes.j3 kj35 l0 true)) else (laws_FnSizes.j3 kj35 l0 true)))) = some r := by rw [if_neg (show ¬ (false = true) by decide)] at H; exact H
                    clear H
                    have H := H1
                    clear H1
                    replace H := Option.bind_eq_some_iff.mp H
                    obtain ⟨⟨t136, t137, t138⟩, A550, H⟩ := H
                    replace H : ((spec_AspectOf.f kj35 t116 t117 t118 t121 t122 t123).bind fun bt139 => (if t136 = bt139.1 then (if t137 = bt139.2.1 then (if (t138 != bt139.2.2) = true then (laws_FnSizes.j3 kj35 l0 true) else (if (t138 != t130) = true then (laws_FnSizes.j3 kj35 l0 true) else (if t130 = true then (laws_FnSizes.j3 kj35 l0 ((wrap64 ((wrap64 (t136 * t127)) * t128)) != (wrap64 ((wrap64 (t137 * t126)) * t129)))) else (laws_FnSizes.j3 kj35 l0 false)))) else (laws_FnSizes.j3 kj35 l0 true)) else (laws_FnSizes.j3 kj35 l0 true))) = some r := H
                    have A55 := Aside0.mk A550
                    clear A550
                    replace H := Option.bind_eq_some_iff.mp H
                    obtain ⟨⟨t139, t140, t141⟩, A560, H⟩ := H
                    replace H : (if t136 = t139 then (if t137 = t140 then (if (t138 != t141) = true then (laws_FnSizes.j3 kj35 l0 true) else (if (t138 != t130) = true then (laws_FnSizes.j3 kj35 l0 true) else (if t130 = true then (laws_FnSizes.j3 kj35 l0 ((wrap64 ((wrap64 (t136 * t127)) * t128)) != (wrap64 ((wrap64 (t137 * t126)) * t129)))) else (laws_FnSizes.j3 kj35 l0 false)))) else (laws_FnSizes.j3 kj35 l0 true)) else (laws_FnSizes.j3 kj35 l0 true)) = some r := H
                    have A56 := Aside0.mk A560
                    clear A560
                    have HC57 := Aside0.mk H
                    clear H
                    have hnb58 := NB124_107.out
                    have hnc58 := NB107_124.out
                    have hnb59 := NB124_125.out
                    have hnc59 := NB125_124.out
                    have hcz60_0 : wc.cell? ⟨gb124, 0, none⟩ = some (.int .i64 t116) := (blk_cell BK124.out 0).trans rfl
                    have hcz60_1 : wc.cell? ⟨gb124, 1, none⟩ = some (.int .i64 t117) := (blk_cell BK124.out 1).trans rfl
                    have hcz60_2 : wc.cell? ⟨gb124, 2, none⟩ = some (.slice Ao43 t118.length co43) := (blk_cell BK124.out 2).trans rfl
                    have hfz60_0 := blk_frozen BK124.out 0
                    have hfz60_1 := blk_frozen BK124.out 1
                    have hfz60_2 := blk_frozen BK124.out 2
                    have hnb61 := NB125_107.out
                    have hnc61 := NB107_125.out
                    have hcz62_0 : wc.cell? ⟨gb125, 0, none⟩ = some (.int .i64 t121) := (blk_cell BK125.out 0).trans rfl
                    have hcz62_1 : wc.cell? ⟨gb125, 1, none⟩ = some (.int .i64 t122) := (blk_cell BK125.out 1).trans rfl
                    have hcz62_2 : wc.cell? ⟨gb125, 2, none⟩ = some (.int .i64 t123) := (blk_cell BK125.out 2).trans rfl
                    have hfz62_0 := blk_frozen BK125.out 0
                    have hfz62_1 := blk_frozen BK125.out 1
                    have hfz62_2 := blk_frozen BK125.out 2
                    go_upto_region 18 with (first | ((with_reducible refine gate_callee (f := 35) rfl ?_); refine goesL_ (some 193) rfl rfl Try.func35 (by kernel_rfl) rfl #[.agg #[.int .i64 t116, .int .i64 t117, .slice Ao43 t118.length co43], .agg #[.int .i64 t121, .int .i64 t122, .int .i64 t123]] rfl (by (try simp only [List.map_toArray, List.map_cons, List.map_nil]); first | done | rfl | (simp only [List.length_drop, List.length_take]; rfl)) ?_; (with_reducible refine (impl_AspectOf.calls kj35 t116 t117 _ _ t118 t121 t122 t123 t136 t137 t138 _ ?side1 ?side2 A55.out).mono ?_); (case side1 => repeat (first | exact (Kd.R_reads' HO_125002.out).2.2 | (with_reducible refine Kd.C_alloc ?_ _) | (with_reducible refine Kd.C_drewN ?_ _) | (with_reducible refine Kd.C_drew ?_))); (case side2 => exact (Kd.R_reads' HO_125002.out).2.1); rintro e w63 ⟨rfl, hb⟩; refine ⟨_, rfl, ?_⟩; have n0_ := Aside0.mk (Kd.R_below (by exact Ho.RS <| HO_125002.out) hb); have n1_ := Aside0.mk (blk_below (bS BK107.out) hb); have n2_ := Aside0.mk (blk_below (bS BK124.out) hb); have n3_ := Aside0.mk (blk_below (bS BK125.out) hb); have n4_ := Aside0.mk (below_step (by exact eS HB.out) hb); clear HO_125002; clear BK107; clear BK124; clear BK125; clear HB; have HO_125002 := n0_; have BK107 := n1_; have BK124 := n2_; have BK125 := n3_; have HB := n4_; clear n0_ n1_ n2_ n3_ n4_; (try clear hb); (try clear hb2); (try clear hk); (try clear hi); have hcz64_0 : w63.cell? ⟨gb124, 0, none⟩ = some (.int .i64 t116) := (blk_cell BK124.out 0).trans rfl; have hcz64_1 : w63.cell? ⟨gb124, 1, none⟩ = some (.int .i64 t117) := (blk_cell BK124.out 1).trans rfl; have hcz64_2 : w63.cell? ⟨gb124, 2, none⟩ = some (.slice Ao43 t118.length co43) := (blk_cell BK124.out 2).trans rfl; have hfz64_0 := blk_frozen BK124.out 0; have hfz64_1 := blk_frozen BK124.out 1; have hfz64_2 := blk_frozen BK124.out 2; have hcz65_0 : w63.cell? ⟨gb125, 0, none⟩ = some (.int .i64 t121) := (blk_cell BK125.out 0).trans rfl; have hcz65_1 : w63.cell? ⟨gb125, 1, none⟩ = some (.int .i64 t122) := (blk_cell BK125.out 1).trans rfl; have hcz65_2 : w63.cell? ⟨gb125, 2, none⟩ = some (.int .i64 t123) := (blk_cell BK125.out 2).trans rfl; have hfz65_0 := blk_frozen BK125.out 0; have hfz65_1 := blk_frozen BK125.out 1; have hfz65_2 := blk_frozen BK125.out 2) | ((with_reducible refine gate_callee (f := 34) rfl ?_); refine goesL_ (some 200) rfl rfl Try.func34 (by kernel_rfl) rfl #[.agg #[.int .i64 t116, .int .i64 t117, .slice Ao43 t118.length co43], .agg #[.int .i64 t121, .int .i64 t122, .int .i64 t123]] rfl (by (try simp only [List.map_toArray, List.map_cons, List.map_nil]); first | done | rfl | (simp only [List.length_drop, List.length_take]; rfl)) ?_; (with_reducible refine (spec_AspectOf.calls kj35 t116 t117 _ _ t118 t121 t122 t123 t139 t140 t141 _ ?side1 ?side2 A56.out).mono ?_); (case side1 => repeat (first | exact (Kd.R_reads' HO_125002.out).2.2 | (with_reducible refine Kd.C_alloc ?_ _) | (with_reducible refine Kd.C_drewN ?_ _) | (with_reducible refine Kd.C_drew ?_))); (case side2 => exact (Kd.R_reads' HO_125002.out).2.1); rintro e w66 ⟨rfl, hb⟩; refine ⟨_, rfl, ?_⟩; have n0_ := Aside0.mk (Kd.R_below (by exact Ho.RS <| HO_125002.out) hb); have n1_ := Aside0.mk (blk_below (bS BK107.out) hb); have n2_ := Aside0.mk (blk_below (bS BK124.out) hb); have n3_ := Aside0.mk (blk_below (bS BK125.out) hb); have n4_ := Aside0.mk (below_step (by exact eS HB.out) hb); clear HO_125002; clear BK107; clear BK124; clear BK125; clear HB; have HO_125002 := n0_; have BK107 := n1_; have BK124 := n2_; have BK125 := n3_; have HB := n4_; clear n0_ n1_ n2_ n3_ n4_; (try clear hb); (try clear hb2); (try clear hk); (try clear hi)))
                    (try simp only [Act.put, List.setIfInBounds_toArray, List.set_cons_zero, List.set_cons_succ])
                    go_cut [237] (fun v237 wc => ∃ (kq : Nat) (x237_56 : Bool), v237 = .bool x237_56 ∧ Aside0 (laws_FnSizes.j3 kq l0 x237_56 = some r) ∧ Aside0 (kq ≤ kj35) ∧ Aside0 (Kd.R (Kd.int .i64) 3 wc w.heap.size (fun _ => True) (.slice Ao43 t118.length co43) t118) ∧ Aside0 (wc.heap[gb107]? = some (.cells #[.int .i64 t102, .int .i64 t103, .int .i64 t104] 25 (0, 0))) ∧ Aside0 (wc.heap[gb124]? = some (.cells #[.int .i64 t116, .int .i64 t117, (.slice Ao43 t118.length co43)] 46 (0, 0))) ∧ Aside0 (wc.heap[gb125]? = some (.cells #[.int .i64 t121, .int .i64 t122, .int .i64 t123] 25 (0, 0))) ∧ Aside0 (Below w.heap.size w wc))
                    case first =>
                      have H := HC57.out
                      clear HC57
                      by_cases c67 : t136 = t139
                      · rw [if_pos c67] at H
                        have c67b0 : (t136 == t139) = true := beq_iff_eq.mpr c67
                        have c67b1 : (t136 != t139) = false := bne_eq_false_iff_eq.mpr c67
                        clear c67
                        (first | rw [c67b0] | (simp only [i64_w, i32_w]; rw [c67b0]) | skip)
                        by_cases c68 : t137 = t140
                        · rw [if_pos c68] at H
                          have c68b0 : (t137 == t140) = true := beq_iff_eq.mpr c68
                          have c68b1 : (t137 != t140) = false := bne_eq_false_iff_eq.mpr c68
                          clear c68
                          by_cases c69 : (t138 != t141) = true
                          · rw [if_pos c69] at H
                            have c69b0 : (t138 != t141) = true := c69
                            (try (have c69b1 : decide (t138 = t141) = false := by simpa using c69))
                            (try (have c69b2 : (t138 == t141) = false := by simpa using c69))
                            (try (have c69b3 : ¬ (t138 = t141) := by simpa using c69))
                            clear c69
                            as_aux_lemma =>
                              have H' := Aside0.mk H
                              clear H
                              go_wp2
                              go_meet
                              case rel => exact ⟨_, (true), (by first | rfl | (simp; done) | (simp [*]; done)), H', ⟨by have := HJ6.out; have := HJ25.out; have := HJ35.out; first | omega | exact Nat.le_refl _⟩, ⟨by exact Ho.RS <| HO_125002.out⟩, ⟨by exact bS BK107.out⟩, ⟨by exact bS BK124.out⟩, ⟨by exact bS BK125.out⟩, ⟨by exact eS HB.out⟩⟩
                          · rw [if_neg c69] at H
                            have c69b0 : (t138 != t141) = false := by simpa using c69
                            (try (have c69b1 : decide (t138 = t141) = true := by simpa using c69))
                            (try (have c69b2 : (t138 == t141) = true := by simpa using c69))
                            clear c69
                            by_cases c70 : (t138 != t130) = true
                            · rw [if_pos c70] at H
                              have c70b0 : (t138 != t130) = true := c70
                              (try (have c70b1 : decide (t138 = t130) = false := by simpa using c70))
                              (try (have c70b2 : (t138 == t130) = false := by simpa using c70))
                              (try (have c70b3 : ¬ (t138 = t130) := by simpa using c70))
                              clear c70
                              as_aux_lemma =>
                                have H' := Aside0.mk H
                                clear H
                                go_wp2
                                go_meet
                                case rel => exact ⟨_, (true), (by first | rfl | (simp; done) | (simp [*]; done)), H', ⟨by have := HJ6.out; have := HJ25.out; have := HJ35.out; first | omega | exact Nat.le_refl _⟩, ⟨by exact Ho.RS <| HO_125002.out⟩, ⟨by exact bS BK107.out⟩, ⟨by exact bS BK124.out⟩, ⟨by exact bS BK125.out⟩, ⟨by exact eS HB.out⟩⟩
                            · rw [if_neg c70] at H
                              have c70b0 : (t138 != t130) = false := by simpa using c70
                              (try (have c70b1 : decide (t138 = t130) = true := by simpa using c70))
                              (try (have c70b2 : (t138 == t130) = true := by simpa using c70))
                              clear c70
                              by_cases c71 : t130 = true
                              · subst c71
                                have H1 : (laws_FnSizes.j3 kj35 l0 ((wrap64 ((wrap64 (t136 * t127)) * t128)) != (wrap64 ((wrap64 (t137 * t126)) * t129)))) = some r := by rw [if_pos rfl] at H; exact H
                                clear H
                                have H := H1
                                clear H1
                                as_aux_lemma =>
                                  have H' := Aside0.mk H
                                  clear H
                                  go_wp2
                                  go_meet
                                  case rel => exact ⟨_, (((wrap64 ((wrap64 (t136 * t127)) * t128)) != (wrap64 ((wrap64 (t137 * t126)) * t129)))), (by first | rfl | (simp; done) | (simp [*]; done)), H', ⟨by have := HJ6.out; have := HJ25.out; have := HJ35.out; first | omega | exact Nat.le_refl _⟩, ⟨by exact Ho.RS <| HO_125002.out⟩, ⟨by exact bS BK107.out⟩, ⟨by exact bS BK124.out⟩, ⟨by exact bS BK125.out⟩, ⟨by exact eS HB.out⟩⟩
                              · replace c71 := Bool.eq_false_iff.mpr c71
                                subst c71
                                have H1 : (laws_FnSizes.j3 kj35 l0 false) = some r := by rw [if_neg (show ¬ (false = true) by decide)] at H; exact H
                                clear H
                                have H := H1
                                clear H1
                                as_aux_lemma =>
                                  have H' := Aside0.mk H
                                  clear H
                                  go_wp2
                                  go_meet
                                  case rel => exact ⟨_, (false), (by first | rfl | (simp; done) | (simp [*]; done)), H', ⟨by have := HJ6.out; have := HJ25.out; have := HJ35.out; first | omega | exact Nat.le_refl _⟩, ⟨by exact Ho.RS <| HO_125002.out⟩, ⟨by exact bS BK107.out⟩, ⟨by exact bS BK124.out⟩, ⟨by exact bS BK125.out⟩, ⟨by exact eS HB.out⟩⟩
                        · rw [if_neg c68] at H
                          have c68b0 : (t137 == t140) = false := beq_eq_false_iff_ne.mpr c68
                          have c68b1 : (t137 != t140) = true := bne_iff_ne.mpr c68
                          as_aux_lemma =>
                            have H' := Aside0.mk H
                            clear H
                            go_wp2
                            go_meet
                            case rel => exact ⟨_, (true), (by first | rfl | (simp; done) | (simp [*]; done)), H', ⟨by have := HJ6.out; have := HJ25.out; have := HJ35.out; first | omega | exact Nat.le_refl _⟩, ⟨by exact Ho.RS <| HO_125002.out⟩, ⟨by exact bS BK107.out⟩, ⟨by exact bS BK124.out⟩, ⟨by exact bS BK125.out⟩, ⟨by exact eS HB.out⟩⟩
                      · rw [if_neg c67] at H
                        have c67b0 : (t136 == t139) = false := beq_eq_false_iff_ne.mpr c67
                        have c67b1 : (t136 != t139) = true := bne_iff_ne.mpr c67
                        (first | rw [c67b0] | (simp only [i64_w, i32_w]; rw [c67b0]) | skip)
                        as_aux_lemma =>
                          have H' := Aside0.mk H
                          clear H
                          go_wp2
                          go_meet
                          case rel => exact ⟨_, (true), (by first | rfl | (simp; done) | (simp [*]; done)), H', ⟨by have := HJ6.out; have := HJ25.out; have := HJ35.out; first | omega | exact Nat.le_refl _⟩, ⟨by exact Ho.RS <| HO_125002.out⟩, ⟨by exact bS BK107.out⟩, ⟨by exact bS BK124.out⟩, ⟨by exact bS BK125.out⟩, ⟨by exact eS HB.out⟩⟩
                    case rest =>
                      clear HC57
                      try clear c1
                      try clear c2
                      try clear p2
                      try clear c3
                      try clear c4
                      try clear c5
                      try clear c6
                      try clear p6
                      try clear c7
                      try clear c14
                      try clear c14b0
                      try clear c14b1
                      try clear c15
                      try clear c15b0
                      try clear c15b1
                      try clear c16
                      try clear c16b0
                      try clear c16b1
                      try clear c16b2
                      try clear c17
                      try clear c25
                      try clear c27
                      try clear c28
                      try clear c28b0
                      try clear c29
                      try clear c29b0
                      try clear c30
                      try clear c30b0
                      try clear c31
                      try clear c31b0
                      try clear c32
                      try clear c34
                      try clear c35
                      try clear c40
                      try clear c41
                      try clear c42
                      try clear c44
                      try clear c50
                      try clear c50b0
                      try clear c50b1
                      try clear c51
                      try clear c51b0
                      try clear c51b1
                      try clear c52
                      try clear c52b0
                      try clear c52b1
                      try clear c53
                      try clear c53b0
                      try clear c53b1
                      try clear c54
                      try clear c58
                      try clear c59
                      try clear c61
                      try clear p64
                      try clear c67
                      try clear c67b0
                      try clear c67b1
                      try clear c68
                      try clear c68b0
                      try clear c68b1
                      try clear c69
                      try clear c69b0
                      try clear c69b1
                      try clear c69b2
                      try clear c70
                      try clear c70b0
                      try clear c70b1
                      try clear c70b2
                      try clear c71
                      try clear hcz32_0
                      try clear hcz32_1
                      try clear hcz32_2
                      try clear hcz42_0
                      try clear hcz42_1
                      try clear hcz42_2
                      try clear hcz45_0
                      try clear hcz45_1
                      try clear hcz45_2
                      try clear hcz47_0
                      try clear hcz47_1
                      try clear hcz47_2
                      try clear hcz48_0
                      try clear hcz48_1
                      try clear hcz48_2
                      try clear hcz60_0
                      try clear hcz60_1
                      try clear hcz60_2
                      try clear hcz62_0
                      try clear hcz62_1
                      try clear hcz62_2
                      try clear hcz64_0
                      try clear hcz64_1
                      try clear hcz64_2
                      try clear hcz65_0
                      try clear hcz65_1
                      try clear hcz65_2
                      try clear hfz32_0
                      try clear hfz32_1
                      try clear hfz32_2
                      try clear hfz42_0
                      try clear hfz42_1
                      try clear hfz42_2
                      try clear hfz45_0
                      try clear hfz45_1
                      try clear hfz45_2
                      try clear hfz47_0
                      try clear hfz47_1
                      try clear hfz47_2
                      try clear hfz48_0
                      try clear hfz48_1
                      try clear hfz48_2
                      try clear hfz60_0
                      try clear hfz60_1
                      try clear hfz60_2
                      try clear hfz62_0
                      try clear hfz62_1
                      try clear hfz62_2
                      try clear hfz64_0
                      try clear hfz64_1
                      try clear hfz64_2
                      try clear hfz65_0
                      try clear hfz65_1
                      try clear hfz65_2
                      try clear p2
                      try clear p6
                      obtain ⟨kq, x237_56, rfl, HA, HJ56, HO_125002, BK107, BK124, BK125, HB⟩ := hcut
                      cases kq with
                      | zero => exact absurd HA.out (by simp [laws_FnSizes.j3])
                      | succ kj56 =>
                        have H := HA.out
                        clear HA
                        simp only [laws_FnSizes.j3] at H
                        by_cases c72 : x237_56 = true
                        · subst c72
                          have H1 : (some false) = some r := by rw [if_pos rfl] at H; exact H
                          clear H
                          have H := H1
                          clear H1
                          as_aux_lemma =>
                            exact absurd ((Option.some.inj H).trans HT.out) (by decide)
                        · replace c72 := Bool.eq_false_iff.mpr c72
                          subst c72
                          have H1 : ((spec_DrawKnotsPerArea.f l0).bind fun bt142 => ((impl_KnotsPerArea.f bt142.1 bt142.2.1 bt142.2.2).bind fun bt146 => ((spec_KnotsPerArea.f bt142.1 bt142.2.1 bt142.2.2).bind fun bt148 => (if bt146.1 = bt148.1 then (some (bt146.2 == bt148.2)) else (some false))))) = some r := by rw [if_neg (show ¬ (false = true) by decide)] at H; exact H
                          clear H
                          have H := H1
                          clear H1
                          replace H := Option.bind_eq_some_iff.mp H
                          obtain ⟨⟨t142, t143, t144⟩, A730, H⟩ := H
                          replace H : ((impl_KnotsPerArea.f t142 t143 t144).bind fun bt146 => ((spec_KnotsPerArea.f t142 t143 t144).bind fun bt148 => (if bt146.1 = bt148.1 then (some (bt146.2 == bt148.2)) else (some false)))) = some r := H
                          have A73 := Aside0.mk A730
                          clear A730
                          replace H := Option.bind_eq_some_iff.mp H
                          obtain ⟨⟨t146, t147⟩, A740, H⟩ := H
                          replace H : ((spec_KnotsPerArea.f t142 t143 t144).bind fun bt148 => (if t146 = bt148.1 then (some (t147 == bt148.2)) else (some false))) = some r := H
                          have A74 := Aside0.mk A740
                          clear A740
                          replace H := Option.bind_eq_some_iff.mp H
                          obtain ⟨⟨t148, t149⟩, A750, H⟩ := H
                          replace H : (if t146 = t148 then (some (t147 == t149)) else (some false)) = some r := H
                          have A75 := Aside0.mk A750
                          clear A750
                          by_cases c76 : t146 = t148
                          · rw [if_pos c76] at H
                            have c76b0 : (t146 == t148) = true := beq_iff_eq.mpr c76
                            have c76b1 : (t146 != t148) = false := bne_eq_false_iff_eq.mpr c76
                            clear c76
                            as_aux_lemma =>
                              obtain rfl := Option.some.inj H
                              go_wp2_with (first | ((with_reducible refine gate_callee (f := 43) rfl ?_); refine goesL_ (some 239) rfl rfl Try.func43 (by kernel_rfl) rfl #[.slice A0 l0.length c0] rfl (by (try simp only [List.map_toArray, List.map_cons, List.map_nil]); first | done | rfl | (simp only [List.length_drop, List.length_take]; rfl)) ?_; (with_reducible refine (spec_DrawKnotsPerArea.calls _ _ l0 t142 t143 t144 _ ?side1 ?side2 A73.out).mono ?_); (case side1 => repeat (first | exact (Kd.C_below HR0.out HB.out) | (with_reducible refine Kd.C_alloc ?_ _) | (with_reducible refine Kd.C_drewN ?_ _) | (with_reducible refine Kd.C_drew ?_))); (case side2 => exact HC0.out); rintro e w77 ⟨rfl, hb⟩; refine ⟨_, rfl, ?_⟩; have n0_ := Aside0.mk (Kd.R_below (by exact Ho.RS <| HO_125002.out) hb); have n1_ := Aside0.mk (blk_below (bS BK107.out) hb); have n2_ := Aside0.mk (blk_below (bS BK124.out) hb); have n3_ := Aside0.mk (blk_below (bS BK125.out) hb); have n4_ := Aside0.mk (below_step (by exact eS HB.out) hb); clear HO_125002; clear BK107; clear BK124; clear BK125; clear HB; have HO_125002 := n0_; have BK107 := n1_; have BK124 := n2_; have BK125 := n3_; have HB := n4_; clear n0_ n1_ n2_ n3_ n4_; (try clear hb); (try clear hb2); (try clear hk); (try clear hi)) | ((with_reducible refine gate_dst (N := 30) rfl ?_); refine box_event ?hg (N := 30) ?hd (cs := #[.int .i64 0, .int .i64 0, .int .i64 0]) (t := 25) ?hr ?_; (case hd => rfl); (case hg => rfl); (case hr => first | (go_simp; done) | (go_simp; rfl)); intro gb145 hg w78 hbox hb; have n0_ := Aside0.mk (Kd.R_below (by exact Ho.RS <| HO_125002.out) hb); have n1_ := Aside0.mk (blk_below (bS BK107.out) hb); have n2_ := Aside0.mk (blk_below (bS BK124.out) hb); have n3_ := Aside0.mk (blk_below (bS BK125.out) hb); have n4_ := Aside0.mk (below_step (by exact eS HB.out) hb); have n5_ := Aside0.mk (hbox); have n6_ := Aside0.mk ((by rw [hg]; exact (below_size (by exact eS HB.out)) : w.heap.size ≤ gb145)); have n7_ := Aside0.mk ((by rw [hg]; exact (below_size (by exact eS HB.out)) : w.heap.size ≤ gb145)); have n8_ := Aside0.mk ((by rw [hg]; exact Nat.ne_of_lt (blk_lt (bS BK107.out)) : gb107 ≠ gb145)); have n9_ := Aside0.mk ((by rw [hg]; exact Nat.ne_of_gt (blk_lt (bS BK107.out)) : gb145 ≠ gb107)); have n10_ := Aside0.mk ((by rw [hg]; exact Nat.ne_of_lt (blk_lt (bS BK124.out)) : gb124 ≠ gb145)); have n11_ := Aside0.mk ((by rw [hg]; exact Nat.ne_of_gt (blk_lt (bS BK124.out)) : gb145 ≠ gb124)); have n12_ := Aside0.mk ((by rw [hg]; exact Nat.ne_of_lt (blk_lt (bS BK125.out)) : gb125 ≠ gb145)); have n13_ := Aside0.mk ((by rw [hg]; exact Nat.ne_of_gt (blk_lt (bS BK125.out)) : gb145 ≠ gb125)); clear HO_125002; clear BK107; clear BK124; clear BK125; clear HB; have HO_125002 := n0_; have BK107 := n1_; have BK124 := n2_; have BK125 := n3_; have HB := n4_; have BK145 := n5_; have GW145 := n6_; have GE145 := n7_; have NB107_145 := n8_; have NB145_107 := n9_; have NB124_145 := n10_; have NB145_124 := n11_; have NB125_145 := n12_; have NB145_125 := n13_; clear n0_ n1_ n2_ n3_ n4_ n5_ n6_ n7_ n8_ n9_ n10_ n11_ n12_ n13_; clear hb hbox hg; have hnb79 := NB145_107.out; have hnc79 := NB107_145.out; have hnb80 := NB145_124.out; have hnc80 := NB124_145.out; have hnb81 := NB145_125.out; have hnc81 := NB125_145.out; have hcz82_0 : w78.cell? ⟨gb145, 0, none⟩ = some (.int .i64 0) := (blk_cell BK145.out 0).trans rfl; have hcz82_1 : w78.cell? ⟨gb145, 1, none⟩ = some (.int .i64 0) := (blk_cell BK145.out 1).trans rfl; have hcz82_2 : w78.cell? ⟨gb145, 2, none⟩ = some (.int .i64 0) := (blk_cell BK145.out 2).trans rfl; have hfz82_0 := blk_frozen BK145.out 0; have hfz82_1 := blk_frozen BK145.out 1; have hfz82_2 := blk_frozen BK145.out 2) | ((with_reducible refine gate_callee (f := 19) rfl ?_); refine goesL_ (some 242) rfl rfl Try.func19 (by kernel_rfl) rfl #[.agg #[.int .i64 t142, .int .i64 t143, .int .i64 t144]] rfl (by (try simp only [List.map_toArray, List.map_cons, List.map_nil]); first | done | rfl | (simp only [List.length_drop, List.length_take]; rfl)) ?_; (with_reducible refine (impl_KnotsPerArea.calls t142 t143 t144 t146 t147 _ A74.out).mono ?_); rintro e w83 ⟨rfl, hb⟩; refine ⟨_, rfl, ?_⟩; have n0_ := Aside0.mk (Kd.R_below (by exact Ho.RS <| (Kd.R_mono (Kd.R_far (p := ⟨gb145, 2, none⟩) (Kd.R_far (p := ⟨gb145, 1, none⟩) (Kd.R_far (p := ⟨gb145, 0, none⟩) (Kd.R_types HO_125002.out BK145.out (by decide)) (fun _ hk => hk.2) (.int .i64 t142)) (fun _ hk => hk.2) (.int .i64 t143)) (fun _ hk => hk.2) (.int .i64 t144)) (fun _ h_ => h_.1))) hb); have n1_ := Aside0.mk (blk_below (g := gb107) (o := .cells #[.int .i64 t102, .int .i64 t103, .int .i64 t104] 25 (0, 0)) (by (with_reducible repeat (first | refine blk_drewN ?_ _ | refine blk_drew ?_ | refine blk_alloc ?_ _)); refine blk_far ?_ NB107_145.out _; (with_reducible repeat (first | refine blk_drewN ?_ _ | refine blk_drew ?_ | refine blk_alloc ?_ _)); refine blk_far ?_ NB107_145.out _; (with_reducible repeat (first | refine blk_drewN ?_ _ | refine blk_drew ?_ | refine blk_alloc ?_ _)); refine blk_far ?_ NB107_145.out _; exact bS BK107.out) hb); have n2_ := Aside0.mk (blk_below (g := gb124) (o := .cells #[.int .i64 t116, .int .i64 t117, .slice Ao43 t118.length co43] 46 (0, 0)) (by (with_reducible repeat (first | refine blk_drewN ?_ _ | refine blk_drew ?_ | refine blk_alloc ?_ _)); refine blk_far ?_ NB124_145.out _; (with_reducible repeat (first | refine blk_drewN ?_ _ | refine blk_drew ?_ | refine blk_alloc ?_ _)); refine blk_far ?_ NB124_145.out _; (with_reducible repeat (first | refine blk_drewN ?_ _ | refine blk_drew ?_ | refine blk_alloc ?_ _)); refine blk_far ?_ NB124_145.out _; exact bS BK124.out) hb); have n3_ := Aside0.mk (blk_below (g := gb125) (o := .cells #[.int .i64 t121, .int .i64 t122, .int .i64 t123] 25 (0, 0)) (by (with_reducible repeat (first | refine blk_drewN ?_ _ | refine blk_drew ?_ | refine blk_alloc ?_ _)); refine blk_far ?_ NB125_145.out _; (with_reducible repeat (first | refine blk_drewN ?_ _ | refine blk_drew ?_ | refine blk_alloc ?_ _)); refine blk_far ?_ NB125_145.out _; (with_reducible repeat (first | refine blk_drewN ?_ _ | refine blk_drew ?_ | refine blk_alloc ?_ _)); refine blk_far ?_ NB125_145.out _; exact bS BK125.out) hb); have n4_ := Aside0.mk (blk_below (g := gb145) (o := .cells #[.int .i64 t142, .int .i64 t143, .int .i64 t144] 25 (0, 0)) (by (with_reducible repeat (first | refine blk_drewN ?_ _ | refine blk_drew ?_ | refine blk_alloc ?_ _)); refine blk_put (cs := #[.int .i64 t142, .int .i64 t143, .int .i64 0]) ?_ 2 _ rfl; (with_reducible repeat (first | refine blk_drewN ?_ _ | refine blk_drew ?_ | refine blk_alloc ?_ _)); refine blk_put (cs := #[.int .i64 t142, .int .i64 0, .int .i64 0]) ?_ 1 _ rfl; (with_reducible repeat (first | refine blk_drewN ?_ _ | refine blk_drew ?_ | refine blk_alloc ?_ _)); refine blk_put (cs := #[.int .i64 0, .int .i64 0, .int .i64 0]) ?_ 0 _ rfl; exact bS BK145.out) hb); have n5_ := Aside0.mk (below_step (by repeat (first | (with_reducible first | exact HB.out | apply below_alloc | apply pw_below_drewN | apply below_drew1 | refine below_set ?_ GE107.out | refine below_set ?_ GE124.out | refine below_set ?_ GE125.out | refine below_set ?_ GE145.out) | exact HB.out)) hb); clear HO_125002; clear BK107; clear BK124; clear BK125; clear BK145; clear HB; have HO_125002 := n0_; have BK107 := n1_; have BK124 := n2_; have BK125 := n3_; have BK145 := n4_; have HB := n5_; clear n0_ n1_ n2_ n3_ n4_ n5_; (try clear hb); (try clear hb2); (try clear hk); (try clear hi); have hcz84_0 : w83.cell? ⟨gb145, 0, none⟩ = some (.int .i64 t142) := (blk_cell BK145.out 0).trans rfl; have hcz84_1 : w83.cell? ⟨gb145, 1, none⟩ = some (.int .i64 t143) := (blk_cell BK145.out 1).trans rfl; have hcz84_2 : w83.cell? ⟨gb145, 2, none⟩ = some (.int .i64 t144) := (blk_cell BK145.out 2).trans rfl; have hfz84_0 := blk_frozen BK145.out 0; have hfz84_1 := blk_frozen BK145.out 1; have hfz84_2 := blk_frozen BK145.out 2) | ((with_reducible refine gate_callee (f := 18) rfl ?_); refine goesL_ (some 247) rfl rfl Try.func18 (by kernel_rfl) rfl #[.agg #[.int .i64 t142, .int .i64 t143, .int .i64 t144]] rfl (by (try simp only [List.map_toArray, List.map_cons, List.map_nil]); first | done | rfl | (simp only [List.length_drop, List.length_take]; rfl)) ?_; (with_reducible refine (spec_KnotsPerArea.calls t142 t143 t144 t148 t149 _ A75.out).mono ?_); rintro e w85 ⟨rfl, hb⟩; refine ⟨_, rfl, ?_⟩; have n0_ := Aside0.mk (Kd.R_below (by exact Ho.RS <| HO_125002.out) hb); have n1_ := Aside0.mk (blk_below (bS BK107.out) hb); have n2_ := Aside0.mk (blk_below (bS BK124.out) hb); have n3_ := Aside0.mk (blk_below (bS BK125.out) hb); have n4_ := Aside0.mk (blk_below (bS BK145.out) hb); have n5_ := Aside0.mk (below_step (by exact eS HB.out) hb); clear HO_125002; clear BK107; clear BK124; clear BK125; clear BK145; clear HB; have HO_125002 := n0_; have BK107 := n1_; have BK124 := n2_; have BK125 := n3_; have BK145 := n4_; have HB := n5_; clear n0_ n1_ n2_ n3_ n4_ n5_; (try clear hb); (try clear hb2); (try clear hk); (try clear hi)))
                              go_ret
                              exact ⟨by first | rfl | (simp [errW_none, errW_some] <;> rfl) | (simp [*, errW_none, errW_some] <;> rfl), by exact eS HB.out⟩
                          · rw [if_neg c76] at H
                            have c76b0 : (t146 == t148) = false := beq_eq_false_iff_ne.mpr c76
                            have c76b1 : (t146 != t148) = true := bne_iff_ne.mpr c76
                            as_aux_lemma =>
                              exact absurd ((Option.some.inj H).trans HT.out) (by decide)

/-- THE ONE PURE STATEMENT of laws_FnSizes: yours. -/
def laws_FnSizes.Pure : Prop := ∀ (l0 : List Int), (l0.length ≤ 9223372036854775807 ∧ ∀ y_ ∈ l0, (Lit.int .u8 y_).wf = true) → ∃ k, laws_FnSizes.f k l0 = some true

end Go.Proofs.Ytgohfbelppokcaa.X

-- Qbase
namespace Go.Proofs.Ytgohfbelppokcaa.Pure
open Go Go.RowKit Go.Proofs Go.Proofs.YtgohfbelppokcaaW.PrintWords Go.Proofs.YtgohfbelppokcaaW.PrintLast
set_option linter.unusedVariables false
set_option linter.unusedSimpArgs false

theorem w64 {x : Int} (h1 : -9223372036854775808 ≤ x) (h2 : x ≤ 9223372036854775807) : wrap64 x = x := by unfold wrap64; omega
theorem w64b {x : Int} (h : -9223372036854775808 ≤ x ∧ x ≤ 9223372036854775807) : wrap64 x = x := w64 h.1 h.2
theorem ite_sf (a b : Bool) : (if a = true then some b else some false) = some (a && b) := by cases a <;> rfl
theorem ite_sf2 (a b : Bool) : (if a = true then some false else some b) = some (!a && b) := by cases a <;> rfl
theorem wf_bd {x : Int} (h : (Lit.int .i64 x).wf = true) : -9223372036854775808 ≤ x ∧ x ≤ 9223372036854775807 := by
  have h1 := h
  simp [Lit.wf] at h1
  exact ⟨h1.1, h1.2⟩
/-- a product of two numbers within bounds -/
theorem mul_bd {a b A B : Int} (ha : 0 ≤ a) (hA : a ≤ A) (hb : 0 ≤ b) (hB : b ≤ B) : 0 ≤ a * b ∧ a * b ≤ A * B :=
  ⟨Int.mul_nonneg ha hb, Int.mul_le_mul hA hB hb (Int.le_trans ha hA)⟩
theorem drop_step {α : Type} {l : List α} {i : Nat} (h : i < l.length) (d : α) : l.drop i = l.getD i d :: l.drop (i + 1) := by
  rw [List.drop_eq_getElem_cons h]; congr 1; simp [List.getD_eq_getElem?_getD, List.getElem?_eq_getElem h]
theorem wstep {i : Nat} {n : Nat} (h : i < n) (hn : n ≤ 9223372036854775807) : wrap64 ((i : Int) + 1) = ((i + 1 : Nat) : Int) := by unfold wrap64; omega
theorem nat_of {i : Int} (h : 0 ≤ i) : ∃ n : Nat, i = n := ⟨i.toNat, by omega⟩
theorem succ_of {k d : Nat} (h : d < k) : ∃ m, k = m + 1 ∧ d ≤ m := ⟨k - 1, by omega, by omega⟩

end Go.Proofs.Ytgohfbelppokcaa.Pure

-- Qloops
namespace Go.Proofs.Ytgohfbelppokcaa.Pure
open Go Go.RowKit Go.Proofs Go.Proofs.YtgohfbelppokcaaW.PrintWords Go.Proofs.YtgohfbelppokcaaW.PrintLast
set_option linter.unusedVariables false
set_option linter.unusedSimpArgs false

/-- A loop that copies element by element into a new row. -/
theorem copy_loop {α β : Type} (L : Nat → List α → List β → Int → Option (List β)) (f : α → β) (d : α) (l : List α) (hb : l.length ≤ 9223372036854775806)
    (hs : ∀ k x3 (i : Nat), i < l.length → x3.length = l.length → L (k + 1) l x3 i = L k l (x3.set i (f (l.getD i d))) (wrap64 ((i : Int) + 1)))
    (he : ∀ k x3 (i : Nat), l.length ≤ i → L (k + 1) l x3 i = some x3) :
    ∀ n k (i : Nat) (x3 : List β), i + n = l.length → n < k → x3.length = l.length → x3.take i = (l.take i).map f → L k l x3 i = some (l.map f) := by
  intro n
  induction n with
  | zero =>
    intro k i x3 hi hk hl ht
    obtain ⟨k, rfl, _⟩ := succ_of hk
    rw [he k x3 i (by omega)]
    rw [List.take_of_length_le (by omega), List.take_of_length_le (by omega)] at ht
    rw [ht]
  | succ n ih =>
    intro k i x3 hi hk hl ht
    obtain ⟨k, rfl, hk⟩ := succ_of hk
    rw [hs k x3 i (by omega) hl, wstep (show i < l.length by omega) (by omega)]
    refine ih k (i + 1) _ (by omega) (by omega) (by rw [List.length_set]; exact hl) ?_
    rw [List.take_succ_eq_append_getElem (by rw [List.length_set]; omega), List.take_succ_eq_append_getElem (by omega), List.map_append, ← ht]
    congr 1
    · rw [List.take_set_of_le (Nat.le_refl _)]
    · simp [List.getD_eq_getElem?_getD, List.getElem?_eq_getElem (show i < l.length by omega)]
/-- A loop that compares a row with itself. -/
theorem refl_loop {α : Type} (L : Nat → List α → List α → Int → Option Bool) (l : List α) (hb : l.length ≤ 9223372036854775806)
    (hs : ∀ k (i : Nat), i < l.length → L (k + 1) l l i = L k l l (wrap64 ((i : Int) + 1))) (he : ∀ k (i : Nat), l.length ≤ i → L (k + 1) l l i = some true) :
    ∀ n k (i : Nat), i + n = l.length → n < k → L k l l i = some true := by
  intro n
  induction n with
  | zero =>
    intro k i hi hk
    obtain ⟨k, rfl, _⟩ := succ_of hk
    exact he k i (by omega)
  | succ n ih =>
    intro k i hi hk
    obtain ⟨k, rfl, hk⟩ := succ_of hk
    rw [hs k i (by omega), wstep (show i < l.length by omega) (by omega)]
    exact ih k (i + 1) (by omega) (by omega)
/-- A loop that asks of all elements, from i on. -/
theorem all_loop {α : Type} (L : Nat → Int → Option Bool) (q : α → Bool) (d : α) (l : List α) (e : Bool) (hb : l.length ≤ 9223372036854775806)
    (hs : ∀ k (i : Nat), i < l.length → L (k + 1) i = if q (l.getD i d) = true then L k (wrap64 ((i : Int) + 1)) else some false) (he : ∀ k (i : Nat), l.length ≤ i → L (k + 1) i = some e) :
    ∀ n k (i : Nat), i + n = l.length → n < k → L k i = some ((l.drop i).all q && e) := by
  intro n
  induction n with
  | zero =>
    intro k i hi hk
    obtain ⟨k, rfl, _⟩ := succ_of hk
    rw [he k i (by omega), List.drop_eq_nil_of_le (by omega)]; rfl
  | succ n ih =>
    intro k i hi hk
    obtain ⟨k, rfl, hk⟩ := succ_of hk
    rw [hs k i (by omega), wstep (show i < l.length by omega) (by omega), drop_step (by omega) d, List.all_cons, ih k (i + 1) (by omega) (by omega)]
    cases q (l.getD i d) <;> simp
/-- What marks leave: each element tells its own number. -/
def markM {α : Type} (g : Int → α) (c : Int) (n : Nat) (s : Int) : List α := (List.range n).map fun (j : Nat) => g (s + c * (j : Int))
theorem markM_length {α : Type} (g : Int → α) (c : Int) (n : Nat) (s : Int) : (markM g c n s).length = n := by simp [markM]
theorem markM_getD {α : Type} (g : Int → α) (c : Int) (n : Nat) (s : Int) (d : α) {i : Nat} (h : i < n) : (markM g c n s).getD i d = g (s + c * i) := by
  simp [markM, List.getD_eq_getElem?_getD, List.getElem?_map, List.getElem?_range h]
/-- A loop that marks. -/
theorem mark_loop {α : Type} (L : Nat → List α → Int → Int → Option (Int × List α)) (g : Int → α) (c : Int) (n0 : Nat) (s : Int) (hb : n0 ≤ 9223372036854775806) 
    (hs : ∀ k x (i : Nat), i < n0 → x.length = n0 → L (k + 1) x (s + c * i) i = L k (x.set i (g (s + c * i))) (s + c * ((i + 1 : Nat) : Int)) (wrap64 ((i : Int) + 1)))
    (he : ∀ k x m (i : Nat), n0 ≤ i → x.length = n0 → L (k + 1) x m i = some (m, x)) :
    ∀ n k (i : Nat) (x : List α), i + n = n0 → n < k → x.length = n0 → x.take i = (markM g c n0 s).take i → L k x (s + c * i) i = some (s + c * n0, markM g c n0 s) := by
  intro n
  induction n with
  | zero =>
    intro k i x hi hk hl ht
    obtain ⟨k, rfl, _⟩ := succ_of hk
    rw [he k x _ i (by omega) hl]
    rw [List.take_of_length_le (by omega), List.take_of_length_le (by rw [markM_length]; omega)] at ht
    rw [ht]; simp [show i = n0 by omega]
  | succ n ih =>
    intro k i x hi hk hl ht
    obtain ⟨k, rfl, hk⟩ := succ_of hk
    rw [hs k x i (by omega) hl, wstep (show i < n0 by omega) (by omega)]
    refine ih k (i + 1) _ (by omega) (by omega) (by rw [List.length_set]; exact hl) ?_
    rw [List.take_succ_eq_append_getElem (by rw [List.length_set]; omega), List.take_succ_eq_append_getElem (by rw [markM_length]; omega), ← ht]
    congr 1
    · rw [List.take_set_of_le (Nat.le_refl _)]
    · simp [markM]
/-- A loop that asks for the marks. -/
theorem held_loop {α : Type} (L : Nat → List α → Int → Int → Option Int) (g : Int → α) (c : Int) (n0 : Nat) (s : Int) (hb : n0 ≤ 9223372036854775806)
    (hs : ∀ k (i : Nat), i < n0 → L (k + 1) (markM g c n0 s) (s + c * i) i = L k (markM g c n0 s) (s + c * ((i + 1 : Nat) : Int)) (wrap64 ((i : Int) + 1)))
    (he : ∀ k m (i : Nat), n0 ≤ i → L (k + 1) (markM g c n0 s) m i = some m) :
    ∀ n k (i : Nat), i + n = n0 → n < k → L k (markM g c n0 s) (s + c * i) i = some (s + c * n0) := by
  intro n
  induction n with
  | zero =>
    intro k i hi hk
    obtain ⟨k, rfl, _⟩ := succ_of hk
    rw [he k _ i (by omega), show i = n0 by omega]
  | succ n ih =>
    intro k i hi hk
    obtain ⟨k, rfl, hk⟩ := succ_of hk
    rw [hs k i (by omega), wstep (show i < n0 by omega) (by omega)]
    exact ih k (i + 1) (by omega) (by omega)
theorem rd_nat (l : List Int) (i : Nat) : rd l (i : Int) = l.getD i 0 := by simp [rd]

end Go.Proofs.Ytgohfbelppokcaa.Pure

-- XlawseqIntSF64
namespace Go.Proofs.Ytgohfbelppokcaa.X
open Ho (bS eS)
open Go.RowKit Go.Proofs.YtgohfbelppokcaaW.PrintWords Go.Proofs.YtgohfbelppokcaaW.PrintLast Go.Proofs.YtgohfbelppokcaaW.PrintMore
attribute [local go_sem] max2_int min2_int max_two min_two max_three min_three max_four min_four   -- for this text's walks alone
set_option linter.unusedVariables false
set_option linter.unusedSimpArgs false

/-! ### laws_eqIntS: function 64 -/
def laws_eqIntS.l0 : Nat → List Int → List Int → Int → Option (Bool)
  | 0, _, _, _ => none
  | k + 1, x0, x1, x5 => if x5 < (x0.length : Int) then (if 0 ≤ x5 then (if x5 < (x1.length : Int) then (if (rd x0 x5) = (rd x1 x5) then (laws_eqIntS.l0 k x0 x1 (wrap64 (x5 + 1))) else (some false)) else (none)) else (none)) else (some true)
def laws_eqIntS.f (k : Nat) (l0 : List Int) (l1 : List Int) : Option (Bool) := if (l0.length : Int) = (l1.length : Int) then (laws_eqIntS.l0 k l0 l1 0) else (some false)
theorem laws_eqIntS.mono_l : ∀ k, (∀ y0 y1 y2, LeO (laws_eqIntS.l0 k y0 y1 y2) (laws_eqIntS.l0 (k + 1) y0 y1 y2))
  | 0 => fun _ _ _ r h => by simp [laws_eqIntS.l0] at h
  | k + 1 => by
    have ih0 := laws_eqIntS.mono_l k
    · intro y0 y1 y2
      unfold laws_eqIntS.l0
      repeat' first
      | (with_reducible exact ih0 _ _ _)
      | (with_reducible exact LeO.refl _)
      | (with_reducible exact LeO.none _)
      | (with_reducible refine LeO.ite ?_ ?_)
      | (with_reducible refine LeO.bind ?_ (fun _ => ?_))
      | exact ih0 _ _ _
      | exact LeO.none _
      | refine LeO.ite ?_ ?_
      | refine LeO.bind ?_ (fun _ => ?_)
theorem laws_eqIntS.mono : ∀ a0 a1 k, LeO (laws_eqIntS.f k a0 a1) (laws_eqIntS.f (k + 1) a0 a1) := by
  intro a0 a1 k
  have ih0 := laws_eqIntS.mono_l k
  unfold laws_eqIntS.f
  repeat' first
      | (with_reducible exact ih0 _ _ _)
      | (with_reducible exact LeO.refl _)
      | (with_reducible exact LeO.none _)
      | (with_reducible refine LeO.ite ?_ ?_)
      | (with_reducible refine LeO.bind ?_ (fun _ => ?_))
      | exact ih0 _ _ _
      | exact LeO.none _
      | refine LeO.ite ?_ ?_
      | refine LeO.bind ?_ (fun _ => ?_)
set_option maxHeartbeats 8000000 in
set_option maxRecDepth 100000 in
theorem laws_eqIntS.calls (k : Nat) (A0 : Option Addr) (c0 : Nat) (l0 : List Int) (A1 : Option Addr) (c1 : Nat) (l1 : List Int) (r : Bool) (w : World) (hr0 : Kd.C (Kd.int .i64) w A0 l0.length l0) (hc0 : l0.length ≤ c0) (hr1 : Kd.C (Kd.int .i64) w A1 l1.length l1) (hc1 : l1.length ≤ c1) (h : laws_eqIntS.f k l0 l1 = some r) :
    Calls Try.prog 64 #[.slice A0 l0.length c0, .slice A1 l1.length c1] w fun e w' => e = .returned (.bool r) ∧ Drawn0 w w' := by
  have HR0 := Aside0.mk hr0
  have HC0 := Aside0.mk hc0
  clear hr0 hc0
  have HR1 := Aside0.mk hr1
  have HC1 := Aside0.mk hc1
  clear hr1 hc1
  have H : (if (l0.length : Int) = (l1.length : Int) then (laws_eqIntS.l0 k l0 l1 0) else (some false)) = some r := h
  clear h
  by_cases c3 : (l0.length : Int) = (l1.length : Int)
  · rw [if_pos c3] at H
    have c3b0 : ((l0.length : Int) == (l1.length : Int)) = true := beq_iff_eq.mpr c3
    have c3b1 : ((l0.length : Int) != (l1.length : Int)) = false := bne_eq_false_iff_eq.mpr c3
    have c3b2 : (l0.length == l1.length) = true := by first | simpa using c3 | (simp at c3 ⊢; omega)
    clear c3
    have H' := Aside0.mk H
    clear H
    go_enter Try.func64, Try.ntmps64
    go_wp2
    repeat (go_quiet (fail); try go_wp2)
    go_loopg [5] k (fun kq v5 w' => ∃ (x5_1 : Int), v5 = .int .i64 x5_1 ∧ Aside0 (laws_eqIntS.l0 kq l0 l1 x5_1 = some r) ∧ Aside0 (kq ≤ k) ∧ Drawn0 w w')
    case atStart => exact ⟨(0), (by first | rfl | (simp; done) | (simp [*]; done)), H', ⟨Nat.le_refl _⟩, by repeat (first | exact Drawn0.refl _ | apply Drawn0.step)⟩
    case round =>
      clear H'
      try clear c1
      try clear p2
      try clear c3
      try clear c3b0
      try clear c3b1
      try clear c3b2
      obtain ⟨x5_1, rfl, HA, HK1, ⟨m1, rfl⟩⟩ := hrel
      cases gk with
      | zero => exact absurd HA.out (by simp [laws_eqIntS.l0])
      | succ k1 =>
        have H := HA.out
        clear HA
        simp only [laws_eqIntS.l0] at H
        by_cases c4 : x5_1 < (l0.length : Int)
        · rw [if_pos c4] at H
          have c4b0 : decide (x5_1 < (l0.length : Int)) = true := decide_eq_true c4
          clear c4
          by_cases c5 : 0 ≤ x5_1
          · rw [if_pos c5] at H
            have c5b0 : decide (0 ≤ x5_1) = true := decide_eq_true c5
            clear c5
            by_cases c6 : x5_1 < (l1.length : Int)
            · rw [if_pos c6] at H
              have c6b0 : decide (x5_1 < (l1.length : Int)) = true := decide_eq_true c6
              clear c6
              by_cases c7 : (rd l0 x5_1) = (rd l1 x5_1)
              · rw [if_pos c7] at H
                have c7b0 : ((rd l0 x5_1) == (rd l1 x5_1)) = true := beq_iff_eq.mpr c7
                have c7b1 : ((rd l0 x5_1) != (rd l1 x5_1)) = false := bne_eq_false_iff_eq.mpr c7
                clear c7
                have H' := Aside0.mk H
                clear H
                have p101 : 0 ≤ (x5_1 : Int) := of_decide_eq_true (by first | (with_reducible assumption) | assumption)
                have q101 : x5_1 < (l0.length : Int) := of_decide_eq_true (by first | (with_reducible assumption) | assumption)
                obtain ⟨ad101, e101, hx101_0⟩ := Kd.at_int HR0.out x5_1 p101 q101
                cases e101
                replace p101 := eq_true p101
                replace q101 := eq_true q101
                have p102 : 0 ≤ (x5_1 : Int) := of_decide_eq_true (by first | (with_reducible assumption) | assumption)
                have q102 : x5_1 < (l1.length : Int) := of_decide_eq_true (by first | (with_reducible assumption) | assumption)
                obtain ⟨ad102, e102, hx102_0⟩ := Kd.at_int HR1.out x5_1 p102 q102
                cases e102
                replace p102 := eq_true p102
                replace q102 := eq_true q102
                go_wp2
                repeat (go_quiet (fail); try go_wp2)
                go_roundg k1
                case measure => have := HK1.out; omega
                case rel => exact ⟨(wrap64 (x5_1 + 1)), (by first | rfl | (simp; done) | (simp [*]; done)), H', ⟨by have := HK1.out; omega⟩, by repeat (first | exact Drawn0.refl _ | apply Drawn0.step)⟩
              · rw [if_neg c7] at H
                have c7b0 : ((rd l0 x5_1) == (rd l1 x5_1)) = false := beq_eq_false_iff_ne.mpr c7
                have c7b1 : ((rd l0 x5_1) != (rd l1 x5_1)) = true := bne_iff_ne.mpr c7
                obtain rfl := Option.some.inj H
                have p101 : 0 ≤ (x5_1 : Int) := of_decide_eq_true (by first | (with_reducible assumption) | assumption)
                have q101 : x5_1 < (l0.length : Int) := of_decide_eq_true (by first | (with_reducible assumption) | assumption)
                obtain ⟨ad101, e101, hx101_0⟩ := Kd.at_int HR0.out x5_1 p101 q101
                cases e101
                replace p101 := eq_true p101
                replace q101 := eq_true q101
                have p102 : 0 ≤ (x5_1 : Int) := of_decide_eq_true (by first | (with_reducible assumption) | assumption)
                have q102 : x5_1 < (l1.length : Int) := of_decide_eq_true (by first | (with_reducible assumption) | assumption)
                obtain ⟨ad102, e102, hx102_0⟩ := Kd.at_int HR1.out x5_1 p102 q102
                cases e102
                replace p102 := eq_true p102
                replace q102 := eq_true q102
                go_wp2
                repeat (go_quiet (fail); try go_wp2)
                go_ret
                exact ⟨by first | rfl | (simp; done) | (simp [*]; done), by repeat (first | exact Drawn0.refl _ | apply Drawn0.step)⟩
            · rw [if_neg c6] at H
              exact absurd H (by simp)
          · rw [if_neg c5] at H
            exact absurd H (by simp)
        · rw [if_neg c4] at H
          have c4b0 : decide (x5_1 < (l0.length : Int)) = false := decide_eq_false c4
          clear c4
          obtain rfl := Option.some.inj H
          go_wp2
          repeat (go_quiet (fail); try go_wp2)
          go_ret
          exact ⟨by first | rfl | (simp; done) | (simp [*]; done), by repeat (first | exact Drawn0.refl _ | apply Drawn0.step)⟩
  · rw [if_neg c3] at H
    have c3b0 : ((l0.length : Int) == (l1.length : Int)) = false := beq_eq_false_iff_ne.mpr c3
    have c3b1 : ((l0.length : Int) != (l1.length : Int)) = true := bne_iff_ne.mpr c3
    have c3b2 : (l0.length == l1.length) = false := by first | simpa using c3 | (simp at c3 ⊢; omega)
    obtain rfl := Option.some.inj H
    go_enter Try.func64, Try.ntmps64
    go_wp2
    repeat (go_quiet (fail); try go_wp2)
    go_ret
    exact ⟨by first | rfl | (simp; done) | (simp [*]; done), by repeat (first | exact Drawn0.refl _ | apply Drawn0.step)⟩

end Go.Proofs.Ytgohfbelppokcaa.X

-- QeqInts
namespace Go.Proofs.Ytgohfbelppokcaa.Pure
open Go Go.RowKit Go.Proofs Go.Proofs.Ytgohfbelppokcaa.X Go.Proofs.YtgohfbelppokcaaW.PrintWords Go.Proofs.YtgohfbelppokcaaW.PrintLast
set_option linter.unusedVariables false
set_option linter.unusedSimpArgs false

theorem eqIntS_refl {k : Nat} {l : List Int} (hk : l.length < k) (hl : l.length ≤ 9223372036854775806) : laws_eqIntS.f k l l = some true := by
  unfold laws_eqIntS.f
  rw [if_pos rfl]
  exact refl_loop laws_eqIntS.l0 l hl
    (fun k i h => by simp only [laws_eqIntS.l0]; rw [if_pos (by omega), if_pos (by omega), if_pos (by omega)]; simp)
    (fun k i h => by simp only [laws_eqIntS.l0]; rw [if_neg (by omega)])
    l.length k 0 (by omega) hk

end Go.Proofs.Ytgohfbelppokcaa.Pure

-- Qinrange
namespace Go.Proofs.Ytgohfbelppokcaa.Pure
open Go Go.RowKit Go.Proofs Go.Proofs.Ytgohfbelppokcaa.X Go.Proofs.YtgohfbelppokcaaW.PrintWords Go.Proofs.YtgohfbelppokcaaW.PrintLast
set_option linter.unusedVariables false
set_option linter.unusedSimpArgs false

theorem in_eq (x a b : Int) : impl_in.f x a b = some (decide (a ≤ x ∧ x ≤ b)) := by
  unfold impl_in.f
  by_cases h1 : a ≤ x <;> simp [h1]

end Go.Proofs.Ytgohfbelppokcaa.Pure

-- Qspecin
namespace Go.Proofs.Ytgohfbelppokcaa.Pure
open Go Go.RowKit Go.Proofs Go.Proofs.Ytgohfbelppokcaa.X Go.Proofs.YtgohfbelppokcaaW.PrintWords Go.Proofs.YtgohfbelppokcaaW.PrintLast
set_option linter.unusedVariables false
set_option linter.unusedSimpArgs false

theorem l1In_eq (x a b : Int) : spec_l1In.f x a b = some (decide (a ≤ x ∧ x ≤ b)) := by
  unfold spec_l1In.f
  by_cases h1 : a ≤ x <;> simp [h1]

end Go.Proofs.Ytgohfbelppokcaa.Pure

-- XlawstoIntSF60
namespace Go.Proofs.Ytgohfbelppokcaa.X
open Ho (bS eS)
open Go.RowKit Go.Proofs.YtgohfbelppokcaaW.PrintWords Go.Proofs.YtgohfbelppokcaaW.PrintLast Go.Proofs.YtgohfbelppokcaaW.PrintMore
attribute [local go_sem] max2_int min2_int max_two min_two max_three min_three max_four min_four   -- for this text's walks alone
set_option linter.unusedVariables false
set_option linter.unusedSimpArgs false

/-! ### laws_toIntS: function 60 -/
def laws_toIntS.l0 : Nat → List Int → List Int → Int → Option (List Int)
  | 0, _, _, _ => none
  | k + 1, x0, x3, x4 => if x4 < (x0.length : Int) then (if 0 ≤ x4 then (if x4 < (x3.length : Int) then (laws_toIntS.l0 k x0 (x3.set (x4 : Int).toNat (rd x0 x4)) (wrap64 (x4 + 1))) else (none)) else (none)) else (some x3)
def laws_toIntS.f (k : Nat) (l0 : List Int) : Option (List Int) := if 0 ≤ (l0.length : Int) then (if ((l0.length : Int) : Int).toNat ≤ 35184372088832 then (laws_toIntS.l0 k l0 (List.replicate ((l0.length : Int) : Int).toNat 0) 0) else (none)) else (none)
theorem laws_toIntS.mono_l : ∀ k, (∀ y0 y1 y2, LeO (laws_toIntS.l0 k y0 y1 y2) (laws_toIntS.l0 (k + 1) y0 y1 y2))
  | 0 => fun _ _ _ r h => by simp [laws_toIntS.l0] at h
  | k + 1 => by
    have ih0 := laws_toIntS.mono_l k
    · intro y0 y1 y2
      unfold laws_toIntS.l0
      repeat' first
      | (with_reducible exact ih0 _ _ _)
      | (with_reducible exact LeO.refl _)
      | (with_reducible exact LeO.none _)
      | (with_reducible refine LeO.ite ?_ ?_)
      | (with_reducible refine LeO.bind ?_ (fun _ => ?_))
      | exact ih0 _ _ _
      | exact LeO.none _
      | refine LeO.ite ?_ ?_
      | refine LeO.bind ?_ (fun _ => ?_)
theorem laws_toIntS.mono : ∀ a0 k, LeO (laws_toIntS.f k a0) (laws_toIntS.f (k + 1) a0) := by
  intro a0 k
  have ih0 := laws_toIntS.mono_l k
  unfold laws_toIntS.f
  repeat' first
      | (with_reducible exact ih0 _ _ _)
      | (with_reducible exact LeO.refl _)
      | (with_reducible exact LeO.none _)
      | (with_reducible refine LeO.ite ?_ ?_)
      | (with_reducible refine LeO.bind ?_ (fun _ => ?_))
      | exact ih0 _ _ _
      | exact LeO.none _
      | refine LeO.ite ?_ ?_
      | refine LeO.bind ?_ (fun _ => ?_)
set_option maxHeartbeats 8000000 in
set_option maxRecDepth 100000 in
theorem laws_toIntS.calls (k : Nat) (A0 : Option Addr) (c0 : Nat) (l0 : List Int) (r : List Int) (w : World) (hr0 : Kd.C (Kd.int .i64) w A0 l0.length l0) (hc0 : l0.length ≤ c0) (h : laws_toIntS.f k l0 = some r) :
    Calls Try.prog 60 #[.slice A0 l0.length c0] w fun e w' => ∃ v0_ : Value, e = .returned (v0_) ∧ Kd.R (Kd.int .i64) 3 w' w.heap.size (fun _ => True) v0_ r ∧ Below w.heap.size w w' := by
  have HR0 := Aside0.mk hr0
  have HC0 := Aside0.mk hc0
  clear hr0 hc0
  have HB := Aside0.mk (Below.refl w.heap.size w)
  have H : (if 0 ≤ (l0.length : Int) then (if ((l0.length : Int) : Int).toNat ≤ 35184372088832 then (laws_toIntS.l0 k l0 (List.replicate ((l0.length : Int) : Int).toNat 0) 0) else (none)) else (none)) = some r := h
  clear h
  by_cases c2 : 0 ≤ (l0.length : Int)
  · rw [if_pos c2] at H
    have c2b0 := eq_true c2
    have c2b1 : decide (0 ≤ (l0.length : Int)) = true := decide_eq_true c2
    clear c2
    by_cases c3 : ((l0.length : Int) : Int).toNat ≤ 35184372088832
    · rw [if_pos c3] at H
      have c3b0 := eq_true c3
      have c3b1 : decide (((l0.length : Int) : Int).toNat ≤ 35184372088832) = true := decide_eq_true c3
      clear c3
      obtain ⟨y101, hy101⟩ : ∃ y_ : List Int, y_ = (List.replicate ((l0.length : Int) : Int).toNat 0) := ⟨_, rfl⟩
      replace H : (laws_toIntS.l0 k l0 y101 0) = some r := by first | (rw [hy101]; with_reducible exact H) | (have H2_ := (Option.bind_some _ _).symm.trans H; rw [hy101]; with_reducible exact H2_) | (have H2_ := (Option.bind_some _ _).symm.trans H; with_reducible exact H2_) | with_reducible exact H | (rw [hy101]; exact H) | exact H
      have Ny101 := Aside0.mk hy101
      clear hy101
      have H' := Aside0.mk H
      clear H
      go_enter Try.func60, Try.ntmps60
      go_wp2_with (first | ((with_reducible refine gate_dst (N := 7) rfl ?_); refine Kd.R_make (Kd.int .i64) _ 3 rfl (N := 7) rfl 40 _ _ rfl (l0.length : Int) rfl rfl Try.underlying40 (.int .i64 0) 8 info3 rfl (by decide) (by omega) 0 (ok := fun _ => True) (okp := fun _ => True) rfl (fun _ hk => hk) trivial (of_decide_eq_true (by first | (with_reducible assumption) | assumption)) (Nat.le_trans (Nat.mul_le_mul_right _ (of_decide_eq_true (by first | (with_reducible assumption) | assumption) : (l0.length : Int).toNat ≤ 35184372088832)) (by omega)) (Below.refl _ _) (Nat.le_refl _) ?_; intro v102 w4 ho5 hb hg_ hnew_; clear hg_ hnew_; (first | rw [← Ny101.out] at ho5 | (simp only [Int.reduceToNat] at ho5; rw [← Ny101.out] at ho5)); have n0_ := Aside0.mk (Kd.R_lower ho5 (below_size (by exact eS HB.out))); have n1_ := Aside0.mk (below_step (by exact eS HB.out) hb); clear HB; have HO103 := n0_; have HB := n1_; clear n0_ n1_; clear hb ho5))
      go_loopg [4] k (fun kq v4 w' => ∃ (x3_1 : List Int) (x4_1 : Int), v4 = .int .i64 x4_1 ∧ Aside0 (laws_toIntS.l0 kq l0 x3_1 x4_1 = some r) ∧ Aside0 (kq ≤ k) ∧ Aside0 (Kd.R (Kd.int .i64) 3 w' w.heap.size (fun _ => True) v102 x3_1) ∧ Aside0 (Below w.heap.size w w'))
      case atStart => exact ⟨(y101), (0), (by first | rfl | (simp; done) | (simp [*]; done)), H', ⟨Nat.le_refl _⟩, ⟨by exact Ho.RS <| HO103.out⟩, ⟨by exact eS HB.out⟩⟩
      case round =>
        clear H'
        try clear c2
        try clear c2b0
        try clear c2b1
        try clear p2
        try clear c3
        try clear c3b0
        try clear c3b1
        obtain ⟨x3_1, x4_1, rfl, HA, HK1, HO_3, HB⟩ := hrel
        cases gk with
        | zero => exact absurd HA.out (by simp [laws_toIntS.l0])
        | succ k1 =>
          have H := HA.out
          clear HA
          simp only [laws_toIntS.l0] at H
          by_cases c6 : x4_1 < (l0.length : Int)
          · rw [if_pos c6] at H
            have c6b0 : decide (x4_1 < (l0.length : Int)) = true := decide_eq_true c6
            clear c6
            by_cases c7 : 0 ≤ x4_1
            · rw [if_pos c7] at H
              have c7b0 : decide (0 ≤ x4_1) = true := decide_eq_true c7
              clear c7
              by_cases c8 : x4_1 < (x3_1.length : Int)
              · rw [if_pos c8] at H
                have c8b0 : decide (x4_1 < (x3_1.length : Int)) = true := decide_eq_true c8
                clear c8
                obtain ⟨y105, hy105⟩ : ∃ y_ : List Int, y_ = (x3_1.set (x4_1 : Int).toNat (rd l0 x4_1)) := ⟨_, rfl⟩
                replace H : (laws_toIntS.l0 k1 l0 y105 (wrap64 (x4_1 + 1))) = some r := by first | (rw [hy105]; with_reducible exact H) | (have H2_ := (Option.bind_some _ _).symm.trans H; rw [hy105]; with_reducible exact H2_) | (have H2_ := (Option.bind_some _ _).symm.trans H; with_reducible exact H2_) | with_reducible exact H | (rw [hy105]; exact H) | exact H
                have Ny105 := Aside0.mk hy105
                clear hy105
                have H' := Aside0.mk H
                clear H
                have p104 : 0 ≤ (x4_1 : Int) := of_decide_eq_true (by first | (with_reducible assumption) | assumption)
                have q104 : x4_1 < (l0.length : Int) := of_decide_eq_true (by first | (with_reducible assumption) | assumption)
                obtain ⟨ad104, e104, hx104_0⟩ := Kd.at_int HR0.out x4_1 p104 q104
                cases e104
                replace hx104_0 := (HB.out.cell (World.block_lt_of_cell? w _ hx104_0)).trans hx104_0
                replace p104 := eq_true p104
                replace q104 := eq_true q104
                have p9 : 0 ≤ (x4_1 : Int) := of_decide_eq_true (by first | (with_reducible assumption) | assumption)
                have q9 : (x4_1 : Int) < ((x3_1.length : Int) : Int) := of_decide_eq_true (by first | (with_reducible assumption) | assumption)
                obtain ⟨go9, co9, eo9, gb9, gl9, cl9, HG9⟩ := Kd.R_form HO_3.out (by omega)
                (first | cases eo9 | (injection eo9 with ea_ en_ ec_; (first | subst ea_ | (injection ea_ with ea_; subst ea_)); subst ec_; clear en_))
                have GB9 := Aside0.mk gb9
                have GG9 := Aside0.mk HG9
                clear gb9 gl9 HG9
                obtain ⟨hx9_0, hf9_0⟩ := Kd.R_celln 0 HO_3.out (x4_1 : Int) p9 q9
                replace p9 := eq_true p9
                replace q9 := eq_true q9
                have HP10 := Kd.R_putg HO_3.out (x4_1 : Int) (rd l0 x4_1)
                go_wp2_with (first | ((with_reducible refine gate_store (t := 3) (p := 20) rfl ?_); refine store_event (t := 3) (p := 20) (v := ?vo_w11) (w1 := (wr.setCell ⟨go9, (x4_1 : Int).toNat, none⟩ (.int .i64 (rd l0 x4_1)))) ?hg ?ho ?hn ?hr ?_; (case ho => rfl); (case hg => rfl); (case hn => rfl); (case hr => first | (go_simp; done) | (go_simp; rfl)); intro w11 hw; have hg : wr.grownBy w11 (some go9) := (by rw [hw]; exact HP10.2); have hp_ : Kd.R (Kd.int .i64) 3 w11 w.heap.size (fun _ => True) (.slice (some ⟨go9, 0, none⟩) x3_1.length co9) y105 := (by rw [hw, Ny105.out]; exact HP10.1); clear HP10; have n0_ := Aside0.mk (hp_); have n1_ := Aside0.mk ((by rw [hw]; exact below_set (HB.out) GB9.out : Below w.heap.size w w11)); clear HO_3; clear HB; have HO_3 := n0_; have HB := n1_; clear n0_ n1_; clear hg hw hp_))
                go_roundg k1
                case measure => have := HK1.out; omega
                case rel => exact ⟨(y105), (wrap64 (x4_1 + 1)), (by first | rfl | (simp; done) | (simp [*]; done)), H', ⟨by have := HK1.out; omega⟩, ⟨by exact Ho.RS <| HO_3.out⟩, ⟨by exact eS HB.out⟩⟩
              · rw [if_neg c8] at H
                exact absurd H (by simp)
            · rw [if_neg c7] at H
              exact absurd H (by simp)
          · rw [if_neg c6] at H
            have c6b0 : decide (x4_1 < (l0.length : Int)) = false := decide_eq_false c6
            clear c6
            obtain rfl := Option.some.inj H
            go_wp2
            go_ret
            exact ⟨_, by first | rfl | (simp [errW_none, errW_some] <;> rfl) | (simp [*, errW_none, errW_some] <;> rfl), by exact Ho.RS <| HO_3.out, by exact eS HB.out⟩
    · rw [if_neg c3] at H
      exact absurd H (by simp)
  · rw [if_neg c2] at H
    exact absurd H (by simp)

end Go.Proofs.Ytgohfbelppokcaa.X

-- QtoInts
namespace Go.Proofs.Ytgohfbelppokcaa.Pure
open Go Go.RowKit Go.Proofs Go.Proofs.Ytgohfbelppokcaa.X Go.Proofs.YtgohfbelppokcaaW.PrintWords Go.Proofs.YtgohfbelppokcaaW.PrintLast
set_option linter.unusedVariables false
set_option linter.unusedSimpArgs false

theorem toIntS_eq {k : Nat} {l : List Int} (hk : l.length < k) (hl : l.length ≤ 1048576) : laws_toIntS.f k l = some l := by
  unfold laws_toIntS.f
  rw [if_pos (by omega), if_pos (by simp; omega)]
  have h := copy_loop laws_toIntS.l0 (fun x => x) 0 l (by omega)
    (fun k x3 i h1 h2 => by
      simp only [laws_toIntS.l0]
      rw [if_pos (by omega), if_pos (by omega), if_pos (by omega), rd_nat]; simp)
    (fun k x3 i h1 => by simp only [laws_toIntS.l0]; rw [if_neg (by omega)])
    l.length k 0 (List.replicate l.length 0) (by omega) hk (by simp) (by simp)
  simpa using h

end Go.Proofs.Ytgohfbelppokcaa.Pure

-- XlawseqChartF33
namespace Go.Proofs.Ytgohfbelppokcaa.X
open Ho (bS eS)
open Go.RowKit Go.Proofs.YtgohfbelppokcaaW.PrintWords Go.Proofs.YtgohfbelppokcaaW.PrintLast Go.Proofs.YtgohfbelppokcaaW.PrintMore
attribute [local go_sem] max2_int min2_int max_two min_two max_three min_three max_four min_four   -- for this text's walks alone
set_option linter.unusedVariables false
set_option linter.unusedSimpArgs false

attribute [local go_sem ↓] Ho.isSome_setCell_   -- a store leaves all places there
/-! ### laws_eqChart: function 33 -/
def laws_eqChart.f (k : Nat) (a0_0 : Int) (a0_1 : Int) (l0_2 : List Int) (a1_0 : Int) (a1_1 : Int) (l1_2 : List Int) : Option (Bool) := if a0_0 = a1_0 then (if a0_1 = a1_1 then ((laws_eqIntS.f k l0_2 l1_2).bind fun t103 => (if t103 = true then (some true) else (some false))) else (some false)) else (some false)
theorem laws_eqChart.mono : ∀ a0 a1 a2 a3 a4 a5 k, LeO (laws_eqChart.f k a0 a1 a2 a3 a4 a5) (laws_eqChart.f (k + 1) a0 a1 a2 a3 a4 a5) := by
  intro a0 a1 a2 a3 a4 a5 k
  unfold laws_eqChart.f
  repeat' first
      | (with_reducible exact laws_eqIntS.mono _ _ _)
      | (with_reducible exact LeO.refl _)
      | (with_reducible exact LeO.none _)
      | (with_reducible refine LeO.ite ?_ ?_)
      | (with_reducible refine LeO.bind ?_ (fun _ => ?_))
      | exact laws_eqIntS.mono _ _ _
      | exact LeO.none _
      | refine LeO.ite ?_ ?_
      | refine LeO.bind ?_ (fun _ => ?_)
set_option maxHeartbeats 8000000 in
set_option maxRecDepth 100000 in
theorem laws_eqChart.calls (k : Nat) (a0_0 : Int) (a0_1 : Int) (A0_2 : Option Addr) (c0_2 : Nat) (l0_2 : List Int) (a1_0 : Int) (a1_1 : Int) (A1_2 : Option Addr) (c1_2 : Nat) (l1_2 : List Int) (r : Bool) (w : World) (hr0_2 : Kd.C (Kd.int .i64) w A0_2 l0_2.length l0_2) (hc0_2 : l0_2.length ≤ c0_2) (hr1_2 : Kd.C (Kd.int .i64) w A1_2 l1_2.length l1_2) (hc1_2 : l1_2.length ≤ c1_2) (h : laws_eqChart.f k a0_0 a0_1 l0_2 a1_0 a1_1 l1_2 = some r) :
    Calls Try.prog 33 #[.agg #[.int .i64 a0_0, .int .i64 a0_1, .slice A0_2 l0_2.length c0_2], .agg #[.int .i64 a1_0, .int .i64 a1_1, .slice A1_2 l1_2.length c1_2]] w fun e w' => e = .returned (.bool r) ∧ Below w.heap.size w w' := by
  have hu46 := Try.underlying46
  have HR0_2 := Aside0.mk hr0_2
  have HC0_2 := Aside0.mk hc0_2
  clear hr0_2 hc0_2
  have HR1_2 := Aside0.mk hr1_2
  have HC1_2 := Aside0.mk hc1_2
  clear hr1_2 hc1_2
  have HB := Aside0.mk (Below.refl w.heap.size w)
  have H : (if a0_0 = a1_0 then (if a0_1 = a1_1 then ((laws_eqIntS.f k l0_2 l1_2).bind fun t103 => (if t103 = true then (some true) else (some false))) else (some false)) else (some false)) = some r := h
  clear h
  by_cases c3 : a0_0 = a1_0
  · rw [if_pos c3] at H
    have c3b0 : (a0_0 == a1_0) = true := beq_iff_eq.mpr c3
    have c3b1 : (a0_0 != a1_0) = false := bne_eq_false_iff_eq.mpr c3
    clear c3
    by_cases c4 : a0_1 = a1_1
    · rw [if_pos c4] at H
      have c4b0 : (a0_1 == a1_1) = true := beq_iff_eq.mpr c4
      have c4b1 : (a0_1 != a1_1) = false := bne_eq_false_iff_eq.mpr c4
      clear c4
      replace H := Option.bind_eq_some_iff.mp H
      obtain ⟨t103, A50, H⟩ := H
      replace H : (if t103 = true then (some true) else (some false)) = some r := H
      have A5 := Aside0.mk A50
      clear A50
      by_cases c6 : t103 = true
      · subst c6
        have H1 : (some true) = some r := by rw [if_pos rfl] at H; exact H
        clear H
        have H := H1
        clear H1
        obtain rfl := Option.some.inj H
        go_enter Try.func33, Try.ntmps33
        go_wp2_with (first | ((with_reducible refine gate_dst (N := 2) rfl ?_); refine box_event ?hg (N := 2) ?hd (cs := #[.int .i64 a0_0, .int .i64 a0_1, .slice A0_2 l0_2.length c0_2]) (t := 46) ?hr ?_; (case hd => rfl); (case hg => rfl); (case hr => first | (go_simp; done) | (go_simp; rfl)); intro gb101 hg w7 hbox hb; have n0_ := Aside0.mk (below_step (by exact eS HB.out) hb); have n1_ := Aside0.mk (hbox); have n2_ := Aside0.mk ((by rw [hg]; exact (below_size (by exact eS HB.out)) : w.heap.size ≤ gb101)); have n3_ := Aside0.mk ((by rw [hg]; exact (below_size (by exact eS HB.out)) : w.heap.size ≤ gb101)); clear HB; have HB := n0_; have BK101 := n1_; have GW101 := n2_; have GE101 := n3_; clear n0_ n1_ n2_ n3_; clear hb hbox hg) | ((with_reducible refine gate_dst (N := 3) rfl ?_); refine box_event ?hg (N := 3) ?hd (cs := #[.int .i64 a1_0, .int .i64 a1_1, .slice A1_2 l1_2.length c1_2]) (t := 46) ?hr ?_; (case hd => rfl); (case hg => rfl); (case hr => first | (go_simp; done) | (go_simp; rfl)); intro gb102 hg w8 hbox hb; have n0_ := Aside0.mk (blk_below (bS BK101.out) hb); have n1_ := Aside0.mk (below_step (by exact eS HB.out) hb); have n2_ := Aside0.mk (hbox); have n3_ := Aside0.mk ((by rw [hg]; exact (below_size (by exact eS HB.out)) : w.heap.size ≤ gb102)); have n4_ := Aside0.mk ((by rw [hg]; exact (below_size (by exact eS HB.out)) : w.heap.size ≤ gb102)); have n5_ := Aside0.mk ((by rw [hg]; exact Nat.ne_of_lt (blk_lt (bS BK101.out)) : gb101 ≠ gb102)); have n6_ := Aside0.mk ((by rw [hg]; exact Nat.ne_of_gt (blk_lt (bS BK101.out)) : gb102 ≠ gb101)); clear BK101; clear HB; have BK101 := n0_; have HB := n1_; have BK102 := n2_; have GW102 := n3_; have GE102 := n4_; have NB101_102 := n5_; have NB102_101 := n6_; clear n0_ n1_ n2_ n3_ n4_ n5_ n6_; clear hb hbox hg; have hnb9 := NB101_102.out; have hnc9 := NB102_101.out; have hcz10_0 : w8.cell? ⟨gb101, 0, none⟩ = some (.int .i64 a0_0) := (blk_cell BK101.out 0).trans rfl; have hcz10_1 : w8.cell? ⟨gb101, 1, none⟩ = some (.int .i64 a0_1) := (blk_cell BK101.out 1).trans rfl; have hcz10_2 : w8.cell? ⟨gb101, 2, none⟩ = some (.slice A0_2 l0_2.length c0_2) := (blk_cell BK101.out 2).trans rfl; have hfz10_0 := blk_frozen BK101.out 0; have hfz10_1 := blk_frozen BK101.out 1; have hfz10_2 := blk_frozen BK101.out 2; have hcz11_0 : w8.cell? ⟨gb102, 0, none⟩ = some (.int .i64 a1_0) := (blk_cell BK102.out 0).trans rfl; have hcz11_1 : w8.cell? ⟨gb102, 1, none⟩ = some (.int .i64 a1_1) := (blk_cell BK102.out 1).trans rfl; have hcz11_2 : w8.cell? ⟨gb102, 2, none⟩ = some (.slice A1_2 l1_2.length c1_2) := (blk_cell BK102.out 2).trans rfl; have hfz11_0 := blk_frozen BK102.out 0; have hfz11_1 := blk_frozen BK102.out 1; have hfz11_2 := blk_frozen BK102.out 2) | ((with_reducible refine gate_callee (f := 64) rfl ?_); refine goesL_ (some 19) rfl rfl Try.func64 (by kernel_rfl) rfl #[.slice A0_2 l0_2.length c0_2, .slice A1_2 l1_2.length c1_2] rfl (by (try simp only [List.map_toArray, List.map_cons, List.map_nil]); first | done | rfl | (simp only [List.length_drop, List.length_take]; rfl)) ?_; (with_reducible refine (laws_eqIntS.calls k _ _ l0_2 _ _ l1_2 true _ ?side1 ?side2 ?side3 ?side4 A5.out).mono ?_); (case side1 => repeat (first | exact (Kd.C_below HR0_2.out HB.out) | (with_reducible refine Kd.C_alloc ?_ _) | (with_reducible refine Kd.C_drewN ?_ _) | (with_reducible refine Kd.C_drew ?_))); (case side2 => exact HC0_2.out); (case side3 => repeat (first | exact (Kd.C_below HR1_2.out HB.out) | (with_reducible refine Kd.C_alloc ?_ _) | (with_reducible refine Kd.C_drewN ?_ _) | (with_reducible refine Kd.C_drew ?_))); (case side4 => exact HC1_2.out); rintro e w' ⟨rfl, ⟨nd, rfl⟩⟩; refine ⟨_, rfl, ?_⟩))
        go_ret
        exact ⟨by first | rfl | (simp [errW_none, errW_some] <;> rfl) | (simp [*, errW_none, errW_some] <;> rfl), by exact eS HB.out⟩
      · replace c6 := Bool.eq_false_iff.mpr c6
        subst c6
        have H1 : (some false) = some r := by rw [if_neg (show ¬ (false = true) by decide)] at H; exact H
        clear H
        have H := H1
        clear H1
        obtain rfl := Option.some.inj H
        go_enter Try.func33, Try.ntmps33
        go_wp2_with (first | ((with_reducible refine gate_dst (N := 2) rfl ?_); refine box_event ?hg (N := 2) ?hd (cs := #[.int .i64 a0_0, .int .i64 a0_1, .slice A0_2 l0_2.length c0_2]) (t := 46) ?hr ?_; (case hd => rfl); (case hg => rfl); (case hr => first | (go_simp; done) | (go_simp; rfl)); intro gb101 hg w12 hbox hb; have n0_ := Aside0.mk (below_step (by exact eS HB.out) hb); have n1_ := Aside0.mk (hbox); have n2_ := Aside0.mk ((by rw [hg]; exact (below_size (by exact eS HB.out)) : w.heap.size ≤ gb101)); have n3_ := Aside0.mk ((by rw [hg]; exact (below_size (by exact eS HB.out)) : w.heap.size ≤ gb101)); clear HB; have HB := n0_; have BK101 := n1_; have GW101 := n2_; have GE101 := n3_; clear n0_ n1_ n2_ n3_; clear hb hbox hg) | ((with_reducible refine gate_dst (N := 3) rfl ?_); refine box_event ?hg (N := 3) ?hd (cs := #[.int .i64 a1_0, .int .i64 a1_1, .slice A1_2 l1_2.length c1_2]) (t := 46) ?hr ?_; (case hd => rfl); (case hg => rfl); (case hr => first | (go_simp; done) | (go_simp; rfl)); intro gb102 hg w13 hbox hb; have n0_ := Aside0.mk (blk_below (bS BK101.out) hb); have n1_ := Aside0.mk (below_step (by exact eS HB.out) hb); have n2_ := Aside0.mk (hbox); have n3_ := Aside0.mk ((by rw [hg]; exact (below_size (by exact eS HB.out)) : w.heap.size ≤ gb102)); have n4_ := Aside0.mk ((by rw [hg]; exact (below_size (by exact eS HB.out)) : w.heap.size ≤ gb102)); have n5_ := Aside0.mk ((by rw [hg]; exact Nat.ne_of_lt (blk_lt (bS BK101.out)) : gb101 ≠ gb102)); have n6_ := Aside0.mk ((by rw [hg]; exact Nat.ne_of_gt (blk_lt (bS BK101.out)) : gb102 ≠ gb101)); clear BK101; clear HB; have BK101 := n0_; have HB := n1_; have BK102 := n2_; have GW102 := n3_; have GE102 := n4_; have NB101_102 := n5_; have NB102_101 := n6_; clear n0_ n1_ n2_ n3_ n4_ n5_ n6_; clear hb hbox hg; have hnb14 := NB101_102.out; have hnc14 := NB102_101.out; have hcz15_0 : w13.cell? ⟨gb101, 0, none⟩ = some (.int .i64 a0_0) := (blk_cell BK101.out 0).trans rfl; have hcz15_1 : w13.cell? ⟨gb101, 1, none⟩ = some (.int .i64 a0_1) := (blk_cell BK101.out 1).trans rfl; have hcz15_2 : w13.cell? ⟨gb101, 2, none⟩ = some (.slice A0_2 l0_2.length c0_2) := (blk_cell BK101.out 2).trans rfl; have hfz15_0 := blk_frozen BK101.out 0; have hfz15_1 := blk_frozen BK101.out 1; have hfz15_2 := blk_frozen BK101.out 2; have hcz16_0 : w13.cell? ⟨gb102, 0, none⟩ = some (.int .i64 a1_0) := (blk_cell BK102.out 0).trans rfl; have hcz16_1 : w13.cell? ⟨gb102, 1, none⟩ = some (.int .i64 a1_1) := (blk_cell BK102.out 1).trans rfl; have hcz16_2 : w13.cell? ⟨gb102, 2, none⟩ = some (.slice A1_2 l1_2.length c1_2) := (blk_cell BK102.out 2).trans rfl; have hfz16_0 := blk_frozen BK102.out 0; have hfz16_1 := blk_frozen BK102.out 1; have hfz16_2 := blk_frozen BK102.out 2) | ((with_reducible refine gate_callee (f := 64) rfl ?_); refine goesL_ (some 19) rfl rfl Try.func64 (by kernel_rfl) rfl #[.slice A0_2 l0_2.length c0_2, .slice A1_2 l1_2.length c1_2] rfl (by (try simp only [List.map_toArray, List.map_cons, List.map_nil]); first | done | rfl | (simp only [List.length_drop, List.length_take]; rfl)) ?_; (with_reducible refine (laws_eqIntS.calls k _ _ l0_2 _ _ l1_2 false _ ?side1 ?side2 ?side3 ?side4 A5.out).mono ?_); (case side1 => repeat (first | exact (Kd.C_below HR0_2.out HB.out) | (with_reducible refine Kd.C_alloc ?_ _) | (with_reducible refine Kd.C_drewN ?_ _) | (with_reducible refine Kd.C_drew ?_))); (case side2 => exact HC0_2.out); (case side3 => repeat (first | exact (Kd.C_below HR1_2.out HB.out) | (with_reducible refine Kd.C_alloc ?_ _) | (with_reducible refine Kd.C_drewN ?_ _) | (with_reducible refine Kd.C_drew ?_))); (case side4 => exact HC1_2.out); rintro e w' ⟨rfl, ⟨nd, rfl⟩⟩; refine ⟨_, rfl, ?_⟩))
        go_ret
        exact ⟨by first | rfl | (simp [errW_none, errW_some] <;> rfl) | (simp [*, errW_none, errW_some] <;> rfl), by exact eS HB.out⟩
    · rw [if_neg c4] at H
      have c4b0 : (a0_1 == a1_1) = false := beq_eq_false_iff_ne.mpr c4
      have c4b1 : (a0_1 != a1_1) = true := bne_iff_ne.mpr c4
      obtain rfl := Option.some.inj H
      go_enter Try.func33, Try.ntmps33
      go_wp2_with (first | ((with_reducible refine gate_dst (N := 2) rfl ?_); refine box_event ?hg (N := 2) ?hd (cs := #[.int .i64 a0_0, .int .i64 a0_1, .slice A0_2 l0_2.length c0_2]) (t := 46) ?hr ?_; (case hd => rfl); (case hg => rfl); (case hr => first | (go_simp; done) | (go_simp; rfl)); intro gb101 hg w17 hbox hb; have n0_ := Aside0.mk (below_step (by exact eS HB.out) hb); have n1_ := Aside0.mk (hbox); have n2_ := Aside0.mk ((by rw [hg]; exact (below_size (by exact eS HB.out)) : w.heap.size ≤ gb101)); have n3_ := Aside0.mk ((by rw [hg]; exact (below_size (by exact eS HB.out)) : w.heap.size ≤ gb101)); clear HB; have HB := n0_; have BK101 := n1_; have GW101 := n2_; have GE101 := n3_; clear n0_ n1_ n2_ n3_; clear hb hbox hg) | ((with_reducible refine gate_dst (N := 3) rfl ?_); refine box_event ?hg (N := 3) ?hd (cs := #[.int .i64 a1_0, .int .i64 a1_1, .slice A1_2 l1_2.length c1_2]) (t := 46) ?hr ?_; (case hd => rfl); (case hg => rfl); (case hr => first | (go_simp; done) | (go_simp; rfl)); intro gb102 hg w18 hbox hb; have n0_ := Aside0.mk (blk_below (bS BK101.out) hb); have n1_ := Aside0.mk (below_step (by exact eS HB.out) hb); have n2_ := Aside0.mk (hbox); have n3_ := Aside0.mk ((by rw [hg]; exact (below_size (by exact eS HB.out)) : w.heap.size ≤ gb102)); have n4_ := Aside0.mk ((by rw [hg]; exact (below_size (by exact eS HB.out)) : w.heap.size ≤ gb102)); have n5_ := Aside0.mk ((by rw [hg]; exact Nat.ne_of_lt (blk_lt (bS BK101.out)) : gb101 ≠ gb102)); have n6_ := Aside0.mk ((by rw [hg]; exact Nat.ne_of_gt (blk_lt (bS BK101.out)) : gb102 ≠ gb101)); clear BK101; clear HB; have BK101 := n0_; have HB := n1_; have BK102 := n2_; have GW102 := n3_; have GE102 := n4_; have NB101_102 := n5_; have NB102_101 := n6_; clear n0_ n1_ n2_ n3_ n4_ n5_ n6_; clear hb hbox hg; have hnb19 := NB101_102.out; have hnc19 := NB102_101.out; have hcz20_0 : w18.cell? ⟨gb101, 0, none⟩ = some (.int .i64 a0_0) := (blk_cell BK101.out 0).trans rfl; have hcz20_1 : w18.cell? ⟨gb101, 1, none⟩ = some (.int .i64 a0_1) := (blk_cell BK101.out 1).trans rfl; have hcz20_2 : w18.cell? ⟨gb101, 2, none⟩ = some (.slice A0_2 l0_2.length c0_2) := (blk_cell BK101.out 2).trans rfl; have hfz20_0 := blk_frozen BK101.out 0; have hfz20_1 := blk_frozen BK101.out 1; have hfz20_2 := blk_frozen BK101.out 2; have hcz21_0 : w18.cell? ⟨gb102, 0, none⟩ = some (.int .i64 a1_0) := (blk_cell BK102.out 0).trans rfl; have hcz21_1 : w18.cell? ⟨gb102, 1, none⟩ = some (.int .i64 a1_1) := (blk_cell BK102.out 1).trans rfl; have hcz21_2 : w18.cell? ⟨gb102, 2, none⟩ = some (.slice A1_2 l1_2.length c1_2) := (blk_cell BK102.out 2).trans rfl; have hfz21_0 := blk_frozen BK102.out 0; have hfz21_1 := blk_frozen BK102.out 1; have hfz21_2 := blk_frozen BK102.out 2))
      go_ret
      exact ⟨by first | rfl | (simp [errW_none, errW_some] <;> rfl) | (simp [*, errW_none, errW_some] <;> rfl), by exact eS HB.out⟩
  · rw [if_neg c3] at H
    have c3b0 : (a0_0 == a1_0) = false := beq_eq_false_iff_ne.mpr c3
    have c3b1 : (a0_0 != a1_0) = true := bne_iff_ne.mpr c3
    obtain rfl := Option.some.inj H
    go_enter Try.func33, Try.ntmps33
    go_wp2_with (first | ((with_reducible refine gate_dst (N := 2) rfl ?_); refine box_event ?hg (N := 2) ?hd (cs := #[.int .i64 a0_0, .int .i64 a0_1, .slice A0_2 l0_2.length c0_2]) (t := 46) ?hr ?_; (case hd => rfl); (case hg => rfl); (case hr => first | (go_simp; done) | (go_simp; rfl)); intro gb101 hg w22 hbox hb; have n0_ := Aside0.mk (below_step (by exact eS HB.out) hb); have n1_ := Aside0.mk (hbox); have n2_ := Aside0.mk ((by rw [hg]; exact (below_size (by exact eS HB.out)) : w.heap.size ≤ gb101)); have n3_ := Aside0.mk ((by rw [hg]; exact (below_size (by exact eS HB.out)) : w.heap.size ≤ gb101)); clear HB; have HB := n0_; have BK101 := n1_; have GW101 := n2_; have GE101 := n3_; clear n0_ n1_ n2_ n3_; clear hb hbox hg) | ((with_reducible refine gate_dst (N := 3) rfl ?_); refine box_event ?hg (N := 3) ?hd (cs := #[.int .i64 a1_0, .int .i64 a1_1, .slice A1_2 l1_2.length c1_2]) (t := 46) ?hr ?_; (case hd => rfl); (case hg => rfl); (case hr => first | (go_simp; done) | (go_simp; rfl)); intro gb102 hg w23 hbox hb; have n0_ := Aside0.mk (blk_below (bS BK101.out) hb); have n1_ := Aside0.mk (below_step (by exact eS HB.out) hb); have n2_ := Aside0.mk (hbox); have n3_ := Aside0.mk ((by rw [hg]; exact (below_size (by exact eS HB.out)) : w.heap.size ≤ gb102)); have n4_ := Aside0.mk ((by rw [hg]; exact (below_size (by exact eS HB.out)) : w.heap.size ≤ gb102)); have n5_ := Aside0.mk ((by rw [hg]; exact Nat.ne_of_lt (blk_lt (bS BK101.out)) : gb101 ≠ gb102)); have n6_ := Aside0.mk ((by rw [hg]; exact Nat.ne_of_gt (blk_lt (bS BK101.out)) : gb102 ≠ gb101)); clear BK101; clear HB; have BK101 := n0_; have HB := n1_; have BK102 := n2_; have GW102 := n3_; have GE102 := n4_; have NB101_102 := n5_; have NB102_101 := n6_; clear n0_ n1_ n2_ n3_ n4_ n5_ n6_; clear hb hbox hg; have hnb24 := NB101_102.out; have hnc24 := NB102_101.out; have hcz25_0 : w23.cell? ⟨gb101, 0, none⟩ = some (.int .i64 a0_0) := (blk_cell BK101.out 0).trans rfl; have hcz25_1 : w23.cell? ⟨gb101, 1, none⟩ = some (.int .i64 a0_1) := (blk_cell BK101.out 1).trans rfl; have hcz25_2 : w23.cell? ⟨gb101, 2, none⟩ = some (.slice A0_2 l0_2.length c0_2) := (blk_cell BK101.out 2).trans rfl; have hfz25_0 := blk_frozen BK101.out 0; have hfz25_1 := blk_frozen BK101.out 1; have hfz25_2 := blk_frozen BK101.out 2; have hcz26_0 : w23.cell? ⟨gb102, 0, none⟩ = some (.int .i64 a1_0) := (blk_cell BK102.out 0).trans rfl; have hcz26_1 : w23.cell? ⟨gb102, 1, none⟩ = some (.int .i64 a1_1) := (blk_cell BK102.out 1).trans rfl; have hcz26_2 : w23.cell? ⟨gb102, 2, none⟩ = some (.slice A1_2 l1_2.length c1_2) := (blk_cell BK102.out 2).trans rfl; have hfz26_0 := blk_frozen BK102.out 0; have hfz26_1 := blk_frozen BK102.out 1; have hfz26_2 := blk_frozen BK102.out 2))
    go_ret
    exact ⟨by first | rfl | (simp [errW_none, errW_some] <;> rfl) | (simp [*, errW_none, errW_some] <;> rfl), by exact eS HB.out⟩

end Go.Proofs.Ytgohfbelppokcaa.X

-- XlawsszIntSF57
namespace Go.Proofs.Ytgohfbelppokcaa.X
open Ho (bS eS)
open Go.RowKit Go.Proofs.YtgohfbelppokcaaW.PrintWords Go.Proofs.YtgohfbelppokcaaW.PrintLast Go.Proofs.YtgohfbelppokcaaW.PrintMore
attribute [local go_sem] max2_int min2_int max_two min_two max_three min_three max_four min_four   -- for this text's walks alone
set_option linter.unusedVariables false
set_option linter.unusedSimpArgs false

/-! ### laws_szIntS: function 57 -/
def laws_szIntS.f (l0 : List Int) (a1 : Int) : Option (Int) := if (wrap64 (a1 - (l0.length : Int))) < 0 then (some (-1)) else (some (wrap64 (a1 - (l0.length : Int))))
set_option maxHeartbeats 8000000 in
set_option maxRecDepth 100000 in
theorem laws_szIntS.calls (A0 : Option Addr) (c0 : Nat) (l0 : List Int) (a1 : Int) (r : Int) (w : World) (hr0 : Kd.C (Kd.int .i64) w A0 l0.length l0) (hc0 : l0.length ≤ c0) (h : laws_szIntS.f l0 a1 = some r) :
    Calls Try.prog 57 #[.slice A0 l0.length c0, .int .i64 a1] w fun e w' => e = .returned (.int .i64 r) ∧ Drawn0 w w' := by
  have HR0 := Aside0.mk hr0
  have HC0 := Aside0.mk hc0
  clear hr0 hc0
  have H : (if (wrap64 (a1 - (l0.length : Int))) < 0 then (some (-1)) else (some (wrap64 (a1 - (l0.length : Int))))) = some r := h
  clear h
  by_cases c3 : (wrap64 (a1 - (l0.length : Int))) < 0
  · rw [if_pos c3] at H
    have c3b0 : decide ((wrap64 (a1 - (l0.length : Int))) < 0) = true := decide_eq_true c3
    clear c3
    obtain rfl := Option.some.inj H
    go_enter Try.func57, Try.ntmps57
    go_wp2
    go_ret
    exact ⟨by first | rfl | (simp; done) | (simp [*]; done), by repeat (first | exact Drawn0.refl _ | apply Drawn0.step)⟩
  · rw [if_neg c3] at H
    have c3b0 : decide ((wrap64 (a1 - (l0.length : Int))) < 0) = false := decide_eq_false c3
    clear c3
    obtain rfl := Option.some.inj H
    go_enter Try.func57, Try.ntmps57
    go_wp2
    go_ret
    exact ⟨by first | rfl | (simp; done) | (simp [*]; done), by repeat (first | exact Drawn0.refl _ | apply Drawn0.step)⟩

end Go.Proofs.Ytgohfbelppokcaa.X

-- XlawsszChartF29
namespace Go.Proofs.Ytgohfbelppokcaa.X
open Ho (bS eS)
open Go.RowKit Go.Proofs.YtgohfbelppokcaaW.PrintWords Go.Proofs.YtgohfbelppokcaaW.PrintLast Go.Proofs.YtgohfbelppokcaaW.PrintMore
attribute [local go_sem] max2_int min2_int max_two min_two max_three min_three max_four min_four   -- for this text's walks alone
set_option linter.unusedVariables false
set_option linter.unusedSimpArgs false

attribute [local go_sem ↓] Ho.isSome_setCell_   -- a store leaves all places there
/-! ### laws_szChart: function 29 -/
def laws_szChart.f (a0_0 : Int) (a0_1 : Int) (l0_2 : List Int) (a1 : Int) : Option (Int) := (laws_szIntS.f l0_2 a1).bind fun t102 => (if t102 < 0 then (some (-1)) else (some t102))
set_option maxHeartbeats 8000000 in
set_option maxRecDepth 100000 in
theorem laws_szChart.calls (a0_0 : Int) (a0_1 : Int) (A0_2 : Option Addr) (c0_2 : Nat) (l0_2 : List Int) (a1 : Int) (r : Int) (w : World) (hr0_2 : Kd.C (Kd.int .i64) w A0_2 l0_2.length l0_2) (hc0_2 : l0_2.length ≤ c0_2) (h : laws_szChart.f a0_0 a0_1 l0_2 a1 = some r) :
    Calls Try.prog 29 #[.agg #[.int .i64 a0_0, .int .i64 a0_1, .slice A0_2 l0_2.length c0_2], .int .i64 a1] w fun e w' => e = .returned (.int .i64 r) ∧ Below w.heap.size w w' := by
  have hu42 := Try.underlying42
  have HR0_2 := Aside0.mk hr0_2
  have HC0_2 := Aside0.mk hc0_2
  clear hr0_2 hc0_2
  have HB := Aside0.mk (Below.refl w.heap.size w)
  have H : ((laws_szIntS.f l0_2 a1).bind fun t102 => (if t102 < 0 then (some (-1)) else (some t102))) = some r := h
  clear h
  replace H := Option.bind_eq_some_iff.mp H
  obtain ⟨t102, A30, H⟩ := H
  replace H : (if t102 < 0 then (some (-1)) else (some t102)) = some r := H
  have A3 := Aside0.mk A30
  clear A30
  by_cases c4 : t102 < 0
  · rw [if_pos c4] at H
    have c4b0 : decide (t102 < 0) = true := decide_eq_true c4
    clear c4
    obtain rfl := Option.some.inj H
    go_enter Try.func29, Try.ntmps29
    go_wp2_with (first | ((with_reducible refine gate_dst (N := 2) rfl ?_); refine box_event ?hg (N := 2) ?hd (cs := #[.int .i64 a0_0, .int .i64 a0_1, .slice A0_2 l0_2.length c0_2]) (t := 42) ?hr ?_; (case hd => rfl); (case hg => rfl); (case hr => first | (go_simp; done) | (go_simp; rfl)); intro gb101 hg w5 hbox hb; have n0_ := Aside0.mk (below_step (by exact eS HB.out) hb); have n1_ := Aside0.mk (hbox); have n2_ := Aside0.mk ((by rw [hg]; exact (below_size (by exact eS HB.out)) : w.heap.size ≤ gb101)); have n3_ := Aside0.mk ((by rw [hg]; exact (below_size (by exact eS HB.out)) : w.heap.size ≤ gb101)); clear HB; have HB := n0_; have BK101 := n1_; have GW101 := n2_; have GE101 := n3_; clear n0_ n1_ n2_ n3_; clear hb hbox hg; have hcz6_0 : w5.cell? ⟨gb101, 0, none⟩ = some (.int .i64 a0_0) := (blk_cell BK101.out 0).trans rfl; have hcz6_1 : w5.cell? ⟨gb101, 1, none⟩ = some (.int .i64 a0_1) := (blk_cell BK101.out 1).trans rfl; have hcz6_2 : w5.cell? ⟨gb101, 2, none⟩ = some (.slice A0_2 l0_2.length c0_2) := (blk_cell BK101.out 2).trans rfl; have hfz6_0 := blk_frozen BK101.out 0; have hfz6_1 := blk_frozen BK101.out 1; have hfz6_2 := blk_frozen BK101.out 2) | ((with_reducible refine gate_callee (f := 57) rfl ?_); refine goesL_ (some 8) rfl rfl Try.func57 (by kernel_rfl) rfl #[.slice A0_2 l0_2.length c0_2, .int .i64 a1] rfl (by (try simp only [List.map_toArray, List.map_cons, List.map_nil]); first | done | rfl | (simp only [List.length_drop, List.length_take]; rfl)) ?_; (with_reducible refine (laws_szIntS.calls _ _ l0_2 a1 t102 _ ?side1 ?side2 A3.out).mono ?_); (case side1 => repeat (first | exact (Kd.C_below HR0_2.out HB.out) | (with_reducible refine Kd.C_alloc ?_ _) | (with_reducible refine Kd.C_drewN ?_ _) | (with_reducible refine Kd.C_drew ?_))); (case side2 => exact HC0_2.out); rintro e w' ⟨rfl, ⟨nd, rfl⟩⟩; refine ⟨_, rfl, ?_⟩))
    go_ret
    exact ⟨by first | rfl | (simp [errW_none, errW_some] <;> rfl) | (simp [*, errW_none, errW_some] <;> rfl), by exact eS HB.out⟩
  · rw [if_neg c4] at H
    have c4b0 : decide (t102 < 0) = false := decide_eq_false c4
    clear c4
    obtain rfl := Option.some.inj H
    go_enter Try.func29, Try.ntmps29
    go_wp2_with (first | ((with_reducible refine gate_dst (N := 2) rfl ?_); refine box_event ?hg (N := 2) ?hd (cs := #[.int .i64 a0_0, .int .i64 a0_1, .slice A0_2 l0_2.length c0_2]) (t := 42) ?hr ?_; (case hd => rfl); (case hg => rfl); (case hr => first | (go_simp; done) | (go_simp; rfl)); intro gb101 hg w7 hbox hb; have n0_ := Aside0.mk (below_step (by exact eS HB.out) hb); have n1_ := Aside0.mk (hbox); have n2_ := Aside0.mk ((by rw [hg]; exact (below_size (by exact eS HB.out)) : w.heap.size ≤ gb101)); have n3_ := Aside0.mk ((by rw [hg]; exact (below_size (by exact eS HB.out)) : w.heap.size ≤ gb101)); clear HB; have HB := n0_; have BK101 := n1_; have GW101 := n2_; have GE101 := n3_; clear n0_ n1_ n2_ n3_; clear hb hbox hg; have hcz8_0 : w7.cell? ⟨gb101, 0, none⟩ = some (.int .i64 a0_0) := (blk_cell BK101.out 0).trans rfl; have hcz8_1 : w7.cell? ⟨gb101, 1, none⟩ = some (.int .i64 a0_1) := (blk_cell BK101.out 1).trans rfl; have hcz8_2 : w7.cell? ⟨gb101, 2, none⟩ = some (.slice A0_2 l0_2.length c0_2) := (blk_cell BK101.out 2).trans rfl; have hfz8_0 := blk_frozen BK101.out 0; have hfz8_1 := blk_frozen BK101.out 1; have hfz8_2 := blk_frozen BK101.out 2) | ((with_reducible refine gate_callee (f := 57) rfl ?_); refine goesL_ (some 8) rfl rfl Try.func57 (by kernel_rfl) rfl #[.slice A0_2 l0_2.length c0_2, .int .i64 a1] rfl (by (try simp only [List.map_toArray, List.map_cons, List.map_nil]); first | done | rfl | (simp only [List.length_drop, List.length_take]; rfl)) ?_; (with_reducible refine (laws_szIntS.calls _ _ l0_2 a1 t102 _ ?side1 ?side2 A3.out).mono ?_); (case side1 => repeat (first | exact (Kd.C_below HR0_2.out HB.out) | (with_reducible refine Kd.C_alloc ?_ _) | (with_reducible refine Kd.C_drewN ?_ _) | (with_reducible refine Kd.C_drew ?_))); (case side2 => exact HC0_2.out); rintro e w' ⟨rfl, ⟨nd, rfl⟩⟩; refine ⟨_, rfl, ?_⟩))
    go_ret
    exact ⟨by first | rfl | (simp [errW_none, errW_some] <;> rfl) | (simp [*, errW_none, errW_some] <;> rfl), by exact eS HB.out⟩

end Go.Proofs.Ytgohfbelppokcaa.X

-- XlawstoChartF31
namespace Go.Proofs.Ytgohfbelppokcaa.X
open Ho (bS eS)
open Go.RowKit Go.Proofs.YtgohfbelppokcaaW.PrintWords Go.Proofs.YtgohfbelppokcaaW.PrintLast Go.Proofs.YtgohfbelppokcaaW.PrintMore
attribute [local go_sem] max2_int min2_int max_two min_two max_three min_three max_four min_four   -- for this text's walks alone
set_option linter.unusedVariables false
set_option linter.unusedSimpArgs false

attribute [local go_sem ↓] Ho.isSome_setCell_   -- a store leaves all places there
/-! ### laws_toChart: function 31 -/
def laws_toChart.f (k : Nat) (a0_0 : Int) (a0_1 : Int) (l0_2 : List Int) : Option (Int × Int × List Int) := (laws_toIntS.f k l0_2).bind fun t104 => (some (a0_0, a0_1, t104))
theorem laws_toChart.mono : ∀ a0 a1 a2 k, LeO (laws_toChart.f k a0 a1 a2) (laws_toChart.f (k + 1) a0 a1 a2) := by
  intro a0 a1 a2 k
  unfold laws_toChart.f
  repeat' first
      | (with_reducible exact laws_toIntS.mono _ _)
      | (with_reducible exact LeO.refl _)
      | (with_reducible exact LeO.none _)
      | (with_reducible refine LeO.ite ?_ ?_)
      | (with_reducible refine LeO.bind ?_ (fun _ => ?_))
      | exact laws_toIntS.mono _ _
      | exact LeO.none _
      | refine LeO.ite ?_ ?_
      | refine LeO.bind ?_ (fun _ => ?_)
set_option maxHeartbeats 8000000 in
set_option maxRecDepth 100000 in
theorem laws_toChart.calls (k : Nat) (a0_0 : Int) (a0_1 : Int) (A0_2 : Option Addr) (c0_2 : Nat) (l0_2 : List Int) (r1 : Int) (r2 : Int) (r3 : List Int) (w : World) (hr0_2 : Kd.C (Kd.int .i64) w A0_2 l0_2.length l0_2) (hc0_2 : l0_2.length ≤ c0_2) (h : laws_toChart.f k a0_0 a0_1 l0_2 = some (r1, r2, r3)) :
    Calls Try.prog 31 #[.agg #[.int .i64 a0_0, .int .i64 a0_1, .slice A0_2 l0_2.length c0_2]] w fun e w' => ∃ v2_ : Value, e = .returned (.agg #[.int .i64 r1, .int .i64 r2, v2_]) ∧ Kd.R (Kd.int .i64) 3 w' w.heap.size (fun _ => True) v2_ r3 ∧ Below w.heap.size w w' := by
  have hu42 := Try.underlying42
  have hu46 := Try.underlying46
  have HR0_2 := Aside0.mk hr0_2
  have HC0_2 := Aside0.mk hc0_2
  clear hr0_2 hc0_2
  have HB := Aside0.mk (Below.refl w.heap.size w)
  have H : ((laws_toIntS.f k l0_2).bind fun t104 => (some (a0_0, a0_1, t104))) = some (r1, r2, r3) := h
  clear h
  replace H := Option.bind_eq_some_iff.mp H
  obtain ⟨t104, A20, H⟩ := H
  replace H : (some (a0_0, a0_1, t104)) = some (r1, r2, r3) := H
  have A2 := Aside0.mk A20
  clear A20
  simp only [Option.some.injEq, Prod.mk.injEq] at H
  obtain ⟨rfl, rfl, rfl⟩ := H
  go_enter Try.func31, Try.ntmps31
  go_wp2_with (first | ((with_reducible refine gate_dst (N := 1) rfl ?_); refine box_event ?hg (N := 1) ?hd (cs := #[.int .i64 a0_0, .int .i64 a0_1, .slice A0_2 l0_2.length c0_2]) (t := 42) ?hr ?_; (case hd => rfl); (case hg => rfl); (case hr => first | (go_simp; done) | (go_simp; rfl)); intro gb101 hg w3 hbox hb; have n0_ := Aside0.mk (below_step (by exact eS HB.out) hb); have n1_ := Aside0.mk (hbox); have n2_ := Aside0.mk ((by rw [hg]; exact (below_size (by exact eS HB.out)) : w.heap.size ≤ gb101)); have n3_ := Aside0.mk ((by rw [hg]; exact (below_size (by exact eS HB.out)) : w.heap.size ≤ gb101)); clear HB; have HB := n0_; have BK101 := n1_; have GW101 := n2_; have GE101 := n3_; clear n0_ n1_ n2_ n3_; clear hb hbox hg) | ((with_reducible refine gate_dst (N := 2) rfl ?_); refine box_event ?hg (N := 2) ?hd (cs := #[.int .i64 0, .int .i64 0, .slice none 0 0]) (t := 46) ?hr ?_; (case hd => rfl); (case hg => rfl); (case hr => first | (go_simp; done) | (go_simp; rfl)); intro gb102 hg w4 hbox hb; have n0_ := Aside0.mk (blk_below (bS BK101.out) hb); have n1_ := Aside0.mk (below_step (by exact eS HB.out) hb); have n2_ := Aside0.mk (hbox); have n3_ := Aside0.mk ((by rw [hg]; exact (below_size (by exact eS HB.out)) : w.heap.size ≤ gb102)); have n4_ := Aside0.mk ((by rw [hg]; exact (below_size (by exact eS HB.out)) : w.heap.size ≤ gb102)); have n5_ := Aside0.mk ((by rw [hg]; exact Nat.ne_of_lt (blk_lt (bS BK101.out)) : gb101 ≠ gb102)); have n6_ := Aside0.mk ((by rw [hg]; exact Nat.ne_of_gt (blk_lt (bS BK101.out)) : gb102 ≠ gb101)); clear BK101; clear HB; have BK101 := n0_; have HB := n1_; have BK102 := n2_; have GW102 := n3_; have GE102 := n4_; have NB101_102 := n5_; have NB102_101 := n6_; clear n0_ n1_ n2_ n3_ n4_ n5_ n6_; clear hb hbox hg) | ((with_reducible refine gate_dst (N := 3) rfl ?_); refine box_event ?hg (N := 3) ?hd (cs := #[.int .i64 0, .int .i64 0, .slice none 0 0]) (t := 46) ?hr ?_; (case hd => rfl); (case hg => rfl); (case hr => first | (go_simp; done) | (go_simp; rfl)); intro gb103 hg w5 hbox hb; have n0_ := Aside0.mk (blk_below (bS BK101.out) hb); have n1_ := Aside0.mk (blk_below (bS BK102.out) hb); have n2_ := Aside0.mk (below_step (by exact eS HB.out) hb); have n3_ := Aside0.mk (hbox); have n4_ := Aside0.mk ((by rw [hg]; exact (below_size (by exact eS HB.out)) : w.heap.size ≤ gb103)); have n5_ := Aside0.mk ((by rw [hg]; exact (below_size (by exact eS HB.out)) : w.heap.size ≤ gb103)); have n6_ := Aside0.mk ((by rw [hg]; exact Nat.ne_of_lt (blk_lt (bS BK101.out)) : gb101 ≠ gb103)); have n7_ := Aside0.mk ((by rw [hg]; exact Nat.ne_of_gt (blk_lt (bS BK101.out)) : gb103 ≠ gb101)); have n8_ := Aside0.mk ((by rw [hg]; exact Nat.ne_of_lt (blk_lt (bS BK102.out)) : gb102 ≠ gb103)); have n9_ := Aside0.mk ((by rw [hg]; exact Nat.ne_of_gt (blk_lt (bS BK102.out)) : gb103 ≠ gb102)); clear BK101; clear BK102; clear HB; have BK101 := n0_; have BK102 := n1_; have HB := n2_; have BK103 := n3_; have GW103 := n4_; have GE103 := n5_; have NB101_103 := n6_; have NB103_101 := n7_; have NB102_103 := n8_; have NB103_102 := n9_; clear n0_ n1_ n2_ n3_ n4_ n5_ n6_ n7_ n8_ n9_; clear hb hbox hg; have hnb6 := NB101_102.out; have hnc6 := NB102_101.out; have hnb7 := NB101_103.out; have hnc7 := NB103_101.out; have hcz8_0 : w5.cell? ⟨gb101, 0, none⟩ = some (.int .i64 a0_0) := (blk_cell BK101.out 0).trans rfl; have hcz8_1 : w5.cell? ⟨gb101, 1, none⟩ = some (.int .i64 a0_1) := (blk_cell BK101.out 1).trans rfl; have hcz8_2 : w5.cell? ⟨gb101, 2, none⟩ = some (.slice A0_2 l0_2.length c0_2) := (blk_cell BK101.out 2).trans rfl; have hfz8_0 := blk_frozen BK101.out 0; have hfz8_1 := blk_frozen BK101.out 1; have hfz8_2 := blk_frozen BK101.out 2; have hnb9 := NB103_102.out; have hnc9 := NB102_103.out; have hcz10_0 : w5.cell? ⟨gb103, 0, none⟩ = some (.int .i64 0) := (blk_cell BK103.out 0).trans rfl; have hcz10_1 : w5.cell? ⟨gb103, 1, none⟩ = some (.int .i64 0) := (blk_cell BK103.out 1).trans rfl; have hcz10_2 : w5.cell? ⟨gb103, 2, none⟩ = some (.slice none 0 0) := (blk_cell BK103.out 2).trans rfl; have hfz10_0 := blk_frozen BK103.out 0; have hfz10_1 := blk_frozen BK103.out 1; have hfz10_2 := blk_frozen BK103.out 2) | ((with_reducible refine gate_callee (f := 60) rfl ?_); refine goesL_ (some 12) rfl rfl Try.func60 (by kernel_rfl) rfl #[.slice A0_2 l0_2.length c0_2] rfl (by (try simp only [List.map_toArray, List.map_cons, List.map_nil]); first | done | rfl | (simp only [List.length_drop, List.length_take]; rfl)) ?_; (with_reducible refine (laws_toIntS.calls k _ _ l0_2 t104 _ ?side1 ?side2 A2.out).mono ?_); (case side1 => exact Kd.C_below HR0_2.out (by repeat (first | (with_reducible first | exact HB.out | apply below_alloc | apply pw_below_drewN | apply below_drew1 | refine below_set ?_ GE101.out | refine below_set ?_ GE102.out | refine below_set ?_ GE103.out) | exact HB.out))); (case side2 => exact HC0_2.out); rintro e w11 ⟨v105, rfl, ho0, hb⟩; refine ⟨_, rfl, ?_⟩; have n0_ := Aside0.mk (Kd.R_lower ho0 (below_size (by repeat (first | (with_reducible first | exact HB.out | apply below_alloc | apply pw_below_drewN | apply below_drew1 | refine below_set ?_ GE101.out | refine below_set ?_ GE102.out | refine below_set ?_ GE103.out) | exact HB.out)))); have n1_ := Aside0.mk (blk_below (g := gb101) (o := .cells #[.int .i64 a0_0, .int .i64 a0_1, .slice A0_2 l0_2.length c0_2] 42 (0, 0)) (by (with_reducible repeat (first | refine blk_drewN ?_ _ | refine blk_drew ?_ | refine blk_alloc ?_ _)); refine blk_far ?_ NB101_103.out _; (with_reducible repeat (first | refine blk_drewN ?_ _ | refine blk_drew ?_ | refine blk_alloc ?_ _)); refine blk_far ?_ NB101_103.out _; exact bS BK101.out) hb); have n2_ := Aside0.mk (blk_below (g := gb102) (o := .cells #[.int .i64 0, .int .i64 0, .slice none 0 0] 46 (0, 0)) (by (with_reducible repeat (first | refine blk_drewN ?_ _ | refine blk_drew ?_ | refine blk_alloc ?_ _)); refine blk_far ?_ NB102_103.out _; (with_reducible repeat (first | refine blk_drewN ?_ _ | refine blk_drew ?_ | refine blk_alloc ?_ _)); refine blk_far ?_ NB102_103.out _; exact bS BK102.out) hb); have n3_ := Aside0.mk (blk_below (g := gb103) (o := .cells #[.int .i64 a0_0, .int .i64 a0_1, .slice none 0 0] 46 (0, 0)) (by (with_reducible repeat (first | refine blk_drewN ?_ _ | refine blk_drew ?_ | refine blk_alloc ?_ _)); refine blk_put (cs := #[.int .i64 a0_0, .int .i64 0, .slice none 0 0]) ?_ 1 _ rfl; (with_reducible repeat (first | refine blk_drewN ?_ _ | refine blk_drew ?_ | refine blk_alloc ?_ _)); refine blk_put (cs := #[.int .i64 0, .int .i64 0, .slice none 0 0]) ?_ 0 _ rfl; exact bS BK103.out) hb); have n4_ := Aside0.mk (below_step (by repeat (first | (with_reducible first | exact HB.out | apply below_alloc | apply pw_below_drewN | apply below_drew1 | refine below_set ?_ GE101.out | refine below_set ?_ GE102.out | refine below_set ?_ GE103.out) | exact HB.out)) hb); clear BK101; clear BK102; clear BK103; clear HB; have HO106 := n0_; have BK101 := n1_; have BK102 := n2_; have BK103 := n3_; have HB := n4_; clear n0_ n1_ n2_ n3_ n4_; (try clear hb); (try clear hb2); (try clear hk); (try clear hi); (try clear ho0); obtain ⟨Ao12, co12, eo12⟩ := Kd.R_slice HO106.out; subst eo12; have hcz13_0 : w11.cell? ⟨gb103, 0, none⟩ = some (.int .i64 a0_0) := (blk_cell BK103.out 0).trans rfl; have hcz13_1 : w11.cell? ⟨gb103, 1, none⟩ = some (.int .i64 a0_1) := (blk_cell BK103.out 1).trans rfl; have hcz13_2 : w11.cell? ⟨gb103, 2, none⟩ = some (.slice none 0 0) := (blk_cell BK103.out 2).trans rfl; have hfz13_0 := blk_frozen BK103.out 0; have hfz13_1 := blk_frozen BK103.out 1; have hfz13_2 := blk_frozen BK103.out 2; have hcz14_0 : w11.cell? ⟨gb102, 0, none⟩ = some (.int .i64 0) := (blk_cell BK102.out 0).trans rfl; have hcz14_1 : w11.cell? ⟨gb102, 1, none⟩ = some (.int .i64 0) := (blk_cell BK102.out 1).trans rfl; have hcz14_2 : w11.cell? ⟨gb102, 2, none⟩ = some (.slice none 0 0) := (blk_cell BK102.out 2).trans rfl; have hfz14_0 := blk_frozen BK102.out 0; have hfz14_1 := blk_frozen BK102.out 1; have hfz14_2 := blk_frozen BK102.out 2))
  refine bodyPost_ret (results_cell_row rfl _ _ gb102 46 #[.int .i64 a0_0, .int .i64 a0_1, .slice Ao12 t104.length co12] (0, 0) _ rfl (by (with_reducible repeat (first | refine blk_drewN ?_ _ | refine blk_drew ?_ | refine blk_alloc ?_ _)); refine blk_put (cs := #[.int .i64 a0_0, .int .i64 a0_1, .slice none 0 0]) ?_ 2 _ rfl; (with_reducible repeat (first | refine blk_drewN ?_ _ | refine blk_drew ?_ | refine blk_alloc ?_ _)); refine blk_put (cs := #[.int .i64 a0_0, .int .i64 0, .slice none 0 0]) ?_ 1 _ rfl; (with_reducible repeat (first | refine blk_drewN ?_ _ | refine blk_drew ?_ | refine blk_alloc ?_ _)); refine blk_put (cs := #[.int .i64 0, .int .i64 0, .slice none 0 0]) ?_ 0 _ rfl; (with_reducible repeat (first | refine blk_drewN ?_ _ | refine blk_drew ?_ | refine blk_alloc ?_ _)); refine blk_far ?_ NB102_103.out _; exact bS BK102.out) Try.underlying46 rfl (by kernel_rfl)) rfl ?_
  exact ⟨_, by first | rfl | (simp [errW_none, errW_some] <;> rfl) | (simp [*, errW_none, errW_some] <;> rfl), by exact Ho.RS <| Kd.R_mono (Kd.R_far (p := ⟨gb102, 2, none⟩) (Kd.R_far (p := ⟨gb102, 1, none⟩) (Kd.R_far (p := ⟨gb102, 0, none⟩) (Kd.R_far (p := ⟨gb103, 2, none⟩) (Kd.R_types (Kd.R_types HO106.out BK103.out (by decide)) BK102.out (by decide)) (fun _ hk => hk.1.2) (.slice Ao12 t104.length co12)) (fun _ hk => hk.2) (.int .i64 a0_0)) (fun _ hk => hk.2) (.int .i64 a0_1)) (fun _ hk => hk.2) (.slice Ao12 t104.length co12)) (fun _ hk => trivial), by repeat (first | (with_reducible first | exact HB.out | apply below_alloc | apply pw_below_drewN | apply below_drew1 | refine below_set ?_ GE101.out | refine below_set ?_ GE102.out | refine below_set ?_ GE103.out) | exact HB.out)⟩

end Go.Proofs.Ytgohfbelppokcaa.X

-- Qchart
namespace Go.Proofs.Ytgohfbelppokcaa.Pure
open Go Go.RowKit Go.Proofs Go.Proofs.Ytgohfbelppokcaa.X Go.Proofs.YtgohfbelppokcaaW.PrintWords Go.Proofs.YtgohfbelppokcaaW.PrintLast
set_option linter.unusedVariables false
set_option linter.unusedSimpArgs false

def colorB (x : Int) : Bool := decide (0 ≤ x ∧ x ≤ 5)
def sideB (x : Int) : Bool := decide (1 ≤ x ∧ x ≤ 8)
def chartB (w h : Int) (l : List Int) : Bool := sideB w && (sideB h && (decide ((l.length : Int) = w * h) && l.all colorB))
theorem side_of {x : Int} (h : sideB x = true) : 1 ≤ x ∧ x ≤ 8 := by simpa [sideB] using h
theorem side_w {w h : Int} (hw : sideB w = true) (hh : sideB h = true) : 0 ≤ w * h ∧ w * h ≤ 64 := by
  have := side_of hw; have := side_of hh
  exact mul_bd (A := 8) (B := 8) (by omega) (by omega) (by omega) (by omega)
theorem chart_of {w h : Int} {l : List Int} (hc : chartB w h l = true) : (1 ≤ w ∧ w ≤ 8) ∧ (1 ≤ h ∧ h ≤ 8) ∧ (l.length : Int) = w * h ∧ l.length ≤ 64 ∧ ∀ x ∈ l, 0 ≤ x ∧ x ≤ 5 := by
  simp only [chartB, Bool.and_eq_true, decide_eq_true_eq, List.all_eq_true] at hc
  obtain ⟨h1, h2, h3, h4⟩ := hc
  have := side_w h1 h2
  exact ⟨side_of h1, side_of h2, h3, by omega, fun x hx => by simpa [colorB] using h4 x hx⟩
theorem szIntS_eq {l : List Int} {a : Int} (hl : l.length ≤ 9223372036854775807) (ha : 0 ≤ a ∧ a ≤ 9223372036854775807) : laws_szIntS.f l a = some (if a < l.length then -1 else a - l.length) := by
  unfold laws_szIntS.f
  rw [w64 (by omega) (by omega)]
  by_cases h : a < l.length
  · rw [if_pos (by omega), if_pos h]
  · rw [if_neg (by omega), if_neg h]
theorem szChart_eq {w h a : Int} {l : List Int} (hl : l.length ≤ 9223372036854775807) (ha : 0 ≤ a ∧ a ≤ 9223372036854775807) : laws_szChart.f w h l a = some (if a < l.length then -1 else a - l.length) := by
  unfold laws_szChart.f
  rw [szIntS_eq hl ha]
  by_cases h : a < l.length
  · simp [h]
  · simp only [if_neg h, Option.bind_some]; rw [if_neg (by omega)]
theorem toChart_eq {k : Nat} {w h : Int} {l : List Int} (hk : l.length < k) (hl : l.length ≤ 1048576) : laws_toChart.f k w h l = some (w, h, l) := by
  simp only [laws_toChart.f, toIntS_eq hk hl, Option.bind_some]
theorem eqChart_refl {k : Nat} {w h : Int} {l : List Int} (hk : l.length < k) (hl : l.length ≤ 1048576) : laws_eqChart.f k w h l w h l = some true := by
  simp only [laws_eqChart.f, eqIntS_refl hk (by omega), Option.bind_some, if_true]
theorem isColor_eq (x : Int) : impl_isColor.f x = some (colorB x) := by simp only [impl_isColor.f, in_eq, Option.bind_some, colorB]
theorem isSide_eq (x : Int) : impl_isSide.f x = some (sideB x) := by simp only [impl_isSide.f, in_eq, Option.bind_some, sideB]
theorem l2Color_eq (x : Int) : spec_l2Color.f x = some (colorB x) := by simp only [spec_l2Color.f, l1In_eq, Option.bind_some, colorB]
theorem l2Side_eq (x : Int) : spec_l2Side.f x = some (sideB x) := by simp only [spec_l2Side.f, l1In_eq, Option.bind_some, sideB]
theorem IsChart_eq (w h : Int) (l : List Int) : impl_IsChart.f w h l = some (chartB w h l) := by
  simp only [impl_IsChart.f, isSide_eq, impl_areAll_int__impl_isColor.f, Ho.allO_eq (q := colorB) (fun x _ => isColor_eq x), Option.bind_some, chartB]
  cases hw : sideB w
  · simp
  · cases hh : sideB h
    · simp
    · have := side_w hw hh
      rw [w64 (by omega) (by omega)]
      by_cases he : (l.length : Int) = w * h <;> simp [he]
theorem l2Good_eq {k : Nat} {w h : Int} {l : List Int} (hk : l.length < k) (hl : l.length ≤ 1048576) : spec_l2Good.f k w h l = some (chartB w h l) := by
  unfold spec_l2Good.f
  have hx := all_loop (fun k i => spec_l2Good.l0 k i w h l) colorB 0 l (sideB w && (sideB h && decide ((l.length : Int) = w * h))) (by omega)
    (fun k i h1 => by
      simp only [spec_l2Good.l0]
      rw [if_pos (by omega), if_pos (by omega), rd_nat, l2Color_eq]
      simp only [Option.bind_some])
    (fun k i h1 => by
      simp only [spec_l2Good.l0]
      rw [if_neg (by omega)]
      simp only [l2Side_eq, Option.bind_some]
      cases hw : sideB w
      · simp
      · cases hh : sideB h
        · simp
        · have := side_w hw hh
          rw [w64 (by omega) (by omega)]
          simp [BEq.beq, instBEqOfDecidableEq])
    l.length k 0 (by omega) hk
  refine hx.trans ?_
  simp only [List.drop_zero, chartB]
  cases sideB w <;> cases sideB h <;> cases l.all colorB <;> simp

end Go.Proofs.Ytgohfbelppokcaa.Pure

-- Qabsn
namespace Go.Proofs.Ytgohfbelppokcaa.Pure
open Go Go.RowKit Go.Proofs Go.Proofs.Ytgohfbelppokcaa.X Go.Proofs.YtgohfbelppokcaaW.PrintWords Go.Proofs.YtgohfbelppokcaaW.PrintLast
set_option linter.unusedVariables false
set_option linter.unusedSimpArgs false

def absI (x : Int) : Int := if x < 0 then -x else x
theorem abs_eq {x : Int} (h : -9223372036854775807 ≤ x) (h2 : x ≤ 9223372036854775807) : impl_abs.f x = some (absI x) := by
  unfold impl_abs.f mx absI
  rw [w64 (by omega) (by omega)]
  congr 1
  (repeat' split) <;> omega
theorem most2_eq (x : Int) (h : -9223372036854775807 ≤ x) (h2 : x ≤ 9223372036854775807) : spec_l1Most.f x (-x) = some (absI x) := by
  unfold spec_l1Most.f absI
  (repeat' split) <;> simp <;> omega

end Go.Proofs.Ytgohfbelppokcaa.Pure

-- Qfraction
namespace Go.Proofs.Ytgohfbelppokcaa.Pure
open Go Go.RowKit Go.Proofs Go.Proofs.Ytgohfbelppokcaa.X Go.Proofs.YtgohfbelppokcaaW.PrintWords Go.Proofs.YtgohfbelppokcaaW.PrintLast
set_option linter.unusedVariables false
set_option linter.unusedSimpArgs false

theorem tdivE (p : Int) (n : Int) (hn : 0 < n) : Int.tdiv p n = if 0 ≤ p then p / n else -((-p) / n) := by
  split
  · rename_i h; exact Int.tdiv_eq_ediv_of_nonneg h
  · rename_i h
    have h2 : p = -(-p) := by omega
    rw [h2, Int.neg_tdiv, Int.tdiv_eq_ediv_of_nonneg (by omega), Int.neg_neg]
theorem ediv_bd {a b : Int} (ha : 0 ≤ a) (hb : 0 < b) : 0 ≤ a / b ∧ a / b ≤ a :=
  ⟨Int.ediv_nonneg ha (by omega), Int.ediv_le_self b ha⟩
/-- the greatest common divisor, as the loops find it -/
def gcdM (a b : Int) : Int := (Int.gcd a b : Int)
theorem gcd_loop {α : Type} (L : Nat → Int → Int → Option α) (r : Int → Option α) (hs : ∀ k a b, b ≠ 0 → L (k + 1) a b = L k b (Int.tmod a b)) (he : ∀ k a, L (k + 1) a 0 = r a) :
    ∀ n (a : Int) (b : Int) k, 0 ≤ a → 0 ≤ b → b.toNat ≤ n → n < k → L k a b = r (gcdM a b) := by
  intro n
  induction n with
  | zero =>
    intro a b k ha hb hn hk
    obtain ⟨k, rfl, _⟩ := succ_of hk
    obtain rfl : b = 0 := by omega
    rw [he]; congr 1
    simp [gcdM]; omega
  | succ n ih =>
    intro a b k ha hb hn hk
    obtain ⟨k, rfl, hk⟩ := succ_of hk
    by_cases hb0 : b = 0
    · subst hb0; rw [he]; congr 1; simp [gcdM]; omega
    · rw [hs k a b hb0]
      have hm : Int.tmod a b = a % b := Int.tmod_eq_emod_of_nonneg ha
      have h1 : 0 ≤ a % b := Int.emod_nonneg a hb0
      have h2 : a % b < b := Int.emod_lt_of_pos a (by omega)
      rw [hm, ih b (a % b) k (by omega) h1 (by omega) (by omega)]
      congr 1
      unfold gcdM
      obtain ⟨m, rfl⟩ := nat_of ha
      obtain ⟨q, rfl⟩ := nat_of hb
      have e : ((m : Int) % (q : Int)) = ((m % q : Nat) : Int) := by simp
      rw [e]
      show ((Nat.gcd q (m % q) : Nat) : Int) = ((Nat.gcd m q : Nat) : Int)
      rw [Nat.gcd_comm q, ← Nat.gcd_rec, Nat.gcd_comm]
theorem gcdM_pos {a b : Int} (hb : 0 < b) : 0 < gcdM a b := by
  unfold gcdM
  have := Int.gcd_pos_of_ne_zero_right a (show b ≠ 0 by omega)
  omega
theorem gcdM_le {a b : Int} (hb : 0 < b) : gcdM a b ≤ b := by
  unfold gcdM
  exact Int.le_of_dvd hb (Int.gcd_dvd_right a b)
theorem gcdM_mul {c a b : Int} (hc : 0 < c) : gcdM (c * a) (c * b) = c * gcdM a b := by
  unfold gcdM
  rw [Int.gcd_mul_left]
  push_cast
  rw [Int.natAbs_of_nonneg (by omega)]
/-- a fraction in lowest terms; num is not negative, den positive -/
def fracM (n d : Int) : Int × Int := (n / gcdM n d, d / gcdM n d)
theorem fracM_scale {c n d : Int} (hc : 0 < c) (hd : 0 < d) : fracM (c * n) (c * d) = fracM n d := by
  unfold fracM
  rw [gcdM_mul hc, Int.mul_ediv_mul_of_pos _ _ hc, Int.mul_ediv_mul_of_pos _ _ hc]
theorem fracM_bd {n d : Int} (hn : 0 ≤ n) (hd : 0 < d) : 0 ≤ (fracM n d).1 ∧ (fracM n d).1 ≤ n ∧ 0 < (fracM n d).2 ∧ (fracM n d).2 ≤ d := by
  have hp := gcdM_pos (a := n) hd
  have hl := gcdM_le (a := n) hd
  have h1 := ediv_bd hn hp
  have h2 := ediv_bd (a := d) (by omega) hp
  refine ⟨h1.1, h1.2, ?_, h2.2⟩
  have : gcdM n d ∣ d := Int.gcd_dvd_right n d
  exact Int.ediv_pos_of_pos_of_dvd hd (by omega) this
/-- n/d is the fraction, scaled -/
theorem fracM_mul {n d : Int} (hd : 0 < d) : n = gcdM n d * (fracM n d).1 ∧ d = gcdM n d * (fracM n d).2 := by
  unfold fracM
  exact ⟨(Int.mul_ediv_cancel' (Int.gcd_dvd_left n d)).symm, (Int.mul_ediv_cancel' (Int.gcd_dvd_right n d)).symm⟩
theorem frac_w {n d : Int} (hn : 0 ≤ n ∧ n ≤ 9223372036854775807) (hd : 0 < d ∧ d ≤ 9223372036854775807) : (wrap64 (Int.tdiv n (gcdM n d)), wrap64 (Int.tdiv d (gcdM n d))) = fracM n d := by
  have hb := fracM_bd hn.1 hd.1
  rw [Int.tdiv_eq_ediv_of_nonneg hn.1, Int.tdiv_eq_ediv_of_nonneg (by omega)]
  unfold fracM at hb ⊢
  simp only at hb
  rw [w64 (by omega) (by omega), w64 (by omega) (by omega)]
theorem fraction_eq {k : Nat} {n d : Int} (hn : 0 ≤ n ∧ n ≤ 9223372036854775807) (hd : 0 < d ∧ d ≤ 9223372036854775807) (hk : d.toNat < k) : impl_fraction.f k n d = some (fracM n d) := by
  unfold impl_fraction.f impl_gcd.f
  rw [abs_eq (by omega) (by omega)]
  have ha : absI n = n := by unfold absI; split <;> omega
  simp only [Option.bind_some, ha]
  rw [gcd_loop impl_gcd.l0 (fun a => some a) (fun k a b hb => by simp only [impl_gcd.l0]; rw [if_neg hb]) (fun k a => by simp only [impl_gcd.l0]; rw [if_pos trivial]) d.toNat n d k hn.1 (by omega) (Nat.le_refl _) hk]
  have hp := gcdM_pos (a := n) hd.1
  simp only [Option.bind_some]
  rw [if_neg (by omega), frac_w hn hd]
theorem l2Reduce_eq {k : Nat} {n d : Int} (hn : 0 ≤ n ∧ n ≤ 9223372036854775807) (hd : 0 < d ∧ d ≤ 9223372036854775807) (hk : d.toNat < k) : spec_l2Reduce.f k n d = some (fracM n d) := by
  unfold spec_l2Reduce.f
  have ha : absI n = n := by unfold absI; split <;> omega
  rw [w64 (x := -n) (by omega) (by omega), most2_eq n (by omega) (by omega), ha]
  simp only [Option.bind_some]
  rw [gcd_loop (fun k a b => spec_l2Reduce.l0 k n d a b) (fun a => if a = 0 then none else some (wrap64 (Int.tdiv n a), wrap64 (Int.tdiv d a))) (fun k a b hb => by simp only [spec_l2Reduce.l0]; rw [if_neg hb]) (fun k a => by simp only [spec_l2Reduce.l0]; rw [if_pos trivial]) d.toNat n d k hn.1 (by omega) (Nat.le_refl _) hk]
  have hp := gcdM_pos (a := n) hd.1
  rw [if_neg (by omega), frac_w hn hd]

end Go.Proofs.Ytgohfbelppokcaa.Pure

-- Qgauge
namespace Go.Proofs.Ytgohfbelppokcaa.Pure
open Go Go.RowKit Go.Proofs Go.Proofs.Ytgohfbelppokcaa.X Go.Proofs.YtgohfbelppokcaaW.PrintWords Go.Proofs.YtgohfbelppokcaaW.PrintLast
set_option linter.unusedVariables false
set_option linter.unusedSimpArgs false

def gaugeB (a b c : Int) : Bool := decide (1 ≤ a ∧ a ≤ 200) && (decide (1 ≤ b ∧ b ≤ 200) && decide (0 ≤ c ∧ c ≤ 200))
theorem gauge_of {a b c : Int} (h : gaugeB a b c = true) : 1 ≤ a ∧ a ≤ 200 ∧ 1 ≤ b ∧ b ≤ 200 ∧ 0 ≤ c ∧ c ≤ 200 := by
  simp [gaugeB] at h
  omega
theorem l15Gauge_eq (a b c : Int) : spec_l15Gauge.f a b c = some (gaugeB a b c) := by
  simp only [spec_l15Gauge.f, l1In_eq, Option.bind_some, ite_sf, gaugeB]
theorem IsGauge_eq (a b c : Int) : impl_IsGauge.f a b c = some (gaugeB a b c) := by
  simp only [impl_IsGauge.f, in_eq, Option.bind_some, ite_sf, gaugeB]

end Go.Proofs.Ytgohfbelppokcaa.Pure

-- Qsize
namespace Go.Proofs.Ytgohfbelppokcaa.Pure
open Go Go.RowKit Go.Proofs Go.Proofs.Ytgohfbelppokcaa.X Go.Proofs.YtgohfbelppokcaaW.PrintWords Go.Proofs.YtgohfbelppokcaaW.PrintLast
set_option linter.unusedVariables false
set_option linter.unusedSimpArgs false

/-- the width, or the length, of a carpet, before it is reduced -/
def wideM (n per edge : Int) : Int := 100 * n + 2 * edge * per
theorem wide_bd {n per edge : Int} (hn : 1 ≤ n ∧ n ≤ 8) (hp : 1 ≤ per ∧ per ≤ 200) (he : 0 ≤ edge ∧ edge ≤ 200) : 100 ≤ wideM n per edge ∧ wideM n per edge ≤ 80800 ∧ wrap64 ((wrap64 (100 * n)) + (wrap64 ((wrap64 (2 * edge)) * per))) = wideM n per edge := by
  have h1 : wrap64 (2 * edge) = 2 * edge := w64 (by omega) (by omega)
  have hm := mul_bd (a := 2 * edge) (b := per) (A := 400) (B := 200) (by omega) (by omega) (by omega) (by omega)
  unfold wideM
  refine ⟨by omega, by omega, ?_⟩
  rw [h1, w64 (x := 100 * n) (by omega) (by omega), w64 (x := 2 * edge * per) (by omega) (by omega), w64 (by omega) (by omega)]
def sizeM (w h : Int) (l : List Int) (a b e : Int) : Int × Int × Int × Int × Bool :=
  if chartB w h l && gaugeB a b e then ((fracM (wideM w a e) a).1, (fracM (wideM w a e) a).2, (fracM (wideM h b e) b).1, (fracM (wideM h b e) b).2, true) else (0, 0, 0, 0, false)
theorem asked_eq {k : Nat} {w h : Int} {l : List Int} (a b e : Int) (hk : l.length < k) (hl : l.length ≤ 1048576) : spec_l15Asked.f k w h l a b e = some (chartB w h l && gaugeB a b e) := by
  simp only [spec_l15Asked.f, l2Good_eq hk hl, l15Gauge_eq, Option.bind_some, ite_sf]
theorem size_of {w h a b e : Int} {l : List Int} (hc : (chartB w h l && gaugeB a b e) = true) : (100 ≤ wideM w a e ∧ wideM w a e ≤ 80800 ∧ wrap64 ((wrap64 (100 * w)) + (wrap64 ((wrap64 (2 * e)) * a))) = wideM w a e) ∧ (100 ≤ wideM h b e ∧ wideM h b e ≤ 80800 ∧ wrap64 ((wrap64 (100 * h)) + (wrap64 ((wrap64 (2 * e)) * b))) = wideM h b e) ∧ (1 ≤ a ∧ a ≤ 200) ∧ (1 ≤ b ∧ b ≤ 200) := by
  rw [Bool.and_eq_true] at hc
  have h1 := chart_of hc.1; have h2 := gauge_of hc.2
  exact ⟨wide_bd h1.1 (by omega) (by omega), wide_bd h1.2.1 (by omega) (by omega), by omega, by omega⟩
theorem sizeS_eq {k : Nat} {w h : Int} {l : List Int} (a b e : Int) (hk : l.length < k) (hk2 : 300 < k) (hl : l.length ≤ 1048576) : spec_SizeOf.f k w h l a b e = some (sizeM w h l a b e) := by
  simp only [spec_SizeOf.f, asked_eq a b e hk hl, Option.bind_some, sizeM, spec_l15Wide.f]
  cases hc : (chartB w h l && gaugeB a b e)
  · simp
  obtain ⟨h1, h2, h3, h4⟩ := size_of hc
  simp only [if_true, h1.2.2, h2.2.2]
  rw [l2Reduce_eq (by omega) (by omega) (by omega), l2Reduce_eq (by omega) (by omega) (by omega)]
  rfl
theorem sizeI_eq {k : Nat} {w h : Int} {l : List Int} (a b e : Int) (hk2 : 300 < k) : impl_SizeOf.f k w h l a b e = some (sizeM w h l a b e) := by
  obtain ⟨k, rfl, hk⟩ := succ_of hk2
  simp only [impl_SizeOf.f, impl_SizeOf.j0, IsChart_eq, IsGauge_eq, Option.bind_some, sizeM, impl_Gauge_width.f, impl_Gauge_length.f]
  cases hc : chartB w h l
  · simp
  cases hg : gaugeB a b e
  · simp
  obtain ⟨h1, h2, h3, h4⟩ := size_of (show (chartB w h l && gaugeB a b e) = true by simp [hc, hg])
  simp only [if_true, h1.2.2, h2.2.2, Bool.not_true, Bool.false_eq_true, if_false, Bool.and_self]
  rw [fraction_eq (by omega) (by omega) (by omega), fraction_eq (by omega) (by omega) (by omega)]
  rfl

end Go.Proofs.Ytgohfbelppokcaa.Pure

-- Qaspect
namespace Go.Proofs.Ytgohfbelppokcaa.Pure
open Go Go.RowKit Go.Proofs Go.Proofs.Ytgohfbelppokcaa.X Go.Proofs.YtgohfbelppokcaaW.PrintWords Go.Proofs.YtgohfbelppokcaaW.PrintLast
set_option linter.unusedVariables false
set_option linter.unusedSimpArgs false

def aspectM (w h : Int) (l : List Int) (a b e : Int) : Int × Int × Bool :=
  if chartB w h l && gaugeB a b e then ((fracM (wideM w a e * b) (a * wideM h b e)).1, (fracM (wideM w a e * b) (a * wideM h b e)).2, true) else (0, 0, false)
theorem aspect_w {n m d c : Int} (hn : 100 ≤ n ∧ n ≤ 80800) (hm : 100 ≤ m ∧ m ≤ 80800) (hd : 1 ≤ d ∧ d ≤ 200) (hc : 1 ≤ c ∧ c ≤ 200) :
    (0 ≤ n * c ∧ n * c ≤ 16160000) ∧ (0 < d * m ∧ d * m ≤ 16160000) := by
  have h1 := mul_bd (a := n) (b := c) (A := 80800) (B := 200) (by omega) (by omega) (by omega) (by omega)
  have h2 := mul_bd (a := d) (b := m) (A := 200) (B := 80800) (by omega) (by omega) (by omega) (by omega)
  have h3 : 0 < d * m := Int.mul_pos (by omega) (by omega)
  exact ⟨by omega, by omega⟩
theorem aspectS_eq {k : Nat} {w h : Int} {l : List Int} (a b e : Int) (hk : l.length < k) (hk2 : 16160001 < k) (hl : l.length ≤ 1048576) : spec_AspectOf.f k w h l a b e = some (aspectM w h l a b e) := by
  simp only [spec_AspectOf.f, asked_eq a b e hk hl, Option.bind_some, aspectM, spec_l15Wide.f]
  cases hc : (chartB w h l && gaugeB a b e)
  · simp
  obtain ⟨h1, h2, h3, h4⟩ := size_of hc
  simp only [if_true, h1.2.2, h2.2.2]
  have hw := aspect_w (n := wideM w a e) (m := wideM h b e) (by omega) (by omega) h3 h4
  rw [w64 (x := wideM w a e * b) (by omega) (by omega), w64 (x := a * wideM h b e) (by omega) (by omega), l2Reduce_eq (by omega) (by omega) (by omega)]
  rfl
theorem aspectI_eq {k : Nat} {w h : Int} {l : List Int} (a b e : Int) (hk2 : 16160001 < k) : impl_AspectOf.f k w h l a b e = some (aspectM w h l a b e) := by
  simp only [impl_AspectOf.f, sizeI_eq (k := k) (w := w) (h := h) (l := l) a b e (by omega), Option.bind_some, aspectM, sizeM]
  cases hc : (chartB w h l && gaugeB a b e)
  · simp
  obtain ⟨h1, h2, h3, h4⟩ := size_of hc
  simp only [if_true]
  have f1 := fracM_bd (n := wideM w a e) (d := a) (by omega) (by omega)
  have f2 := fracM_bd (n := wideM h b e) (d := b) (by omega) (by omega)
  have m1 := fracM_mul (n := wideM w a e) (d := a) (by omega)
  have m2 := fracM_mul (n := wideM h b e) (d := b) (by omega)
  have g1 := gcdM_pos (a := wideM w a e) (b := a) (by omega)
  have g2 := gcdM_pos (a := wideM h b e) (b := b) (by omega)
  generalize wideM w a e = n at *
  generalize wideM h b e = m at *
  generalize (fracM n a).1 = n1 at *
  generalize (fracM n a).2 = a1 at *
  generalize (fracM m b).1 = m1' at *
  generalize (fracM m b).2 = b1 at *
  generalize gcdM n a = g at *
  generalize gcdM m b = g' at *
  have b1' := mul_bd (a := n1) (b := b1) (A := 80800) (B := 200) (by omega) (by omega) (by omega) (by omega)
  have b2' := mul_bd (a := a1) (b := m1') (A := 200) (B := 80800) (by omega) (by omega) (by omega) (by omega)
  have hm : 0 < m1' := by
    rcases Int.lt_or_le 0 m1' with h | h
    · exact h
    · have : m1' = 0 := by omega
      rw [this] at m2; simp at m2; omega
  have b3 : 0 < a1 * m1' := Int.mul_pos (by omega) hm
  rw [w64 (x := n1 * b1) (by omega) (by omega), w64 (x := a1 * m1') (by omega) (by omega), fraction_eq (by omega) (by omega) (by omega)]
  have e1 : n * b = (g * g') * (n1 * b1) := by rw [m1.1, m2.2]; simp [Int.mul_assoc, Int.mul_comm, Int.mul_left_comm]
  have e2 : a * m = (g * g') * (a1 * m1') := by rw [m1.2, m2.1]; simp [Int.mul_assoc, Int.mul_comm, Int.mul_left_comm]
  rw [e1, e2, fracM_scale (Int.mul_pos g1 g2) b3]
  rfl

end Go.Proofs.Ytgohfbelppokcaa.Pure

-- Qcursor
namespace Go.Proofs.Ytgohfbelppokcaa.Pure
open Go Go.RowKit Go.Proofs Go.Proofs.Ytgohfbelppokcaa.X Go.Proofs.YtgohfbelppokcaaW.PrintWords Go.Proofs.YtgohfbelppokcaaW.PrintLast
set_option linter.unusedVariables false
set_option linter.unusedSimpArgs false

/-- a code that is drawn from: bytes, and not too many -/
def curOk (s : List Int) : Prop := s.length ≤ 65536 ∧ ∀ y ∈ s, 0 ≤ y ∧ y ≤ 255
theorem wf8 {x : Int} (h : (Lit.int .u8 x).wf = true) : 0 ≤ x ∧ x ≤ 255 := by
  have h1 := h
  simp [Lit.wf] at h1
  have h2 := h1.1; have h3 := h1.2
  constructor
  · exact h2
  · exact h3
theorem and255 (n : Int) : 0 ≤ wrap64 (Go.bits .and .u64 (IntKind.u64.wrap n / 1099511627776) 255) ∧ wrap64 (Go.bits .and .u64 (IntKind.u64.wrap n / 1099511627776) 255) ≤ 255 := by
  have hw : IntKind.u64.wrap n = n % 18446744073709551616 := by simp [IntKind.wrap, IntKind.bits, IntKind.signed]
  have h32 : (2 : Int) ^ 32 = 4294967296 := by decide
  have h := bits_mask .u64 32 (by decide) (fun n h0 h1 => by simp [IntKind.wrap, IntKind.bits, IntKind.signed]; omega) 8 (by decide) (IntKind.u64.wrap n / 1099511627776) (by rw [hw]; omega) (by rw [hw]; omega)
  rw [show ((2 : Int) ^ 8 - 1) = 255 by decide, show ((2 : Int) ^ 8) = 256 by decide] at h
  rw [h, w64 (by omega) (by omega)]
  omega
theorem next_ex {s : List Int} {p : Int} (h : Int) (hs : curOk s) (hp : 0 ≤ p ∧ p ≤ 1000000000) : ∃ a h', spec_l1Cur_next.f s p h = some (a, p + 1, h') ∧ 0 ≤ a ∧ a ≤ 255 := by
  have hw : wrap64 (p + 1) = p + 1 := w64 (by omega) (by omega)
  simp only [spec_l1Cur_next.f, hw]
  by_cases g : p < s.length
  · rw [if_pos g, if_pos hp.1, if_pos (by omega)]
    refine ⟨_, _, rfl, ?_⟩
    obtain ⟨n, rfl⟩ := nat_of hp.1
    have hm : s.getD n 0 ∈ s := by rw [List.getD_eq_getElem?_getD, List.getElem?_eq_getElem (by omega)]; exact List.getElem_mem (by omega)
    have := hs.2 _ hm
    rw [rd_nat, w64 (by omega) (by omega)]
    exact this
  · rw [if_neg g, if_neg (by omega)]
    exact ⟨_, _, rfl, and255 _⟩
theorem pick_ex {s : List Int} {p n : Int} (h : Int) (hs : curOk s) (hp : 0 ≤ p ∧ p ≤ 1000000) (hn : n ≤ 50000) : ∃ a p' h', spec_l1Cur_pick.f s p h n = some (a, p', h') ∧ (p ≤ p' ∧ p' ≤ p + 2) ∧ 0 ≤ a ∧ (1 ≤ n → a < n) := by
  unfold spec_l1Cur_pick.f
  by_cases g : n ≤ 1
  · rw [if_pos g]; exact ⟨_, _, _, rfl, by omega, by omega, by omega⟩
  rw [if_neg g]
  obtain ⟨a, h1, e1, b1⟩ := next_ex h hs (p := p) (by omega)
  rw [e1]
  simp only [Option.bind_some]
  by_cases g2 : n > 200
  · rw [if_pos g2]
    obtain ⟨b, h2, e2, b2⟩ := next_ex h1 hs (p := p + 1) (by omega)
    rw [e2]
    simp only [Option.bind_some]
    rw [if_neg (by omega), w64 (x := a * 256) (by omega) (by omega), w64 (x := a * 256 + b) (by omega) (by omega)]
    exact ⟨_, _, _, rfl, by omega, Int.tmod_nonneg _ (by omega), fun _ => Int.tmod_lt_of_pos _ (by omega)⟩
  · rw [if_neg g2, if_neg (by omega)]
    exact ⟨_, _, _, rfl, by omega, Int.tmod_nonneg _ (by omega), fun _ => Int.tmod_lt_of_pos _ (by omega)⟩
theorem one_ex {s : List Int} {p n : Int} (h : Int) (hs : curOk s) (hp : 0 ≤ p ∧ p ≤ 1000000) (hn : n ≤ 50000) : ∃ b p' h', spec_l1Cur_one.f s p h n = some (b, p', h') ∧ (p ≤ p' ∧ p' ≤ p + 2) := by
  obtain ⟨a, p1, h1, e1, b1, _⟩ := pick_ex h hs hp hn
  simp only [spec_l1Cur_one.f, e1, Option.bind_some]
  exact ⟨_, _, _, rfl, b1⟩
theorem among_ex {s : List Int} {p : Int} (h : Int) (xs : List Int) (hs : curOk s) (hp : 0 ≤ p ∧ p ≤ 1000000) (hx : 1 ≤ xs.length ∧ xs.length ≤ 50000) : ∃ v p' h', spec_l1Cur_among.f s p h xs = some (v, p', h') ∧ (p ≤ p' ∧ p' ≤ p + 2) ∧ v ∈ xs := by
  obtain ⟨a, p1, h1, e1, b1, b2, b3⟩ := pick_ex (n := (xs.length : Int)) h hs hp (by omega)
  have b4 := b3 (by omega)
  simp only [spec_l1Cur_among.f, e1, Option.bind_some]
  rw [if_pos b2, if_pos b4]
  refine ⟨_, _, _, rfl, b1, ?_⟩
  obtain ⟨n, rfl⟩ := nat_of b2
  rw [rd_nat, List.getD_eq_getElem?_getD, List.getElem?_eq_getElem (by omega)]
  exact List.getElem_mem (by omega)
theorem gauge_ex {s : List Int} {p : Int} (h : Int) (hs : curOk s) (hp : 0 ≤ p ∧ p ≤ 900000) : ∃ a b c p' h', spec_l1Cur_gauge.f s p h = some (a, b, c, p', h') ∧ (p ≤ p' ∧ p' ≤ p + 10) ∧ (-1 ≤ a ∧ a ≤ 201) ∧ (-1 ≤ b ∧ b ≤ 201) ∧ (-1 ≤ c ∧ c ≤ 201) := by
  obtain ⟨v1, p1, h1, e1, b1, m1⟩ := among_ex h [1, 3, 10, 40, 75, 200] hs (p := p) (by omega) (by simp)
  obtain ⟨v2, p2, h2, e2, b2, m2⟩ := among_ex h1 [1, 4, 10, 50, 200] hs (p := p1) (by omega) (by simp)
  obtain ⟨v3, p3, h3, e3, b3, m3⟩ := among_ex h2 [0, 0, 5, 20, 200] hs (p := p2) (by omega) (by simp)
  obtain ⟨v4, p4, h4, e4, b4, _⟩ := pick_ex h3 hs (p := p3) (n := 32) (by omega) (by omega)
  obtain ⟨v5, p5, h5, e5, b5, m5⟩ := among_ex h4 [0, 201] hs (p := p4) (by omega) (by simp)
  obtain ⟨v6, p6, h6, e6, b6, m6⟩ := among_ex h4 [-1, 201] hs (p := p4) (by omega) (by simp)
  simp only [spec_l1Cur_gauge.f, e1, e2, e3, e4, e5, e6, Option.bind_some]
  simp at m1 m2 m3 m5 m6
  by_cases g0 : v4 = 0
  · rw [if_pos g0]; exact ⟨_, _, _, _, _, rfl, by omega, by omega, by omega, by omega⟩
  rw [if_neg g0]
  by_cases g1 : v4 = 1
  · rw [if_pos g1]; exact ⟨_, _, _, _, _, rfl, by omega, by omega, by omega, by omega⟩
  rw [if_neg g1]
  by_cases g2 : v4 = 2
  · rw [if_pos g2]; exact ⟨_, _, _, _, _, rfl, by omega, by omega, by omega, by omega⟩
  rw [if_neg g2]; exact ⟨_, _, _, _, _, rfl, by omega, by omega, by omega, by omega⟩
theorem plain_loop {s : List Int} (hs : curOk s) (W H : Nat) (hW : W ≤ 9 ∧ H ≤ 9) (B : Int) (hB : B ≤ 100000) : ∀ (n k i : Nat) (p h : Int) (l : List Int), i + n = W * H → n < k → l.length = i → (∀ x ∈ l, 0 ≤ x ∧ x ≤ 5) → 0 ≤ p → p ≤ B + 4 * i → ∃ l' p' h', spec_l1Cur_plain.l0 k (W : Int) (H : Int) (i : Int) s p h (W : Int) (H : Int) l = some ((W : Int), (H : Int), l', p', h') ∧ l'.length = W * H ∧ (∀ x ∈ l', 0 ≤ x ∧ x ≤ 5) ∧ p ≤ p' ∧ p' ≤ B + 4 * (W * H : Nat) := by
  have hm : W * H ≤ 81 := Nat.mul_le_mul hW.1 hW.2
  have hw : wrap64 ((W : Int) * (H : Int)) = ((W * H : Nat) : Int) := by rw [← Int.natCast_mul]; exact w64 (by omega) (by omega)
  generalize hWH : W * H = M at *
  intro n
  induction n with
  | zero =>
    intro k i p h l hi hk hl hx hp hpB
    obtain ⟨k, rfl, _⟩ := succ_of hk
    simp only [spec_l1Cur_plain.l0, hw]
    rw [if_neg (by omega)]
    exact ⟨_, _, _, rfl, by omega, hx, by omega, by omega⟩
  | succ n ih =>
    intro k i p h l hi hk hl hx hp hpB
    obtain ⟨k, rfl, hk⟩ := succ_of hk
    obtain ⟨v1, p1, h1, e1, b1, m1⟩ := among_ex h [0, 0, 0, 1, 1, 2, 5] hs (p := p) (by omega) (by simp)
    have hW1 : 0 < W := Nat.pos_of_ne_zero (fun h => by subst h; simp at hWH; omega)
    simp only [spec_l1Cur_plain.l0, hw, e1, Option.bind_some]
    simp at m1
    have hv : 0 ≤ v1 ∧ v1 ≤ 5 := by omega
    have happ : ∀ x : Int, (0 ≤ x ∧ x ≤ 5) → ∀ y ∈ l ++ [x], 0 ≤ y ∧ y ≤ 5 := by
      intro x hx2 y hy
      rcases List.mem_append.mp hy with h | h
      · exact hx y h
      · rw [List.mem_singleton] at h; subst h; exact hx2
    rw [if_pos (by omega)]
    by_cases g : (i : Int) ≥ W
    · rw [if_pos g]
      obtain ⟨b, p2, h2, e2, b2⟩ := one_ex h1 hs (p := p1) (n := 3) (by omega) (by omega)
      simp only [e2, Option.bind_some]
      cases b
      · simp only [Bool.false_eq_true, if_false]
        rw [if_pos (by omega), wstep (n := M) (by omega) (by omega)]
        obtain ⟨l', p', h', e, r1, r2, r3, r4⟩ := ih k (i + 1) p2 h2 (l ++ [v1]) (by omega) (by omega) (by rw [List.length_append, List.length_singleton, hl]) (happ v1 hv) (by omega) (by omega)
        exact ⟨l', p', h', e, r1, r2, by omega, r4⟩
      · simp only [if_true]
        rw [w64 (x := (i : Int) - W) (by omega) (by omega), if_pos (by omega), if_pos (by omega), if_pos (by omega), wstep (n := M) (by omega) (by omega)]
        have hlt : i - W < l.length := by omega
        have hr : 0 ≤ l.getD (i - W) 0 ∧ l.getD (i - W) 0 ≤ 5 := by
          refine hx _ ?_
          rw [List.getD_eq_getElem?_getD, List.getElem?_eq_getElem hlt]; exact List.getElem_mem hlt
        have er : rd l ((i : Int) - W) = l.getD (i - W) 0 := by
          rw [show (i : Int) - W = ((i - W : Nat) : Int) by omega, rd_nat]
        rw [er]
        obtain ⟨l', p', h', e, r1, r2, r3, r4⟩ := ih k (i + 1) p2 h2 (l ++ [l.getD (i - W) 0]) (by omega) (by omega) (by rw [List.length_append, List.length_singleton, hl]) (happ _ hr) (by omega) (by omega)
        exact ⟨l', p', h', e, r1, r2, by omega, r4⟩
    · rw [if_neg g, if_pos (by omega), wstep (n := M) (by omega) (by omega)]
      obtain ⟨l', p', h', e, r1, r2, r3, r4⟩ := ih k (i + 1) p1 h1 (l ++ [v1]) (by omega) (by omega) (by rw [List.length_append, List.length_singleton, hl]) (happ v1 hv) (by omega) (by omega)
      exact ⟨l', p', h', e, r1, r2, by omega, r4⟩
theorem plain_ex {k : Nat} {s : List Int} {p w h : Int} (c : Int) (hs : curOk s) (hk : 100 < k) (hp : 0 ≤ p ∧ p ≤ 100000) (hw : 0 ≤ w ∧ w ≤ 9) (hh : 0 ≤ h ∧ h ≤ 9) : ∃ l' p' h', spec_l1Cur_plain.f k s p c w h = some (w, h, l', p', h') ∧ (p ≤ p' ∧ p' ≤ p + 324) ∧ (l'.length : Int) = w * h ∧ (∀ x ∈ l', 0 ≤ x ∧ x ≤ 5) := by
  obtain ⟨W, rfl⟩ := nat_of hw.1
  obtain ⟨H, rfl⟩ := nat_of hh.1
  have hm : W * H ≤ 81 := Nat.mul_le_mul (show W ≤ 9 by omega) (show H ≤ 9 by omega)
  obtain ⟨l', p', h', e, r1, r2, r3, r4⟩ := plain_loop hs W H (by omega) p (by omega) (W * H) k 0 p c [] (by omega) (by omega) rfl (fun x hx => absurd hx (by simp)) (by omega) (by omega)
  refine ⟨l', p', h', e, by omega, by rw [r1, Int.natCast_mul], r2⟩
theorem chart_ex {k : Nat} {s : List Int} {p : Int} (c : Int) (hs : curOk s) (hk : 100 < k) (hp : 0 ≤ p ∧ p ≤ 10000) : ∃ w h l' p' h', spec_l1Cur_chart.f k s p c = some (w, h, l', p', h') ∧ (p ≤ p' ∧ p' ≤ p + 2000) ∧ (0 ≤ w ∧ w ≤ 9) ∧ (0 ≤ h ∧ h ≤ 9) ∧ l'.length ≤ 100 ∧ (∀ x ∈ l', -1 ≤ x ∧ x ≤ 6) := by
  obtain ⟨w, p1, h1, e1, b1, m1⟩ := among_ex c [1, 2, 3, 3, 4, 4, 5, 6, 8] hs (p := p) (by omega) (by simp)
  obtain ⟨h, p2, h2, e2, b2, m2⟩ := among_ex h1 [1, 2, 3, 3, 4, 5, 8] hs (p := p1) (by omega) (by simp)
  simp at m1 m2
  have hw : 1 ≤ w ∧ w ≤ 8 := by omega
  have hh : 1 ≤ h ∧ h ≤ 8 := by omega
  clear m1 m2
  obtain ⟨l, p3, h3, e3, b3, c3, x3⟩ := plain_ex h2 hs hk (p := p2) (w := w) (h := h) (by omega) (by omega) (by omega)
  obtain ⟨v4, p4, h4, e4, b4, _⟩ := pick_ex h3 hs (p := p3) (n := 40) (by omega) (by omega)
  have hb := mul_bd (a := w) (b := h) (A := 8) (B := 8) (by omega) (by omega) (by omega) (by omega)
  have hpos : 0 < w * h := Int.mul_pos (by omega) (by omega)
  obtain ⟨v5, p5, h5, e5, b5, m5, m6⟩ := pick_ex h4 hs (p := p4) (n := (l.length : Int)) (by omega) (by omega)
  have m7 := m6 (by omega)
  obtain ⟨v6, p6, h6, e6, b6, m8⟩ := among_ex h5 [-1, 6] hs (p := p5) (by omega) (by simp)
  obtain ⟨v7, p7, h7, e7, b7, m9⟩ := among_ex h4 [0, 9] hs (p := p4) (by omega) (by simp)
  simp at m8 m9
  obtain ⟨l8, p8, h8, e8, b8, c8, x8⟩ := plain_ex h7 hs hk (p := p7) (w := v7) (h := 1) (by omega) (by omega) (by omega)
  simp only [spec_l1Cur_chart.f, e1, e2, e3, e4, e5, e6, e7, e8, Option.bind_some]
  by_cases g0 : v4 = 0
  · rw [if_pos g0, if_pos m5, if_pos m7]
    refine ⟨_, _, _, _, _, rfl, by omega, by omega, by omega, by rw [List.length_set]; omega, fun x hx => ?_⟩
    rcases List.mem_or_eq_of_mem_set hx with h | rfl
    · have := x3 x h; omega
    · omega
  rw [if_neg g0]
  by_cases g1 : v4 = 1
  · rw [if_pos g1, if_pos (by omega)]
    refine ⟨_, _, _, _, _, rfl, by omega, by omega, by omega, by rw [List.length_append, List.length_singleton]; omega, fun x hx => ?_⟩
    rcases List.mem_append.mp hx with h | h
    · have := x3 x h; omega
    · rw [List.mem_singleton] at h; omega
  rw [if_neg g1]
  by_cases g2 : v4 = 2
  · rw [if_pos g2]
    refine ⟨_, _, _, _, _, rfl, by omega, by omega, by omega, by omega, fun x hx => ?_⟩
    have := x8 x hx; omega
  rw [if_neg g2]
  refine ⟨_, _, _, _, _, rfl, by omega, by omega, by omega, by omega, fun x hx => ?_⟩
  have := x3 x hx; omega

end Go.Proofs.Ytgohfbelppokcaa.Pure

-- XimplareAllintimplisLengthF100000
namespace Go.Proofs.Ytgohfbelppokcaa.X
open Ho (bS eS)
open Go.RowKit Go.Proofs.YtgohfbelppokcaaW.PrintWords Go.Proofs.YtgohfbelppokcaaW.PrintLast Go.Proofs.YtgohfbelppokcaaW.PrintMore
attribute [local go_sem] max2_int min2_int max_two min_two max_three min_three max_four min_four   -- for this text's walks alone
set_option linter.unusedVariables false
set_option linter.unusedSimpArgs false

/-! ### impl_areAll_int__impl_isLength: function 100000 -/
def impl_areAll_int__impl_isLength.f (l0 : List Int)  : Option Bool := Ho.allO (fun x_ => impl_isLength.f x_) l0
theorem impl_areAll_int__impl_isLength.calls (A0 : Option Addr) (c0 : Nat) (l0 : List Int)  (r : Bool) (w : World) (hr0 : Kd.C (Kd.int .i64) w A0 l0.length l0) (hc0 : l0.length ≤ c0) (h : impl_areAll_int__impl_isLength.f l0 = some r) :
    Calls Try.prog 52 #[.slice A0 l0.length c0, .func (.func 50) #[] #[]] w fun e w' => e = .returned (.bool r) ∧ Below w.heap.size w w' := by
  have ec : ∀ args w, (callFunc 50 args).run Try.prog w = .ok (.enter 50 args) w := fun args w => by kernel_rfl
  have hp : Ho.PredO Try.prog 50 #[] (Value.int .i64) (fun x_ => impl_isLength.f x_) w := ⟨fun W x_ b_ hB_ hx_ => (impl_isLength.calls x_ b_ W  hx_).mono fun _ _ h_ => ⟨h_.1, h_.2.below⟩⟩
  exact ho_all52 _ 50 _ ec w hp _ _ _ _ hr0 hc0 h

end Go.Proofs.Ytgohfbelppokcaa.X

-- XimplIsMeasureF24
namespace Go.Proofs.Ytgohfbelppokcaa.X
open Ho (bS eS)
open Go.RowKit Go.Proofs.YtgohfbelppokcaaW.PrintWords Go.Proofs.YtgohfbelppokcaaW.PrintLast Go.Proofs.YtgohfbelppokcaaW.PrintMore
attribute [local go_sem] max2_int min2_int max_two min_two max_three min_three max_four min_four   -- for this text's walks alone
set_option linter.unusedVariables false
set_option linter.unusedSimpArgs false

attribute [local go_sem ↓] Ho.isSome_setCell_   -- a store leaves all places there
/-! ### impl_IsMeasure: function 24 -/
def impl_IsMeasure.f (a0_0 : Int) (a0_1 : Int) (a0_2 : Int) (a0_3 : Int) : Option (Bool) := (impl_areAll_int__impl_isLength.f (([a0_0, a0_1, a0_2, a0_3] : List Int))).bind fun t105 => (some t105)
set_option maxHeartbeats 8000000 in
set_option maxRecDepth 100000 in
theorem impl_IsMeasure.calls (a0_0 : Int) (a0_1 : Int) (a0_2 : Int) (a0_3 : Int) (r : Bool) (w : World) (h : impl_IsMeasure.f a0_0 a0_1 a0_2 a0_3 = some r) :
    Calls Try.prog 24 #[.agg #[.int .i64 a0_0, .int .i64 a0_1, .int .i64 a0_2, .int .i64 a0_3]] w fun e w' => e = .returned (.bool r) ∧ Below w.heap.size w w' := by
  have hu36 := Try.underlying36
  have HB := Aside0.mk (Below.refl w.heap.size w)
  have H : ((impl_areAll_int__impl_isLength.f (([a0_0, a0_1, a0_2, a0_3] : List Int))).bind fun t105 => (some t105)) = some r := h
  clear h
  obtain ⟨y102, hy102⟩ : ∃ y_ : List Int, y_ = (([a0_0, a0_1, a0_2, a0_3] : List Int)) := ⟨_, rfl⟩
  replace H : ((impl_areAll_int__impl_isLength.f y102).bind fun t105 => (some t105)) = some r := by first | (rw [hy102]; with_reducible exact H) | (have H2_ := (Option.bind_some _ _).symm.trans H; rw [hy102]; with_reducible exact H2_) | (have H2_ := (Option.bind_some _ _).symm.trans H; with_reducible exact H2_) | with_reducible exact H | (rw [hy102]; exact H) | exact H
  have Ny102 := Aside0.mk hy102
  clear hy102
  replace H := Option.bind_eq_some_iff.mp H
  obtain ⟨t105, A20, H⟩ := H
  replace H : (some t105) = some r := H
  have A2 := Aside0.mk A20
  clear A20
  obtain rfl := Option.some.inj H
  go_enter Try.func24, Try.ntmps24
  go_wp2_with (first | ((with_reducible refine gate_dst (N := 1) rfl ?_); refine box_event ?hg (N := 1) ?hd (cs := #[.int .i64 a0_0, .int .i64 a0_1, .int .i64 a0_2, .int .i64 a0_3]) (t := 36) ?hr ?_; (case hd => rfl); (case hg => rfl); (case hr => first | (go_simp; done) | (go_simp; rfl)); intro gb101 hg w3 hbox hb; have n0_ := Aside0.mk (below_step (by exact eS HB.out) hb); have n1_ := Aside0.mk (hbox); have n2_ := Aside0.mk ((by rw [hg]; exact (below_size (by exact eS HB.out)) : w.heap.size ≤ gb101)); have n3_ := Aside0.mk ((by rw [hg]; exact (below_size (by exact eS HB.out)) : w.heap.size ≤ gb101)); clear HB; have HB := n0_; have BK101 := n1_; have GW101 := n2_; have GE101 := n3_; clear n0_ n1_ n2_ n3_; clear hb hbox hg; have hcz4_0 : w3.cell? ⟨gb101, 0, none⟩ = some (.int .i64 a0_0) := (blk_cell BK101.out 0).trans rfl; have hcz4_1 : w3.cell? ⟨gb101, 1, none⟩ = some (.int .i64 a0_1) := (blk_cell BK101.out 1).trans rfl; have hcz4_2 : w3.cell? ⟨gb101, 2, none⟩ = some (.int .i64 a0_2) := (blk_cell BK101.out 2).trans rfl; have hcz4_3 : w3.cell? ⟨gb101, 3, none⟩ = some (.int .i64 a0_3) := (blk_cell BK101.out 3).trans rfl; have hfz4_0 := blk_frozen BK101.out 0; have hfz4_1 := blk_frozen BK101.out 1; have hfz4_2 := blk_frozen BK101.out 2; have hfz4_3 := blk_frozen BK101.out 3) | ((with_reducible refine gate_dst (N := 11) rfl ?_); refine Kd.R_lit (Kd.int .i64) _ 3 ?hg (N := 11) ?hd (xs := ([a0_0, a0_1, a0_2, a0_3] : List Int)) (inner := [.int .i64 a0_0, .int .i64 a0_1, .int .i64 a0_2, .int .i64 a0_3]) (ok := fun _ => True) (okp := fun _ => True) ?hr ?hp (fun _ hk => hk) trivial (Below.refl _ _) (Nat.le_refl _) (by simp) ?_; (case hd => rfl); (case hg => rfl); (case hr => first | (go_simp; done) | (go_simp; rfl)); (case hp => exact (Reps.one (show Kd.M (Kd.int .i64) _ _ _ a0_0 [.int .i64 a0_0] from rfl) (Reps.one (show Kd.M (Kd.int .i64) _ _ _ a0_1 [.int .i64 a0_1] from rfl) (Reps.one (show Kd.M (Kd.int .i64) _ _ _ a0_2 [.int .i64 a0_2] from rfl) (Reps.one (show Kd.M (Kd.int .i64) _ _ _ a0_3 [.int .i64 a0_3] from rfl) (Reps.none _ _)))))); intro v103 w5 ho6 hb hg_ hnew_; clear hg_ hnew_; (first | rw [← Ny102.out] at ho6 | (simp only [Int.reduceToNat] at ho6; rw [← Ny102.out] at ho6)); have n0_ := Aside0.mk (Kd.R_lower ho6 (below_size (by exact eS HB.out))); have n1_ := Aside0.mk (blk_below (bS BK101.out) hb); have n2_ := Aside0.mk (below_step (by exact eS HB.out) hb); clear BK101; clear HB; have HO104 := n0_; have BK101 := n1_; have HB := n2_; clear n0_ n1_ n2_; clear hb ho6; obtain ⟨Ao7, co7, eo7⟩ := Kd.R_slice HO104.out; subst eo7) | ((with_reducible refine gate_callee (f := 52) rfl ?_); refine goesL_ (some 12) rfl rfl Try.func52 (by kernel_rfl) rfl #[.slice Ao7 y102.length co7, .func (.func 50) #[] #[]] rfl (by (try simp only [List.map_toArray, List.map_cons, List.map_nil]); first | done | rfl | (simp only [List.length_drop, List.length_take]; rfl)) ?_; (refine (impl_areAll_int__impl_isLength.calls _ _ y102  t105 _ ?side1 ?side2 A2.out).mono ?_); (case side1 => repeat (first | exact (Kd.R_reads' HO104.out).2.2 | (with_reducible refine Kd.C_alloc ?_ _) | (with_reducible refine Kd.C_drewN ?_ _) | (with_reducible refine Kd.C_drew ?_))); (case side2 => exact (Kd.R_reads' HO104.out).2.1); rintro e w8 ⟨rfl, hb⟩; refine ⟨_, rfl, ?_⟩; have n0_ := Aside0.mk (Kd.R_below (by exact Ho.RS <| HO104.out) hb); have n1_ := Aside0.mk (blk_below (bS BK101.out) hb); have n2_ := Aside0.mk (below_step (by exact eS HB.out) hb); clear HO104; clear BK101; clear HB; have HO104 := n0_; have BK101 := n1_; have HB := n2_; clear n0_ n1_ n2_; (try clear hb); (try clear hb2); (try clear hk); (try clear hi)))
  go_ret
  exact ⟨by first | rfl | (simp [errW_none, errW_some] <;> rfl) | (simp [*, errW_none, errW_some] <;> rfl), by exact eS HB.out⟩

end Go.Proofs.Ytgohfbelppokcaa.X

-- Xspecl15MeasureF51
namespace Go.Proofs.Ytgohfbelppokcaa.X
open Ho (bS eS)
open Go.RowKit Go.Proofs.YtgohfbelppokcaaW.PrintWords Go.Proofs.YtgohfbelppokcaaW.PrintLast Go.Proofs.YtgohfbelppokcaaW.PrintMore
attribute [local go_sem] max2_int min2_int max_two min_two max_three min_three max_four min_four   -- for this text's walks alone
set_option linter.unusedVariables false
set_option linter.unusedSimpArgs false

attribute [local go_sem ↓] Ho.isSome_setCell_   -- a store leaves all places there
/-! ### spec_l15Measure: function 51 -/
def spec_l15Measure.f (a0_0 : Int) (a0_1 : Int) (a0_2 : Int) (a0_3 : Int) : Option (Bool) := (spec_l15Length.f a0_0).bind fun t102 => (if t102 = true then ((spec_l15Length.f a0_1).bind fun t103 => (if t103 = true then ((spec_l15Length.f a0_2).bind fun t104 => (if t104 = true then ((spec_l15Length.f a0_3).bind fun t105 => (some t105)) else (some false))) else (some false))) else (some false))
set_option maxHeartbeats 8000000 in
set_option maxRecDepth 100000 in
theorem spec_l15Measure.calls (a0_0 : Int) (a0_1 : Int) (a0_2 : Int) (a0_3 : Int) (r : Bool) (w : World) (h : spec_l15Measure.f a0_0 a0_1 a0_2 a0_3 = some r) :
    Calls Try.prog 51 #[.agg #[.int .i64 a0_0, .int .i64 a0_1, .int .i64 a0_2, .int .i64 a0_3]] w fun e w' => e = .returned (.bool r) ∧ Below w.heap.size w w' := by
  have hu36 := Try.underlying36
  have HB := Aside0.mk (Below.refl w.heap.size w)
  have H : ((spec_l15Length.f a0_0).bind fun t102 => (if t102 = true then ((spec_l15Length.f a0_1).bind fun t103 => (if t103 = true then ((spec_l15Length.f a0_2).bind fun t104 => (if t104 = true then ((spec_l15Length.f a0_3).bind fun t105 => (some t105)) else (some false))) else (some false))) else (some false))) = some r := h
  clear h
  replace H := Option.bind_eq_some_iff.mp H
  obtain ⟨t102, A20, H⟩ := H
  replace H : (if t102 = true then ((spec_l15Length.f a0_1).bind fun t103 => (if t103 = true then ((spec_l15Length.f a0_2).bind fun t104 => (if t104 = true then ((spec_l15Length.f a0_3).bind fun t105 => (some t105)) else (some false))) else (some false))) else (some false)) = some r := H
  have A2 := Aside0.mk A20
  clear A20
  by_cases c3 : t102 = true
  · subst c3
    have H1 : ((spec_l15Length.f a0_1).bind fun t103 => (if t103 = true then ((spec_l15Length.f a0_2).bind fun t104 => (if t104 = true then ((spec_l15Length.f a0_3).bind fun t105 => (some t105)) else (some false))) else (some false))) = some r := by rw [if_pos rfl] at H; exact H
    clear H
    have H := H1
    clear H1
    replace H := Option.bind_eq_some_iff.mp H
    obtain ⟨t103, A40, H⟩ := H
    replace H : (if t103 = true then ((spec_l15Length.f a0_2).bind fun t104 => (if t104 = true then ((spec_l15Length.f a0_3).bind fun t105 => (some t105)) else (some false))) else (some false)) = some r := H
    have A4 := Aside0.mk A40
    clear A40
    by_cases c5 : t103 = true
    · subst c5
      have H1 : ((spec_l15Length.f a0_2).bind fun t104 => (if t104 = true then ((spec_l15Length.f a0_3).bind fun t105 => (some t105)) else (some false))) = some r := by rw [if_pos rfl] at H; exact H
      clear H
      have H := H1
      clear H1
      replace H := Option.bind_eq_some_iff.mp H
      obtain ⟨t104, A60, H⟩ := H
      replace H : (if t104 = true then ((spec_l15Length.f a0_3).bind fun t105 => (some t105)) else (some false)) = some r := H
      have A6 := Aside0.mk A60
      clear A60
      by_cases c7 : t104 = true
      · subst c7
        have H1 : ((spec_l15Length.f a0_3).bind fun t105 => (some t105)) = some r := by rw [if_pos rfl] at H; exact H
        clear H
        have H := H1
        clear H1
        replace H := Option.bind_eq_some_iff.mp H
        obtain ⟨t105, A80, H⟩ := H
        replace H : (some t105) = some r := H
        have A8 := Aside0.mk A80
        clear A80
        obtain rfl := Option.some.inj H
        go_enter Try.func51, Try.ntmps51
        go_wp2_with (first | ((with_reducible refine gate_dst (N := 1) rfl ?_); refine box_event ?hg (N := 1) ?hd (cs := #[.int .i64 a0_0, .int .i64 a0_1, .int .i64 a0_2, .int .i64 a0_3]) (t := 36) ?hr ?_; (case hd => rfl); (case hg => rfl); (case hr => first | (go_simp; done) | (go_simp; rfl)); intro gb101 hg w9 hbox hb; have n0_ := Aside0.mk (below_step (by exact eS HB.out) hb); have n1_ := Aside0.mk (hbox); have n2_ := Aside0.mk ((by rw [hg]; exact (below_size (by exact eS HB.out)) : w.heap.size ≤ gb101)); have n3_ := Aside0.mk ((by rw [hg]; exact (below_size (by exact eS HB.out)) : w.heap.size ≤ gb101)); clear HB; have HB := n0_; have BK101 := n1_; have GW101 := n2_; have GE101 := n3_; clear n0_ n1_ n2_ n3_; clear hb hbox hg; have hcz10_0 : w9.cell? ⟨gb101, 0, none⟩ = some (.int .i64 a0_0) := (blk_cell BK101.out 0).trans rfl; have hcz10_1 : w9.cell? ⟨gb101, 1, none⟩ = some (.int .i64 a0_1) := (blk_cell BK101.out 1).trans rfl; have hcz10_2 : w9.cell? ⟨gb101, 2, none⟩ = some (.int .i64 a0_2) := (blk_cell BK101.out 2).trans rfl; have hcz10_3 : w9.cell? ⟨gb101, 3, none⟩ = some (.int .i64 a0_3) := (blk_cell BK101.out 3).trans rfl; have hfz10_0 := blk_frozen BK101.out 0; have hfz10_1 := blk_frozen BK101.out 1; have hfz10_2 := blk_frozen BK101.out 2; have hfz10_3 := blk_frozen BK101.out 3) | ((with_reducible refine gate_callee (f := 49) rfl ?_); refine goesL_ (some 5) rfl rfl Try.func49 (by kernel_rfl) rfl #[.int .i64 a0_0] rfl (by (try simp only [List.map_toArray, List.map_cons, List.map_nil]); first | done | rfl | (simp only [List.length_drop, List.length_take]; rfl)) ?_; (with_reducible refine (spec_l15Length.calls a0_0 true _ A2.out).mono ?_); rintro e w' ⟨rfl, ⟨nd, rfl⟩⟩; refine ⟨_, rfl, ?_⟩) | (go_at_call 49; (with_reducible refine (spec_l15Length.calls a0_1 true _ A4.out).mono ?_); rintro e w' ⟨rfl, ⟨nd, rfl⟩⟩) | (go_at_call 49; (with_reducible refine (spec_l15Length.calls a0_2 true _ A6.out).mono ?_); rintro e w' ⟨rfl, ⟨nd, rfl⟩⟩) | (go_at_call 49; (with_reducible refine (spec_l15Length.calls a0_3 t105 _ A8.out).mono ?_); rintro e w' ⟨rfl, ⟨nd, rfl⟩⟩))
        go_ret
        exact ⟨by first | rfl | (simp [errW_none, errW_some] <;> rfl) | (simp [*, errW_none, errW_some] <;> rfl), by exact eS HB.out⟩
      · replace c7 := Bool.eq_false_iff.mpr c7
        subst c7
        have H1 : (some false) = some r := by rw [if_neg (show ¬ (false = true) by decide)] at H; exact H
        clear H
        have H := H1
        clear H1
        obtain rfl := Option.some.inj H
        go_enter Try.func51, Try.ntmps51
        go_wp2_with (first | ((with_reducible refine gate_dst (N := 1) rfl ?_); refine box_event ?hg (N := 1) ?hd (cs := #[.int .i64 a0_0, .int .i64 a0_1, .int .i64 a0_2, .int .i64 a0_3]) (t := 36) ?hr ?_; (case hd => rfl); (case hg => rfl); (case hr => first | (go_simp; done) | (go_simp; rfl)); intro gb101 hg w11 hbox hb; have n0_ := Aside0.mk (below_step (by exact eS HB.out) hb); have n1_ := Aside0.mk (hbox); have n2_ := Aside0.mk ((by rw [hg]; exact (below_size (by exact eS HB.out)) : w.heap.size ≤ gb101)); have n3_ := Aside0.mk ((by rw [hg]; exact (below_size (by exact eS HB.out)) : w.heap.size ≤ gb101)); clear HB; have HB := n0_; have BK101 := n1_; have GW101 := n2_; have GE101 := n3_; clear n0_ n1_ n2_ n3_; clear hb hbox hg; have hcz12_0 : w11.cell? ⟨gb101, 0, none⟩ = some (.int .i64 a0_0) := (blk_cell BK101.out 0).trans rfl; have hcz12_1 : w11.cell? ⟨gb101, 1, none⟩ = some (.int .i64 a0_1) := (blk_cell BK101.out 1).trans rfl; have hcz12_2 : w11.cell? ⟨gb101, 2, none⟩ = some (.int .i64 a0_2) := (blk_cell BK101.out 2).trans rfl; have hcz12_3 : w11.cell? ⟨gb101, 3, none⟩ = some (.int .i64 a0_3) := (blk_cell BK101.out 3).trans rfl; have hfz12_0 := blk_frozen BK101.out 0; have hfz12_1 := blk_frozen BK101.out 1; have hfz12_2 := blk_frozen BK101.out 2; have hfz12_3 := blk_frozen BK101.out 3) | ((with_reducible refine gate_callee (f := 49) rfl ?_); refine goesL_ (some 5) rfl rfl Try.func49 (by kernel_rfl) rfl #[.int .i64 a0_0] rfl (by (try simp only [List.map_toArray, List.map_cons, List.map_nil]); first | done | rfl | (simp only [List.length_drop, List.length_take]; rfl)) ?_; (with_reducible refine (spec_l15Length.calls a0_0 true _ A2.out).mono ?_); rintro e w' ⟨rfl, ⟨nd, rfl⟩⟩; refine ⟨_, rfl, ?_⟩) | (go_at_call 49; (with_reducible refine (spec_l15Length.calls a0_1 true _ A4.out).mono ?_); rintro e w' ⟨rfl, ⟨nd, rfl⟩⟩) | (go_at_call 49; (with_reducible refine (spec_l15Length.calls a0_2 false _ A6.out).mono ?_); rintro e w' ⟨rfl, ⟨nd, rfl⟩⟩))
        go_ret
        exact ⟨by first | rfl | (simp [errW_none, errW_some] <;> rfl) | (simp [*, errW_none, errW_some] <;> rfl), by exact eS HB.out⟩
    · replace c5 := Bool.eq_false_iff.mpr c5
      subst c5
      have H1 : (some false) = some r := by rw [if_neg (show ¬ (false = true) by decide)] at H; exact H
      clear H
      have H := H1
      clear H1
      obtain rfl := Option.some.inj H
      go_enter Try.func51, Try.ntmps51
      go_wp2_with (first | ((with_reducible refine gate_dst (N := 1) rfl ?_); refine box_event ?hg (N := 1) ?hd (cs := #[.int .i64 a0_0, .int .i64 a0_1, .int .i64 a0_2, .int .i64 a0_3]) (t := 36) ?hr ?_; (case hd => rfl); (case hg => rfl); (case hr => first | (go_simp; done) | (go_simp; rfl)); intro gb101 hg w13 hbox hb; have n0_ := Aside0.mk (below_step (by exact eS HB.out) hb); have n1_ := Aside0.mk (hbox); have n2_ := Aside0.mk ((by rw [hg]; exact (below_size (by exact eS HB.out)) : w.heap.size ≤ gb101)); have n3_ := Aside0.mk ((by rw [hg]; exact (below_size (by exact eS HB.out)) : w.heap.size ≤ gb101)); clear HB; have HB := n0_; have BK101 := n1_; have GW101 := n2_; have GE101 := n3_; clear n0_ n1_ n2_ n3_; clear hb hbox hg; have hcz14_0 : w13.cell? ⟨gb101, 0, none⟩ = some (.int .i64 a0_0) := (blk_cell BK101.out 0).trans rfl; have hcz14_1 : w13.cell? ⟨gb101, 1, none⟩ = some (.int .i64 a0_1) := (blk_cell BK101.out 1).trans rfl; have hcz14_2 : w13.cell? ⟨gb101, 2, none⟩ = some (.int .i64 a0_2) := (blk_cell BK101.out 2).trans rfl; have hcz14_3 : w13.cell? ⟨gb101, 3, none⟩ = some (.int .i64 a0_3) := (blk_cell BK101.out 3).trans rfl; have hfz14_0 := blk_frozen BK101.out 0; have hfz14_1 := blk_frozen BK101.out 1; have hfz14_2 := blk_frozen BK101.out 2; have hfz14_3 := blk_frozen BK101.out 3) | ((with_reducible refine gate_callee (f := 49) rfl ?_); refine goesL_ (some 5) rfl rfl Try.func49 (by kernel_rfl) rfl #[.int .i64 a0_0] rfl (by (try simp only [List.map_toArray, List.map_cons, List.map_nil]); first | done | rfl | (simp only [List.length_drop, List.length_take]; rfl)) ?_; (with_reducible refine (spec_l15Length.calls a0_0 true _ A2.out).mono ?_); rintro e w' ⟨rfl, ⟨nd, rfl⟩⟩; refine ⟨_, rfl, ?_⟩) | (go_at_call 49; (with_reducible refine (spec_l15Length.calls a0_1 false _ A4.out).mono ?_); rintro e w' ⟨rfl, ⟨nd, rfl⟩⟩))
      go_ret
      exact ⟨by first | rfl | (simp [errW_none, errW_some] <;> rfl) | (simp [*, errW_none, errW_some] <;> rfl), by exact eS HB.out⟩
  · replace c3 := Bool.eq_false_iff.mpr c3
    subst c3
    have H1 : (some false) = some r := by rw [if_neg (show ¬ (false = true) by decide)] at H; exact H
    clear H
    have H := H1
    clear H1
    obtain rfl := Option.some.inj H
    go_enter Try.func51, Try.ntmps51
    go_wp2_with (first | ((with_reducible refine gate_dst (N := 1) rfl ?_); refine box_event ?hg (N := 1) ?hd (cs := #[.int .i64 a0_0, .int .i64 a0_1, .int .i64 a0_2, .int .i64 a0_3]) (t := 36) ?hr ?_; (case hd => rfl); (case hg => rfl); (case hr => first | (go_simp; done) | (go_simp; rfl)); intro gb101 hg w15 hbox hb; have n0_ := Aside0.mk (below_step (by exact eS HB.out) hb); have n1_ := Aside0.mk (hbox); have n2_ := Aside0.mk ((by rw [hg]; exact (below_size (by exact eS HB.out)) : w.heap.size ≤ gb101)); have n3_ := Aside0.mk ((by rw [hg]; exact (below_size (by exact eS HB.out)) : w.heap.size ≤ gb101)); clear HB; have HB := n0_; have BK101 := n1_; have GW101 := n2_; have GE101 := n3_; clear n0_ n1_ n2_ n3_; clear hb hbox hg; have hcz16_0 : w15.cell? ⟨gb101, 0, none⟩ = some (.int .i64 a0_0) := (blk_cell BK101.out 0).trans rfl; have hcz16_1 : w15.cell? ⟨gb101, 1, none⟩ = some (.int .i64 a0_1) := (blk_cell BK101.out 1).trans rfl; have hcz16_2 : w15.cell? ⟨gb101, 2, none⟩ = some (.int .i64 a0_2) := (blk_cell BK101.out 2).trans rfl; have hcz16_3 : w15.cell? ⟨gb101, 3, none⟩ = some (.int .i64 a0_3) := (blk_cell BK101.out 3).trans rfl; have hfz16_0 := blk_frozen BK101.out 0; have hfz16_1 := blk_frozen BK101.out 1; have hfz16_2 := blk_frozen BK101.out 2; have hfz16_3 := blk_frozen BK101.out 3) | ((with_reducible refine gate_callee (f := 49) rfl ?_); refine goesL_ (some 5) rfl rfl Try.func49 (by kernel_rfl) rfl #[.int .i64 a0_0] rfl (by (try simp only [List.map_toArray, List.map_cons, List.map_nil]); first | done | rfl | (simp only [List.length_drop, List.length_take]; rfl)) ?_; (with_reducible refine (spec_l15Length.calls a0_0 false _ A2.out).mono ?_); rintro e w' ⟨rfl, ⟨nd, rfl⟩⟩; refine ⟨_, rfl, ?_⟩))
    go_ret
    exact ⟨by first | rfl | (simp [errW_none, errW_some] <;> rfl) | (simp [*, errW_none, errW_some] <;> rfl), by exact eS HB.out⟩

end Go.Proofs.Ytgohfbelppokcaa.X

-- Qmeasure
namespace Go.Proofs.Ytgohfbelppokcaa.Pure
open Go Go.RowKit Go.Proofs Go.Proofs.Ytgohfbelppokcaa.X Go.Proofs.YtgohfbelppokcaaW.PrintWords Go.Proofs.YtgohfbelppokcaaW.PrintLast
set_option linter.unusedVariables false
set_option linter.unusedSimpArgs false

def lengthB (a : Int) : Bool := decide (1 ≤ a ∧ a ≤ 20000)
def measureB (a b c d : Int) : Bool := lengthB a && (lengthB b && (lengthB c && lengthB d))
theorem length_of {a : Int} (h : lengthB a = true) : 1 ≤ a ∧ a ≤ 20000 := by simpa [lengthB] using h
theorem measure_of {a b c d : Int} (h : measureB a b c d = true) : (1 ≤ a ∧ a ≤ 20000) ∧ (1 ≤ b ∧ b ≤ 20000) ∧ (1 ≤ c ∧ c ≤ 20000) ∧ (1 ≤ d ∧ d ≤ 20000) := by
  simp only [measureB, Bool.and_eq_true] at h
  exact ⟨length_of h.1, length_of h.2.1, length_of h.2.2.1, length_of h.2.2.2⟩
theorem l15Length_eq (a : Int) : spec_l15Length.f a = some (lengthB a) := by
  simp only [spec_l15Length.f, l1In_eq, Option.bind_some, lengthB]
theorem isLength_eq (a : Int) : impl_isLength.f a = some (lengthB a) := by
  simp only [impl_isLength.f, in_eq, Option.bind_some, lengthB]
theorem l15Measure_eq (a b c d : Int) : spec_l15Measure.f a b c d = some (measureB a b c d) := by
  simp only [spec_l15Measure.f, l15Length_eq, Option.bind_some, ite_sf, measureB]
theorem IsMeasure_eq (a b c d : Int) : impl_IsMeasure.f a b c d = some (measureB a b c d) := by
  simp only [impl_IsMeasure.f, impl_areAll_int__impl_isLength.f, Ho.allO_eq (q := lengthB) (fun x _ => isLength_eq x), Option.bind_some, measureB]
  simp

end Go.Proofs.Ytgohfbelppokcaa.Pure

-- Qknots
namespace Go.Proofs.Ytgohfbelppokcaa.Pure
open Go Go.RowKit Go.Proofs Go.Proofs.Ytgohfbelppokcaa.X Go.Proofs.YtgohfbelppokcaaW.PrintWords Go.Proofs.YtgohfbelppokcaaW.PrintLast
set_option linter.unusedVariables false
set_option linter.unusedSimpArgs false

theorem mulB {x a X A : Int} (h1 : -X ≤ x) (h2 : x ≤ X) (h3 : 0 ≤ a) (h4 : a ≤ A) : -(X * A) ≤ x * a ∧ x * a ≤ X * A := by
  rcases Int.le_total 0 x with h | h
  · have := mul_bd h h2 h3 h4
    omega
  · have := mul_bd (a := -x) (b := a) (A := X) (B := A) (by omega) (by omega) h3 h4
    rw [Int.neg_mul] at this
    omega
theorem tdiv100 {p B : Int} (h1 : -B ≤ p) (h2 : p ≤ B) : -B ≤ Int.tdiv p 100 ∧ Int.tdiv p 100 ≤ B ∧ (p ≤ 99 → Int.tdiv p 100 < 1) := by
  rw [tdivE p 100 (by omega)]
  split <;> omega
def knotsM (a b e w l : Int) : Int × Int × Bool :=
  if gaugeB a b e && (lengthB w && lengthB l) then
    (if Int.tdiv ((w - 2 * e) * a) 100 < 1 then (0, 0, false) else if Int.tdiv ((l - 2 * e) * b) 100 < 1 then (0, 0, false) else (Int.tdiv ((w - 2 * e) * a) 100, Int.tdiv ((l - 2 * e) * b) 100, true))
  else (0, 0, false)
theorem knots_w {e w a : Int} (he : 0 ≤ e ∧ e ≤ 200) (hw : 1 ≤ w ∧ w ≤ 20000) (ha : 1 ≤ a ∧ a ≤ 200) : wrap64 (2 * e) = 2 * e ∧ wrap64 (Int.tdiv (wrap64 ((wrap64 (w - (wrap64 (2 * e)))) * a)) 100) = Int.tdiv ((w - 2 * e) * a) 100 ∧ (w < 2 * e → Int.tdiv ((w - 2 * e) * a) 100 < 1) := by
  have h1 : wrap64 (2 * e) = 2 * e := w64 (by omega) (by omega)
  have hb := mulB (x := w - 2 * e) (a := a) (X := 20000) (A := 200) (by omega) (by omega) (by omega) (by omega)
  have ht := tdiv100 (B := 4000000) (by omega) (by omega : (w - 2 * e) * a ≤ 4000000)
  refine ⟨h1, ?_, fun h => ?_⟩
  · rw [h1, w64 (x := w - 2 * e) (by omega) (by omega), w64 (x := (w - 2 * e) * a) (by omega) (by omega), w64 (x := Int.tdiv ((w - 2 * e) * a) 100) (by omega) (by omega)]
  · refine ht.2.2 ?_
    have : (w - 2 * e) * a ≤ 0 := Int.mul_nonpos_of_nonpos_of_nonneg (by omega) (by omega)
    omega
theorem knotsS_eq {k : Nat} (a b e w l : Int) : spec_KnotsForSize.f (k + 1) a b e w l = some (knotsM a b e w l) := by
  simp only [spec_KnotsForSize.f, spec_KnotsForSize.j0, l15Gauge_eq, l15Length_eq, Option.bind_some, knotsM]
  cases hg : gaugeB a b e
  · simp
  cases hw : lengthB w
  · simp
  cases hl : lengthB l
  · simp
  have := gauge_of hg; have hw := length_of hw; have hl := length_of hl
  obtain ⟨h0, h1, h2⟩ := knots_w (e := e) (w := w) (a := a) (by omega) hw (by omega)
  obtain ⟨_, h3, h4⟩ := knots_w (e := e) (w := l) (a := b) (by omega) hl (by omega)
  rw [h0] at h1 h3
  simp only [if_true, h0, Bool.and_self]
  rw [h1, h3]
  by_cases d1 : Int.tdiv ((w - 2 * e) * a) 100 < 1 <;> by_cases d2 : Int.tdiv ((l - 2 * e) * b) 100 < 1 <;> by_cases c1 : w < 2 * e <;> by_cases c2 : l < 2 * e <;> first | (exfalso; exact d1 (h2 c1)) | (exfalso; exact d2 (h4 c2)) | simp [c1, c2, d1, d2]
theorem knotsI_eq {k : Nat} (a b e w l : Int) : impl_KnotsForSize.f (k + 1) a b e w l = some (knotsM a b e w l) := by
  simp only [impl_KnotsForSize.f, impl_KnotsForSize.j0, IsGauge_eq, isLength_eq, Option.bind_some, knotsM]
  cases hg : gaugeB a b e
  · simp
  cases hw : lengthB w
  · simp
  cases hl : lengthB l
  · simp
  have := gauge_of hg; have hw := length_of hw; have hl := length_of hl
  obtain ⟨h0, h1, h2⟩ := knots_w (e := e) (w := w) (a := a) (by omega) hw (by omega)
  obtain ⟨_, h3, h4⟩ := knots_w (e := e) (w := l) (a := b) (by omega) hl (by omega)
  rw [h0] at h1 h3
  simp only [if_true, h0, Bool.and_self, Bool.not_true, Bool.false_eq_true, if_false]
  rw [h1, h3]
  by_cases d1 : Int.tdiv ((w - 2 * e) * a) 100 < 1 <;> by_cases d2 : Int.tdiv ((l - 2 * e) * b) 100 < 1 <;> simp [d1, d2]

end Go.Proofs.Ytgohfbelppokcaa.Pure

-- Qsizeslaw
namespace Go.Proofs.Ytgohfbelppokcaa.Pure
open Go Go.RowKit Go.Proofs Go.Proofs.YtgohfbelppokcaaW.PrintWords Go.Proofs.YtgohfbelppokcaaW.PrintLast
set_option linter.unusedVariables false
set_option linter.unusedSimpArgs false

theorem knots_law {a e w : Int} (ha : 1 ≤ a ∧ a ≤ 200) (he : 0 ≤ e ∧ e ≤ 200) (hw : 1 ≤ w ∧ w ≤ 20000) (hx : ¬ Int.tdiv ((w - 2 * e) * a) 100 < 1) :
    ¬ (wrap64 ((wrap64 (100 * Int.tdiv ((w - 2 * e) * a) 100)) + (wrap64 ((wrap64 (2 * e)) * a)))) > (wrap64 (w * a)) ∧ ¬ (wrap64 ((wrap64 (100 * (wrap64 (Int.tdiv ((w - 2 * e) * a) 100 + 1)))) + (wrap64 ((wrap64 (2 * e)) * a)))) ≤ (wrap64 (w * a)) := by
  have hb := mulB (x := w - 2 * e) (a := a) (X := 20000) (A := 200) (by omega) (by omega) (by omega) (by omega)
  have hm := mul_bd (a := 2 * e) (b := a) (A := 400) (B := 200) (by omega) (by omega) (by omega) (by omega)
  have hm2 := mul_bd (a := w) (b := a) (A := 20000) (B := 200) (by omega) (by omega) (by omega) (by omega)
  have hd : (w - 2 * e) * a = w * a - 2 * e * a := Int.sub_mul _ _ _
  rw [w64 (x := 2 * e) (by omega) (by omega), w64 (x := 2 * e * a) (by omega) (by omega), w64 (x := w * a) (by omega) (by omega)]
  generalize 2 * e * a = E at *
  generalize w * a = A at *
  generalize (w - 2 * e) * a = q at *
  have hq := tdivE q 100 (by omega)
  by_cases g : 0 ≤ q
  · rw [if_pos g] at hq
    rw [hq] at hx ⊢
    rw [w64 (x := 100 * (q / 100)) (by omega) (by omega), w64 (x := q / 100 + 1) (by omega) (by omega), w64 (x := 100 * (q / 100 + 1)) (by omega) (by omega), w64 (x := 100 * (q / 100) + E) (by omega) (by omega), w64 (x := 100 * (q / 100 + 1) + E) (by omega) (by omega)]
    omega
  · rw [if_neg g] at hq
    omega
theorem aspect_law {W H a b : Int} (hW : 100 ≤ W ∧ W ≤ 80800) (hH : 100 ≤ H ∧ H ≤ 80800) (ha : 1 ≤ a ∧ a ≤ 200) (hb : 1 ≤ b ∧ b ≤ 200) :
    wrap64 ((wrap64 ((fracM (W * b) (a * H)).1 * (fracM W a).2)) * (fracM H b).1) = wrap64 ((wrap64 ((fracM (W * b) (a * H)).2 * (fracM W a).1)) * (fracM H b).2) := by
  have hw := aspect_w (n := W) (m := H) (d := a) (c := b) hW hH ha hb
  have f0 := fracM_bd (n := W * b) (d := a * H) (by omega) (by omega)
  have f1 := fracM_bd (n := W) (d := a) (by omega) (by omega)
  have f2 := fracM_bd (n := H) (d := b) (by omega) (by omega)
  have m0 := fracM_mul (n := W * b) (d := a * H) (by omega)
  have m1 := fracM_mul (n := W) (d := a) (by omega)
  have m2 := fracM_mul (n := H) (d := b) (by omega)
  have g0 := gcdM_pos (a := W * b) (b := a * H) (by omega)
  have g1 := gcdM_pos (a := W) (b := a) (by omega)
  have g2 := gcdM_pos (a := H) (b := b) (by omega)
  obtain ⟨h0, h0'⟩ := m0
  obtain ⟨h1, h1'⟩ := m1
  obtain ⟨h2, h2'⟩ := m2
  generalize gcdM (W * b) (a * H) = G at *
  generalize gcdM W a = G1 at *
  generalize gcdM H b = G2 at *
  generalize (fracM (W * b) (a * H)).1 = num at *
  generalize (fracM (W * b) (a * H)).2 = den at *
  generalize (fracM W a).1 = x at *
  generalize (fracM W a).2 = y at *
  generalize (fracM H b).1 = u at *
  generalize (fracM H b).2 = v at *
  have c1 := mul_bd (a := num) (b := y) (A := 16160000) (B := 200) (by omega) (by omega) (by omega) (by omega)
  have c2 := mul_bd (a := den) (b := x) (A := 16160000) (B := 80800) (by omega) (by omega) (by omega) (by omega)
  rw [w64 (x := num * y) (by omega) (by omega), w64 (x := den * x) (by omega) (by omega)]
  congr 1
  have e : (G * (G1 * G2)) * (num * y * u) = (G * (G1 * G2)) * (den * x * v) := by
    calc (G * (G1 * G2)) * (num * y * u) = (G * num) * ((G1 * y) * (G2 * u)) := by simp [Int.mul_assoc, Int.mul_comm, Int.mul_left_comm]
      _ = (W * b) * (a * H) := by rw [← h0, ← h1', ← h2]
      _ = (a * H) * (W * b) := Int.mul_comm _ _
      _ = (G * den) * ((G1 * x) * (G2 * v)) := by rw [← h0', ← h1, ← h2']
      _ = (G * (G1 * G2)) * (den * x * v) := by simp [Int.mul_assoc, Int.mul_comm, Int.mul_left_comm]
  have hp : G * (G1 * G2) ≠ 0 := by
    have := Int.mul_pos g0 (Int.mul_pos g1 g2); omega
  exact Int.eq_of_mul_eq_mul_left hp e

end Go.Proofs.Ytgohfbelppokcaa.Pure

-- PureFnSizes
namespace Go.Proofs.Ytgohfbelppokcaa.Pure
open Go Go.RowKit Go.Proofs Go.Proofs.Ytgohfbelppokcaa.X Go.Proofs.YtgohfbelppokcaaW.PrintWords Go.Proofs.YtgohfbelppokcaaW.PrintLast
set_option linter.unusedVariables false
set_option linter.unusedSimpArgs false

theorem FnSizes : laws_FnSizes.Pure := by
  intro l hl
  refine ⟨20000004, ?_⟩
  simp only [laws_FnSizes.f, laws_vBig.f, Option.bind_some]
  by_cases hbig : (l.length : Int) > 65536
  · rw [decide_eq_true hbig, if_pos rfl]
  rw [decide_eq_false hbig, if_neg (by simp)]
  have hs : curOk l := ⟨by omega, fun y hy => wf8 (hl.2 y hy)⟩
  obtain ⟨a, b, e, p1, c1, e1, b1, ha, hb, he⟩ := gauge_ex 0 hs (p := 0) (by omega)
  obtain ⟨w, p2, c2, e2, b2, m2⟩ := among_ex c1 [1, 10, 99, 500, 1200, 20000, 20001, 0] hs (p := p1) (by omega) (by simp)
  obtain ⟨n, p3, c3, e3, b3, m3⟩ := among_ex c2 [1, 40, 401, 2000, 20000, 0] hs (p := p2) (by omega) (by simp)
  simp only [spec_DrawKnotsForSize.f, e1, e2, e3, Option.bind_some, knotsS_eq (k := 20000003) a b e w n, knotsI_eq (k := 20000003) a b e w n, if_true, bne_self_eq_false, Bool.false_eq_true, if_false, IsGauge_eq, spec_IsGauge.f, l15Gauge_eq]
  have hrest : ∀ k, 20000002 < k → laws_FnSizes.j1 k l = some true := by
    intro k hk
    obtain ⟨k, rfl, hk1⟩ := succ_of hk
    obtain ⟨cw, ch, cl, q1, d1, r1, t1, hw, hh, hlen, _⟩ := chart_ex (k := k) 0 hs (p := 0) (by omega) (by omega)
    obtain ⟨ga, gb, ge, q2, d2, r2, t2, _, _, _⟩ := gauge_ex d1 hs (p := q1) (by omega)
    simp only [laws_FnSizes.j1, spec_DrawSizeOf.f, r1, r2, Option.bind_some, sizeI_eq (k := k) (w := cw) (h := ch) (l := cl) ga gb ge (by omega), sizeS_eq (k := k) (w := cw) (h := ch) (l := cl) ga gb ge (by omega) (by omega) (by omega), if_true, bne_self_eq_false]
    obtain ⟨k, rfl, hk2⟩ := succ_of hk1
    have hlast : ∀ k, 10 < k → laws_FnSizes.j3 k l false = some true := by
      intro k hk
      obtain ⟨k, rfl, hk⟩ := succ_of hk
      simp only [laws_FnSizes.j3, spec_DrawKnotsPerArea.f, spec_DrawIsGauge.f, e1, Option.bind_some, impl_KnotsPerArea.f, spec_KnotsPerArea.f, IsGauge_eq, l15Gauge_eq, Bool.false_eq_true, if_false]
      cases gaugeB a b e <;> simp
    simp only [laws_FnSizes.j2, Bool.false_eq_true, if_false, aspectI_eq (k := k) (w := cw) (h := ch) (l := cl) ga gb ge (by omega), aspectS_eq (k := k) (w := cw) (h := ch) (l := cl) ga gb ge (by omega) (by omega) (by omega), Option.bind_some, if_true, bne_self_eq_false]
    cases hc : (chartB cw ch cl && gaugeB ga gb ge)
    · simp only [aspectM, sizeM, hc, Bool.false_eq_true, if_false, bne_self_eq_false]
      exact hlast _ (by omega)
    · obtain ⟨h1, h2, h3, h4⟩ := size_of hc
      have hasp := aspect_law (W := wideM cw ga ge) (H := wideM ch gb ge) (a := ga) (b := gb) (by omega) (by omega) h3 h4
      simp only [aspectM, sizeM, hc, if_true, bne_self_eq_false, Bool.false_eq_true, if_false, hasp]
      exact hlast _ (by omega)
  simp only [laws_FnSizes.j0, Bool.false_eq_true, if_false]
  unfold knotsM
  by_cases hg : (gaugeB a b e && (lengthB w && lengthB n)) = true
  · rw [if_pos hg]
    simp only [Bool.and_eq_true] at hg
    have g1 := gauge_of hg.1
    have hw := length_of hg.2.1
    have hn := length_of hg.2.2
    by_cases x1 : Int.tdiv ((w - 2 * e) * a) 100 < 1
    · rw [if_pos x1]; simp only [Bool.false_eq_true, if_false]; exact hrest _ (by omega)
    rw [if_neg x1]
    by_cases x2 : Int.tdiv ((n - 2 * e) * b) 100 < 1
    · rw [if_pos x2]; simp only [Bool.false_eq_true, if_false]; exact hrest _ (by omega)
    rw [if_neg x2]
    obtain ⟨y1, y2⟩ := knots_law (a := a) (e := e) (w := w) (by omega) (by omega) hw x1
    obtain ⟨y3, y4⟩ := knots_law (a := b) (e := e) (w := n) (by omega) (by omega) hn x2
    simp only [if_true]
    rw [if_neg y1, if_neg y2, if_neg y3, if_neg y4]
    exact hrest _ (by omega)
  · rw [if_neg hg]; simp only [Bool.false_eq_true, if_false]; exact hrest _ (by omega)

end Go.Proofs.Ytgohfbelppokcaa.Pure
