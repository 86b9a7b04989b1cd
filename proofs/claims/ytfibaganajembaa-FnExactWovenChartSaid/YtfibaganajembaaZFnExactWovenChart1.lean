/- What the law FnExactWovenChart needs, part 7 of 7: what each function of the program that it reaches returns (printed by this session's own program, checked by Lean), and plain mathematics about it. Conditions: those of each theorem. -/
import Derived.Test.YtfibaganajembaaZFnExactWovenChart0
-- XlawsFnExactWovenChartF13
namespace Go.Proofs.Ytfibaganajembaa.X
open Ho (bS eS)
open Go.RowKit Go.Proofs.YtfibaganajembaaW.PrintWords Go.Proofs.YtfibaganajembaaW.PrintLast Go.Proofs.YtfibaganajembaaW.PrintMore
attribute [local go_sem] max2_int min2_int max_two min_two max_three min_three max_four min_four   -- for this text's walks alone
set_option linter.unusedVariables false
set_option linter.unusedSimpArgs false
open Sq (I O Z)

attribute [local go_sem ↓] Ho.isSome_setCell_   -- a store leaves all places there
/-! ### laws_FnExactWovenChart: function 13 -/
mutual
def laws_FnExactWovenChart.j0 : Nat → Bool → Bool → Bool → Int → Int → List Int → List Int → Int → List (S106) → Bool → Int → Int → List Int → Int → Int → List Int → List Int → Int → List (S89) → Bool → Int → Int → List Int → Option (Bool)
  | 0, _, _, _, _, _, _, _, _, _, _, _, _, _, _, _, _, _, _, _, _, _, _, _ => none
  | k + 1, x5, x8, x40, x102000, x102001, x102002, x102003, x102004, x102005, x102006, x123000, x123001, x123002, x137000, x137001, x137002, x137003, x137004, x137005, x137006, x144000, x144001, x144002 => if x40 = true then (some false) else ((laws_toWeaving.f k x102000 x102001 x102002 x102003 x102004 x102005 x102006).bind fun bt145 => ((laws_eqWeaving.f k x137000 x137001 x137002 x137003 x137004 x137005 x137006 bt145.1 bt145.2.1 bt145.2.2.1 bt145.2.2.2.1 bt145.2.2.2.2.1 bt145.2.2.2.2.2.1 bt145.2.2.2.2.2.2).bind fun t158 => (if t158 = true then ((laws_markWeaving.f k x137000 x137001 x137002 x137003 x137004 x137005 x137006 1).bind fun bt159 => (if bt159.1 < 0 then (laws_FnExactWovenChart.j1 k x5 true x102000 x102001 x102002 x102003 x102004 x102005 x102006 x123000 x123001 x123002 x144000 x144001 x144002) else ((laws_eqChart.f k x144000 x144001 x144002 x123000 x123001 x123002).bind fun t163 => (if t163 = true then (laws_FnExactWovenChart.j1 k x5 (x8 != x5) x102000 x102001 x102002 x102003 x102004 x102005 x102006 x123000 x123001 x123002 x144000 x144001 x144002) else (laws_FnExactWovenChart.j1 k x5 true x102000 x102001 x102002 x102003 x102004 x102005 x102006 x123000 x123001 x123002 x144000 x144001 x144002))))) else (some false))))
def laws_FnExactWovenChart.j1 : Nat → Bool → Bool → Int → Int → List Int → List Int → Int → List (S106) → Bool → Int → Int → List Int → Int → Int → List Int → Option (Bool)
  | 0, _, _, _, _, _, _, _, _, _, _, _, _, _, _, _ => none
  | k + 1, x5, x61, x102000, x102001, x102002, x102003, x102004, x102005, x102006, x123000, x123001, x123002, x144000, x144001, x144002 => if x61 = true then (some false) else ((laws_markChart.f k x144000 x144001 x144002 1).bind fun bt164 => ((laws_heldChart.f k x144000 x144001 bt164.2 1).bind fun t166 => (if t166 < 0 then (some false) else (if t166 = bt164.1 then ((laws_toWeaving.f k x102000 x102001 x102002 x102003 x102004 x102005 x102006).bind fun bt167 => ((impl_WovenChart.f k bt167.1 bt167.2.1 bt167.2.2.1 bt167.2.2.2.1 bt167.2.2.2.2.1 bt167.2.2.2.2.2.1 bt167.2.2.2.2.2.2).bind fun bt180 => ((laws_eqChart.f k bt180.1 bt180.2.1 bt180.2.2.1 x123000 x123001 x123002).bind fun t187 => (if t187 = true then (laws_FnExactWovenChart.j2 k bt164.1 (bt180.2.2.2 != x5) x144000 x144001 bt164.2) else (laws_FnExactWovenChart.j2 k bt164.1 true x144000 x144001 bt164.2))))) else (some false)))))
def laws_FnExactWovenChart.j2 : Nat → Int → Bool → Int → Int → List Int → Option (Bool)
  | 0, _, _, _, _, _ => none
  | k + 1, x10, x87, x144000, x144001, x144002 => if x87 = true then (some false) else ((laws_heldChart.f k x144000 x144001 x144002 1).bind fun t188 => (if t188 < 0 then (some false) else (if t188 = x10 then (some true) else (some false))))
end
def laws_FnExactWovenChart.f (k : Nat) (a0_0 : Int) (a0_1 : Int) (l0_2 : List Int) (l0_3 : List Int) (a0_4 : Int) (l0_5 : List (S106)) (a0_6 : Bool) : Option (Bool) := (laws_szWeaving.f a0_0 a0_1 l0_2 l0_3 a0_4 l0_5 a0_6 1048576).bind fun t102 => (if t102 < 0 then (some true) else ((laws_toWeaving.f k a0_0 a0_1 l0_2 l0_3 a0_4 l0_5 a0_6).bind fun bt103 => ((spec_WovenChart.f k bt103.1 bt103.2.1 bt103.2.2.1 bt103.2.2.2.1 bt103.2.2.2.2.1 bt103.2.2.2.2.2.1 bt103.2.2.2.2.2.2).bind fun bt116 => ((laws_toWeaving.f k a0_0 a0_1 l0_2 l0_3 a0_4 l0_5 a0_6).bind fun bt123 => ((impl_WovenChart.f k bt123.1 bt123.2.1 bt123.2.2.1 bt123.2.2.2.1 bt123.2.2.2.2.1 bt123.2.2.2.2.2.1 bt123.2.2.2.2.2.2).bind fun bt137 => ((laws_eqChart.f k bt137.1 bt137.2.1 bt137.2.2.1 bt116.1 bt116.2.1 bt116.2.2.1).bind fun t144 => (if t144 = true then (laws_FnExactWovenChart.j0 k bt116.2.2.2 bt137.2.2.2 (bt137.2.2.2 != bt116.2.2.2) a0_0 a0_1 l0_2 l0_3 a0_4 l0_5 a0_6 bt116.1 bt116.2.1 bt116.2.2.1 bt123.1 bt123.2.1 bt123.2.2.1 bt123.2.2.2.1 bt123.2.2.2.2.1 bt123.2.2.2.2.2.1 bt123.2.2.2.2.2.2 bt137.1 bt137.2.1 bt137.2.2.1) else (laws_FnExactWovenChart.j0 k bt116.2.2.2 bt137.2.2.2 true a0_0 a0_1 l0_2 l0_3 a0_4 l0_5 a0_6 bt116.1 bt116.2.1 bt116.2.2.1 bt123.1 bt123.2.1 bt123.2.2.1 bt123.2.2.2.1 bt123.2.2.2.2.1 bt123.2.2.2.2.2.1 bt123.2.2.2.2.2.2 bt137.1 bt137.2.1 bt137.2.2.1))))))))
theorem laws_FnExactWovenChart.mono_l : ∀ k, (∀ y0 y1 y2 y3 y4 y5 y6 y7 y8 y9 y10 y11 y12 y13 y14 y15 y16 y17 y18 y19 y20 y21 y22, LeO (laws_FnExactWovenChart.j0 k y0 y1 y2 y3 y4 y5 y6 y7 y8 y9 y10 y11 y12 y13 y14 y15 y16 y17 y18 y19 y20 y21 y22) (laws_FnExactWovenChart.j0 (k + 1) y0 y1 y2 y3 y4 y5 y6 y7 y8 y9 y10 y11 y12 y13 y14 y15 y16 y17 y18 y19 y20 y21 y22)) ∧ (∀ y0 y1 y2 y3 y4 y5 y6 y7 y8 y9 y10 y11 y12 y13 y14, LeO (laws_FnExactWovenChart.j1 k y0 y1 y2 y3 y4 y5 y6 y7 y8 y9 y10 y11 y12 y13 y14) (laws_FnExactWovenChart.j1 (k + 1) y0 y1 y2 y3 y4 y5 y6 y7 y8 y9 y10 y11 y12 y13 y14)) ∧ (∀ y0 y1 y2 y3 y4, LeO (laws_FnExactWovenChart.j2 k y0 y1 y2 y3 y4) (laws_FnExactWovenChart.j2 (k + 1) y0 y1 y2 y3 y4))
  | 0 => ⟨fun _ _ _ _ _ _ _ _ _ _ _ _ _ _ _ _ _ _ _ _ _ _ _ r h => by simp [laws_FnExactWovenChart.j0] at h, fun _ _ _ _ _ _ _ _ _ _ _ _ _ _ _ r h => by simp [laws_FnExactWovenChart.j1] at h, fun _ _ _ _ _ r h => by simp [laws_FnExactWovenChart.j2] at h⟩
  | k + 1 => by
    obtain ⟨ih0, ih1, ih2⟩ := laws_FnExactWovenChart.mono_l k
    refine ⟨?_, ?_, ?_⟩
    · intro y0 y1 y2 y3 y4 y5 y6 y7 y8 y9 y10 y11 y12 y13 y14 y15 y16 y17 y18 y19 y20 y21 y22
      unfold laws_FnExactWovenChart.j0
      repeat' first
      | (with_reducible exact ih0 _ _ _ _ _ _ _ _ _ _ _ _ _ _ _ _ _ _ _ _ _ _ _)
      | (with_reducible exact ih1 _ _ _ _ _ _ _ _ _ _ _ _ _ _ _)
      | (with_reducible exact ih2 _ _ _ _ _)
      | (with_reducible exact impl_WovenChart.mono _ _ _ _ _ _ _ _)
      | (with_reducible exact laws_eqChart.mono _ _ _ _ _ _ _)
      | (with_reducible exact laws_eqWeaving.mono _ _ _ _ _ _ _ _ _ _ _ _ _ _ _)
      | (with_reducible exact laws_heldChart.mono _ _ _ _ _)
      | (with_reducible exact laws_markChart.mono _ _ _ _ _)
      | (with_reducible exact laws_markWeaving.mono _ _ _ _ _ _ _ _ _)
      | (with_reducible exact laws_toWeaving.mono _ _ _ _ _ _ _ _)
      | (with_reducible exact spec_WovenChart.mono _ _ _ _ _ _ _ _)
      | (with_reducible exact LeO.refl _)
      | (with_reducible exact LeO.none _)
      | (with_reducible refine LeO.ite ?_ ?_)
      | (with_reducible refine LeO.bind ?_ (fun _ => ?_))
      | exact ih0 _ _ _ _ _ _ _ _ _ _ _ _ _ _ _ _ _ _ _ _ _ _ _
      | exact ih1 _ _ _ _ _ _ _ _ _ _ _ _ _ _ _
      | exact ih2 _ _ _ _ _
      | exact impl_WovenChart.mono _ _ _ _ _ _ _ _
      | exact laws_eqChart.mono _ _ _ _ _ _ _
      | exact laws_eqWeaving.mono _ _ _ _ _ _ _ _ _ _ _ _ _ _ _
      | exact laws_heldChart.mono _ _ _ _ _
      | exact laws_markChart.mono _ _ _ _ _
      | exact laws_markWeaving.mono _ _ _ _ _ _ _ _ _
      | exact laws_toWeaving.mono _ _ _ _ _ _ _ _
      | exact spec_WovenChart.mono _ _ _ _ _ _ _ _
      | exact LeO.none _
      | refine LeO.ite ?_ ?_
      | refine LeO.bind ?_ (fun _ => ?_)
    · intro y0 y1 y2 y3 y4 y5 y6 y7 y8 y9 y10 y11 y12 y13 y14
      unfold laws_FnExactWovenChart.j1
      repeat' first
      | (with_reducible exact ih0 _ _ _ _ _ _ _ _ _ _ _ _ _ _ _ _ _ _ _ _ _ _ _)
      | (with_reducible exact ih1 _ _ _ _ _ _ _ _ _ _ _ _ _ _ _)
      | (with_reducible exact ih2 _ _ _ _ _)
      | (with_reducible exact impl_WovenChart.mono _ _ _ _ _ _ _ _)
      | (with_reducible exact laws_eqChart.mono _ _ _ _ _ _ _)
      | (with_reducible exact laws_eqWeaving.mono _ _ _ _ _ _ _ _ _ _ _ _ _ _ _)
      | (with_reducible exact laws_heldChart.mono _ _ _ _ _)
      | (with_reducible exact laws_markChart.mono _ _ _ _ _)
      | (with_reducible exact laws_markWeaving.mono _ _ _ _ _ _ _ _ _)
      | (with_reducible exact laws_toWeaving.mono _ _ _ _ _ _ _ _)
      | (with_reducible exact spec_WovenChart.mono _ _ _ _ _ _ _ _)
      | (with_reducible exact LeO.refl _)
      | (with_reducible exact LeO.none _)
      | (with_reducible refine LeO.ite ?_ ?_)
      | (with_reducible refine LeO.bind ?_ (fun _ => ?_))
      | exact ih0 _ _ _ _ _ _ _ _ _ _ _ _ _ _ _ _ _ _ _ _ _ _ _
      | exact ih1 _ _ _ _ _ _ _ _ _ _ _ _ _ _ _
      | exact ih2 _ _ _ _ _
      | exact impl_WovenChart.mono _ _ _ _ _ _ _ _
      | exact laws_eqChart.mono _ _ _ _ _ _ _
      | exact laws_eqWeaving.mono _ _ _ _ _ _ _ _ _ _ _ _ _ _ _
      | exact laws_heldChart.mono _ _ _ _ _
      | exact laws_markChart.mono _ _ _ _ _
      | exact laws_markWeaving.mono _ _ _ _ _ _ _ _ _
      | exact laws_toWeaving.mono _ _ _ _ _ _ _ _
      | exact spec_WovenChart.mono _ _ _ _ _ _ _ _
      | exact LeO.none _
      | refine LeO.ite ?_ ?_
      | refine LeO.bind ?_ (fun _ => ?_)
    · intro y0 y1 y2 y3 y4
      unfold laws_FnExactWovenChart.j2
      repeat' first
      | (with_reducible exact ih0 _ _ _ _ _ _ _ _ _ _ _ _ _ _ _ _ _ _ _ _ _ _ _)
      | (with_reducible exact ih1 _ _ _ _ _ _ _ _ _ _ _ _ _ _ _)
      | (with_reducible exact ih2 _ _ _ _ _)
      | (with_reducible exact impl_WovenChart.mono _ _ _ _ _ _ _ _)
      | (with_reducible exact laws_eqChart.mono _ _ _ _ _ _ _)
      | (with_reducible exact laws_eqWeaving.mono _ _ _ _ _ _ _ _ _ _ _ _ _ _ _)
      | (with_reducible exact laws_heldChart.mono _ _ _ _ _)
      | (with_reducible exact laws_markChart.mono _ _ _ _ _)
      | (with_reducible exact laws_markWeaving.mono _ _ _ _ _ _ _ _ _)
      | (with_reducible exact laws_toWeaving.mono _ _ _ _ _ _ _ _)
      | (with_reducible exact spec_WovenChart.mono _ _ _ _ _ _ _ _)
      | (with_reducible exact LeO.refl _)
      | (with_reducible exact LeO.none _)
      | (with_reducible refine LeO.ite ?_ ?_)
      | (with_reducible refine LeO.bind ?_ (fun _ => ?_))
      | exact ih0 _ _ _ _ _ _ _ _ _ _ _ _ _ _ _ _ _ _ _ _ _ _ _
      | exact ih1 _ _ _ _ _ _ _ _ _ _ _ _ _ _ _
      | exact ih2 _ _ _ _ _
      | exact impl_WovenChart.mono _ _ _ _ _ _ _ _
      | exact laws_eqChart.mono _ _ _ _ _ _ _
      | exact laws_eqWeaving.mono _ _ _ _ _ _ _ _ _ _ _ _ _ _ _
      | exact laws_heldChart.mono _ _ _ _ _
      | exact laws_markChart.mono _ _ _ _ _
      | exact laws_markWeaving.mono _ _ _ _ _ _ _ _ _
      | exact laws_toWeaving.mono _ _ _ _ _ _ _ _
      | exact spec_WovenChart.mono _ _ _ _ _ _ _ _
      | exact LeO.none _
      | refine LeO.ite ?_ ?_
      | refine LeO.bind ?_ (fun _ => ?_)
theorem laws_FnExactWovenChart.mono : ∀ a0 a1 a2 a3 a4 a5 a6 k, LeO (laws_FnExactWovenChart.f k a0 a1 a2 a3 a4 a5 a6) (laws_FnExactWovenChart.f (k + 1) a0 a1 a2 a3 a4 a5 a6) := by
  intro a0 a1 a2 a3 a4 a5 a6 k
  obtain ⟨ih0, ih1, ih2⟩ := laws_FnExactWovenChart.mono_l k
  unfold laws_FnExactWovenChart.f
  repeat' first
      | (with_reducible exact ih0 _ _ _ _ _ _ _ _ _ _ _ _ _ _ _ _ _ _ _ _ _ _ _)
      | (with_reducible exact ih1 _ _ _ _ _ _ _ _ _ _ _ _ _ _ _)
      | (with_reducible exact ih2 _ _ _ _ _)
      | (with_reducible exact impl_WovenChart.mono _ _ _ _ _ _ _ _)
      | (with_reducible exact laws_eqChart.mono _ _ _ _ _ _ _)
      | (with_reducible exact laws_eqWeaving.mono _ _ _ _ _ _ _ _ _ _ _ _ _ _ _)
      | (with_reducible exact laws_heldChart.mono _ _ _ _ _)
      | (with_reducible exact laws_markChart.mono _ _ _ _ _)
      | (with_reducible exact laws_markWeaving.mono _ _ _ _ _ _ _ _ _)
      | (with_reducible exact laws_toWeaving.mono _ _ _ _ _ _ _ _)
      | (with_reducible exact spec_WovenChart.mono _ _ _ _ _ _ _ _)
      | (with_reducible exact LeO.refl _)
      | (with_reducible exact LeO.none _)
      | (with_reducible refine LeO.ite ?_ ?_)
      | (with_reducible refine LeO.bind ?_ (fun _ => ?_))
      | exact ih0 _ _ _ _ _ _ _ _ _ _ _ _ _ _ _ _ _ _ _ _ _ _ _
      | exact ih1 _ _ _ _ _ _ _ _ _ _ _ _ _ _ _
      | exact ih2 _ _ _ _ _
      | exact impl_WovenChart.mono _ _ _ _ _ _ _ _
      | exact laws_eqChart.mono _ _ _ _ _ _ _
      | exact laws_eqWeaving.mono _ _ _ _ _ _ _ _ _ _ _ _ _ _ _
      | exact laws_heldChart.mono _ _ _ _ _
      | exact laws_markChart.mono _ _ _ _ _
      | exact laws_markWeaving.mono _ _ _ _ _ _ _ _ _
      | exact laws_toWeaving.mono _ _ _ _ _ _ _ _
      | exact spec_WovenChart.mono _ _ _ _ _ _ _ _
      | exact LeO.none _
      | refine LeO.ite ?_ ?_
      | refine LeO.bind ?_ (fun _ => ?_)
set_option maxHeartbeats 8000000 in
set_option maxRecDepth 100000 in
theorem laws_FnExactWovenChart.calls (k : Nat) (a0_0 : Int) (a0_1 : Int) (A0_2 : Option Addr) (c0_2 : Nat) (l0_2 : List Int) (A0_3 : Option Addr) (c0_3 : Nat) (l0_3 : List Int) (a0_4 : Int) (A0_5 : Option Addr) (c0_5 : Nat) (l0_5 : List (S106)) (a0_6 : Bool) (r : Bool) (w : World) (hr0_2 : Kd.C (Kd.int .i64) w A0_2 l0_2.length l0_2) (hc0_2 : l0_2.length ≤ c0_2) (hr0_3 : Kd.C (Kd.int .i64) w A0_3 l0_3.length l0_3) (hc0_3 : l0_3.length ≤ c0_3) (hr0_5 : Kd.C k106 w A0_5 l0_5.length l0_5) (hc0_5 : l0_5.length ≤ c0_5) (ht : r = true) (h : laws_FnExactWovenChart.f k a0_0 a0_1 l0_2 l0_3 a0_4 l0_5 a0_6 = some r) :
  Calls Try.prog 13 #[.agg #[.int .i64 a0_0, .int .i64 a0_1, .slice A0_2 l0_2.length c0_2, .slice A0_3 l0_3.length c0_3, .int .i64 a0_4, .slice A0_5 l0_5.length c0_5, .bool a0_6]] w fun e w' => e = .returned (.bool r) ∧ Below w.heap.size w w' := by
 have hu54 := Try.underlying54
 have hu30 := Try.underlying30
 have hu59 := Try.underlying59
 have HR0_2 := Aside0.mk hr0_2
 have HC0_2 := Aside0.mk hc0_2
 clear hr0_2 hc0_2
 have HR0_3 := Aside0.mk hr0_3
 have HC0_3 := Aside0.mk hc0_3
 clear hr0_3 hc0_3
 have HR0_5 := Aside0.mk hr0_5
 have HC0_5 := Aside0.mk hc0_5
 clear hr0_5 hc0_5
 have HB := Aside0.mk (Below.refl w.heap.size w)
 have HT := Aside0.mk ht
 clear ht
 have H : ((laws_szWeaving.f a0_0 a0_1 l0_2 l0_3 a0_4 l0_5 a0_6 1048576).bind fun t102 => (if t102 < 0 then (some true) else ((laws_toWeaving.f k a0_0 a0_1 l0_2 l0_3 a0_4 l0_5 a0_6).bind fun bt103 => ((spec_WovenChart.f k bt103.1 bt103.2.1 bt103.2.2.1 bt103.2.2.2.1 bt103.2.2.2.2.1 bt103.2.2.2.2.2.1 bt103.2.2.2.2.2.2).bind fun bt116 => ((laws_toWeaving.f k a0_0 a0_1 l0_2 l0_3 a0_4 l0_5 a0_6).bind fun bt123 => ((impl_WovenChart.f k bt123.1 bt123.2.1 bt123.2.2.1 bt123.2.2.2.1 bt123.2.2.2.2.1 bt123.2.2.2.2.2.1 bt123.2.2.2.2.2.2).bind fun bt137 => ((laws_eqChart.f k bt137.1 bt137.2.1 bt137.2.2.1 bt116.1 bt116.2.1 bt116.2.2.1).bind fun t144 => (if t144 = true then (laws_FnExactWovenChart.j0 k bt116.2.2.2 bt137.2.2.2 (bt137.2.2.2 != bt116.2.2.2) a0_0 a0_1 l0_2 l0_3 a0_4 l0_5 a0_6 bt116.1 bt116.2.1 bt116.2.2.1 bt123.1 bt123.2.1 bt123.2.2.1 bt123.2.2.2.1 bt123.2.2.2.2.1 bt123.2.2.2.2.2.1 bt123.2.2.2.2.2.2 bt137.1 bt137.2.1 bt137.2.2.1) else (laws_FnExactWovenChart.j0 k bt116.2.2.2 bt137.2.2.2 true a0_0 a0_1 l0_2 l0_3 a0_4 l0_5 a0_6 bt116.1 bt116.2.1 bt116.2.2.1 bt123.1 bt123.2.1 bt123.2.2.1 bt123.2.2.2.1 bt123.2.2.2.2.1 bt123.2.2.2.2.2.1 bt123.2.2.2.2.2.2 bt137.1 bt137.2.1 bt137.2.2.1))))))))) = some r := h
 clear h
 replace H := Option.bind_eq_some_iff.mp H
 obtain ⟨t102, A20, H⟩ := H
 replace H : (if t102 < 0 then (some true) else ((laws_toWeaving.f k a0_0 a0_1 l0_2 l0_3 a0_4 l0_5 a0_6).bind fun bt103 => ((spec_WovenChart.f k bt103.1 bt103.2.1 bt103.2.2.1 bt103.2.2.2.1 bt103.2.2.2.2.1 bt103.2.2.2.2.2.1 bt103.2.2.2.2.2.2).bind fun bt116 => ((laws_toWeaving.f k a0_0 a0_1 l0_2 l0_3 a0_4 l0_5 a0_6).bind fun bt123 => ((impl_WovenChart.f k bt123.1 bt123.2.1 bt123.2.2.1 bt123.2.2.2.1 bt123.2.2.2.2.1 bt123.2.2.2.2.2.1 bt123.2.2.2.2.2.2).bind fun bt137 => ((laws_eqChart.f k bt137.1 bt137.2.1 bt137.2.2.1 bt116.1 bt116.2.1 bt116.2.2.1).bind fun t144 => (if t144 = true then (laws_FnExactWovenChart.j0 k bt116.2.2.2 bt137.2.2.2 (bt137.2.2.2 != bt116.2.2.2) a0_0 a0_1 l0_2 l0_3 a0_4 l0_5 a0_6 bt116.1 bt116.2.1 bt116.2.2.1 bt123.1 bt123.2.1 bt123.2.2.1 bt123.2.2.2.1 bt123.2.2.2.2.1 bt123.2.2.2.2.2.1 bt123.2.2.2.2.2.2 bt137.1 bt137.2.1 bt137.2.2.1) else (laws_FnExactWovenChart.j0 k bt116.2.2.2 bt137.2.2.2 true a0_0 a0_1 l0_2 l0_3 a0_4 l0_5 a0_6 bt116.1 bt116.2.1 bt116.2.2.1 bt123.1 bt123.2.1 bt123.2.2.1 bt123.2.2.2.1 bt123.2.2.2.2.1 bt123.2.2.2.2.2.1 bt123.2.2.2.2.2.2 bt137.1 bt137.2.1 bt137.2.2.1)))))))) = some r := H
 have A2 := Aside0.mk A20
 clear A20
 by_cases c3 : t102 < 0
 ·rw [if_pos c3] at H
  have c3b0 : decide (t102 < 0) = true := decide_eq_true c3
  clear c3
  as_aux_lemma =>
   obtain rfl := Option.some.inj H
   go_enter Try.func13, Try.ntmps13
   go_wp2_with (first | ((with_reducible refine gate_dst (N := 1) rfl ?_); refine box_event ?hg (N := 1) ?hd (cs := #[.int .i64 a0_0, .int .i64 a0_1, .slice A0_2 l0_2.length c0_2, .slice A0_3 l0_3.length c0_3, .int .i64 a0_4, .slice A0_5 l0_5.length c0_5, .bool a0_6]) (t := 54) ?hr ?_; (case hd => rfl); (case hg => rfl); (case hr => first | (go_simp; done) | (go_simp; rfl)); intro gb101 hg w4 hbox hb; have n0_ := Aside0.mk (below_step (by exact eS HB.out) hb); have n1_ := Aside0.mk (hbox); have n2_ := Aside0.mk ((by rw [hg]; exact (below_size (by exact eS HB.out)) : w.heap.size ≤ gb101)); have n3_ := Aside0.mk ((by rw [hg]; exact (below_size (by exact eS HB.out)) : w.heap.size ≤ gb101)); clear HB; have HB := n0_; have BK101 := n1_; have GW101 := n2_; have GE101 := n3_; clear n0_ n1_ n2_ n3_; clear hb hbox hg; have hcz5_0 : w4.cell? ⟨gb101, 0, none⟩ = some (.int .i64 a0_0) := (blk_cell BK101.out 0).trans rfl; have hcz5_1 : w4.cell? ⟨gb101, 1, none⟩ = some (.int .i64 a0_1) := (blk_cell BK101.out 1).trans rfl; have hcz5_2 : w4.cell? ⟨gb101, 2, none⟩ = some (.slice A0_2 l0_2.length c0_2) := (blk_cell BK101.out 2).trans rfl; have hcz5_3 : w4.cell? ⟨gb101, 3, none⟩ = some (.slice A0_3 l0_3.length c0_3) := (blk_cell BK101.out 3).trans rfl; have hcz5_4 : w4.cell? ⟨gb101, 4, none⟩ = some (.int .i64 a0_4) := (blk_cell BK101.out 4).trans rfl; have hcz5_5 : w4.cell? ⟨gb101, 5, none⟩ = some (.slice A0_5 l0_5.length c0_5) := (blk_cell BK101.out 5).trans rfl; have hcz5_6 : w4.cell? ⟨gb101, 6, none⟩ = some (.bool a0_6) := (blk_cell BK101.out 6).trans rfl; have hfz5_0 := blk_frozen BK101.out 0; have hfz5_1 := blk_frozen BK101.out 1; have hfz5_2 := blk_frozen BK101.out 2; have hfz5_3 := blk_frozen BK101.out 3; have hfz5_4 := blk_frozen BK101.out 4; have hfz5_5 := blk_frozen BK101.out 5; have hfz5_6 := blk_frozen BK101.out 6) | ((with_reducible refine gate_callee (f := 38) rfl ?_); refine goesL_ (some 16) rfl rfl Try.func38 (by kernel_rfl) rfl #[.agg #[.int .i64 a0_0, .int .i64 a0_1, .slice A0_2 l0_2.length c0_2, .slice A0_3 l0_3.length c0_3, .int .i64 a0_4, .slice A0_5 l0_5.length c0_5, .bool a0_6], .int .i64 1048576] rfl (by (try simp only [List.map_toArray, List.map_cons, List.map_nil]); first | done | rfl | (simp only [List.length_drop, List.length_take]; rfl)) ?_; (with_reducible refine (laws_szWeaving.calls a0_0 a0_1 _ _ l0_2 _ _ l0_3 a0_4 _ _ l0_5 a0_6 1048576 t102 _ ?side1 ?side2 ?side3 ?side4 ?side5 ?side6 A2.out).mono ?_); (case side1 => repeat (first | exact (Kd.C_below HR0_2.out HB.out) | (with_reducible refine Kd.C_alloc ?_ _) | (with_reducible refine Kd.C_drewN ?_ _) | (with_reducible refine Kd.C_drew ?_))); (case side2 => exact HC0_2.out); (case side3 => repeat (first | exact (Kd.C_below HR0_3.out HB.out) | (with_reducible refine Kd.C_alloc ?_ _) | (with_reducible refine Kd.C_drewN ?_ _) | (with_reducible refine Kd.C_drew ?_))); (case side4 => exact HC0_3.out); (case side5 => repeat (first | exact (Kd.C_below HR0_5.out HB.out) | (with_reducible refine Kd.C_alloc ?_ _) | (with_reducible refine Kd.C_drewN ?_ _) | (with_reducible refine Kd.C_drew ?_))); (case side6 => exact HC0_5.out); rintro e w6 ⟨rfl, hb⟩; refine ⟨_, rfl, ?_⟩; have n0_ := Aside0.mk (blk_below (bS BK101.out) hb); have n1_ := Aside0.mk (below_step (by exact eS HB.out) hb); clear BK101; clear HB; have BK101 := n0_; have HB := n1_; clear n0_ n1_; (try clear hb); (try clear hb2); (try clear hk); (try clear hi)))
   go_ret
   exact ⟨by first | rfl | (simp [errW_none, errW_some] <;> rfl) | (simp [*, errW_none, errW_some] <;> rfl), by exact eS HB.out⟩
 ·rw [if_neg c3] at H
  have c3b0 : decide (t102 < 0) = false := decide_eq_false c3
  clear c3
  replace H := Option.bind_eq_some_iff.mp H
  obtain ⟨⟨t103, t104, t105, t108, t111, t112, t115⟩, A70, H⟩ := H
  replace H : ((spec_WovenChart.f k t103 t104 t105 t108 t111 t112 t115).bind fun bt116 => ((laws_toWeaving.f k a0_0 a0_1 l0_2 l0_3 a0_4 l0_5 a0_6).bind fun bt123 => ((impl_WovenChart.f k bt123.1 bt123.2.1 bt123.2.2.1 bt123.2.2.2.1 bt123.2.2.2.2.1 bt123.2.2.2.2.2.1 bt123.2.2.2.2.2.2).bind fun bt137 => ((laws_eqChart.f k bt137.1 bt137.2.1 bt137.2.2.1 bt116.1 bt116.2.1 bt116.2.2.1).bind fun t144 => (if t144 = true then (laws_FnExactWovenChart.j0 k bt116.2.2.2 bt137.2.2.2 (bt137.2.2.2 != bt116.2.2.2) a0_0 a0_1 l0_2 l0_3 a0_4 l0_5 a0_6 bt116.1 bt116.2.1 bt116.2.2.1 bt123.1 bt123.2.1 bt123.2.2.1 bt123.2.2.2.1 bt123.2.2.2.2.1 bt123.2.2.2.2.2.1 bt123.2.2.2.2.2.2 bt137.1 bt137.2.1 bt137.2.2.1) else (laws_FnExactWovenChart.j0 k bt116.2.2.2 bt137.2.2.2 true a0_0 a0_1 l0_2 l0_3 a0_4 l0_5 a0_6 bt116.1 bt116.2.1 bt116.2.2.1 bt123.1 bt123.2.1 bt123.2.2.1 bt123.2.2.2.1 bt123.2.2.2.2.1 bt123.2.2.2.2.2.1 bt123.2.2.2.2.2.2 bt137.1 bt137.2.1 bt137.2.2.1)))))) = some r := H
  have A7 := Aside0.mk A70
  clear A70
  replace H := Option.bind_eq_some_iff.mp H
  obtain ⟨⟨t116, t117, t118, t121⟩, A80, H⟩ := H
  replace H : ((laws_toWeaving.f k a0_0 a0_1 l0_2 l0_3 a0_4 l0_5 a0_6).bind fun bt123 => ((impl_WovenChart.f k bt123.1 bt123.2.1 bt123.2.2.1 bt123.2.2.2.1 bt123.2.2.2.2.1 bt123.2.2.2.2.2.1 bt123.2.2.2.2.2.2).bind fun bt137 => ((laws_eqChart.f k bt137.1 bt137.2.1 bt137.2.2.1 t116 t117 t118).bind fun t144 => (if t144 = true then (laws_FnExactWovenChart.j0 k t121 bt137.2.2.2 (bt137.2.2.2 != t121) a0_0 a0_1 l0_2 l0_3 a0_4 l0_5 a0_6 t116 t117 t118 bt123.1 bt123.2.1 bt123.2.2.1 bt123.2.2.2.1 bt123.2.2.2.2.1 bt123.2.2.2.2.2.1 bt123.2.2.2.2.2.2 bt137.1 bt137.2.1 bt137.2.2.1) else (laws_FnExactWovenChart.j0 k t121 bt137.2.2.2 true a0_0 a0_1 l0_2 l0_3 a0_4 l0_5 a0_6 t116 t117 t118 bt123.1 bt123.2.1 bt123.2.2.1 bt123.2.2.2.1 bt123.2.2.2.2.1 bt123.2.2.2.2.2.1 bt123.2.2.2.2.2.2 bt137.1 bt137.2.1 bt137.2.2.1))))) = some r := H
  have A8 := Aside0.mk A80
  clear A80
  replace H := Option.bind_eq_some_iff.mp H
  obtain ⟨⟨t123, t124, t125, t128, t131, t132, t135⟩, A90, H⟩ := H
  replace H : ((impl_WovenChart.f k t123 t124 t125 t128 t131 t132 t135).bind fun bt137 => ((laws_eqChart.f k bt137.1 bt137.2.1 bt137.2.2.1 t116 t117 t118).bind fun t144 => (if t144 = true then (laws_FnExactWovenChart.j0 k t121 bt137.2.2.2 (bt137.2.2.2 != t121) a0_0 a0_1 l0_2 l0_3 a0_4 l0_5 a0_6 t116 t117 t118 t123 t124 t125 t128 t131 t132 t135 bt137.1 bt137.2.1 bt137.2.2.1) else (laws_FnExactWovenChart.j0 k t121 bt137.2.2.2 true a0_0 a0_1 l0_2 l0_3 a0_4 l0_5 a0_6 t116 t117 t118 t123 t124 t125 t128 t131 t132 t135 bt137.1 bt137.2.1 bt137.2.2.1)))) = some r := H
  have A9 := Aside0.mk A90
  clear A90
  replace H := Option.bind_eq_some_iff.mp H
  obtain ⟨⟨t137, t138, t139, t142⟩, A100, H⟩ := H
  replace H : ((laws_eqChart.f k t137 t138 t139 t116 t117 t118).bind fun t144 => (if t144 = true then (laws_FnExactWovenChart.j0 k t121 t142 (t142 != t121) a0_0 a0_1 l0_2 l0_3 a0_4 l0_5 a0_6 t116 t117 t118 t123 t124 t125 t128 t131 t132 t135 t137 t138 t139) else (laws_FnExactWovenChart.j0 k t121 t142 true a0_0 a0_1 l0_2 l0_3 a0_4 l0_5 a0_6 t116 t117 t118 t123 t124 t125 t128 t131 t132 t135 t137 t138 t139))) = some r := H
  have A10 := Aside0.mk A100
  clear A100
  have HC11 := Aside0.mk H
  clear H
  go_enter Try.func13, Try.ntmps13
  go_upto_region 8 with (first | ((with_reducible refine gate_dst (N := 1) rfl ?_); refine box_event ?hg (N := 1) ?hd (cs := #[.int .i64 a0_0, .int .i64 a0_1, .slice A0_2 l0_2.length c0_2, .slice A0_3 l0_3.length c0_3, .int .i64 a0_4, .slice A0_5 l0_5.length c0_5, .bool a0_6]) (t := 54) ?hr ?_; (case hd => rfl); (case hg => rfl); (case hr => first | (go_simp; done) | (go_simp; rfl)); intro gb101 hg w12 hbox hb; have n0_ := Aside0.mk (below_step (by exact eS HB.out) hb); have n1_ := Aside0.mk (hbox); have n2_ := Aside0.mk ((by rw [hg]; exact (below_size (by exact eS HB.out)) : w.heap.size ≤ gb101)); have n3_ := Aside0.mk ((by rw [hg]; exact (below_size (by exact eS HB.out)) : w.heap.size ≤ gb101)); clear HB; have HB := n0_; have BK101 := n1_; have GW101 := n2_; have GE101 := n3_; clear n0_ n1_ n2_ n3_; clear hb hbox hg; have hcz13_0 : w12.cell? ⟨gb101, 0, none⟩ = some (.int .i64 a0_0) := (blk_cell BK101.out 0).trans rfl; have hcz13_1 : w12.cell? ⟨gb101, 1, none⟩ = some (.int .i64 a0_1) := (blk_cell BK101.out 1).trans rfl; have hcz13_2 : w12.cell? ⟨gb101, 2, none⟩ = some (.slice A0_2 l0_2.length c0_2) := (blk_cell BK101.out 2).trans rfl; have hcz13_3 : w12.cell? ⟨gb101, 3, none⟩ = some (.slice A0_3 l0_3.length c0_3) := (blk_cell BK101.out 3).trans rfl; have hcz13_4 : w12.cell? ⟨gb101, 4, none⟩ = some (.int .i64 a0_4) := (blk_cell BK101.out 4).trans rfl; have hcz13_5 : w12.cell? ⟨gb101, 5, none⟩ = some (.slice A0_5 l0_5.length c0_5) := (blk_cell BK101.out 5).trans rfl; have hcz13_6 : w12.cell? ⟨gb101, 6, none⟩ = some (.bool a0_6) := (blk_cell BK101.out 6).trans rfl; have hfz13_0 := blk_frozen BK101.out 0; have hfz13_1 := blk_frozen BK101.out 1; have hfz13_2 := blk_frozen BK101.out 2; have hfz13_3 := blk_frozen BK101.out 3; have hfz13_4 := blk_frozen BK101.out 4; have hfz13_5 := blk_frozen BK101.out 5; have hfz13_6 := blk_frozen BK101.out 6) | ((with_reducible refine gate_callee (f := 38) rfl ?_); refine goesL_ (some 16) rfl rfl Try.func38 (by kernel_rfl) rfl #[.agg #[.int .i64 a0_0, .int .i64 a0_1, .slice A0_2 l0_2.length c0_2, .slice A0_3 l0_3.length c0_3, .int .i64 a0_4, .slice A0_5 l0_5.length c0_5, .bool a0_6], .int .i64 1048576] rfl (by (try simp only [List.map_toArray, List.map_cons, List.map_nil]); first | done | rfl | (simp only [List.length_drop, List.length_take]; rfl)) ?_; (with_reducible refine (laws_szWeaving.calls a0_0 a0_1 _ _ l0_2 _ _ l0_3 a0_4 _ _ l0_5 a0_6 1048576 t102 _ ?side1 ?side2 ?side3 ?side4 ?side5 ?side6 A2.out).mono ?_); (case side1 => repeat (first | exact (Kd.C_below HR0_2.out HB.out) | (with_reducible refine Kd.C_alloc ?_ _) | (with_reducible refine Kd.C_drewN ?_ _) | (with_reducible refine Kd.C_drew ?_))); (case side2 => exact HC0_2.out); (case side3 => repeat (first | exact (Kd.C_below HR0_3.out HB.out) | (with_reducible refine Kd.C_alloc ?_ _) | (with_reducible refine Kd.C_drewN ?_ _) | (with_reducible refine Kd.C_drew ?_))); (case side4 => exact HC0_3.out); (case side5 => repeat (first | exact (Kd.C_below HR0_5.out HB.out) | (with_reducible refine Kd.C_alloc ?_ _) | (with_reducible refine Kd.C_drewN ?_ _) | (with_reducible refine Kd.C_drew ?_))); (case side6 => exact HC0_5.out); rintro e w14 ⟨rfl, hb⟩; refine ⟨_, rfl, ?_⟩; have n0_ := Aside0.mk (blk_below (bS BK101.out) hb); have n1_ := Aside0.mk (below_step (by exact eS HB.out) hb); clear BK101; clear HB; have BK101 := n0_; have HB := n1_; clear n0_ n1_; (try clear hb); (try clear hb2); (try clear hk); (try clear hi); have hcz15_0 : w14.cell? ⟨gb101, 0, none⟩ = some (.int .i64 a0_0) := (blk_cell BK101.out 0).trans rfl; have hcz15_1 : w14.cell? ⟨gb101, 1, none⟩ = some (.int .i64 a0_1) := (blk_cell BK101.out 1).trans rfl; have hcz15_2 : w14.cell? ⟨gb101, 2, none⟩ = some (.slice A0_2 l0_2.length c0_2) := (blk_cell BK101.out 2).trans rfl; have hcz15_3 : w14.cell? ⟨gb101, 3, none⟩ = some (.slice A0_3 l0_3.length c0_3) := (blk_cell BK101.out 3).trans rfl; have hcz15_4 : w14.cell? ⟨gb101, 4, none⟩ = some (.int .i64 a0_4) := (blk_cell BK101.out 4).trans rfl; have hcz15_5 : w14.cell? ⟨gb101, 5, none⟩ = some (.slice A0_5 l0_5.length c0_5) := (blk_cell BK101.out 5).trans rfl; have hcz15_6 : w14.cell? ⟨gb101, 6, none⟩ = some (.bool a0_6) := (blk_cell BK101.out 6).trans rfl; have hfz15_0 := blk_frozen BK101.out 0; have hfz15_1 := blk_frozen BK101.out 1; have hfz15_2 := blk_frozen BK101.out 2; have hfz15_3 := blk_frozen BK101.out 3; have hfz15_4 := blk_frozen BK101.out 4; have hfz15_5 := blk_frozen BK101.out 5; have hfz15_6 := blk_frozen BK101.out 6) | ((with_reducible refine gate_callee (f := 40) rfl ?_); refine goesL_ (some 21) rfl rfl Try.func40 (by kernel_rfl) rfl #[.agg #[.int .i64 a0_0, .int .i64 a0_1, .slice A0_2 l0_2.length c0_2, .slice A0_3 l0_3.length c0_3, .int .i64 a0_4, .slice A0_5 l0_5.length c0_5, .bool a0_6]] rfl (by (try simp only [List.map_toArray, List.map_cons, List.map_nil]); first | done | rfl | (simp only [List.length_drop, List.length_take]; rfl)) ?_; (with_reducible refine (laws_toWeaving.calls k a0_0 a0_1 _ _ l0_2 _ _ l0_3 a0_4 _ _ l0_5 a0_6 t103 t104 t105 t108 t111 t112 t115 _ ?side1 ?side2 ?side3 ?side4 ?side5 ?side6 A7.out).mono ?_); (case side1 => repeat (first | exact (Kd.C_below HR0_2.out HB.out) | (with_reducible refine Kd.C_alloc ?_ _) | (with_reducible refine Kd.C_drewN ?_ _) | (with_reducible refine Kd.C_drew ?_))); (case side2 => exact HC0_2.out); (case side3 => repeat (first | exact (Kd.C_below HR0_3.out HB.out) | (with_reducible refine Kd.C_alloc ?_ _) | (with_reducible refine Kd.C_drewN ?_ _) | (with_reducible refine Kd.C_drew ?_))); (case side4 => exact HC0_3.out); (case side5 => repeat (first | exact (Kd.C_below HR0_5.out HB.out) | (with_reducible refine Kd.C_alloc ?_ _) | (with_reducible refine Kd.C_drewN ?_ _) | (with_reducible refine Kd.C_drew ?_))); (case side6 => exact HC0_5.out); rintro e w16 ⟨v106, v109, v113, rfl, ho0, ho1, ho2, hb⟩; refine ⟨_, rfl, ?_⟩; have n0_ := Aside0.mk (Kd.R_lower ho0 (below_size (by exact eS HB.out))); have n1_ := Aside0.mk (Kd.R_lower ho1 (below_size (by exact eS HB.out))); have n2_ := Aside0.mk (Kd.R_lower ho2 (below_size (by exact eS HB.out))); have n3_ := Aside0.mk (blk_below (bS BK101.out) hb); have n4_ := Aside0.mk (below_step (by exact eS HB.out) hb); clear BK101; clear HB; have HO107 := n0_; have HO110 := n1_; have HO114 := n2_; have BK101 := n3_; have HB := n4_; clear n0_ n1_ n2_ n3_ n4_; (try clear hb); (try clear hb2); (try clear hk); (try clear hi); (try clear ho0); (try clear ho1); (try clear ho2); obtain ⟨Ao17, co17, eo17⟩ := Kd.R_slice HO107.out; subst eo17; obtain ⟨Ao18, co18, eo18⟩ := Kd.R_slice HO110.out; subst eo18; obtain ⟨Ao19, co19, eo19⟩ := Kd.R_slice HO114.out; subst eo19) | ((with_reducible refine gate_callee (f := 50) rfl ?_); refine goesL_ (some 22) rfl rfl Try.func50 (by kernel_rfl) rfl #[.agg #[.int .i64 t103, .int .i64 t104, .slice Ao17 t105.length co17, .slice Ao18 t108.length co18, .int .i64 t111, .slice Ao19 t112.length co19, .bool t115]] rfl (by (try simp only [List.map_toArray, List.map_cons, List.map_nil]); first | done | rfl | (simp only [List.length_drop, List.length_take]; rfl)) ?_; (with_reducible refine (spec_WovenChart.calls k t103 t104 _ _ t105 _ _ t108 t111 _ _ t112 t115 t116 t117 t118 t121 _ ?side1 ?side2 ?side3 ?side4 ?side5 ?side6 A8.out).mono ?_); (case side1 => repeat (first | exact (Kd.R_reads' HO107.out).2.2 | (with_reducible refine Kd.C_alloc ?_ _) | (with_reducible refine Kd.C_drewN ?_ _) | (with_reducible refine Kd.C_drew ?_))); (case side2 => exact (Kd.R_reads' HO107.out).2.1); (case side3 => repeat (first | exact (Kd.R_reads' HO110.out).2.2 | (with_reducible refine Kd.C_alloc ?_ _) | (with_reducible refine Kd.C_drewN ?_ _) | (with_reducible refine Kd.C_drew ?_))); (case side4 => exact (Kd.R_reads' HO110.out).2.1); (case side5 => repeat (first | exact (Kd.R_reads' HO114.out).2.2 | (with_reducible refine Kd.C_alloc ?_ _) | (with_reducible refine Kd.C_drewN ?_ _) | (with_reducible refine Kd.C_drew ?_))); (case side6 => exact (Kd.R_reads' HO114.out).2.1); rintro e w20 ⟨v119, rfl, ho0, hb⟩; refine ⟨_, rfl, ?_⟩; have n0_ := Aside0.mk (Kd.R_elder' (by exact Ho.RS <| HO107.out) (Kd.R_base ho0) hb); have n1_ := Aside0.mk (Kd.R_elder' (by exact Ho.RS <| HO110.out) (Kd.R_base ho0) hb); have n2_ := Aside0.mk (Kd.R_below (by exact Ho.RS <| HO114.out) hb); have n3_ := Aside0.mk (Kd.R_lower (Kd.R_new' (Kd.R_new' ho0 (Kd.R_lt (by exact Ho.RS <| HO107.out))) (Kd.R_lt (by exact Ho.RS <| HO110.out))) (below_size (by exact eS HB.out))); have n4_ := Aside0.mk (blk_below (bS BK101.out) hb); have n5_ := Aside0.mk (below_step (by exact eS HB.out) hb); clear HO107; clear HO110; clear HO114; clear BK101; clear HB; have HO107 := n0_; have HO110 := n1_; have HO114 := n2_; have HO120 := n3_; have BK101 := n4_; have HB := n5_; clear n0_ n1_ n2_ n3_ n4_ n5_; (try clear hb); (try clear hb2); (try clear hk); (try clear hi); (try clear ho0)) | ((with_reducible refine gate_dst (N := 4) rfl ?_); refine box_event ?hg (N := 4) ?hd (cs := #[.int .i64 0, .int .i64 0, .slice none 0 0]) (t := 30) ?hr ?_; (case hd => rfl); (case hg => rfl); (case hr => first | (go_simp; done) | (go_simp; rfl)); intro gb122 hg w21 hbox hb; have n0_ := Aside0.mk (Kd.R_below (by exact Ho.RS <| HO107.out) hb); have n1_ := Aside0.mk (Kd.R_below (by exact Ho.RS <| HO110.out) hb); have n2_ := Aside0.mk (Kd.R_below (by exact Ho.RS <| HO114.out) hb); have n3_ := Aside0.mk (Kd.R_below (by exact Ho.RS <| HO120.out) hb); have n4_ := Aside0.mk (blk_below (bS BK101.out) hb); have n5_ := Aside0.mk (below_step (by exact eS HB.out) hb); have n6_ := Aside0.mk (hbox); have n7_ := Aside0.mk ((by rw [hg]; exact (below_size (by exact eS HB.out)) : w.heap.size ≤ gb122)); have n8_ := Aside0.mk ((by rw [hg]; exact (below_size (by exact eS HB.out)) : w.heap.size ≤ gb122)); have n9_ := Aside0.mk ((by rw [hg]; exact Nat.ne_of_lt (blk_lt (bS BK101.out)) : gb101 ≠ gb122)); have n10_ := Aside0.mk ((by rw [hg]; exact Nat.ne_of_gt (blk_lt (bS BK101.out)) : gb122 ≠ gb101)); clear HO107; clear HO110; clear HO114; clear HO120; clear BK101; clear HB; have HO107 := n0_; have HO110 := n1_; have HO114 := n2_; have HO120 := n3_; have BK101 := n4_; have HB := n5_; have BK122 := n6_; have GW122 := n7_; have GE122 := n8_; have NB101_122 := n9_; have NB122_101 := n10_; clear n0_ n1_ n2_ n3_ n4_ n5_ n6_ n7_ n8_ n9_ n10_; clear hb hbox hg; have hnb22 := NB122_101.out; have hnc22 := NB101_122.out; have hcz23_0 : w21.cell? ⟨gb122, 0, none⟩ = some (.int .i64 0) := (blk_cell BK122.out 0).trans rfl; have hcz23_1 : w21.cell? ⟨gb122, 1, none⟩ = some (.int .i64 0) := (blk_cell BK122.out 1).trans rfl; have hcz23_2 : w21.cell? ⟨gb122, 2, none⟩ = some (.slice none 0 0) := (blk_cell BK122.out 2).trans rfl; have hfz23_0 := blk_frozen BK122.out 0; have hfz23_1 := blk_frozen BK122.out 1; have hfz23_2 := blk_frozen BK122.out 2; obtain ⟨Ao24, co24, eo24⟩ := Kd.R_slice HO120.out; subst eo24; have hcz25_0 : w21.cell? ⟨gb101, 0, none⟩ = some (.int .i64 a0_0) := (blk_cell BK101.out 0).trans rfl; have hcz25_1 : w21.cell? ⟨gb101, 1, none⟩ = some (.int .i64 a0_1) := (blk_cell BK101.out 1).trans rfl; have hcz25_2 : w21.cell? ⟨gb101, 2, none⟩ = some (.slice A0_2 l0_2.length c0_2) := (blk_cell BK101.out 2).trans rfl; have hcz25_3 : w21.cell? ⟨gb101, 3, none⟩ = some (.slice A0_3 l0_3.length c0_3) := (blk_cell BK101.out 3).trans rfl; have hcz25_4 : w21.cell? ⟨gb101, 4, none⟩ = some (.int .i64 a0_4) := (blk_cell BK101.out 4).trans rfl; have hcz25_5 : w21.cell? ⟨gb101, 5, none⟩ = some (.slice A0_5 l0_5.length c0_5) := (blk_cell BK101.out 5).trans rfl; have hcz25_6 : w21.cell? ⟨gb101, 6, none⟩ = some (.bool a0_6) := (blk_cell BK101.out 6).trans rfl; have hfz25_0 := blk_frozen BK101.out 0; have hfz25_1 := blk_frozen BK101.out 1; have hfz25_2 := blk_frozen BK101.out 2; have hfz25_3 := blk_frozen BK101.out 3; have hfz25_4 := blk_frozen BK101.out 4; have hfz25_5 := blk_frozen BK101.out 5; have hfz25_6 := blk_frozen BK101.out 6) | ((with_reducible refine gate_callee (f := 40) rfl ?_); refine goesL_ (some 26) rfl rfl Try.func40 (by kernel_rfl) rfl #[.agg #[.int .i64 a0_0, .int .i64 a0_1, .slice A0_2 l0_2.length c0_2, .slice A0_3 l0_3.length c0_3, .int .i64 a0_4, .slice A0_5 l0_5.length c0_5, .bool a0_6]] rfl (by (try simp only [List.map_toArray, List.map_cons, List.map_nil]); first | done | rfl | (simp only [List.length_drop, List.length_take]; rfl)) ?_; (with_reducible refine (laws_toWeaving.calls k a0_0 a0_1 _ _ l0_2 _ _ l0_3 a0_4 _ _ l0_5 a0_6 t123 t124 t125 t128 t131 t132 t135 _ ?side1 ?side2 ?side3 ?side4 ?side5 ?side6 A9.out).mono ?_); (case side1 => exact Kd.C_below HR0_2.out (by repeat (first | (with_reducible first | exact HB.out | apply below_alloc | apply pw_below_drewN | apply below_drew1 | refine below_set ?_ GE101.out | refine below_set ?_ GE122.out) | exact HB.out))); (case side2 => exact HC0_2.out); (case side3 => exact Kd.C_below HR0_3.out (by repeat (first | (with_reducible first | exact HB.out | apply below_alloc | apply pw_below_drewN | apply below_drew1 | refine below_set ?_ GE101.out | refine below_set ?_ GE122.out) | exact HB.out))); (case side4 => exact HC0_3.out); (case side5 => exact Kd.C_below HR0_5.out (by repeat (first | (with_reducible first | exact HB.out | apply below_alloc | apply pw_below_drewN | apply below_drew1 | refine below_set ?_ GE101.out | refine below_set ?_ GE122.out) | exact HB.out))); (case side6 => exact HC0_5.out); rintro e w26 ⟨v126, v129, v133, rfl, ho0, ho1, ho2, hb⟩; refine ⟨_, rfl, ?_⟩; have n0_ := Aside0.mk (Kd.R_mono (Kd.R_told (Kd.R_told (Kd.R_old (by exact Ho.RS <| (Kd.R_mono (Kd.R_far (p := ⟨gb122, 2, none⟩) (Kd.R_far (p := ⟨gb122, 1, none⟩) (Kd.R_far (p := ⟨gb122, 0, none⟩) (Kd.R_types HO107.out BK122.out (by decide)) (fun _ hk => hk.2) (.int .i64 t116)) (fun _ hk => hk.2) (.int .i64 t117)) (fun _ hk => hk.2) (.slice Ao24 t118.length co24)) (fun _ h_ => h_.1))) hb) (Kd.R_base ho0)) (Kd.R_base ho1)) (fun _ h_ => h_.1)); have n1_ := Aside0.mk (Kd.R_mono (Kd.R_told (Kd.R_told (Kd.R_old (by exact Ho.RS <| (Kd.R_mono (Kd.R_far (p := ⟨gb122, 2, none⟩) (Kd.R_far (p := ⟨gb122, 1, none⟩) (Kd.R_far (p := ⟨gb122, 0, none⟩) (Kd.R_types HO110.out BK122.out (by decide)) (fun _ hk => hk.2) (.int .i64 t116)) (fun _ hk => hk.2) (.int .i64 t117)) (fun _ hk => hk.2) (.slice Ao24 t118.length co24)) (fun _ h_ => h_.1))) hb) (Kd.R_base ho0)) (Kd.R_base ho1)) (fun _ h_ => h_.1)); have n2_ := Aside0.mk (Kd.R_elder' (by exact Ho.RS <| (Kd.R_mono (Kd.R_far (p := ⟨gb122, 2, none⟩) (Kd.R_far (p := ⟨gb122, 1, none⟩) (Kd.R_far (p := ⟨gb122, 0, none⟩) (Kd.R_types HO114.out BK122.out (by decide)) (fun _ hk => hk.2) (.int .i64 t116)) (fun _ hk => hk.2) (.int .i64 t117)) (fun _ hk => hk.2) (.slice Ao24 t118.length co24)) (fun _ h_ => h_.1))) (Kd.R_base ho2) hb); have n3_ := Aside0.mk (Kd.R_mono (Kd.R_told (Kd.R_told (Kd.R_old (by exact Ho.RS <| (Kd.R_mono (Kd.R_far (p := ⟨gb122, 2, none⟩) (Kd.R_far (p := ⟨gb122, 1, none⟩) (Kd.R_far (p := ⟨gb122, 0, none⟩) (Kd.R_types HO120.out BK122.out (by decide)) (fun _ hk => hk.2) (.int .i64 t116)) (fun _ hk => hk.2) (.int .i64 t117)) (fun _ hk => hk.2) (.slice Ao24 t118.length co24)) (fun _ h_ => h_.1))) hb) (Kd.R_base ho0)) (Kd.R_base ho1)) (fun _ h_ => h_.1)); have n4_ := Aside0.mk (Kd.R_lower (Kd.R_new' (Kd.R_new' (Kd.R_new' ho0 (Kd.R_lt (by exact Ho.RS <| (Kd.R_mono (Kd.R_far (p := ⟨gb122, 2, none⟩) (Kd.R_far (p := ⟨gb122, 1, none⟩) (Kd.R_far (p := ⟨gb122, 0, none⟩) (Kd.R_types HO107.out BK122.out (by decide)) (fun _ hk => hk.2) (.int .i64 t116)) (fun _ hk => hk.2) (.int .i64 t117)) (fun _ hk => hk.2) (.slice Ao24 t118.length co24)) (fun _ h_ => h_.1))))) (Kd.R_lt (by exact Ho.RS <| (Kd.R_mono (Kd.R_far (p := ⟨gb122, 2, none⟩) (Kd.R_far (p := ⟨gb122, 1, none⟩) (Kd.R_far (p := ⟨gb122, 0, none⟩) (Kd.R_types HO110.out BK122.out (by decide)) (fun _ hk => hk.2) (.int .i64 t116)) (fun _ hk => hk.2) (.int .i64 t117)) (fun _ hk => hk.2) (.slice Ao24 t118.length co24)) (fun _ h_ => h_.1))))) (Kd.R_lt (by exact Ho.RS <| (Kd.R_mono (Kd.R_far (p := ⟨gb122, 2, none⟩) (Kd.R_far (p := ⟨gb122, 1, none⟩) (Kd.R_far (p := ⟨gb122, 0, none⟩) (Kd.R_types HO120.out BK122.out (by decide)) (fun _ hk => hk.2) (.int .i64 t116)) (fun _ hk => hk.2) (.int .i64 t117)) (fun _ hk => hk.2) (.slice Ao24 t118.length co24)) (fun _ h_ => h_.1))))) (below_size (by repeat (first | (with_reducible first | exact HB.out | apply below_alloc | apply pw_below_drewN | apply below_drew1 | refine below_set ?_ GE101.out | refine below_set ?_ GE122.out) | exact HB.out)))); have n5_ := Aside0.mk (Kd.R_lower (Kd.R_new' (Kd.R_new' (Kd.R_new' ho1 (Kd.R_lt (by exact Ho.RS <| (Kd.R_mono (Kd.R_far (p := ⟨gb122, 2, none⟩) (Kd.R_far (p := ⟨gb122, 1, none⟩) (Kd.R_far (p := ⟨gb122, 0, none⟩) (Kd.R_types HO107.out BK122.out (by decide)) (fun _ hk => hk.2) (.int .i64 t116)) (fun _ hk => hk.2) (.int .i64 t117)) (fun _ hk => hk.2) (.slice Ao24 t118.length co24)) (fun _ h_ => h_.1))))) (Kd.R_lt (by exact Ho.RS <| (Kd.R_mono (Kd.R_far (p := ⟨gb122, 2, none⟩) (Kd.R_far (p := ⟨gb122, 1, none⟩) (Kd.R_far (p := ⟨gb122, 0, none⟩) (Kd.R_types HO110.out BK122.out (by decide)) (fun _ hk => hk.2) (.int .i64 t116)) (fun _ hk => hk.2) (.int .i64 t117)) (fun _ hk => hk.2) (.slice Ao24 t118.length co24)) (fun _ h_ => h_.1))))) (Kd.R_lt (by exact Ho.RS <| (Kd.R_mono (Kd.R_far (p := ⟨gb122, 2, none⟩) (Kd.R_far (p := ⟨gb122, 1, none⟩) (Kd.R_far (p := ⟨gb122, 0, none⟩) (Kd.R_types HO120.out BK122.out (by decide)) (fun _ hk => hk.2) (.int .i64 t116)) (fun _ hk => hk.2) (.int .i64 t117)) (fun _ hk => hk.2) (.slice Ao24 t118.length co24)) (fun _ h_ => h_.1))))) (below_size (by repeat (first | (with_reducible first | exact HB.out | apply below_alloc | apply pw_below_drewN | apply below_drew1 | refine below_set ?_ GE101.out | refine below_set ?_ GE122.out) | exact HB.out)))); have n6_ := Aside0.mk (Kd.R_lower (Kd.R_new' ho2 (Kd.R_lt (by exact Ho.RS <| (Kd.R_mono (Kd.R_far (p := ⟨gb122, 2, none⟩) (Kd.R_far (p := ⟨gb122, 1, none⟩) (Kd.R_far (p := ⟨gb122, 0, none⟩) (Kd.R_types HO114.out BK122.out (by decide)) (fun _ hk => hk.2) (.int .i64 t116)) (fun _ hk => hk.2) (.int .i64 t117)) (fun _ hk => hk.2) (.slice Ao24 t118.length co24)) (fun _ h_ => h_.1))))) (below_size (by repeat (first | (with_reducible first | exact HB.out | apply below_alloc | apply pw_below_drewN | apply below_drew1 | refine below_set ?_ GE101.out | refine below_set ?_ GE122.out) | exact HB.out)))); have n7_ := Aside0.mk (blk_below (g := gb101) (o := .cells #[.int .i64 a0_0, .int .i64 a0_1, .slice A0_2 l0_2.length c0_2, .slice A0_3 l0_3.length c0_3, .int .i64 a0_4, .slice A0_5 l0_5.length c0_5, .bool a0_6] 54 (0, 0)) (by (with_reducible repeat (first | refine blk_drewN ?_ _ | refine blk_drew ?_ | refine blk_alloc ?_ _)); refine blk_far ?_ NB101_122.out _; (with_reducible repeat (first | refine blk_drewN ?_ _ | refine blk_drew ?_ | refine blk_alloc ?_ _)); refine blk_far ?_ NB101_122.out _; (with_reducible repeat (first | refine blk_drewN ?_ _ | refine blk_drew ?_ | refine blk_alloc ?_ _)); refine blk_far ?_ NB101_122.out _; exact bS BK101.out) hb); have n8_ := Aside0.mk (blk_below (g := gb122) (o := .cells #[.int .i64 t116, .int .i64 t117, .slice Ao24 t118.length co24] 30 (0, 0)) (by (with_reducible repeat (first | refine blk_drewN ?_ _ | refine blk_drew ?_ | refine blk_alloc ?_ _)); refine blk_put (cs := #[.int .i64 t116, .int .i64 t117, .slice none 0 0]) ?_ 2 _ rfl; (with_reducible repeat (first | refine blk_drewN ?_ _ | refine blk_drew ?_ | refine blk_alloc ?_ _)); refine blk_put (cs := #[.int .i64 t116, .int .i64 0, .slice none 0 0]) ?_ 1 _ rfl; (with_reducible repeat (first | refine blk_drewN ?_ _ | refine blk_drew ?_ | refine blk_alloc ?_ _)); refine blk_put (cs := #[.int .i64 0, .int .i64 0, .slice none 0 0]) ?_ 0 _ rfl; exact bS BK122.out) hb); have n9_ := Aside0.mk (below_step (by repeat (first | (with_reducible first | exact HB.out | apply below_alloc | apply pw_below_drewN | apply below_drew1 | refine below_set ?_ GE101.out | refine below_set ?_ GE122.out) | exact HB.out)) hb); clear HO107; clear HO110; clear HO114; clear HO120; clear BK101; clear BK122; clear HB; have HO107 := n0_; have HO110 := n1_; have HO114 := n2_; have HO120 := n3_; have HO127 := n4_; have HO130 := n5_; have HO134 := n6_; have BK101 := n7_; have BK122 := n8_; have HB := n9_; clear n0_ n1_ n2_ n3_ n4_ n5_ n6_ n7_ n8_ n9_; (try clear hb); (try clear hb2); (try clear hk); (try clear hi); (try clear ho0); (try clear ho1); (try clear ho2)) | ((with_reducible refine gate_dst (N := 6) rfl ?_); refine box_event ?hg (N := 6) ?hd (cs := #[.int .i64 0, .int .i64 0, .slice none 0 0, .slice none 0 0, .int .i64 0, .slice none 0 0, .bool false]) (t := 59) ?hr ?_; (case hd => rfl); (case hg => rfl); (case hr => first | (go_simp; done) | (go_simp; rfl)); intro gb136 hg w27 hbox hb; have n0_ := Aside0.mk (Kd.R_below (by exact Ho.RS <| HO107.out) hb); have n1_ := Aside0.mk (Kd.R_below (by exact Ho.RS <| HO110.out) hb); have n2_ := Aside0.mk (Kd.R_below (by exact Ho.RS <| HO114.out) hb); have n3_ := Aside0.mk (Kd.R_below (by exact Ho.RS <| HO120.out) hb); have n4_ := Aside0.mk (Kd.R_below (by exact Ho.RS <| HO127.out) hb); have n5_ := Aside0.mk (Kd.R_below (by exact Ho.RS <| HO130.out) hb); have n6_ := Aside0.mk (Kd.R_below (by exact Ho.RS <| HO134.out) hb); have n7_ := Aside0.mk (blk_below (bS BK101.out) hb); have n8_ := Aside0.mk (blk_below (bS BK122.out) hb); have n9_ := Aside0.mk (below_step (by exact eS HB.out) hb); have n10_ := Aside0.mk (hbox); have n11_ := Aside0.mk ((by rw [hg]; exact (below_size (by exact eS HB.out)) : w.heap.size ≤ gb136)); have n12_ := Aside0.mk ((by rw [hg]; exact (below_size (by exact eS HB.out)) : w.heap.size ≤ gb136)); have n13_ := Aside0.mk ((by rw [hg]; exact Nat.ne_of_lt (blk_lt (bS BK101.out)) : gb101 ≠ gb136)); have n14_ := Aside0.mk ((by rw [hg]; exact Nat.ne_of_gt (blk_lt (bS BK101.out)) : gb136 ≠ gb101)); have n15_ := Aside0.mk ((by rw [hg]; exact Nat.ne_of_lt (blk_lt (bS BK122.out)) : gb122 ≠ gb136)); have n16_ := Aside0.mk ((by rw [hg]; exact Nat.ne_of_gt (blk_lt (bS BK122.out)) : gb136 ≠ gb122)); clear HO107; clear HO110; clear HO114; clear HO120; clear HO127; clear HO130; clear HO134; clear BK101; clear BK122; clear HB; have HO107 := n0_; have HO110 := n1_; have HO114 := n2_; have HO120 := n3_; have HO127 := n4_; have HO130 := n5_; have HO134 := n6_; have BK101 := n7_; have BK122 := n8_; have HB := n9_; have BK136 := n10_; have GW136 := n11_; have GE136 := n12_; have NB101_136 := n13_; have NB136_101 := n14_; have NB122_136 := n15_; have NB136_122 := n16_; clear n0_ n1_ n2_ n3_ n4_ n5_ n6_ n7_ n8_ n9_ n10_ n11_ n12_ n13_ n14_ n15_ n16_; clear hb hbox hg; have hnb28 := NB136_101.out; have hnc28 := NB101_136.out; have hnb29 := NB136_122.out; have hnc29 := NB122_136.out; have hcz30_0 : w27.cell? ⟨gb136, 0, none⟩ = some (.int .i64 0) := (blk_cell BK136.out 0).trans rfl; have hcz30_1 : w27.cell? ⟨gb136, 1, none⟩ = some (.int .i64 0) := (blk_cell BK136.out 1).trans rfl; have hcz30_2 : w27.cell? ⟨gb136, 2, none⟩ = some (.slice none 0 0) := (blk_cell BK136.out 2).trans rfl; have hcz30_3 : w27.cell? ⟨gb136, 3, none⟩ = some (.slice none 0 0) := (blk_cell BK136.out 3).trans rfl; have hcz30_4 : w27.cell? ⟨gb136, 4, none⟩ = some (.int .i64 0) := (blk_cell BK136.out 4).trans rfl; have hcz30_5 : w27.cell? ⟨gb136, 5, none⟩ = some (.slice none 0 0) := (blk_cell BK136.out 5).trans rfl; have hcz30_6 : w27.cell? ⟨gb136, 6, none⟩ = some (.bool false) := (blk_cell BK136.out 6).trans rfl; have hfz30_0 := blk_frozen BK136.out 0; have hfz30_1 := blk_frozen BK136.out 1; have hfz30_2 := blk_frozen BK136.out 2; have hfz30_3 := blk_frozen BK136.out 3; have hfz30_4 := blk_frozen BK136.out 4; have hfz30_5 := blk_frozen BK136.out 5; have hfz30_6 := blk_frozen BK136.out 6; obtain ⟨Ao31, co31, eo31⟩ := Kd.R_slice HO127.out; subst eo31; obtain ⟨Ao32, co32, eo32⟩ := Kd.R_slice HO130.out; subst eo32; obtain ⟨Ao33, co33, eo33⟩ := Kd.R_slice HO134.out; subst eo33) | ((with_reducible refine gate_callee (f := 51) rfl ?_); refine goesL_ (some 29) rfl rfl Try.func51 (by kernel_rfl) rfl #[.agg #[.int .i64 t123, .int .i64 t124, .slice Ao31 t125.length co31, .slice Ao32 t128.length co32, .int .i64 t131, .slice Ao33 t132.length co33, .bool t135]] rfl (by (try simp only [List.map_toArray, List.map_cons, List.map_nil]); first | done | rfl | (simp only [List.length_drop, List.length_take]; rfl)) ?_; (with_reducible refine (impl_WovenChart.calls k t123 t124 _ _ t125 _ _ t128 t131 _ _ t132 t135 t137 t138 t139 t142 _ ?side1 ?side2 ?side3 ?side4 ?side5 ?side6 A10.out).mono ?_); (case side1 => refine (Kd.R_reads' (e := 3) (base := w.heap.size) (ok := fun k_ => (((some k_ ≠ (.slice Ao32 t128.length co32 : Value).ownBlock ∧ some k_ ≠ (.slice Ao17 t105.length co17 : Value).ownBlock) ∧ some k_ ≠ (.slice Ao18 t108.length co18 : Value).ownBlock) ∧ some k_ ≠ (.slice Ao24 t118.length co24 : Value).ownBlock)) (n := t125.length) (c := co31) ?_).2.2; exact (by exact Ho.RS <| (Kd.R_mono (Kd.R_far (p := ⟨gb136, 6, none⟩) (Kd.R_far (p := ⟨gb136, 5, none⟩) (Kd.R_far (p := ⟨gb136, 4, none⟩) (Kd.R_far (p := ⟨gb136, 3, none⟩) (Kd.R_far (p := ⟨gb136, 2, none⟩) (Kd.R_far (p := ⟨gb136, 1, none⟩) (Kd.R_far (p := ⟨gb136, 0, none⟩) (Kd.R_types HO127.out BK136.out (by decide)) (fun _ hk => hk.2) (.int .i64 t123)) (fun _ hk => hk.2) (.int .i64 t124)) (fun _ hk => hk.2) (.slice Ao31 t125.length co31)) (fun _ hk => hk.2) (.slice Ao32 t128.length co32)) (fun _ hk => hk.2) (.int .i64 t131)) (fun _ hk => hk.2) (.slice Ao33 t132.length co33)) (fun _ hk => hk.2) (.bool t135)) (fun _ h_ => h_.1)))); (case side2 => exact (Kd.R_reads' HO127.out).2.1); (case side3 => refine (Kd.R_reads' (e := 3) (base := w.heap.size) (ok := fun k_ => (((some k_ ≠ (.slice Ao31 t125.length co31 : Value).ownBlock ∧ some k_ ≠ (.slice Ao17 t105.length co17 : Value).ownBlock) ∧ some k_ ≠ (.slice Ao18 t108.length co18 : Value).ownBlock) ∧ some k_ ≠ (.slice Ao24 t118.length co24 : Value).ownBlock)) (n := t128.length) (c := co32) ?_).2.2; exact (by exact Ho.RS <| (Kd.R_mono (Kd.R_far (p := ⟨gb136, 6, none⟩) (Kd.R_far (p := ⟨gb136, 5, none⟩) (Kd.R_far (p := ⟨gb136, 4, none⟩) (Kd.R_far (p := ⟨gb136, 3, none⟩) (Kd.R_far (p := ⟨gb136, 2, none⟩) (Kd.R_far (p := ⟨gb136, 1, none⟩) (Kd.R_far (p := ⟨gb136, 0, none⟩) (Kd.R_types HO130.out BK136.out (by decide)) (fun _ hk => hk.2) (.int .i64 t123)) (fun _ hk => hk.2) (.int .i64 t124)) (fun _ hk => hk.2) (.slice Ao31 t125.length co31)) (fun _ hk => hk.2) (.slice Ao32 t128.length co32)) (fun _ hk => hk.2) (.int .i64 t131)) (fun _ hk => hk.2) (.slice Ao33 t132.length co33)) (fun _ hk => hk.2) (.bool t135)) (fun _ h_ => h_.1)))); (case side4 => exact (Kd.R_reads' HO130.out).2.1); (case side5 => refine (Kd.R_reads' (e := 89) (base := w.heap.size) (ok := fun k_ => (True ∧ some k_ ≠ (.slice Ao19 t112.length co19 : Value).ownBlock)) (n := t132.length) (c := co33) ?_).2.2; exact (by exact Ho.RS <| (Kd.R_mono (Kd.R_far (p := ⟨gb136, 6, none⟩) (Kd.R_far (p := ⟨gb136, 5, none⟩) (Kd.R_far (p := ⟨gb136, 4, none⟩) (Kd.R_far (p := ⟨gb136, 3, none⟩) (Kd.R_far (p := ⟨gb136, 2, none⟩) (Kd.R_far (p := ⟨gb136, 1, none⟩) (Kd.R_far (p := ⟨gb136, 0, none⟩) (Kd.R_types HO134.out BK136.out (by decide)) (fun _ hk => hk.2) (.int .i64 t123)) (fun _ hk => hk.2) (.int .i64 t124)) (fun _ hk => hk.2) (.slice Ao31 t125.length co31)) (fun _ hk => hk.2) (.slice Ao32 t128.length co32)) (fun _ hk => hk.2) (.int .i64 t131)) (fun _ hk => hk.2) (.slice Ao33 t132.length co33)) (fun _ hk => hk.2) (.bool t135)) (fun _ h_ => h_.1)))); (case side6 => exact (Kd.R_reads' HO134.out).2.1); rintro e w34 ⟨v140, rfl, ho0, hb⟩; refine ⟨_, rfl, ?_⟩; have n0_ := Aside0.mk (Kd.R_elder' (by exact Ho.RS <| (Kd.R_mono (Kd.R_far (p := ⟨gb136, 6, none⟩) (Kd.R_far (p := ⟨gb136, 5, none⟩) (Kd.R_far (p := ⟨gb136, 4, none⟩) (Kd.R_far (p := ⟨gb136, 3, none⟩) (Kd.R_far (p := ⟨gb136, 2, none⟩) (Kd.R_far (p := ⟨gb136, 1, none⟩) (Kd.R_far (p := ⟨gb136, 0, none⟩) (Kd.R_types HO107.out BK136.out (by decide)) (fun _ hk => hk.2) (.int .i64 t123)) (fun _ hk => hk.2) (.int .i64 t124)) (fun _ hk => hk.2) (.slice Ao31 t125.length co31)) (fun _ hk => hk.2) (.slice Ao32 t128.length co32)) (fun _ hk => hk.2) (.int .i64 t131)) (fun _ hk => hk.2) (.slice Ao33 t132.length co33)) (fun _ hk => hk.2) (.bool t135)) (fun _ h_ => h_.1))) (Kd.R_base ho0) hb); have n1_ := Aside0.mk (Kd.R_elder' (by exact Ho.RS <| (Kd.R_mono (Kd.R_far (p := ⟨gb136, 6, none⟩) (Kd.R_far (p := ⟨gb136, 5, none⟩) (Kd.R_far (p := ⟨gb136, 4, none⟩) (Kd.R_far (p := ⟨gb136, 3, none⟩) (Kd.R_far (p := ⟨gb136, 2, none⟩) (Kd.R_far (p := ⟨gb136, 1, none⟩) (Kd.R_far (p := ⟨gb136, 0, none⟩) (Kd.R_types HO110.out BK136.out (by decide)) (fun _ hk => hk.2) (.int .i64 t123)) (fun _ hk => hk.2) (.int .i64 t124)) (fun _ hk => hk.2) (.slice Ao31 t125.length co31)) (fun _ hk => hk.2) (.slice Ao32 t128.length co32)) (fun _ hk => hk.2) (.int .i64 t131)) (fun _ hk => hk.2) (.slice Ao33 t132.length co33)) (fun _ hk => hk.2) (.bool t135)) (fun _ h_ => h_.1))) (Kd.R_base ho0) hb); have n2_ := Aside0.mk (Kd.R_below (by exact Ho.RS <| (Kd.R_mono (Kd.R_far (p := ⟨gb136, 6, none⟩) (Kd.R_far (p := ⟨gb136, 5, none⟩) (Kd.R_far (p := ⟨gb136, 4, none⟩) (Kd.R_far (p := ⟨gb136, 3, none⟩) (Kd.R_far (p := ⟨gb136, 2, none⟩) (Kd.R_far (p := ⟨gb136, 1, none⟩) (Kd.R_far (p := ⟨gb136, 0, none⟩) (Kd.R_types HO114.out BK136.out (by decide)) (fun _ hk => hk.2) (.int .i64 t123)) (fun _ hk => hk.2) (.int .i64 t124)) (fun _ hk => hk.2) (.slice Ao31 t125.length co31)) (fun _ hk => hk.2) (.slice Ao32 t128.length co32)) (fun _ hk => hk.2) (.int .i64 t131)) (fun _ hk => hk.2) (.slice Ao33 t132.length co33)) (fun _ hk => hk.2) (.bool t135)) (fun _ h_ => h_.1))) hb); have n3_ := Aside0.mk (Kd.R_elder' (by exact Ho.RS <| (Kd.R_mono (Kd.R_far (p := ⟨gb136, 6, none⟩) (Kd.R_far (p := ⟨gb136, 5, none⟩) (Kd.R_far (p := ⟨gb136, 4, none⟩) (Kd.R_far (p := ⟨gb136, 3, none⟩) (Kd.R_far (p := ⟨gb136, 2, none⟩) (Kd.R_far (p := ⟨gb136, 1, none⟩) (Kd.R_far (p := ⟨gb136, 0, none⟩) (Kd.R_types HO120.out BK136.out (by decide)) (fun _ hk => hk.2) (.int .i64 t123)) (fun _ hk => hk.2) (.int .i64 t124)) (fun _ hk => hk.2) (.slice Ao31 t125.length co31)) (fun _ hk => hk.2) (.slice Ao32 t128.length co32)) (fun _ hk => hk.2) (.int .i64 t131)) (fun _ hk => hk.2) (.slice Ao33 t132.length co33)) (fun _ hk => hk.2) (.bool t135)) (fun _ h_ => h_.1))) (Kd.R_base ho0) hb); have n4_ := Aside0.mk (Kd.R_elder' (by exact Ho.RS <| (Kd.R_mono (Kd.R_far (p := ⟨gb136, 6, none⟩) (Kd.R_far (p := ⟨gb136, 5, none⟩) (Kd.R_far (p := ⟨gb136, 4, none⟩) (Kd.R_far (p := ⟨gb136, 3, none⟩) (Kd.R_far (p := ⟨gb136, 2, none⟩) (Kd.R_far (p := ⟨gb136, 1, none⟩) (Kd.R_far (p := ⟨gb136, 0, none⟩) (Kd.R_types HO127.out BK136.out (by decide)) (fun _ hk => hk.2) (.int .i64 t123)) (fun _ hk => hk.2) (.int .i64 t124)) (fun _ hk => hk.2) (.slice Ao31 t125.length co31)) (fun _ hk => hk.2) (.slice Ao32 t128.length co32)) (fun _ hk => hk.2) (.int .i64 t131)) (fun _ hk => hk.2) (.slice Ao33 t132.length co33)) (fun _ hk => hk.2) (.bool t135)) (fun _ h_ => h_.1))) (Kd.R_base ho0) hb); have n5_ := Aside0.mk (Kd.R_elder' (by exact Ho.RS <| (Kd.R_mono (Kd.R_far (p := ⟨gb136, 6, none⟩) (Kd.R_far (p := ⟨gb136, 5, none⟩) (Kd.R_far (p := ⟨gb136, 4, none⟩) (Kd.R_far (p := ⟨gb136, 3, none⟩) (Kd.R_far (p := ⟨gb136, 2, none⟩) (Kd.R_far (p := ⟨gb136, 1, none⟩) (Kd.R_far (p := ⟨gb136, 0, none⟩) (Kd.R_types HO130.out BK136.out (by decide)) (fun _ hk => hk.2) (.int .i64 t123)) (fun _ hk => hk.2) (.int .i64 t124)) (fun _ hk => hk.2) (.slice Ao31 t125.length co31)) (fun _ hk => hk.2) (.slice Ao32 t128.length co32)) (fun _ hk => hk.2) (.int .i64 t131)) (fun _ hk => hk.2) (.slice Ao33 t132.length co33)) (fun _ hk => hk.2) (.bool t135)) (fun _ h_ => h_.1))) (Kd.R_base ho0) hb); have n6_ := Aside0.mk (Kd.R_below (by exact Ho.RS <| (Kd.R_mono (Kd.R_far (p := ⟨gb136, 6, none⟩) (Kd.R_far (p := ⟨gb136, 5, none⟩) (Kd.R_far (p := ⟨gb136, 4, none⟩) (Kd.R_far (p := ⟨gb136, 3, none⟩) (Kd.R_far (p := ⟨gb136, 2, none⟩) (Kd.R_far (p := ⟨gb136, 1, none⟩) (Kd.R_far (p := ⟨gb136, 0, none⟩) (Kd.R_types HO134.out BK136.out (by decide)) (fun _ hk => hk.2) (.int .i64 t123)) (fun _ hk => hk.2) (.int .i64 t124)) (fun _ hk => hk.2) (.slice Ao31 t125.length co31)) (fun _ hk => hk.2) (.slice Ao32 t128.length co32)) (fun _ hk => hk.2) (.int .i64 t131)) (fun _ hk => hk.2) (.slice Ao33 t132.length co33)) (fun _ hk => hk.2) (.bool t135)) (fun _ h_ => h_.1))) hb); have n7_ := Aside0.mk (Kd.R_lower (Kd.R_new' (Kd.R_new' (Kd.R_new' (Kd.R_new' (Kd.R_new' ho0 (Kd.R_lt (by exact Ho.RS <| (Kd.R_mono (Kd.R_far (p := ⟨gb136, 6, none⟩) (Kd.R_far (p := ⟨gb136, 5, none⟩) (Kd.R_far (p := ⟨gb136, 4, none⟩) (Kd.R_far (p := ⟨gb136, 3, none⟩) (Kd.R_far (p := ⟨gb136, 2, none⟩) (Kd.R_far (p := ⟨gb136, 1, none⟩) (Kd.R_far (p := ⟨gb136, 0, none⟩) (Kd.R_types HO107.out BK136.out (by decide)) (fun _ hk => hk.2) (.int .i64 t123)) (fun _ hk => hk.2) (.int .i64 t124)) (fun _ hk => hk.2) (.slice Ao31 t125.length co31)) (fun _ hk => hk.2) (.slice Ao32 t128.length co32)) (fun _ hk => hk.2) (.int .i64 t131)) (fun _ hk => hk.2) (.slice Ao33 t132.length co33)) (fun _ hk => hk.2) (.bool t135)) (fun _ h_ => h_.1))))) (Kd.R_lt (by exact Ho.RS <| (Kd.R_mono (Kd.R_far (p := ⟨gb136, 6, none⟩) (Kd.R_far (p := ⟨gb136, 5, none⟩) (Kd.R_far (p := ⟨gb136, 4, none⟩) (Kd.R_far (p := ⟨gb136, 3, none⟩) (Kd.R_far (p := ⟨gb136, 2, none⟩) (Kd.R_far (p := ⟨gb136, 1, none⟩) (Kd.R_far (p := ⟨gb136, 0, none⟩) (Kd.R_types HO110.out BK136.out (by decide)) (fun _ hk => hk.2) (.int .i64 t123)) (fun _ hk => hk.2) (.int .i64 t124)) (fun _ hk => hk.2) (.slice Ao31 t125.length co31)) (fun _ hk => hk.2) (.slice Ao32 t128.length co32)) (fun _ hk => hk.2) (.int .i64 t131)) (fun _ hk => hk.2) (.slice Ao33 t132.length co33)) (fun _ hk => hk.2) (.bool t135)) (fun _ h_ => h_.1))))) (Kd.R_lt (by exact Ho.RS <| (Kd.R_mono (Kd.R_far (p := ⟨gb136, 6, none⟩) (Kd.R_far (p := ⟨gb136, 5, none⟩) (Kd.R_far (p := ⟨gb136, 4, none⟩) (Kd.R_far (p := ⟨gb136, 3, none⟩) (Kd.R_far (p := ⟨gb136, 2, none⟩) (Kd.R_far (p := ⟨gb136, 1, none⟩) (Kd.R_far (p := ⟨gb136, 0, none⟩) (Kd.R_types HO120.out BK136.out (by decide)) (fun _ hk => hk.2) (.int .i64 t123)) (fun _ hk => hk.2) (.int .i64 t124)) (fun _ hk => hk.2) (.slice Ao31 t125.length co31)) (fun _ hk => hk.2) (.slice Ao32 t128.length co32)) (fun _ hk => hk.2) (.int .i64 t131)) (fun _ hk => hk.2) (.slice Ao33 t132.length co33)) (fun _ hk => hk.2) (.bool t135)) (fun _ h_ => h_.1))))) (Kd.R_lt (by exact Ho.RS <| (Kd.R_mono (Kd.R_far (p := ⟨gb136, 6, none⟩) (Kd.R_far (p := ⟨gb136, 5, none⟩) (Kd.R_far (p := ⟨gb136, 4, none⟩) (Kd.R_far (p := ⟨gb136, 3, none⟩) (Kd.R_far (p := ⟨gb136, 2, none⟩) (Kd.R_far (p := ⟨gb136, 1, none⟩) (Kd.R_far (p := ⟨gb136, 0, none⟩) (Kd.R_types HO127.out BK136.out (by decide)) (fun _ hk => hk.2) (.int .i64 t123)) (fun _ hk => hk.2) (.int .i64 t124)) (fun _ hk => hk.2) (.slice Ao31 t125.length co31)) (fun _ hk => hk.2) (.slice Ao32 t128.length co32)) (fun _ hk => hk.2) (.int .i64 t131)) (fun _ hk => hk.2) (.slice Ao33 t132.length co33)) (fun _ hk => hk.2) (.bool t135)) (fun _ h_ => h_.1))))) (Kd.R_lt (by exact Ho.RS <| (Kd.R_mono (Kd.R_far (p := ⟨gb136, 6, none⟩) (Kd.R_far (p := ⟨gb136, 5, none⟩) (Kd.R_far (p := ⟨gb136, 4, none⟩) (Kd.R_far (p := ⟨gb136, 3, none⟩) (Kd.R_far (p := ⟨gb136, 2, none⟩) (Kd.R_far (p := ⟨gb136, 1, none⟩) (Kd.R_far (p := ⟨gb136, 0, none⟩) (Kd.R_types HO130.out BK136.out (by decide)) (fun _ hk => hk.2) (.int .i64 t123)) (fun _ hk => hk.2) (.int .i64 t124)) (fun _ hk => hk.2) (.slice Ao31 t125.length co31)) (fun _ hk => hk.2) (.slice Ao32 t128.length co32)) (fun _ hk => hk.2) (.int .i64 t131)) (fun _ hk => hk.2) (.slice Ao33 t132.length co33)) (fun _ hk => hk.2) (.bool t135)) (fun _ h_ => h_.1))))) (below_size (by repeat (first | (with_reducible first | exact HB.out | apply below_alloc | apply pw_below_drewN | apply below_drew1 | refine below_set ?_ GE101.out | refine below_set ?_ GE122.out | refine below_set ?_ GE136.out) | exact HB.out)))); have n8_ := Aside0.mk (blk_below (g := gb101) (o := .cells #[.int .i64 a0_0, .int .i64 a0_1, .slice A0_2 l0_2.length c0_2, .slice A0_3 l0_3.length c0_3, .int .i64 a0_4, .slice A0_5 l0_5.length c0_5, .bool a0_6] 54 (0, 0)) (by (with_reducible repeat (first | refine blk_drewN ?_ _ | refine blk_drew ?_ | refine blk_alloc ?_ _)); refine blk_far ?_ NB101_136.out _; (with_reducible repeat (first | refine blk_drewN ?_ _ | refine blk_drew ?_ | refine blk_alloc ?_ _)); refine blk_far ?_ NB101_136.out _; (with_reducible repeat (first | refine blk_drewN ?_ _ | refine blk_drew ?_ | refine blk_alloc ?_ _)); refine blk_far ?_ NB101_136.out _; (with_reducible repeat (first | refine blk_drewN ?_ _ | refine blk_drew ?_ | refine blk_alloc ?_ _)); refine blk_far ?_ NB101_136.out _; (with_reducible repeat (first | refine blk_drewN ?_ _ | refine blk_drew ?_ | refine blk_alloc ?_ _)); refine blk_far ?_ NB101_136.out _; (with_reducible repeat (first | refine blk_drewN ?_ _ | refine blk_drew ?_ | refine blk_alloc ?_ _)); refine blk_far ?_ NB101_136.out _; (with_reducible repeat (first | refine blk_drewN ?_ _ | refine blk_drew ?_ | refine blk_alloc ?_ _)); refine blk_far ?_ NB101_136.out _; exact bS BK101.out) hb); have n9_ := Aside0.mk (blk_below (g := gb122) (o := .cells #[.int .i64 t116, .int .i64 t117, .slice Ao24 t118.length co24] 30 (0, 0)) (by (with_reducible repeat (first | refine blk_drewN ?_ _ | refine blk_drew ?_ | refine blk_alloc ?_ _)); refine blk_far ?_ NB122_136.out _; (with_reducible repeat (first | refine blk_drewN ?_ _ | refine blk_drew ?_ | refine blk_alloc ?_ _)); refine blk_far ?_ NB122_136.out _; (with_reducible repeat (first | refine blk_drewN ?_ _ | refine blk_drew ?_ | refine blk_alloc ?_ _)); refine blk_far ?_ NB122_136.out _; (with_reducible repeat (first | refine blk_drewN ?_ _ | refine blk_drew ?_ | refine blk_alloc ?_ _)); refine blk_far ?_ NB122_136.out _; (with_reducible repeat (first | refine blk_drewN ?_ _ | refine blk_drew ?_ | refine blk_alloc ?_ _)); refine blk_far ?_ NB122_136.out _; (with_reducible repeat (first | refine blk_drewN ?_ _ | refine blk_drew ?_ | refine blk_alloc ?_ _)); refine blk_far ?_ NB122_136.out _; (with_reducible repeat (first | refine blk_drewN ?_ _ | refine blk_drew ?_ | refine blk_alloc ?_ _)); refine blk_far ?_ NB122_136.out _; exact bS BK122.out) hb); have n10_ := Aside0.mk (blk_below (g := gb136) (o := .cells #[.int .i64 t123, .int .i64 t124, .slice Ao31 t125.length co31, .slice Ao32 t128.length co32, .int .i64 t131, .slice Ao33 t132.length co33, .bool t135] 59 (0, 0)) (by (with_reducible repeat (first | refine blk_drewN ?_ _ | refine blk_drew ?_ | refine blk_alloc ?_ _)); refine blk_put (cs := #[.int .i64 t123, .int .i64 t124, .slice Ao31 t125.length co31, .slice Ao32 t128.length co32, .int .i64 t131, .slice Ao33 t132.length co33, .bool false]) ?_ 6 _ rfl; (with_reducible repeat (first | refine blk_drewN ?_ _ | refine blk_drew ?_ | refine blk_alloc ?_ _)); refine blk_put (cs := #[.int .i64 t123, .int .i64 t124, .slice Ao31 t125.length co31, .slice Ao32 t128.length co32, .int .i64 t131, .slice none 0 0, .bool false]) ?_ 5 _ rfl; (with_reducible repeat (first | refine blk_drewN ?_ _ | refine blk_drew ?_ | refine blk_alloc ?_ _)); refine blk_put (cs := #[.int .i64 t123, .int .i64 t124, .slice Ao31 t125.length co31, .slice Ao32 t128.length co32, .int .i64 0, .slice none 0 0, .bool false]) ?_ 4 _ rfl; (with_reducible repeat (first | refine blk_drewN ?_ _ | refine blk_drew ?_ | refine blk_alloc ?_ _)); refine blk_put (cs := #[.int .i64 t123, .int .i64 t124, .slice Ao31 t125.length co31, .slice none 0 0, .int .i64 0, .slice none 0 0, .bool false]) ?_ 3 _ rfl; (with_reducible repeat (first | refine blk_drewN ?_ _ | refine blk_drew ?_ | refine blk_alloc ?_ _)); refine blk_put (cs := #[.int .i64 t123, .int .i64 t124, .slice none 0 0, .slice none 0 0, .int .i64 0, .slice none 0 0, .bool false]) ?_ 2 _ rfl; (with_reducible repeat (first | refine blk_drewN ?_ _ | refine blk_drew ?_ | refine blk_alloc ?_ _)); refine blk_put (cs := #[.int .i64 t123, .int .i64 0, .slice none 0 0, .slice none 0 0, .int .i64 0, .slice none 0 0, .bool false]) ?_ 1 _ rfl; (with_reducible repeat (first | refine blk_drewN ?_ _ | refine blk_drew ?_ | refine blk_alloc ?_ _)); refine blk_put (cs := #[.int .i64 0, .int .i64 0, .slice none 0 0, .slice none 0 0, .int .i64 0, .slice none 0 0, .bool false]) ?_ 0 _ rfl; exact bS BK136.out) hb); have n11_ := Aside0.mk (below_step (by repeat (first | (with_reducible first | exact HB.out | apply below_alloc | apply pw_below_drewN | apply below_drew1 | refine below_set ?_ GE101.out | refine below_set ?_ GE122.out | refine below_set ?_ GE136.out) | exact HB.out)) hb); clear HO107; clear HO110; clear HO114; clear HO120; clear HO127; clear HO130; clear HO134; clear BK101; clear BK122; clear BK136; clear HB; have HO107 := n0_; have HO110 := n1_; have HO114 := n2_; have HO120 := n3_; have HO127 := n4_; have HO130 := n5_; have HO134 := n6_; have HO141 := n7_; have BK101 := n8_; have BK122 := n9_; have BK136 := n10_; have HB := n11_; clear n0_ n1_ n2_ n3_ n4_ n5_ n6_ n7_ n8_ n9_ n10_ n11_; (try clear hb); (try clear hb2); (try clear hk); (try clear hi); (try clear ho0)) | ((with_reducible refine gate_dst (N := 7) rfl ?_); refine box_event ?hg (N := 7) ?hd (cs := #[.int .i64 0, .int .i64 0, .slice none 0 0]) (t := 30) ?hr ?_; (case hd => rfl); (case hg => rfl); (case hr => first | (go_simp; done) | (go_simp; rfl)); intro gb143 hg w35 hbox hb; have n0_ := Aside0.mk (Kd.R_below (by exact Ho.RS <| HO107.out) hb); have n1_ := Aside0.mk (Kd.R_below (by exact Ho.RS <| HO110.out) hb); have n2_ := Aside0.mk (Kd.R_below (by exact Ho.RS <| HO114.out) hb); have n3_ := Aside0.mk (Kd.R_below (by exact Ho.RS <| HO120.out) hb); have n4_ := Aside0.mk (Kd.R_below (by exact Ho.RS <| HO127.out) hb); have n5_ := Aside0.mk (Kd.R_below (by exact Ho.RS <| HO130.out) hb); have n6_ := Aside0.mk (Kd.R_below (by exact Ho.RS <| HO134.out) hb); have n7_ := Aside0.mk (Kd.R_below (by exact Ho.RS <| HO141.out) hb); have n8_ := Aside0.mk (blk_below (bS BK101.out) hb); have n9_ := Aside0.mk (blk_below (bS BK122.out) hb); have n10_ := Aside0.mk (blk_below (bS BK136.out) hb); have n11_ := Aside0.mk (below_step (by exact eS HB.out) hb); have n12_ := Aside0.mk (hbox); have n13_ := Aside0.mk ((by rw [hg]; exact (below_size (by exact eS HB.out)) : w.heap.size ≤ gb143)); have n14_ := Aside0.mk ((by rw [hg]; exact (below_size (by exact eS HB.out)) : w.heap.size ≤ gb143)); have n15_ := Aside0.mk ((by rw [hg]; exact Nat.ne_of_lt (blk_lt (bS BK101.out)) : gb101 ≠ gb143)); have n16_ := Aside0.mk ((by rw [hg]; exact Nat.ne_of_gt (blk_lt (bS BK101.out)) : gb143 ≠ gb101)); have n17_ := Aside0.mk ((by rw [hg]; exact Nat.ne_of_lt (blk_lt (bS BK122.out)) : gb122 ≠ gb143)); have n18_ := Aside0.mk ((by rw [hg]; exact Nat.ne_of_gt (blk_lt (bS BK122.out)) : gb143 ≠ gb122)); have n19_ := Aside0.mk ((by rw [hg]; exact Nat.ne_of_lt (blk_lt (bS BK136.out)) : gb136 ≠ gb143)); have n20_ := Aside0.mk ((by rw [hg]; exact Nat.ne_of_gt (blk_lt (bS BK136.out)) : gb143 ≠ gb136)); clear HO107; clear HO110; clear HO114; clear HO120; clear HO127; clear HO130; clear HO134; clear HO141; clear BK101; clear BK122; clear BK136; clear HB; have HO107 := n0_; have HO110 := n1_; have HO114 := n2_; have HO120 := n3_; have HO127 := n4_; have HO130 := n5_; have HO134 := n6_; have HO141 := n7_; have BK101 := n8_; have BK122 := n9_; have BK136 := n10_; have HB := n11_; have BK143 := n12_; have GW143 := n13_; have GE143 := n14_; have NB101_143 := n15_; have NB143_101 := n16_; have NB122_143 := n17_; have NB143_122 := n18_; have NB136_143 := n19_; have NB143_136 := n20_; clear n0_ n1_ n2_ n3_ n4_ n5_ n6_ n7_ n8_ n9_ n10_ n11_ n12_ n13_ n14_ n15_ n16_ n17_ n18_ n19_ n20_; clear hb hbox hg; have hnb36 := NB143_101.out; have hnc36 := NB101_143.out; have hnb37 := NB143_122.out; have hnc37 := NB122_143.out; have hnb38 := NB143_136.out; have hnc38 := NB136_143.out; have hcz39_0 : w35.cell? ⟨gb143, 0, none⟩ = some (.int .i64 0) := (blk_cell BK143.out 0).trans rfl; have hcz39_1 : w35.cell? ⟨gb143, 1, none⟩ = some (.int .i64 0) := (blk_cell BK143.out 1).trans rfl; have hcz39_2 : w35.cell? ⟨gb143, 2, none⟩ = some (.slice none 0 0) := (blk_cell BK143.out 2).trans rfl; have hfz39_0 := blk_frozen BK143.out 0; have hfz39_1 := blk_frozen BK143.out 1; have hfz39_2 := blk_frozen BK143.out 2; obtain ⟨Ao40, co40, eo40⟩ := Kd.R_slice HO141.out; subst eo40))
  (try simp only [Act.put, List.setIfInBounds_toArray, List.set_cons_zero, List.set_cons_succ])
  go_cut [40] (fun v40 wc => ∃ (kq : Nat) (x40_10 : Bool), v40 = .bool x40_10 ∧ Aside0 (laws_FnExactWovenChart.j0 kq t121 t142 x40_10 a0_0 a0_1 l0_2 l0_3 a0_4 l0_5 a0_6 t116 t117 t118 t123 t124 t125 t128 t131 t132 t135 t137 t138 t139 = some r) ∧ Aside0 (kq ≤ k) ∧ Aside0 (Kd.R (Kd.int .i64) 3 wc w.heap.size (fun k_ => some k_ ≠ ((.slice Ao31 t125.length co31) : Value).ownBlock ∧ some k_ ≠ ((.slice Ao32 t128.length co32) : Value).ownBlock ∧ some k_ ≠ ((.slice Ao40 t139.length co40) : Value).ownBlock) (.slice Ao24 t118.length co24) t118) ∧ Aside0 (Kd.R (Kd.int .i64) 3 wc w.heap.size (fun k_ => some k_ ≠ ((.slice Ao24 t118.length co24) : Value).ownBlock ∧ some k_ ≠ ((.slice Ao32 t128.length co32) : Value).ownBlock ∧ some k_ ≠ ((.slice Ao40 t139.length co40) : Value).ownBlock) (.slice Ao31 t125.length co31) t125) ∧ Aside0 (Kd.R (Kd.int .i64) 3 wc w.heap.size (fun k_ => some k_ ≠ ((.slice Ao24 t118.length co24) : Value).ownBlock ∧ some k_ ≠ ((.slice Ao31 t125.length co31) : Value).ownBlock ∧ some k_ ≠ ((.slice Ao40 t139.length co40) : Value).ownBlock) (.slice Ao32 t128.length co32) t128) ∧ Aside0 (Kd.R k89 89 wc w.heap.size (fun _ => True) (.slice Ao33 t132.length co33) t132) ∧ Aside0 (Kd.R (Kd.int .i64) 3 wc w.heap.size (fun k_ => some k_ ≠ ((.slice Ao24 t118.length co24) : Value).ownBlock ∧ some k_ ≠ ((.slice Ao31 t125.length co31) : Value).ownBlock ∧ some k_ ≠ ((.slice Ao32 t128.length co32) : Value).ownBlock) (.slice Ao40 t139.length co40) t139) ∧ Aside0 (wc.heap[gb101]? = some (.cells #[.int .i64 a0_0, .int .i64 a0_1, (.slice A0_2 l0_2.length c0_2), (.slice A0_3 l0_3.length c0_3), .int .i64 a0_4, (.slice A0_5 l0_5.length c0_5), .bool a0_6] 54 (0, 0))) ∧ Aside0 (wc.heap[gb122]? = some (.cells #[.int .i64 t116, .int .i64 t117, (.slice Ao24 t118.length co24)] 30 (0, 0))) ∧ Aside0 (wc.heap[gb136]? = some (.cells #[.int .i64 t123, .int .i64 t124, (.slice Ao31 t125.length co31), (.slice Ao32 t128.length co32), .int .i64 t131, (.slice Ao33 t132.length co33), .bool t135] 59 (0, 0))) ∧ Aside0 (wc.heap[gb143]? = some (.cells #[.int .i64 t137, .int .i64 t138, (.slice Ao40 t139.length co40)] 30 (0, 0))) ∧ Aside0 (Below w.heap.size w wc))
  case first =>
   have H := HC11.out
   clear HC11
   replace H := Option.bind_eq_some_iff.mp H
   obtain ⟨t144, A410, H⟩ := H
   replace H : (if t144 = true then (laws_FnExactWovenChart.j0 k t121 t142 (t142 != t121) a0_0 a0_1 l0_2 l0_3 a0_4 l0_5 a0_6 t116 t117 t118 t123 t124 t125 t128 t131 t132 t135 t137 t138 t139) else (laws_FnExactWovenChart.j0 k t121 t142 true a0_0 a0_1 l0_2 l0_3 a0_4 l0_5 a0_6 t116 t117 t118 t123 t124 t125 t128 t131 t132 t135 t137 t138 t139)) = some r := H
   have A41 := Aside0.mk A410
   clear A410
   by_cases c42 : t144 = true
   ·subst c42
    have H1 : (laws_FnExactWovenChart.j0 k t121 t142 (t142 != t121) a0_0 a0_1 l0_2 l0_3 a0_4 l0_5 a0_6 t116 t117 t118 t123 t124 t125 t128 t131 t132 t135 t137 t138 t139) = some r := by rw [if_pos rfl] at H; exact H
    clear H
    have H := H1
    clear H1
    as_aux_lemma =>
     have H' := Aside0.mk H
     clear H
     have hnb43 := NB143_101.out
     have hnc43 := NB101_143.out
     have hnb44 := NB143_122.out
     have hnc44 := NB122_143.out
     have hnb45 := NB143_136.out
     have hnc45 := NB136_143.out
     have hcz46_0 : w35.cell? ⟨gb143, 0, none⟩ = some (.int .i64 0) := (blk_cell BK143.out 0).trans rfl
     have hcz46_1 : w35.cell? ⟨gb143, 1, none⟩ = some (.int .i64 0) := (blk_cell BK143.out 1).trans rfl
     have hcz46_2 : w35.cell? ⟨gb143, 2, none⟩ = some (.slice none 0 0) := (blk_cell BK143.out 2).trans rfl
     have hfz46_0 := blk_frozen BK143.out 0
     have hfz46_1 := blk_frozen BK143.out 1
     have hfz46_2 := blk_frozen BK143.out 2
     have hnb47 := NB122_101.out
     have hnc47 := NB101_122.out
     have hnb48 := NB122_136.out
     have hnc48 := NB136_122.out
     have hcz49_0 : w35.cell? ⟨gb122, 0, none⟩ = some (.int .i64 t116) := (blk_cell BK122.out 0).trans rfl
     have hcz49_1 : w35.cell? ⟨gb122, 1, none⟩ = some (.int .i64 t117) := (blk_cell BK122.out 1).trans rfl
     have hcz49_2 : w35.cell? ⟨gb122, 2, none⟩ = some (.slice Ao24 t118.length co24) := (blk_cell BK122.out 2).trans rfl
     have hfz49_0 := blk_frozen BK122.out 0
     have hfz49_1 := blk_frozen BK122.out 1
     have hfz49_2 := blk_frozen BK122.out 2
     go_wp2_with (first | ((with_reducible refine gate_callee (f := 19) rfl ?_); refine goesL_ (some 34) rfl rfl Try.func19 (by kernel_rfl) rfl #[.agg #[.int .i64 t137, .int .i64 t138, .slice Ao40 t139.length co40], .agg #[.int .i64 t116, .int .i64 t117, .slice Ao24 t118.length co24]] rfl (by (try simp only [List.map_toArray, List.map_cons, List.map_nil]); first | done | rfl | (simp only [List.length_drop, List.length_take]; rfl)) ?_; (with_reducible refine (laws_eqChart.calls k t137 t138 _ _ t139 t116 t117 _ _ t118 true _ ?side1 ?side2 ?side3 ?side4 A41.out).mono ?_); (case side1 => refine (Kd.R_reads' (e := 3) (base := w.heap.size) (ok := fun k_ => (((((True ∧ some k_ ≠ (.slice Ao17 t105.length co17 : Value).ownBlock) ∧ some k_ ≠ (.slice Ao18 t108.length co18 : Value).ownBlock) ∧ some k_ ≠ (.slice Ao24 t118.length co24 : Value).ownBlock) ∧ some k_ ≠ (.slice Ao31 t125.length co31 : Value).ownBlock) ∧ some k_ ≠ (.slice Ao32 t128.length co32 : Value).ownBlock)) (n := t139.length) (c := co40) ?_).2.2; exact (by exact Ho.RS <| (Kd.R_mono (Kd.R_far (p := ⟨gb143, 2, none⟩) (Kd.R_far (p := ⟨gb143, 1, none⟩) (Kd.R_far (p := ⟨gb143, 0, none⟩) (Kd.R_types HO141.out BK143.out (by decide)) (fun _ hk => hk.2) (.int .i64 t137)) (fun _ hk => hk.2) (.int .i64 t138)) (fun _ hk => hk.2) (.slice Ao40 t139.length co40)) (fun _ h_ => h_.1)))); (case side2 => exact (Kd.R_reads' HO141.out).2.1); (case side3 => refine (Kd.R_reads' (e := 3) (base := w.heap.size) (ok := fun k_ => (((((True ∧ some k_ ≠ (.slice Ao17 t105.length co17 : Value).ownBlock) ∧ some k_ ≠ (.slice Ao18 t108.length co18 : Value).ownBlock) ∧ some k_ ≠ (.slice Ao31 t125.length co31 : Value).ownBlock) ∧ some k_ ≠ (.slice Ao32 t128.length co32 : Value).ownBlock) ∧ some k_ ≠ (.slice Ao40 t139.length co40 : Value).ownBlock)) (n := t118.length) (c := co24) ?_).2.2; exact (by exact Ho.RS <| (Kd.R_mono (Kd.R_far (p := ⟨gb143, 2, none⟩) (Kd.R_far (p := ⟨gb143, 1, none⟩) (Kd.R_far (p := ⟨gb143, 0, none⟩) (Kd.R_types HO120.out BK143.out (by decide)) (fun _ hk => hk.2) (.int .i64 t137)) (fun _ hk => hk.2) (.int .i64 t138)) (fun _ hk => hk.2) (.slice Ao40 t139.length co40)) (fun _ h_ => h_.1)))); (case side4 => exact (Kd.R_reads' HO120.out).2.1); rintro e w50 ⟨rfl, hb⟩; refine ⟨_, rfl, ?_⟩; have n0_ := Aside0.mk (Kd.R_below (by exact Ho.RS <| (Kd.R_mono (Kd.R_far (p := ⟨gb143, 2, none⟩) (Kd.R_far (p := ⟨gb143, 1, none⟩) (Kd.R_far (p := ⟨gb143, 0, none⟩) (Kd.R_types HO107.out BK143.out (by decide)) (fun _ hk => hk.2) (.int .i64 t137)) (fun _ hk => hk.2) (.int .i64 t138)) (fun _ hk => hk.2) (.slice Ao40 t139.length co40)) (fun _ h_ => h_.1))) hb); have n1_ := Aside0.mk (Kd.R_below (by exact Ho.RS <| (Kd.R_mono (Kd.R_far (p := ⟨gb143, 2, none⟩) (Kd.R_far (p := ⟨gb143, 1, none⟩) (Kd.R_far (p := ⟨gb143, 0, none⟩) (Kd.R_types HO110.out BK143.out (by decide)) (fun _ hk => hk.2) (.int .i64 t137)) (fun _ hk => hk.2) (.int .i64 t138)) (fun _ hk => hk.2) (.slice Ao40 t139.length co40)) (fun _ h_ => h_.1))) hb); have n2_ := Aside0.mk (Kd.R_below (by exact Ho.RS <| (Kd.R_mono (Kd.R_far (p := ⟨gb143, 2, none⟩) (Kd.R_far (p := ⟨gb143, 1, none⟩) (Kd.R_far (p := ⟨gb143, 0, none⟩) (Kd.R_types HO114.out BK143.out (by decide)) (fun _ hk => hk.2) (.int .i64 t137)) (fun _ hk => hk.2) (.int .i64 t138)) (fun _ hk => hk.2) (.slice Ao40 t139.length co40)) (fun _ h_ => h_.1))) hb); have n3_ := Aside0.mk (Kd.R_below (by exact Ho.RS <| (Kd.R_mono (Kd.R_far (p := ⟨gb143, 2, none⟩) (Kd.R_far (p := ⟨gb143, 1, none⟩) (Kd.R_far (p := ⟨gb143, 0, none⟩) (Kd.R_types HO120.out BK143.out (by decide)) (fun _ hk => hk.2) (.int .i64 t137)) (fun _ hk => hk.2) (.int .i64 t138)) (fun _ hk => hk.2) (.slice Ao40 t139.length co40)) (fun _ h_ => h_.1))) hb); have n4_ := Aside0.mk (Kd.R_below (by exact Ho.RS <| (Kd.R_mono (Kd.R_far (p := ⟨gb143, 2, none⟩) (Kd.R_far (p := ⟨gb143, 1, none⟩) (Kd.R_far (p := ⟨gb143, 0, none⟩) (Kd.R_types HO127.out BK143.out (by decide)) (fun _ hk => hk.2) (.int .i64 t137)) (fun _ hk => hk.2) (.int .i64 t138)) (fun _ hk => hk.2) (.slice Ao40 t139.length co40)) (fun _ h_ => h_.1))) hb); have n5_ := Aside0.mk (Kd.R_below (by exact Ho.RS <| (Kd.R_mono (Kd.R_far (p := ⟨gb143, 2, none⟩) (Kd.R_far (p := ⟨gb143, 1, none⟩) (Kd.R_far (p := ⟨gb143, 0, none⟩) (Kd.R_types HO130.out BK143.out (by decide)) (fun _ hk => hk.2) (.int .i64 t137)) (fun _ hk => hk.2) (.int .i64 t138)) (fun _ hk => hk.2) (.slice Ao40 t139.length co40)) (fun _ h_ => h_.1))) hb); have n6_ := Aside0.mk (Kd.R_below (by exact Ho.RS <| (Kd.R_mono (Kd.R_far (p := ⟨gb143, 2, none⟩) (Kd.R_far (p := ⟨gb143, 1, none⟩) (Kd.R_far (p := ⟨gb143, 0, none⟩) (Kd.R_types HO134.out BK143.out (by decide)) (fun _ hk => hk.2) (.int .i64 t137)) (fun _ hk => hk.2) (.int .i64 t138)) (fun _ hk => hk.2) (.slice Ao40 t139.length co40)) (fun _ h_ => h_.1))) hb); have n7_ := Aside0.mk (Kd.R_below (by exact Ho.RS <| (Kd.R_mono (Kd.R_far (p := ⟨gb143, 2, none⟩) (Kd.R_far (p := ⟨gb143, 1, none⟩) (Kd.R_far (p := ⟨gb143, 0, none⟩) (Kd.R_types HO141.out BK143.out (by decide)) (fun _ hk => hk.2) (.int .i64 t137)) (fun _ hk => hk.2) (.int .i64 t138)) (fun _ hk => hk.2) (.slice Ao40 t139.length co40)) (fun _ h_ => h_.1))) hb); have n8_ := Aside0.mk (blk_below (g := gb101) (o := .cells #[.int .i64 a0_0, .int .i64 a0_1, .slice A0_2 l0_2.length c0_2, .slice A0_3 l0_3.length c0_3, .int .i64 a0_4, .slice A0_5 l0_5.length c0_5, .bool a0_6] 54 (0, 0)) (by (with_reducible repeat (first | refine blk_drewN ?_ _ | refine blk_drew ?_ | refine blk_alloc ?_ _)); refine blk_far ?_ NB101_143.out _; (with_reducible repeat (first | refine blk_drewN ?_ _ | refine blk_drew ?_ | refine blk_alloc ?_ _)); refine blk_far ?_ NB101_143.out _; (with_reducible repeat (first | refine blk_drewN ?_ _ | refine blk_drew ?_ | refine blk_alloc ?_ _)); refine blk_far ?_ NB101_143.out _; exact bS BK101.out) hb); have n9_ := Aside0.mk (blk_below (g := gb122) (o := .cells #[.int .i64 t116, .int .i64 t117, .slice Ao24 t118.length co24] 30 (0, 0)) (by (with_reducible repeat (first | refine blk_drewN ?_ _ | refine blk_drew ?_ | refine blk_alloc ?_ _)); refine blk_far ?_ NB122_143.out _; (with_reducible repeat (first | refine blk_drewN ?_ _ | refine blk_drew ?_ | refine blk_alloc ?_ _)); refine blk_far ?_ NB122_143.out _; (with_reducible repeat (first | refine blk_drewN ?_ _ | refine blk_drew ?_ | refine blk_alloc ?_ _)); refine blk_far ?_ NB122_143.out _; exact bS BK122.out) hb); have n10_ := Aside0.mk (blk_below (g := gb136) (o := .cells #[.int .i64 t123, .int .i64 t124, .slice Ao31 t125.length co31, .slice Ao32 t128.length co32, .int .i64 t131, .slice Ao33 t132.length co33, .bool t135] 59 (0, 0)) (by (with_reducible repeat (first | refine blk_drewN ?_ _ | refine blk_drew ?_ | refine blk_alloc ?_ _)); refine blk_far ?_ NB136_143.out _; (with_reducible repeat (first | refine blk_drewN ?_ _ | refine blk_drew ?_ | refine blk_alloc ?_ _)); refine blk_far ?_ NB136_143.out _; (with_reducible repeat (first | refine blk_drewN ?_ _ | refine blk_drew ?_ | refine blk_alloc ?_ _)); refine blk_far ?_ NB136_143.out _; exact bS BK136.out) hb); have n11_ := Aside0.mk (blk_below (g := gb143) (o := .cells #[.int .i64 t137, .int .i64 t138, .slice Ao40 t139.length co40] 30 (0, 0)) (by (with_reducible repeat (first | refine blk_drewN ?_ _ | refine blk_drew ?_ | refine blk_alloc ?_ _)); refine blk_put (cs := #[.int .i64 t137, .int .i64 t138, .slice none 0 0]) ?_ 2 _ rfl; (with_reducible repeat (first | refine blk_drewN ?_ _ | refine blk_drew ?_ | refine blk_alloc ?_ _)); refine blk_put (cs := #[.int .i64 t137, .int .i64 0, .slice none 0 0]) ?_ 1 _ rfl; (with_reducible repeat (first | refine blk_drewN ?_ _ | refine blk_drew ?_ | refine blk_alloc ?_ _)); refine blk_put (cs := #[.int .i64 0, .int .i64 0, .slice none 0 0]) ?_ 0 _ rfl; exact bS BK143.out) hb); have n12_ := Aside0.mk (below_step (by repeat (first | (with_reducible first | exact HB.out | apply below_alloc | apply pw_below_drewN | apply below_drew1 | refine below_set ?_ GE101.out | refine below_set ?_ GE122.out | refine below_set ?_ GE136.out | refine below_set ?_ GE143.out) | exact HB.out)) hb); clear HO107; clear HO110; clear HO114; clear HO120; clear HO127; clear HO130; clear HO134; clear HO141; clear BK101; clear BK122; clear BK136; clear BK143; clear HB; have HO107 := n0_; have HO110 := n1_; have HO114 := n2_; have HO120 := n3_; have HO127 := n4_; have HO130 := n5_; have HO134 := n6_; have HO141 := n7_; have BK101 := n8_; have BK122 := n9_; have BK136 := n10_; have BK143 := n11_; have HB := n12_; clear n0_ n1_ n2_ n3_ n4_ n5_ n6_ n7_ n8_ n9_ n10_ n11_ n12_; (try clear hb); (try clear hb2); (try clear hk); (try clear hi)))
     go_meet
     case rel => exact ⟨_, ((t142 != t121)), (by first | rfl | (simp; done) | (simp [*]; done)), H', ⟨by first | omega | exact Nat.le_refl _⟩, ⟨by exact Ho.RS <| Kd.R_mono HO120.out (fun _ hk => ⟨hk.1.1.2, ⟨hk.1.2, hk.2⟩⟩)⟩, ⟨by exact Ho.RS <| Kd.R_mono HO127.out (fun _ hk => ⟨hk.1.2, ⟨hk.1.1.1.1, hk.2⟩⟩)⟩, ⟨by exact Ho.RS <| Kd.R_mono HO130.out (fun _ hk => ⟨hk.1.2, ⟨hk.1.1.1.1, hk.2⟩⟩)⟩, ⟨by exact Ho.RS <| Kd.R_mono HO134.out (fun _ hk => trivial)⟩, ⟨by exact Ho.RS <| Kd.R_mono HO141.out (fun _ hk => ⟨hk.1.1.2, ⟨hk.1.2, hk.2⟩⟩)⟩, ⟨by exact bS BK101.out⟩, ⟨by exact bS BK122.out⟩, ⟨by exact bS BK136.out⟩, ⟨by exact bS BK143.out⟩, ⟨by exact eS HB.out⟩⟩
   ·replace c42 := Bool.eq_false_iff.mpr c42
    subst c42
    have H1 : (laws_FnExactWovenChart.j0 k t121 t142 true a0_0 a0_1 l0_2 l0_3 a0_4 l0_5 a0_6 t116 t117 t118 t123 t124 t125 t128 t131 t132 t135 t137 t138 t139) = some r := by rw [if_neg (show ¬ (false = true) by decide)] at H; exact H
    clear H
    have H := H1
    clear H1
    as_aux_lemma =>
     have H' := Aside0.mk H
     clear H
     have hnb51 := NB143_101.out
     have hnc51 := NB101_143.out
     have hnb52 := NB143_122.out
     have hnc52 := NB122_143.out
     have hnb53 := NB143_136.out
     have hnc53 := NB136_143.out
     have hcz54_0 : w35.cell? ⟨gb143, 0, none⟩ = some (.int .i64 0) := (blk_cell BK143.out 0).trans rfl
     have hcz54_1 : w35.cell? ⟨gb143, 1, none⟩ = some (.int .i64 0) := (blk_cell BK143.out 1).trans rfl
     have hcz54_2 : w35.cell? ⟨gb143, 2, none⟩ = some (.slice none 0 0) := (blk_cell BK143.out 2).trans rfl
     have hfz54_0 := blk_frozen BK143.out 0
     have hfz54_1 := blk_frozen BK143.out 1
     have hfz54_2 := blk_frozen BK143.out 2
     have hnb55 := NB122_101.out
     have hnc55 := NB101_122.out
     have hnb56 := NB122_136.out
     have hnc56 := NB136_122.out
     have hcz57_0 : w35.cell? ⟨gb122, 0, none⟩ = some (.int .i64 t116) := (blk_cell BK122.out 0).trans rfl
     have hcz57_1 : w35.cell? ⟨gb122, 1, none⟩ = some (.int .i64 t117) := (blk_cell BK122.out 1).trans rfl
     have hcz57_2 : w35.cell? ⟨gb122, 2, none⟩ = some (.slice Ao24 t118.length co24) := (blk_cell BK122.out 2).trans rfl
     have hfz57_0 := blk_frozen BK122.out 0
     have hfz57_1 := blk_frozen BK122.out 1
     have hfz57_2 := blk_frozen BK122.out 2
     go_wp2_with (first | ((with_reducible refine gate_callee (f := 19) rfl ?_); refine goesL_ (some 34) rfl rfl Try.func19 (by kernel_rfl) rfl #[.agg #[.int .i64 t137, .int .i64 t138, .slice Ao40 t139.length co40], .agg #[.int .i64 t116, .int .i64 t117, .slice Ao24 t118.length co24]] rfl (by (try simp only [List.map_toArray, List.map_cons, List.map_nil]); first | done | rfl | (simp only [List.length_drop, List.length_take]; rfl)) ?_; (with_reducible refine (laws_eqChart.calls k t137 t138 _ _ t139 t116 t117 _ _ t118 false _ ?side1 ?side2 ?side3 ?side4 A41.out).mono ?_); (case side1 => refine (Kd.R_reads' (e := 3) (base := w.heap.size) (ok := fun k_ => (((((True ∧ some k_ ≠ (.slice Ao17 t105.length co17 : Value).ownBlock) ∧ some k_ ≠ (.slice Ao18 t108.length co18 : Value).ownBlock) ∧ some k_ ≠ (.slice Ao24 t118.length co24 : Value).ownBlock) ∧ some k_ ≠ (.slice Ao31 t125.length co31 : Value).ownBlock) ∧ some k_ ≠ (.slice Ao32 t128.length co32 : Value).ownBlock)) (n := t139.length) (c := co40) ?_).2.2; exact (by exact Ho.RS <| (Kd.R_mono (Kd.R_far (p := ⟨gb143, 2, none⟩) (Kd.R_far (p := ⟨gb143, 1, none⟩) (Kd.R_far (p := ⟨gb143, 0, none⟩) (Kd.R_types HO141.out BK143.out (by decide)) (fun _ hk => hk.2) (.int .i64 t137)) (fun _ hk => hk.2) (.int .i64 t138)) (fun _ hk => hk.2) (.slice Ao40 t139.length co40)) (fun _ h_ => h_.1)))); (case side2 => exact (Kd.R_reads' HO141.out).2.1); (case side3 => refine (Kd.R_reads' (e := 3) (base := w.heap.size) (ok := fun k_ => (((((True ∧ some k_ ≠ (.slice Ao17 t105.length co17 : Value).ownBlock) ∧ some k_ ≠ (.slice Ao18 t108.length co18 : Value).ownBlock) ∧ some k_ ≠ (.slice Ao31 t125.length co31 : Value).ownBlock) ∧ some k_ ≠ (.slice Ao32 t128.length co32 : Value).ownBlock) ∧ some k_ ≠ (.slice Ao40 t139.length co40 : Value).ownBlock)) (n := t118.length) (c := co24) ?_).2.2; exact (by exact Ho.RS <| (Kd.R_mono (Kd.R_far (p := ⟨gb143, 2, none⟩) (Kd.R_far (p := ⟨gb143, 1, none⟩) (Kd.R_far (p := ⟨gb143, 0, none⟩) (Kd.R_types HO120.out BK143.out (by decide)) (fun _ hk => hk.2) (.int .i64 t137)) (fun _ hk => hk.2) (.int .i64 t138)) (fun _ hk => hk.2) (.slice Ao40 t139.length co40)) (fun _ h_ => h_.1)))); (case side4 => exact (Kd.R_reads' HO120.out).2.1); rintro e w58 ⟨rfl, hb⟩; refine ⟨_, rfl, ?_⟩; have n0_ := Aside0.mk (Kd.R_below (by exact Ho.RS <| (Kd.R_mono (Kd.R_far (p := ⟨gb143, 2, none⟩) (Kd.R_far (p := ⟨gb143, 1, none⟩) (Kd.R_far (p := ⟨gb143, 0, none⟩) (Kd.R_types HO107.out BK143.out (by decide)) (fun _ hk => hk.2) (.int .i64 t137)) (fun _ hk => hk.2) (.int .i64 t138)) (fun _ hk => hk.2) (.slice Ao40 t139.length co40)) (fun _ h_ => h_.1))) hb); have n1_ := Aside0.mk (Kd.R_below (by exact Ho.RS <| (Kd.R_mono (Kd.R_far (p := ⟨gb143, 2, none⟩) (Kd.R_far (p := ⟨gb143, 1, none⟩) (Kd.R_far (p := ⟨gb143, 0, none⟩) (Kd.R_types HO110.out BK143.out (by decide)) (fun _ hk => hk.2) (.int .i64 t137)) (fun _ hk => hk.2) (.int .i64 t138)) (fun _ hk => hk.2) (.slice Ao40 t139.length co40)) (fun _ h_ => h_.1))) hb); have n2_ := Aside0.mk (Kd.R_below (by exact Ho.RS <| (Kd.R_mono (Kd.R_far (p := ⟨gb143, 2, none⟩) (Kd.R_far (p := ⟨gb143, 1, none⟩) (Kd.R_far (p := ⟨gb143, 0, none⟩) (Kd.R_types HO114.out BK143.out (by decide)) (fun _ hk => hk.2) (.int .i64 t137)) (fun _ hk => hk.2) (.int .i64 t138)) (fun _ hk => hk.2) (.slice Ao40 t139.length co40)) (fun _ h_ => h_.1))) hb); have n3_ := Aside0.mk (Kd.R_below (by exact Ho.RS <| (Kd.R_mono (Kd.R_far (p := ⟨gb143, 2, none⟩) (Kd.R_far (p := ⟨gb143, 1, none⟩) (Kd.R_far (p := ⟨gb143, 0, none⟩) (Kd.R_types HO120.out BK143.out (by decide)) (fun _ hk => hk.2) (.int .i64 t137)) (fun _ hk => hk.2) (.int .i64 t138)) (fun _ hk => hk.2) (.slice Ao40 t139.length co40)) (fun _ h_ => h_.1))) hb); have n4_ := Aside0.mk (Kd.R_below (by exact Ho.RS <| (Kd.R_mono (Kd.R_far (p := ⟨gb143, 2, none⟩) (Kd.R_far (p := ⟨gb143, 1, none⟩) (Kd.R_far (p := ⟨gb143, 0, none⟩) (Kd.R_types HO127.out BK143.out (by decide)) (fun _ hk => hk.2) (.int .i64 t137)) (fun _ hk => hk.2) (.int .i64 t138)) (fun _ hk => hk.2) (.slice Ao40 t139.length co40)) (fun _ h_ => h_.1))) hb); have n5_ := Aside0.mk (Kd.R_below (by exact Ho.RS <| (Kd.R_mono (Kd.R_far (p := ⟨gb143, 2, none⟩) (Kd.R_far (p := ⟨gb143, 1, none⟩) (Kd.R_far (p := ⟨gb143, 0, none⟩) (Kd.R_types HO130.out BK143.out (by decide)) (fun _ hk => hk.2) (.int .i64 t137)) (fun _ hk => hk.2) (.int .i64 t138)) (fun _ hk => hk.2) (.slice Ao40 t139.length co40)) (fun _ h_ => h_.1))) hb); have n6_ := Aside0.mk (Kd.R_below (by exact Ho.RS <| (Kd.R_mono (Kd.R_far (p := ⟨gb143, 2, none⟩) (Kd.R_far (p := ⟨gb143, 1, none⟩) (Kd.R_far (p := ⟨gb143, 0, none⟩) (Kd.R_types HO134.out BK143.out (by decide)) (fun _ hk => hk.2) (.int .i64 t137)) (fun _ hk => hk.2) (.int .i64 t138)) (fun _ hk => hk.2) (.slice Ao40 t139.length co40)) (fun _ h_ => h_.1))) hb); have n7_ := Aside0.mk (Kd.R_below (by exact Ho.RS <| (Kd.R_mono (Kd.R_far (p := ⟨gb143, 2, none⟩) (Kd.R_far (p := ⟨gb143, 1, none⟩) (Kd.R_far (p := ⟨gb143, 0, none⟩) (Kd.R_types HO141.out BK143.out (by decide)) (fun _ hk => hk.2) (.int .i64 t137)) (fun _ hk => hk.2) (.int .i64 t138)) (fun _ hk => hk.2) (.slice Ao40 t139.length co40)) (fun _ h_ => h_.1))) hb); have n8_ := Aside0.mk (blk_below (g := gb101) (o := .cells #[.int .i64 a0_0, .int .i64 a0_1, .slice A0_2 l0_2.length c0_2, .slice A0_3 l0_3.length c0_3, .int .i64 a0_4, .slice A0_5 l0_5.length c0_5, .bool a0_6] 54 (0, 0)) (by (with_reducible repeat (first | refine blk_drewN ?_ _ | refine blk_drew ?_ | refine blk_alloc ?_ _)); refine blk_far ?_ NB101_143.out _; (with_reducible repeat (first | refine blk_drewN ?_ _ | refine blk_drew ?_ | refine blk_alloc ?_ _)); refine blk_far ?_ NB101_143.out _; (with_reducible repeat (first | refine blk_drewN ?_ _ | refine blk_drew ?_ | refine blk_alloc ?_ _)); refine blk_far ?_ NB101_143.out _; exact bS BK101.out) hb); have n9_ := Aside0.mk (blk_below (g := gb122) (o := .cells #[.int .i64 t116, .int .i64 t117, .slice Ao24 t118.length co24] 30 (0, 0)) (by (with_reducible repeat (first | refine blk_drewN ?_ _ | refine blk_drew ?_ | refine blk_alloc ?_ _)); refine blk_far ?_ NB122_143.out _; (with_reducible repeat (first | refine blk_drewN ?_ _ | refine blk_drew ?_ | refine blk_alloc ?_ _)); refine blk_far ?_ NB122_143.out _; (with_reducible repeat (first | refine blk_drewN ?_ _ | refine blk_drew ?_ | refine blk_alloc ?_ _)); refine blk_far ?_ NB122_143.out _; exact bS BK122.out) hb); have n10_ := Aside0.mk (blk_below (g := gb136) (o := .cells #[.int .i64 t123, .int .i64 t124, .slice Ao31 t125.length co31, .slice Ao32 t128.length co32, .int .i64 t131, .slice Ao33 t132.length co33, .bool t135] 59 (0, 0)) (by (with_reducible repeat (first | refine blk_drewN ?_ _ | refine blk_drew ?_ | refine blk_alloc ?_ _)); refine blk_far ?_ NB136_143.out _; (with_reducible repeat (first | refine blk_drewN ?_ _ | refine blk_drew ?_ | refine blk_alloc ?_ _)); refine blk_far ?_ NB136_143.out _; (with_reducible repeat (first | refine blk_drewN ?_ _ | refine blk_drew ?_ | refine blk_alloc ?_ _)); refine blk_far ?_ NB136_143.out _; exact bS BK136.out) hb); have n11_ := Aside0.mk (blk_below (g := gb143) (o := .cells #[.int .i64 t137, .int .i64 t138, .slice Ao40 t139.length co40] 30 (0, 0)) (by (with_reducible repeat (first | refine blk_drewN ?_ _ | refine blk_drew ?_ | refine blk_alloc ?_ _)); refine blk_put (cs := #[.int .i64 t137, .int .i64 t138, .slice none 0 0]) ?_ 2 _ rfl; (with_reducible repeat (first | refine blk_drewN ?_ _ | refine blk_drew ?_ | refine blk_alloc ?_ _)); refine blk_put (cs := #[.int .i64 t137, .int .i64 0, .slice none 0 0]) ?_ 1 _ rfl; (with_reducible repeat (first | refine blk_drewN ?_ _ | refine blk_drew ?_ | refine blk_alloc ?_ _)); refine blk_put (cs := #[.int .i64 0, .int .i64 0, .slice none 0 0]) ?_ 0 _ rfl; exact bS BK143.out) hb); have n12_ := Aside0.mk (below_step (by repeat (first | (with_reducible first | exact HB.out | apply below_alloc | apply pw_below_drewN | apply below_drew1 | refine below_set ?_ GE101.out | refine below_set ?_ GE122.out | refine below_set ?_ GE136.out | refine below_set ?_ GE143.out) | exact HB.out)) hb); clear HO107; clear HO110; clear HO114; clear HO120; clear HO127; clear HO130; clear HO134; clear HO141; clear BK101; clear BK122; clear BK136; clear BK143; clear HB; have HO107 := n0_; have HO110 := n1_; have HO114 := n2_; have HO120 := n3_; have HO127 := n4_; have HO130 := n5_; have HO134 := n6_; have HO141 := n7_; have BK101 := n8_; have BK122 := n9_; have BK136 := n10_; have BK143 := n11_; have HB := n12_; clear n0_ n1_ n2_ n3_ n4_ n5_ n6_ n7_ n8_ n9_ n10_ n11_ n12_; (try clear hb); (try clear hb2); (try clear hk); (try clear hi)))
     go_meet
     case rel => exact ⟨_, (true), (by first | rfl | (simp; done) | (simp [*]; done)), H', ⟨by first | omega | exact Nat.le_refl _⟩, ⟨by exact Ho.RS <| Kd.R_mono HO120.out (fun _ hk => ⟨hk.1.1.2, ⟨hk.1.2, hk.2⟩⟩)⟩, ⟨by exact Ho.RS <| Kd.R_mono HO127.out (fun _ hk => ⟨hk.1.2, ⟨hk.1.1.1.1, hk.2⟩⟩)⟩, ⟨by exact Ho.RS <| Kd.R_mono HO130.out (fun _ hk => ⟨hk.1.2, ⟨hk.1.1.1.1, hk.2⟩⟩)⟩, ⟨by exact Ho.RS <| Kd.R_mono HO134.out (fun _ hk => trivial)⟩, ⟨by exact Ho.RS <| Kd.R_mono HO141.out (fun _ hk => ⟨hk.1.1.2, ⟨hk.1.2, hk.2⟩⟩)⟩, ⟨by exact bS BK101.out⟩, ⟨by exact bS BK122.out⟩, ⟨by exact bS BK136.out⟩, ⟨by exact bS BK143.out⟩, ⟨by exact eS HB.out⟩⟩
  case rest =>
   clear HC11
   try clear c1
   try clear c2
   try clear p2
   try clear c3
   try clear c3b0
   try clear c4
   try clear c5
   try clear c13
   try clear c19
   try clear c22
   try clear c28
   try clear c29
   try clear c36
   try clear c37
   try clear c38
   try clear c40
   try clear c42
   try clear c43
   try clear c44
   try clear c45
   try clear c47
   try clear c48
   try clear c50
   try clear c51
   try clear c52
   try clear c53
   try clear c55
   try clear c56
   try clear hcz13_0
   try clear hcz13_1
   try clear hcz13_2
   try clear hcz13_3
   try clear hcz13_4
   try clear hcz13_5
   try clear hcz13_6
   try clear hcz15_0
   try clear hcz15_1
   try clear hcz15_2
   try clear hcz15_3
   try clear hcz15_4
   try clear hcz15_5
   try clear hcz15_6
   try clear hcz23_0
   try clear hcz23_1
   try clear hcz23_2
   try clear hcz25_0
   try clear hcz25_1
   try clear hcz25_2
   try clear hcz25_3
   try clear hcz25_4
   try clear hcz25_5
   try clear hcz25_6
   try clear hcz30_0
   try clear hcz30_1
   try clear hcz30_2
   try clear hcz30_3
   try clear hcz30_4
   try clear hcz30_5
   try clear hcz30_6
   try clear hcz39_0
   try clear hcz39_1
   try clear hcz39_2
   try clear hcz46_0
   try clear hcz46_1
   try clear hcz46_2
   try clear hcz49_0
   try clear hcz49_1
   try clear hcz49_2
   try clear hcz54_0
   try clear hcz54_1
   try clear hcz54_2
   try clear hcz57_0
   try clear hcz57_1
   try clear hcz57_2
   try clear hcz5_0
   try clear hcz5_1
   try clear hcz5_2
   try clear hcz5_3
   try clear hcz5_4
   try clear hcz5_5
   try clear hcz5_6
   try clear hfz13_0
   try clear hfz13_1
   try clear hfz13_2
   try clear hfz13_3
   try clear hfz13_4
   try clear hfz13_5
   try clear hfz13_6
   try clear hfz15_0
   try clear hfz15_1
   try clear hfz15_2
   try clear hfz15_3
   try clear hfz15_4
   try clear hfz15_5
   try clear hfz15_6
   try clear hfz23_0
   try clear hfz23_1
   try clear hfz23_2
   try clear hfz25_0
   try clear hfz25_1
   try clear hfz25_2
   try clear hfz25_3
   try clear hfz25_4
   try clear hfz25_5
   try clear hfz25_6
   try clear hfz30_0
   try clear hfz30_1
   try clear hfz30_2
   try clear hfz30_3
   try clear hfz30_4
   try clear hfz30_5
   try clear hfz30_6
   try clear hfz39_0
   try clear hfz39_1
   try clear hfz39_2
   try clear hfz46_0
   try clear hfz46_1
   try clear hfz46_2
   try clear hfz49_0
   try clear hfz49_1
   try clear hfz49_2
   try clear hfz54_0
   try clear hfz54_1
   try clear hfz54_2
   try clear hfz57_0
   try clear hfz57_1
   try clear hfz57_2
   try clear hfz5_0
   try clear hfz5_1
   try clear hfz5_2
   try clear hfz5_3
   try clear hfz5_4
   try clear hfz5_5
   try clear hfz5_6
   obtain ⟨kq, x40_10, rfl, HA, HJ10, HO_123002, HO_137002, HO_137003, HO_137005, HO_144002, BK101, BK122, BK136, BK143, HB⟩ := hcut
   cases kq with
   | zero => exact absurd HA.out (by simp [laws_FnExactWovenChart.j0])
   | succ kj10 =>
    have H := HA.out
    clear HA
    simp only [laws_FnExactWovenChart.j0] at H
    by_cases c59 : x40_10 = true
    ·subst c59
     have H1 : (some false) = some r := by rw [if_pos rfl] at H; exact H
     clear H
     have H := H1
     clear H1
     as_aux_lemma =>
      exact absurd ((Option.some.inj H).trans HT.out) (by decide)
    ·replace c59 := Bool.eq_false_iff.mpr c59
     subst c59
     have H1 : ((laws_toWeaving.f kj10 a0_0 a0_1 l0_2 l0_3 a0_4 l0_5 a0_6).bind fun bt145 => ((laws_eqWeaving.f kj10 t123 t124 t125 t128 t131 t132 t135 bt145.1 bt145.2.1 bt145.2.2.1 bt145.2.2.2.1 bt145.2.2.2.2.1 bt145.2.2.2.2.2.1 bt145.2.2.2.2.2.2).bind fun t158 => (if t158 = true then ((laws_markWeaving.f kj10 t123 t124 t125 t128 t131 t132 t135 1).bind fun bt159 => (if bt159.1 < 0 then (laws_FnExactWovenChart.j1 kj10 t121 true a0_0 a0_1 l0_2 l0_3 a0_4 l0_5 a0_6 t116 t117 t118 t137 t138 t139) else ((laws_eqChart.f kj10 t137 t138 t139 t116 t117 t118).bind fun t163 => (if t163 = true then (laws_FnExactWovenChart.j1 kj10 t121 (t142 != t121) a0_0 a0_1 l0_2 l0_3 a0_4 l0_5 a0_6 t116 t117 t118 t137 t138 t139) else (laws_FnExactWovenChart.j1 kj10 t121 true a0_0 a0_1 l0_2 l0_3 a0_4 l0_5 a0_6 t116 t117 t118 t137 t138 t139))))) else (some false)))) = some r := by rw [if_neg (show ¬ (false = true) by decide)] at H; exact H
     clear H
     have H := H1
     clear H1
     replace H := Option.bind_eq_some_iff.mp H
     obtain ⟨⟨t145, t146, t147, t150, t153, t154, t157⟩, A600, H⟩ := H
     replace H : ((laws_eqWeaving.f kj10 t123 t124 t125 t128 t131 t132 t135 t145 t146 t147 t150 t153 t154 t157).bind fun t158 => (if t158 = true then ((laws_markWeaving.f kj10 t123 t124 t125 t128 t131 t132 t135 1).bind fun bt159 => (if bt159.1 < 0 then (laws_FnExactWovenChart.j1 kj10 t121 true a0_0 a0_1 l0_2 l0_3 a0_4 l0_5 a0_6 t116 t117 t118 t137 t138 t139) else ((laws_eqChart.f kj10 t137 t138 t139 t116 t117 t118).bind fun t163 => (if t163 = true then (laws_FnExactWovenChart.j1 kj10 t121 (t142 != t121) a0_0 a0_1 l0_2 l0_3 a0_4 l0_5 a0_6 t116 t117 t118 t137 t138 t139) else (laws_FnExactWovenChart.j1 kj10 t121 true a0_0 a0_1 l0_2 l0_3 a0_4 l0_5 a0_6 t116 t117 t118 t137 t138 t139))))) else (some false))) = some r := H
     have A60 := Aside0.mk A600
     clear A600
     replace H := Option.bind_eq_some_iff.mp H
     obtain ⟨t158, A610, H⟩ := H
     replace H : (if t158 = true then ((laws_markWeaving.f kj10 t123 t124 t125 t128 t131 t132 t135 1).bind fun bt159 => (if bt159.1 < 0 then (laws_FnExactWovenChart.j1 kj10 t121 true a0_0 a0_1 l0_2 l0_3 a0_4 l0_5 a0_6 t116 t117 t118 t137 t138 t139) else ((laws_eqChart.f kj10 t137 t138 t139 t116 t117 t118).bind fun t163 => (if t163 = true then (laws_FnExactWovenChart.j1 kj10 t121 (t142 != t121) a0_0 a0_1 l0_2 l0_3 a0_4 l0_5 a0_6 t116 t117 t118 t137 t138 t139) else (laws_FnExactWovenChart.j1 kj10 t121 true a0_0 a0_1 l0_2 l0_3 a0_4 l0_5 a0_6 t116 t117 t118 t137 t138 t139))))) else (some false)) = some r := H
     have A61 := Aside0.mk A610
     clear A610
     by_cases c62 : t158 = true
     ·subst c62
      have H1 : ((laws_markWeaving.f kj10 t123 t124 t125 t128 t131 t132 t135 1).bind fun bt159 => (if bt159.1 < 0 then (laws_FnExactWovenChart.j1 kj10 t121 true a0_0 a0_1 l0_2 l0_3 a0_4 l0_5 a0_6 t116 t117 t118 t137 t138 t139) else ((laws_eqChart.f kj10 t137 t138 t139 t116 t117 t118).bind fun t163 => (if t163 = true then (laws_FnExactWovenChart.j1 kj10 t121 (t142 != t121) a0_0 a0_1 l0_2 l0_3 a0_4 l0_5 a0_6 t116 t117 t118 t137 t138 t139) else (laws_FnExactWovenChart.j1 kj10 t121 true a0_0 a0_1 l0_2 l0_3 a0_4 l0_5 a0_6 t116 t117 t118 t137 t138 t139))))) = some r := by rw [if_pos rfl] at H; exact H
      clear H
      have H := H1
      clear H1
      replace H := Option.bind_eq_some_iff.mp H
      obtain ⟨⟨t159, t160, t161, t162⟩, A630, H⟩ := H
      replace H : (if t159 < 0 then (laws_FnExactWovenChart.j1 kj10 t121 true a0_0 a0_1 l0_2 l0_3 a0_4 l0_5 a0_6 t116 t117 t118 t137 t138 t139) else ((laws_eqChart.f kj10 t137 t138 t139 t116 t117 t118).bind fun t163 => (if t163 = true then (laws_FnExactWovenChart.j1 kj10 t121 (t142 != t121) a0_0 a0_1 l0_2 l0_3 a0_4 l0_5 a0_6 t116 t117 t118 t137 t138 t139) else (laws_FnExactWovenChart.j1 kj10 t121 true a0_0 a0_1 l0_2 l0_3 a0_4 l0_5 a0_6 t116 t117 t118 t137 t138 t139)))) = some r := H
      have A63 := Aside0.mk A630
      clear A630
      have HC64 := Aside0.mk H
      clear H
      try go_wp2
      have n0_ := Aside0.mk (Kd.R_drew HO_123002.out)
      have n1_ := Aside0.mk (Kd.R_drew HO_137002.out)
      have n2_ := Aside0.mk (Kd.R_drew HO_137003.out)
      have n3_ := Aside0.mk (Kd.R_drew HO_137005.out)
      have n4_ := Aside0.mk (Kd.R_drew HO_144002.out)
      have n5_ := Aside0.mk (blk_drew BK101.out)
      have n6_ := Aside0.mk (blk_drew BK122.out)
      have n7_ := Aside0.mk (blk_drew BK136.out)
      have n8_ := Aside0.mk (blk_drew BK143.out)
      have n9_ := Aside0.mk (below_drew1 HB.out)
      clear HO_123002
      clear HO_137002
      clear HO_137003
      clear HO_137005
      clear HO_144002
      clear BK101
      clear BK122
      clear BK136
      clear BK143
      clear HB
      have HO_123002 := n0_
      have HO_137002 := n1_
      have HO_137003 := n2_
      have HO_137005 := n3_
      have HO_144002 := n4_
      have BK101 := n5_
      have BK122 := n6_
      have BK136 := n7_
      have BK143 := n8_
      have HB := n9_
      clear n0_ n1_ n2_ n3_ n4_ n5_ n6_ n7_ n8_ n9_
      refine start_ (n := 5) (S := fun w' => w'.cell? ⟨gb136, 0, none⟩ = some (.int .i64 t123) ∧ w'.cell? ⟨gb136, 1, none⟩ = some (.int .i64 t124) ∧ w'.cell? ⟨gb136, 2, none⟩ = some (.slice Ao31 t125.length co31) ∧ w'.cell? ⟨gb136, 3, none⟩ = some (.slice Ao32 t128.length co32) ∧ w'.cell? ⟨gb136, 4, none⟩ = some (.int .i64 t131) ∧ w'.cell? ⟨gb136, 5, none⟩ = some (.slice Ao33 t132.length co33) ∧ w'.cell? ⟨gb136, 6, none⟩ = some (.bool t135) ∧ w'.cell? ⟨gb101, 0, none⟩ = some (.int .i64 a0_0) ∧ w'.cell? ⟨gb101, 1, none⟩ = some (.int .i64 a0_1) ∧ w'.cell? ⟨gb101, 2, none⟩ = some (.slice A0_2 l0_2.length c0_2) ∧ w'.cell? ⟨gb101, 3, none⟩ = some (.slice A0_3 l0_3.length c0_3) ∧ w'.cell? ⟨gb101, 4, none⟩ = some (.int .i64 a0_4) ∧ w'.cell? ⟨gb101, 5, none⟩ = some (.slice A0_5 l0_5.length c0_5) ∧ w'.cell? ⟨gb101, 6, none⟩ = some (.bool a0_6)) (ds := []) #[O,O,O,O,O] (by kernel_rfl) rfl rfl ⟨(blk_cell BK136.out 0).trans rfl, (blk_cell BK136.out 1).trans rfl, (blk_cell BK136.out 2).trans rfl, (blk_cell BK136.out 3).trans rfl, (blk_cell BK136.out 4).trans rfl, (blk_cell BK136.out 5).trans rfl, (blk_cell BK136.out 6).trans rfl, (blk_cell BK101.out 0).trans rfl, (blk_cell BK101.out 1).trans rfl, (blk_cell BK101.out 2).trans rfl, (blk_cell BK101.out 3).trans rfl, (blk_cell BK101.out 4).trans rfl, (blk_cell BK101.out 5).trans rfl, (blk_cell BK101.out 6).trans rfl⟩ (fun hHeld => ?_)
      generalize wc.drew = w65 at HO_123002 HO_137002 HO_137003 HO_137005 HO_144002 BK101 BK122 BK136 BK143 HB hHeld ⊢
      refine take_ (i := 0) (N := some 41) (v := ?_) (a' := ?_) #[I,O,O,O,O] rfl rfl (by kernel_rfl) (fun _ _ _ h => h) (Or.inl ⟨by rfl, ?_⟩) hHeld ?_ ?_
      rotate_left; (rintro w' ⟨s0, s1, s2, s3, s4, s5, s6, s7, s8, s9, s10, s11, s12, s13⟩; go_simp; with_reducible rfl); rotate_left; (simp only [Z]; rfl)
      refine take_ (i := 1) (N := some 42) (v := ?_) (a' := ?_) #[I,I,O,O,O] rfl rfl (by kernel_rfl) (fun _ _ _ h => h) (Or.inl ⟨by rfl, ?_⟩) hHeld ?_ ?_
      rotate_left; (rintro w' ⟨s0, s1, s2, s3, s4, s5, s6, s7, s8, s9, s10, s11, s12, s13⟩; go_simp; with_reducible rfl); rotate_left; (simp only [Z]; rfl)
      refine one_ (i := 2) (N := some 43) #[I,I,I,O,O] rfl rfl (by kernel_rfl) (by decide) (fun K hK => ?_)
      refine goes_ Try.func40 (by kernel_rfl) rfl #[.agg #[.int .i64 a0_0, .int .i64 a0_1, .slice A0_2 l0_2.length c0_2, .slice A0_3 l0_3.length c0_3, .int .i64 a0_4, .slice A0_5 l0_5.length c0_5, .bool a0_6]] (by rfl) rfl rfl (by (try simp only [List.map_toArray, List.map_cons, List.map_nil]); first | done | rfl | (simp only [List.length_drop, List.length_take]; rfl)) ?_
      with_reducible refine (laws_toWeaving.calls kj10 a0_0 a0_1 _ _ l0_2 _ _ l0_3 a0_4 _ _ l0_5 a0_6 t145 t146 t147 t150 t153 t154 t157 _ ?side1 ?side2 ?side3 ?side4 ?side5 ?side6 A60.out).mono ?_
      (case side1 => repeat (first | exact (Kd.C_below HR0_2.out HB.out) | (with_reducible refine Kd.C_alloc ?_ _) | (with_reducible refine Kd.C_drewN ?_ _) | (with_reducible refine Kd.C_drew ?_)))
      (case side2 => exact HC0_2.out)
      (case side3 => repeat (first | exact (Kd.C_below HR0_3.out HB.out) | (with_reducible refine Kd.C_alloc ?_ _) | (with_reducible refine Kd.C_drewN ?_ _) | (with_reducible refine Kd.C_drew ?_)))
      (case side4 => exact HC0_3.out)
      (case side5 => repeat (first | exact (Kd.C_below HR0_5.out HB.out) | (with_reducible refine Kd.C_alloc ?_ _) | (with_reducible refine Kd.C_drewN ?_ _) | (with_reducible refine Kd.C_drew ?_)))
      (case side6 => exact HC0_5.out)
      rintro e w66 ⟨v148, v151, v155, rfl, ho0, ho1, ho2, hb⟩
      refine ⟨_, rfl, ?_⟩
      have n0_ := Aside0.mk (Kd.R_mono (Kd.R_told (Kd.R_told (Kd.R_old (by exact Ho.RS <| HO_123002.out) hb) (Kd.R_base ho0)) (Kd.R_base ho1)) (fun _ h_ => h_.1))
      have n1_ := Aside0.mk (Kd.R_mono (Kd.R_told (Kd.R_told (Kd.R_old (by exact Ho.RS <| HO_137002.out) hb) (Kd.R_base ho0)) (Kd.R_base ho1)) (fun _ h_ => h_.1))
      have n2_ := Aside0.mk (Kd.R_mono (Kd.R_told (Kd.R_told (Kd.R_old (by exact Ho.RS <| HO_137003.out) hb) (Kd.R_base ho0)) (Kd.R_base ho1)) (fun _ h_ => h_.1))
      have n3_ := Aside0.mk (Kd.R_elder' (by exact Ho.RS <| HO_137005.out) (Kd.R_base ho2) hb)
      have n4_ := Aside0.mk (Kd.R_mono (Kd.R_told (Kd.R_told (Kd.R_old (by exact Ho.RS <| HO_144002.out) hb) (Kd.R_base ho0)) (Kd.R_base ho1)) (fun _ h_ => h_.1))
      have n5_ := Aside0.mk (Kd.R_lower (Kd.R_new' (Kd.R_new' (Kd.R_new' (Kd.R_new' ho0 (Kd.R_lt (by exact Ho.RS <| HO_123002.out))) (Kd.R_lt (by exact Ho.RS <| HO_137002.out))) (Kd.R_lt (by exact Ho.RS <| HO_137003.out))) (Kd.R_lt (by exact Ho.RS <| HO_144002.out))) (below_size (by exact eS HB.out)))
      have n6_ := Aside0.mk (Kd.R_lower (Kd.R_new' (Kd.R_new' (Kd.R_new' (Kd.R_new' ho1 (Kd.R_lt (by exact Ho.RS <| HO_123002.out))) (Kd.R_lt (by exact Ho.RS <| HO_137002.out))) (Kd.R_lt (by exact Ho.RS <| HO_137003.out))) (Kd.R_lt (by exact Ho.RS <| HO_144002.out))) (below_size (by exact eS HB.out)))
      have n7_ := Aside0.mk (Kd.R_lower (Kd.R_new' ho2 (Kd.R_lt (by exact Ho.RS <| HO_137005.out))) (below_size (by exact eS HB.out)))
      have n8_ := Aside0.mk (blk_below (bS BK101.out) hb)
      have n9_ := Aside0.mk (blk_below (bS BK122.out) hb)
      have n10_ := Aside0.mk (blk_below (bS BK136.out) hb)
      have n11_ := Aside0.mk (blk_below (bS BK143.out) hb)
      have n12_ := Aside0.mk (below_step (by exact eS HB.out) hb)
      clear HO_123002
      clear HO_137002
      clear HO_137003
      clear HO_137005
      clear HO_144002
      clear BK101
      clear BK122
      clear BK136
      clear BK143
      clear HB
      have HO_123002 := n0_
      have HO_137002 := n1_
      have HO_137003 := n2_
      have HO_137005 := n3_
      have HO_144002 := n4_
      have HO149 := n5_
      have HO152 := n6_
      have HO156 := n7_
      have BK101 := n8_
      have BK122 := n9_
      have BK136 := n10_
      have BK143 := n11_
      have HB := n12_
      clear n0_ n1_ n2_ n3_ n4_ n5_ n6_ n7_ n8_ n9_ n10_ n11_ n12_
      (try clear hb)
      (try clear hb2)
      (try clear hk)
      (try clear hi)
      (try clear ho0)
      (try clear ho1)
      (try clear ho2)
      obtain ⟨Ao67, co67, eo67⟩ := Kd.R_slice HO149.out
      (first | subst eo67 | (injection eo67 with f1_ f2_ f3_; have f4_ := f1_.symm; have f5_ := f3_.symm; clear f1_ f2_ f3_; subst f4_; subst f5_))
      obtain ⟨Ao68, co68, eo68⟩ := Kd.R_slice HO152.out
      (first | subst eo68 | (injection eo68 with f1_ f2_ f3_; have f4_ := f1_.symm; have f5_ := f3_.symm; clear f1_ f2_ f3_; subst f4_; subst f5_))
      obtain ⟨Ao69, co69, eo69⟩ := Kd.R_slice HO156.out
      (first | subst eo69 | (injection eo69 with f1_ f2_ f3_; have f4_ := f1_.symm; have f5_ := f3_.symm; clear f1_ f2_ f3_; subst f4_; subst f5_))
      refine hK.out _ _ ⟨(blk_cell BK136.out 0).trans rfl, (blk_cell BK136.out 1).trans rfl, (blk_cell BK136.out 2).trans rfl, (blk_cell BK136.out 3).trans rfl, (blk_cell BK136.out 4).trans rfl, (blk_cell BK136.out 5).trans rfl, (blk_cell BK136.out 6).trans rfl, (blk_cell BK101.out 0).trans rfl, (blk_cell BK101.out 1).trans rfl, (blk_cell BK101.out 2).trans rfl, (blk_cell BK101.out 3).trans rfl, (blk_cell BK101.out 4).trans rfl, (blk_cell BK101.out 5).trans rfl, (blk_cell BK101.out 6).trans rfl⟩ (fun hHeld => ?_)
      clear hK K
      refine norm_ (a' := ?_) ?_ ?_
      rotate_left
      ·show Act.put _ (some 43) _ = _
       simp only [Z]
       rfl
      refine one_ (i := 3) (N := some 44) #[I,I,I,I,O] rfl rfl (by kernel_rfl) (by decide) (fun K hK => ?_)
      refine goes_ Try.func42 (by kernel_rfl) rfl #[.agg #[.int .i64 t123, .int .i64 t124, .slice Ao31 t125.length co31, .slice Ao32 t128.length co32, .int .i64 t131, .slice Ao33 t132.length co33, .bool t135], .agg #[.int .i64 t145, .int .i64 t146, .slice Ao67 t147.length co67, .slice Ao68 t150.length co68, .int .i64 t153, .slice Ao69 t154.length co69, .bool t157]] (by rfl) rfl rfl (by (try simp only [List.map_toArray, List.map_cons, List.map_nil]); first | done | rfl | (simp only [List.length_drop, List.length_take]; rfl)) ?_
      with_reducible refine (laws_eqWeaving.calls kj10 t123 t124 _ _ t125 _ _ t128 t131 _ _ t132 t135 t145 t146 _ _ t147 _ _ t150 t153 _ _ t154 t157 true _ ?side1 ?side2 ?side3 ?side4 ?side5 ?side6 ?side7 ?side8 ?side9 ?side10 ?side11 ?side12 A61.out).mono ?_
      (case side1 => repeat (first | exact (Kd.R_reads' HO_137002.out).2.2 | (with_reducible refine Kd.C_alloc ?_ _) | (with_reducible refine Kd.C_drewN ?_ _) | (with_reducible refine Kd.C_drew ?_)))
      (case side2 => exact (Kd.R_reads' HO_137002.out).2.1)
      (case side3 => repeat (first | exact (Kd.R_reads' HO_137003.out).2.2 | (with_reducible refine Kd.C_alloc ?_ _) | (with_reducible refine Kd.C_drewN ?_ _) | (with_reducible refine Kd.C_drew ?_)))
      (case side4 => exact (Kd.R_reads' HO_137003.out).2.1)
      (case side5 => repeat (first | exact (Kd.R_reads' HO_137005.out).2.2 | (with_reducible refine Kd.C_alloc ?_ _) | (with_reducible refine Kd.C_drewN ?_ _) | (with_reducible refine Kd.C_drew ?_)))
      (case side6 => exact (Kd.R_reads' HO_137005.out).2.1)
      (case side7 => repeat (first | exact (Kd.R_reads' HO149.out).2.2 | (with_reducible refine Kd.C_alloc ?_ _) | (with_reducible refine Kd.C_drewN ?_ _) | (with_reducible refine Kd.C_drew ?_)))
      (case side8 => exact (Kd.R_reads' HO149.out).2.1)
      (case side9 => repeat (first | exact (Kd.R_reads' HO152.out).2.2 | (with_reducible refine Kd.C_alloc ?_ _) | (with_reducible refine Kd.C_drewN ?_ _) | (with_reducible refine Kd.C_drew ?_)))
      (case side10 => exact (Kd.R_reads' HO152.out).2.1)
      (case side11 => repeat (first | exact (Kd.R_reads' HO156.out).2.2 | (with_reducible refine Kd.C_alloc ?_ _) | (with_reducible refine Kd.C_drewN ?_ _) | (with_reducible refine Kd.C_drew ?_)))
      (case side12 => exact (Kd.R_reads' HO156.out).2.1)
      rintro e w70 ⟨rfl, hb⟩
      refine ⟨_, rfl, ?_⟩
      have n0_ := Aside0.mk (Kd.R_below (by exact Ho.RS <| HO_123002.out) hb)
      have n1_ := Aside0.mk (Kd.R_below (by exact Ho.RS <| HO_137002.out) hb)
      have n2_ := Aside0.mk (Kd.R_below (by exact Ho.RS <| HO_137003.out) hb)
      have n3_ := Aside0.mk (Kd.R_below (by exact Ho.RS <| HO_137005.out) hb)
      have n4_ := Aside0.mk (Kd.R_below (by exact Ho.RS <| HO_144002.out) hb)
      have n5_ := Aside0.mk (Kd.R_below (by exact Ho.RS <| HO149.out) hb)
      have n6_ := Aside0.mk (Kd.R_below (by exact Ho.RS <| HO152.out) hb)
      have n7_ := Aside0.mk (Kd.R_below (by exact Ho.RS <| HO156.out) hb)
      have n8_ := Aside0.mk (blk_below (bS BK101.out) hb)
      have n9_ := Aside0.mk (blk_below (bS BK122.out) hb)
      have n10_ := Aside0.mk (blk_below (bS BK136.out) hb)
      have n11_ := Aside0.mk (blk_below (bS BK143.out) hb)
      have n12_ := Aside0.mk (below_step (by exact eS HB.out) hb)
      clear HO_123002
      clear HO_137002
      clear HO_137003
      clear HO_137005
      clear HO_144002
      clear HO149
      clear HO152
      clear HO156
      clear BK101
      clear BK122
      clear BK136
      clear BK143
      clear HB
      have HO_123002 := n0_
      have HO_137002 := n1_
      have HO_137003 := n2_
      have HO_137005 := n3_
      have HO_144002 := n4_
      have HO149 := n5_
      have HO152 := n6_
      have HO156 := n7_
      have BK101 := n8_
      have BK122 := n9_
      have BK136 := n10_
      have BK143 := n11_
      have HB := n12_
      clear n0_ n1_ n2_ n3_ n4_ n5_ n6_ n7_ n8_ n9_ n10_ n11_ n12_
      (try clear hb)
      (try clear hb2)
      (try clear hk)
      (try clear hi)
      refine hK.out _ _ ⟨(blk_cell BK136.out 0).trans rfl, (blk_cell BK136.out 1).trans rfl, (blk_cell BK136.out 2).trans rfl, (blk_cell BK136.out 3).trans rfl, (blk_cell BK136.out 4).trans rfl, (blk_cell BK136.out 5).trans rfl, (blk_cell BK136.out 6).trans rfl, (blk_cell BK101.out 0).trans rfl, (blk_cell BK101.out 1).trans rfl, (blk_cell BK101.out 2).trans rfl, (blk_cell BK101.out 3).trans rfl, (blk_cell BK101.out 4).trans rfl, (blk_cell BK101.out 5).trans rfl, (blk_cell BK101.out 6).trans rfl⟩ (fun hHeld => ?_)
      clear hK K
      refine norm_ (a' := ?_) ?_ ?_
      rotate_left
      ·show Act.put _ (some 44) _ = _
       simp only [Z]
       rfl
      refine pure_ (i := 4) (N := some 45) (v := ?_) (a' := ?_) #[I,I,I,I,I] rfl rfl (by kernel_rfl) (fun _ _ _ h => h) (Or.inl ⟨by rfl, ?_⟩) ?_ ?_
      rotate_left; (intro w'; go_simp; with_reducible rfl); rotate_left; (simp only [Z]; rfl)
      refine done_ (by kernel_rfl) ?_
      have hnb71 := NB136_101.out
      have hnc71 := NB101_136.out
      have hnb72 := NB136_122.out
      have hnc72 := NB122_136.out
      have hnb73 := NB136_143.out
      have hnc73 := NB143_136.out
      have hcz74_0 : w70.cell? ⟨gb136, 0, none⟩ = some (.int .i64 t123) := (blk_cell BK136.out 0).trans rfl
      have hcz74_1 : w70.cell? ⟨gb136, 1, none⟩ = some (.int .i64 t124) := (blk_cell BK136.out 1).trans rfl
      have hcz74_2 : w70.cell? ⟨gb136, 2, none⟩ = some (.slice Ao31 t125.length co31) := (blk_cell BK136.out 2).trans rfl
      have hcz74_3 : w70.cell? ⟨gb136, 3, none⟩ = some (.slice Ao32 t128.length co32) := (blk_cell BK136.out 3).trans rfl
      have hcz74_4 : w70.cell? ⟨gb136, 4, none⟩ = some (.int .i64 t131) := (blk_cell BK136.out 4).trans rfl
      have hcz74_5 : w70.cell? ⟨gb136, 5, none⟩ = some (.slice Ao33 t132.length co33) := (blk_cell BK136.out 5).trans rfl
      have hcz74_6 : w70.cell? ⟨gb136, 6, none⟩ = some (.bool t135) := (blk_cell BK136.out 6).trans rfl
      have hfz74_0 := blk_frozen BK136.out 0
      have hfz74_1 := blk_frozen BK136.out 1
      have hfz74_2 := blk_frozen BK136.out 2
      have hfz74_3 := blk_frozen BK136.out 3
      have hfz74_4 := blk_frozen BK136.out 4
      have hfz74_5 := blk_frozen BK136.out 5
      have hfz74_6 := blk_frozen BK136.out 6
      go_upto_region 14 with (first | ((with_reducible refine gate_callee (f := 49) rfl ?_); refine goesL_ (some 48) rfl rfl Try.func49 (by kernel_rfl) rfl #[.agg #[.int .i64 t123, .int .i64 t124, .slice Ao31 t125.length co31, .slice Ao32 t128.length co32, .int .i64 t131, .slice Ao33 t132.length co33, .bool t135], .int .i64 1] rfl (by (try simp only [List.map_toArray, List.map_cons, List.map_nil]); first | done | rfl | (simp only [List.length_drop, List.length_take]; rfl)) ?_; (with_reducible refine (laws_markWeaving.calls kj10 t123 t124 (fun k_ => some k_ = (.slice Ao31 t125.length co31 : Value).ownBlock) (.slice Ao31 t125.length co31) t125 (fun k_ => some k_ = (.slice Ao32 t128.length co32 : Value).ownBlock) (.slice Ao32 t128.length co32) t128 t131 (fun k_ => some k_ = (.slice Ao33 t132.length co33 : Value).ownBlock) (.slice Ao33 t132.length co33) t132 t135 1 t159 t160 t161 t162 w _ ?side1 ?side2 ?side3 ?side4 ?side5 ?side6 A63.out).mono ?_); (case side1 => exact eS HB.out); (case side2 => exact Kd.R_tight rfl HO_137002.out); (case side3 => exact fun k_ e_ => (HO_137002.out.1 k_ e_.symm).1.1.2.1); (case side4 => exact Kd.R_tight rfl HO_137003.out); (case side5 => exact fun k_ e_ => (HO_137003.out.1 k_ e_.symm).1.1.2.1); (case side6 => exact Kd.R_tight rfl HO_137005.out); rintro e w75 ⟨rfl, hy0, hy1, hy2, hb, hkp⟩; refine ⟨_, rfl, ?_⟩; have n0_ := Aside0.mk (Kd.R_mono (ok' := fun k_ => some k_ ≠ (.slice Ao31 t125.length co31 : Value).ownBlock ∧ some k_ ≠ (.slice Ao32 t128.length co32 : Value).ownBlock ∧ some k_ ≠ (.slice Ao40 t139.length co40 : Value).ownBlock ∧ some k_ ≠ (.slice Ao67 t147.length co67 : Value).ownBlock ∧ some k_ ≠ (.slice Ao68 t150.length co68 : Value).ownBlock) (Kd.R_keptB ((Kd.R_apart' HO_123002.out (Kd.R_typed HO_137005.out) (by decide))) hkp (fun k_ hk_ hs_ => Or.elim hs_ (fun e_ => (hk_.1.1.1.1) e_) (fun e_ => Or.elim e_ (fun e_ => (hk_.1.1.1.2.1) e_) (fun e_ => (hk_.2) e_)))) (fun k_ hk_ => ⟨hk_.1.1.1.1.1, hk_.1.1.1.1.2.1, hk_.1.1.1.1.2.2, hk_.1.1.1.2, hk_.1.1.2⟩)); have n1_ := Aside0.mk (Kd.R_reok rfl hy0 (fun k_ e_ => HO_137002.out.1 k_ e_)); have n2_ := Aside0.mk (Kd.R_reok rfl hy1 (fun k_ e_ => HO_137003.out.1 k_ e_)); have n3_ := Aside0.mk (Kd.R_reok rfl hy2 (fun k_ e_ => HO_137005.out.1 k_ e_)); have n4_ := Aside0.mk (Kd.R_mono (ok' := fun k_ => some k_ ≠ (.slice Ao24 t118.length co24 : Value).ownBlock ∧ some k_ ≠ (.slice Ao31 t125.length co31 : Value).ownBlock ∧ some k_ ≠ (.slice Ao32 t128.length co32 : Value).ownBlock ∧ some k_ ≠ (.slice Ao67 t147.length co67 : Value).ownBlock ∧ some k_ ≠ (.slice Ao68 t150.length co68 : Value).ownBlock) (Kd.R_keptB ((Kd.R_apart' HO_144002.out (Kd.R_typed HO_137005.out) (by decide))) hkp (fun k_ hk_ hs_ => Or.elim hs_ (fun e_ => (hk_.1.1.1.2.1) e_) (fun e_ => Or.elim e_ (fun e_ => (hk_.1.1.1.2.2) e_) (fun e_ => (hk_.2) e_)))) (fun k_ hk_ => ⟨hk_.1.1.1.1.1, hk_.1.1.1.1.2.1, hk_.1.1.1.1.2.2, hk_.1.1.1.2, hk_.1.1.2⟩)); have n5_ := Aside0.mk (blk_kept (by exact bS BK101.out) hkp (fun hs_ => Or.elim hs_ (fun e_ => (fun e_ => (Kd.R_ne HO_137002.out BK101.out (by decide)) e_) e_) (fun e_ => Or.elim e_ (fun e_ => (fun e_ => (Kd.R_ne HO_137003.out BK101.out (by decide)) e_) e_) (fun e_ => (fun e_ => (Kd.R_ne HO_137005.out BK101.out (by decide)) e_) e_)))); have n6_ := Aside0.mk (blk_kept (by exact bS BK122.out) hkp (fun hs_ => Or.elim hs_ (fun e_ => (fun e_ => (Kd.R_ne HO_137002.out BK122.out (by decide)) e_) e_) (fun e_ => Or.elim e_ (fun e_ => (fun e_ => (Kd.R_ne HO_137003.out BK122.out (by decide)) e_) e_) (fun e_ => (fun e_ => (Kd.R_ne HO_137005.out BK122.out (by decide)) e_) e_)))); have n7_ := Aside0.mk (blk_kept (by exact bS BK136.out) hkp (fun hs_ => Or.elim hs_ (fun e_ => (fun e_ => (Kd.R_ne HO_137002.out BK136.out (by decide)) e_) e_) (fun e_ => Or.elim e_ (fun e_ => (fun e_ => (Kd.R_ne HO_137003.out BK136.out (by decide)) e_) e_) (fun e_ => (fun e_ => (Kd.R_ne HO_137005.out BK136.out (by decide)) e_) e_)))); have n8_ := Aside0.mk (blk_kept (by exact bS BK143.out) hkp (fun hs_ => Or.elim hs_ (fun e_ => (fun e_ => (Kd.R_ne HO_137002.out BK143.out (by decide)) e_) e_) (fun e_ => Or.elim e_ (fun e_ => (fun e_ => (Kd.R_ne HO_137003.out BK143.out (by decide)) e_) e_) (fun e_ => (fun e_ => (Kd.R_ne HO_137005.out BK143.out (by decide)) e_) e_)))); have n9_ := Aside0.mk (Kd.R_mono (ok' := fun k_ => some k_ ≠ (.slice Ao24 t118.length co24 : Value).ownBlock ∧ some k_ ≠ (.slice Ao31 t125.length co31 : Value).ownBlock ∧ some k_ ≠ (.slice Ao32 t128.length co32 : Value).ownBlock ∧ some k_ ≠ (.slice Ao40 t139.length co40 : Value).ownBlock ∧ some k_ ≠ (.slice Ao68 t150.length co68 : Value).ownBlock) (Kd.R_keptB ((Kd.R_apart' HO149.out (Kd.R_typed HO_137005.out) (by decide))) hkp (fun k_ hk_ hs_ => Or.elim hs_ (fun e_ => (hk_.1.1.1.2) e_) (fun e_ => Or.elim e_ (fun e_ => (hk_.1.1.2) e_) (fun e_ => (hk_.2) e_)))) (fun k_ hk_ => ⟨hk_.1.1.1.1.1.2, hk_.1.1.1.1.2, hk_.1.1.1.2, hk_.1.1.2, hk_.1.1.1.1.1.1⟩)); have n10_ := Aside0.mk (Kd.R_mono (ok' := fun k_ => some k_ ≠ (.slice Ao24 t118.length co24 : Value).ownBlock ∧ some k_ ≠ (.slice Ao31 t125.length co31 : Value).ownBlock ∧ some k_ ≠ (.slice Ao32 t128.length co32 : Value).ownBlock ∧ some k_ ≠ (.slice Ao40 t139.length co40 : Value).ownBlock ∧ some k_ ≠ (.slice Ao67 t147.length co67 : Value).ownBlock) (Kd.R_keptB ((Kd.R_apart' HO152.out (Kd.R_typed HO_137005.out) (by decide))) hkp (fun k_ hk_ hs_ => Or.elim hs_ (fun e_ => (hk_.1.1.1.2) e_) (fun e_ => Or.elim e_ (fun e_ => (hk_.1.1.2) e_) (fun e_ => (hk_.2) e_)))) (fun k_ hk_ => ⟨hk_.1.1.1.1.1.2, hk_.1.1.1.1.2, hk_.1.1.1.2, hk_.1.1.2, hk_.1.1.1.1.1.1⟩)); have n11_ := Aside0.mk (Kd.R_mono (ok' := fun k_ => some k_ ≠ (.slice Ao33 t132.length co33 : Value).ownBlock) (Kd.R_keptB ((Kd.R_apart' (Kd.R_apart' HO156.out (Kd.R_typed HO_137002.out) (by decide)) (Kd.R_typed HO_137003.out) (by decide))) hkp (fun k_ hk_ hs_ => Or.elim hs_ (fun e_ => (hk_.1.2) e_) (fun e_ => Or.elim e_ (fun e_ => (hk_.2) e_) (fun e_ => (hk_.1.1.2) e_)))) (fun k_ hk_ => hk_.1.1.1.2)); have n12_ := Aside0.mk (hb); clear HO_123002; clear HO_137002; clear HO_137003; clear HO_137005; clear HO_144002; clear BK101; clear BK122; clear BK136; clear BK143; clear HO149; clear HO152; clear HO156; clear HB; have HO_123002 := n0_; have HO_137002 := n1_; have HO_137003 := n2_; have HO_137005 := n3_; have HO_144002 := n4_; have BK101 := n5_; have BK122 := n6_; have BK136 := n7_; have BK143 := n8_; have HO149 := n9_; have HO152 := n10_; have HO156 := n11_; have HB := n12_; clear n0_ n1_ n2_ n3_ n4_ n5_ n6_ n7_ n8_ n9_ n10_ n11_ n12_; (try clear hb); (try clear hkp); (try clear hy0); (try clear hy1); (try clear hy2)))
      (try simp only [Act.put, List.setIfInBounds_toArray, List.set_cons_zero, List.set_cons_succ])
      go_cut [61] (fun v61 wc => ∃ (kq : Nat) (x61_63 : Bool), v61 = .bool x61_63 ∧ Aside0 (laws_FnExactWovenChart.j1 kq t121 x61_63 a0_0 a0_1 l0_2 l0_3 a0_4 l0_5 a0_6 t116 t117 t118 t137 t138 t139 = some r) ∧ Aside0 (kq ≤ kj10) ∧ Aside0 (Kd.R (Kd.int .i64) 3 wc w.heap.size (fun k_ => some k_ ≠ ((.slice Ao31 t125.length co31) : Value).ownBlock ∧ some k_ ≠ ((.slice Ao32 t128.length co32) : Value).ownBlock ∧ some k_ ≠ ((.slice Ao40 t139.length co40) : Value).ownBlock) (.slice Ao24 t118.length co24) t118) ∧ Aside0 (Kd.R (Kd.int .i64) 3 wc w.heap.size (fun k_ => some k_ ≠ ((.slice Ao24 t118.length co24) : Value).ownBlock ∧ some k_ ≠ ((.slice Ao32 t128.length co32) : Value).ownBlock ∧ some k_ ≠ ((.slice Ao40 t139.length co40) : Value).ownBlock) (.slice Ao31 t125.length co31) t160) ∧ Aside0 (Kd.R (Kd.int .i64) 3 wc w.heap.size (fun k_ => some k_ ≠ ((.slice Ao24 t118.length co24) : Value).ownBlock ∧ some k_ ≠ ((.slice Ao31 t125.length co31) : Value).ownBlock ∧ some k_ ≠ ((.slice Ao40 t139.length co40) : Value).ownBlock) (.slice Ao32 t128.length co32) t161) ∧ Aside0 (Kd.R k89 89 wc w.heap.size (fun _ => True) (.slice Ao33 t132.length co33) t162) ∧ Aside0 (Kd.R (Kd.int .i64) 3 wc w.heap.size (fun k_ => some k_ ≠ ((.slice Ao24 t118.length co24) : Value).ownBlock ∧ some k_ ≠ ((.slice Ao31 t125.length co31) : Value).ownBlock ∧ some k_ ≠ ((.slice Ao32 t128.length co32) : Value).ownBlock) (.slice Ao40 t139.length co40) t139) ∧ Aside0 (wc.heap[gb101]? = some (.cells #[.int .i64 a0_0, .int .i64 a0_1, (.slice A0_2 l0_2.length c0_2), (.slice A0_3 l0_3.length c0_3), .int .i64 a0_4, (.slice A0_5 l0_5.length c0_5), .bool a0_6] 54 (0, 0))) ∧ Aside0 (wc.heap[gb122]? = some (.cells #[.int .i64 t116, .int .i64 t117, (.slice Ao24 t118.length co24)] 30 (0, 0))) ∧ Aside0 (wc.heap[gb136]? = some (.cells #[.int .i64 t123, .int .i64 t124, (.slice Ao31 t125.length co31), (.slice Ao32 t128.length co32), .int .i64 t131, (.slice Ao33 t132.length co33), .bool t135] 59 (0, 0))) ∧ Aside0 (wc.heap[gb143]? = some (.cells #[.int .i64 t137, .int .i64 t138, (.slice Ao40 t139.length co40)] 30 (0, 0))) ∧ Aside0 (Below w.heap.size w wc))
      case first =>
       have H := HC64.out
       clear HC64
       by_cases c76 : t159 < 0
       ·rw [if_pos c76] at H
        have c76b0 : decide (t159 < 0) = true := decide_eq_true c76
        clear c76
        (first | rw [c76b0] | (simp only [i64_w, i32_w]; rw [c76b0]) | skip)
        as_aux_lemma =>
         have H' := Aside0.mk H
         clear H
         go_wp2
         go_meet
         case rel => exact ⟨_, (true), (by first | rfl | (simp; done) | (simp [*]; done)), H', ⟨by have := HJ10.out; first | omega | exact Nat.le_refl _⟩, ⟨by exact Ho.RS <| Kd.R_mono HO_123002.out (fun _ hk => ⟨hk.1, ⟨hk.2.1, hk.2.2.1⟩⟩)⟩, ⟨by exact Ho.RS <| Kd.R_mono HO_137002.out (fun _ hk => ⟨hk.1.1.1, ⟨hk.1.1.2.1, hk.1.1.2.2⟩⟩)⟩, ⟨by exact Ho.RS <| Kd.R_mono HO_137003.out (fun _ hk => ⟨hk.1.1.1, ⟨hk.1.1.2.1, hk.1.1.2.2⟩⟩)⟩, ⟨by exact Ho.RS <| Kd.R_mono HO_137005.out (fun _ hk => trivial)⟩, ⟨by exact Ho.RS <| Kd.R_mono HO_144002.out (fun _ hk => ⟨hk.1, ⟨hk.2.1, hk.2.2.1⟩⟩)⟩, ⟨by exact bS BK101.out⟩, ⟨by exact bS BK122.out⟩, ⟨by exact bS BK136.out⟩, ⟨by exact bS BK143.out⟩, ⟨by exact eS HB.out⟩⟩
       ·rw [if_neg c76] at H
        have c76b0 : decide (t159 < 0) = false := decide_eq_false c76
        clear c76
        (first | rw [c76b0] | (simp only [i64_w, i32_w]; rw [c76b0]) | skip)
        replace H := Option.bind_eq_some_iff.mp H
        obtain ⟨t163, A770, H⟩ := H
        replace H : (if t163 = true then (laws_FnExactWovenChart.j1 kj10 t121 (t142 != t121) a0_0 a0_1 l0_2 l0_3 a0_4 l0_5 a0_6 t116 t117 t118 t137 t138 t139) else (laws_FnExactWovenChart.j1 kj10 t121 true a0_0 a0_1 l0_2 l0_3 a0_4 l0_5 a0_6 t116 t117 t118 t137 t138 t139)) = some r := H
        have A77 := Aside0.mk A770
        clear A770
        by_cases c78 : t163 = true
        ·subst c78
         have H1 : (laws_FnExactWovenChart.j1 kj10 t121 (t142 != t121) a0_0 a0_1 l0_2 l0_3 a0_4 l0_5 a0_6 t116 t117 t118 t137 t138 t139) = some r := by rw [if_pos rfl] at H; exact H
         clear H
         have H := H1
         clear H1
         as_aux_lemma =>
          have H' := Aside0.mk H
          clear H
          have hnb79 := NB143_101.out
          have hnc79 := NB101_143.out
          have hnb80 := NB143_122.out
          have hnc80 := NB122_143.out
          have hnb81 := NB143_136.out
          have hnc81 := NB136_143.out
          have hcz82_0 : w75.cell? ⟨gb143, 0, none⟩ = some (.int .i64 t137) := (blk_cell BK143.out 0).trans rfl
          have hcz82_1 : w75.cell? ⟨gb143, 1, none⟩ = some (.int .i64 t138) := (blk_cell BK143.out 1).trans rfl
          have hcz82_2 : w75.cell? ⟨gb143, 2, none⟩ = some (.slice Ao40 t139.length co40) := (blk_cell BK143.out 2).trans rfl
          have hfz82_0 := blk_frozen BK143.out 0
          have hfz82_1 := blk_frozen BK143.out 1
          have hfz82_2 := blk_frozen BK143.out 2
          have hnb83 := NB122_101.out
          have hnc83 := NB101_122.out
          have hnb84 := NB122_136.out
          have hnc84 := NB136_122.out
          have hcz85_0 : w75.cell? ⟨gb122, 0, none⟩ = some (.int .i64 t116) := (blk_cell BK122.out 0).trans rfl
          have hcz85_1 : w75.cell? ⟨gb122, 1, none⟩ = some (.int .i64 t117) := (blk_cell BK122.out 1).trans rfl
          have hcz85_2 : w75.cell? ⟨gb122, 2, none⟩ = some (.slice Ao24 t118.length co24) := (blk_cell BK122.out 2).trans rfl
          have hfz85_0 := blk_frozen BK122.out 0
          have hfz85_1 := blk_frozen BK122.out 1
          have hfz85_2 := blk_frozen BK122.out 2
          go_wp2_with (first | (go_at_call 19; (with_reducible refine (laws_eqChart.calls kj10 t137 t138 _ _ t139 t116 t117 _ _ t118 true _ ?side1 ?side2 ?side3 ?side4 A77.out).mono ?_); (case side1 => repeat (first | exact (Kd.R_reads' HO_144002.out).2.2 | (with_reducible refine Kd.C_alloc ?_ _) | (with_reducible refine Kd.C_drewN ?_ _) | (with_reducible refine Kd.C_drew ?_))); (case side2 => exact (Kd.R_reads' HO_144002.out).2.1); (case side3 => repeat (first | exact (Kd.R_reads' HO_123002.out).2.2 | (with_reducible refine Kd.C_alloc ?_ _) | (with_reducible refine Kd.C_drewN ?_ _) | (with_reducible refine Kd.C_drew ?_))); (case side4 => exact (Kd.R_reads' HO_123002.out).2.1); rintro e w86 ⟨rfl, hb⟩; have n0_ := Aside0.mk (Kd.R_below (by exact Ho.RS <| HO_123002.out) hb); have n1_ := Aside0.mk (Kd.R_below (by exact Ho.RS <| HO_137002.out) hb); have n2_ := Aside0.mk (Kd.R_below (by exact Ho.RS <| HO_137003.out) hb); have n3_ := Aside0.mk (Kd.R_below (by exact Ho.RS <| HO_137005.out) hb); have n4_ := Aside0.mk (Kd.R_below (by exact Ho.RS <| HO_144002.out) hb); have n5_ := Aside0.mk (Kd.R_below (by exact Ho.RS <| HO149.out) hb); have n6_ := Aside0.mk (Kd.R_below (by exact Ho.RS <| HO152.out) hb); have n7_ := Aside0.mk (Kd.R_below (by exact Ho.RS <| HO156.out) hb); have n8_ := Aside0.mk (blk_below (bS BK101.out) hb); have n9_ := Aside0.mk (blk_below (bS BK122.out) hb); have n10_ := Aside0.mk (blk_below (bS BK136.out) hb); have n11_ := Aside0.mk (blk_below (bS BK143.out) hb); have n12_ := Aside0.mk (below_step (by exact eS HB.out) hb); clear HO_123002; clear HO_137002; clear HO_137003; clear HO_137005; clear HO_144002; clear HO149; clear HO152; clear HO156; clear BK101; clear BK122; clear BK136; clear BK143; clear HB; have HO_123002 := n0_; have HO_137002 := n1_; have HO_137003 := n2_; have HO_137005 := n3_; have HO_144002 := n4_; have HO149 := n5_; have HO152 := n6_; have HO156 := n7_; have BK101 := n8_; have BK122 := n9_; have BK136 := n10_; have BK143 := n11_; have HB := n12_; clear n0_ n1_ n2_ n3_ n4_ n5_ n6_ n7_ n8_ n9_ n10_ n11_ n12_; (try clear hb); (try clear hb2); (try clear hk); (try clear hi)))
          go_meet
          case rel => exact ⟨_, ((t142 != t121)), (by first | rfl | (simp; done) | (simp [*]; done)), H', ⟨by have := HJ10.out; first | omega | exact Nat.le_refl _⟩, ⟨by exact Ho.RS <| Kd.R_mono HO_123002.out (fun _ hk => ⟨hk.1, ⟨hk.2.1, hk.2.2.1⟩⟩)⟩, ⟨by exact Ho.RS <| Kd.R_mono HO_137002.out (fun _ hk => ⟨hk.1.1.1, ⟨hk.1.1.2.1, hk.1.1.2.2⟩⟩)⟩, ⟨by exact Ho.RS <| Kd.R_mono HO_137003.out (fun _ hk => ⟨hk.1.1.1, ⟨hk.1.1.2.1, hk.1.1.2.2⟩⟩)⟩, ⟨by exact Ho.RS <| Kd.R_mono HO_137005.out (fun _ hk => trivial)⟩, ⟨by exact Ho.RS <| Kd.R_mono HO_144002.out (fun _ hk => ⟨hk.1, ⟨hk.2.1, hk.2.2.1⟩⟩)⟩, ⟨by exact bS BK101.out⟩, ⟨by exact bS BK122.out⟩, ⟨by exact bS BK136.out⟩, ⟨by exact bS BK143.out⟩, ⟨by exact eS HB.out⟩⟩
        ·replace c78 := Bool.eq_false_iff.mpr c78
         subst c78
         have H1 : (laws_FnExactWovenChart.j1 kj10 t121 true a0_0 a0_1 l0_2 l0_3 a0_4 l0_5 a0_6 t116 t117 t118 t137 t138 t139) = some r := by rw [if_neg (show ¬ (false = true) by decide)] at H; exact H
         clear H
         have H := H1
         clear H1
         as_aux_lemma =>
          have H' := Aside0.mk H
          clear H
          have hnb87 := NB143_101.out
          have hnc87 := NB101_143.out
          have hnb88 := NB143_122.out
          have hnc88 := NB122_143.out
          have hnb89 := NB143_136.out
          have hnc89 := NB136_143.out
          have hcz90_0 : w75.cell? ⟨gb143, 0, none⟩ = some (.int .i64 t137) := (blk_cell BK143.out 0).trans rfl
          have hcz90_1 : w75.cell? ⟨gb143, 1, none⟩ = some (.int .i64 t138) := (blk_cell BK143.out 1).trans rfl
          have hcz90_2 : w75.cell? ⟨gb143, 2, none⟩ = some (.slice Ao40 t139.length co40) := (blk_cell BK143.out 2).trans rfl
          have hfz90_0 := blk_frozen BK143.out 0
          have hfz90_1 := blk_frozen BK143.out 1
          have hfz90_2 := blk_frozen BK143.out 2
          have hnb91 := NB122_101.out
          have hnc91 := NB101_122.out
          have hnb92 := NB122_136.out
          have hnc92 := NB136_122.out
          have hcz93_0 : w75.cell? ⟨gb122, 0, none⟩ = some (.int .i64 t116) := (blk_cell BK122.out 0).trans rfl
          have hcz93_1 : w75.cell? ⟨gb122, 1, none⟩ = some (.int .i64 t117) := (blk_cell BK122.out 1).trans rfl
          have hcz93_2 : w75.cell? ⟨gb122, 2, none⟩ = some (.slice Ao24 t118.length co24) := (blk_cell BK122.out 2).trans rfl
          have hfz93_0 := blk_frozen BK122.out 0
          have hfz93_1 := blk_frozen BK122.out 1
          have hfz93_2 := blk_frozen BK122.out 2
          go_wp2_with (first | (go_at_call 19; (with_reducible refine (laws_eqChart.calls kj10 t137 t138 _ _ t139 t116 t117 _ _ t118 false _ ?side1 ?side2 ?side3 ?side4 A77.out).mono ?_); (case side1 => repeat (first | exact (Kd.R_reads' HO_144002.out).2.2 | (with_reducible refine Kd.C_alloc ?_ _) | (with_reducible refine Kd.C_drewN ?_ _) | (with_reducible refine Kd.C_drew ?_))); (case side2 => exact (Kd.R_reads' HO_144002.out).2.1); (case side3 => repeat (first | exact (Kd.R_reads' HO_123002.out).2.2 | (with_reducible refine Kd.C_alloc ?_ _) | (with_reducible refine Kd.C_drewN ?_ _) | (with_reducible refine Kd.C_drew ?_))); (case side4 => exact (Kd.R_reads' HO_123002.out).2.1); rintro e w94 ⟨rfl, hb⟩; have n0_ := Aside0.mk (Kd.R_below (by exact Ho.RS <| HO_123002.out) hb); have n1_ := Aside0.mk (Kd.R_below (by exact Ho.RS <| HO_137002.out) hb); have n2_ := Aside0.mk (Kd.R_below (by exact Ho.RS <| HO_137003.out) hb); have n3_ := Aside0.mk (Kd.R_below (by exact Ho.RS <| HO_137005.out) hb); have n4_ := Aside0.mk (Kd.R_below (by exact Ho.RS <| HO_144002.out) hb); have n5_ := Aside0.mk (Kd.R_below (by exact Ho.RS <| HO149.out) hb); have n6_ := Aside0.mk (Kd.R_below (by exact Ho.RS <| HO152.out) hb); have n7_ := Aside0.mk (Kd.R_below (by exact Ho.RS <| HO156.out) hb); have n8_ := Aside0.mk (blk_below (bS BK101.out) hb); have n9_ := Aside0.mk (blk_below (bS BK122.out) hb); have n10_ := Aside0.mk (blk_below (bS BK136.out) hb); have n11_ := Aside0.mk (blk_below (bS BK143.out) hb); have n12_ := Aside0.mk (below_step (by exact eS HB.out) hb); clear HO_123002; clear HO_137002; clear HO_137003; clear HO_137005; clear HO_144002; clear HO149; clear HO152; clear HO156; clear BK101; clear BK122; clear BK136; clear BK143; clear HB; have HO_123002 := n0_; have HO_137002 := n1_; have HO_137003 := n2_; have HO_137005 := n3_; have HO_144002 := n4_; have HO149 := n5_; have HO152 := n6_; have HO156 := n7_; have BK101 := n8_; have BK122 := n9_; have BK136 := n10_; have BK143 := n11_; have HB := n12_; clear n0_ n1_ n2_ n3_ n4_ n5_ n6_ n7_ n8_ n9_ n10_ n11_ n12_; (try clear hb); (try clear hb2); (try clear hk); (try clear hi)))
          go_meet
          case rel => exact ⟨_, (true), (by first | rfl | (simp; done) | (simp [*]; done)), H', ⟨by have := HJ10.out; first | omega | exact Nat.le_refl _⟩, ⟨by exact Ho.RS <| Kd.R_mono HO_123002.out (fun _ hk => ⟨hk.1, ⟨hk.2.1, hk.2.2.1⟩⟩)⟩, ⟨by exact Ho.RS <| Kd.R_mono HO_137002.out (fun _ hk => ⟨hk.1.1.1, ⟨hk.1.1.2.1, hk.1.1.2.2⟩⟩)⟩, ⟨by exact Ho.RS <| Kd.R_mono HO_137003.out (fun _ hk => ⟨hk.1.1.1, ⟨hk.1.1.2.1, hk.1.1.2.2⟩⟩)⟩, ⟨by exact Ho.RS <| Kd.R_mono HO_137005.out (fun _ hk => trivial)⟩, ⟨by exact Ho.RS <| Kd.R_mono HO_144002.out (fun _ hk => ⟨hk.1, ⟨hk.2.1, hk.2.2.1⟩⟩)⟩, ⟨by exact bS BK101.out⟩, ⟨by exact bS BK122.out⟩, ⟨by exact bS BK136.out⟩, ⟨by exact bS BK143.out⟩, ⟨by exact eS HB.out⟩⟩
      case rest =>
       clear HC64
       try clear c1
       try clear c2
       try clear p2
       try clear c3
       try clear c3b0
       try clear c4
       try clear c5
       try clear c6
       try clear c7
       try clear c8
       try clear c9
       try clear c13
       try clear c19
       try clear c22
       try clear c28
       try clear c29
       try clear c36
       try clear c37
       try clear c38
       try clear c40
       try clear c42
       try clear c43
       try clear c44
       try clear c45
       try clear c47
       try clear c48
       try clear c49
       try clear c50
       try clear c51
       try clear c52
       try clear c53
       try clear c55
       try clear c56
       try clear c59
       try clear c62
       try clear c71
       try clear c72
       try clear c73
       try clear c76
       try clear c76b0
       try clear c78
       try clear c79
       try clear c80
       try clear c81
       try clear c83
       try clear c84
       try clear c87
       try clear c88
       try clear c89
       try clear c91
       try clear c92
       try clear hcz13_0
       try clear hcz13_1
       try clear hcz13_2
       try clear hcz13_3
       try clear hcz13_4
       try clear hcz13_5
       try clear hcz13_6
       try clear hcz15_0
       try clear hcz15_1
       try clear hcz15_2
       try clear hcz15_3
       try clear hcz15_4
       try clear hcz15_5
       try clear hcz15_6
       try clear hcz23_0
       try clear hcz23_1
       try clear hcz23_2
       try clear hcz25_0
       try clear hcz25_1
       try clear hcz25_2
       try clear hcz25_3
       try clear hcz25_4
       try clear hcz25_5
       try clear hcz25_6
       try clear hcz30_0
       try clear hcz30_1
       try clear hcz30_2
       try clear hcz30_3
       try clear hcz30_4
       try clear hcz30_5
       try clear hcz30_6
       try clear hcz39_0
       try clear hcz39_1
       try clear hcz39_2
       try clear hcz46_0
       try clear hcz46_1
       try clear hcz46_2
       try clear hcz49_0
       try clear hcz49_1
       try clear hcz49_2
       try clear hcz54_0
       try clear hcz54_1
       try clear hcz54_2
       try clear hcz57_0
       try clear hcz57_1
       try clear hcz57_2
       try clear hcz5_0
       try clear hcz5_1
       try clear hcz5_2
       try clear hcz5_3
       try clear hcz5_4
       try clear hcz5_5
       try clear hcz5_6
       try clear hcz74_0
       try clear hcz74_1
       try clear hcz74_2
       try clear hcz74_3
       try clear hcz74_4
       try clear hcz74_5
       try clear hcz74_6
       try clear hcz82_0
       try clear hcz82_1
       try clear hcz82_2
       try clear hcz85_0
       try clear hcz85_1
       try clear hcz85_2
       try clear hcz90_0
       try clear hcz90_1
       try clear hcz90_2
       try clear hcz93_0
       try clear hcz93_1
       try clear hcz93_2
       try clear hfz13_0
       try clear hfz13_1
       try clear hfz13_2
       try clear hfz13_3
       try clear hfz13_4
       try clear hfz13_5
       try clear hfz13_6
       try clear hfz15_0
       try clear hfz15_1
       try clear hfz15_2
       try clear hfz15_3
       try clear hfz15_4
       try clear hfz15_5
       try clear hfz15_6
       try clear hfz23_0
       try clear hfz23_1
       try clear hfz23_2
       try clear hfz25_0
       try clear hfz25_1
       try clear hfz25_2
       try clear hfz25_3
       try clear hfz25_4
       try clear hfz25_5
       try clear hfz25_6
       try clear hfz30_0
       try clear hfz30_1
       try clear hfz30_2
       try clear hfz30_3
       try clear hfz30_4
       try clear hfz30_5
       try clear hfz30_6
       try clear hfz39_0
       try clear hfz39_1
       try clear hfz39_2
       try clear hfz46_0
       try clear hfz46_1
       try clear hfz46_2
       try clear hfz49_0
       try clear hfz49_1
       try clear hfz49_2
       try clear hfz54_0
       try clear hfz54_1
       try clear hfz54_2
       try clear hfz57_0
       try clear hfz57_1
       try clear hfz57_2
       try clear hfz5_0
       try clear hfz5_1
       try clear hfz5_2
       try clear hfz5_3
       try clear hfz5_4
       try clear hfz5_5
       try clear hfz5_6
       try clear hfz74_0
       try clear hfz74_1
       try clear hfz74_2
       try clear hfz74_3
       try clear hfz74_4
       try clear hfz74_5
       try clear hfz74_6
       try clear hfz82_0
       try clear hfz82_1
       try clear hfz82_2
       try clear hfz85_0
       try clear hfz85_1
       try clear hfz85_2
       try clear hfz90_0
       try clear hfz90_1
       try clear hfz90_2
       try clear hfz93_0
       try clear hfz93_1
       try clear hfz93_2
       try clear p2
       obtain ⟨kq, x61_63, rfl, HA, HJ63, HO_123002, HO_137002, HO_137003, HO_137005, HO_144002, BK101, BK122, BK136, BK143, HB⟩ := hcut
       have hl137002_63 := (Kd.R_reads' HO_137002.out).1
       rw [hl137002_63] at HO_137002
       (try simp only [hl137002_63])
       (try simp only [hl137002_63] at BK101)
       (try simp only [hl137002_63] at BK122)
       (try simp only [hl137002_63] at BK136)
       (try simp only [hl137002_63] at BK143)
       (try simp only [hl137002_63] at HO_123002)
       (try simp only [hl137002_63] at HO_137003)
       (try simp only [hl137002_63] at HO_137005)
       (try simp only [hl137002_63] at HO_144002)
       have hl137003_63 := (Kd.R_reads' HO_137003.out).1
       rw [hl137003_63] at HO_137003
       (try simp only [hl137003_63])
       (try simp only [hl137003_63] at BK101)
       (try simp only [hl137003_63] at BK122)
       (try simp only [hl137003_63] at BK136)
       (try simp only [hl137003_63] at BK143)
       (try simp only [hl137003_63] at HO_123002)
       (try simp only [hl137003_63] at HO_137002)
       (try simp only [hl137003_63] at HO_137005)
       (try simp only [hl137003_63] at HO_144002)
       have hl137005_63 := (Kd.R_reads' HO_137005.out).1
       rw [hl137005_63] at HO_137005
       (try simp only [hl137005_63])
       (try simp only [hl137005_63] at BK101)
       (try simp only [hl137005_63] at BK122)
       (try simp only [hl137005_63] at BK136)
       (try simp only [hl137005_63] at BK143)
       (try simp only [hl137005_63] at HO_123002)
       (try simp only [hl137005_63] at HO_137002)
       (try simp only [hl137005_63] at HO_137003)
       (try simp only [hl137005_63] at HO_144002)
       cases kq with
       | zero => exact absurd HA.out (by simp [laws_FnExactWovenChart.j1])
       | succ kj63 =>
        have H := HA.out
        clear HA
        simp only [laws_FnExactWovenChart.j1] at H
        by_cases c95 : x61_63 = true
        ·subst c95
         have H1 : (some false) = some r := by rw [if_pos rfl] at H; exact H
         clear H
         have H := H1
         clear H1
         as_aux_lemma =>
          exact absurd ((Option.some.inj H).trans HT.out) (by decide)
        ·replace c95 := Bool.eq_false_iff.mpr c95
         subst c95
         have H1 : ((laws_markChart.f kj63 t137 t138 t139 1).bind fun bt164 => ((laws_heldChart.f kj63 t137 t138 bt164.2 1).bind fun t166 => (if t166 < 0 then (some false) else (if t166 = bt164.1 then ((laws_toWeaving.f kj63 a0_0 a0_1 l0_2 l0_3 a0_4 l0_5 a0_6).bind fun bt167 => ((impl_WovenChart.f kj63 bt167.1 bt167.2.1 bt167.2.2.1 bt167.2.2.2.1 bt167.2.2.2.2.1 bt167.2.2.2.2.2.1 bt167.2.2.2.2.2.2).bind fun bt180 => ((laws_eqChart.f kj63 bt180.1 bt180.2.1 bt180.2.2.1 t116 t117 t118).bind fun t187 => (if t187 = true then (laws_FnExactWovenChart.j2 kj63 bt164.1 (bt180.2.2.2 != t121) t137 t138 bt164.2) else (laws_FnExactWovenChart.j2 kj63 bt164.1 true t137 t138 bt164.2))))) else (some false))))) = some r := by rw [if_neg (show ¬ (false = true) by decide)] at H; exact H
         clear H
         have H := H1
         clear H1
         replace H := Option.bind_eq_some_iff.mp H
         obtain ⟨⟨t164, t165⟩, A960, H⟩ := H
         replace H : ((laws_heldChart.f kj63 t137 t138 t165 1).bind fun t166 => (if t166 < 0 then (some false) else (if t166 = t164 then ((laws_toWeaving.f kj63 a0_0 a0_1 l0_2 l0_3 a0_4 l0_5 a0_6).bind fun bt167 => ((impl_WovenChart.f kj63 bt167.1 bt167.2.1 bt167.2.2.1 bt167.2.2.2.1 bt167.2.2.2.2.1 bt167.2.2.2.2.2.1 bt167.2.2.2.2.2.2).bind fun bt180 => ((laws_eqChart.f kj63 bt180.1 bt180.2.1 bt180.2.2.1 t116 t117 t118).bind fun t187 => (if t187 = true then (laws_FnExactWovenChart.j2 kj63 t164 (bt180.2.2.2 != t121) t137 t138 t165) else (laws_FnExactWovenChart.j2 kj63 t164 true t137 t138 t165))))) else (some false)))) = some r := H
         have A96 := Aside0.mk A960
         clear A960
         replace H := Option.bind_eq_some_iff.mp H
         obtain ⟨t166, A970, H⟩ := H
         replace H : (if t166 < 0 then (some false) else (if t166 = t164 then ((laws_toWeaving.f kj63 a0_0 a0_1 l0_2 l0_3 a0_4 l0_5 a0_6).bind fun bt167 => ((impl_WovenChart.f kj63 bt167.1 bt167.2.1 bt167.2.2.1 bt167.2.2.2.1 bt167.2.2.2.2.1 bt167.2.2.2.2.2.1 bt167.2.2.2.2.2.2).bind fun bt180 => ((laws_eqChart.f kj63 bt180.1 bt180.2.1 bt180.2.2.1 t116 t117 t118).bind fun t187 => (if t187 = true then (laws_FnExactWovenChart.j2 kj63 t164 (bt180.2.2.2 != t121) t137 t138 t165) else (laws_FnExactWovenChart.j2 kj63 t164 true t137 t138 t165))))) else (some false))) = some r := H
         have A97 := Aside0.mk A970
         clear A970
         by_cases c98 : t166 < 0
         ·rw [if_pos c98] at H
          have c98b0 : decide (t166 < 0) = true := decide_eq_true c98
          clear c98
          as_aux_lemma =>
           exact absurd ((Option.some.inj H).trans HT.out) (by decide)
         ·rw [if_neg c98] at H
          have c98b0 : decide (t166 < 0) = false := decide_eq_false c98
          clear c98
          by_cases c99 : t166 = t164
          ·rw [if_pos c99] at H
           have c99b0 : (t166 == t164) = true := beq_iff_eq.mpr c99
           have c99b1 : (t166 != t164) = false := bne_eq_false_iff_eq.mpr c99
           clear c99
           replace H := Option.bind_eq_some_iff.mp H
           obtain ⟨⟨t167, t168, t169, t172, t175, t176, t179⟩, A1000, H⟩ := H
           replace H : ((impl_WovenChart.f kj63 t167 t168 t169 t172 t175 t176 t179).bind fun bt180 => ((laws_eqChart.f kj63 bt180.1 bt180.2.1 bt180.2.2.1 t116 t117 t118).bind fun t187 => (if t187 = true then (laws_FnExactWovenChart.j2 kj63 t164 (bt180.2.2.2 != t121) t137 t138 t165) else (laws_FnExactWovenChart.j2 kj63 t164 true t137 t138 t165)))) = some r := H
           have A100 := Aside0.mk A1000
           clear A1000
           replace H := Option.bind_eq_some_iff.mp H
           obtain ⟨⟨t180, t181, t182, t185⟩, A1010, H⟩ := H
           replace H : ((laws_eqChart.f kj63 t180 t181 t182 t116 t117 t118).bind fun t187 => (if t187 = true then (laws_FnExactWovenChart.j2 kj63 t164 (t185 != t121) t137 t138 t165) else (laws_FnExactWovenChart.j2 kj63 t164 true t137 t138 t165))) = some r := H
           have A101 := Aside0.mk A1010
           clear A1010
           have HC102 := Aside0.mk H
           clear H
           have hnb103 := NB143_101.out
           have hnc103 := NB101_143.out
           have hnb104 := NB143_122.out
           have hnc104 := NB122_143.out
           have hnb105 := NB143_136.out
           have hnc105 := NB136_143.out
           have hcz106_0 : wc.cell? ⟨gb143, 0, none⟩ = some (.int .i64 t137) := (blk_cell BK143.out 0).trans rfl
           have hcz106_1 : wc.cell? ⟨gb143, 1, none⟩ = some (.int .i64 t138) := (blk_cell BK143.out 1).trans rfl
           have hcz106_2 : wc.cell? ⟨gb143, 2, none⟩ = some (.slice Ao40 t139.length co40) := (blk_cell BK143.out 2).trans rfl
           have hfz106_0 := blk_frozen BK143.out 0
           have hfz106_1 := blk_frozen BK143.out 1
           have hfz106_2 := blk_frozen BK143.out 2
           go_upto_region 25 with (first | ((with_reducible refine gate_callee (f := 30) rfl ?_); refine goesL_ (some 64) rfl rfl Try.func30 (by kernel_rfl) rfl #[.agg #[.int .i64 t137, .int .i64 t138, .slice Ao40 t139.length co40], .int .i64 1] rfl (by (try simp only [List.map_toArray, List.map_cons, List.map_nil]); first | done | rfl | (simp only [List.length_drop, List.length_take]; rfl)) ?_; (with_reducible refine (laws_markChart.calls kj63 t137 t138 (fun k_ => some k_ = (.slice Ao40 t139.length co40 : Value).ownBlock) (.slice Ao40 t139.length co40) t139 1 t164 t165 w _ ?side1 ?side2 A96.out).mono ?_); (case side1 => exact eS HB.out); (case side2 => exact Kd.R_tight rfl HO_144002.out); rintro e w107 ⟨rfl, hy0, hb, hkp⟩; refine ⟨_, rfl, ?_⟩; have n0_ := Aside0.mk (Kd.R_mono (ok' := fun k_ => some k_ ≠ (.slice Ao31 t160.length co31 : Value).ownBlock ∧ some k_ ≠ (.slice Ao32 t161.length co32 : Value).ownBlock ∧ some k_ ≠ (.slice Ao40 t139.length co40 : Value).ownBlock) (Kd.R_keptB (HO_123002.out) hkp (fun k_ hk_ hs_ => (hk_.2.2) hs_)) (fun k_ hk_ => ⟨hk_.1.1, hk_.1.2.1, hk_.1.2.2⟩)); have n1_ := Aside0.mk (Kd.R_mono (ok' := fun k_ => some k_ ≠ (.slice Ao24 t118.length co24 : Value).ownBlock ∧ some k_ ≠ (.slice Ao32 t161.length co32 : Value).ownBlock ∧ some k_ ≠ (.slice Ao40 t139.length co40 : Value).ownBlock) (Kd.R_keptB (HO_137002.out) hkp (fun k_ hk_ hs_ => (hk_.2.2) hs_)) (fun k_ hk_ => ⟨hk_.1.1, hk_.1.2.1, hk_.1.2.2⟩)); have n2_ := Aside0.mk (Kd.R_mono (ok' := fun k_ => some k_ ≠ (.slice Ao24 t118.length co24 : Value).ownBlock ∧ some k_ ≠ (.slice Ao31 t160.length co31 : Value).ownBlock ∧ some k_ ≠ (.slice Ao40 t139.length co40 : Value).ownBlock) (Kd.R_keptB (HO_137003.out) hkp (fun k_ hk_ hs_ => (hk_.2.2) hs_)) (fun k_ hk_ => ⟨hk_.1.1, hk_.1.2.1, hk_.1.2.2⟩)); have n3_ := Aside0.mk (Kd.R_mono (ok' := fun k_ => True) (Kd.R_keptB ((Kd.R_apart' HO_137005.out (Kd.R_typed HO_144002.out) (by decide))) hkp (fun k_ hk_ hs_ => (hk_.2) hs_)) (fun k_ hk_ => trivial)); have n4_ := Aside0.mk (Kd.R_reok rfl hy0 (fun k_ e_ => HO_144002.out.1 k_ e_)); have n5_ := Aside0.mk (blk_kept (by exact bS BK101.out) hkp (fun hs_ => (fun e_ => (Kd.R_ne HO_144002.out BK101.out (by decide)) e_) hs_)); have n6_ := Aside0.mk (blk_kept (by exact bS BK122.out) hkp (fun hs_ => (fun e_ => (Kd.R_ne HO_144002.out BK122.out (by decide)) e_) hs_)); have n7_ := Aside0.mk (blk_kept (by exact bS BK136.out) hkp (fun hs_ => (fun e_ => (Kd.R_ne HO_144002.out BK136.out (by decide)) e_) hs_)); have n8_ := Aside0.mk (blk_kept (by exact bS BK143.out) hkp (fun hs_ => (fun e_ => (Kd.R_ne HO_144002.out BK143.out (by decide)) e_) hs_)); have n9_ := Aside0.mk (hb); clear HO_123002; clear HO_137002; clear HO_137003; clear HO_137005; clear HO_144002; clear BK101; clear BK122; clear BK136; clear BK143; clear HB; have HO_123002 := n0_; have HO_137002 := n1_; have HO_137003 := n2_; have HO_137005 := n3_; have HO_144002 := n4_; have BK101 := n5_; have BK122 := n6_; have BK136 := n7_; have BK143 := n8_; have HB := n9_; clear n0_ n1_ n2_ n3_ n4_ n5_ n6_ n7_ n8_ n9_; (try clear hb); (try clear hkp); (try clear hy0); have hcz108_0 : w107.cell? ⟨gb143, 0, none⟩ = some (.int .i64 t137) := (blk_cell BK143.out 0).trans rfl; have hcz108_1 : w107.cell? ⟨gb143, 1, none⟩ = some (.int .i64 t138) := (blk_cell BK143.out 1).trans rfl; have hcz108_2 : w107.cell? ⟨gb143, 2, none⟩ = some (.slice Ao40 t139.length co40) := (blk_cell BK143.out 2).trans rfl; have hfz108_0 := blk_frozen BK143.out 0; have hfz108_1 := blk_frozen BK143.out 1; have hfz108_2 := blk_frozen BK143.out 2) | ((with_reducible refine gate_callee (f := 52) rfl ?_); refine goesL_ (some 67) rfl rfl Try.func52 (by kernel_rfl) rfl #[.agg #[.int .i64 t137, .int .i64 t138, .slice Ao40 t165.length co40], .int .i64 1] rfl (by (try simp only [List.map_toArray, List.map_cons, List.map_nil]); first | done | (rw [show t165.length = t139.length from (Kd.R_reads' HO_144002.out).1.symm] <;> rfl) | rfl | (simp only [List.length_drop, List.length_take]; rfl)) ?_; (with_reducible refine (laws_heldChart.calls kj63 t137 t138 _ _ t165 1 t166 _ ?side1 ?side2 A97.out).mono ?_); (case side1 => repeat (first | exact (Kd.R_reads' HO_144002.out).2.2 | (with_reducible refine Kd.C_alloc ?_ _) | (with_reducible refine Kd.C_drewN ?_ _) | (with_reducible refine Kd.C_drew ?_))); (case side2 => rw [show t165.length = t139.length from (Kd.R_reads' HO_144002.out).1.symm]; exact (Kd.R_reads' HO_144002.out).2.1); rintro e w109 ⟨rfl, hb⟩; refine ⟨_, rfl, ?_⟩; have n0_ := Aside0.mk (Kd.R_below (by exact Ho.RS <| HO_123002.out) hb); have n1_ := Aside0.mk (Kd.R_below (by exact Ho.RS <| HO_137002.out) hb); have n2_ := Aside0.mk (Kd.R_below (by exact Ho.RS <| HO_137003.out) hb); have n3_ := Aside0.mk (Kd.R_below (by exact Ho.RS <| HO_137005.out) hb); have n4_ := Aside0.mk (Kd.R_below (by exact Ho.RS <| HO_144002.out) hb); have n5_ := Aside0.mk (blk_below (bS BK101.out) hb); have n6_ := Aside0.mk (blk_below (bS BK122.out) hb); have n7_ := Aside0.mk (blk_below (bS BK136.out) hb); have n8_ := Aside0.mk (blk_below (bS BK143.out) hb); have n9_ := Aside0.mk (below_step (by exact eS HB.out) hb); clear HO_123002; clear HO_137002; clear HO_137003; clear HO_137005; clear HO_144002; clear BK101; clear BK122; clear BK136; clear BK143; clear HB; have HO_123002 := n0_; have HO_137002 := n1_; have HO_137003 := n2_; have HO_137005 := n3_; have HO_144002 := n4_; have BK101 := n5_; have BK122 := n6_; have BK136 := n7_; have BK143 := n8_; have HB := n9_; clear n0_ n1_ n2_ n3_ n4_ n5_ n6_ n7_ n8_ n9_; (try clear hb); (try clear hb2); (try clear hk); (try clear hi); have hnb110 := NB101_122.out; have hnc110 := NB122_101.out; have hnb111 := NB101_136.out; have hnc111 := NB136_101.out; have hcz112_0 : w109.cell? ⟨gb101, 0, none⟩ = some (.int .i64 a0_0) := (blk_cell BK101.out 0).trans rfl; have hcz112_1 : w109.cell? ⟨gb101, 1, none⟩ = some (.int .i64 a0_1) := (blk_cell BK101.out 1).trans rfl; have hcz112_2 : w109.cell? ⟨gb101, 2, none⟩ = some (.slice A0_2 l0_2.length c0_2) := (blk_cell BK101.out 2).trans rfl; have hcz112_3 : w109.cell? ⟨gb101, 3, none⟩ = some (.slice A0_3 l0_3.length c0_3) := (blk_cell BK101.out 3).trans rfl; have hcz112_4 : w109.cell? ⟨gb101, 4, none⟩ = some (.int .i64 a0_4) := (blk_cell BK101.out 4).trans rfl; have hcz112_5 : w109.cell? ⟨gb101, 5, none⟩ = some (.slice A0_5 l0_5.length c0_5) := (blk_cell BK101.out 5).trans rfl; have hcz112_6 : w109.cell? ⟨gb101, 6, none⟩ = some (.bool a0_6) := (blk_cell BK101.out 6).trans rfl; have hfz112_0 := blk_frozen BK101.out 0; have hfz112_1 := blk_frozen BK101.out 1; have hfz112_2 := blk_frozen BK101.out 2; have hfz112_3 := blk_frozen BK101.out 3; have hfz112_4 := blk_frozen BK101.out 4; have hfz112_5 := blk_frozen BK101.out 5; have hfz112_6 := blk_frozen BK101.out 6) | ((with_reducible refine gate_callee (f := 40) rfl ?_); refine goesL_ (some 75) rfl rfl Try.func40 (by kernel_rfl) rfl #[.agg #[.int .i64 a0_0, .int .i64 a0_1, .slice A0_2 l0_2.length c0_2, .slice A0_3 l0_3.length c0_3, .int .i64 a0_4, .slice A0_5 l0_5.length c0_5, .bool a0_6]] rfl (by (try simp only [List.map_toArray, List.map_cons, List.map_nil]); first | done | rfl | (simp only [List.length_drop, List.length_take]; rfl)) ?_; (with_reducible refine (laws_toWeaving.calls kj63 a0_0 a0_1 _ _ l0_2 _ _ l0_3 a0_4 _ _ l0_5 a0_6 t167 t168 t169 t172 t175 t176 t179 _ ?side1 ?side2 ?side3 ?side4 ?side5 ?side6 A100.out).mono ?_); (case side1 => repeat (first | exact (Kd.C_below HR0_2.out HB.out) | (with_reducible refine Kd.C_alloc ?_ _) | (with_reducible refine Kd.C_drewN ?_ _) | (with_reducible refine Kd.C_drew ?_))); (case side2 => exact HC0_2.out); (case side3 => repeat (first | exact (Kd.C_below HR0_3.out HB.out) | (with_reducible refine Kd.C_alloc ?_ _) | (with_reducible refine Kd.C_drewN ?_ _) | (with_reducible refine Kd.C_drew ?_))); (case side4 => exact HC0_3.out); (case side5 => repeat (first | exact (Kd.C_below HR0_5.out HB.out) | (with_reducible refine Kd.C_alloc ?_ _) | (with_reducible refine Kd.C_drewN ?_ _) | (with_reducible refine Kd.C_drew ?_))); (case side6 => exact HC0_5.out); rintro e w113 ⟨v170, v173, v177, rfl, ho0, ho1, ho2, hb⟩; refine ⟨_, rfl, ?_⟩; have n0_ := Aside0.mk (Kd.R_mono (Kd.R_told (Kd.R_told (Kd.R_old (by exact Ho.RS <| HO_123002.out) hb) (Kd.R_base ho0)) (Kd.R_base ho1)) (fun _ h_ => h_.1)); have n1_ := Aside0.mk (Kd.R_mono (Kd.R_told (Kd.R_told (Kd.R_old (by exact Ho.RS <| HO_137002.out) hb) (Kd.R_base ho0)) (Kd.R_base ho1)) (fun _ h_ => h_.1)); have n2_ := Aside0.mk (Kd.R_mono (Kd.R_told (Kd.R_told (Kd.R_old (by exact Ho.RS <| HO_137003.out) hb) (Kd.R_base ho0)) (Kd.R_base ho1)) (fun _ h_ => h_.1)); have n3_ := Aside0.mk (Kd.R_elder' (by exact Ho.RS <| HO_137005.out) (Kd.R_base ho2) hb); have n4_ := Aside0.mk (Kd.R_mono (Kd.R_told (Kd.R_told (Kd.R_old (by exact Ho.RS <| HO_144002.out) hb) (Kd.R_base ho0)) (Kd.R_base ho1)) (fun _ h_ => h_.1)); have n5_ := Aside0.mk (Kd.R_lower (Kd.R_new' (Kd.R_new' (Kd.R_new' (Kd.R_new' ho0 (Kd.R_lt (by exact Ho.RS <| HO_123002.out))) (Kd.R_lt (by exact Ho.RS <| HO_137002.out))) (Kd.R_lt (by exact Ho.RS <| HO_137003.out))) (Kd.R_lt (by exact Ho.RS <| HO_144002.out))) (below_size (by exact eS HB.out))); have n6_ := Aside0.mk (Kd.R_lower (Kd.R_new' (Kd.R_new' (Kd.R_new' (Kd.R_new' ho1 (Kd.R_lt (by exact Ho.RS <| HO_123002.out))) (Kd.R_lt (by exact Ho.RS <| HO_137002.out))) (Kd.R_lt (by exact Ho.RS <| HO_137003.out))) (Kd.R_lt (by exact Ho.RS <| HO_144002.out))) (below_size (by exact eS HB.out))); have n7_ := Aside0.mk (Kd.R_lower (Kd.R_new' ho2 (Kd.R_lt (by exact Ho.RS <| HO_137005.out))) (below_size (by exact eS HB.out))); have n8_ := Aside0.mk (blk_below (bS BK101.out) hb); have n9_ := Aside0.mk (blk_below (bS BK122.out) hb); have n10_ := Aside0.mk (blk_below (bS BK136.out) hb); have n11_ := Aside0.mk (blk_below (bS BK143.out) hb); have n12_ := Aside0.mk (below_step (by exact eS HB.out) hb); clear HO_123002; clear HO_137002; clear HO_137003; clear HO_137005; clear HO_144002; clear BK101; clear BK122; clear BK136; clear BK143; clear HB; have HO_123002 := n0_; have HO_137002 := n1_; have HO_137003 := n2_; have HO_137005 := n3_; have HO_144002 := n4_; have HO171 := n5_; have HO174 := n6_; have HO178 := n7_; have BK101 := n8_; have BK122 := n9_; have BK136 := n10_; have BK143 := n11_; have HB := n12_; clear n0_ n1_ n2_ n3_ n4_ n5_ n6_ n7_ n8_ n9_ n10_ n11_ n12_; (try clear hb); (try clear hb2); (try clear hk); (try clear hi); (try clear ho0); (try clear ho1); (try clear ho2); obtain ⟨Ao114, co114, eo114⟩ := Kd.R_slice HO171.out; subst eo114; obtain ⟨Ao115, co115, eo115⟩ := Kd.R_slice HO174.out; subst eo115; obtain ⟨Ao116, co116, eo116⟩ := Kd.R_slice HO178.out; subst eo116) | ((with_reducible refine gate_callee (f := 51) rfl ?_); refine goesL_ (some 76) rfl rfl Try.func51 (by kernel_rfl) rfl #[.agg #[.int .i64 t167, .int .i64 t168, .slice Ao114 t169.length co114, .slice Ao115 t172.length co115, .int .i64 t175, .slice Ao116 t176.length co116, .bool t179]] rfl (by (try simp only [List.map_toArray, List.map_cons, List.map_nil]); first | done | rfl | (simp only [List.length_drop, List.length_take]; rfl)) ?_; (with_reducible refine (impl_WovenChart.calls kj63 t167 t168 _ _ t169 _ _ t172 t175 _ _ t176 t179 t180 t181 t182 t185 _ ?side1 ?side2 ?side3 ?side4 ?side5 ?side6 A101.out).mono ?_); (case side1 => repeat (first | exact (Kd.R_reads' HO171.out).2.2 | (with_reducible refine Kd.C_alloc ?_ _) | (with_reducible refine Kd.C_drewN ?_ _) | (with_reducible refine Kd.C_drew ?_))); (case side2 => exact (Kd.R_reads' HO171.out).2.1); (case side3 => repeat (first | exact (Kd.R_reads' HO174.out).2.2 | (with_reducible refine Kd.C_alloc ?_ _) | (with_reducible refine Kd.C_drewN ?_ _) | (with_reducible refine Kd.C_drew ?_))); (case side4 => exact (Kd.R_reads' HO174.out).2.1); (case side5 => repeat (first | exact (Kd.R_reads' HO178.out).2.2 | (with_reducible refine Kd.C_alloc ?_ _) | (with_reducible refine Kd.C_drewN ?_ _) | (with_reducible refine Kd.C_drew ?_))); (case side6 => exact (Kd.R_reads' HO178.out).2.1); rintro e w117 ⟨v183, rfl, ho0, hb⟩; refine ⟨_, rfl, ?_⟩; have n0_ := Aside0.mk (Kd.R_elder' (by exact Ho.RS <| HO_123002.out) (Kd.R_base ho0) hb); have n1_ := Aside0.mk (Kd.R_elder' (by exact Ho.RS <| HO_137002.out) (Kd.R_base ho0) hb); have n2_ := Aside0.mk (Kd.R_elder' (by exact Ho.RS <| HO_137003.out) (Kd.R_base ho0) hb); have n3_ := Aside0.mk (Kd.R_below (by exact Ho.RS <| HO_137005.out) hb); have n4_ := Aside0.mk (Kd.R_elder' (by exact Ho.RS <| HO_144002.out) (Kd.R_base ho0) hb); have n5_ := Aside0.mk (Kd.R_elder' (by exact Ho.RS <| HO171.out) (Kd.R_base ho0) hb); have n6_ := Aside0.mk (Kd.R_elder' (by exact Ho.RS <| HO174.out) (Kd.R_base ho0) hb); have n7_ := Aside0.mk (Kd.R_below (by exact Ho.RS <| HO178.out) hb); have n8_ := Aside0.mk (Kd.R_lower (Kd.R_new' (Kd.R_new' (Kd.R_new' (Kd.R_new' (Kd.R_new' (Kd.R_new' ho0 (Kd.R_lt (by exact Ho.RS <| HO_123002.out))) (Kd.R_lt (by exact Ho.RS <| HO_137002.out))) (Kd.R_lt (by exact Ho.RS <| HO_137003.out))) (Kd.R_lt (by exact Ho.RS <| HO_144002.out))) (Kd.R_lt (by exact Ho.RS <| HO171.out))) (Kd.R_lt (by exact Ho.RS <| HO174.out))) (below_size (by exact eS HB.out))); have n9_ := Aside0.mk (blk_below (bS BK101.out) hb); have n10_ := Aside0.mk (blk_below (bS BK122.out) hb); have n11_ := Aside0.mk (blk_below (bS BK136.out) hb); have n12_ := Aside0.mk (blk_below (bS BK143.out) hb); have n13_ := Aside0.mk (below_step (by exact eS HB.out) hb); clear HO_123002; clear HO_137002; clear HO_137003; clear HO_137005; clear HO_144002; clear HO171; clear HO174; clear HO178; clear BK101; clear BK122; clear BK136; clear BK143; clear HB; have HO_123002 := n0_; have HO_137002 := n1_; have HO_137003 := n2_; have HO_137005 := n3_; have HO_144002 := n4_; have HO171 := n5_; have HO174 := n6_; have HO178 := n7_; have HO184 := n8_; have BK101 := n9_; have BK122 := n10_; have BK136 := n11_; have BK143 := n12_; have HB := n13_; clear n0_ n1_ n2_ n3_ n4_ n5_ n6_ n7_ n8_ n9_ n10_ n11_ n12_ n13_; (try clear hb); (try clear hb2); (try clear hk); (try clear hi); (try clear ho0)) | ((with_reducible refine gate_dst (N := 12) rfl ?_); refine box_event ?hg (N := 12) ?hd (cs := #[.int .i64 0, .int .i64 0, .slice none 0 0]) (t := 30) ?hr ?_; (case hd => rfl); (case hg => rfl); (case hr => first | (go_simp; done) | (go_simp; rfl)); intro gb186 hg w118 hbox hb; have n0_ := Aside0.mk (Kd.R_below (by exact Ho.RS <| HO_123002.out) hb); have n1_ := Aside0.mk (Kd.R_below (by exact Ho.RS <| HO_137002.out) hb); have n2_ := Aside0.mk (Kd.R_below (by exact Ho.RS <| HO_137003.out) hb); have n3_ := Aside0.mk (Kd.R_below (by exact Ho.RS <| HO_137005.out) hb); have n4_ := Aside0.mk (Kd.R_below (by exact Ho.RS <| HO_144002.out) hb); have n5_ := Aside0.mk (Kd.R_below (by exact Ho.RS <| HO171.out) hb); have n6_ := Aside0.mk (Kd.R_below (by exact Ho.RS <| HO174.out) hb); have n7_ := Aside0.mk (Kd.R_below (by exact Ho.RS <| HO178.out) hb); have n8_ := Aside0.mk (Kd.R_below (by exact Ho.RS <| HO184.out) hb); have n9_ := Aside0.mk (blk_below (bS BK101.out) hb); have n10_ := Aside0.mk (blk_below (bS BK122.out) hb); have n11_ := Aside0.mk (blk_below (bS BK136.out) hb); have n12_ := Aside0.mk (blk_below (bS BK143.out) hb); have n13_ := Aside0.mk (below_step (by exact eS HB.out) hb); have n14_ := Aside0.mk (hbox); have n15_ := Aside0.mk ((by rw [hg]; exact (below_size (by exact eS HB.out)) : w.heap.size ≤ gb186)); have n16_ := Aside0.mk ((by rw [hg]; exact (below_size (by exact eS HB.out)) : w.heap.size ≤ gb186)); have n17_ := Aside0.mk ((by rw [hg]; exact Nat.ne_of_lt (blk_lt (bS BK101.out)) : gb101 ≠ gb186)); have n18_ := Aside0.mk ((by rw [hg]; exact Nat.ne_of_gt (blk_lt (bS BK101.out)) : gb186 ≠ gb101)); have n19_ := Aside0.mk ((by rw [hg]; exact Nat.ne_of_lt (blk_lt (bS BK122.out)) : gb122 ≠ gb186)); have n20_ := Aside0.mk ((by rw [hg]; exact Nat.ne_of_gt (blk_lt (bS BK122.out)) : gb186 ≠ gb122)); have n21_ := Aside0.mk ((by rw [hg]; exact Nat.ne_of_lt (blk_lt (bS BK136.out)) : gb136 ≠ gb186)); have n22_ := Aside0.mk ((by rw [hg]; exact Nat.ne_of_gt (blk_lt (bS BK136.out)) : gb186 ≠ gb136)); have n23_ := Aside0.mk ((by rw [hg]; exact Nat.ne_of_lt (blk_lt (bS BK143.out)) : gb143 ≠ gb186)); have n24_ := Aside0.mk ((by rw [hg]; exact Nat.ne_of_gt (blk_lt (bS BK143.out)) : gb186 ≠ gb143)); clear HO_123002; clear HO_137002; clear HO_137003; clear HO_137005; clear HO_144002; clear HO171; clear HO174; clear HO178; clear HO184; clear BK101; clear BK122; clear BK136; clear BK143; clear HB; have HO_123002 := n0_; have HO_137002 := n1_; have HO_137003 := n2_; have HO_137005 := n3_; have HO_144002 := n4_; have HO171 := n5_; have HO174 := n6_; have HO178 := n7_; have HO184 := n8_; have BK101 := n9_; have BK122 := n10_; have BK136 := n11_; have BK143 := n12_; have HB := n13_; have BK186 := n14_; have GW186 := n15_; have GE186 := n16_; have NB101_186 := n17_; have NB186_101 := n18_; have NB122_186 := n19_; have NB186_122 := n20_; have NB136_186 := n21_; have NB186_136 := n22_; have NB143_186 := n23_; have NB186_143 := n24_; clear n0_ n1_ n2_ n3_ n4_ n5_ n6_ n7_ n8_ n9_ n10_ n11_ n12_ n13_ n14_ n15_ n16_ n17_ n18_ n19_ n20_ n21_ n22_ n23_ n24_; clear hb hbox hg; have hnb119 := NB186_101.out; have hnc119 := NB101_186.out; have hnb120 := NB186_122.out; have hnc120 := NB122_186.out; have hnb121 := NB186_136.out; have hnc121 := NB136_186.out; have hnb122 := NB186_143.out; have hnc122 := NB143_186.out; have hcz123_0 : w118.cell? ⟨gb186, 0, none⟩ = some (.int .i64 0) := (blk_cell BK186.out 0).trans rfl; have hcz123_1 : w118.cell? ⟨gb186, 1, none⟩ = some (.int .i64 0) := (blk_cell BK186.out 1).trans rfl; have hcz123_2 : w118.cell? ⟨gb186, 2, none⟩ = some (.slice none 0 0) := (blk_cell BK186.out 2).trans rfl; have hfz123_0 := blk_frozen BK186.out 0; have hfz123_1 := blk_frozen BK186.out 1; have hfz123_2 := blk_frozen BK186.out 2; obtain ⟨Ao124, co124, eo124⟩ := Kd.R_slice HO184.out; subst eo124))
           (try simp only [Act.put, List.setIfInBounds_toArray, List.set_cons_zero, List.set_cons_succ])
           go_cut [87] (fun v87 wc => ∃ (kq : Nat) (x87_101 : Bool), v87 = .bool x87_101 ∧ Aside0 (laws_FnExactWovenChart.j2 kq t164 x87_101 t137 t138 t165 = some r) ∧ Aside0 (kq ≤ kj63) ∧ Aside0 (Kd.R (Kd.int .i64) 3 wc w.heap.size (fun k_ => some k_ ≠ ((.slice Ao31 t160.length co31) : Value).ownBlock ∧ some k_ ≠ ((.slice Ao32 t161.length co32) : Value).ownBlock ∧ some k_ ≠ ((.slice Ao40 t139.length co40) : Value).ownBlock ∧ some k_ ≠ ((.slice Ao124 t182.length co124) : Value).ownBlock) (.slice Ao24 t118.length co24) t118) ∧ Aside0 (Kd.R (Kd.int .i64) 3 wc w.heap.size (fun k_ => some k_ ≠ ((.slice Ao24 t118.length co24) : Value).ownBlock ∧ some k_ ≠ ((.slice Ao32 t161.length co32) : Value).ownBlock ∧ some k_ ≠ ((.slice Ao40 t139.length co40) : Value).ownBlock ∧ some k_ ≠ ((.slice Ao124 t182.length co124) : Value).ownBlock) (.slice Ao31 t160.length co31) t160) ∧ Aside0 (Kd.R (Kd.int .i64) 3 wc w.heap.size (fun k_ => some k_ ≠ ((.slice Ao24 t118.length co24) : Value).ownBlock ∧ some k_ ≠ ((.slice Ao31 t160.length co31) : Value).ownBlock ∧ some k_ ≠ ((.slice Ao40 t139.length co40) : Value).ownBlock ∧ some k_ ≠ ((.slice Ao124 t182.length co124) : Value).ownBlock) (.slice Ao32 t161.length co32) t161) ∧ Aside0 (Kd.R k89 89 wc w.heap.size (fun _ => True) (.slice Ao33 t162.length co33) t162) ∧ Aside0 (Kd.R (Kd.int .i64) 3 wc w.heap.size (fun k_ => some k_ ≠ ((.slice Ao24 t118.length co24) : Value).ownBlock ∧ some k_ ≠ ((.slice Ao31 t160.length co31) : Value).ownBlock ∧ some k_ ≠ ((.slice Ao32 t161.length co32) : Value).ownBlock ∧ some k_ ≠ ((.slice Ao124 t182.length co124) : Value).ownBlock) (.slice Ao40 t139.length co40) t165) ∧ Aside0 (Kd.R (Kd.int .i64) 3 wc w.heap.size (fun k_ => some k_ ≠ ((.slice Ao24 t118.length co24) : Value).ownBlock ∧ some k_ ≠ ((.slice Ao31 t160.length co31) : Value).ownBlock ∧ some k_ ≠ ((.slice Ao32 t161.length co32) : Value).ownBlock ∧ some k_ ≠ ((.slice Ao40 t139.length co40) : Value).ownBlock) (.slice Ao124 t182.length co124) t182) ∧ Aside0 (wc.heap[gb101]? = some (.cells #[.int .i64 a0_0, .int .i64 a0_1, (.slice A0_2 l0_2.length c0_2), (.slice A0_3 l0_3.length c0_3), .int .i64 a0_4, (.slice A0_5 l0_5.length c0_5), .bool a0_6] 54 (0, 0))) ∧ Aside0 (wc.heap[gb122]? = some (.cells #[.int .i64 t116, .int .i64 t117, (.slice Ao24 t118.length co24)] 30 (0, 0))) ∧ Aside0 (wc.heap[gb136]? = some (.cells #[.int .i64 t123, .int .i64 t124, (.slice Ao31 t160.length co31), (.slice Ao32 t161.length co32), .int .i64 t131, (.slice Ao33 t162.length co33), .bool t135] 59 (0, 0))) ∧ Aside0 (wc.heap[gb143]? = some (.cells #[.int .i64 t137, .int .i64 t138, (.slice Ao40 t139.length co40)] 30 (0, 0))) ∧ Aside0 (wc.heap[gb186]? = some (.cells #[.int .i64 t180, .int .i64 t181, (.slice Ao124 t182.length co124)] 30 (0, 0))) ∧ Aside0 (Below w.heap.size w wc))
           case first =>
            have H := HC102.out
            clear HC102
            replace H := Option.bind_eq_some_iff.mp H
            obtain ⟨t187, A1250, H⟩ := H
            replace H : (if t187 = true then (laws_FnExactWovenChart.j2 kj63 t164 (t185 != t121) t137 t138 t165) else (laws_FnExactWovenChart.j2 kj63 t164 true t137 t138 t165)) = some r := H
            have A125 := Aside0.mk A1250
            clear A1250
            by_cases c126 : t187 = true
            ·subst c126
             have H1 : (laws_FnExactWovenChart.j2 kj63 t164 (t185 != t121) t137 t138 t165) = some r := by rw [if_pos rfl] at H; exact H
             clear H
             have H := H1
             clear H1
             as_aux_lemma =>
              have H' := Aside0.mk H
              clear H
              have hnb127 := NB186_101.out
              have hnc127 := NB101_186.out
              have hnb128 := NB186_122.out
              have hnc128 := NB122_186.out
              have hnb129 := NB186_136.out
              have hnc129 := NB136_186.out
              have hnb130 := NB186_143.out
              have hnc130 := NB143_186.out
              have hcz131_0 : w118.cell? ⟨gb186, 0, none⟩ = some (.int .i64 0) := (blk_cell BK186.out 0).trans rfl
              have hcz131_1 : w118.cell? ⟨gb186, 1, none⟩ = some (.int .i64 0) := (blk_cell BK186.out 1).trans rfl
              have hcz131_2 : w118.cell? ⟨gb186, 2, none⟩ = some (.slice none 0 0) := (blk_cell BK186.out 2).trans rfl
              have hfz131_0 := blk_frozen BK186.out 0
              have hfz131_1 := blk_frozen BK186.out 1
              have hfz131_2 := blk_frozen BK186.out 2
              have hnb132 := NB122_101.out
              have hnc132 := NB101_122.out
              have hnb133 := NB122_136.out
              have hnc133 := NB136_122.out
              have hnb134 := NB122_143.out
              have hnc134 := NB143_122.out
              have hcz135_0 : w118.cell? ⟨gb122, 0, none⟩ = some (.int .i64 t116) := (blk_cell BK122.out 0).trans rfl
              have hcz135_1 : w118.cell? ⟨gb122, 1, none⟩ = some (.int .i64 t117) := (blk_cell BK122.out 1).trans rfl
              have hcz135_2 : w118.cell? ⟨gb122, 2, none⟩ = some (.slice Ao24 t118.length co24) := (blk_cell BK122.out 2).trans rfl
              have hfz135_0 := blk_frozen BK122.out 0
              have hfz135_1 := blk_frozen BK122.out 1
              have hfz135_2 := blk_frozen BK122.out 2
              go_wp2_with (first | ((with_reducible refine gate_callee (f := 19) rfl ?_); refine goesL_ (some 81) rfl rfl Try.func19 (by kernel_rfl) rfl #[.agg #[.int .i64 t180, .int .i64 t181, .slice Ao124 t182.length co124], .agg #[.int .i64 t116, .int .i64 t117, .slice Ao24 t118.length co24]] rfl (by (try simp only [List.map_toArray, List.map_cons, List.map_nil]); first | done | rfl | (simp only [List.length_drop, List.length_take]; rfl)) ?_; (with_reducible refine (laws_eqChart.calls kj63 t180 t181 _ _ t182 t116 t117 _ _ t118 true _ ?side1 ?side2 ?side3 ?side4 A125.out).mono ?_); (case side1 => refine (Kd.R_reads' (e := 3) (base := w.heap.size) (ok := fun k_ => ((((((True ∧ some k_ ≠ (.slice Ao24 t118.length co24 : Value).ownBlock) ∧ some k_ ≠ (.slice Ao31 t160.length co31 : Value).ownBlock) ∧ some k_ ≠ (.slice Ao32 t161.length co32 : Value).ownBlock) ∧ some k_ ≠ (.slice Ao40 t139.length co40 : Value).ownBlock) ∧ some k_ ≠ (.slice Ao114 t169.length co114 : Value).ownBlock) ∧ some k_ ≠ (.slice Ao115 t172.length co115 : Value).ownBlock)) (n := t182.length) (c := co124) ?_).2.2; exact (by exact Ho.RS <| (Kd.R_mono (Kd.R_far (p := ⟨gb186, 2, none⟩) (Kd.R_far (p := ⟨gb186, 1, none⟩) (Kd.R_far (p := ⟨gb186, 0, none⟩) (Kd.R_types HO184.out BK186.out (by decide)) (fun _ hk => hk.2) (.int .i64 t180)) (fun _ hk => hk.2) (.int .i64 t181)) (fun _ hk => hk.2) (.slice Ao124 t182.length co124)) (fun _ h_ => h_.1)))); (case side2 => exact (Kd.R_reads' HO184.out).2.1); (case side3 => refine (Kd.R_reads' (e := 3) (base := w.heap.size) (ok := fun k_ => ((((some k_ ≠ (.slice Ao31 t160.length co31 : Value).ownBlock ∧ (some k_ ≠ (.slice Ao32 t161.length co32 : Value).ownBlock ∧ some k_ ≠ (.slice Ao40 t139.length co40 : Value).ownBlock)) ∧ some k_ ≠ (.slice Ao114 t169.length co114 : Value).ownBlock) ∧ some k_ ≠ (.slice Ao115 t172.length co115 : Value).ownBlock) ∧ some k_ ≠ (.slice Ao124 t182.length co124 : Value).ownBlock)) (n := t118.length) (c := co24) ?_).2.2; exact (by exact Ho.RS <| (Kd.R_mono (Kd.R_far (p := ⟨gb186, 2, none⟩) (Kd.R_far (p := ⟨gb186, 1, none⟩) (Kd.R_far (p := ⟨gb186, 0, none⟩) (Kd.R_types HO_123002.out BK186.out (by decide)) (fun _ hk => hk.2) (.int .i64 t180)) (fun _ hk => hk.2) (.int .i64 t181)) (fun _ hk => hk.2) (.slice Ao124 t182.length co124)) (fun _ h_ => h_.1)))); (case side4 => exact (Kd.R_reads' HO_123002.out).2.1); rintro e w136 ⟨rfl, hb⟩; refine ⟨_, rfl, ?_⟩; have n0_ := Aside0.mk (Kd.R_below (by exact Ho.RS <| (Kd.R_mono (Kd.R_far (p := ⟨gb186, 2, none⟩) (Kd.R_far (p := ⟨gb186, 1, none⟩) (Kd.R_far (p := ⟨gb186, 0, none⟩) (Kd.R_types HO_123002.out BK186.out (by decide)) (fun _ hk => hk.2) (.int .i64 t180)) (fun _ hk => hk.2) (.int .i64 t181)) (fun _ hk => hk.2) (.slice Ao124 t182.length co124)) (fun _ h_ => h_.1))) hb); have n1_ := Aside0.mk (Kd.R_below (by exact Ho.RS <| (Kd.R_mono (Kd.R_far (p := ⟨gb186, 2, none⟩) (Kd.R_far (p := ⟨gb186, 1, none⟩) (Kd.R_far (p := ⟨gb186, 0, none⟩) (Kd.R_types HO_137002.out BK186.out (by decide)) (fun _ hk => hk.2) (.int .i64 t180)) (fun _ hk => hk.2) (.int .i64 t181)) (fun _ hk => hk.2) (.slice Ao124 t182.length co124)) (fun _ h_ => h_.1))) hb); have n2_ := Aside0.mk (Kd.R_below (by exact Ho.RS <| (Kd.R_mono (Kd.R_far (p := ⟨gb186, 2, none⟩) (Kd.R_far (p := ⟨gb186, 1, none⟩) (Kd.R_far (p := ⟨gb186, 0, none⟩) (Kd.R_types HO_137003.out BK186.out (by decide)) (fun _ hk => hk.2) (.int .i64 t180)) (fun _ hk => hk.2) (.int .i64 t181)) (fun _ hk => hk.2) (.slice Ao124 t182.length co124)) (fun _ h_ => h_.1))) hb); have n3_ := Aside0.mk (Kd.R_below (by exact Ho.RS <| (Kd.R_mono (Kd.R_far (p := ⟨gb186, 2, none⟩) (Kd.R_far (p := ⟨gb186, 1, none⟩) (Kd.R_far (p := ⟨gb186, 0, none⟩) (Kd.R_types HO_137005.out BK186.out (by decide)) (fun _ hk => hk.2) (.int .i64 t180)) (fun _ hk => hk.2) (.int .i64 t181)) (fun _ hk => hk.2) (.slice Ao124 t182.length co124)) (fun _ h_ => h_.1))) hb); have n4_ := Aside0.mk (Kd.R_below (by exact Ho.RS <| (Kd.R_mono (Kd.R_far (p := ⟨gb186, 2, none⟩) (Kd.R_far (p := ⟨gb186, 1, none⟩) (Kd.R_far (p := ⟨gb186, 0, none⟩) (Kd.R_types HO_144002.out BK186.out (by decide)) (fun _ hk => hk.2) (.int .i64 t180)) (fun _ hk => hk.2) (.int .i64 t181)) (fun _ hk => hk.2) (.slice Ao124 t182.length co124)) (fun _ h_ => h_.1))) hb); have n5_ := Aside0.mk (Kd.R_below (by exact Ho.RS <| (Kd.R_mono (Kd.R_far (p := ⟨gb186, 2, none⟩) (Kd.R_far (p := ⟨gb186, 1, none⟩) (Kd.R_far (p := ⟨gb186, 0, none⟩) (Kd.R_types HO171.out BK186.out (by decide)) (fun _ hk => hk.2) (.int .i64 t180)) (fun _ hk => hk.2) (.int .i64 t181)) (fun _ hk => hk.2) (.slice Ao124 t182.length co124)) (fun _ h_ => h_.1))) hb); have n6_ := Aside0.mk (Kd.R_below (by exact Ho.RS <| (Kd.R_mono (Kd.R_far (p := ⟨gb186, 2, none⟩) (Kd.R_far (p := ⟨gb186, 1, none⟩) (Kd.R_far (p := ⟨gb186, 0, none⟩) (Kd.R_types HO174.out BK186.out (by decide)) (fun _ hk => hk.2) (.int .i64 t180)) (fun _ hk => hk.2) (.int .i64 t181)) (fun _ hk => hk.2) (.slice Ao124 t182.length co124)) (fun _ h_ => h_.1))) hb); have n7_ := Aside0.mk (Kd.R_below (by exact Ho.RS <| (Kd.R_mono (Kd.R_far (p := ⟨gb186, 2, none⟩) (Kd.R_far (p := ⟨gb186, 1, none⟩) (Kd.R_far (p := ⟨gb186, 0, none⟩) (Kd.R_types HO178.out BK186.out (by decide)) (fun _ hk => hk.2) (.int .i64 t180)) (fun _ hk => hk.2) (.int .i64 t181)) (fun _ hk => hk.2) (.slice Ao124 t182.length co124)) (fun _ h_ => h_.1))) hb); have n8_ := Aside0.mk (Kd.R_below (by exact Ho.RS <| (Kd.R_mono (Kd.R_far (p := ⟨gb186, 2, none⟩) (Kd.R_far (p := ⟨gb186, 1, none⟩) (Kd.R_far (p := ⟨gb186, 0, none⟩) (Kd.R_types HO184.out BK186.out (by decide)) (fun _ hk => hk.2) (.int .i64 t180)) (fun _ hk => hk.2) (.int .i64 t181)) (fun _ hk => hk.2) (.slice Ao124 t182.length co124)) (fun _ h_ => h_.1))) hb); have n9_ := Aside0.mk (blk_below (g := gb101) (o := .cells #[.int .i64 a0_0, .int .i64 a0_1, .slice A0_2 l0_2.length c0_2, .slice A0_3 l0_3.length c0_3, .int .i64 a0_4, .slice A0_5 l0_5.length c0_5, .bool a0_6] 54 (0, 0)) (by (with_reducible repeat (first | refine blk_drewN ?_ _ | refine blk_drew ?_ | refine blk_alloc ?_ _)); refine blk_far ?_ NB101_186.out _; (with_reducible repeat (first | refine blk_drewN ?_ _ | refine blk_drew ?_ | refine blk_alloc ?_ _)); refine blk_far ?_ NB101_186.out _; (with_reducible repeat (first | refine blk_drewN ?_ _ | refine blk_drew ?_ | refine blk_alloc ?_ _)); refine blk_far ?_ NB101_186.out _; exact bS BK101.out) hb); have n10_ := Aside0.mk (blk_below (g := gb122) (o := .cells #[.int .i64 t116, .int .i64 t117, .slice Ao24 t118.length co24] 30 (0, 0)) (by (with_reducible repeat (first | refine blk_drewN ?_ _ | refine blk_drew ?_ | refine blk_alloc ?_ _)); refine blk_far ?_ NB122_186.out _; (with_reducible repeat (first | refine blk_drewN ?_ _ | refine blk_drew ?_ | refine blk_alloc ?_ _)); refine blk_far ?_ NB122_186.out _; (with_reducible repeat (first | refine blk_drewN ?_ _ | refine blk_drew ?_ | refine blk_alloc ?_ _)); refine blk_far ?_ NB122_186.out _; exact bS BK122.out) hb); have n11_ := Aside0.mk (blk_below (g := gb136) (o := .cells #[.int .i64 t123, .int .i64 t124, .slice Ao31 t160.length co31, .slice Ao32 t161.length co32, .int .i64 t131, .slice Ao33 t162.length co33, .bool t135] 59 (0, 0)) (by (with_reducible repeat (first | refine blk_drewN ?_ _ | refine blk_drew ?_ | refine blk_alloc ?_ _)); refine blk_far ?_ NB136_186.out _; (with_reducible repeat (first | refine blk_drewN ?_ _ | refine blk_drew ?_ | refine blk_alloc ?_ _)); refine blk_far ?_ NB136_186.out _; (with_reducible repeat (first | refine blk_drewN ?_ _ | refine blk_drew ?_ | refine blk_alloc ?_ _)); refine blk_far ?_ NB136_186.out _; exact bS BK136.out) hb); have n12_ := Aside0.mk (blk_below (g := gb143) (o := .cells #[.int .i64 t137, .int .i64 t138, .slice Ao40 t139.length co40] 30 (0, 0)) (by (with_reducible repeat (first | refine blk_drewN ?_ _ | refine blk_drew ?_ | refine blk_alloc ?_ _)); refine blk_far ?_ NB143_186.out _; (with_reducible repeat (first | refine blk_drewN ?_ _ | refine blk_drew ?_ | refine blk_alloc ?_ _)); refine blk_far ?_ NB143_186.out _; (with_reducible repeat (first | refine blk_drewN ?_ _ | refine blk_drew ?_ | refine blk_alloc ?_ _)); refine blk_far ?_ NB143_186.out _; exact bS BK143.out) hb); have n13_ := Aside0.mk (blk_below (g := gb186) (o := .cells #[.int .i64 t180, .int .i64 t181, .slice Ao124 t182.length co124] 30 (0, 0)) (by (with_reducible repeat (first | refine blk_drewN ?_ _ | refine blk_drew ?_ | refine blk_alloc ?_ _)); refine blk_put (cs := #[.int .i64 t180, .int .i64 t181, .slice none 0 0]) ?_ 2 _ rfl; (with_reducible repeat (first | refine blk_drewN ?_ _ | refine blk_drew ?_ | refine blk_alloc ?_ _)); refine blk_put (cs := #[.int .i64 t180, .int .i64 0, .slice none 0 0]) ?_ 1 _ rfl; (with_reducible repeat (first | refine blk_drewN ?_ _ | refine blk_drew ?_ | refine blk_alloc ?_ _)); refine blk_put (cs := #[.int .i64 0, .int .i64 0, .slice none 0 0]) ?_ 0 _ rfl; exact bS BK186.out) hb); have n14_ := Aside0.mk (below_step (by repeat (first | (with_reducible first | exact HB.out | apply below_alloc | apply pw_below_drewN | apply below_drew1 | refine below_set ?_ GE101.out | refine below_set ?_ GE122.out | refine below_set ?_ GE136.out | refine below_set ?_ GE143.out | refine below_set ?_ GE186.out) | exact HB.out)) hb); clear HO_123002; clear HO_137002; clear HO_137003; clear HO_137005; clear HO_144002; clear HO171; clear HO174; clear HO178; clear HO184; clear BK101; clear BK122; clear BK136; clear BK143; clear BK186; clear HB; have HO_123002 := n0_; have HO_137002 := n1_; have HO_137003 := n2_; have HO_137005 := n3_; have HO_144002 := n4_; have HO171 := n5_; have HO174 := n6_; have HO178 := n7_; have HO184 := n8_; have BK101 := n9_; have BK122 := n10_; have BK136 := n11_; have BK143 := n12_; have BK186 := n13_; have HB := n14_; clear n0_ n1_ n2_ n3_ n4_ n5_ n6_ n7_ n8_ n9_ n10_ n11_ n12_ n13_ n14_; (try clear hb); (try clear hb2); (try clear hk); (try clear hi)))
              go_meet
              case rel => exact ⟨_, ((t185 != t121)), (by first | rfl | (simp; done) | (simp [*]; done)), H', ⟨by have := HJ10.out; have := HJ63.out; first | omega | exact Nat.le_refl _⟩, ⟨by (try simp only [hl137002_63]); (try simp only [hl137003_63]); (try simp only [hl137005_63]); exact Ho.RS <| Kd.R_mono HO_123002.out (fun _ hk => ⟨hk.1.1.1.1, ⟨hk.1.1.1.2.1, ⟨hk.1.1.1.2.2, hk.2⟩⟩⟩)⟩, ⟨by (try simp only [hl137002_63]); (try simp only [hl137003_63]); (try simp only [hl137005_63]); exact Ho.RS <| Kd.R_mono HO_137002.out (fun _ hk => ⟨hk.1.1.1.1, ⟨hk.1.1.1.2.1, ⟨hk.1.1.1.2.2, hk.2⟩⟩⟩)⟩, ⟨by (try simp only [hl137002_63]); (try simp only [hl137003_63]); (try simp only [hl137005_63]); exact Ho.RS <| Kd.R_mono HO_137003.out (fun _ hk => ⟨hk.1.1.1.1, ⟨hk.1.1.1.2.1, ⟨hk.1.1.1.2.2, hk.2⟩⟩⟩)⟩, ⟨by (try simp only [hl137002_63]); (try simp only [hl137003_63]); (try simp only [hl137005_63]); exact Ho.RS <| Kd.R_mono HO_137005.out (fun _ hk => trivial)⟩, ⟨by (try simp only [hl137002_63]); (try simp only [hl137003_63]); (try simp only [hl137005_63]); exact Ho.RS <| Kd.R_mono HO_144002.out (fun _ hk => ⟨hk.1.1.1.1, ⟨hk.1.1.1.2.1, ⟨hk.1.1.1.2.2, hk.2⟩⟩⟩)⟩, ⟨by (try simp only [hl137002_63]); (try simp only [hl137003_63]); (try simp only [hl137005_63]); exact Ho.RS <| Kd.R_mono HO184.out (fun _ hk => ⟨hk.1.1.1.1.1.2, ⟨hk.1.1.1.1.2, ⟨hk.1.1.1.2, hk.1.1.2⟩⟩⟩)⟩, ⟨by (try simp only [hl137002_63]); (try simp only [hl137003_63]); (try simp only [hl137005_63]); exact bS BK101.out⟩, ⟨by (try simp only [hl137002_63]); (try simp only [hl137003_63]); (try simp only [hl137005_63]); exact bS BK122.out⟩, ⟨by (try simp only [hl137002_63]); (try simp only [hl137003_63]); (try simp only [hl137005_63]); exact bS BK136.out⟩, ⟨by (try simp only [hl137002_63]); (try simp only [hl137003_63]); (try simp only [hl137005_63]); exact bS BK143.out⟩, ⟨by (try simp only [hl137002_63]); (try simp only [hl137003_63]); (try simp only [hl137005_63]); exact bS BK186.out⟩, ⟨by exact eS HB.out⟩⟩
            ·replace c126 := Bool.eq_false_iff.mpr c126
             subst c126
             have H1 : (laws_FnExactWovenChart.j2 kj63 t164 true t137 t138 t165) = some r := by rw [if_neg (show ¬ (false = true) by decide)] at H; exact H
             clear H
             have H := H1
             clear H1
             as_aux_lemma =>
              have H' := Aside0.mk H
              clear H
              have hnb137 := NB186_101.out
              have hnc137 := NB101_186.out
              have hnb138 := NB186_122.out
              have hnc138 := NB122_186.out
              have hnb139 := NB186_136.out
              have hnc139 := NB136_186.out
              have hnb140 := NB186_143.out
              have hnc140 := NB143_186.out
              have hcz141_0 : w118.cell? ⟨gb186, 0, none⟩ = some (.int .i64 0) := (blk_cell BK186.out 0).trans rfl
              have hcz141_1 : w118.cell? ⟨gb186, 1, none⟩ = some (.int .i64 0) := (blk_cell BK186.out 1).trans rfl
              have hcz141_2 : w118.cell? ⟨gb186, 2, none⟩ = some (.slice none 0 0) := (blk_cell BK186.out 2).trans rfl
              have hfz141_0 := blk_frozen BK186.out 0
              have hfz141_1 := blk_frozen BK186.out 1
              have hfz141_2 := blk_frozen BK186.out 2
              have hnb142 := NB122_101.out
              have hnc142 := NB101_122.out
              have hnb143 := NB122_136.out
              have hnc143 := NB136_122.out
              have hnb144 := NB122_143.out
              have hnc144 := NB143_122.out
              have hcz145_0 : w118.cell? ⟨gb122, 0, none⟩ = some (.int .i64 t116) := (blk_cell BK122.out 0).trans rfl
              have hcz145_1 : w118.cell? ⟨gb122, 1, none⟩ = some (.int .i64 t117) := (blk_cell BK122.out 1).trans rfl
              have hcz145_2 : w118.cell? ⟨gb122, 2, none⟩ = some (.slice Ao24 t118.length co24) := (blk_cell BK122.out 2).trans rfl
              have hfz145_0 := blk_frozen BK122.out 0
              have hfz145_1 := blk_frozen BK122.out 1
              have hfz145_2 := blk_frozen BK122.out 2
              go_wp2_with (first | ((with_reducible refine gate_callee (f := 19) rfl ?_); refine goesL_ (some 81) rfl rfl Try.func19 (by kernel_rfl) rfl #[.agg #[.int .i64 t180, .int .i64 t181, .slice Ao124 t182.length co124], .agg #[.int .i64 t116, .int .i64 t117, .slice Ao24 t118.length co24]] rfl (by (try simp only [List.map_toArray, List.map_cons, List.map_nil]); first | done | rfl | (simp only [List.length_drop, List.length_take]; rfl)) ?_; (with_reducible refine (laws_eqChart.calls kj63 t180 t181 _ _ t182 t116 t117 _ _ t118 false _ ?side1 ?side2 ?side3 ?side4 A125.out).mono ?_); (case side1 => refine (Kd.R_reads' (e := 3) (base := w.heap.size) (ok := fun k_ => ((((((True ∧ some k_ ≠ (.slice Ao24 t118.length co24 : Value).ownBlock) ∧ some k_ ≠ (.slice Ao31 t160.length co31 : Value).ownBlock) ∧ some k_ ≠ (.slice Ao32 t161.length co32 : Value).ownBlock) ∧ some k_ ≠ (.slice Ao40 t139.length co40 : Value).ownBlock) ∧ some k_ ≠ (.slice Ao114 t169.length co114 : Value).ownBlock) ∧ some k_ ≠ (.slice Ao115 t172.length co115 : Value).ownBlock)) (n := t182.length) (c := co124) ?_).2.2; exact (by exact Ho.RS <| (Kd.R_mono (Kd.R_far (p := ⟨gb186, 2, none⟩) (Kd.R_far (p := ⟨gb186, 1, none⟩) (Kd.R_far (p := ⟨gb186, 0, none⟩) (Kd.R_types HO184.out BK186.out (by decide)) (fun _ hk => hk.2) (.int .i64 t180)) (fun _ hk => hk.2) (.int .i64 t181)) (fun _ hk => hk.2) (.slice Ao124 t182.length co124)) (fun _ h_ => h_.1)))); (case side2 => exact (Kd.R_reads' HO184.out).2.1); (case side3 => refine (Kd.R_reads' (e := 3) (base := w.heap.size) (ok := fun k_ => ((((some k_ ≠ (.slice Ao31 t160.length co31 : Value).ownBlock ∧ (some k_ ≠ (.slice Ao32 t161.length co32 : Value).ownBlock ∧ some k_ ≠ (.slice Ao40 t139.length co40 : Value).ownBlock)) ∧ some k_ ≠ (.slice Ao114 t169.length co114 : Value).ownBlock) ∧ some k_ ≠ (.slice Ao115 t172.length co115 : Value).ownBlock) ∧ some k_ ≠ (.slice Ao124 t182.length co124 : Value).ownBlock)) (n := t118.length) (c := co24) ?_).2.2; exact (by exact Ho.RS <| (Kd.R_mono (Kd.R_far (p := ⟨gb186, 2, none⟩) (Kd.R_far (p := ⟨gb186, 1, none⟩) (Kd.R_far (p := ⟨gb186, 0, none⟩) (Kd.R_types HO_123002.out BK186.out (by decide)) (fun _ hk => hk.2) (.int .i64 t180)) (fun _ hk => hk.2) (.int .i64 t181)) (fun _ hk => hk.2) (.slice Ao124 t182.length co124)) (fun _ h_ => h_.1)))); (case side4 => exact (Kd.R_reads' HO_123002.out).2.1); rintro e w146 ⟨rfl, hb⟩; refine ⟨_, rfl, ?_⟩; have n0_ := Aside0.mk (Kd.R_below (by exact Ho.RS <| (Kd.R_mono (Kd.R_far (p := ⟨gb186, 2, none⟩) (Kd.R_far (p := ⟨gb186, 1, none⟩) (Kd.R_far (p := ⟨gb186, 0, none⟩) (Kd.R_types HO_123002.out BK186.out (by decide)) (fun _ hk => hk.2) (.int .i64 t180)) (fun _ hk => hk.2) (.int .i64 t181)) (fun _ hk => hk.2) (.slice Ao124 t182.length co124)) (fun _ h_ => h_.1))) hb); have n1_ := Aside0.mk (Kd.R_below (by exact Ho.RS <| (Kd.R_mono (Kd.R_far (p := ⟨gb186, 2, none⟩) (Kd.R_far (p := ⟨gb186, 1, none⟩) (Kd.R_far (p := ⟨gb186, 0, none⟩) (Kd.R_types HO_137002.out BK186.out (by decide)) (fun _ hk => hk.2) (.int .i64 t180)) (fun _ hk => hk.2) (.int .i64 t181)) (fun _ hk => hk.2) (.slice Ao124 t182.length co124)) (fun _ h_ => h_.1))) hb); have n2_ := Aside0.mk (Kd.R_below (by exact Ho.RS <| (Kd.R_mono (Kd.R_far (p := ⟨gb186, 2, none⟩) (Kd.R_far (p := ⟨gb186, 1, none⟩) (Kd.R_far (p := ⟨gb186, 0, none⟩) (Kd.R_types HO_137003.out BK186.out (by decide)) (fun _ hk => hk.2) (.int .i64 t180)) (fun _ hk => hk.2) (.int .i64 t181)) (fun _ hk => hk.2) (.slice Ao124 t182.length co124)) (fun _ h_ => h_.1))) hb); have n3_ := Aside0.mk (Kd.R_below (by exact Ho.RS <| (Kd.R_mono (Kd.R_far (p := ⟨gb186, 2, none⟩) (Kd.R_far (p := ⟨gb186, 1, none⟩) (Kd.R_far (p := ⟨gb186, 0, none⟩) (Kd.R_types HO_137005.out BK186.out (by decide)) (fun _ hk => hk.2) (.int .i64 t180)) (fun _ hk => hk.2) (.int .i64 t181)) (fun _ hk => hk.2) (.slice Ao124 t182.length co124)) (fun _ h_ => h_.1))) hb); have n4_ := Aside0.mk (Kd.R_below (by exact Ho.RS <| (Kd.R_mono (Kd.R_far (p := ⟨gb186, 2, none⟩) (Kd.R_far (p := ⟨gb186, 1, none⟩) (Kd.R_far (p := ⟨gb186, 0, none⟩) (Kd.R_types HO_144002.out BK186.out (by decide)) (fun _ hk => hk.2) (.int .i64 t180)) (fun _ hk => hk.2) (.int .i64 t181)) (fun _ hk => hk.2) (.slice Ao124 t182.length co124)) (fun _ h_ => h_.1))) hb); have n5_ := Aside0.mk (Kd.R_below (by exact Ho.RS <| (Kd.R_mono (Kd.R_far (p := ⟨gb186, 2, none⟩) (Kd.R_far (p := ⟨gb186, 1, none⟩) (Kd.R_far (p := ⟨gb186, 0, none⟩) (Kd.R_types HO171.out BK186.out (by decide)) (fun _ hk => hk.2) (.int .i64 t180)) (fun _ hk => hk.2) (.int .i64 t181)) (fun _ hk => hk.2) (.slice Ao124 t182.length co124)) (fun _ h_ => h_.1))) hb); have n6_ := Aside0.mk (Kd.R_below (by exact Ho.RS <| (Kd.R_mono (Kd.R_far (p := ⟨gb186, 2, none⟩) (Kd.R_far (p := ⟨gb186, 1, none⟩) (Kd.R_far (p := ⟨gb186, 0, none⟩) (Kd.R_types HO174.out BK186.out (by decide)) (fun _ hk => hk.2) (.int .i64 t180)) (fun _ hk => hk.2) (.int .i64 t181)) (fun _ hk => hk.2) (.slice Ao124 t182.length co124)) (fun _ h_ => h_.1))) hb); have n7_ := Aside0.mk (Kd.R_below (by exact Ho.RS <| (Kd.R_mono (Kd.R_far (p := ⟨gb186, 2, none⟩) (Kd.R_far (p := ⟨gb186, 1, none⟩) (Kd.R_far (p := ⟨gb186, 0, none⟩) (Kd.R_types HO178.out BK186.out (by decide)) (fun _ hk => hk.2) (.int .i64 t180)) (fun _ hk => hk.2) (.int .i64 t181)) (fun _ hk => hk.2) (.slice Ao124 t182.length co124)) (fun _ h_ => h_.1))) hb); have n8_ := Aside0.mk (Kd.R_below (by exact Ho.RS <| (Kd.R_mono (Kd.R_far (p := ⟨gb186, 2, none⟩) (Kd.R_far (p := ⟨gb186, 1, none⟩) (Kd.R_far (p := ⟨gb186, 0, none⟩) (Kd.R_types HO184.out BK186.out (by decide)) (fun _ hk => hk.2) (.int .i64 t180)) (fun _ hk => hk.2) (.int .i64 t181)) (fun _ hk => hk.2) (.slice Ao124 t182.length co124)) (fun _ h_ => h_.1))) hb); have n9_ := Aside0.mk (blk_below (g := gb101) (o := .cells #[.int .i64 a0_0, .int .i64 a0_1, .slice A0_2 l0_2.length c0_2, .slice A0_3 l0_3.length c0_3, .int .i64 a0_4, .slice A0_5 l0_5.length c0_5, .bool a0_6] 54 (0, 0)) (by (with_reducible repeat (first | refine blk_drewN ?_ _ | refine blk_drew ?_ | refine blk_alloc ?_ _)); refine blk_far ?_ NB101_186.out _; (with_reducible repeat (first | refine blk_drewN ?_ _ | refine blk_drew ?_ | refine blk_alloc ?_ _)); refine blk_far ?_ NB101_186.out _; (with_reducible repeat (first | refine blk_drewN ?_ _ | refine blk_drew ?_ | refine blk_alloc ?_ _)); refine blk_far ?_ NB101_186.out _; exact bS BK101.out) hb); have n10_ := Aside0.mk (blk_below (g := gb122) (o := .cells #[.int .i64 t116, .int .i64 t117, .slice Ao24 t118.length co24] 30 (0, 0)) (by (with_reducible repeat (first | refine blk_drewN ?_ _ | refine blk_drew ?_ | refine blk_alloc ?_ _)); refine blk_far ?_ NB122_186.out _; (with_reducible repeat (first | refine blk_drewN ?_ _ | refine blk_drew ?_ | refine blk_alloc ?_ _)); refine blk_far ?_ NB122_186.out _; (with_reducible repeat (first | refine blk_drewN ?_ _ | refine blk_drew ?_ | refine blk_alloc ?_ _)); refine blk_far ?_ NB122_186.out _; exact bS BK122.out) hb); have n11_ := Aside0.mk (blk_below (g := gb136) (o := .cells #[.int .i64 t123, .int .i64 t124, .slice Ao31 t160.length co31, .slice Ao32 t161.length co32, .int .i64 t131, .slice Ao33 t162.length co33, .bool t135] 59 (0, 0)) (by (with_reducible repeat (first | refine blk_drewN ?_ _ | refine blk_drew ?_ | refine blk_alloc ?_ _)); refine blk_far ?_ NB136_186.out _; (with_reducible repeat (first | refine blk_drewN ?_ _ | refine blk_drew ?_ | refine blk_alloc ?_ _)); refine blk_far ?_ NB136_186.out _; (with_reducible repeat (first | refine blk_drewN ?_ _ | refine blk_drew ?_ | refine blk_alloc ?_ _)); refine blk_far ?_ NB136_186.out _; exact bS BK136.out) hb); have n12_ := Aside0.mk (blk_below (g := gb143) (o := .cells #[.int .i64 t137, .int .i64 t138, .slice Ao40 t139.length co40] 30 (0, 0)) (by (with_reducible repeat (first | refine blk_drewN ?_ _ | refine blk_drew ?_ | refine blk_alloc ?_ _)); refine blk_far ?_ NB143_186.out _; (with_reducible repeat (first | refine blk_drewN ?_ _ | refine blk_drew ?_ | refine blk_alloc ?_ _)); refine blk_far ?_ NB143_186.out _; (with_reducible repeat (first | refine blk_drewN ?_ _ | refine blk_drew ?_ | refine blk_alloc ?_ _)); refine blk_far ?_ NB143_186.out _; exact bS BK143.out) hb); have n13_ := Aside0.mk (blk_below (g := gb186) (o := .cells #[.int .i64 t180, .int .i64 t181, .slice Ao124 t182.length co124] 30 (0, 0)) (by (with_reducible repeat (first | refine blk_drewN ?_ _ | refine blk_drew ?_ | refine blk_alloc ?_ _)); refine blk_put (cs := #[.int .i64 t180, .int .i64 t181, .slice none 0 0]) ?_ 2 _ rfl; (with_reducible repeat (first | refine blk_drewN ?_ _ | refine blk_drew ?_ | refine blk_alloc ?_ _)); refine blk_put (cs := #[.int .i64 t180, .int .i64 0, .slice none 0 0]) ?_ 1 _ rfl; (with_reducible repeat (first | refine blk_drewN ?_ _ | refine blk_drew ?_ | refine blk_alloc ?_ _)); refine blk_put (cs := #[.int .i64 0, .int .i64 0, .slice none 0 0]) ?_ 0 _ rfl; exact bS BK186.out) hb); have n14_ := Aside0.mk (below_step (by repeat (first | (with_reducible first | exact HB.out | apply below_alloc | apply pw_below_drewN | apply below_drew1 | refine below_set ?_ GE101.out | refine below_set ?_ GE122.out | refine below_set ?_ GE136.out | refine below_set ?_ GE143.out | refine below_set ?_ GE186.out) | exact HB.out)) hb); clear HO_123002; clear HO_137002; clear HO_137003; clear HO_137005; clear HO_144002; clear HO171; clear HO174; clear HO178; clear HO184; clear BK101; clear BK122; clear BK136; clear BK143; clear BK186; clear HB; have HO_123002 := n0_; have HO_137002 := n1_; have HO_137003 := n2_; have HO_137005 := n3_; have HO_144002 := n4_; have HO171 := n5_; have HO174 := n6_; have HO178 := n7_; have HO184 := n8_; have BK101 := n9_; have BK122 := n10_; have BK136 := n11_; have BK143 := n12_; have BK186 := n13_; have HB := n14_; clear n0_ n1_ n2_ n3_ n4_ n5_ n6_ n7_ n8_ n9_ n10_ n11_ n12_ n13_ n14_; (try clear hb); (try clear hb2); (try clear hk); (try clear hi)))
              go_meet
              case rel => exact ⟨_, (true), (by first | rfl | (simp; done) | (simp [*]; done)), H', ⟨by have := HJ10.out; have := HJ63.out; first | omega | exact Nat.le_refl _⟩, ⟨by (try simp only [hl137002_63]); (try simp only [hl137003_63]); (try simp only [hl137005_63]); exact Ho.RS <| Kd.R_mono HO_123002.out (fun _ hk => ⟨hk.1.1.1.1, ⟨hk.1.1.1.2.1, ⟨hk.1.1.1.2.2, hk.2⟩⟩⟩)⟩, ⟨by (try simp only [hl137002_63]); (try simp only [hl137003_63]); (try simp only [hl137005_63]); exact Ho.RS <| Kd.R_mono HO_137002.out (fun _ hk => ⟨hk.1.1.1.1, ⟨hk.1.1.1.2.1, ⟨hk.1.1.1.2.2, hk.2⟩⟩⟩)⟩, ⟨by (try simp only [hl137002_63]); (try simp only [hl137003_63]); (try simp only [hl137005_63]); exact Ho.RS <| Kd.R_mono HO_137003.out (fun _ hk => ⟨hk.1.1.1.1, ⟨hk.1.1.1.2.1, ⟨hk.1.1.1.2.2, hk.2⟩⟩⟩)⟩, ⟨by (try simp only [hl137002_63]); (try simp only [hl137003_63]); (try simp only [hl137005_63]); exact Ho.RS <| Kd.R_mono HO_137005.out (fun _ hk => trivial)⟩, ⟨by (try simp only [hl137002_63]); (try simp only [hl137003_63]); (try simp only [hl137005_63]); exact Ho.RS <| Kd.R_mono HO_144002.out (fun _ hk => ⟨hk.1.1.1.1, ⟨hk.1.1.1.2.1, ⟨hk.1.1.1.2.2, hk.2⟩⟩⟩)⟩, ⟨by (try simp only [hl137002_63]); (try simp only [hl137003_63]); (try simp only [hl137005_63]); exact Ho.RS <| Kd.R_mono HO184.out (fun _ hk => ⟨hk.1.1.1.1.1.2, ⟨hk.1.1.1.1.2, ⟨hk.1.1.1.2, hk.1.1.2⟩⟩⟩)⟩, ⟨by (try simp only [hl137002_63]); (try simp only [hl137003_63]); (try simp only [hl137005_63]); exact bS BK101.out⟩, ⟨by (try simp only [hl137002_63]); (try simp only [hl137003_63]); (try simp only [hl137005_63]); exact bS BK122.out⟩, ⟨by (try simp only [hl137002_63]); (try simp only [hl137003_63]); (try simp only [hl137005_63]); exact bS BK136.out⟩, ⟨by (try simp only [hl137002_63]); (try simp only [hl137003_63]); (try simp only [hl137005_63]); exact bS BK143.out⟩, ⟨by (try simp only [hl137002_63]); (try simp only [hl137003_63]); (try simp only [hl137005_63]); exact bS BK186.out⟩, ⟨by exact eS HB.out⟩⟩
           case rest =>
            clear HC102
            try clear c1
            try clear c2
            try clear p2
            try clear c3
            try clear c3b0
            try clear c4
            try clear c5
            try clear c6
            try clear c7
            try clear c8
            try clear c9
            try clear c10
            try clear c11
            try clear c12
            try clear c13
            try clear c14
            try clear c19
            try clear c22
            try clear c28
            try clear c29
            try clear c30
            try clear c36
            try clear c37
            try clear c38
            try clear c40
            try clear c42
            try clear c43
            try clear c44
            try clear c45
            try clear c47
            try clear c48
            try clear c49
            try clear c50
            try clear c51
            try clear c52
            try clear c53
            try clear c55
            try clear c56
            try clear c59
            try clear c62
            try clear c71
            try clear c72
            try clear c73
            try clear c76
            try clear c76b0
            try clear c78
            try clear c79
            try clear c80
            try clear c81
            try clear c83
            try clear c84
            try clear c87
            try clear c88
            try clear c89
            try clear c91
            try clear c92
            try clear c95
            try clear c98
            try clear c98b0
            try clear c99
            try clear c99b0
            try clear c99b1
            try clear c103
            try clear c104
            try clear c105
            try clear c110
            try clear c111
            try clear c119
            try clear c120
            try clear c121
            try clear c122
            try clear c126
            try clear c127
            try clear c128
            try clear c129
            try clear c130
            try clear c132
            try clear c133
            try clear c134
            try clear c137
            try clear c138
            try clear c139
            try clear c140
            try clear c142
            try clear c143
            try clear c144
            try clear hcz106_0
            try clear hcz106_1
            try clear hcz106_2
            try clear hcz108_0
            try clear hcz108_1
            try clear hcz108_2
            try clear hcz112_0
            try clear hcz112_1
            try clear hcz112_2
            try clear hcz112_3
            try clear hcz112_4
            try clear hcz112_5
            try clear hcz112_6
            try clear hcz123_0
            try clear hcz123_1
            try clear hcz123_2
            try clear hcz131_0
            try clear hcz131_1
            try clear hcz131_2
            try clear hcz135_0
            try clear hcz135_1
            try clear hcz135_2
            try clear hcz13_0
            try clear hcz13_1
            try clear hcz13_2
            try clear hcz13_3
            try clear hcz13_4
            try clear hcz13_5
            try clear hcz13_6
            try clear hcz141_0
            try clear hcz141_1
            try clear hcz141_2
            try clear hcz145_0
            try clear hcz145_1
            try clear hcz145_2
            try clear hcz15_0
            try clear hcz15_1
            try clear hcz15_2
            try clear hcz15_3
            try clear hcz15_4
            try clear hcz15_5
            try clear hcz15_6
            try clear hcz23_0
            try clear hcz23_1
            try clear hcz23_2
            try clear hcz25_0
            try clear hcz25_1
            try clear hcz25_2
            try clear hcz25_3
            try clear hcz25_4
            try clear hcz25_5
            try clear hcz25_6
            try clear hcz30_0
            try clear hcz30_1
            try clear hcz30_2
            try clear hcz30_3
            try clear hcz30_4
            try clear hcz30_5
            try clear hcz30_6
            try clear hcz39_0
            try clear hcz39_1
            try clear hcz39_2
            try clear hcz46_0
            try clear hcz46_1
            try clear hcz46_2
            try clear hcz49_0
            try clear hcz49_1
            try clear hcz49_2
            try clear hcz54_0
            try clear hcz54_1
            try clear hcz54_2
            try clear hcz57_0
            try clear hcz57_1
            try clear hcz57_2
            try clear hcz5_0
            try clear hcz5_1
            try clear hcz5_2
            try clear hcz5_3
            try clear hcz5_4
            try clear hcz5_5
            try clear hcz5_6
            try clear hcz74_0
            try clear hcz74_1
            try clear hcz74_2
            try clear hcz74_3
            try clear hcz74_4
            try clear hcz74_5
            try clear hcz74_6
            try clear hcz82_0
            try clear hcz82_1
            try clear hcz82_2
            try clear hcz85_0
            try clear hcz85_1
            try clear hcz85_2
            try clear hcz90_0
            try clear hcz90_1
            try clear hcz90_2
            try clear hcz93_0
            try clear hcz93_1
            try clear hcz93_2
            try clear hfz106_0
            try clear hfz106_1
            try clear hfz106_2
            try clear hfz108_0
            try clear hfz108_1
            try clear hfz108_2
            try clear hfz112_0
            try clear hfz112_1
            try clear hfz112_2
            try clear hfz112_3
            try clear hfz112_4
            try clear hfz112_5
            try clear hfz112_6
            try clear hfz123_0
            try clear hfz123_1
            try clear hfz123_2
            try clear hfz131_0
            try clear hfz131_1
            try clear hfz131_2
            try clear hfz135_0
            try clear hfz135_1
            try clear hfz135_2
            try clear hfz13_0
            try clear hfz13_1
            try clear hfz13_2
            try clear hfz13_3
            try clear hfz13_4
            try clear hfz13_5
            try clear hfz13_6
            try clear hfz141_0
            try clear hfz141_1
            try clear hfz141_2
            try clear hfz145_0
            try clear hfz145_1
            try clear hfz145_2
            try clear hfz15_0
            try clear hfz15_1
            try clear hfz15_2
            try clear hfz15_3
            try clear hfz15_4
            try clear hfz15_5
            try clear hfz15_6
            try clear hfz23_0
            try clear hfz23_1
            try clear hfz23_2
            try clear hfz25_0
            try clear hfz25_1
            try clear hfz25_2
            try clear hfz25_3
            try clear hfz25_4
            try clear hfz25_5
            try clear hfz25_6
            try clear hfz30_0
            try clear hfz30_1
            try clear hfz30_2
            try clear hfz30_3
            try clear hfz30_4
            try clear hfz30_5
            try clear hfz30_6
            try clear hfz39_0
            try clear hfz39_1
            try clear hfz39_2
            try clear hfz46_0
            try clear hfz46_1
            try clear hfz46_2
            try clear hfz49_0
            try clear hfz49_1
            try clear hfz49_2
            try clear hfz54_0
            try clear hfz54_1
            try clear hfz54_2
            try clear hfz57_0
            try clear hfz57_1
            try clear hfz57_2
            try clear hfz5_0
            try clear hfz5_1
            try clear hfz5_2
            try clear hfz5_3
            try clear hfz5_4
            try clear hfz5_5
            try clear hfz5_6
            try clear hfz74_0
            try clear hfz74_1
            try clear hfz74_2
            try clear hfz74_3
            try clear hfz74_4
            try clear hfz74_5
            try clear hfz74_6
            try clear hfz82_0
            try clear hfz82_1
            try clear hfz82_2
            try clear hfz85_0
            try clear hfz85_1
            try clear hfz85_2
            try clear hfz90_0
            try clear hfz90_1
            try clear hfz90_2
            try clear hfz93_0
            try clear hfz93_1
            try clear hfz93_2
            try clear p2
            obtain ⟨kq, x87_101, rfl, HA, HJ101, HO_123002, HO_137002, HO_137003, HO_137005, HO_144002, HO_187002, BK101, BK122, BK136, BK143, BK186, HB⟩ := hcut
            have hl144002_101 := (Kd.R_reads' HO_144002.out).1
            rw [hl144002_101] at HO_144002
            (try simp only [hl144002_101])
            (try simp only [hl144002_101] at BK101)
            (try simp only [hl144002_101] at BK122)
            (try simp only [hl144002_101] at BK136)
            (try simp only [hl144002_101] at BK143)
            (try simp only [hl144002_101] at BK186)
            (try simp only [hl144002_101] at HO_123002)
            (try simp only [hl144002_101] at HO_137002)
            (try simp only [hl144002_101] at HO_137003)
            (try simp only [hl144002_101] at HO_137005)
            (try simp only [hl144002_101] at HO_187002)
            cases kq with
            | zero => exact absurd HA.out (by simp [laws_FnExactWovenChart.j2])
            | succ kj101 =>
             have H := HA.out
             clear HA
             simp only [laws_FnExactWovenChart.j2] at H
             by_cases c147 : x87_101 = true
             ·subst c147
              have H1 : (some false) = some r := by rw [if_pos rfl] at H; exact H
              clear H
              have H := H1
              clear H1
              as_aux_lemma =>
               exact absurd ((Option.some.inj H).trans HT.out) (by decide)
             ·replace c147 := Bool.eq_false_iff.mpr c147
              subst c147
              have H1 : ((laws_heldChart.f kj101 t137 t138 t165 1).bind fun t188 => (if t188 < 0 then (some false) else (if t188 = t164 then (some true) else (some false)))) = some r := by rw [if_neg (show ¬ (false = true) by decide)] at H; exact H
              clear H
              have H := H1
              clear H1
              replace H := Option.bind_eq_some_iff.mp H
              obtain ⟨t188, A1480, H⟩ := H
              replace H : (if t188 < 0 then (some false) else (if t188 = t164 then (some true) else (some false))) = some r := H
              have A148 := Aside0.mk A1480
              clear A1480
              by_cases c149 : t188 < 0
              ·rw [if_pos c149] at H
               have c149b0 : decide (t188 < 0) = true := decide_eq_true c149
               clear c149
               as_aux_lemma =>
                exact absurd ((Option.some.inj H).trans HT.out) (by decide)
              ·rw [if_neg c149] at H
               have c149b0 : decide (t188 < 0) = false := decide_eq_false c149
               clear c149
               by_cases c150 : t188 = t164
               ·rw [if_pos c150] at H
                have c150b0 : (t188 == t164) = true := beq_iff_eq.mpr c150
                have c150b1 : (t188 != t164) = false := bne_eq_false_iff_eq.mpr c150
                clear c150
                as_aux_lemma =>
                 obtain rfl := Option.some.inj H
                 have hnb151 := NB143_101.out
                 have hnc151 := NB101_143.out
                 have hnb152 := NB143_122.out
                 have hnc152 := NB122_143.out
                 have hnb153 := NB143_136.out
                 have hnc153 := NB136_143.out
                 have hnb154 := NB143_186.out
                 have hnc154 := NB186_143.out
                 have hcz155_0 : wc.cell? ⟨gb143, 0, none⟩ = some (.int .i64 t137) := (blk_cell BK143.out 0).trans rfl
                 have hcz155_1 : wc.cell? ⟨gb143, 1, none⟩ = some (.int .i64 t138) := (blk_cell BK143.out 1).trans rfl
                 have hcz155_2 : wc.cell? ⟨gb143, 2, none⟩ = some (.slice Ao40 t165.length co40) := (blk_cell BK143.out 2).trans rfl
                 have hfz155_0 := blk_frozen BK143.out 0
                 have hfz155_1 := blk_frozen BK143.out 1
                 have hfz155_2 := blk_frozen BK143.out 2
                 go_wp2_with (first | ((with_reducible refine gate_callee (f := 52) rfl ?_); refine goesL_ (some 90) rfl rfl Try.func52 (by kernel_rfl) rfl #[.agg #[.int .i64 t137, .int .i64 t138, .slice Ao40 t165.length co40], .int .i64 1] rfl (by (try simp only [List.map_toArray, List.map_cons, List.map_nil]); first | done | rfl | (simp only [List.length_drop, List.length_take]; rfl)) ?_; (with_reducible refine (laws_heldChart.calls kj101 t137 t138 _ _ t165 1 t188 _ ?side1 ?side2 A148.out).mono ?_); (case side1 => repeat (first | exact (Kd.R_reads' HO_144002.out).2.2 | (with_reducible refine Kd.C_alloc ?_ _) | (with_reducible refine Kd.C_drewN ?_ _) | (with_reducible refine Kd.C_drew ?_))); (case side2 => exact (Kd.R_reads' HO_144002.out).2.1); rintro e w156 ⟨rfl, hb⟩; refine ⟨_, rfl, ?_⟩; have n0_ := Aside0.mk (Kd.R_below (by exact Ho.RS <| HO_123002.out) hb); have n1_ := Aside0.mk (Kd.R_below (by exact Ho.RS <| HO_137002.out) hb); have n2_ := Aside0.mk (Kd.R_below (by exact Ho.RS <| HO_137003.out) hb); have n3_ := Aside0.mk (Kd.R_below (by exact Ho.RS <| HO_137005.out) hb); have n4_ := Aside0.mk (Kd.R_below (by exact Ho.RS <| HO_144002.out) hb); have n5_ := Aside0.mk (Kd.R_below (by exact Ho.RS <| HO_187002.out) hb); have n6_ := Aside0.mk (blk_below (bS BK101.out) hb); have n7_ := Aside0.mk (blk_below (bS BK122.out) hb); have n8_ := Aside0.mk (blk_below (bS BK136.out) hb); have n9_ := Aside0.mk (blk_below (bS BK143.out) hb); have n10_ := Aside0.mk (blk_below (bS BK186.out) hb); have n11_ := Aside0.mk (below_step (by exact eS HB.out) hb); clear HO_123002; clear HO_137002; clear HO_137003; clear HO_137005; clear HO_144002; clear HO_187002; clear BK101; clear BK122; clear BK136; clear BK143; clear BK186; clear HB; have HO_123002 := n0_; have HO_137002 := n1_; have HO_137003 := n2_; have HO_137005 := n3_; have HO_144002 := n4_; have HO_187002 := n5_; have BK101 := n6_; have BK122 := n7_; have BK136 := n8_; have BK143 := n9_; have BK186 := n10_; have HB := n11_; clear n0_ n1_ n2_ n3_ n4_ n5_ n6_ n7_ n8_ n9_ n10_ n11_; (try clear hb); (try clear hb2); (try clear hk); (try clear hi)))
                 go_ret
                 exact ⟨by first | rfl | (simp [errW_none, errW_some] <;> rfl) | (simp [*, errW_none, errW_some] <;> rfl), by exact eS HB.out⟩
               ·rw [if_neg c150] at H
                have c150b0 : (t188 == t164) = false := beq_eq_false_iff_ne.mpr c150
                have c150b1 : (t188 != t164) = true := bne_iff_ne.mpr c150
                as_aux_lemma =>
                 exact absurd ((Option.some.inj H).trans HT.out) (by decide)
          ·rw [if_neg c99] at H
           have c99b0 : (t166 == t164) = false := beq_eq_false_iff_ne.mpr c99
           have c99b1 : (t166 != t164) = true := bne_iff_ne.mpr c99
           as_aux_lemma =>
            exact absurd ((Option.some.inj H).trans HT.out) (by decide)
     ·replace c62 := Bool.eq_false_iff.mpr c62
      subst c62
      have H1 : (some false) = some r := by rw [if_neg (show ¬ (false = true) by decide)] at H; exact H
      clear H
      have H := H1
      clear H1
      as_aux_lemma =>
       exact absurd ((Option.some.inj H).trans HT.out) (by decide)

/-- THE ONE PURE STATEMENT of laws_FnExactWovenChart: yours. -/
def laws_FnExactWovenChart.Pure : Prop := ∀ (a0_0 : Int) (a0_1 : Int) (l0_2 : List Int) (l0_3 : List Int) (a0_4 : Int) (l0_5 : List (S106)) (a0_6 : Bool), (Lit.int .i64 a0_0).wf = true → (Lit.int .i64 a0_1).wf = true → (l0_2.length ≤ 9223372036854775807 ∧ ∀ y_ ∈ l0_2, (Lit.int .i64 y_).wf = true) → (l0_3.length ≤ 9223372036854775807 ∧ ∀ y_ ∈ l0_3, (Lit.int .i64 y_).wf = true) → (Lit.int .i64 a0_4).wf = true → (l0_5.length ≤ 9223372036854775807 ∧ ∀ y_ ∈ l0_5, ok106 y_) → ∃ k, laws_FnExactWovenChart.f k a0_0 a0_1 l0_2 l0_3 a0_4 l0_5 a0_6 = some true

end Go.Proofs.Ytfibaganajembaa.X

-- QmarkInts
namespace Go.Proofs.Ytfibaganajembaa.Pure
open Go Go.RowKit Go.Proofs Go.Proofs.Ytfibaganajembaa.X Go.Proofs.YtfibaganajembaaW.PrintWords Go.Proofs.YtfibaganajembaaW.PrintLast
set_option linter.unusedVariables false
set_option linter.unusedSimpArgs false

theorem markIntS_eq {k : Nat} {l : List Int} {s : Int} (hk : l.length < k) (hl : l.length ≤ 1073741824) (hs : 0 ≤ s ∧ s ≤ 1073741824) : laws_markIntS.f k l s = some (s + 1 * l.length, markM (fun x => x) 1 l.length s) := by
  unfold laws_markIntS.f
  have h := mark_loop laws_markIntS.l0 (fun x => x) 1 l.length s (by omega)
    (fun k x i h1 h2 => by
      simp only [laws_markIntS.l0]
      rw [if_pos (by omega), if_pos (by omega)]
      rw [w64 (x := s + 1 * (i : Int) + 1) (by omega) (by omega)]
      congr 1 <;> first | (push_cast; omega) | simp)
    (fun k x m i h1 h2 => by simp only [laws_markIntS.l0]; rw [if_neg (by omega)])
    l.length k 0 l (by omega) hk rfl (by simp)
  simpa using h
theorem heldIntS_eq {k : Nat} {n : Nat} {s : Int} (hk : n < k) (hl : n ≤ 1073741824) (hs : 0 ≤ s ∧ s ≤ 1073741824) : laws_heldIntS.f k (markM (fun x => x) 1 n s) s = some (s + 1 * n) := by
  unfold laws_heldIntS.f
  have h := held_loop laws_heldIntS.l0 (fun x => x) 1 n s (by omega)
    (fun k i h1 => by
      simp only [laws_heldIntS.l0, markM_length]
      rw [if_pos (by omega), if_pos (by omega), rd_nat, markM_getD _ _ _ _ _ h1, if_pos rfl]
      rw [w64 (x := s + 1 * (i : Int) + 1) (by omega) (by omega)]
      congr 1; push_cast; omega)
    (fun k m i h1 => by simp only [laws_heldIntS.l0, markM_length]; rw [if_neg (by omega)])
    n k 0 (by omega) hk
  simpa using h

end Go.Proofs.Ytfibaganajembaa.Pure

-- Qmarkchart
namespace Go.Proofs.Ytfibaganajembaa.Pure
open Go Go.RowKit Go.Proofs Go.Proofs.Ytfibaganajembaa.X Go.Proofs.YtfibaganajembaaW.PrintWords Go.Proofs.YtfibaganajembaaW.PrintLast
set_option linter.unusedVariables false
set_option linter.unusedSimpArgs false

theorem markChart_eq {k : Nat} {l : List Int} {s : Int} (hk : l.length < k) (hl : l.length ≤ 1073741824) (hs : 0 ≤ s ∧ s ≤ 1073741824) (w h : Int) : laws_markChart.f k w h l s = some (s + 1 * (l.length : Int), markM (fun x => x) 1 l.length s) := by
  simp only [laws_markChart.f, markIntS_eq hk hl hs, Option.bind_some]

end Go.Proofs.Ytfibaganajembaa.Pure

-- QmarksDeviation
namespace Go.Proofs.Ytfibaganajembaa.Pure
open Go Go.RowKit Go.Proofs Go.Proofs.Ytfibaganajembaa.X Go.Proofs.YtfibaganajembaaW.PrintWords Go.Proofs.YtfibaganajembaaW.PrintLast
set_option linter.unusedVariables false
set_option linter.unusedSimpArgs false

def markDeviation (s : Int) : S89 := ⟨s, s + 1⟩
theorem markDeviationS_eq {k : Nat} {l : List S89} {s : Int} (hk : l.length < k) (hl : l.length ≤ 1048576) (hs : 0 ≤ s ∧ s ≤ 1073741824) : laws_markDeviationS.f k l s = some (s + 2 * (l.length : Int), markM markDeviation 2 l.length s) := by
  unfold laws_markDeviationS.f
  have h := mark_loop laws_markDeviationS.l0 markDeviation 2 l.length s (by omega)
    (fun k x i h1 h2 => by
      have hg : ∀ (y : List S89) (v : S89), y.length = l.length → (y.set i v).getD i z89 = v := by
        intro y v hy
        rw [List.getD_eq_getElem?_getD, List.getElem?_set_self (by omega)]; rfl
      simp only [laws_markDeviationS.l0, Option.bind_some, rdIDeviation_nat, Int.toNat_natCast]
      rw [if_pos (by omega), if_pos (by omega)]
      simp only [hg, List.length_set, h2, List.set_set]
      rw [w64 (x := s + 2 * (i : Int) + 1) (by omega) (by omega), w64 (x := s + 2 * (i : Int) + 1 + 1) (by omega) (by omega)]
      have e1 : markDeviation (s + 2 * (i : Int)) = ⟨s + 2 * (i : Int), s + 2 * (i : Int) + 1⟩ := by
        unfold markDeviation; congr 1 <;> omega
      have e2 : s + 2 * ((i + 1 : Nat) : Int) = s + 2 * (i : Int) + 1 + 1 := by push_cast; omega
      rw [e1, e2])
    (fun k x m i h1 h2 => by simp only [laws_markDeviationS.l0]; rw [if_neg (by omega)])
    l.length k 0 l (by omega) hk rfl (by simp)
  simpa using h

end Go.Proofs.Ytfibaganajembaa.Pure

-- Qmarkweaving
namespace Go.Proofs.Ytfibaganajembaa.Pure
open Go Go.RowKit Go.Proofs Go.Proofs.Ytfibaganajembaa.X Go.Proofs.YtfibaganajembaaW.PrintWords Go.Proofs.YtfibaganajembaaW.PrintLast
set_option linter.unusedVariables false
set_option linter.unusedSimpArgs false

theorem markWeaving_ex {k : Nat} {w h : Int} {p kn : List Int} {wf : Int} {ag : List S89} {dn : Bool} (hs : p.length + kn.length + ag.length ≤ 1048576) (hk : 1048576 < k) : ∃ r, laws_markWeaving.f k w h p kn wf ag dn 1 = some r ∧ ¬ r.1 < 0 := by
  simp only [laws_markWeaving.f, markChart_eq (k := k) (l := p) (s := 1) (by omega) (by omega) (by omega), Option.bind_some, markIntS_eq (k := k) (l := kn) (s := 1 + 1 * (p.length : Int)) (by omega) (by omega) (by omega), markDeviationS_eq (k := k) (l := ag) (s := 1 + 1 * (p.length : Int) + 1 * (kn.length : Int)) (by omega) (by omega) (by omega)]
  exact ⟨_, rfl, by simp only; omega⟩

end Go.Proofs.Ytfibaganajembaa.Pure

-- Qwovenchart
namespace Go.Proofs.Ytfibaganajembaa.Pure
open Go Go.RowKit Go.Proofs Go.Proofs.Ytfibaganajembaa.X Go.Proofs.YtfibaganajembaaW.PrintWords Go.Proofs.YtfibaganajembaaW.PrintLast
set_option linter.unusedVariables false
set_option linter.unusedSimpArgs false

def wovenChartM (w h : Int) (p kn : List Int) (wf : Int) (ag : List S89) (dn : Bool) : Int × Int × List Int × Bool := if weavingB w h p kn wf ag dn && dn then (w, h, kn, true) else (0, 0, [], false)
theorem wovenChartS_eq {k : Nat} {w h : Int} {p kn : List Int} {wf : Int} {ag : List S89} {dn : Bool} (hk : 4000000 < k) (hs : p.length + kn.length + ag.length ≤ 1048576) : spec_WovenChart.f k w h p kn wf ag dn = some (wovenChartM w h p kn wf ag dn) := by
  simp only [spec_WovenChart.f, weavingS_eq (k := k) (w := w) (h := h) (p := p) (kn := kn) (wf := wf) (ag := ag) (dn := dn) (by omega) (by omega) (by omega) (by omega), Option.bind_some, wovenChartM, spec_l1Own.f, List.length_nil, List.nil_append, Nat.zero_add, if_pos (show kn.length < 17592186044416 by omega)]
  cases weavingB w h p kn wf ag dn <;> cases dn <;> simp
theorem wovenChartI_eq {k : Nat} {w h : Int} {p kn : List Int} {wf : Int} {ag : List S89} {dn : Bool} (hk : 4000000 < k) (hs : p.length + kn.length + ag.length ≤ 1048576) : impl_WovenChart.f k w h p kn wf ag dn = some (wovenChartM w h p kn wf ag dn) := by
  simp only [impl_WovenChart.f, weavingI_eq (k := k) (w := w) (h := h) (p := p) (kn := kn) (wf := wf) (ag := ag) (dn := dn) (by omega) (by omega) (by omega) (by omega), Option.bind_some, wovenChartM, slices_Clone_int_int.f, List.length_nil, List.nil_append, Nat.zero_add, if_pos (show kn.length < 17592186044416 by omega)]
  cases weavingB w h p kn wf ag dn <;> cases dn <;> simp
theorem wovenChartM_len (w h : Int) (p kn : List Int) (wf : Int) (ag : List S89) (dn : Bool) : (wovenChartM w h p kn wf ag dn).2.2.1.length ≤ kn.length := by
  unfold wovenChartM
  split <;> simp
theorem heldChart_eq {k : Nat} {n : Nat} {s : Int} (hk : n < k) (hl : n ≤ 1073741824) (hs : 0 ≤ s ∧ s ≤ 1073741824) (w h : Int) : laws_heldChart.f k w h (markM (fun x => x) 1 n s) s = some (s + 1 * n) := by
  simp only [laws_heldChart.f, heldIntS_eq hk hl hs, Option.bind_some]
  first | rfl | (rw [if_neg (by omega)])

end Go.Proofs.Ytfibaganajembaa.Pure

-- PureFnExactWovenChart
namespace Go.Proofs.Ytfibaganajembaa.Pure
open Go Go.RowKit Go.Proofs Go.Proofs.Ytfibaganajembaa.X Go.Proofs.YtfibaganajembaaW.PrintWords Go.Proofs.YtfibaganajembaaW.PrintLast
set_option linter.unusedVariables false
set_option linter.unusedSimpArgs false

theorem FnExactWovenChart : laws_FnExactWovenChart.Pure := by
  intro w h p kn wf ag dn _ _ hp hn _ ha
  refine ⟨8000003, ?_⟩
  obtain ⟨r, hr, hor⟩ := szWeaving_ex (w := w) (h := h) (p := p) (kn := kn) (wf := wf) (ag := ag) (dn := dn) hp.1 hn.1 ha.1
  simp only [laws_FnExactWovenChart.f, hr, Option.bind_some]
  by_cases hr0 : r < 0
  · rw [if_pos hr0]
  rw [if_neg hr0]
  have hs := hor.resolve_left hr0
  have hlen : (ag.map toDeviation).length = ag.length := List.length_map _
  have hml := wovenChartM_len w h p kn wf (ag.map toDeviation) dn
  obtain ⟨m, hm, hm0⟩ := markWeaving_ex (k := 8000002) (w := w) (h := h) (p := p) (kn := kn) (wf := wf) (ag := ag.map toDeviation) (dn := dn) (by omega) (by omega)
  simp only [toWeaving_eq (k := 8000003) (w := w) (h := h) (p := p) (kn := kn) (wf := wf) (ag := ag) (dn := dn) hs (by omega), wovenChartS_eq (k := 8000003) (w := w) (h := h) (p := p) (kn := kn) (wf := wf) (ag := ag.map toDeviation) (dn := dn) (by omega) (by omega), wovenChartI_eq (k := 8000003) (w := w) (h := h) (p := p) (kn := kn) (wf := wf) (ag := ag.map toDeviation) (dn := dn) (by omega) (by omega), Option.bind_some, eqChart_refl (k := 8000003) (w := (wovenChartM w h p kn wf (ag.map toDeviation) dn).1) (h := (wovenChartM w h p kn wf (ag.map toDeviation) dn).2.1) (l := (wovenChartM w h p kn wf (ag.map toDeviation) dn).2.2.1) (by omega) (by omega), if_true, bne_self_eq_false, laws_FnExactWovenChart.j0, Bool.false_eq_true, if_false, toWeaving_eq (k := 8000002) (w := w) (h := h) (p := p) (kn := kn) (wf := wf) (ag := ag) (dn := dn) hs (by omega), eqWeaving_refl (k := 8000002) (w := w) (h := h) (p := p) (kn := kn) (wf := wf) (ag := ag.map toDeviation) (dn := dn) (by omega) (by omega), hm, eqChart_refl (k := 8000002) (w := (wovenChartM w h p kn wf (ag.map toDeviation) dn).1) (h := (wovenChartM w h p kn wf (ag.map toDeviation) dn).2.1) (l := (wovenChartM w h p kn wf (ag.map toDeviation) dn).2.2.1) (by omega) (by omega)]
  rw [if_neg hm0]
  simp only [laws_FnExactWovenChart.j1, Bool.false_eq_true, if_false, markChart_eq (k := 8000001) (l := (wovenChartM w h p kn wf (ag.map toDeviation) dn).2.2.1) (s := 1) (by omega) (by omega) (by omega), Option.bind_some, heldChart_eq (k := 8000001) (n := (wovenChartM w h p kn wf (ag.map toDeviation) dn).2.2.1.length) (s := 1) (by omega) (by omega) (by omega), if_true, toWeaving_eq (k := 8000001) (w := w) (h := h) (p := p) (kn := kn) (wf := wf) (ag := ag) (dn := dn) hs (by omega), wovenChartI_eq (k := 8000001) (w := w) (h := h) (p := p) (kn := kn) (wf := wf) (ag := ag.map toDeviation) (dn := dn) (by omega) (by omega), eqChart_refl (k := 8000001) (w := (wovenChartM w h p kn wf (ag.map toDeviation) dn).1) (h := (wovenChartM w h p kn wf (ag.map toDeviation) dn).2.1) (l := (wovenChartM w h p kn wf (ag.map toDeviation) dn).2.2.1) (by omega) (by omega), bne_self_eq_false]
  rw [if_neg (by omega)]
  simp only [laws_FnExactWovenChart.j2, Bool.false_eq_true, if_false, heldChart_eq (k := 8000000) (n := (wovenChartM w h p kn wf (ag.map toDeviation) dn).2.2.1.length) (s := 1) (by omega) (by omega) (by omega), Option.bind_some, if_true]
  rw [if_neg (by omega)]

end Go.Proofs.Ytfibaganajembaa.Pure
