/- What the law FnExactWorstRows needs, part 4 of 4: what each function of the program that it reaches returns (printed by this session's own program, checked by Lean), and plain mathematics about it. Conditions: those of each theorem. -/
import Derived.Test.YtfibaganajembaaZFnExactWorstRows2
import Derived.Test.YtfibaganajembaaYG
-- XlawsFnExactWorstRowsF8
namespace Go.Proofs.Ytfibaganajembaa.X
open Ho (bS eS)
open Go.RowKit Go.Proofs.YtfibaganajembaaW.PrintWords Go.Proofs.YtfibaganajembaaW.PrintLast Go.Proofs.YtfibaganajembaaW.PrintMore
attribute [local go_sem] max2_int min2_int max_two min_two max_three min_three max_four min_four   -- for this text's walks alone
set_option linter.unusedVariables false
set_option linter.unusedSimpArgs false

open Sq (I O Z)
attribute [local go_sem ↓] Ho.isSome_setCell_   -- a store leaves all places there
/-! ### laws_FnExactWorstRows: function 8 -/
mutual
def laws_FnExactWorstRows.j0 : Nat → List (S26) → List Int → Int → Bool → List (S32) → List Int → Int → Bool → Bool → Int → Int → List Int → Int → Int → List Int → Option (Bool)
  | 0, _, _, _, _, _, _, _, _, _, _, _, _, _, _, _ => none
  | k + 1, x1, x6, x7, x8, x10, x11, x12, x13, x63, x102000, x102001, x102002, x123000, x123001, x123002 => if x63 = true then (some false) else ((laws_toChart.f k x102000 x102001 x102002).bind fun bt132 => ((laws_eqChart.f k x123000 x123001 x123002 bt132.1 bt132.2.1 bt132.2.2).bind fun t137 => (if t137 = true then ((laws_toFlawS.f k x1).bind fun t138 => ((laws_eqFlawS.f k x10 t138).bind fun t141 => (if t141 = true then ((laws_markChart.f k x123000 x123001 x123002 1).bind fun bt142 => ((laws_markFlawS.f k x10 bt142.1).bind fun bt144 => (if bt144.1 < 0 then (laws_FnExactWorstRows.j1 k x1 x6 x7 x8 x11 true x102000 x102001 x102002) else ((laws_eqIntS.f k x11 x6).bind fun t146 => (if t146 = true then (if x12 = x7 then (laws_FnExactWorstRows.j1 k x1 x6 x7 x8 x11 (x13 != x8) x102000 x102001 x102002) else (laws_FnExactWorstRows.j1 k x1 x6 x7 x8 x11 true x102000 x102001 x102002)) else (laws_FnExactWorstRows.j1 k x1 x6 x7 x8 x11 true x102000 x102001 x102002)))))) else (some false)))) else (some false))))
def laws_FnExactWorstRows.j1 : Nat → List (S26) → List Int → Int → Bool → List Int → Bool → Int → Int → List Int → Option (Bool)
  | 0, _, _, _, _, _, _, _, _, _ => none
  | k + 1, x1, x6, x7, x8, x11, x97, x102000, x102001, x102002 => if x97 = true then (some false) else ((laws_markIntS.f k x11 1).bind fun bt147 => ((laws_heldIntS.f k bt147.2 1).bind fun t149 => (if t149 < 0 then (some false) else (if t149 = bt147.1 then ((laws_toChart.f k x102000 x102001 x102002).bind fun bt150 => ((laws_toFlawS.f k x1).bind fun t155 => ((impl_WorstRows.f k bt150.1 bt150.2.1 bt150.2.2 t155).bind fun bt158 => ((laws_eqIntS.f k bt158.1 x6).bind fun t163 => (if t163 = true then (if bt158.2.1 = x7 then (laws_FnExactWorstRows.j2 k bt147.2 bt147.1 (bt158.2.2 != x8)) else (laws_FnExactWorstRows.j2 k bt147.2 bt147.1 true)) else (laws_FnExactWorstRows.j2 k bt147.2 bt147.1 true)))))) else (some false)))))
def laws_FnExactWorstRows.j2 : Nat → List Int → Int → Bool → Option (Bool)
  | 0, _, _, _ => none
  | k + 1, x11, x15, x131 => if x131 = true then (some false) else ((laws_heldIntS.f k x11 1).bind fun t164 => (if t164 < 0 then (some false) else (if t164 = x15 then (some true) else (some false))))
end
def laws_FnExactWorstRows.f (k : Nat) (a0_0 : Int) (a0_1 : Int) (l0_2 : List Int) (l1 : List (S26)) : Option (Bool) := (laws_szChart.f a0_0 a0_1 l0_2 1048576).bind fun t102 => (if t102 < 0 then (some true) else ((laws_szFlawS.f l1 t102).bind fun t103 => (if t103 < 0 then (some true) else ((laws_toChart.f k a0_0 a0_1 l0_2).bind fun bt104 => ((laws_toFlawS.f k l1).bind fun t109 => ((spec_WorstRows.f k bt104.1 bt104.2.1 bt104.2.2 t109).bind fun bt112 => ((laws_toChart.f k a0_0 a0_1 l0_2).bind fun bt117 => ((laws_toFlawS.f k l1).bind fun t123 => ((impl_WorstRows.f k bt117.1 bt117.2.1 bt117.2.2 t123).bind fun bt126 => ((laws_eqIntS.f k bt126.1 bt112.1).bind fun t131 => (if t131 = true then (if bt126.2.1 = bt112.2.1 then (laws_FnExactWorstRows.j0 k l1 bt112.1 bt112.2.1 bt112.2.2 t123 bt126.1 bt126.2.1 bt126.2.2 (bt126.2.2 != bt112.2.2) a0_0 a0_1 l0_2 bt117.1 bt117.2.1 bt117.2.2) else (laws_FnExactWorstRows.j0 k l1 bt112.1 bt112.2.1 bt112.2.2 t123 bt126.1 bt126.2.1 bt126.2.2 true a0_0 a0_1 l0_2 bt117.1 bt117.2.1 bt117.2.2)) else (laws_FnExactWorstRows.j0 k l1 bt112.1 bt112.2.1 bt112.2.2 t123 bt126.1 bt126.2.1 bt126.2.2 true a0_0 a0_1 l0_2 bt117.1 bt117.2.1 bt117.2.2))))))))))))
theorem laws_FnExactWorstRows.mono_l : ∀ k, (∀ y0 y1 y2 y3 y4 y5 y6 y7 y8 y9 y10 y11 y12 y13 y14, LeO (laws_FnExactWorstRows.j0 k y0 y1 y2 y3 y4 y5 y6 y7 y8 y9 y10 y11 y12 y13 y14) (laws_FnExactWorstRows.j0 (k + 1) y0 y1 y2 y3 y4 y5 y6 y7 y8 y9 y10 y11 y12 y13 y14)) ∧ (∀ y0 y1 y2 y3 y4 y5 y6 y7 y8, LeO (laws_FnExactWorstRows.j1 k y0 y1 y2 y3 y4 y5 y6 y7 y8) (laws_FnExactWorstRows.j1 (k + 1) y0 y1 y2 y3 y4 y5 y6 y7 y8)) ∧ (∀ y0 y1 y2, LeO (laws_FnExactWorstRows.j2 k y0 y1 y2) (laws_FnExactWorstRows.j2 (k + 1) y0 y1 y2))
  | 0 => ⟨fun _ _ _ _ _ _ _ _ _ _ _ _ _ _ _ r h => by simp [laws_FnExactWorstRows.j0] at h, fun _ _ _ _ _ _ _ _ _ r h => by simp [laws_FnExactWorstRows.j1] at h, fun _ _ _ r h => by simp [laws_FnExactWorstRows.j2] at h⟩
  | k + 1 => by
    obtain ⟨ih0, ih1, ih2⟩ := laws_FnExactWorstRows.mono_l k
    refine ⟨?_, ?_, ?_⟩
    · intro y0 y1 y2 y3 y4 y5 y6 y7 y8 y9 y10 y11 y12 y13 y14
      unfold laws_FnExactWorstRows.j0
      repeat' first
      | (with_reducible exact ih0 _ _ _ _ _ _ _ _ _ _ _ _ _ _ _)
      | (with_reducible exact ih1 _ _ _ _ _ _ _ _ _)
      | (with_reducible exact ih2 _ _ _)
      | (with_reducible exact impl_WorstRows.mono _ _ _ _ _)
      | (with_reducible exact laws_eqChart.mono _ _ _ _ _ _ _)
      | (with_reducible exact laws_eqFlawS.mono _ _ _)
      | (with_reducible exact laws_eqIntS.mono _ _ _)
      | (with_reducible exact laws_heldIntS.mono _ _ _)
      | (with_reducible exact laws_markChart.mono _ _ _ _ _)
      | (with_reducible exact laws_markFlawS.mono _ _ _)
      | (with_reducible exact laws_markIntS.mono _ _ _)
      | (with_reducible exact laws_toChart.mono _ _ _ _)
      | (with_reducible exact laws_toFlawS.mono _ _)
      | (with_reducible exact spec_WorstRows.mono _ _ _ _ _)
      | (with_reducible exact LeO.refl _)
      | (with_reducible exact LeO.none _)
      | (with_reducible refine LeO.ite ?_ ?_)
      | (with_reducible refine LeO.bind ?_ (fun _ => ?_))
      | exact ih0 _ _ _ _ _ _ _ _ _ _ _ _ _ _ _
      | exact ih1 _ _ _ _ _ _ _ _ _
      | exact ih2 _ _ _
      | exact impl_WorstRows.mono _ _ _ _ _
      | exact laws_eqChart.mono _ _ _ _ _ _ _
      | exact laws_eqFlawS.mono _ _ _
      | exact laws_eqIntS.mono _ _ _
      | exact laws_heldIntS.mono _ _ _
      | exact laws_markChart.mono _ _ _ _ _
      | exact laws_markFlawS.mono _ _ _
      | exact laws_markIntS.mono _ _ _
      | exact laws_toChart.mono _ _ _ _
      | exact laws_toFlawS.mono _ _
      | exact spec_WorstRows.mono _ _ _ _ _
      | exact LeO.none _
      | refine LeO.ite ?_ ?_
      | refine LeO.bind ?_ (fun _ => ?_)
    · intro y0 y1 y2 y3 y4 y5 y6 y7 y8
      unfold laws_FnExactWorstRows.j1
      repeat' first
      | (with_reducible exact ih0 _ _ _ _ _ _ _ _ _ _ _ _ _ _ _)
      | (with_reducible exact ih1 _ _ _ _ _ _ _ _ _)
      | (with_reducible exact ih2 _ _ _)
      | (with_reducible exact impl_WorstRows.mono _ _ _ _ _)
      | (with_reducible exact laws_eqChart.mono _ _ _ _ _ _ _)
      | (with_reducible exact laws_eqFlawS.mono _ _ _)
      | (with_reducible exact laws_eqIntS.mono _ _ _)
      | (with_reducible exact laws_heldIntS.mono _ _ _)
      | (with_reducible exact laws_markChart.mono _ _ _ _ _)
      | (with_reducible exact laws_markFlawS.mono _ _ _)
      | (with_reducible exact laws_markIntS.mono _ _ _)
      | (with_reducible exact laws_toChart.mono _ _ _ _)
      | (with_reducible exact laws_toFlawS.mono _ _)
      | (with_reducible exact spec_WorstRows.mono _ _ _ _ _)
      | (with_reducible exact LeO.refl _)
      | (with_reducible exact LeO.none _)
      | (with_reducible refine LeO.ite ?_ ?_)
      | (with_reducible refine LeO.bind ?_ (fun _ => ?_))
      | exact ih0 _ _ _ _ _ _ _ _ _ _ _ _ _ _ _
      | exact ih1 _ _ _ _ _ _ _ _ _
      | exact ih2 _ _ _
      | exact impl_WorstRows.mono _ _ _ _ _
      | exact laws_eqChart.mono _ _ _ _ _ _ _
      | exact laws_eqFlawS.mono _ _ _
      | exact laws_eqIntS.mono _ _ _
      | exact laws_heldIntS.mono _ _ _
      | exact laws_markChart.mono _ _ _ _ _
      | exact laws_markFlawS.mono _ _ _
      | exact laws_markIntS.mono _ _ _
      | exact laws_toChart.mono _ _ _ _
      | exact laws_toFlawS.mono _ _
      | exact spec_WorstRows.mono _ _ _ _ _
      | exact LeO.none _
      | refine LeO.ite ?_ ?_
      | refine LeO.bind ?_ (fun _ => ?_)
    · intro y0 y1 y2
      unfold laws_FnExactWorstRows.j2
      repeat' first
      | (with_reducible exact ih0 _ _ _ _ _ _ _ _ _ _ _ _ _ _ _)
      | (with_reducible exact ih1 _ _ _ _ _ _ _ _ _)
      | (with_reducible exact ih2 _ _ _)
      | (with_reducible exact impl_WorstRows.mono _ _ _ _ _)
      | (with_reducible exact laws_eqChart.mono _ _ _ _ _ _ _)
      | (with_reducible exact laws_eqFlawS.mono _ _ _)
      | (with_reducible exact laws_eqIntS.mono _ _ _)
      | (with_reducible exact laws_heldIntS.mono _ _ _)
      | (with_reducible exact laws_markChart.mono _ _ _ _ _)
      | (with_reducible exact laws_markFlawS.mono _ _ _)
      | (with_reducible exact laws_markIntS.mono _ _ _)
      | (with_reducible exact laws_toChart.mono _ _ _ _)
      | (with_reducible exact laws_toFlawS.mono _ _)
      | (with_reducible exact spec_WorstRows.mono _ _ _ _ _)
      | (with_reducible exact LeO.refl _)
      | (with_reducible exact LeO.none _)
      | (with_reducible refine LeO.ite ?_ ?_)
      | (with_reducible refine LeO.bind ?_ (fun _ => ?_))
      | exact ih0 _ _ _ _ _ _ _ _ _ _ _ _ _ _ _
      | exact ih1 _ _ _ _ _ _ _ _ _
      | exact ih2 _ _ _
      | exact impl_WorstRows.mono _ _ _ _ _
      | exact laws_eqChart.mono _ _ _ _ _ _ _
      | exact laws_eqFlawS.mono _ _ _
      | exact laws_eqIntS.mono _ _ _
      | exact laws_heldIntS.mono _ _ _
      | exact laws_markChart.mono _ _ _ _ _
      | exact laws_markFlawS.mono _ _ _
      | exact laws_markIntS.mono _ _ _
      | exact laws_toChart.mono _ _ _ _
      | exact laws_toFlawS.mono _ _
      | exact spec_WorstRows.mono _ _ _ _ _
      | exact LeO.none _
      | refine LeO.ite ?_ ?_
      | refine LeO.bind ?_ (fun _ => ?_)
theorem laws_FnExactWorstRows.mono : ∀ a0 a1 a2 a3 k, LeO (laws_FnExactWorstRows.f k a0 a1 a2 a3) (laws_FnExactWorstRows.f (k + 1) a0 a1 a2 a3) := by
  intro a0 a1 a2 a3 k
  obtain ⟨ih0, ih1, ih2⟩ := laws_FnExactWorstRows.mono_l k
  unfold laws_FnExactWorstRows.f
  repeat' first
      | (with_reducible exact ih0 _ _ _ _ _ _ _ _ _ _ _ _ _ _ _)
      | (with_reducible exact ih1 _ _ _ _ _ _ _ _ _)
      | (with_reducible exact ih2 _ _ _)
      | (with_reducible exact impl_WorstRows.mono _ _ _ _ _)
      | (with_reducible exact laws_eqChart.mono _ _ _ _ _ _ _)
      | (with_reducible exact laws_eqFlawS.mono _ _ _)
      | (with_reducible exact laws_eqIntS.mono _ _ _)
      | (with_reducible exact laws_heldIntS.mono _ _ _)
      | (with_reducible exact laws_markChart.mono _ _ _ _ _)
      | (with_reducible exact laws_markFlawS.mono _ _ _)
      | (with_reducible exact laws_markIntS.mono _ _ _)
      | (with_reducible exact laws_toChart.mono _ _ _ _)
      | (with_reducible exact laws_toFlawS.mono _ _)
      | (with_reducible exact spec_WorstRows.mono _ _ _ _ _)
      | (with_reducible exact LeO.refl _)
      | (with_reducible exact LeO.none _)
      | (with_reducible refine LeO.ite ?_ ?_)
      | (with_reducible refine LeO.bind ?_ (fun _ => ?_))
      | exact ih0 _ _ _ _ _ _ _ _ _ _ _ _ _ _ _
      | exact ih1 _ _ _ _ _ _ _ _ _
      | exact ih2 _ _ _
      | exact impl_WorstRows.mono _ _ _ _ _
      | exact laws_eqChart.mono _ _ _ _ _ _ _
      | exact laws_eqFlawS.mono _ _ _
      | exact laws_eqIntS.mono _ _ _
      | exact laws_heldIntS.mono _ _ _
      | exact laws_markChart.mono _ _ _ _ _
      | exact laws_markFlawS.mono _ _ _
      | exact laws_markIntS.mono _ _ _
      | exact laws_toChart.mono _ _ _ _
      | exact laws_toFlawS.mono _ _
      | exact spec_WorstRows.mono _ _ _ _ _
      | exact LeO.none _
      | refine LeO.ite ?_ ?_
      | refine LeO.bind ?_ (fun _ => ?_)
set_option maxHeartbeats 8000000 in
set_option maxRecDepth 100000 in
theorem laws_FnExactWorstRows.calls (k : Nat) (a0_0 : Int) (a0_1 : Int) (A0_2 : Option Addr) (c0_2 : Nat) (l0_2 : List Int) (A1 : Option Addr) (c1 : Nat) (l1 : List (S26)) (r : Bool) (w : World) (hr0_2 : Kd.C (Kd.int .i64) w A0_2 l0_2.length l0_2) (hc0_2 : l0_2.length ≤ c0_2) (hr1 : Kd.C k26 w A1 l1.length l1) (hc1 : l1.length ≤ c1) (ht : r = true) (h : laws_FnExactWorstRows.f k a0_0 a0_1 l0_2 l1 = some r) :
  Calls Try.prog 8 #[.agg #[.int .i64 a0_0, .int .i64 a0_1, .slice A0_2 l0_2.length c0_2], .slice A1 l1.length c1] w fun e w' => e = .returned (.bool r) ∧ Below w.heap.size w w' := by
 have hu24 := Try.underlying24
 have hu30 := Try.underlying30
 have HR0_2 := Aside0.mk hr0_2
 have HC0_2 := Aside0.mk hc0_2
 clear hr0_2 hc0_2
 have HR1 := Aside0.mk hr1
 have HC1 := Aside0.mk hc1
 clear hr1 hc1
 have HB := Aside0.mk (Below.refl w.heap.size w)
 have HT := Aside0.mk ht
 clear ht
 have H : ((laws_szChart.f a0_0 a0_1 l0_2 1048576).bind fun t102 => (if t102 < 0 then (some true) else ((laws_szFlawS.f l1 t102).bind fun t103 => (if t103 < 0 then (some true) else ((laws_toChart.f k a0_0 a0_1 l0_2).bind fun bt104 => ((laws_toFlawS.f k l1).bind fun t109 => ((spec_WorstRows.f k bt104.1 bt104.2.1 bt104.2.2 t109).bind fun bt112 => ((laws_toChart.f k a0_0 a0_1 l0_2).bind fun bt117 => ((laws_toFlawS.f k l1).bind fun t123 => ((impl_WorstRows.f k bt117.1 bt117.2.1 bt117.2.2 t123).bind fun bt126 => ((laws_eqIntS.f k bt126.1 bt112.1).bind fun t131 => (if t131 = true then (if bt126.2.1 = bt112.2.1 then (laws_FnExactWorstRows.j0 k l1 bt112.1 bt112.2.1 bt112.2.2 t123 bt126.1 bt126.2.1 bt126.2.2 (bt126.2.2 != bt112.2.2) a0_0 a0_1 l0_2 bt117.1 bt117.2.1 bt117.2.2) else (laws_FnExactWorstRows.j0 k l1 bt112.1 bt112.2.1 bt112.2.2 t123 bt126.1 bt126.2.1 bt126.2.2 true a0_0 a0_1 l0_2 bt117.1 bt117.2.1 bt117.2.2)) else (laws_FnExactWorstRows.j0 k l1 bt112.1 bt112.2.1 bt112.2.2 t123 bt126.1 bt126.2.1 bt126.2.2 true a0_0 a0_1 l0_2 bt117.1 bt117.2.1 bt117.2.2))))))))))))) = some r := h
 clear h
 replace H := Option.bind_eq_some_iff.mp H
 obtain ⟨t102, A30, H⟩ := H
 replace H : (if t102 < 0 then (some true) else ((laws_szFlawS.f l1 t102).bind fun t103 => (if t103 < 0 then (some true) else ((laws_toChart.f k a0_0 a0_1 l0_2).bind fun bt104 => ((laws_toFlawS.f k l1).bind fun t109 => ((spec_WorstRows.f k bt104.1 bt104.2.1 bt104.2.2 t109).bind fun bt112 => ((laws_toChart.f k a0_0 a0_1 l0_2).bind fun bt117 => ((laws_toFlawS.f k l1).bind fun t123 => ((impl_WorstRows.f k bt117.1 bt117.2.1 bt117.2.2 t123).bind fun bt126 => ((laws_eqIntS.f k bt126.1 bt112.1).bind fun t131 => (if t131 = true then (if bt126.2.1 = bt112.2.1 then (laws_FnExactWorstRows.j0 k l1 bt112.1 bt112.2.1 bt112.2.2 t123 bt126.1 bt126.2.1 bt126.2.2 (bt126.2.2 != bt112.2.2) a0_0 a0_1 l0_2 bt117.1 bt117.2.1 bt117.2.2) else (laws_FnExactWorstRows.j0 k l1 bt112.1 bt112.2.1 bt112.2.2 t123 bt126.1 bt126.2.1 bt126.2.2 true a0_0 a0_1 l0_2 bt117.1 bt117.2.1 bt117.2.2)) else (laws_FnExactWorstRows.j0 k l1 bt112.1 bt112.2.1 bt112.2.2 t123 bt126.1 bt126.2.1 bt126.2.2 true a0_0 a0_1 l0_2 bt117.1 bt117.2.1 bt117.2.2)))))))))))) = some r := H
 have A3 := Aside0.mk A30
 clear A30
 by_cases c4 : t102 < 0
 ·rw [if_pos c4] at H
  have c4b0 : decide (t102 < 0) = true := decide_eq_true c4
  clear c4
  as_aux_lemma =>
   obtain rfl := Option.some.inj H
   go_enter Try.func8, Try.ntmps8
   go_wp2_with (first | ((with_reducible refine gate_dst (N := 2) rfl ?_); refine box_event ?hg (N := 2) ?hd (cs := #[.int .i64 a0_0, .int .i64 a0_1, .slice A0_2 l0_2.length c0_2]) (t := 24) ?hr ?_; (case hd => rfl); (case hg => rfl); (case hr => first | (go_simp; done) | (go_simp; rfl)); intro gb101 hg w5 hbox hb; have n0_ := Aside0.mk (below_step (by exact eS HB.out) hb); have n1_ := Aside0.mk (hbox); have n2_ := Aside0.mk ((by rw [hg]; exact (below_size (by exact eS HB.out)) : w.heap.size ≤ gb101)); have n3_ := Aside0.mk ((by rw [hg]; exact (below_size (by exact eS HB.out)) : w.heap.size ≤ gb101)); clear HB; have HB := n0_; have BK101 := n1_; have GW101 := n2_; have GE101 := n3_; clear n0_ n1_ n2_ n3_; clear hb hbox hg; have hcz6_0 : w5.cell? ⟨gb101, 0, none⟩ = some (.int .i64 a0_0) := (blk_cell BK101.out 0).trans rfl; have hcz6_1 : w5.cell? ⟨gb101, 1, none⟩ = some (.int .i64 a0_1) := (blk_cell BK101.out 1).trans rfl; have hcz6_2 : w5.cell? ⟨gb101, 2, none⟩ = some (.slice A0_2 l0_2.length c0_2) := (blk_cell BK101.out 2).trans rfl; have hfz6_0 := blk_frozen BK101.out 0; have hfz6_1 := blk_frozen BK101.out 1; have hfz6_2 := blk_frozen BK101.out 2) | ((with_reducible refine gate_callee (f := 14) rfl ?_); refine goesL_ (some 22) rfl rfl Try.func14 (by kernel_rfl) rfl #[.agg #[.int .i64 a0_0, .int .i64 a0_1, .slice A0_2 l0_2.length c0_2], .int .i64 1048576] rfl (by (try simp only [List.map_toArray, List.map_cons, List.map_nil]); first | done | rfl | (simp only [List.length_drop, List.length_take]; rfl)) ?_; (with_reducible refine (laws_szChart.calls a0_0 a0_1 _ _ l0_2 1048576 t102 _ ?side1 ?side2 A3.out).mono ?_); (case side1 => repeat (first | exact (Kd.C_below HR0_2.out HB.out) | (with_reducible refine Kd.C_alloc ?_ _) | (with_reducible refine Kd.C_drewN ?_ _) | (with_reducible refine Kd.C_drew ?_))); (case side2 => exact HC0_2.out); rintro e w7 ⟨rfl, hb⟩; refine ⟨_, rfl, ?_⟩; have n0_ := Aside0.mk (blk_below (bS BK101.out) hb); have n1_ := Aside0.mk (below_step (by exact eS HB.out) hb); clear BK101; clear HB; have BK101 := n0_; have HB := n1_; clear n0_ n1_; (try clear hb); (try clear hb2); (try clear hk); (try clear hi)))
   go_ret
   exact ⟨by first | rfl | (simp [errW_none, errW_some] <;> rfl) | (simp [*, errW_none, errW_some] <;> rfl), by exact eS HB.out⟩
 ·rw [if_neg c4] at H
  have c4b0 : decide (t102 < 0) = false := decide_eq_false c4
  clear c4
  replace H := Option.bind_eq_some_iff.mp H
  obtain ⟨t103, A80, H⟩ := H
  replace H : (if t103 < 0 then (some true) else ((laws_toChart.f k a0_0 a0_1 l0_2).bind fun bt104 => ((laws_toFlawS.f k l1).bind fun t109 => ((spec_WorstRows.f k bt104.1 bt104.2.1 bt104.2.2 t109).bind fun bt112 => ((laws_toChart.f k a0_0 a0_1 l0_2).bind fun bt117 => ((laws_toFlawS.f k l1).bind fun t123 => ((impl_WorstRows.f k bt117.1 bt117.2.1 bt117.2.2 t123).bind fun bt126 => ((laws_eqIntS.f k bt126.1 bt112.1).bind fun t131 => (if t131 = true then (if bt126.2.1 = bt112.2.1 then (laws_FnExactWorstRows.j0 k l1 bt112.1 bt112.2.1 bt112.2.2 t123 bt126.1 bt126.2.1 bt126.2.2 (bt126.2.2 != bt112.2.2) a0_0 a0_1 l0_2 bt117.1 bt117.2.1 bt117.2.2) else (laws_FnExactWorstRows.j0 k l1 bt112.1 bt112.2.1 bt112.2.2 t123 bt126.1 bt126.2.1 bt126.2.2 true a0_0 a0_1 l0_2 bt117.1 bt117.2.1 bt117.2.2)) else (laws_FnExactWorstRows.j0 k l1 bt112.1 bt112.2.1 bt112.2.2 t123 bt126.1 bt126.2.1 bt126.2.2 true a0_0 a0_1 l0_2 bt117.1 bt117.2.1 bt117.2.2)))))))))) = some r := H
  have A8 := Aside0.mk A80
  clear A80
  by_cases c9 : t103 < 0
  ·rw [if_pos c9] at H
   have c9b0 : decide (t103 < 0) = true := decide_eq_true c9
   clear c9
   as_aux_lemma =>
    obtain rfl := Option.some.inj H
    go_enter Try.func8, Try.ntmps8
    go_wp2_with (first | ((with_reducible refine gate_dst (N := 2) rfl ?_); refine box_event ?hg (N := 2) ?hd (cs := #[.int .i64 a0_0, .int .i64 a0_1, .slice A0_2 l0_2.length c0_2]) (t := 24) ?hr ?_; (case hd => rfl); (case hg => rfl); (case hr => first | (go_simp; done) | (go_simp; rfl)); intro gb101 hg w10 hbox hb; have n0_ := Aside0.mk (below_step (by exact eS HB.out) hb); have n1_ := Aside0.mk (hbox); have n2_ := Aside0.mk ((by rw [hg]; exact (below_size (by exact eS HB.out)) : w.heap.size ≤ gb101)); have n3_ := Aside0.mk ((by rw [hg]; exact (below_size (by exact eS HB.out)) : w.heap.size ≤ gb101)); clear HB; have HB := n0_; have BK101 := n1_; have GW101 := n2_; have GE101 := n3_; clear n0_ n1_ n2_ n3_; clear hb hbox hg; have hcz11_0 : w10.cell? ⟨gb101, 0, none⟩ = some (.int .i64 a0_0) := (blk_cell BK101.out 0).trans rfl; have hcz11_1 : w10.cell? ⟨gb101, 1, none⟩ = some (.int .i64 a0_1) := (blk_cell BK101.out 1).trans rfl; have hcz11_2 : w10.cell? ⟨gb101, 2, none⟩ = some (.slice A0_2 l0_2.length c0_2) := (blk_cell BK101.out 2).trans rfl; have hfz11_0 := blk_frozen BK101.out 0; have hfz11_1 := blk_frozen BK101.out 1; have hfz11_2 := blk_frozen BK101.out 2) | ((with_reducible refine gate_callee (f := 14) rfl ?_); refine goesL_ (some 22) rfl rfl Try.func14 (by kernel_rfl) rfl #[.agg #[.int .i64 a0_0, .int .i64 a0_1, .slice A0_2 l0_2.length c0_2], .int .i64 1048576] rfl (by (try simp only [List.map_toArray, List.map_cons, List.map_nil]); first | done | rfl | (simp only [List.length_drop, List.length_take]; rfl)) ?_; (with_reducible refine (laws_szChart.calls a0_0 a0_1 _ _ l0_2 1048576 t102 _ ?side1 ?side2 A3.out).mono ?_); (case side1 => repeat (first | exact (Kd.C_below HR0_2.out HB.out) | (with_reducible refine Kd.C_alloc ?_ _) | (with_reducible refine Kd.C_drewN ?_ _) | (with_reducible refine Kd.C_drew ?_))); (case side2 => exact HC0_2.out); rintro e w12 ⟨rfl, hb⟩; refine ⟨_, rfl, ?_⟩; have n0_ := Aside0.mk (blk_below (bS BK101.out) hb); have n1_ := Aside0.mk (below_step (by exact eS HB.out) hb); clear BK101; clear HB; have BK101 := n0_; have HB := n1_; clear n0_ n1_; (try clear hb); (try clear hb2); (try clear hk); (try clear hi)) | ((with_reducible refine gate_callee (f := 20) rfl ?_); refine goesL_ (some 27) rfl rfl Try.func20 (by kernel_rfl) rfl #[.slice A1 l1.length c1, .int .i64 t102] rfl (by (try simp only [List.map_toArray, List.map_cons, List.map_nil]); first | done | rfl | (simp only [List.length_drop, List.length_take]; rfl)) ?_; (with_reducible refine (laws_szFlawS.calls _ _ l1 t102 t103 _ ?side1 ?side2 A8.out).mono ?_); (case side1 => repeat (first | exact (Kd.C_below HR1.out HB.out) | (with_reducible refine Kd.C_alloc ?_ _) | (with_reducible refine Kd.C_drewN ?_ _) | (with_reducible refine Kd.C_drew ?_))); (case side2 => exact HC1.out); rintro e w' ⟨rfl, ⟨nd, rfl⟩⟩; refine ⟨_, rfl, ?_⟩))
    go_ret
    exact ⟨by first | rfl | (simp [errW_none, errW_some] <;> rfl) | (simp [*, errW_none, errW_some] <;> rfl), by exact eS HB.out⟩
  ·rw [if_neg c9] at H
   have c9b0 : decide (t103 < 0) = false := decide_eq_false c9
   clear c9
   replace H := Option.bind_eq_some_iff.mp H
   obtain ⟨⟨t104, t105, t106⟩, A130, H⟩ := H
   replace H : ((laws_toFlawS.f k l1).bind fun t109 => ((spec_WorstRows.f k t104 t105 t106 t109).bind fun bt112 => ((laws_toChart.f k a0_0 a0_1 l0_2).bind fun bt117 => ((laws_toFlawS.f k l1).bind fun t123 => ((impl_WorstRows.f k bt117.1 bt117.2.1 bt117.2.2 t123).bind fun bt126 => ((laws_eqIntS.f k bt126.1 bt112.1).bind fun t131 => (if t131 = true then (if bt126.2.1 = bt112.2.1 then (laws_FnExactWorstRows.j0 k l1 bt112.1 bt112.2.1 bt112.2.2 t123 bt126.1 bt126.2.1 bt126.2.2 (bt126.2.2 != bt112.2.2) a0_0 a0_1 l0_2 bt117.1 bt117.2.1 bt117.2.2) else (laws_FnExactWorstRows.j0 k l1 bt112.1 bt112.2.1 bt112.2.2 t123 bt126.1 bt126.2.1 bt126.2.2 true a0_0 a0_1 l0_2 bt117.1 bt117.2.1 bt117.2.2)) else (laws_FnExactWorstRows.j0 k l1 bt112.1 bt112.2.1 bt112.2.2 t123 bt126.1 bt126.2.1 bt126.2.2 true a0_0 a0_1 l0_2 bt117.1 bt117.2.1 bt117.2.2)))))))) = some r := H
   have A13 := Aside0.mk A130
   clear A130
   replace H := Option.bind_eq_some_iff.mp H
   obtain ⟨t109, A140, H⟩ := H
   replace H : ((spec_WorstRows.f k t104 t105 t106 t109).bind fun bt112 => ((laws_toChart.f k a0_0 a0_1 l0_2).bind fun bt117 => ((laws_toFlawS.f k l1).bind fun t123 => ((impl_WorstRows.f k bt117.1 bt117.2.1 bt117.2.2 t123).bind fun bt126 => ((laws_eqIntS.f k bt126.1 bt112.1).bind fun t131 => (if t131 = true then (if bt126.2.1 = bt112.2.1 then (laws_FnExactWorstRows.j0 k l1 bt112.1 bt112.2.1 bt112.2.2 t123 bt126.1 bt126.2.1 bt126.2.2 (bt126.2.2 != bt112.2.2) a0_0 a0_1 l0_2 bt117.1 bt117.2.1 bt117.2.2) else (laws_FnExactWorstRows.j0 k l1 bt112.1 bt112.2.1 bt112.2.2 t123 bt126.1 bt126.2.1 bt126.2.2 true a0_0 a0_1 l0_2 bt117.1 bt117.2.1 bt117.2.2)) else (laws_FnExactWorstRows.j0 k l1 bt112.1 bt112.2.1 bt112.2.2 t123 bt126.1 bt126.2.1 bt126.2.2 true a0_0 a0_1 l0_2 bt117.1 bt117.2.1 bt117.2.2))))))) = some r := H
   have A14 := Aside0.mk A140
   clear A140
   replace H := Option.bind_eq_some_iff.mp H
   obtain ⟨⟨t112, t115, t116⟩, A150, H⟩ := H
   replace H : ((laws_toChart.f k a0_0 a0_1 l0_2).bind fun bt117 => ((laws_toFlawS.f k l1).bind fun t123 => ((impl_WorstRows.f k bt117.1 bt117.2.1 bt117.2.2 t123).bind fun bt126 => ((laws_eqIntS.f k bt126.1 t112).bind fun t131 => (if t131 = true then (if bt126.2.1 = t115 then (laws_FnExactWorstRows.j0 k l1 t112 t115 t116 t123 bt126.1 bt126.2.1 bt126.2.2 (bt126.2.2 != t116) a0_0 a0_1 l0_2 bt117.1 bt117.2.1 bt117.2.2) else (laws_FnExactWorstRows.j0 k l1 t112 t115 t116 t123 bt126.1 bt126.2.1 bt126.2.2 true a0_0 a0_1 l0_2 bt117.1 bt117.2.1 bt117.2.2)) else (laws_FnExactWorstRows.j0 k l1 t112 t115 t116 t123 bt126.1 bt126.2.1 bt126.2.2 true a0_0 a0_1 l0_2 bt117.1 bt117.2.1 bt117.2.2)))))) = some r := H
   have A15 := Aside0.mk A150
   clear A150
   replace H := Option.bind_eq_some_iff.mp H
   obtain ⟨⟨t117, t118, t119⟩, A160, H⟩ := H
   replace H : ((laws_toFlawS.f k l1).bind fun t123 => ((impl_WorstRows.f k t117 t118 t119 t123).bind fun bt126 => ((laws_eqIntS.f k bt126.1 t112).bind fun t131 => (if t131 = true then (if bt126.2.1 = t115 then (laws_FnExactWorstRows.j0 k l1 t112 t115 t116 t123 bt126.1 bt126.2.1 bt126.2.2 (bt126.2.2 != t116) a0_0 a0_1 l0_2 t117 t118 t119) else (laws_FnExactWorstRows.j0 k l1 t112 t115 t116 t123 bt126.1 bt126.2.1 bt126.2.2 true a0_0 a0_1 l0_2 t117 t118 t119)) else (laws_FnExactWorstRows.j0 k l1 t112 t115 t116 t123 bt126.1 bt126.2.1 bt126.2.2 true a0_0 a0_1 l0_2 t117 t118 t119))))) = some r := H
   have A16 := Aside0.mk A160
   clear A160
   replace H := Option.bind_eq_some_iff.mp H
   obtain ⟨t123, A170, H⟩ := H
   replace H : ((impl_WorstRows.f k t117 t118 t119 t123).bind fun bt126 => ((laws_eqIntS.f k bt126.1 t112).bind fun t131 => (if t131 = true then (if bt126.2.1 = t115 then (laws_FnExactWorstRows.j0 k l1 t112 t115 t116 t123 bt126.1 bt126.2.1 bt126.2.2 (bt126.2.2 != t116) a0_0 a0_1 l0_2 t117 t118 t119) else (laws_FnExactWorstRows.j0 k l1 t112 t115 t116 t123 bt126.1 bt126.2.1 bt126.2.2 true a0_0 a0_1 l0_2 t117 t118 t119)) else (laws_FnExactWorstRows.j0 k l1 t112 t115 t116 t123 bt126.1 bt126.2.1 bt126.2.2 true a0_0 a0_1 l0_2 t117 t118 t119)))) = some r := H
   have A17 := Aside0.mk A170
   clear A170
   replace H := Option.bind_eq_some_iff.mp H
   obtain ⟨⟨t126, t129, t130⟩, A180, H⟩ := H
   replace H : ((laws_eqIntS.f k t126 t112).bind fun t131 => (if t131 = true then (if t129 = t115 then (laws_FnExactWorstRows.j0 k l1 t112 t115 t116 t123 t126 t129 t130 (t130 != t116) a0_0 a0_1 l0_2 t117 t118 t119) else (laws_FnExactWorstRows.j0 k l1 t112 t115 t116 t123 t126 t129 t130 true a0_0 a0_1 l0_2 t117 t118 t119)) else (laws_FnExactWorstRows.j0 k l1 t112 t115 t116 t123 t126 t129 t130 true a0_0 a0_1 l0_2 t117 t118 t119))) = some r := H
   have A18 := Aside0.mk A180
   clear A180
   have HC19 := Aside0.mk H
   clear H
   go_enter Try.func8, Try.ntmps8
   go_upto_region 12 with (first | ((with_reducible refine gate_dst (N := 2) rfl ?_); refine box_event ?hg (N := 2) ?hd (cs := #[.int .i64 a0_0, .int .i64 a0_1, .slice A0_2 l0_2.length c0_2]) (t := 24) ?hr ?_; (case hd => rfl); (case hg => rfl); (case hr => first | (go_simp; done) | (go_simp; rfl)); intro gb101 hg w20 hbox hb; have n0_ := Aside0.mk (below_step (by exact eS HB.out) hb); have n1_ := Aside0.mk (hbox); have n2_ := Aside0.mk ((by rw [hg]; exact (below_size (by exact eS HB.out)) : w.heap.size ≤ gb101)); have n3_ := Aside0.mk ((by rw [hg]; exact (below_size (by exact eS HB.out)) : w.heap.size ≤ gb101)); clear HB; have HB := n0_; have BK101 := n1_; have GW101 := n2_; have GE101 := n3_; clear n0_ n1_ n2_ n3_; clear hb hbox hg; have hcz21_0 : w20.cell? ⟨gb101, 0, none⟩ = some (.int .i64 a0_0) := (blk_cell BK101.out 0).trans rfl; have hcz21_1 : w20.cell? ⟨gb101, 1, none⟩ = some (.int .i64 a0_1) := (blk_cell BK101.out 1).trans rfl; have hcz21_2 : w20.cell? ⟨gb101, 2, none⟩ = some (.slice A0_2 l0_2.length c0_2) := (blk_cell BK101.out 2).trans rfl; have hfz21_0 := blk_frozen BK101.out 0; have hfz21_1 := blk_frozen BK101.out 1; have hfz21_2 := blk_frozen BK101.out 2) | ((with_reducible refine gate_callee (f := 14) rfl ?_); refine goesL_ (some 22) rfl rfl Try.func14 (by kernel_rfl) rfl #[.agg #[.int .i64 a0_0, .int .i64 a0_1, .slice A0_2 l0_2.length c0_2], .int .i64 1048576] rfl (by (try simp only [List.map_toArray, List.map_cons, List.map_nil]); first | done | rfl | (simp only [List.length_drop, List.length_take]; rfl)) ?_; (with_reducible refine (laws_szChart.calls a0_0 a0_1 _ _ l0_2 1048576 t102 _ ?side1 ?side2 A3.out).mono ?_); (case side1 => repeat (first | exact (Kd.C_below HR0_2.out HB.out) | (with_reducible refine Kd.C_alloc ?_ _) | (with_reducible refine Kd.C_drewN ?_ _) | (with_reducible refine Kd.C_drew ?_))); (case side2 => exact HC0_2.out); rintro e w22 ⟨rfl, hb⟩; refine ⟨_, rfl, ?_⟩; have n0_ := Aside0.mk (blk_below (bS BK101.out) hb); have n1_ := Aside0.mk (below_step (by exact eS HB.out) hb); clear BK101; clear HB; have BK101 := n0_; have HB := n1_; clear n0_ n1_; (try clear hb); (try clear hb2); (try clear hk); (try clear hi)) | ((with_reducible refine gate_callee (f := 20) rfl ?_); refine goesL_ (some 27) rfl rfl Try.func20 (by kernel_rfl) rfl #[.slice A1 l1.length c1, .int .i64 t102] rfl (by (try simp only [List.map_toArray, List.map_cons, List.map_nil]); first | done | rfl | (simp only [List.length_drop, List.length_take]; rfl)) ?_; (with_reducible refine (laws_szFlawS.calls _ _ l1 t102 t103 _ ?side1 ?side2 A8.out).mono ?_); (case side1 => repeat (first | exact (Kd.C_below HR1.out HB.out) | (with_reducible refine Kd.C_alloc ?_ _) | (with_reducible refine Kd.C_drewN ?_ _) | (with_reducible refine Kd.C_drew ?_))); (case side2 => exact HC1.out); rintro e w' ⟨rfl, ⟨nd, rfl⟩⟩; refine ⟨_, rfl, ?_⟩; (try (rw [drewN_self w22]; generalize hq_ : World.drewN w22 _ = w22; have n0_ : Aside0 (w22.heap[gb101]? = some (.cells #[.int .i64 a0_0, .int .i64 a0_1, .slice A0_2 l0_2.length c0_2] 24 (0, 0))) := ⟨by rw [← hq_]; exact (by exact bS BK101.out)⟩; have n1_ : Aside0 (Below w.heap.size w w22) := ⟨by rw [← hq_]; exact (by exact eS HB.out)⟩; clear BK101 HB hq_; have BK101 := n0_; have HB := n1_; clear n0_ n1_)); have hcz23_0 : w22.cell? ⟨gb101, 0, none⟩ = some (.int .i64 a0_0) := (blk_cell BK101.out 0).trans rfl; have hcz23_1 : w22.cell? ⟨gb101, 1, none⟩ = some (.int .i64 a0_1) := (blk_cell BK101.out 1).trans rfl; have hcz23_2 : w22.cell? ⟨gb101, 2, none⟩ = some (.slice A0_2 l0_2.length c0_2) := (blk_cell BK101.out 2).trans rfl; have hfz23_0 := blk_frozen BK101.out 0; have hfz23_1 := blk_frozen BK101.out 1; have hfz23_2 := blk_frozen BK101.out 2) | ((with_reducible refine gate_callee (f := 16) rfl ?_); refine goesL_ (some 32) rfl rfl Try.func16 (by kernel_rfl) rfl #[.agg #[.int .i64 a0_0, .int .i64 a0_1, .slice A0_2 l0_2.length c0_2]] rfl (by (try simp only [List.map_toArray, List.map_cons, List.map_nil]); first | done | rfl | (simp only [List.length_drop, List.length_take]; rfl)) ?_; (with_reducible refine (laws_toChart.calls k a0_0 a0_1 _ _ l0_2 t104 t105 t106 _ ?side1 ?side2 A13.out).mono ?_); (case side1 => repeat (first | exact (Kd.C_below HR0_2.out HB.out) | (with_reducible refine Kd.C_alloc ?_ _) | (with_reducible refine Kd.C_drewN ?_ _) | (with_reducible refine Kd.C_drew ?_))); (case side2 => exact HC0_2.out); rintro e w24 ⟨v107, rfl, ho0, hb⟩; refine ⟨_, rfl, ?_⟩; have n0_ := Aside0.mk (Kd.R_lower ho0 (below_size (by exact eS HB.out))); have n1_ := Aside0.mk (blk_below (bS BK101.out) hb); have n2_ := Aside0.mk (below_step (by exact eS HB.out) hb); clear BK101; clear HB; have HO108 := n0_; have BK101 := n1_; have HB := n2_; clear n0_ n1_ n2_; (try clear hb); (try clear hb2); (try clear hk); (try clear hi); (try clear ho0)) | ((with_reducible refine gate_callee (f := 22) rfl ?_); refine goesL_ (some 34) rfl rfl Try.func22 (by kernel_rfl) rfl #[.slice A1 l1.length c1] rfl (by (try simp only [List.map_toArray, List.map_cons, List.map_nil]); first | done | rfl | (simp only [List.length_drop, List.length_take]; rfl)) ?_; (with_reducible refine (laws_toFlawS.calls k _ _ l1 t109 _ ?side1 ?side2 A14.out).mono ?_); (case side1 => repeat (first | exact (Kd.C_below HR1.out HB.out) | (with_reducible refine Kd.C_alloc ?_ _) | (with_reducible refine Kd.C_drewN ?_ _) | (with_reducible refine Kd.C_drew ?_))); (case side2 => exact HC1.out); rintro e w25 ⟨v110, rfl, ho0, hb⟩; refine ⟨_, rfl, ?_⟩; have n0_ := Aside0.mk (Kd.R_below (by exact Ho.RS <| HO108.out) hb); have n1_ := Aside0.mk (Kd.R_lower ho0 (below_size (by exact eS HB.out))); have n2_ := Aside0.mk (blk_below (bS BK101.out) hb); have n3_ := Aside0.mk (below_step (by exact eS HB.out) hb); clear HO108; clear BK101; clear HB; have HO108 := n0_; have HO111 := n1_; have BK101 := n2_; have HB := n3_; clear n0_ n1_ n2_ n3_; (try clear hb); (try clear hb2); (try clear hk); (try clear hi); (try clear ho0); obtain ⟨Ao26, co26, eo26⟩ := Kd.R_slice HO108.out; subst eo26; obtain ⟨Ao27, co27, eo27⟩ := Kd.R_slice HO111.out; subst eo27) | ((with_reducible refine gate_callee (f := 36) rfl ?_); refine goesL_ (some 35) rfl rfl Try.func36 (by kernel_rfl) rfl #[.agg #[.int .i64 t104, .int .i64 t105, .slice Ao26 t106.length co26], .slice Ao27 t109.length co27] rfl (by (try simp only [List.map_toArray, List.map_cons, List.map_nil]); first | done | rfl | (simp only [List.length_drop, List.length_take]; rfl)) ?_; (with_reducible refine (spec_WorstRows.calls k t104 t105 _ _ t106 _ _ t109 t112 t115 t116 _ ?side1 ?side2 ?side3 ?side4 A15.out).mono ?_); (case side1 => repeat (first | exact (Kd.R_reads' HO108.out).2.2 | (with_reducible refine Kd.C_alloc ?_ _) | (with_reducible refine Kd.C_drewN ?_ _) | (with_reducible refine Kd.C_drew ?_))); (case side2 => exact (Kd.R_reads' HO108.out).2.1); (case side3 => repeat (first | exact (Kd.R_reads' HO111.out).2.2 | (with_reducible refine Kd.C_alloc ?_ _) | (with_reducible refine Kd.C_drewN ?_ _) | (with_reducible refine Kd.C_drew ?_))); (case side4 => exact (Kd.R_reads' HO111.out).2.1); rintro e w28 ⟨v113, rfl, ho0, hb⟩; refine ⟨_, rfl, ?_⟩; have n0_ := Aside0.mk (Kd.R_elder' (by exact Ho.RS <| HO108.out) (Kd.R_base ho0) hb); have n1_ := Aside0.mk (Kd.R_below (by exact Ho.RS <| HO111.out) hb); have n2_ := Aside0.mk (Kd.R_lower (Kd.R_new' ho0 (Kd.R_lt (by exact Ho.RS <| HO108.out))) (below_size (by exact eS HB.out))); have n3_ := Aside0.mk (blk_below (bS BK101.out) hb); have n4_ := Aside0.mk (below_step (by exact eS HB.out) hb); clear HO108; clear HO111; clear BK101; clear HB; have HO108 := n0_; have HO111 := n1_; have HO114 := n2_; have BK101 := n3_; have HB := n4_; clear n0_ n1_ n2_ n3_ n4_; (try clear hb); (try clear hb2); (try clear hk); (try clear hi); (try clear ho0); have hcz29_0 : w28.cell? ⟨gb101, 0, none⟩ = some (.int .i64 a0_0) := (blk_cell BK101.out 0).trans rfl; have hcz29_1 : w28.cell? ⟨gb101, 1, none⟩ = some (.int .i64 a0_1) := (blk_cell BK101.out 1).trans rfl; have hcz29_2 : w28.cell? ⟨gb101, 2, none⟩ = some (.slice A0_2 l0_2.length c0_2) := (blk_cell BK101.out 2).trans rfl; have hfz29_0 := blk_frozen BK101.out 0; have hfz29_1 := blk_frozen BK101.out 1; have hfz29_2 := blk_frozen BK101.out 2) | ((with_reducible refine gate_callee (f := 16) rfl ?_); refine goesL_ (some 40) rfl rfl Try.func16 (by kernel_rfl) rfl #[.agg #[.int .i64 a0_0, .int .i64 a0_1, .slice A0_2 l0_2.length c0_2]] rfl (by (try simp only [List.map_toArray, List.map_cons, List.map_nil]); first | done | rfl | (simp only [List.length_drop, List.length_take]; rfl)) ?_; (with_reducible refine (laws_toChart.calls k a0_0 a0_1 _ _ l0_2 t117 t118 t119 _ ?side1 ?side2 A16.out).mono ?_); (case side1 => repeat (first | exact (Kd.C_below HR0_2.out HB.out) | (with_reducible refine Kd.C_alloc ?_ _) | (with_reducible refine Kd.C_drewN ?_ _) | (with_reducible refine Kd.C_drew ?_))); (case side2 => exact HC0_2.out); rintro e w30 ⟨v120, rfl, ho0, hb⟩; refine ⟨_, rfl, ?_⟩; have n0_ := Aside0.mk (Kd.R_elder' (by exact Ho.RS <| HO108.out) (Kd.R_base ho0) hb); have n1_ := Aside0.mk (Kd.R_below (by exact Ho.RS <| HO111.out) hb); have n2_ := Aside0.mk (Kd.R_elder' (by exact Ho.RS <| HO114.out) (Kd.R_base ho0) hb); have n3_ := Aside0.mk (Kd.R_lower (Kd.R_new' (Kd.R_new' ho0 (Kd.R_lt (by exact Ho.RS <| HO108.out))) (Kd.R_lt (by exact Ho.RS <| HO114.out))) (below_size (by exact eS HB.out))); have n4_ := Aside0.mk (blk_below (bS BK101.out) hb); have n5_ := Aside0.mk (below_step (by exact eS HB.out) hb); clear HO108; clear HO111; clear HO114; clear BK101; clear HB; have HO108 := n0_; have HO111 := n1_; have HO114 := n2_; have HO121 := n3_; have BK101 := n4_; have HB := n5_; clear n0_ n1_ n2_ n3_ n4_ n5_; (try clear hb); (try clear hb2); (try clear hk); (try clear hi); (try clear ho0)) | ((with_reducible refine gate_dst (N := 9) rfl ?_); refine box_event ?hg (N := 9) ?hd (cs := #[.int .i64 0, .int .i64 0, .slice none 0 0]) (t := 30) ?hr ?_; (case hd => rfl); (case hg => rfl); (case hr => first | (go_simp; done) | (go_simp; rfl)); intro gb122 hg w31 hbox hb; have n0_ := Aside0.mk (Kd.R_below (by exact Ho.RS <| HO108.out) hb); have n1_ := Aside0.mk (Kd.R_below (by exact Ho.RS <| HO111.out) hb); have n2_ := Aside0.mk (Kd.R_below (by exact Ho.RS <| HO114.out) hb); have n3_ := Aside0.mk (Kd.R_below (by exact Ho.RS <| HO121.out) hb); have n4_ := Aside0.mk (blk_below (bS BK101.out) hb); have n5_ := Aside0.mk (below_step (by exact eS HB.out) hb); have n6_ := Aside0.mk (hbox); have n7_ := Aside0.mk ((by rw [hg]; exact (below_size (by exact eS HB.out)) : w.heap.size ≤ gb122)); have n8_ := Aside0.mk ((by rw [hg]; exact (below_size (by exact eS HB.out)) : w.heap.size ≤ gb122)); have n9_ := Aside0.mk ((by rw [hg]; exact Nat.ne_of_lt (blk_lt (bS BK101.out)) : gb101 ≠ gb122)); have n10_ := Aside0.mk ((by rw [hg]; exact Nat.ne_of_gt (blk_lt (bS BK101.out)) : gb122 ≠ gb101)); clear HO108; clear HO111; clear HO114; clear HO121; clear BK101; clear HB; have HO108 := n0_; have HO111 := n1_; have HO114 := n2_; have HO121 := n3_; have BK101 := n4_; have HB := n5_; have BK122 := n6_; have GW122 := n7_; have GE122 := n8_; have NB101_122 := n9_; have NB122_101 := n10_; clear n0_ n1_ n2_ n3_ n4_ n5_ n6_ n7_ n8_ n9_ n10_; clear hb hbox hg; have hnb32 := NB122_101.out; have hnc32 := NB101_122.out; have hcz33_0 : w31.cell? ⟨gb122, 0, none⟩ = some (.int .i64 0) := (blk_cell BK122.out 0).trans rfl; have hcz33_1 : w31.cell? ⟨gb122, 1, none⟩ = some (.int .i64 0) := (blk_cell BK122.out 1).trans rfl; have hcz33_2 : w31.cell? ⟨gb122, 2, none⟩ = some (.slice none 0 0) := (blk_cell BK122.out 2).trans rfl; have hfz33_0 := blk_frozen BK122.out 0; have hfz33_1 := blk_frozen BK122.out 1; have hfz33_2 := blk_frozen BK122.out 2; obtain ⟨Ao34, co34, eo34⟩ := Kd.R_slice HO121.out; subst eo34) | ((with_reducible refine gate_callee (f := 22) rfl ?_); refine goesL_ (some 42) rfl rfl Try.func22 (by kernel_rfl) rfl #[.slice A1 l1.length c1] rfl (by (try simp only [List.map_toArray, List.map_cons, List.map_nil]); first | done | rfl | (simp only [List.length_drop, List.length_take]; rfl)) ?_; (with_reducible refine (laws_toFlawS.calls k _ _ l1 t123 _ ?side1 ?side2 A17.out).mono ?_); (case side1 => exact Kd.C_below HR1.out (by repeat (first | (with_reducible first | exact HB.out | apply below_alloc | apply pw_below_drewN | apply below_drew1 | refine below_set ?_ GE101.out | refine below_set ?_ GE122.out) | exact HB.out))); (case side2 => exact HC1.out); rintro e w35 ⟨v124, rfl, ho0, hb⟩; refine ⟨_, rfl, ?_⟩; have n0_ := Aside0.mk (Kd.R_below (by exact Ho.RS <| (Kd.R_mono (Kd.R_far (p := ⟨gb122, 2, none⟩) (Kd.R_far (p := ⟨gb122, 1, none⟩) (Kd.R_far (p := ⟨gb122, 0, none⟩) (Kd.R_types HO108.out BK122.out (by decide)) (fun _ hk => hk.2) (.int .i64 t117)) (fun _ hk => hk.2) (.int .i64 t118)) (fun _ hk => hk.2) (.slice Ao34 t119.length co34)) (fun _ h_ => h_.1))) hb); have n1_ := Aside0.mk (Kd.R_elder' (by exact Ho.RS <| (Kd.R_mono (Kd.R_far (p := ⟨gb122, 2, none⟩) (Kd.R_far (p := ⟨gb122, 1, none⟩) (Kd.R_far (p := ⟨gb122, 0, none⟩) (Kd.R_types HO111.out BK122.out (by decide)) (fun _ hk => hk.2) (.int .i64 t117)) (fun _ hk => hk.2) (.int .i64 t118)) (fun _ hk => hk.2) (.slice Ao34 t119.length co34)) (fun _ h_ => h_.1))) (Kd.R_base ho0) hb); have n2_ := Aside0.mk (Kd.R_below (by exact Ho.RS <| (Kd.R_mono (Kd.R_far (p := ⟨gb122, 2, none⟩) (Kd.R_far (p := ⟨gb122, 1, none⟩) (Kd.R_far (p := ⟨gb122, 0, none⟩) (Kd.R_types HO114.out BK122.out (by decide)) (fun _ hk => hk.2) (.int .i64 t117)) (fun _ hk => hk.2) (.int .i64 t118)) (fun _ hk => hk.2) (.slice Ao34 t119.length co34)) (fun _ h_ => h_.1))) hb); have n3_ := Aside0.mk (Kd.R_below (by exact Ho.RS <| (Kd.R_mono (Kd.R_far (p := ⟨gb122, 2, none⟩) (Kd.R_far (p := ⟨gb122, 1, none⟩) (Kd.R_far (p := ⟨gb122, 0, none⟩) (Kd.R_types HO121.out BK122.out (by decide)) (fun _ hk => hk.2) (.int .i64 t117)) (fun _ hk => hk.2) (.int .i64 t118)) (fun _ hk => hk.2) (.slice Ao34 t119.length co34)) (fun _ h_ => h_.1))) hb); have n4_ := Aside0.mk (Kd.R_lower (Kd.R_new' ho0 (Kd.R_lt (by exact Ho.RS <| (Kd.R_mono (Kd.R_far (p := ⟨gb122, 2, none⟩) (Kd.R_far (p := ⟨gb122, 1, none⟩) (Kd.R_far (p := ⟨gb122, 0, none⟩) (Kd.R_types HO111.out BK122.out (by decide)) (fun _ hk => hk.2) (.int .i64 t117)) (fun _ hk => hk.2) (.int .i64 t118)) (fun _ hk => hk.2) (.slice Ao34 t119.length co34)) (fun _ h_ => h_.1))))) (below_size (by repeat (first | (with_reducible first | exact HB.out | apply below_alloc | apply pw_below_drewN | apply below_drew1 | refine below_set ?_ GE101.out | refine below_set ?_ GE122.out) | exact HB.out)))); have n5_ := Aside0.mk (blk_below (g := gb101) (o := .cells #[.int .i64 a0_0, .int .i64 a0_1, .slice A0_2 l0_2.length c0_2] 24 (0, 0)) (by (with_reducible repeat (first | refine blk_drewN ?_ _ | refine blk_drew ?_ | refine blk_alloc ?_ _)); refine blk_far ?_ NB101_122.out _; (with_reducible repeat (first | refine blk_drewN ?_ _ | refine blk_drew ?_ | refine blk_alloc ?_ _)); refine blk_far ?_ NB101_122.out _; (with_reducible repeat (first | refine blk_drewN ?_ _ | refine blk_drew ?_ | refine blk_alloc ?_ _)); refine blk_far ?_ NB101_122.out _; exact bS BK101.out) hb); have n6_ := Aside0.mk (blk_below (g := gb122) (o := .cells #[.int .i64 t117, .int .i64 t118, .slice Ao34 t119.length co34] 30 (0, 0)) (by (with_reducible repeat (first | refine blk_drewN ?_ _ | refine blk_drew ?_ | refine blk_alloc ?_ _)); refine blk_put (cs := #[.int .i64 t117, .int .i64 t118, .slice none 0 0]) ?_ 2 _ rfl; (with_reducible repeat (first | refine blk_drewN ?_ _ | refine blk_drew ?_ | refine blk_alloc ?_ _)); refine blk_put (cs := #[.int .i64 t117, .int .i64 0, .slice none 0 0]) ?_ 1 _ rfl; (with_reducible repeat (first | refine blk_drewN ?_ _ | refine blk_drew ?_ | refine blk_alloc ?_ _)); refine blk_put (cs := #[.int .i64 0, .int .i64 0, .slice none 0 0]) ?_ 0 _ rfl; exact bS BK122.out) hb); have n7_ := Aside0.mk (below_step (by repeat (first | (with_reducible first | exact HB.out | apply below_alloc | apply pw_below_drewN | apply below_drew1 | refine below_set ?_ GE101.out | refine below_set ?_ GE122.out) | exact HB.out)) hb); clear HO108; clear HO111; clear HO114; clear HO121; clear BK101; clear BK122; clear HB; have HO108 := n0_; have HO111 := n1_; have HO114 := n2_; have HO121 := n3_; have HO125 := n4_; have BK101 := n5_; have BK122 := n6_; have HB := n7_; clear n0_ n1_ n2_ n3_ n4_ n5_ n6_ n7_; (try clear hb); (try clear hb2); (try clear hk); (try clear hi); (try clear ho0); have hcz36_0 : w35.cell? ⟨gb122, 0, none⟩ = some (.int .i64 t117) := (blk_cell BK122.out 0).trans rfl; have hcz36_1 : w35.cell? ⟨gb122, 1, none⟩ = some (.int .i64 t118) := (blk_cell BK122.out 1).trans rfl; have hcz36_2 : w35.cell? ⟨gb122, 2, none⟩ = some (.slice Ao34 t119.length co34) := (blk_cell BK122.out 2).trans rfl; have hfz36_0 := blk_frozen BK122.out 0; have hfz36_1 := blk_frozen BK122.out 1; have hfz36_2 := blk_frozen BK122.out 2; obtain ⟨Ao37, co37, eo37⟩ := Kd.R_slice HO125.out; subst eo37) | ((with_reducible refine gate_callee (f := 37) rfl ?_); refine goesL_ (some 46) rfl rfl Try.func37 (by kernel_rfl) rfl #[.agg #[.int .i64 t117, .int .i64 t118, .slice Ao34 t119.length co34], .slice Ao37 t123.length co37] rfl (by (try simp only [List.map_toArray, List.map_cons, List.map_nil]); first | done | rfl | (simp only [List.length_drop, List.length_take]; rfl)) ?_; (with_reducible refine (impl_WorstRows.calls k t117 t118 _ _ t119 _ _ t123 t126 t129 t130 _ ?side1 ?side2 ?side3 ?side4 A18.out).mono ?_); (case side1 => repeat (first | exact (Kd.R_reads' HO121.out).2.2 | (with_reducible refine Kd.C_alloc ?_ _) | (with_reducible refine Kd.C_drewN ?_ _) | (with_reducible refine Kd.C_drew ?_))); (case side2 => exact (Kd.R_reads' HO121.out).2.1); (case side3 => repeat (first | exact (Kd.R_reads' HO125.out).2.2 | (with_reducible refine Kd.C_alloc ?_ _) | (with_reducible refine Kd.C_drewN ?_ _) | (with_reducible refine Kd.C_drew ?_))); (case side4 => exact (Kd.R_reads' HO125.out).2.1); rintro e w38 ⟨v127, rfl, ho0, hb⟩; refine ⟨_, rfl, ?_⟩; have n0_ := Aside0.mk (Kd.R_elder' (by exact Ho.RS <| HO108.out) (Kd.R_base ho0) hb); have n1_ := Aside0.mk (Kd.R_below (by exact Ho.RS <| HO111.out) hb); have n2_ := Aside0.mk (Kd.R_elder' (by exact Ho.RS <| HO114.out) (Kd.R_base ho0) hb); have n3_ := Aside0.mk (Kd.R_elder' (by exact Ho.RS <| HO121.out) (Kd.R_base ho0) hb); have n4_ := Aside0.mk (Kd.R_below (by exact Ho.RS <| HO125.out) hb); have n5_ := Aside0.mk (Kd.R_lower (Kd.R_new' (Kd.R_new' (Kd.R_new' ho0 (Kd.R_lt (by exact Ho.RS <| HO108.out))) (Kd.R_lt (by exact Ho.RS <| HO114.out))) (Kd.R_lt (by exact Ho.RS <| HO121.out))) (below_size (by exact eS HB.out))); have n6_ := Aside0.mk (blk_below (bS BK101.out) hb); have n7_ := Aside0.mk (blk_below (bS BK122.out) hb); have n8_ := Aside0.mk (below_step (by exact eS HB.out) hb); clear HO108; clear HO111; clear HO114; clear HO121; clear HO125; clear BK101; clear BK122; clear HB; have HO108 := n0_; have HO111 := n1_; have HO114 := n2_; have HO121 := n3_; have HO125 := n4_; have HO128 := n5_; have BK101 := n6_; have BK122 := n7_; have HB := n8_; clear n0_ n1_ n2_ n3_ n4_ n5_ n6_ n7_ n8_; (try clear hb); (try clear hb2); (try clear hk); (try clear hi); (try clear ho0)))
   (try simp only [Act.put, List.setIfInBounds_toArray, List.set_cons_zero, List.set_cons_succ])
   go_cut [63] (fun v63 wc => ∃ (kq : Nat) (x63_18 : Bool), v63 = .bool x63_18 ∧ Aside0 (laws_FnExactWorstRows.j0 kq l1 t112 t115 t116 t123 t126 t129 t130 x63_18 a0_0 a0_1 l0_2 t117 t118 t119 = some r) ∧ Aside0 (kq ≤ k) ∧ Aside0 (Kd.R (Kd.int .i64) 3 wc w.heap.size (fun k_ => some k_ ≠ (v127 : Value).ownBlock ∧ some k_ ≠ ((.slice Ao34 t119.length co34) : Value).ownBlock) v113 t112) ∧ Aside0 (Kd.R k32 32 wc w.heap.size (fun _ => True) (.slice Ao37 t123.length co37) t123) ∧ Aside0 (Kd.R (Kd.int .i64) 3 wc w.heap.size (fun k_ => some k_ ≠ (v113 : Value).ownBlock ∧ some k_ ≠ ((.slice Ao34 t119.length co34) : Value).ownBlock) v127 t126) ∧ Aside0 (Kd.R (Kd.int .i64) 3 wc w.heap.size (fun k_ => some k_ ≠ (v113 : Value).ownBlock ∧ some k_ ≠ (v127 : Value).ownBlock) (.slice Ao34 t119.length co34) t119) ∧ Aside0 (wc.heap[gb101]? = some (.cells #[.int .i64 a0_0, .int .i64 a0_1, (.slice A0_2 l0_2.length c0_2)] 24 (0, 0))) ∧ Aside0 (wc.heap[gb122]? = some (.cells #[.int .i64 t117, .int .i64 t118, (.slice Ao34 t119.length co34)] 30 (0, 0))) ∧ Aside0 (Below w.heap.size w wc))
   case first =>
    have H := HC19.out
    clear HC19
    replace H := Option.bind_eq_some_iff.mp H
    obtain ⟨t131, A390, H⟩ := H
    replace H : (if t131 = true then (if t129 = t115 then (laws_FnExactWorstRows.j0 k l1 t112 t115 t116 t123 t126 t129 t130 (t130 != t116) a0_0 a0_1 l0_2 t117 t118 t119) else (laws_FnExactWorstRows.j0 k l1 t112 t115 t116 t123 t126 t129 t130 true a0_0 a0_1 l0_2 t117 t118 t119)) else (laws_FnExactWorstRows.j0 k l1 t112 t115 t116 t123 t126 t129 t130 true a0_0 a0_1 l0_2 t117 t118 t119)) = some r := H
    have A39 := Aside0.mk A390
    clear A390
    by_cases c40 : t131 = true
    ·subst c40
     have H1 : (if t129 = t115 then (laws_FnExactWorstRows.j0 k l1 t112 t115 t116 t123 t126 t129 t130 (t130 != t116) a0_0 a0_1 l0_2 t117 t118 t119) else (laws_FnExactWorstRows.j0 k l1 t112 t115 t116 t123 t126 t129 t130 true a0_0 a0_1 l0_2 t117 t118 t119)) = some r := by rw [if_pos rfl] at H; exact H
     clear H
     have H := H1
     clear H1
     by_cases c41 : t129 = t115
     ·rw [if_pos c41] at H
      have c41b0 : (t129 == t115) = true := beq_iff_eq.mpr c41
      have c41b1 : (t129 != t115) = false := bne_eq_false_iff_eq.mpr c41
      clear c41
      (first | rw [c41b0] | (simp only [i64_w, i32_w]; rw [c41b0]) | skip)
      as_aux_lemma =>
       have H' := Aside0.mk H
       clear H
       obtain ⟨Ao42, co42, eo42⟩ := Kd.R_slice HO128.out
       subst eo42
       obtain ⟨Ao43, co43, eo43⟩ := Kd.R_slice HO114.out
       subst eo43
       go_wp2_with (first | ((with_reducible refine gate_callee (f := 29) rfl ?_); refine goesL_ (some 52) rfl rfl Try.func29 (by kernel_rfl) rfl #[.slice Ao42 t126.length co42, .slice Ao43 t112.length co43] rfl (by (try simp only [List.map_toArray, List.map_cons, List.map_nil]); first | done | rfl | (simp only [List.length_drop, List.length_take]; rfl)) ?_; (with_reducible refine (laws_eqIntS.calls k _ _ t126 _ _ t112 true _ ?side1 ?side2 ?side3 ?side4 A39.out).mono ?_); (case side1 => repeat (first | exact (Kd.R_reads' HO128.out).2.2 | (with_reducible refine Kd.C_alloc ?_ _) | (with_reducible refine Kd.C_drewN ?_ _) | (with_reducible refine Kd.C_drew ?_))); (case side2 => exact (Kd.R_reads' HO128.out).2.1); (case side3 => repeat (first | exact (Kd.R_reads' HO114.out).2.2 | (with_reducible refine Kd.C_alloc ?_ _) | (with_reducible refine Kd.C_drewN ?_ _) | (with_reducible refine Kd.C_drew ?_))); (case side4 => exact (Kd.R_reads' HO114.out).2.1); rintro e w' ⟨rfl, ⟨nd, rfl⟩⟩; refine ⟨_, rfl, ?_⟩))
       go_meet
       case rel => exact ⟨_, ((t130 != t116)), (by first | rfl | (simp; done) | (simp [*]; done)), H', ⟨by first | omega | exact Nat.le_refl _⟩, ⟨by exact Ho.RS <| Kd.R_mono HO114.out (fun _ hk => ⟨hk.2, hk.1.2⟩)⟩, ⟨by exact Ho.RS <| Kd.R_mono HO125.out (fun _ hk => trivial)⟩, ⟨by exact Ho.RS <| Kd.R_mono HO128.out (fun _ hk => ⟨hk.1.2, hk.2⟩)⟩, ⟨by exact Ho.RS <| Kd.R_mono HO121.out (fun _ hk => ⟨hk.1.2, hk.2⟩)⟩, ⟨by exact bS BK101.out⟩, ⟨by exact bS BK122.out⟩, ⟨by exact eS HB.out⟩⟩
     ·rw [if_neg c41] at H
      have c41b0 : (t129 == t115) = false := beq_eq_false_iff_ne.mpr c41
      have c41b1 : (t129 != t115) = true := bne_iff_ne.mpr c41
      (first | rw [c41b0] | (simp only [i64_w, i32_w]; rw [c41b0]) | skip)
      as_aux_lemma =>
       have H' := Aside0.mk H
       clear H
       obtain ⟨Ao44, co44, eo44⟩ := Kd.R_slice HO128.out
       subst eo44
       obtain ⟨Ao45, co45, eo45⟩ := Kd.R_slice HO114.out
       subst eo45
       go_wp2_with (first | ((with_reducible refine gate_callee (f := 29) rfl ?_); refine goesL_ (some 52) rfl rfl Try.func29 (by kernel_rfl) rfl #[.slice Ao44 t126.length co44, .slice Ao45 t112.length co45] rfl (by (try simp only [List.map_toArray, List.map_cons, List.map_nil]); first | done | rfl | (simp only [List.length_drop, List.length_take]; rfl)) ?_; (with_reducible refine (laws_eqIntS.calls k _ _ t126 _ _ t112 true _ ?side1 ?side2 ?side3 ?side4 A39.out).mono ?_); (case side1 => repeat (first | exact (Kd.R_reads' HO128.out).2.2 | (with_reducible refine Kd.C_alloc ?_ _) | (with_reducible refine Kd.C_drewN ?_ _) | (with_reducible refine Kd.C_drew ?_))); (case side2 => exact (Kd.R_reads' HO128.out).2.1); (case side3 => repeat (first | exact (Kd.R_reads' HO114.out).2.2 | (with_reducible refine Kd.C_alloc ?_ _) | (with_reducible refine Kd.C_drewN ?_ _) | (with_reducible refine Kd.C_drew ?_))); (case side4 => exact (Kd.R_reads' HO114.out).2.1); rintro e w' ⟨rfl, ⟨nd, rfl⟩⟩; refine ⟨_, rfl, ?_⟩))
       go_meet
       case rel => exact ⟨_, (true), (by first | rfl | (simp; done) | (simp [*]; done)), H', ⟨by first | omega | exact Nat.le_refl _⟩, ⟨by exact Ho.RS <| Kd.R_mono HO114.out (fun _ hk => ⟨hk.2, hk.1.2⟩)⟩, ⟨by exact Ho.RS <| Kd.R_mono HO125.out (fun _ hk => trivial)⟩, ⟨by exact Ho.RS <| Kd.R_mono HO128.out (fun _ hk => ⟨hk.1.2, hk.2⟩)⟩, ⟨by exact Ho.RS <| Kd.R_mono HO121.out (fun _ hk => ⟨hk.1.2, hk.2⟩)⟩, ⟨by exact bS BK101.out⟩, ⟨by exact bS BK122.out⟩, ⟨by exact eS HB.out⟩⟩
    ·replace c40 := Bool.eq_false_iff.mpr c40
     subst c40
     have H1 : (laws_FnExactWorstRows.j0 k l1 t112 t115 t116 t123 t126 t129 t130 true a0_0 a0_1 l0_2 t117 t118 t119) = some r := by rw [if_neg (show ¬ (false = true) by decide)] at H; exact H
     clear H
     have H := H1
     clear H1
     as_aux_lemma =>
      have H' := Aside0.mk H
      clear H
      obtain ⟨Ao46, co46, eo46⟩ := Kd.R_slice HO128.out
      subst eo46
      obtain ⟨Ao47, co47, eo47⟩ := Kd.R_slice HO114.out
      subst eo47
      go_wp2_with (first | ((with_reducible refine gate_callee (f := 29) rfl ?_); refine goesL_ (some 52) rfl rfl Try.func29 (by kernel_rfl) rfl #[.slice Ao46 t126.length co46, .slice Ao47 t112.length co47] rfl (by (try simp only [List.map_toArray, List.map_cons, List.map_nil]); first | done | rfl | (simp only [List.length_drop, List.length_take]; rfl)) ?_; (with_reducible refine (laws_eqIntS.calls k _ _ t126 _ _ t112 false _ ?side1 ?side2 ?side3 ?side4 A39.out).mono ?_); (case side1 => repeat (first | exact (Kd.R_reads' HO128.out).2.2 | (with_reducible refine Kd.C_alloc ?_ _) | (with_reducible refine Kd.C_drewN ?_ _) | (with_reducible refine Kd.C_drew ?_))); (case side2 => exact (Kd.R_reads' HO128.out).2.1); (case side3 => repeat (first | exact (Kd.R_reads' HO114.out).2.2 | (with_reducible refine Kd.C_alloc ?_ _) | (with_reducible refine Kd.C_drewN ?_ _) | (with_reducible refine Kd.C_drew ?_))); (case side4 => exact (Kd.R_reads' HO114.out).2.1); rintro e w' ⟨rfl, ⟨nd, rfl⟩⟩; refine ⟨_, rfl, ?_⟩))
      go_meet
      case rel => exact ⟨_, (true), (by first | rfl | (simp; done) | (simp [*]; done)), H', ⟨by first | omega | exact Nat.le_refl _⟩, ⟨by exact Ho.RS <| Kd.R_mono HO114.out (fun _ hk => ⟨hk.2, hk.1.2⟩)⟩, ⟨by exact Ho.RS <| Kd.R_mono HO125.out (fun _ hk => trivial)⟩, ⟨by exact Ho.RS <| Kd.R_mono HO128.out (fun _ hk => ⟨hk.1.2, hk.2⟩)⟩, ⟨by exact Ho.RS <| Kd.R_mono HO121.out (fun _ hk => ⟨hk.1.2, hk.2⟩)⟩, ⟨by exact bS BK101.out⟩, ⟨by exact bS BK122.out⟩, ⟨by exact eS HB.out⟩⟩
   case rest =>
    clear HC19
    try clear c1
    try clear c2
    try clear p2
    try clear c3
    try clear c4
    try clear c4b0
    try clear c8
    try clear c9
    try clear c9b0
    try clear c14
    try clear c16
    try clear c20
    try clear c22
    try clear c29
    try clear c32
    try clear c36
    try clear c37
    try clear c40
    try clear c41
    try clear c41b0
    try clear c41b1
    try clear hcz11_0
    try clear hcz11_1
    try clear hcz11_2
    try clear hcz21_0
    try clear hcz21_1
    try clear hcz21_2
    try clear hcz23_0
    try clear hcz23_1
    try clear hcz23_2
    try clear hcz29_0
    try clear hcz29_1
    try clear hcz29_2
    try clear hcz33_0
    try clear hcz33_1
    try clear hcz33_2
    try clear hcz36_0
    try clear hcz36_1
    try clear hcz36_2
    try clear hcz6_0
    try clear hcz6_1
    try clear hcz6_2
    try clear hfz11_0
    try clear hfz11_1
    try clear hfz11_2
    try clear hfz21_0
    try clear hfz21_1
    try clear hfz21_2
    try clear hfz23_0
    try clear hfz23_1
    try clear hfz23_2
    try clear hfz29_0
    try clear hfz29_1
    try clear hfz29_2
    try clear hfz33_0
    try clear hfz33_1
    try clear hfz33_2
    try clear hfz36_0
    try clear hfz36_1
    try clear hfz36_2
    try clear hfz6_0
    try clear hfz6_1
    try clear hfz6_2
    obtain ⟨kq, x63_18, rfl, HA, HJ18, HO_6, HO_10, HO_11, HO_123002, BK101, BK122, HB⟩ := hcut
    cases kq with
    | zero => exact absurd HA.out (by simp [laws_FnExactWorstRows.j0])
    | succ kj18 =>
     have H := HA.out
     clear HA
     simp only [laws_FnExactWorstRows.j0] at H
     by_cases c48 : x63_18 = true
     ·subst c48
      have H1 : (some false) = some r := by rw [if_pos rfl] at H; exact H
      clear H
      have H := H1
      clear H1
      as_aux_lemma =>
       exact absurd ((Option.some.inj H).trans HT.out) (by decide)
     ·replace c48 := Bool.eq_false_iff.mpr c48
      subst c48
      have H1 : ((laws_toChart.f kj18 a0_0 a0_1 l0_2).bind fun bt132 => ((laws_eqChart.f kj18 t117 t118 t119 bt132.1 bt132.2.1 bt132.2.2).bind fun t137 => (if t137 = true then ((laws_toFlawS.f kj18 l1).bind fun t138 => ((laws_eqFlawS.f kj18 t123 t138).bind fun t141 => (if t141 = true then ((laws_markChart.f kj18 t117 t118 t119 1).bind fun bt142 => ((laws_markFlawS.f kj18 t123 bt142.1).bind fun bt144 => (if bt144.1 < 0 then (laws_FnExactWorstRows.j1 kj18 l1 t112 t115 t116 t126 true a0_0 a0_1 l0_2) else ((laws_eqIntS.f kj18 t126 t112).bind fun t146 => (if t146 = true then (if t129 = t115 then (laws_FnExactWorstRows.j1 kj18 l1 t112 t115 t116 t126 (t130 != t116) a0_0 a0_1 l0_2) else (laws_FnExactWorstRows.j1 kj18 l1 t112 t115 t116 t126 true a0_0 a0_1 l0_2)) else (laws_FnExactWorstRows.j1 kj18 l1 t112 t115 t116 t126 true a0_0 a0_1 l0_2)))))) else (some false)))) else (some false)))) = some r := by rw [if_neg (show ¬ (false = true) by decide)] at H; exact H
      clear H
      have H := H1
      clear H1
      replace H := Option.bind_eq_some_iff.mp H
      obtain ⟨⟨t132, t133, t134⟩, A490, H⟩ := H
      replace H : ((laws_eqChart.f kj18 t117 t118 t119 t132 t133 t134).bind fun t137 => (if t137 = true then ((laws_toFlawS.f kj18 l1).bind fun t138 => ((laws_eqFlawS.f kj18 t123 t138).bind fun t141 => (if t141 = true then ((laws_markChart.f kj18 t117 t118 t119 1).bind fun bt142 => ((laws_markFlawS.f kj18 t123 bt142.1).bind fun bt144 => (if bt144.1 < 0 then (laws_FnExactWorstRows.j1 kj18 l1 t112 t115 t116 t126 true a0_0 a0_1 l0_2) else ((laws_eqIntS.f kj18 t126 t112).bind fun t146 => (if t146 = true then (if t129 = t115 then (laws_FnExactWorstRows.j1 kj18 l1 t112 t115 t116 t126 (t130 != t116) a0_0 a0_1 l0_2) else (laws_FnExactWorstRows.j1 kj18 l1 t112 t115 t116 t126 true a0_0 a0_1 l0_2)) else (laws_FnExactWorstRows.j1 kj18 l1 t112 t115 t116 t126 true a0_0 a0_1 l0_2)))))) else (some false)))) else (some false))) = some r := H
      have A49 := Aside0.mk A490
      clear A490
      replace H := Option.bind_eq_some_iff.mp H
      obtain ⟨t137, A500, H⟩ := H
      replace H : (if t137 = true then ((laws_toFlawS.f kj18 l1).bind fun t138 => ((laws_eqFlawS.f kj18 t123 t138).bind fun t141 => (if t141 = true then ((laws_markChart.f kj18 t117 t118 t119 1).bind fun bt142 => ((laws_markFlawS.f kj18 t123 bt142.1).bind fun bt144 => (if bt144.1 < 0 then (laws_FnExactWorstRows.j1 kj18 l1 t112 t115 t116 t126 true a0_0 a0_1 l0_2) else ((laws_eqIntS.f kj18 t126 t112).bind fun t146 => (if t146 = true then (if t129 = t115 then (laws_FnExactWorstRows.j1 kj18 l1 t112 t115 t116 t126 (t130 != t116) a0_0 a0_1 l0_2) else (laws_FnExactWorstRows.j1 kj18 l1 t112 t115 t116 t126 true a0_0 a0_1 l0_2)) else (laws_FnExactWorstRows.j1 kj18 l1 t112 t115 t116 t126 true a0_0 a0_1 l0_2)))))) else (some false)))) else (some false)) = some r := H
      have A50 := Aside0.mk A500
      clear A500
      by_cases c51 : t137 = true
      ·subst c51
       have H1 : ((laws_toFlawS.f kj18 l1).bind fun t138 => ((laws_eqFlawS.f kj18 t123 t138).bind fun t141 => (if t141 = true then ((laws_markChart.f kj18 t117 t118 t119 1).bind fun bt142 => ((laws_markFlawS.f kj18 t123 bt142.1).bind fun bt144 => (if bt144.1 < 0 then (laws_FnExactWorstRows.j1 kj18 l1 t112 t115 t116 t126 true a0_0 a0_1 l0_2) else ((laws_eqIntS.f kj18 t126 t112).bind fun t146 => (if t146 = true then (if t129 = t115 then (laws_FnExactWorstRows.j1 kj18 l1 t112 t115 t116 t126 (t130 != t116) a0_0 a0_1 l0_2) else (laws_FnExactWorstRows.j1 kj18 l1 t112 t115 t116 t126 true a0_0 a0_1 l0_2)) else (laws_FnExactWorstRows.j1 kj18 l1 t112 t115 t116 t126 true a0_0 a0_1 l0_2)))))) else (some false)))) = some r := by rw [if_pos rfl] at H; exact H
       clear H
       have H := H1
       clear H1
       replace H := Option.bind_eq_some_iff.mp H
       obtain ⟨t138, A520, H⟩ := H
       replace H : ((laws_eqFlawS.f kj18 t123 t138).bind fun t141 => (if t141 = true then ((laws_markChart.f kj18 t117 t118 t119 1).bind fun bt142 => ((laws_markFlawS.f kj18 t123 bt142.1).bind fun bt144 => (if bt144.1 < 0 then (laws_FnExactWorstRows.j1 kj18 l1 t112 t115 t116 t126 true a0_0 a0_1 l0_2) else ((laws_eqIntS.f kj18 t126 t112).bind fun t146 => (if t146 = true then (if t129 = t115 then (laws_FnExactWorstRows.j1 kj18 l1 t112 t115 t116 t126 (t130 != t116) a0_0 a0_1 l0_2) else (laws_FnExactWorstRows.j1 kj18 l1 t112 t115 t116 t126 true a0_0 a0_1 l0_2)) else (laws_FnExactWorstRows.j1 kj18 l1 t112 t115 t116 t126 true a0_0 a0_1 l0_2)))))) else (some false))) = some r := H
       have A52 := Aside0.mk A520
       clear A520
       replace H := Option.bind_eq_some_iff.mp H
       obtain ⟨t141, A530, H⟩ := H
       replace H : (if t141 = true then ((laws_markChart.f kj18 t117 t118 t119 1).bind fun bt142 => ((laws_markFlawS.f kj18 t123 bt142.1).bind fun bt144 => (if bt144.1 < 0 then (laws_FnExactWorstRows.j1 kj18 l1 t112 t115 t116 t126 true a0_0 a0_1 l0_2) else ((laws_eqIntS.f kj18 t126 t112).bind fun t146 => (if t146 = true then (if t129 = t115 then (laws_FnExactWorstRows.j1 kj18 l1 t112 t115 t116 t126 (t130 != t116) a0_0 a0_1 l0_2) else (laws_FnExactWorstRows.j1 kj18 l1 t112 t115 t116 t126 true a0_0 a0_1 l0_2)) else (laws_FnExactWorstRows.j1 kj18 l1 t112 t115 t116 t126 true a0_0 a0_1 l0_2)))))) else (some false)) = some r := H
       have A53 := Aside0.mk A530
       clear A530
       by_cases c54 : t141 = true
       ·subst c54
        have H1 : ((laws_markChart.f kj18 t117 t118 t119 1).bind fun bt142 => ((laws_markFlawS.f kj18 t123 bt142.1).bind fun bt144 => (if bt144.1 < 0 then (laws_FnExactWorstRows.j1 kj18 l1 t112 t115 t116 t126 true a0_0 a0_1 l0_2) else ((laws_eqIntS.f kj18 t126 t112).bind fun t146 => (if t146 = true then (if t129 = t115 then (laws_FnExactWorstRows.j1 kj18 l1 t112 t115 t116 t126 (t130 != t116) a0_0 a0_1 l0_2) else (laws_FnExactWorstRows.j1 kj18 l1 t112 t115 t116 t126 true a0_0 a0_1 l0_2)) else (laws_FnExactWorstRows.j1 kj18 l1 t112 t115 t116 t126 true a0_0 a0_1 l0_2)))))) = some r := by rw [if_pos rfl] at H; exact H
        clear H
        have H := H1
        clear H1
        replace H := Option.bind_eq_some_iff.mp H
        obtain ⟨⟨t142, t143⟩, A550, H⟩ := H
        replace H : ((laws_markFlawS.f kj18 t123 t142).bind fun bt144 => (if bt144.1 < 0 then (laws_FnExactWorstRows.j1 kj18 l1 t112 t115 t116 t126 true a0_0 a0_1 l0_2) else ((laws_eqIntS.f kj18 t126 t112).bind fun t146 => (if t146 = true then (if t129 = t115 then (laws_FnExactWorstRows.j1 kj18 l1 t112 t115 t116 t126 (t130 != t116) a0_0 a0_1 l0_2) else (laws_FnExactWorstRows.j1 kj18 l1 t112 t115 t116 t126 true a0_0 a0_1 l0_2)) else (laws_FnExactWorstRows.j1 kj18 l1 t112 t115 t116 t126 true a0_0 a0_1 l0_2))))) = some r := H
        have A55 := Aside0.mk A550
        clear A550
        replace H := Option.bind_eq_some_iff.mp H
        obtain ⟨⟨t144, t145⟩, A560, H⟩ := H
        replace H : (if t144 < 0 then (laws_FnExactWorstRows.j1 kj18 l1 t112 t115 t116 t126 true a0_0 a0_1 l0_2) else ((laws_eqIntS.f kj18 t126 t112).bind fun t146 => (if t146 = true then (if t129 = t115 then (laws_FnExactWorstRows.j1 kj18 l1 t112 t115 t116 t126 (t130 != t116) a0_0 a0_1 l0_2) else (laws_FnExactWorstRows.j1 kj18 l1 t112 t115 t116 t126 true a0_0 a0_1 l0_2)) else (laws_FnExactWorstRows.j1 kj18 l1 t112 t115 t116 t126 true a0_0 a0_1 l0_2)))) = some r := H
        have A56 := Aside0.mk A560
        clear A560
        have HC57 := Aside0.mk H
        clear H
        try go_wp2
        have n0_ := Aside0.mk (Kd.R_drew HO_6.out)
        have n1_ := Aside0.mk (Kd.R_drew HO_10.out)
        have n2_ := Aside0.mk (Kd.R_drew HO_11.out)
        have n3_ := Aside0.mk (Kd.R_drew HO_123002.out)
        have n4_ := Aside0.mk (blk_drew BK101.out)
        have n5_ := Aside0.mk (blk_drew BK122.out)
        have n6_ := Aside0.mk (below_drew1 HB.out)
        clear HO_6
        clear HO_10
        clear HO_11
        clear HO_123002
        clear BK101
        clear BK122
        clear HB
        have HO_6 := n0_
        have HO_10 := n1_
        have HO_11 := n2_
        have HO_123002 := n3_
        have BK101 := n4_
        have BK122 := n5_
        have HB := n6_
        clear n0_ n1_ n2_ n3_ n4_ n5_ n6_
        refine start_ (n := 5) (S := fun w' => w'.cell? ⟨gb122, 0, none⟩ = some (.int .i64 t117) ∧ w'.cell? ⟨gb122, 1, none⟩ = some (.int .i64 t118) ∧ w'.cell? ⟨gb122, 2, none⟩ = some (.slice Ao34 t119.length co34) ∧ w'.cell? ⟨gb101, 0, none⟩ = some (.int .i64 a0_0) ∧ w'.cell? ⟨gb101, 1, none⟩ = some (.int .i64 a0_1) ∧ w'.cell? ⟨gb101, 2, none⟩ = some (.slice A0_2 l0_2.length c0_2)) (ds := []) #[O,O,O,O,O] (by kernel_rfl) rfl rfl ⟨(blk_cell BK122.out 0).trans rfl, (blk_cell BK122.out 1).trans rfl, (blk_cell BK122.out 2).trans rfl, (blk_cell BK101.out 0).trans rfl, (blk_cell BK101.out 1).trans rfl, (blk_cell BK101.out 2).trans rfl⟩ (fun hHeld => ?_)
        generalize wc.drew = w58 at HO_6 HO_10 HO_11 HO_123002 BK101 BK122 HB hHeld ⊢
        refine take_ (i := 0) (N := some 64) (v := ?_) (a' := ?_) #[I,O,O,O,O] rfl rfl (by kernel_rfl) (fun _ _ _ h => h) (Or.inl ⟨by rfl, ?_⟩) hHeld ?_ ?_
        rotate_left; (rintro w' ⟨s0, s1, s2, s3, s4, s5⟩; go_simp; with_reducible rfl); rotate_left; (simp only [Z]; rfl)
        refine take_ (i := 1) (N := some 65) (v := ?_) (a' := ?_) #[I,I,O,O,O] rfl rfl (by kernel_rfl) (fun _ _ _ h => h) (Or.inl ⟨by rfl, ?_⟩) hHeld ?_ ?_
        rotate_left; (rintro w' ⟨s0, s1, s2, s3, s4, s5⟩; go_simp; with_reducible rfl); rotate_left; (simp only [Z]; rfl)
        refine one_ (i := 2) (N := some 66) #[I,I,I,O,O] rfl rfl (by kernel_rfl) (by decide) (fun K hK => ?_)
        refine goes_ Try.func16 (by kernel_rfl) rfl #[.agg #[.int .i64 a0_0, .int .i64 a0_1, .slice A0_2 l0_2.length c0_2]] (by rfl) rfl rfl (by (try simp only [List.map_toArray, List.map_cons, List.map_nil]); first | done | rfl | (simp only [List.length_drop, List.length_take]; rfl)) ?_
        with_reducible refine (laws_toChart.calls kj18 a0_0 a0_1 _ _ l0_2 t132 t133 t134 _ ?side1 ?side2 A49.out).mono ?_
        (case side1 => repeat (first | exact (Kd.C_below HR0_2.out HB.out) | (with_reducible refine Kd.C_alloc ?_ _) | (with_reducible refine Kd.C_drewN ?_ _) | (with_reducible refine Kd.C_drew ?_)))
        (case side2 => exact HC0_2.out)
        rintro e w59 ⟨v135, rfl, ho0, hb⟩
        refine ⟨_, rfl, ?_⟩
        have n0_ := Aside0.mk (Kd.R_elder' (by exact Ho.RS <| HO_6.out) (Kd.R_base ho0) hb)
        have n1_ := Aside0.mk (Kd.R_below (by exact Ho.RS <| HO_10.out) hb)
        have n2_ := Aside0.mk (Kd.R_elder' (by exact Ho.RS <| HO_11.out) (Kd.R_base ho0) hb)
        have n3_ := Aside0.mk (Kd.R_elder' (by exact Ho.RS <| HO_123002.out) (Kd.R_base ho0) hb)
        have n4_ := Aside0.mk (Kd.R_lower (Kd.R_new' (Kd.R_new' (Kd.R_new' ho0 (Kd.R_lt (by exact Ho.RS <| HO_6.out))) (Kd.R_lt (by exact Ho.RS <| HO_11.out))) (Kd.R_lt (by exact Ho.RS <| HO_123002.out))) (below_size (by exact eS HB.out)))
        have n5_ := Aside0.mk (blk_below (bS BK101.out) hb)
        have n6_ := Aside0.mk (blk_below (bS BK122.out) hb)
        have n7_ := Aside0.mk (below_step (by exact eS HB.out) hb)
        clear HO_6
        clear HO_10
        clear HO_11
        clear HO_123002
        clear BK101
        clear BK122
        clear HB
        have HO_6 := n0_
        have HO_10 := n1_
        have HO_11 := n2_
        have HO_123002 := n3_
        have HO136 := n4_
        have BK101 := n5_
        have BK122 := n6_
        have HB := n7_
        clear n0_ n1_ n2_ n3_ n4_ n5_ n6_ n7_
        (try clear hb)
        (try clear hb2)
        (try clear hk)
        (try clear hi)
        (try clear ho0)
        obtain ⟨Ao60, co60, eo60⟩ := Kd.R_slice HO136.out
        (first | subst eo60 | (injection eo60 with f1_ f2_ f3_; have f4_ := f1_.symm; have f5_ := f3_.symm; clear f1_ f2_ f3_; subst f4_; subst f5_))
        refine hK.out _ _ ⟨(blk_cell BK122.out 0).trans rfl, (blk_cell BK122.out 1).trans rfl, (blk_cell BK122.out 2).trans rfl, (blk_cell BK101.out 0).trans rfl, (blk_cell BK101.out 1).trans rfl, (blk_cell BK101.out 2).trans rfl⟩ (fun hHeld => ?_)
        clear hK K
        refine norm_ (a' := ?_) ?_ ?_
        rotate_left
        ·show Act.put _ (some 66) _ = _
         simp only [Z]
         rfl
        refine one_ (i := 3) (N := some 67) #[I,I,I,I,O] rfl rfl (by kernel_rfl) (by decide) (fun K hK => ?_)
        refine goes_ Try.func19 (by kernel_rfl) rfl #[.agg #[.int .i64 t117, .int .i64 t118, .slice Ao34 t119.length co34], .agg #[.int .i64 t132, .int .i64 t133, .slice Ao60 t134.length co60]] (by rfl) rfl rfl (by (try simp only [List.map_toArray, List.map_cons, List.map_nil]); first | done | rfl | (simp only [List.length_drop, List.length_take]; rfl)) ?_
        with_reducible refine (laws_eqChart.calls kj18 t117 t118 _ _ t119 t132 t133 _ _ t134 true _ ?side1 ?side2 ?side3 ?side4 A50.out).mono ?_
        (case side1 => repeat (first | exact (Kd.R_reads' HO_123002.out).2.2 | (with_reducible refine Kd.C_alloc ?_ _) | (with_reducible refine Kd.C_drewN ?_ _) | (with_reducible refine Kd.C_drew ?_)))
        (case side2 => exact (Kd.R_reads' HO_123002.out).2.1)
        (case side3 => repeat (first | exact (Kd.R_reads' HO136.out).2.2 | (with_reducible refine Kd.C_alloc ?_ _) | (with_reducible refine Kd.C_drewN ?_ _) | (with_reducible refine Kd.C_drew ?_)))
        (case side4 => exact (Kd.R_reads' HO136.out).2.1)
        rintro e w61 ⟨rfl, hb⟩
        refine ⟨_, rfl, ?_⟩
        have n0_ := Aside0.mk (Kd.R_below (by exact Ho.RS <| HO_6.out) hb)
        have n1_ := Aside0.mk (Kd.R_below (by exact Ho.RS <| HO_10.out) hb)
        have n2_ := Aside0.mk (Kd.R_below (by exact Ho.RS <| HO_11.out) hb)
        have n3_ := Aside0.mk (Kd.R_below (by exact Ho.RS <| HO_123002.out) hb)
        have n4_ := Aside0.mk (Kd.R_below (by exact Ho.RS <| HO136.out) hb)
        have n5_ := Aside0.mk (blk_below (bS BK101.out) hb)
        have n6_ := Aside0.mk (blk_below (bS BK122.out) hb)
        have n7_ := Aside0.mk (below_step (by exact eS HB.out) hb)
        clear HO_6
        clear HO_10
        clear HO_11
        clear HO_123002
        clear HO136
        clear BK101
        clear BK122
        clear HB
        have HO_6 := n0_
        have HO_10 := n1_
        have HO_11 := n2_
        have HO_123002 := n3_
        have HO136 := n4_
        have BK101 := n5_
        have BK122 := n6_
        have HB := n7_
        clear n0_ n1_ n2_ n3_ n4_ n5_ n6_ n7_
        (try clear hb)
        (try clear hb2)
        (try clear hk)
        (try clear hi)
        refine hK.out _ _ ⟨(blk_cell BK122.out 0).trans rfl, (blk_cell BK122.out 1).trans rfl, (blk_cell BK122.out 2).trans rfl, (blk_cell BK101.out 0).trans rfl, (blk_cell BK101.out 1).trans rfl, (blk_cell BK101.out 2).trans rfl⟩ (fun hHeld => ?_)
        clear hK K
        refine norm_ (a' := ?_) ?_ ?_
        rotate_left
        ·show Act.put _ (some 67) _ = _
         simp only [Z]
         rfl
        refine pure_ (i := 4) (N := some 68) (v := ?_) (a' := ?_) #[I,I,I,I,I] rfl rfl (by kernel_rfl) (fun _ _ _ h => h) (Or.inl ⟨by rfl, ?_⟩) ?_ ?_
        rotate_left; (intro w'; go_simp; with_reducible rfl); rotate_left; (simp only [Z]; rfl)
        refine done_ (by kernel_rfl) ?_
        go_upto_region 21 with (first | ((with_reducible refine gate_callee (f := 22) rfl ?_); refine goesL_ (some 71) rfl rfl Try.func22 (by kernel_rfl) rfl #[.slice A1 l1.length c1] rfl (by (try simp only [List.map_toArray, List.map_cons, List.map_nil]); first | done | rfl | (simp only [List.length_drop, List.length_take]; rfl)) ?_; (with_reducible refine (laws_toFlawS.calls kj18 _ _ l1 t138 _ ?side1 ?side2 A52.out).mono ?_); (case side1 => repeat (first | exact (Kd.C_below HR1.out HB.out) | (with_reducible refine Kd.C_alloc ?_ _) | (with_reducible refine Kd.C_drewN ?_ _) | (with_reducible refine Kd.C_drew ?_))); (case side2 => exact HC1.out); rintro e w62 ⟨v139, rfl, ho0, hb⟩; refine ⟨_, rfl, ?_⟩; have n0_ := Aside0.mk (Kd.R_below (by exact Ho.RS <| HO_6.out) hb); have n1_ := Aside0.mk (Kd.R_elder' (by exact Ho.RS <| HO_10.out) (Kd.R_base ho0) hb); have n2_ := Aside0.mk (Kd.R_below (by exact Ho.RS <| HO_11.out) hb); have n3_ := Aside0.mk (Kd.R_below (by exact Ho.RS <| HO_123002.out) hb); have n4_ := Aside0.mk (Kd.R_below (by exact Ho.RS <| HO136.out) hb); have n5_ := Aside0.mk (Kd.R_lower (Kd.R_new' ho0 (Kd.R_lt (by exact Ho.RS <| HO_10.out))) (below_size (by exact eS HB.out))); have n6_ := Aside0.mk (blk_below (bS BK101.out) hb); have n7_ := Aside0.mk (blk_below (bS BK122.out) hb); have n8_ := Aside0.mk (below_step (by exact eS HB.out) hb); clear HO_6; clear HO_10; clear HO_11; clear HO_123002; clear HO136; clear BK101; clear BK122; clear HB; have HO_6 := n0_; have HO_10 := n1_; have HO_11 := n2_; have HO_123002 := n3_; have HO136 := n4_; have HO140 := n5_; have BK101 := n6_; have BK122 := n7_; have HB := n8_; clear n0_ n1_ n2_ n3_ n4_ n5_ n6_ n7_ n8_; (try clear hb); (try clear hb2); (try clear hk); (try clear hi); (try clear ho0); obtain ⟨Ao63, co63, eo63⟩ := Kd.R_slice HO140.out; subst eo63) | ((with_reducible refine gate_callee (f := 24) rfl ?_); refine goesL_ (some 72) rfl rfl Try.func24 (by kernel_rfl) rfl #[.slice Ao37 t123.length co37, .slice Ao63 t138.length co63] rfl (by (try simp only [List.map_toArray, List.map_cons, List.map_nil]); first | done | rfl | (simp only [List.length_drop, List.length_take]; rfl)) ?_; (with_reducible refine (laws_eqFlawS.calls kj18 _ _ t123 _ _ t138 true _ ?side1 ?side2 ?side3 ?side4 A53.out).mono ?_); (case side1 => repeat (first | exact (Kd.R_reads' HO_10.out).2.2 | (with_reducible refine Kd.C_alloc ?_ _) | (with_reducible refine Kd.C_drewN ?_ _) | (with_reducible refine Kd.C_drew ?_))); (case side2 => exact (Kd.R_reads' HO_10.out).2.1); (case side3 => repeat (first | exact (Kd.R_reads' HO140.out).2.2 | (with_reducible refine Kd.C_alloc ?_ _) | (with_reducible refine Kd.C_drewN ?_ _) | (with_reducible refine Kd.C_drew ?_))); (case side4 => exact (Kd.R_reads' HO140.out).2.1); rintro e w64 ⟨rfl, hb⟩; refine ⟨_, rfl, ?_⟩; have n0_ := Aside0.mk (Kd.R_below (by exact Ho.RS <| HO_6.out) hb); have n1_ := Aside0.mk (Kd.R_below (by exact Ho.RS <| HO_10.out) hb); have n2_ := Aside0.mk (Kd.R_below (by exact Ho.RS <| HO_11.out) hb); have n3_ := Aside0.mk (Kd.R_below (by exact Ho.RS <| HO_123002.out) hb); have n4_ := Aside0.mk (Kd.R_below (by exact Ho.RS <| HO136.out) hb); have n5_ := Aside0.mk (Kd.R_below (by exact Ho.RS <| HO140.out) hb); have n6_ := Aside0.mk (blk_below (bS BK101.out) hb); have n7_ := Aside0.mk (blk_below (bS BK122.out) hb); have n8_ := Aside0.mk (below_step (by exact eS HB.out) hb); clear HO_6; clear HO_10; clear HO_11; clear HO_123002; clear HO136; clear HO140; clear BK101; clear BK122; clear HB; have HO_6 := n0_; have HO_10 := n1_; have HO_11 := n2_; have HO_123002 := n3_; have HO136 := n4_; have HO140 := n5_; have BK101 := n6_; have BK122 := n7_; have HB := n8_; clear n0_ n1_ n2_ n3_ n4_ n5_ n6_ n7_ n8_; (try clear hb); (try clear hb2); (try clear hk); (try clear hi); have hnb65 := NB122_101.out; have hnc65 := NB101_122.out; have hcz66_0 : w64.cell? ⟨gb122, 0, none⟩ = some (.int .i64 t117) := (blk_cell BK122.out 0).trans rfl; have hcz66_1 : w64.cell? ⟨gb122, 1, none⟩ = some (.int .i64 t118) := (blk_cell BK122.out 1).trans rfl; have hcz66_2 : w64.cell? ⟨gb122, 2, none⟩ = some (.slice Ao34 t119.length co34) := (blk_cell BK122.out 2).trans rfl; have hfz66_0 := blk_frozen BK122.out 0; have hfz66_1 := blk_frozen BK122.out 1; have hfz66_2 := blk_frozen BK122.out 2) | ((with_reducible refine gate_callee (f := 30) rfl ?_); refine goesL_ (some 76) rfl rfl Try.func30 (by kernel_rfl) rfl #[.agg #[.int .i64 t117, .int .i64 t118, .slice Ao34 t119.length co34], .int .i64 1] rfl (by (try simp only [List.map_toArray, List.map_cons, List.map_nil]); first | done | rfl | (simp only [List.length_drop, List.length_take]; rfl)) ?_; (with_reducible refine (laws_markChart.calls kj18 t117 t118 (fun k_ => some k_ = (.slice Ao34 t119.length co34 : Value).ownBlock) (.slice Ao34 t119.length co34) t119 1 t142 t143 w _ ?side1 ?side2 A55.out).mono ?_); (case side1 => exact eS HB.out); (case side2 => exact Kd.R_tight rfl HO_123002.out); rintro e w67 ⟨rfl, hy0, hb, hkp⟩; refine ⟨_, rfl, ?_⟩; have n0_ := Aside0.mk (Kd.R_mono (ok' := fun k_ => some k_ ≠ (v127 : Value).ownBlock ∧ some k_ ≠ (.slice Ao34 t119.length co34 : Value).ownBlock ∧ some k_ ≠ (.slice Ao60 t134.length co60 : Value).ownBlock) (Kd.R_keptB (HO_6.out) hkp (fun k_ hk_ hs_ => (hk_.1.2) hs_)) (fun k_ hk_ => ⟨hk_.1.1.1, hk_.1.1.2, hk_.1.2⟩)); have n1_ := Aside0.mk (Kd.R_mono (ok' := fun k_ => some k_ ≠ (.slice Ao63 t138.length co63 : Value).ownBlock) (Kd.R_keptB ((Kd.R_apart' HO_10.out (Kd.R_typed HO_123002.out) (by decide))) hkp (fun k_ hk_ hs_ => (hk_.2) hs_)) (fun k_ hk_ => hk_.1.1.2)); have n2_ := Aside0.mk (Kd.R_mono (ok' := fun k_ => some k_ ≠ (v113 : Value).ownBlock ∧ some k_ ≠ (.slice Ao34 t119.length co34 : Value).ownBlock ∧ some k_ ≠ (.slice Ao60 t134.length co60 : Value).ownBlock) (Kd.R_keptB (HO_11.out) hkp (fun k_ hk_ hs_ => (hk_.1.2) hs_)) (fun k_ hk_ => ⟨hk_.1.1.1, hk_.1.1.2, hk_.1.2⟩)); have n3_ := Aside0.mk (Kd.R_reok rfl hy0 (fun k_ e_ => HO_123002.out.1 k_ e_)); have n4_ := Aside0.mk (blk_kept (by exact bS BK101.out) hkp (fun hs_ => (fun e_ => (Kd.R_ne HO_123002.out BK101.out (by decide)) e_) hs_)); have n5_ := Aside0.mk (blk_kept (by exact bS BK122.out) hkp (fun hs_ => (fun e_ => (Kd.R_ne HO_123002.out BK122.out (by decide)) e_) hs_)); have n6_ := Aside0.mk (Kd.R_mono (ok' := fun k_ => some k_ ≠ (v113 : Value).ownBlock ∧ some k_ ≠ (v127 : Value).ownBlock ∧ some k_ ≠ (.slice Ao34 t119.length co34 : Value).ownBlock) (Kd.R_keptB (HO136.out) hkp (fun k_ hk_ hs_ => (hk_.2) hs_)) (fun k_ hk_ => ⟨hk_.1.1.1.2, hk_.1.1.2, hk_.1.2⟩)); have n7_ := Aside0.mk (Kd.R_mono (ok' := fun k_ => some k_ ≠ (.slice Ao37 t123.length co37 : Value).ownBlock) (Kd.R_keptB ((Kd.R_apart' HO140.out (Kd.R_typed HO_123002.out) (by decide))) hkp (fun k_ hk_ hs_ => (hk_.2) hs_)) (fun k_ hk_ => hk_.1.1.2)); have n8_ := Aside0.mk (hb); clear HO_6; clear HO_10; clear HO_11; clear HO_123002; clear BK101; clear BK122; clear HO136; clear HO140; clear HB; have HO_6 := n0_; have HO_10 := n1_; have HO_11 := n2_; have HO_123002 := n3_; have BK101 := n4_; have BK122 := n5_; have HO136 := n6_; have HO140 := n7_; have HB := n8_; clear n0_ n1_ n2_ n3_ n4_ n5_ n6_ n7_ n8_; (try clear hb); (try clear hkp); (try clear hy0)) | ((with_reducible refine gate_callee (f := 31) rfl ?_); refine goesL_ (some 79) rfl rfl Try.func31 (by kernel_rfl) rfl #[.slice Ao37 t123.length co37, .int .i64 t142] rfl (by (try simp only [List.map_toArray, List.map_cons, List.map_nil]); first | done | rfl | (simp only [List.length_drop, List.length_take]; rfl)) ?_; (with_reducible refine (laws_markFlawS.calls kj18 (fun k_ => some k_ = (.slice Ao37 t123.length co37 : Value).ownBlock) (.slice Ao37 t123.length co37) t123 t142 t144 t145 w _ ?side1 ?side2 A56.out).mono ?_); (case side1 => exact eS HB.out); (case side2 => exact Kd.R_tight rfl HO_10.out); rintro e w68 ⟨rfl, hy0, hb, hkp⟩; refine ⟨_, rfl, ?_⟩; have n0_ := Aside0.mk (Kd.R_mono (ok' := fun k_ => some k_ ≠ (v127 : Value).ownBlock ∧ some k_ ≠ (.slice Ao34 t119.length co34 : Value).ownBlock ∧ some k_ ≠ (.slice Ao60 t134.length co60 : Value).ownBlock) (Kd.R_keptB ((Kd.R_apart' HO_6.out (Kd.R_typed HO_10.out) (by decide))) hkp (fun k_ hk_ hs_ => (hk_.2) hs_)) (fun k_ hk_ => ⟨hk_.1.1.1, hk_.1.1.2.1, hk_.1.1.2.2⟩)); have n1_ := Aside0.mk (Kd.R_reok rfl hy0 (fun k_ e_ => HO_10.out.1 k_ e_)); have n2_ := Aside0.mk (Kd.R_mono (ok' := fun k_ => some k_ ≠ (v113 : Value).ownBlock ∧ some k_ ≠ (.slice Ao34 t119.length co34 : Value).ownBlock ∧ some k_ ≠ (.slice Ao60 t134.length co60 : Value).ownBlock) (Kd.R_keptB ((Kd.R_apart' HO_11.out (Kd.R_typed HO_10.out) (by decide))) hkp (fun k_ hk_ hs_ => (hk_.2) hs_)) (fun k_ hk_ => ⟨hk_.1.1.1, hk_.1.1.2.1, hk_.1.1.2.2⟩)); have n3_ := Aside0.mk (Kd.R_mono (ok' := fun k_ => some k_ ≠ (v113 : Value).ownBlock ∧ some k_ ≠ (v127 : Value).ownBlock ∧ some k_ ≠ (.slice Ao60 t134.length co60 : Value).ownBlock) (Kd.R_keptB ((Kd.R_apart' HO_123002.out (Kd.R_typed HO_10.out) (by decide))) hkp (fun k_ hk_ hs_ => (hk_.2) hs_)) (fun k_ hk_ => ⟨hk_.1.1.1.1, hk_.1.1.1.2, hk_.1.1.2⟩)); have n4_ := Aside0.mk (blk_kept (by exact bS BK101.out) hkp (fun hs_ => (fun e_ => (Kd.R_ne HO_10.out BK101.out (by decide)) e_) hs_)); have n5_ := Aside0.mk (blk_kept (by exact bS BK122.out) hkp (fun hs_ => (fun e_ => (Kd.R_ne HO_10.out BK122.out (by decide)) e_) hs_)); have n6_ := Aside0.mk (Kd.R_mono (ok' := fun k_ => some k_ ≠ (v113 : Value).ownBlock ∧ some k_ ≠ (v127 : Value).ownBlock ∧ some k_ ≠ (.slice Ao34 t119.length co34 : Value).ownBlock) (Kd.R_keptB ((Kd.R_apart' HO136.out (Kd.R_typed HO_10.out) (by decide))) hkp (fun k_ hk_ hs_ => (hk_.2) hs_)) (fun k_ hk_ => ⟨hk_.1.1.1, hk_.1.1.2.1, hk_.1.1.2.2⟩)); have n7_ := Aside0.mk (Kd.R_mono (ok' := fun k_ => some k_ ≠ (.slice Ao37 t123.length co37 : Value).ownBlock) (Kd.R_keptB (HO140.out) hkp (fun k_ hk_ hs_ => (hk_) hs_)) (fun k_ hk_ => hk_.1)); have n8_ := Aside0.mk (hb); clear HO_6; clear HO_10; clear HO_11; clear HO_123002; clear BK101; clear BK122; clear HO136; clear HO140; clear HB; have HO_6 := n0_; have HO_10 := n1_; have HO_11 := n2_; have HO_123002 := n3_; have BK101 := n4_; have BK122 := n5_; have HO136 := n6_; have HO140 := n7_; have HB := n8_; clear n0_ n1_ n2_ n3_ n4_ n5_ n6_ n7_ n8_; (try clear hb); (try clear hkp); (try clear hy0)))
        (try simp only [Act.put, List.setIfInBounds_toArray, List.set_cons_zero, List.set_cons_succ])
        go_cut [97] (fun v97 wc => ∃ (kq : Nat) (x97_56 : Bool), v97 = .bool x97_56 ∧ Aside0 (laws_FnExactWorstRows.j1 kq l1 t112 t115 t116 t126 x97_56 a0_0 a0_1 l0_2 = some r) ∧ Aside0 (kq ≤ kj18) ∧ Aside0 (Kd.R (Kd.int .i64) 3 wc w.heap.size (fun k_ => some k_ ≠ (v127 : Value).ownBlock ∧ some k_ ≠ ((.slice Ao34 t119.length co34) : Value).ownBlock) v113 t112) ∧ Aside0 (Kd.R (Kd.int .i64) 3 wc w.heap.size (fun k_ => some k_ ≠ (v113 : Value).ownBlock ∧ some k_ ≠ ((.slice Ao34 t119.length co34) : Value).ownBlock) v127 t126) ∧ Aside0 (Kd.R (Kd.int .i64) 3 wc w.heap.size (fun k_ => some k_ ≠ (v113 : Value).ownBlock ∧ some k_ ≠ (v127 : Value).ownBlock) (.slice Ao34 t119.length co34) t143) ∧ Aside0 (wc.heap[gb101]? = some (.cells #[.int .i64 a0_0, .int .i64 a0_1, (.slice A0_2 l0_2.length c0_2)] 24 (0, 0))) ∧ Aside0 (wc.heap[gb122]? = some (.cells #[.int .i64 t117, .int .i64 t118, (.slice Ao34 t119.length co34)] 30 (0, 0))) ∧ Aside0 (Below w.heap.size w wc))
        case first =>
         have H := HC57.out
         clear HC57
         by_cases c69 : t144 < 0
         ·rw [if_pos c69] at H
          have c69b0 : decide (t144 < 0) = true := decide_eq_true c69
          clear c69
          (first | rw [c69b0] | (simp only [i64_w, i32_w]; rw [c69b0]) | skip)
          as_aux_lemma =>
           have H' := Aside0.mk H
           clear H
           go_wp2
           go_meet
           case rel => exact ⟨_, (true), (by first | rfl | (simp; done) | (simp [*]; done)), H', ⟨by have := HJ18.out; first | omega | exact Nat.le_refl _⟩, ⟨by exact Ho.RS <| Kd.R_mono HO_6.out (fun _ hk => ⟨hk.1, hk.2.1⟩)⟩, ⟨by exact Ho.RS <| Kd.R_mono HO_11.out (fun _ hk => ⟨hk.1, hk.2.1⟩)⟩, ⟨by exact Ho.RS <| Kd.R_mono HO_123002.out (fun _ hk => ⟨hk.1, hk.2.1⟩)⟩, ⟨by exact bS BK101.out⟩, ⟨by exact bS BK122.out⟩, ⟨by exact eS HB.out⟩⟩
         ·rw [if_neg c69] at H
          have c69b0 : decide (t144 < 0) = false := decide_eq_false c69
          clear c69
          (first | rw [c69b0] | (simp only [i64_w, i32_w]; rw [c69b0]) | skip)
          replace H := Option.bind_eq_some_iff.mp H
          obtain ⟨t146, A700, H⟩ := H
          replace H : (if t146 = true then (if t129 = t115 then (laws_FnExactWorstRows.j1 kj18 l1 t112 t115 t116 t126 (t130 != t116) a0_0 a0_1 l0_2) else (laws_FnExactWorstRows.j1 kj18 l1 t112 t115 t116 t126 true a0_0 a0_1 l0_2)) else (laws_FnExactWorstRows.j1 kj18 l1 t112 t115 t116 t126 true a0_0 a0_1 l0_2)) = some r := H
          have A70 := Aside0.mk A700
          clear A700
          by_cases c71 : t146 = true
          ·subst c71
           have H1 : (if t129 = t115 then (laws_FnExactWorstRows.j1 kj18 l1 t112 t115 t116 t126 (t130 != t116) a0_0 a0_1 l0_2) else (laws_FnExactWorstRows.j1 kj18 l1 t112 t115 t116 t126 true a0_0 a0_1 l0_2)) = some r := by rw [if_pos rfl] at H; exact H
           clear H
           have H := H1
           clear H1
           by_cases c72 : t129 = t115
           ·rw [if_pos c72] at H
            have c72b0 : (t129 == t115) = true := beq_iff_eq.mpr c72
            have c72b1 : (t129 != t115) = false := bne_eq_false_iff_eq.mpr c72
            clear c72
            as_aux_lemma =>
             have H' := Aside0.mk H
             clear H
             obtain ⟨Ao73, co73, eo73⟩ := Kd.R_slice HO_11.out
             subst eo73
             obtain ⟨Ao74, co74, eo74⟩ := Kd.R_slice HO_6.out
             subst eo74
             go_wp2_with (first | (go_at_call 29; (with_reducible refine (laws_eqIntS.calls kj18 _ _ t126 _ _ t112 true _ ?side1 ?side2 ?side3 ?side4 A70.out).mono ?_); (case side1 => repeat (first | exact (Kd.R_reads' HO_11.out).2.2 | (with_reducible refine Kd.C_alloc ?_ _) | (with_reducible refine Kd.C_drewN ?_ _) | (with_reducible refine Kd.C_drew ?_))); (case side2 => exact (Kd.R_reads' HO_11.out).2.1); (case side3 => repeat (first | exact (Kd.R_reads' HO_6.out).2.2 | (with_reducible refine Kd.C_alloc ?_ _) | (with_reducible refine Kd.C_drewN ?_ _) | (with_reducible refine Kd.C_drew ?_))); (case side4 => exact (Kd.R_reads' HO_6.out).2.1); rintro e w' ⟨rfl, ⟨nd, rfl⟩⟩))
             go_meet
             case rel => exact ⟨_, ((t130 != t116)), (by first | rfl | (simp; done) | (simp [*]; done)), H', ⟨by have := HJ18.out; first | omega | exact Nat.le_refl _⟩, ⟨by exact Ho.RS <| Kd.R_mono HO_6.out (fun _ hk => ⟨hk.1, hk.2.1⟩)⟩, ⟨by exact Ho.RS <| Kd.R_mono HO_11.out (fun _ hk => ⟨hk.1, hk.2.1⟩)⟩, ⟨by exact Ho.RS <| Kd.R_mono HO_123002.out (fun _ hk => ⟨hk.1, hk.2.1⟩)⟩, ⟨by exact bS BK101.out⟩, ⟨by exact bS BK122.out⟩, ⟨by exact eS HB.out⟩⟩
           ·rw [if_neg c72] at H
            have c72b0 : (t129 == t115) = false := beq_eq_false_iff_ne.mpr c72
            have c72b1 : (t129 != t115) = true := bne_iff_ne.mpr c72
            as_aux_lemma =>
             have H' := Aside0.mk H
             clear H
             obtain ⟨Ao75, co75, eo75⟩ := Kd.R_slice HO_11.out
             subst eo75
             obtain ⟨Ao76, co76, eo76⟩ := Kd.R_slice HO_6.out
             subst eo76
             go_wp2_with (first | (go_at_call 29; (with_reducible refine (laws_eqIntS.calls kj18 _ _ t126 _ _ t112 true _ ?side1 ?side2 ?side3 ?side4 A70.out).mono ?_); (case side1 => repeat (first | exact (Kd.R_reads' HO_11.out).2.2 | (with_reducible refine Kd.C_alloc ?_ _) | (with_reducible refine Kd.C_drewN ?_ _) | (with_reducible refine Kd.C_drew ?_))); (case side2 => exact (Kd.R_reads' HO_11.out).2.1); (case side3 => repeat (first | exact (Kd.R_reads' HO_6.out).2.2 | (with_reducible refine Kd.C_alloc ?_ _) | (with_reducible refine Kd.C_drewN ?_ _) | (with_reducible refine Kd.C_drew ?_))); (case side4 => exact (Kd.R_reads' HO_6.out).2.1); rintro e w' ⟨rfl, ⟨nd, rfl⟩⟩))
             go_meet
             case rel => exact ⟨_, (true), (by first | rfl | (simp; done) | (simp [*]; done)), H', ⟨by have := HJ18.out; first | omega | exact Nat.le_refl _⟩, ⟨by exact Ho.RS <| Kd.R_mono HO_6.out (fun _ hk => ⟨hk.1, hk.2.1⟩)⟩, ⟨by exact Ho.RS <| Kd.R_mono HO_11.out (fun _ hk => ⟨hk.1, hk.2.1⟩)⟩, ⟨by exact Ho.RS <| Kd.R_mono HO_123002.out (fun _ hk => ⟨hk.1, hk.2.1⟩)⟩, ⟨by exact bS BK101.out⟩, ⟨by exact bS BK122.out⟩, ⟨by exact eS HB.out⟩⟩
          ·replace c71 := Bool.eq_false_iff.mpr c71
           subst c71
           have H1 : (laws_FnExactWorstRows.j1 kj18 l1 t112 t115 t116 t126 true a0_0 a0_1 l0_2) = some r := by rw [if_neg (show ¬ (false = true) by decide)] at H; exact H
           clear H
           have H := H1
           clear H1
           as_aux_lemma =>
            have H' := Aside0.mk H
            clear H
            obtain ⟨Ao77, co77, eo77⟩ := Kd.R_slice HO_11.out
            subst eo77
            obtain ⟨Ao78, co78, eo78⟩ := Kd.R_slice HO_6.out
            subst eo78
            go_wp2_with (first | (go_at_call 29; (with_reducible refine (laws_eqIntS.calls kj18 _ _ t126 _ _ t112 false _ ?side1 ?side2 ?side3 ?side4 A70.out).mono ?_); (case side1 => repeat (first | exact (Kd.R_reads' HO_11.out).2.2 | (with_reducible refine Kd.C_alloc ?_ _) | (with_reducible refine Kd.C_drewN ?_ _) | (with_reducible refine Kd.C_drew ?_))); (case side2 => exact (Kd.R_reads' HO_11.out).2.1); (case side3 => repeat (first | exact (Kd.R_reads' HO_6.out).2.2 | (with_reducible refine Kd.C_alloc ?_ _) | (with_reducible refine Kd.C_drewN ?_ _) | (with_reducible refine Kd.C_drew ?_))); (case side4 => exact (Kd.R_reads' HO_6.out).2.1); rintro e w' ⟨rfl, ⟨nd, rfl⟩⟩))
            go_meet
            case rel => exact ⟨_, (true), (by first | rfl | (simp; done) | (simp [*]; done)), H', ⟨by have := HJ18.out; first | omega | exact Nat.le_refl _⟩, ⟨by exact Ho.RS <| Kd.R_mono HO_6.out (fun _ hk => ⟨hk.1, hk.2.1⟩)⟩, ⟨by exact Ho.RS <| Kd.R_mono HO_11.out (fun _ hk => ⟨hk.1, hk.2.1⟩)⟩, ⟨by exact Ho.RS <| Kd.R_mono HO_123002.out (fun _ hk => ⟨hk.1, hk.2.1⟩)⟩, ⟨by exact bS BK101.out⟩, ⟨by exact bS BK122.out⟩, ⟨by exact eS HB.out⟩⟩
        case rest =>
         clear HC57
         try clear c1
         try clear c2
         try clear p2
         try clear c3
         try clear c4
         try clear c4b0
         try clear c5
         try clear c6
         try clear c7
         try clear c8
         try clear c9
         try clear c9b0
         try clear c14
         try clear c16
         try clear c19
         try clear c20
         try clear c22
         try clear c24
         try clear c29
         try clear c30
         try clear c31
         try clear c32
         try clear c36
         try clear c37
         try clear c40
         try clear c41
         try clear c41b0
         try clear c41b1
         try clear c48
         try clear c51
         try clear c54
         try clear c65
         try clear c69
         try clear c69b0
         try clear c71
         try clear c72
         try clear c72b0
         try clear c72b1
         try clear hcz11_0
         try clear hcz11_1
         try clear hcz11_2
         try clear hcz21_0
         try clear hcz21_1
         try clear hcz21_2
         try clear hcz23_0
         try clear hcz23_1
         try clear hcz23_2
         try clear hcz29_0
         try clear hcz29_1
         try clear hcz29_2
         try clear hcz33_0
         try clear hcz33_1
         try clear hcz33_2
         try clear hcz36_0
         try clear hcz36_1
         try clear hcz36_2
         try clear hcz66_0
         try clear hcz66_1
         try clear hcz66_2
         try clear hcz6_0
         try clear hcz6_1
         try clear hcz6_2
         try clear hfz11_0
         try clear hfz11_1
         try clear hfz11_2
         try clear hfz21_0
         try clear hfz21_1
         try clear hfz21_2
         try clear hfz23_0
         try clear hfz23_1
         try clear hfz23_2
         try clear hfz29_0
         try clear hfz29_1
         try clear hfz29_2
         try clear hfz33_0
         try clear hfz33_1
         try clear hfz33_2
         try clear hfz36_0
         try clear hfz36_1
         try clear hfz36_2
         try clear hfz66_0
         try clear hfz66_1
         try clear hfz66_2
         try clear hfz6_0
         try clear hfz6_1
         try clear hfz6_2
         try clear p2
         obtain ⟨kq, x97_56, rfl, HA, HJ56, HO_6, HO_11, HO_123002, BK101, BK122, HB⟩ := hcut
         have hl123002_56 := (Kd.R_reads' HO_123002.out).1
         rw [hl123002_56] at HO_123002
         (try simp only [hl123002_56])
         (try simp only [hl123002_56] at BK101)
         (try simp only [hl123002_56] at BK122)
         (try simp only [hl123002_56] at HO_6)
         (try simp only [hl123002_56] at HO_11)
         cases kq with
         | zero => exact absurd HA.out (by simp [laws_FnExactWorstRows.j1])
         | succ kj56 =>
          have H := HA.out
          clear HA
          simp only [laws_FnExactWorstRows.j1] at H
          by_cases c79 : x97_56 = true
          ·subst c79
           have H1 : (some false) = some r := by rw [if_pos rfl] at H; exact H
           clear H
           have H := H1
           clear H1
           as_aux_lemma =>
            exact absurd ((Option.some.inj H).trans HT.out) (by decide)
          ·replace c79 := Bool.eq_false_iff.mpr c79
           subst c79
           have H1 : ((laws_markIntS.f kj56 t126 1).bind fun bt147 => ((laws_heldIntS.f kj56 bt147.2 1).bind fun t149 => (if t149 < 0 then (some false) else (if t149 = bt147.1 then ((laws_toChart.f kj56 a0_0 a0_1 l0_2).bind fun bt150 => ((laws_toFlawS.f kj56 l1).bind fun t155 => ((impl_WorstRows.f kj56 bt150.1 bt150.2.1 bt150.2.2 t155).bind fun bt158 => ((laws_eqIntS.f kj56 bt158.1 t112).bind fun t163 => (if t163 = true then (if bt158.2.1 = t115 then (laws_FnExactWorstRows.j2 kj56 bt147.2 bt147.1 (bt158.2.2 != t116)) else (laws_FnExactWorstRows.j2 kj56 bt147.2 bt147.1 true)) else (laws_FnExactWorstRows.j2 kj56 bt147.2 bt147.1 true)))))) else (some false))))) = some r := by rw [if_neg (show ¬ (false = true) by decide)] at H; exact H
           clear H
           have H := H1
           clear H1
           replace H := Option.bind_eq_some_iff.mp H
           obtain ⟨⟨t147, t148⟩, A800, H⟩ := H
           replace H : ((laws_heldIntS.f kj56 t148 1).bind fun t149 => (if t149 < 0 then (some false) else (if t149 = t147 then ((laws_toChart.f kj56 a0_0 a0_1 l0_2).bind fun bt150 => ((laws_toFlawS.f kj56 l1).bind fun t155 => ((impl_WorstRows.f kj56 bt150.1 bt150.2.1 bt150.2.2 t155).bind fun bt158 => ((laws_eqIntS.f kj56 bt158.1 t112).bind fun t163 => (if t163 = true then (if bt158.2.1 = t115 then (laws_FnExactWorstRows.j2 kj56 t148 t147 (bt158.2.2 != t116)) else (laws_FnExactWorstRows.j2 kj56 t148 t147 true)) else (laws_FnExactWorstRows.j2 kj56 t148 t147 true)))))) else (some false)))) = some r := H
           have A80 := Aside0.mk A800
           clear A800
           replace H := Option.bind_eq_some_iff.mp H
           obtain ⟨t149, A810, H⟩ := H
           replace H : (if t149 < 0 then (some false) else (if t149 = t147 then ((laws_toChart.f kj56 a0_0 a0_1 l0_2).bind fun bt150 => ((laws_toFlawS.f kj56 l1).bind fun t155 => ((impl_WorstRows.f kj56 bt150.1 bt150.2.1 bt150.2.2 t155).bind fun bt158 => ((laws_eqIntS.f kj56 bt158.1 t112).bind fun t163 => (if t163 = true then (if bt158.2.1 = t115 then (laws_FnExactWorstRows.j2 kj56 t148 t147 (bt158.2.2 != t116)) else (laws_FnExactWorstRows.j2 kj56 t148 t147 true)) else (laws_FnExactWorstRows.j2 kj56 t148 t147 true)))))) else (some false))) = some r := H
           have A81 := Aside0.mk A810
           clear A810
           by_cases c82 : t149 < 0
           ·rw [if_pos c82] at H
            have c82b0 : decide (t149 < 0) = true := decide_eq_true c82
            clear c82
            as_aux_lemma =>
             exact absurd ((Option.some.inj H).trans HT.out) (by decide)
           ·rw [if_neg c82] at H
            have c82b0 : decide (t149 < 0) = false := decide_eq_false c82
            clear c82
            by_cases c83 : t149 = t147
            ·rw [if_pos c83] at H
             have c83b0 : (t149 == t147) = true := beq_iff_eq.mpr c83
             have c83b1 : (t149 != t147) = false := bne_eq_false_iff_eq.mpr c83
             clear c83
             replace H := Option.bind_eq_some_iff.mp H
             obtain ⟨⟨t150, t151, t152⟩, A840, H⟩ := H
             replace H : ((laws_toFlawS.f kj56 l1).bind fun t155 => ((impl_WorstRows.f kj56 t150 t151 t152 t155).bind fun bt158 => ((laws_eqIntS.f kj56 bt158.1 t112).bind fun t163 => (if t163 = true then (if bt158.2.1 = t115 then (laws_FnExactWorstRows.j2 kj56 t148 t147 (bt158.2.2 != t116)) else (laws_FnExactWorstRows.j2 kj56 t148 t147 true)) else (laws_FnExactWorstRows.j2 kj56 t148 t147 true))))) = some r := H
             have A84 := Aside0.mk A840
             clear A840
             replace H := Option.bind_eq_some_iff.mp H
             obtain ⟨t155, A850, H⟩ := H
             replace H : ((impl_WorstRows.f kj56 t150 t151 t152 t155).bind fun bt158 => ((laws_eqIntS.f kj56 bt158.1 t112).bind fun t163 => (if t163 = true then (if bt158.2.1 = t115 then (laws_FnExactWorstRows.j2 kj56 t148 t147 (bt158.2.2 != t116)) else (laws_FnExactWorstRows.j2 kj56 t148 t147 true)) else (laws_FnExactWorstRows.j2 kj56 t148 t147 true)))) = some r := H
             have A85 := Aside0.mk A850
             clear A850
             replace H := Option.bind_eq_some_iff.mp H
             obtain ⟨⟨t158, t161, t162⟩, A860, H⟩ := H
             replace H : ((laws_eqIntS.f kj56 t158 t112).bind fun t163 => (if t163 = true then (if t161 = t115 then (laws_FnExactWorstRows.j2 kj56 t148 t147 (t162 != t116)) else (laws_FnExactWorstRows.j2 kj56 t148 t147 true)) else (laws_FnExactWorstRows.j2 kj56 t148 t147 true))) = some r := H
             have A86 := Aside0.mk A860
             clear A860
             have HC87 := Aside0.mk H
             clear H
             obtain ⟨Ao88, co88, eo88⟩ := Kd.R_slice HO_11.out
             subst eo88
             go_upto_region 32 with (first | ((with_reducible refine gate_callee (f := 32) rfl ?_); refine goesL_ (some 100) rfl rfl Try.func32 (by kernel_rfl) rfl #[.slice Ao88 t126.length co88, .int .i64 1] rfl (by (try simp only [List.map_toArray, List.map_cons, List.map_nil]); first | done | rfl | (simp only [List.length_drop, List.length_take]; rfl)) ?_; (with_reducible refine (laws_markIntS.calls kj56 (fun k_ => some k_ = (.slice Ao88 t126.length co88 : Value).ownBlock) (.slice Ao88 t126.length co88) t126 1 t147 t148 w _ ?side1 ?side2 A80.out).mono ?_); (case side1 => exact eS HB.out); (case side2 => exact Kd.R_tight rfl HO_11.out); rintro e w89 ⟨rfl, hy0, hb, hkp⟩; refine ⟨_, rfl, ?_⟩; have n0_ := Aside0.mk (Kd.R_mono (ok' := fun k_ => some k_ ≠ (.slice Ao88 t126.length co88 : Value).ownBlock ∧ some k_ ≠ (.slice Ao34 t143.length co34 : Value).ownBlock) (Kd.R_keptB (HO_6.out) hkp (fun k_ hk_ hs_ => (hk_.1) hs_)) (fun k_ hk_ => ⟨hk_.1.1, hk_.1.2⟩)); have n1_ := Aside0.mk (Kd.R_reok rfl hy0 (fun k_ e_ => HO_11.out.1 k_ e_)); have n2_ := Aside0.mk (Kd.R_mono (ok' := fun k_ => some k_ ≠ (v113 : Value).ownBlock ∧ some k_ ≠ (.slice Ao88 t126.length co88 : Value).ownBlock) (Kd.R_keptB (HO_123002.out) hkp (fun k_ hk_ hs_ => (hk_.2) hs_)) (fun k_ hk_ => ⟨hk_.1.1, hk_.1.2⟩)); have n3_ := Aside0.mk (blk_kept (by exact bS BK101.out) hkp (fun hs_ => (fun e_ => (Kd.R_ne HO_11.out BK101.out (by decide)) e_) hs_)); have n4_ := Aside0.mk (blk_kept (by exact bS BK122.out) hkp (fun hs_ => (fun e_ => (Kd.R_ne HO_11.out BK122.out (by decide)) e_) hs_)); have n5_ := Aside0.mk (hb); clear HO_6; clear HO_11; clear HO_123002; clear BK101; clear BK122; clear HB; have HO_6 := n0_; have HO_11 := n1_; have HO_123002 := n2_; have BK101 := n3_; have BK122 := n4_; have HB := n5_; clear n0_ n1_ n2_ n3_ n4_ n5_; (try clear hb); (try clear hkp); (try clear hy0)) | ((with_reducible refine gate_callee (f := 33) rfl ?_); refine goesL_ (some 103) rfl rfl Try.func33 (by kernel_rfl) rfl #[.slice Ao88 t148.length co88, .int .i64 1] rfl (by (try simp only [List.map_toArray, List.map_cons, List.map_nil]); first | done | (rw [show t148.length = t126.length from (Kd.R_reads' HO_11.out).1.symm] <;> rfl) | rfl | (simp only [List.length_drop, List.length_take]; rfl)) ?_; (with_reducible refine (laws_heldIntS.calls kj56 _ _ t148 1 t149 _ ?side1 ?side2 A81.out).mono ?_); (case side1 => repeat (first | exact (Kd.R_reads' HO_11.out).2.2 | (with_reducible refine Kd.C_alloc ?_ _) | (with_reducible refine Kd.C_drewN ?_ _) | (with_reducible refine Kd.C_drew ?_))); (case side2 => rw [show t148.length = t126.length from (Kd.R_reads' HO_11.out).1.symm]; exact (Kd.R_reads' HO_11.out).2.1); rintro e w' ⟨rfl, ⟨nd, rfl⟩⟩; refine ⟨_, rfl, ?_⟩; have hnb90 := NB101_122.out; have hnc90 := NB122_101.out; have hcz91_0 : w89.cell? ⟨gb101, 0, none⟩ = some (.int .i64 a0_0) := (blk_cell BK101.out 0).trans rfl; have hcz91_1 : w89.cell? ⟨gb101, 1, none⟩ = some (.int .i64 a0_1) := (blk_cell BK101.out 1).trans rfl; have hcz91_2 : w89.cell? ⟨gb101, 2, none⟩ = some (.slice A0_2 l0_2.length c0_2) := (blk_cell BK101.out 2).trans rfl; have hfz91_0 := blk_frozen BK101.out 0; have hfz91_1 := blk_frozen BK101.out 1; have hfz91_2 := blk_frozen BK101.out 2) | ((with_reducible refine gate_callee (f := 16) rfl ?_); refine goesL_ (some 111) rfl rfl Try.func16 (by kernel_rfl) rfl #[.agg #[.int .i64 a0_0, .int .i64 a0_1, .slice A0_2 l0_2.length c0_2]] rfl (by (try simp only [List.map_toArray, List.map_cons, List.map_nil]); first | done | rfl | (simp only [List.length_drop, List.length_take]; rfl)) ?_; (with_reducible refine (laws_toChart.calls kj56 a0_0 a0_1 _ _ l0_2 t150 t151 t152 _ ?side1 ?side2 A84.out).mono ?_); (case side1 => repeat (first | exact (Kd.C_below HR0_2.out (by exact eS HB.out)) | (with_reducible refine Kd.C_alloc ?_ _) | (with_reducible refine Kd.C_drewN ?_ _) | (with_reducible refine Kd.C_drew ?_))); (case side2 => exact HC0_2.out); rintro e w92 ⟨v153, rfl, ho0, hb⟩; refine ⟨_, rfl, ?_⟩; have n0_ := Aside0.mk (Kd.R_elder' (by exact Ho.RS <| HO_6.out) (Kd.R_base ho0) hb); have n1_ := Aside0.mk (Kd.R_elder' (by exact Ho.RS <| HO_11.out) (Kd.R_base ho0) hb); have n2_ := Aside0.mk (Kd.R_elder' (by exact Ho.RS <| HO_123002.out) (Kd.R_base ho0) hb); have n3_ := Aside0.mk (Kd.R_lower (Kd.R_new' (Kd.R_new' (Kd.R_new' ho0 (Kd.R_lt (by exact Ho.RS <| HO_6.out))) (Kd.R_lt (by exact Ho.RS <| HO_11.out))) (Kd.R_lt (by exact Ho.RS <| HO_123002.out))) (below_size (by exact eS HB.out))); have n4_ := Aside0.mk (blk_below (bS BK101.out) hb); have n5_ := Aside0.mk (blk_below (bS BK122.out) hb); have n6_ := Aside0.mk (below_step (by exact eS HB.out) hb); clear HO_6; clear HO_11; clear HO_123002; clear BK101; clear BK122; clear HB; have HO_6 := n0_; have HO_11 := n1_; have HO_123002 := n2_; have HO154 := n3_; have BK101 := n4_; have BK122 := n5_; have HB := n6_; clear n0_ n1_ n2_ n3_ n4_ n5_ n6_; (try clear hb); (try clear hb2); (try clear hk); (try clear hi); (try clear ho0)) | ((with_reducible refine gate_callee (f := 22) rfl ?_); refine goesL_ (some 113) rfl rfl Try.func22 (by kernel_rfl) rfl #[.slice A1 l1.length c1] rfl (by (try simp only [List.map_toArray, List.map_cons, List.map_nil]); first | done | rfl | (simp only [List.length_drop, List.length_take]; rfl)) ?_; (with_reducible refine (laws_toFlawS.calls kj56 _ _ l1 t155 _ ?side1 ?side2 A85.out).mono ?_); (case side1 => repeat (first | exact (Kd.C_below HR1.out HB.out) | (with_reducible refine Kd.C_alloc ?_ _) | (with_reducible refine Kd.C_drewN ?_ _) | (with_reducible refine Kd.C_drew ?_))); (case side2 => exact HC1.out); rintro e w93 ⟨v156, rfl, ho0, hb⟩; refine ⟨_, rfl, ?_⟩; have n0_ := Aside0.mk (Kd.R_below (by exact Ho.RS <| HO_6.out) hb); have n1_ := Aside0.mk (Kd.R_below (by exact Ho.RS <| HO_11.out) hb); have n2_ := Aside0.mk (Kd.R_below (by exact Ho.RS <| HO_123002.out) hb); have n3_ := Aside0.mk (Kd.R_below (by exact Ho.RS <| HO154.out) hb); have n4_ := Aside0.mk (Kd.R_lower ho0 (below_size (by exact eS HB.out))); have n5_ := Aside0.mk (blk_below (bS BK101.out) hb); have n6_ := Aside0.mk (blk_below (bS BK122.out) hb); have n7_ := Aside0.mk (below_step (by exact eS HB.out) hb); clear HO_6; clear HO_11; clear HO_123002; clear HO154; clear BK101; clear BK122; clear HB; have HO_6 := n0_; have HO_11 := n1_; have HO_123002 := n2_; have HO154 := n3_; have HO157 := n4_; have BK101 := n5_; have BK122 := n6_; have HB := n7_; clear n0_ n1_ n2_ n3_ n4_ n5_ n6_ n7_; (try clear hb); (try clear hb2); (try clear hk); (try clear hi); (try clear ho0); obtain ⟨Ao94, co94, eo94⟩ := Kd.R_slice HO154.out; subst eo94; obtain ⟨Ao95, co95, eo95⟩ := Kd.R_slice HO157.out; subst eo95) | ((with_reducible refine gate_callee (f := 37) rfl ?_); refine goesL_ (some 114) rfl rfl Try.func37 (by kernel_rfl) rfl #[.agg #[.int .i64 t150, .int .i64 t151, .slice Ao94 t152.length co94], .slice Ao95 t155.length co95] rfl (by (try simp only [List.map_toArray, List.map_cons, List.map_nil]); first | done | rfl | (simp only [List.length_drop, List.length_take]; rfl)) ?_; (with_reducible refine (impl_WorstRows.calls kj56 t150 t151 _ _ t152 _ _ t155 t158 t161 t162 _ ?side1 ?side2 ?side3 ?side4 A86.out).mono ?_); (case side1 => repeat (first | exact (Kd.R_reads' HO154.out).2.2 | (with_reducible refine Kd.C_alloc ?_ _) | (with_reducible refine Kd.C_drewN ?_ _) | (with_reducible refine Kd.C_drew ?_))); (case side2 => exact (Kd.R_reads' HO154.out).2.1); (case side3 => repeat (first | exact (Kd.R_reads' HO157.out).2.2 | (with_reducible refine Kd.C_alloc ?_ _) | (with_reducible refine Kd.C_drewN ?_ _) | (with_reducible refine Kd.C_drew ?_))); (case side4 => exact (Kd.R_reads' HO157.out).2.1); rintro e w96 ⟨v159, rfl, ho0, hb⟩; refine ⟨_, rfl, ?_⟩; have n0_ := Aside0.mk (Kd.R_elder' (by exact Ho.RS <| HO_6.out) (Kd.R_base ho0) hb); have n1_ := Aside0.mk (Kd.R_elder' (by exact Ho.RS <| HO_11.out) (Kd.R_base ho0) hb); have n2_ := Aside0.mk (Kd.R_elder' (by exact Ho.RS <| HO_123002.out) (Kd.R_base ho0) hb); have n3_ := Aside0.mk (Kd.R_elder' (by exact Ho.RS <| HO154.out) (Kd.R_base ho0) hb); have n4_ := Aside0.mk (Kd.R_below (by exact Ho.RS <| HO157.out) hb); have n5_ := Aside0.mk (Kd.R_lower (Kd.R_new' (Kd.R_new' (Kd.R_new' (Kd.R_new' ho0 (Kd.R_lt (by exact Ho.RS <| HO_6.out))) (Kd.R_lt (by exact Ho.RS <| HO_11.out))) (Kd.R_lt (by exact Ho.RS <| HO_123002.out))) (Kd.R_lt (by exact Ho.RS <| HO154.out))) (below_size (by exact eS HB.out))); have n6_ := Aside0.mk (blk_below (bS BK101.out) hb); have n7_ := Aside0.mk (blk_below (bS BK122.out) hb); have n8_ := Aside0.mk (below_step (by exact eS HB.out) hb); clear HO_6; clear HO_11; clear HO_123002; clear HO154; clear HO157; clear BK101; clear BK122; clear HB; have HO_6 := n0_; have HO_11 := n1_; have HO_123002 := n2_; have HO154 := n3_; have HO157 := n4_; have HO160 := n5_; have BK101 := n6_; have BK122 := n7_; have HB := n8_; clear n0_ n1_ n2_ n3_ n4_ n5_ n6_ n7_ n8_; (try clear hb); (try clear hb2); (try clear hk); (try clear hi); (try clear ho0)))
             (try simp only [Act.put, List.setIfInBounds_toArray, List.set_cons_zero, List.set_cons_succ])
             go_cut [131] (fun v131 wc => ∃ (kq : Nat) (x131_86 : Bool), v131 = .bool x131_86 ∧ Aside0 (laws_FnExactWorstRows.j2 kq t148 t147 x131_86 = some r) ∧ Aside0 (kq ≤ kj56) ∧ Aside0 (Kd.R (Kd.int .i64) 3 wc w.heap.size (fun k_ => some k_ ≠ ((.slice Ao34 t143.length co34) : Value).ownBlock) (.slice Ao88 t126.length co88) t148) ∧ Aside0 (Kd.R (Kd.int .i64) 3 wc w.heap.size (fun k_ => some k_ ≠ ((.slice Ao88 t126.length co88) : Value).ownBlock) (.slice Ao34 t143.length co34) t143) ∧ Aside0 (wc.heap[gb101]? = some (.cells #[.int .i64 a0_0, .int .i64 a0_1, (.slice A0_2 l0_2.length c0_2)] 24 (0, 0))) ∧ Aside0 (wc.heap[gb122]? = some (.cells #[.int .i64 t117, .int .i64 t118, (.slice Ao34 t143.length co34)] 30 (0, 0))) ∧ Aside0 (Below w.heap.size w wc))
             case first =>
              have H := HC87.out
              clear HC87
              replace H := Option.bind_eq_some_iff.mp H
              obtain ⟨t163, A970, H⟩ := H
              replace H : (if t163 = true then (if t161 = t115 then (laws_FnExactWorstRows.j2 kj56 t148 t147 (t162 != t116)) else (laws_FnExactWorstRows.j2 kj56 t148 t147 true)) else (laws_FnExactWorstRows.j2 kj56 t148 t147 true)) = some r := H
              have A97 := Aside0.mk A970
              clear A970
              by_cases c98 : t163 = true
              ·subst c98
               have H1 : (if t161 = t115 then (laws_FnExactWorstRows.j2 kj56 t148 t147 (t162 != t116)) else (laws_FnExactWorstRows.j2 kj56 t148 t147 true)) = some r := by rw [if_pos rfl] at H; exact H
               clear H
               have H := H1
               clear H1
               by_cases c99 : t161 = t115
               ·rw [if_pos c99] at H
                have c99b0 : (t161 == t115) = true := beq_iff_eq.mpr c99
                have c99b1 : (t161 != t115) = false := bne_eq_false_iff_eq.mpr c99
                clear c99
                (first | rw [c99b0] | (simp only [i64_w, i32_w]; rw [c99b0]) | skip)
                as_aux_lemma =>
                 have H' := Aside0.mk H
                 clear H
                 obtain ⟨Ao100, co100, eo100⟩ := Kd.R_slice HO160.out
                 subst eo100
                 obtain ⟨Ao101, co101, eo101⟩ := Kd.R_slice HO_6.out
                 subst eo101
                 go_wp2_with (first | ((with_reducible refine gate_callee (f := 29) rfl ?_); refine goesL_ (some 120) rfl rfl Try.func29 (by kernel_rfl) rfl #[.slice Ao100 t158.length co100, .slice Ao101 t112.length co101] rfl (by (try simp only [List.map_toArray, List.map_cons, List.map_nil]); first | done | rfl | (simp only [List.length_drop, List.length_take]; rfl)) ?_; (with_reducible refine (laws_eqIntS.calls kj56 _ _ t158 _ _ t112 true _ ?side1 ?side2 ?side3 ?side4 A97.out).mono ?_); (case side1 => repeat (first | exact (Kd.R_reads' HO160.out).2.2 | (with_reducible refine Kd.C_alloc ?_ _) | (with_reducible refine Kd.C_drewN ?_ _) | (with_reducible refine Kd.C_drew ?_))); (case side2 => exact (Kd.R_reads' HO160.out).2.1); (case side3 => repeat (first | exact (Kd.R_reads' HO_6.out).2.2 | (with_reducible refine Kd.C_alloc ?_ _) | (with_reducible refine Kd.C_drewN ?_ _) | (with_reducible refine Kd.C_drew ?_))); (case side4 => exact (Kd.R_reads' HO_6.out).2.1); rintro e w' ⟨rfl, ⟨nd, rfl⟩⟩; refine ⟨_, rfl, ?_⟩))
                 go_meet
                 case rel => exact ⟨_, ((t162 != t116)), (by first | rfl | (simp; done) | (simp [*]; done)), H', ⟨by have := HJ18.out; have := HJ56.out; first | omega | exact Nat.le_refl _⟩, ⟨by (try simp only [hl123002_56]); exact Ho.RS <| Kd.R_mono HO_11.out (fun _ hk => hk.1.1.2)⟩, ⟨by (try simp only [hl123002_56]); exact Ho.RS <| Kd.R_mono HO_123002.out (fun _ hk => hk.1.1.2)⟩, ⟨by (try simp only [hl123002_56]); exact bS BK101.out⟩, ⟨by (try simp only [hl123002_56]); exact bS BK122.out⟩, ⟨by exact eS HB.out⟩⟩
               ·rw [if_neg c99] at H
                have c99b0 : (t161 == t115) = false := beq_eq_false_iff_ne.mpr c99
                have c99b1 : (t161 != t115) = true := bne_iff_ne.mpr c99
                (first | rw [c99b0] | (simp only [i64_w, i32_w]; rw [c99b0]) | skip)
                as_aux_lemma =>
                 have H' := Aside0.mk H
                 clear H
                 obtain ⟨Ao102, co102, eo102⟩ := Kd.R_slice HO160.out
                 subst eo102
                 obtain ⟨Ao103, co103, eo103⟩ := Kd.R_slice HO_6.out
                 subst eo103
                 go_wp2_with (first | ((with_reducible refine gate_callee (f := 29) rfl ?_); refine goesL_ (some 120) rfl rfl Try.func29 (by kernel_rfl) rfl #[.slice Ao102 t158.length co102, .slice Ao103 t112.length co103] rfl (by (try simp only [List.map_toArray, List.map_cons, List.map_nil]); first | done | rfl | (simp only [List.length_drop, List.length_take]; rfl)) ?_; (with_reducible refine (laws_eqIntS.calls kj56 _ _ t158 _ _ t112 true _ ?side1 ?side2 ?side3 ?side4 A97.out).mono ?_); (case side1 => repeat (first | exact (Kd.R_reads' HO160.out).2.2 | (with_reducible refine Kd.C_alloc ?_ _) | (with_reducible refine Kd.C_drewN ?_ _) | (with_reducible refine Kd.C_drew ?_))); (case side2 => exact (Kd.R_reads' HO160.out).2.1); (case side3 => repeat (first | exact (Kd.R_reads' HO_6.out).2.2 | (with_reducible refine Kd.C_alloc ?_ _) | (with_reducible refine Kd.C_drewN ?_ _) | (with_reducible refine Kd.C_drew ?_))); (case side4 => exact (Kd.R_reads' HO_6.out).2.1); rintro e w' ⟨rfl, ⟨nd, rfl⟩⟩; refine ⟨_, rfl, ?_⟩))
                 go_meet
                 case rel => exact ⟨_, (true), (by first | rfl | (simp; done) | (simp [*]; done)), H', ⟨by have := HJ18.out; have := HJ56.out; first | omega | exact Nat.le_refl _⟩, ⟨by (try simp only [hl123002_56]); exact Ho.RS <| Kd.R_mono HO_11.out (fun _ hk => hk.1.1.2)⟩, ⟨by (try simp only [hl123002_56]); exact Ho.RS <| Kd.R_mono HO_123002.out (fun _ hk => hk.1.1.2)⟩, ⟨by (try simp only [hl123002_56]); exact bS BK101.out⟩, ⟨by (try simp only [hl123002_56]); exact bS BK122.out⟩, ⟨by exact eS HB.out⟩⟩
              ·replace c98 := Bool.eq_false_iff.mpr c98
               subst c98
               have H1 : (laws_FnExactWorstRows.j2 kj56 t148 t147 true) = some r := by rw [if_neg (show ¬ (false = true) by decide)] at H; exact H
               clear H
               have H := H1
               clear H1
               as_aux_lemma =>
                have H' := Aside0.mk H
                clear H
                obtain ⟨Ao104, co104, eo104⟩ := Kd.R_slice HO160.out
                subst eo104
                obtain ⟨Ao105, co105, eo105⟩ := Kd.R_slice HO_6.out
                subst eo105
                go_wp2_with (first | ((with_reducible refine gate_callee (f := 29) rfl ?_); refine goesL_ (some 120) rfl rfl Try.func29 (by kernel_rfl) rfl #[.slice Ao104 t158.length co104, .slice Ao105 t112.length co105] rfl (by (try simp only [List.map_toArray, List.map_cons, List.map_nil]); first | done | rfl | (simp only [List.length_drop, List.length_take]; rfl)) ?_; (with_reducible refine (laws_eqIntS.calls kj56 _ _ t158 _ _ t112 false _ ?side1 ?side2 ?side3 ?side4 A97.out).mono ?_); (case side1 => repeat (first | exact (Kd.R_reads' HO160.out).2.2 | (with_reducible refine Kd.C_alloc ?_ _) | (with_reducible refine Kd.C_drewN ?_ _) | (with_reducible refine Kd.C_drew ?_))); (case side2 => exact (Kd.R_reads' HO160.out).2.1); (case side3 => repeat (first | exact (Kd.R_reads' HO_6.out).2.2 | (with_reducible refine Kd.C_alloc ?_ _) | (with_reducible refine Kd.C_drewN ?_ _) | (with_reducible refine Kd.C_drew ?_))); (case side4 => exact (Kd.R_reads' HO_6.out).2.1); rintro e w' ⟨rfl, ⟨nd, rfl⟩⟩; refine ⟨_, rfl, ?_⟩))
                go_meet
                case rel => exact ⟨_, (true), (by first | rfl | (simp; done) | (simp [*]; done)), H', ⟨by have := HJ18.out; have := HJ56.out; first | omega | exact Nat.le_refl _⟩, ⟨by (try simp only [hl123002_56]); exact Ho.RS <| Kd.R_mono HO_11.out (fun _ hk => hk.1.1.2)⟩, ⟨by (try simp only [hl123002_56]); exact Ho.RS <| Kd.R_mono HO_123002.out (fun _ hk => hk.1.1.2)⟩, ⟨by (try simp only [hl123002_56]); exact bS BK101.out⟩, ⟨by (try simp only [hl123002_56]); exact bS BK122.out⟩, ⟨by exact eS HB.out⟩⟩
             case rest =>
              clear HC87
              try clear c1
              try clear c2
              try clear p2
              try clear c3
              try clear c4
              try clear c4b0
              try clear c5
              try clear c6
              try clear c7
              try clear c8
              try clear c9
              try clear c9b0
              try clear c14
              try clear c16
              try clear c19
              try clear c20
              try clear c22
              try clear c24
              try clear c29
              try clear c30
              try clear c31
              try clear c32
              try clear c33
              try clear c36
              try clear c37
              try clear c40
              try clear c41
              try clear c41b0
              try clear c41b1
              try clear c48
              try clear c51
              try clear c54
              try clear c65
              try clear c69
              try clear c69b0
              try clear c71
              try clear c72
              try clear c72b0
              try clear c72b1
              try clear c79
              try clear c82
              try clear c82b0
              try clear c83
              try clear c83b0
              try clear c83b1
              try clear c90
              try clear c98
              try clear c99
              try clear c99b0
              try clear c99b1
              try clear hcz11_0
              try clear hcz11_1
              try clear hcz11_2
              try clear hcz21_0
              try clear hcz21_1
              try clear hcz21_2
              try clear hcz23_0
              try clear hcz23_1
              try clear hcz23_2
              try clear hcz29_0
              try clear hcz29_1
              try clear hcz29_2
              try clear hcz33_0
              try clear hcz33_1
              try clear hcz33_2
              try clear hcz36_0
              try clear hcz36_1
              try clear hcz36_2
              try clear hcz66_0
              try clear hcz66_1
              try clear hcz66_2
              try clear hcz6_0
              try clear hcz6_1
              try clear hcz6_2
              try clear hcz91_0
              try clear hcz91_1
              try clear hcz91_2
              try clear hfz11_0
              try clear hfz11_1
              try clear hfz11_2
              try clear hfz21_0
              try clear hfz21_1
              try clear hfz21_2
              try clear hfz23_0
              try clear hfz23_1
              try clear hfz23_2
              try clear hfz29_0
              try clear hfz29_1
              try clear hfz29_2
              try clear hfz33_0
              try clear hfz33_1
              try clear hfz33_2
              try clear hfz36_0
              try clear hfz36_1
              try clear hfz36_2
              try clear hfz66_0
              try clear hfz66_1
              try clear hfz66_2
              try clear hfz6_0
              try clear hfz6_1
              try clear hfz6_2
              try clear hfz91_0
              try clear hfz91_1
              try clear hfz91_2
              try clear p2
              obtain ⟨kq, x131_86, rfl, HA, HJ86, HO_11, HO_123002, BK101, BK122, HB⟩ := hcut
              have hl11_86 := (Kd.R_reads' HO_11.out).1
              rw [hl11_86] at HO_11
              (try simp only [hl11_86])
              (try simp only [hl11_86] at BK101)
              (try simp only [hl11_86] at BK122)
              (try simp only [hl11_86] at HO_123002)
              cases kq with
              | zero => exact absurd HA.out (by simp [laws_FnExactWorstRows.j2])
              | succ kj86 =>
               have H := HA.out
               clear HA
               simp only [laws_FnExactWorstRows.j2] at H
               by_cases c106 : x131_86 = true
               ·subst c106
                have H1 : (some false) = some r := by rw [if_pos rfl] at H; exact H
                clear H
                have H := H1
                clear H1
                as_aux_lemma =>
                 exact absurd ((Option.some.inj H).trans HT.out) (by decide)
               ·replace c106 := Bool.eq_false_iff.mpr c106
                subst c106
                have H1 : ((laws_heldIntS.f kj86 t148 1).bind fun t164 => (if t164 < 0 then (some false) else (if t164 = t147 then (some true) else (some false)))) = some r := by rw [if_neg (show ¬ (false = true) by decide)] at H; exact H
                clear H
                have H := H1
                clear H1
                replace H := Option.bind_eq_some_iff.mp H
                obtain ⟨t164, A1070, H⟩ := H
                replace H : (if t164 < 0 then (some false) else (if t164 = t147 then (some true) else (some false))) = some r := H
                have A107 := Aside0.mk A1070
                clear A1070
                by_cases c108 : t164 < 0
                ·rw [if_pos c108] at H
                 have c108b0 : decide (t164 < 0) = true := decide_eq_true c108
                 clear c108
                 as_aux_lemma =>
                  exact absurd ((Option.some.inj H).trans HT.out) (by decide)
                ·rw [if_neg c108] at H
                 have c108b0 : decide (t164 < 0) = false := decide_eq_false c108
                 clear c108
                 by_cases c109 : t164 = t147
                 ·rw [if_pos c109] at H
                  have c109b0 : (t164 == t147) = true := beq_iff_eq.mpr c109
                  have c109b1 : (t164 != t147) = false := bne_eq_false_iff_eq.mpr c109
                  clear c109
                  as_aux_lemma =>
                   obtain rfl := Option.some.inj H
                   go_wp2_with (first | ((with_reducible refine gate_callee (f := 33) rfl ?_); refine goesL_ (some 134) rfl rfl Try.func33 (by kernel_rfl) rfl #[.slice Ao88 t148.length co88, .int .i64 1] rfl (by (try simp only [List.map_toArray, List.map_cons, List.map_nil]); first | done | rfl | (simp only [List.length_drop, List.length_take]; rfl)) ?_; (with_reducible refine (laws_heldIntS.calls kj86 _ _ t148 1 t164 _ ?side1 ?side2 A107.out).mono ?_); (case side1 => repeat (first | exact (Kd.R_reads' HO_11.out).2.2 | (with_reducible refine Kd.C_alloc ?_ _) | (with_reducible refine Kd.C_drewN ?_ _) | (with_reducible refine Kd.C_drew ?_))); (case side2 => exact (Kd.R_reads' HO_11.out).2.1); rintro e w' ⟨rfl, ⟨nd, rfl⟩⟩; refine ⟨_, rfl, ?_⟩))
                   go_ret
                   exact ⟨by first | rfl | (simp [errW_none, errW_some] <;> rfl) | (simp [*, errW_none, errW_some] <;> rfl), by exact eS HB.out⟩
                 ·rw [if_neg c109] at H
                  have c109b0 : (t164 == t147) = false := beq_eq_false_iff_ne.mpr c109
                  have c109b1 : (t164 != t147) = true := bne_iff_ne.mpr c109
                  as_aux_lemma =>
                   exact absurd ((Option.some.inj H).trans HT.out) (by decide)
            ·rw [if_neg c83] at H
             have c83b0 : (t149 == t147) = false := beq_eq_false_iff_ne.mpr c83
             have c83b1 : (t149 != t147) = true := bne_iff_ne.mpr c83
             as_aux_lemma =>
              exact absurd ((Option.some.inj H).trans HT.out) (by decide)
       ·replace c54 := Bool.eq_false_iff.mpr c54
        subst c54
        have H1 : (some false) = some r := by rw [if_neg (show ¬ (false = true) by decide)] at H; exact H
        clear H
        have H := H1
        clear H1
        as_aux_lemma =>
         exact absurd ((Option.some.inj H).trans HT.out) (by decide)
      ·replace c51 := Bool.eq_false_iff.mpr c51
       subst c51
       have H1 : (some false) = some r := by rw [if_neg (show ¬ (false = true) by decide)] at H; exact H
       clear H
       have H := H1
       clear H1
       as_aux_lemma =>
        exact absurd ((Option.some.inj H).trans HT.out) (by decide)

/-- THE ONE PURE STATEMENT of laws_FnExactWorstRows: yours. -/
def laws_FnExactWorstRows.Pure : Prop := ∀ (a0_0 : Int) (a0_1 : Int) (l0_2 : List Int) (l1 : List (S26)), (Lit.int .i64 a0_0).wf = true → (Lit.int .i64 a0_1).wf = true → (l0_2.length ≤ 9223372036854775807 ∧ ∀ y_ ∈ l0_2, (Lit.int .i64 y_).wf = true) → (l1.length ≤ 9223372036854775807 ∧ ∀ y_ ∈ l1, ok26 y_) → ∃ k, laws_FnExactWorstRows.f k a0_0 a0_1 l0_2 l1 = some true

end Go.Proofs.Ytfibaganajembaa.X

-- Qbase
namespace Go.Proofs.Ytfibaganajembaa.Pure
open Go Go.RowKit Go.Proofs Go.Proofs.YtfibaganajembaaW.PrintWords Go.Proofs.YtfibaganajembaaW.PrintLast
set_option linter.unusedVariables false
set_option linter.unusedSimpArgs false

theorem w64 {x : Int} (h1 : -9223372036854775808 ≤ x) (h2 : x ≤ 9223372036854775807) : wrap64 x = x := by unfold wrap64; omega
theorem w64b {x : Int} (h : -9223372036854775808 ≤ x ∧ x ≤ 9223372036854775807) : wrap64 x = x := w64 h.1 h.2
theorem ite_sf (a b : Bool) : (if a = true then some b else some false) = some (a && b) := by cases a <;> rfl
theorem ite_sf2 (a b : Bool) : (if a = true then some false else some b) = some (!a && b) := by cases a <;> rfl
theorem wf_bd {x : Int} (h : (Lit.int .i64 x).wf = true) : -9223372036854775808 ≤ x ∧ x ≤ 9223372036854775807 := by
  have h1 := h
  simp [Lit.wf] at h1
  exact ⟨h1.1, h1.2⟩
/-- a product of two numbers within bounds -/
theorem mul_bd {a b A B : Int} (ha : 0 ≤ a) (hA : a ≤ A) (hb : 0 ≤ b) (hB : b ≤ B) : 0 ≤ a * b ∧ a * b ≤ A * B :=
  ⟨Int.mul_nonneg ha hb, Int.mul_le_mul hA hB hb (Int.le_trans ha hA)⟩
theorem drop_step {α : Type} {l : List α} {i : Nat} (h : i < l.length) (d : α) : l.drop i = l.getD i d :: l.drop (i + 1) := by
  rw [List.drop_eq_getElem_cons h]; congr 1; simp [List.getD_eq_getElem?_getD, List.getElem?_eq_getElem h]
theorem wstep {i : Nat} {n : Nat} (h : i < n) (hn : n ≤ 9223372036854775807) : wrap64 ((i : Int) + 1) = ((i + 1 : Nat) : Int) := by unfold wrap64; omega
theorem nat_of {i : Int} (h : 0 ≤ i) : ∃ n : Nat, i = n := ⟨i.toNat, by omega⟩
theorem succ_of {k d : Nat} (h : d < k) : ∃ m, k = m + 1 ∧ d ≤ m := ⟨k - 1, by omega, by omega⟩

end Go.Proofs.Ytfibaganajembaa.Pure

-- Qloops
namespace Go.Proofs.Ytfibaganajembaa.Pure
open Go Go.RowKit Go.Proofs Go.Proofs.YtfibaganajembaaW.PrintWords Go.Proofs.YtfibaganajembaaW.PrintLast
set_option linter.unusedVariables false
set_option linter.unusedSimpArgs false

/-- A loop that copies element by element into a new row. -/
theorem copy_loop {α β : Type} (L : Nat → List α → List β → Int → Option (List β)) (f : α → β) (d : α) (l : List α) (hb : l.length ≤ 9223372036854775806)
    (hs : ∀ k x3 (i : Nat), i < l.length → x3.length = l.length → L (k + 1) l x3 i = L k l (x3.set i (f (l.getD i d))) (wrap64 ((i : Int) + 1)))
    (he : ∀ k x3 (i : Nat), l.length ≤ i → L (k + 1) l x3 i = some x3) :
    ∀ n k (i : Nat) (x3 : List β), i + n = l.length → n < k → x3.length = l.length → x3.take i = (l.take i).map f → L k l x3 i = some (l.map f) := by
  intro n
  induction n with
  | zero =>
    intro k i x3 hi hk hl ht
    obtain ⟨k, rfl, _⟩ := succ_of hk
    rw [he k x3 i (by omega)]
    rw [List.take_of_length_le (by omega), List.take_of_length_le (by omega)] at ht
    rw [ht]
  | succ n ih =>
    intro k i x3 hi hk hl ht
    obtain ⟨k, rfl, hk⟩ := succ_of hk
    rw [hs k x3 i (by omega) hl, wstep (show i < l.length by omega) (by omega)]
    refine ih k (i + 1) _ (by omega) (by omega) (by rw [List.length_set]; exact hl) ?_
    rw [List.take_succ_eq_append_getElem (by rw [List.length_set]; omega), List.take_succ_eq_append_getElem (by omega), List.map_append, ← ht]
    congr 1
    · rw [List.take_set_of_le (Nat.le_refl _)]
    · simp [List.getD_eq_getElem?_getD, List.getElem?_eq_getElem (show i < l.length by omega)]
/-- A loop that compares a row with itself. -/
theorem refl_loop {α : Type} (L : Nat → List α → List α → Int → Option Bool) (l : List α) (hb : l.length ≤ 9223372036854775806)
    (hs : ∀ k (i : Nat), i < l.length → L (k + 1) l l i = L k l l (wrap64 ((i : Int) + 1))) (he : ∀ k (i : Nat), l.length ≤ i → L (k + 1) l l i = some true) :
    ∀ n k (i : Nat), i + n = l.length → n < k → L k l l i = some true := by
  intro n
  induction n with
  | zero =>
    intro k i hi hk
    obtain ⟨k, rfl, _⟩ := succ_of hk
    exact he k i (by omega)
  | succ n ih =>
    intro k i hi hk
    obtain ⟨k, rfl, hk⟩ := succ_of hk
    rw [hs k i (by omega), wstep (show i < l.length by omega) (by omega)]
    exact ih k (i + 1) (by omega) (by omega)
/-- A loop that asks of all elements, from i on. -/
theorem all_loop {α : Type} (L : Nat → Int → Option Bool) (q : α → Bool) (d : α) (l : List α) (e : Bool) (hb : l.length ≤ 9223372036854775806)
    (hs : ∀ k (i : Nat), i < l.length → L (k + 1) i = if q (l.getD i d) = true then L k (wrap64 ((i : Int) + 1)) else some false) (he : ∀ k (i : Nat), l.length ≤ i → L (k + 1) i = some e) :
    ∀ n k (i : Nat), i + n = l.length → n < k → L k i = some ((l.drop i).all q && e) := by
  intro n
  induction n with
  | zero =>
    intro k i hi hk
    obtain ⟨k, rfl, _⟩ := succ_of hk
    rw [he k i (by omega), List.drop_eq_nil_of_le (by omega)]; rfl
  | succ n ih =>
    intro k i hi hk
    obtain ⟨k, rfl, hk⟩ := succ_of hk
    rw [hs k i (by omega), wstep (show i < l.length by omega) (by omega), drop_step (by omega) d, List.all_cons, ih k (i + 1) (by omega) (by omega)]
    cases q (l.getD i d) <;> simp
/-- What marks leave: each element tells its own number. -/
def markM {α : Type} (g : Int → α) (c : Int) (n : Nat) (s : Int) : List α := (List.range n).map fun (j : Nat) => g (s + c * (j : Int))
theorem markM_length {α : Type} (g : Int → α) (c : Int) (n : Nat) (s : Int) : (markM g c n s).length = n := by simp [markM]
theorem markM_getD {α : Type} (g : Int → α) (c : Int) (n : Nat) (s : Int) (d : α) {i : Nat} (h : i < n) : (markM g c n s).getD i d = g (s + c * i) := by
  simp [markM, List.getD_eq_getElem?_getD, List.getElem?_map, List.getElem?_range h]
/-- A loop that marks. -/
theorem mark_loop {α : Type} (L : Nat → List α → Int → Int → Option (Int × List α)) (g : Int → α) (c : Int) (n0 : Nat) (s : Int) (hb : n0 ≤ 9223372036854775806) 
    (hs : ∀ k x (i : Nat), i < n0 → x.length = n0 → L (k + 1) x (s + c * i) i = L k (x.set i (g (s + c * i))) (s + c * ((i + 1 : Nat) : Int)) (wrap64 ((i : Int) + 1)))
    (he : ∀ k x m (i : Nat), n0 ≤ i → x.length = n0 → L (k + 1) x m i = some (m, x)) :
    ∀ n k (i : Nat) (x : List α), i + n = n0 → n < k → x.length = n0 → x.take i = (markM g c n0 s).take i → L k x (s + c * i) i = some (s + c * n0, markM g c n0 s) := by
  intro n
  induction n with
  | zero =>
    intro k i x hi hk hl ht
    obtain ⟨k, rfl, _⟩ := succ_of hk
    rw [he k x _ i (by omega) hl]
    rw [List.take_of_length_le (by omega), List.take_of_length_le (by rw [markM_length]; omega)] at ht
    rw [ht]; simp [show i = n0 by omega]
  | succ n ih =>
    intro k i x hi hk hl ht
    obtain ⟨k, rfl, hk⟩ := succ_of hk
    rw [hs k x i (by omega) hl, wstep (show i < n0 by omega) (by omega)]
    refine ih k (i + 1) _ (by omega) (by omega) (by rw [List.length_set]; exact hl) ?_
    rw [List.take_succ_eq_append_getElem (by rw [List.length_set]; omega), List.take_succ_eq_append_getElem (by rw [markM_length]; omega), ← ht]
    congr 1
    · rw [List.take_set_of_le (Nat.le_refl _)]
    · simp [markM]
/-- A loop that asks for the marks. -/
theorem held_loop {α : Type} (L : Nat → List α → Int → Int → Option Int) (g : Int → α) (c : Int) (n0 : Nat) (s : Int) (hb : n0 ≤ 9223372036854775806)
    (hs : ∀ k (i : Nat), i < n0 → L (k + 1) (markM g c n0 s) (s + c * i) i = L k (markM g c n0 s) (s + c * ((i + 1 : Nat) : Int)) (wrap64 ((i : Int) + 1)))
    (he : ∀ k m (i : Nat), n0 ≤ i → L (k + 1) (markM g c n0 s) m i = some m) :
    ∀ n k (i : Nat), i + n = n0 → n < k → L k (markM g c n0 s) (s + c * i) i = some (s + c * n0) := by
  intro n
  induction n with
  | zero =>
    intro k i hi hk
    obtain ⟨k, rfl, _⟩ := succ_of hk
    rw [he k _ i (by omega), show i = n0 by omega]
  | succ n ih =>
    intro k i hi hk
    obtain ⟨k, rfl, hk⟩ := succ_of hk
    rw [hs k i (by omega), wstep (show i < n0 by omega) (by omega)]
    exact ih k (i + 1) (by omega) (by omega)
theorem rd_nat (l : List Int) (i : Nat) : rd l (i : Int) = l.getD i 0 := by simp [rd]

end Go.Proofs.Ytfibaganajembaa.Pure

-- QeqInts
namespace Go.Proofs.Ytfibaganajembaa.Pure
open Go Go.RowKit Go.Proofs Go.Proofs.Ytfibaganajembaa.X Go.Proofs.YtfibaganajembaaW.PrintWords Go.Proofs.YtfibaganajembaaW.PrintLast
set_option linter.unusedVariables false
set_option linter.unusedSimpArgs false

theorem eqIntS_refl {k : Nat} {l : List Int} (hk : l.length < k) (hl : l.length ≤ 9223372036854775806) : laws_eqIntS.f k l l = some true := by
  unfold laws_eqIntS.f
  rw [if_pos rfl]
  exact refl_loop laws_eqIntS.l0 l hl
    (fun k i h => by simp only [laws_eqIntS.l0]; rw [if_pos (by omega), if_pos (by omega), if_pos (by omega)]; simp)
    (fun k i h => by simp only [laws_eqIntS.l0]; rw [if_neg (by omega)])
    l.length k 0 (by omega) hk

end Go.Proofs.Ytfibaganajembaa.Pure

-- Qinrange
namespace Go.Proofs.Ytfibaganajembaa.Pure
open Go Go.RowKit Go.Proofs Go.Proofs.Ytfibaganajembaa.X Go.Proofs.YtfibaganajembaaW.PrintWords Go.Proofs.YtfibaganajembaaW.PrintLast
set_option linter.unusedVariables false
set_option linter.unusedSimpArgs false

theorem in_eq (x a b : Int) : impl_in.f x a b = some (decide (a ≤ x ∧ x ≤ b)) := by
  unfold impl_in.f
  by_cases h1 : a ≤ x <;> simp [h1]

end Go.Proofs.Ytfibaganajembaa.Pure

-- Qspecin
namespace Go.Proofs.Ytfibaganajembaa.Pure
open Go Go.RowKit Go.Proofs Go.Proofs.Ytfibaganajembaa.X Go.Proofs.YtfibaganajembaaW.PrintWords Go.Proofs.YtfibaganajembaaW.PrintLast
set_option linter.unusedVariables false
set_option linter.unusedSimpArgs false

theorem l1In_eq (x a b : Int) : spec_l1In.f x a b = some (decide (a ≤ x ∧ x ≤ b)) := by
  unfold spec_l1In.f
  by_cases h1 : a ≤ x <;> simp [h1]

end Go.Proofs.Ytfibaganajembaa.Pure

-- QtoInts
namespace Go.Proofs.Ytfibaganajembaa.Pure
open Go Go.RowKit Go.Proofs Go.Proofs.Ytfibaganajembaa.X Go.Proofs.YtfibaganajembaaW.PrintWords Go.Proofs.YtfibaganajembaaW.PrintLast
set_option linter.unusedVariables false
set_option linter.unusedSimpArgs false

theorem toIntS_eq {k : Nat} {l : List Int} (hk : l.length < k) (hl : l.length ≤ 1048576) : laws_toIntS.f k l = some l := by
  unfold laws_toIntS.f
  rw [if_pos (by omega), if_pos (by simp; omega)]
  have h := copy_loop laws_toIntS.l0 (fun x => x) 0 l (by omega)
    (fun k x3 i h1 h2 => by
      simp only [laws_toIntS.l0]
      rw [if_pos (by omega), if_pos (by omega), if_pos (by omega), rd_nat]; simp)
    (fun k x3 i h1 => by simp only [laws_toIntS.l0]; rw [if_neg (by omega)])
    l.length k 0 (List.replicate l.length 0) (by omega) hk (by simp) (by simp)
  simpa using h

end Go.Proofs.Ytfibaganajembaa.Pure

-- Qchart
namespace Go.Proofs.Ytfibaganajembaa.Pure
open Go Go.RowKit Go.Proofs Go.Proofs.Ytfibaganajembaa.X Go.Proofs.YtfibaganajembaaW.PrintWords Go.Proofs.YtfibaganajembaaW.PrintLast
set_option linter.unusedVariables false
set_option linter.unusedSimpArgs false

def colorB (x : Int) : Bool := decide (0 ≤ x ∧ x ≤ 5)
def sideB (x : Int) : Bool := decide (1 ≤ x ∧ x ≤ 8)
def chartB (w h : Int) (l : List Int) : Bool := sideB w && (sideB h && (decide ((l.length : Int) = w * h) && l.all colorB))
theorem side_of {x : Int} (h : sideB x = true) : 1 ≤ x ∧ x ≤ 8 := by simpa [sideB] using h
theorem side_w {w h : Int} (hw : sideB w = true) (hh : sideB h = true) : 0 ≤ w * h ∧ w * h ≤ 64 := by
  have := side_of hw; have := side_of hh
  exact mul_bd (A := 8) (B := 8) (by omega) (by omega) (by omega) (by omega)
theorem chart_of {w h : Int} {l : List Int} (hc : chartB w h l = true) : (1 ≤ w ∧ w ≤ 8) ∧ (1 ≤ h ∧ h ≤ 8) ∧ (l.length : Int) = w * h ∧ l.length ≤ 64 ∧ ∀ x ∈ l, 0 ≤ x ∧ x ≤ 5 := by
  simp only [chartB, Bool.and_eq_true, decide_eq_true_eq, List.all_eq_true] at hc
  obtain ⟨h1, h2, h3, h4⟩ := hc
  have := side_w h1 h2
  exact ⟨side_of h1, side_of h2, h3, by omega, fun x hx => by simpa [colorB] using h4 x hx⟩
theorem szIntS_eq {l : List Int} {a : Int} (hl : l.length ≤ 9223372036854775807) (ha : 0 ≤ a ∧ a ≤ 9223372036854775807) : laws_szIntS.f l a = some (if a < l.length then -1 else a - l.length) := by
  unfold laws_szIntS.f
  rw [w64 (by omega) (by omega)]
  by_cases h : a < l.length
  · rw [if_pos (by omega), if_pos h]
  · rw [if_neg (by omega), if_neg h]
theorem szChart_eq {w h a : Int} {l : List Int} (hl : l.length ≤ 9223372036854775807) (ha : 0 ≤ a ∧ a ≤ 9223372036854775807) : laws_szChart.f w h l a = some (if a < l.length then -1 else a - l.length) := by
  unfold laws_szChart.f
  rw [szIntS_eq hl ha]
  by_cases h : a < l.length
  · simp [h]
  · simp only [if_neg h, Option.bind_some]; rw [if_neg (by omega)]
theorem toChart_eq {k : Nat} {w h : Int} {l : List Int} (hk : l.length < k) (hl : l.length ≤ 1048576) : laws_toChart.f k w h l = some (w, h, l) := by
  simp only [laws_toChart.f, toIntS_eq hk hl, Option.bind_some]
theorem eqChart_refl {k : Nat} {w h : Int} {l : List Int} (hk : l.length < k) (hl : l.length ≤ 1048576) : laws_eqChart.f k w h l w h l = some true := by
  simp only [laws_eqChart.f, eqIntS_refl hk (by omega), Option.bind_some, if_true]
theorem isColor_eq (x : Int) : impl_isColor.f x = some (colorB x) := by simp only [impl_isColor.f, in_eq, Option.bind_some, colorB]
theorem isSide_eq (x : Int) : impl_isSide.f x = some (sideB x) := by simp only [impl_isSide.f, in_eq, Option.bind_some, sideB]
theorem l2Color_eq (x : Int) : spec_l2Color.f x = some (colorB x) := by simp only [spec_l2Color.f, l1In_eq, Option.bind_some, colorB]
theorem l2Side_eq (x : Int) : spec_l2Side.f x = some (sideB x) := by simp only [spec_l2Side.f, l1In_eq, Option.bind_some, sideB]
theorem IsChart_eq (w h : Int) (l : List Int) : impl_IsChart.f w h l = some (chartB w h l) := by
  simp only [impl_IsChart.f, isSide_eq, impl_areAll_int__impl_isColor.f, Ho.allO_eq (q := colorB) (fun x _ => isColor_eq x), Option.bind_some, chartB]
  cases hw : sideB w
  · simp
  · cases hh : sideB h
    · simp
    · have := side_w hw hh
      rw [w64 (by omega) (by omega)]
      by_cases he : (l.length : Int) = w * h <;> simp [he]
theorem l2Good_eq {k : Nat} {w h : Int} {l : List Int} (hk : l.length < k) (hl : l.length ≤ 1048576) : spec_l2Good.f k w h l = some (chartB w h l) := by
  unfold spec_l2Good.f
  have hx := all_loop (fun k i => spec_l2Good.l0 k i w h l) colorB 0 l (sideB w && (sideB h && decide ((l.length : Int) = w * h))) (by omega)
    (fun k i h1 => by
      simp only [spec_l2Good.l0]
      rw [if_pos (by omega), if_pos (by omega), rd_nat, l2Color_eq]
      simp only [Option.bind_some])
    (fun k i h1 => by
      simp only [spec_l2Good.l0]
      rw [if_neg (by omega)]
      simp only [l2Side_eq, Option.bind_some]
      cases hw : sideB w
      · simp
      · cases hh : sideB h
        · simp
        · have := side_w hw hh
          rw [w64 (by omega) (by omega)]
          simp [BEq.beq, instBEqOfDecidableEq])
    l.length k 0 (by omega) hk
  refine hx.trans ?_
  simp only [List.drop_zero, chartB]
  cases sideB w <;> cases sideB h <;> cases l.all colorB <;> simp

end Go.Proofs.Ytfibaganajembaa.Pure

-- QlistFlaw
namespace Go.Proofs.Ytfibaganajembaa.Pure
open Go Go.RowKit Go.Proofs Go.Proofs.Ytfibaganajembaa.X Go.Proofs.YtfibaganajembaaW.PrintWords Go.Proofs.YtfibaganajembaaW.PrintLast
set_option linter.unusedVariables false
set_option linter.unusedSimpArgs false

def toFlaw (x : S26) : S32 := ⟨x.f0, x.f1, x.f2, x.f3⟩
theorem rdVFlaw_nat (l : List S26) (i : Nat) : rd_T26 l (i : Int) = l.getD i z26 := by simp [rd_T26]
theorem rdIFlaw_nat (l : List S32) (i : Nat) : rd_T32 l (i : Int) = l.getD i z32 := by simp [rd_T32]
theorem szFlawS_eq {l : List S26} {a : Int} (hl : l.length ≤ 9223372036854775807) (ha : 0 ≤ a ∧ a ≤ 9223372036854775807) : laws_szFlawS.f l a = some (if a < l.length then -1 else a - l.length) := by
  unfold laws_szFlawS.f
  rw [w64 (by omega) (by omega)]
  by_cases h : a < l.length
  · rw [if_pos (by omega), if_pos h]
  · rw [if_neg (by omega), if_neg h]
theorem toFlawS_eq {k : Nat} {l : List S26} (hk : l.length < k) (hl : l.length ≤ 1048576) : laws_toFlawS.f k l = some (l.map toFlaw) := by
  unfold laws_toFlawS.f
  rw [if_pos (by omega), if_pos (by simp; omega)]
  exact copy_loop laws_toFlawS.l0 toFlaw z26 l (by omega)
    (fun k x3 i h1 h2 => by
      simp only [laws_toFlawS.l0, laws_toFlaw.f, Option.bind_some]
      rw [if_pos (by omega), if_pos (by omega), if_pos (by omega), rdVFlaw_nat]
      simp [toFlaw])
    (fun k x3 i h1 => by simp only [laws_toFlawS.l0]; rw [if_neg (by omega)])
    l.length k 0 _ (by omega) hk (by simp) (by simp)
theorem eqFlaw_refl (a0 a1 a2 a3 : Int) : laws_eqFlaw.f a0 a1 a2 a3 a0 a1 a2 a3 = some true := by simp [laws_eqFlaw.f]
theorem eqFlawS_refl {k : Nat} {l : List S32} (hk : l.length < k) (hl : l.length ≤ 9223372036854775806) : laws_eqFlawS.f k l l = some true := by
  unfold laws_eqFlawS.f
  rw [if_pos rfl]
  exact refl_loop laws_eqFlawS.l0 l hl
    (fun k i h => by simp only [laws_eqFlawS.l0, eqFlaw_refl, Option.bind_some]; rw [if_pos (by omega), if_pos (by omega), if_pos (by omega)]; simp)
    (fun k i h => by simp only [laws_eqFlawS.l0]; rw [if_neg (by omega)])
    l.length k 0 (by omega) hk

end Go.Proofs.Ytfibaganajembaa.Pure

-- QmarkInts
namespace Go.Proofs.Ytfibaganajembaa.Pure
open Go Go.RowKit Go.Proofs Go.Proofs.Ytfibaganajembaa.X Go.Proofs.YtfibaganajembaaW.PrintWords Go.Proofs.YtfibaganajembaaW.PrintLast
set_option linter.unusedVariables false
set_option linter.unusedSimpArgs false

theorem markIntS_eq {k : Nat} {l : List Int} {s : Int} (hk : l.length < k) (hl : l.length ≤ 1073741824) (hs : 0 ≤ s ∧ s ≤ 1073741824) : laws_markIntS.f k l s = some (s + 1 * l.length, markM (fun x => x) 1 l.length s) := by
  unfold laws_markIntS.f
  have h := mark_loop laws_markIntS.l0 (fun x => x) 1 l.length s (by omega)
    (fun k x i h1 h2 => by
      simp only [laws_markIntS.l0]
      rw [if_pos (by omega), if_pos (by omega)]
      rw [w64 (x := s + 1 * (i : Int) + 1) (by omega) (by omega)]
      congr 1 <;> first | (push_cast; omega) | simp)
    (fun k x m i h1 h2 => by simp only [laws_markIntS.l0]; rw [if_neg (by omega)])
    l.length k 0 l (by omega) hk rfl (by simp)
  simpa using h
theorem heldIntS_eq {k : Nat} {n : Nat} {s : Int} (hk : n < k) (hl : n ≤ 1073741824) (hs : 0 ≤ s ∧ s ≤ 1073741824) : laws_heldIntS.f k (markM (fun x => x) 1 n s) s = some (s + 1 * n) := by
  unfold laws_heldIntS.f
  have h := held_loop laws_heldIntS.l0 (fun x => x) 1 n s (by omega)
    (fun k i h1 => by
      simp only [laws_heldIntS.l0, markM_length]
      rw [if_pos (by omega), if_pos (by omega), rd_nat, markM_getD _ _ _ _ _ h1, if_pos rfl]
      rw [w64 (x := s + 1 * (i : Int) + 1) (by omega) (by omega)]
      congr 1; push_cast; omega)
    (fun k m i h1 => by simp only [laws_heldIntS.l0, markM_length]; rw [if_neg (by omega)])
    n k 0 (by omega) hk
  simpa using h

end Go.Proofs.Ytfibaganajembaa.Pure

-- Qmarkchart
namespace Go.Proofs.Ytfibaganajembaa.Pure
open Go Go.RowKit Go.Proofs Go.Proofs.Ytfibaganajembaa.X Go.Proofs.YtfibaganajembaaW.PrintWords Go.Proofs.YtfibaganajembaaW.PrintLast
set_option linter.unusedVariables false
set_option linter.unusedSimpArgs false

theorem markChart_eq {k : Nat} {l : List Int} {s : Int} (hk : l.length < k) (hl : l.length ≤ 1073741824) (hs : 0 ≤ s ∧ s ≤ 1073741824) (w h : Int) : laws_markChart.f k w h l s = some (s + 1 * (l.length : Int), markM (fun x => x) 1 l.length s) := by
  simp only [laws_markChart.f, markIntS_eq hk hl hs, Option.bind_some]

end Go.Proofs.Ytfibaganajembaa.Pure

-- QmarksFlaw
namespace Go.Proofs.Ytfibaganajembaa.Pure
open Go Go.RowKit Go.Proofs Go.Proofs.Ytfibaganajembaa.X Go.Proofs.YtfibaganajembaaW.PrintWords Go.Proofs.YtfibaganajembaaW.PrintLast
set_option linter.unusedVariables false
set_option linter.unusedSimpArgs false

def markFlaw (s : Int) : S32 := ⟨s, s + 1, s + 2, s + 3⟩
theorem markFlawS_eq {k : Nat} {l : List S32} {s : Int} (hk : l.length < k) (hl : l.length ≤ 1048576) (hs : 0 ≤ s ∧ s ≤ 1073741824) : laws_markFlawS.f k l s = some (s + 4 * (l.length : Int), markM markFlaw 4 l.length s) := by
  unfold laws_markFlawS.f
  have h := mark_loop laws_markFlawS.l0 markFlaw 4 l.length s (by omega)
    (fun k x i h1 h2 => by
      have hg : ∀ (y : List S32) (v : S32), y.length = l.length → (y.set i v).getD i z32 = v := by
        intro y v hy
        rw [List.getD_eq_getElem?_getD, List.getElem?_set_self (by omega)]; rfl
      simp only [laws_markFlawS.l0, Option.bind_some, rdIFlaw_nat, Int.toNat_natCast]
      rw [if_pos (by omega), if_pos (by omega)]
      simp only [hg, List.length_set, h2, List.set_set]
      rw [w64 (x := s + 4 * (i : Int) + 1) (by omega) (by omega), w64 (x := s + 4 * (i : Int) + 1 + 1) (by omega) (by omega), w64 (x := s + 4 * (i : Int) + 1 + 1 + 1) (by omega) (by omega), w64 (x := s + 4 * (i : Int) + 1 + 1 + 1 + 1) (by omega) (by omega)]
      have e1 : markFlaw (s + 4 * (i : Int)) = ⟨s + 4 * (i : Int), s + 4 * (i : Int) + 1, s + 4 * (i : Int) + 1 + 1, s + 4 * (i : Int) + 1 + 1 + 1⟩ := by
        unfold markFlaw; congr 1 <;> omega
      have e2 : s + 4 * ((i + 1 : Nat) : Int) = s + 4 * (i : Int) + 1 + 1 + 1 + 1 := by push_cast; omega
      rw [e1, e2])
    (fun k x m i h1 h2 => by simp only [laws_markFlawS.l0]; rw [if_neg (by omega)])
    l.length k 0 l (by omega) hk rfl (by simp)
  simpa using h

end Go.Proofs.Ytfibaganajembaa.Pure

-- Qcmpint
namespace Go.Proofs.Ytfibaganajembaa.Pure
open Go Go.RowKit Go.Proofs Go.Proofs.Ytfibaganajembaa.X Go.Proofs.YtfibaganajembaaW.PrintWords Go.Proofs.YtfibaganajembaaW.PrintLast
set_option linter.unusedVariables false
set_option linter.unusedSimpArgs false

def cmpI (a b : Int) : Int := if a < b then -1 else if a > b then 1 else 0
theorem cmpI_eq (a b : Int) : cmp_Compare_int.f a b = some (cmpI a b) := by
  simp only [cmp_Compare_int.f, cmp_isNaN_int.f, bne_self_eq_false, Option.bind_some, Bool.false_eq_true, if_false, cmpI]
  (repeat' split) <;> rfl

end Go.Proofs.Ytfibaganajembaa.Pure

-- Qidxall
namespace Go.Proofs.Ytfibaganajembaa.Pure
open Go Go.RowKit Go.Proofs Go.Proofs.YtfibaganajembaaW.PrintWords Go.Proofs.YtfibaganajembaaW.PrintLast
set_option linter.unusedVariables false
set_option linter.unusedSimpArgs false

/-- q at all numbers from i on, n of them -/
def allR (q : Nat → Bool) (i n : Nat) : Bool := (List.range' i n).all q
theorem allR_iff {q : Nat → Bool} {i n : Nat} : allR q i n = true ↔ ∀ j, i ≤ j → j < i + n → q j = true := by
  unfold allR
  rw [List.all_eq_true]
  exact ⟨fun h j h1 h2 => h j (List.mem_range'_1.mpr ⟨h1, h2⟩), fun h j hj => h j (List.mem_range'_1.mp hj).1 (List.mem_range'_1.mp hj).2⟩
theorem allR_succ (q : Nat → Bool) (i n : Nat) : allR q i (n + 1) = (q i && allR q (i + 1) n) := by
  unfold allR; rw [List.range'_succ, List.all_cons]
/-- A loop that asks of all numbers, from i on. -/
theorem idx_loop (L : Nat → Int → Option Bool) (q : Nat → Bool) (i0 n0 : Nat) (e : Bool) (hb : n0 ≤ 9223372036854775806)
    (hs : ∀ k (i : Nat), i0 ≤ i → i < n0 → L (k + 1) i = if q i = true then L k (wrap64 ((i : Int) + 1)) else some false) (he : ∀ k (i : Nat), n0 ≤ i → L (k + 1) i = some e) :
    ∀ n k (i : Nat), i0 ≤ i → i + n = n0 → n < k → L k i = some (allR q i n && e) := by
  intro n
  induction n with
  | zero =>
    intro k i h0 hi hk
    obtain ⟨k, rfl, _⟩ := succ_of hk
    rw [he k i (by omega)]; simp [allR]
  | succ n ih =>
    intro k i h0 hi hk
    obtain ⟨k, rfl, hk⟩ := succ_of hk
    rw [hs k i h0 (by omega), wstep (show i < n0 by omega) (by omega), allR_succ, ih k (i + 1) (by omega) (by omega) (by omega)]
    cases q i <;> simp
theorem all_getD {α : Type} {p : α → Bool} {l : List α} (d : α) : l.all p = true ↔ ∀ j, j < l.length → p (l.getD j d) = true := by
  rw [List.all_eq_true]
  constructor
  · intro h j hj
    rw [List.getD_eq_getElem?_getD, List.getElem?_eq_getElem hj]
    exact h _ (List.getElem_mem hj)
  · intro h x hx
    obtain ⟨j, hj, rfl⟩ := List.mem_iff_getElem.mp hx
    have := h j hj
    rwa [List.getD_eq_getElem?_getD, List.getElem?_eq_getElem hj] at this
/-- A loop that adds up. -/
theorem sum_loop {α β : Type} (L : Nat → Int → Int → Option β) (v : α → Int) (r : Int → Option β) (d : α) (B : Int) (l : List α) (hb : l.length ≤ 9223372036854775806) (hv : ∀ x ∈ l, 0 ≤ v x ∧ v x ≤ B)
    (hs : ∀ k (acc : Int) (i : Nat), i < l.length → 0 ≤ acc → acc ≤ B * i → L (k + 1) acc i = L k (acc + v (l.getD i d)) (wrap64 ((i : Int) + 1)))
    (he : ∀ k (acc : Int) (i : Nat), l.length ≤ i → L (k + 1) acc i = r acc) :
    ∀ n k (acc : Int) (i : Nat), i + n = l.length → n < k → 0 ≤ acc → acc ≤ B * i → L k acc i = r (acc + ((l.drop i).map v).sum) := by
  intro n
  induction n with
  | zero =>
    intro k acc i hi hk h0 h1
    obtain ⟨k, rfl, _⟩ := succ_of hk
    rw [he k acc i (by omega), List.drop_eq_nil_of_le (by omega)]; simp
  | succ n ih =>
    intro k acc i hi hk h0 h1
    obtain ⟨k, rfl, hk⟩ := succ_of hk
    have hlt : i < l.length := by omega
    have hm : l.getD i d ∈ l := by rw [List.getD_eq_getElem?_getD, List.getElem?_eq_getElem hlt]; exact List.getElem_mem hlt
    have := hv _ hm
    rw [hs k acc i hlt h0 h1, wstep hlt (by omega), drop_step hlt d, List.map_cons, List.sum_cons]
    have hB : B * ((i + 1 : Nat) : Int) = B * i + B := by push_cast; rw [Int.mul_add, Int.mul_one]
    rw [ih k _ (i + 1) (by omega) (by omega) (by omega) (by omega), Int.add_assoc]
/-- The same, where the end leans on all that was asked, and needs fuel of its own. -/
theorem idx_loop2 (L : Nat → Int → Option Bool) (q : Nat → Bool) (i0 n0 m0 : Nat) (e : Bool) (hb : n0 ≤ 9223372036854775806)
    (hs : ∀ k (i : Nat), i0 ≤ i → i < n0 → m0 ≤ k → L (k + 1) i = if q i = true then L k (wrap64 ((i : Int) + 1)) else some false) (he : (∀ j, i0 ≤ j → j < n0 → q j = true) → ∀ k, m0 ≤ k → L (k + 1) (n0 : Int) = some e) :
    ∀ n k (i : Nat), i0 ≤ i → i + n = n0 → n + m0 < k → (∀ j, i0 ≤ j → j < i → q j = true) → L k i = some (allR q i n && e) := by
  intro n
  induction n with
  | zero =>
    intro k i h0 hi hk hq
    obtain ⟨k, rfl, _⟩ := succ_of (show 0 < k by omega)
    obtain rfl : i = n0 := by omega
    rw [he hq k (by omega)]; simp [allR]
  | succ n ih =>
    intro k i h0 hi hk hq
    obtain ⟨k, rfl, hk'⟩ := succ_of (show 0 < k by omega)
    rw [hs k i h0 (by omega) (by omega), wstep (show i < n0 by omega) (by omega), allR_succ]
    cases hc : q i
    · simp
    · rw [if_pos rfl, ih k (i + 1) (by omega) (by omega) (by omega) (fun j h1 h2 => by
        by_cases hj : j = i
        · rw [hj]; exact hc
        · exact hq j h1 (by omega)), Bool.true_and]

end Go.Proofs.Ytfibaganajembaa.Pure

-- Qflaws
namespace Go.Proofs.Ytfibaganajembaa.Pure
open Go Go.RowKit Go.Proofs Go.Proofs.Ytfibaganajembaa.X Go.Proofs.YtfibaganajembaaW.PrintWords Go.Proofs.YtfibaganajembaaW.PrintLast
set_option linter.unusedVariables false
set_option linter.unusedSimpArgs false

def flawB (w h : Int) (x : S32) : Bool := decide (0 ≤ x.f0 ∧ x.f0 ≤ 4) && (decide (1 ≤ x.f3 ∧ x.f3 ≤ 9) && (decide (0 ≤ x.f1 ∧ x.f1 ≤ h - 1) && decide (0 ≤ x.f2 ∧ x.f2 ≤ w - 1)))
def beforeB (x y : S32) : Bool := if x.f1 = y.f1 then (if x.f2 = y.f2 then decide (x.f0 < y.f0) else decide (x.f2 < y.f2)) else decide (x.f1 < y.f1)
def befF (l : List S32) (j : Nat) : Bool := beforeB (l.getD (j - 1) z32) (l.getD j z32)
def flawsB (w h : Int) (l : List Int) (fl : List S32) : Bool := chartB w h l && (decide (fl.length ≤ 12) && (fl.all (flawB w h) && allR (befF fl) 1 (fl.length - 1)))
theorem one_eq {k : Nat} {w h : Int} {l : List Int} (x : S32) (hk : l.length < k) (hl : l.length ≤ 1048576) : spec_l22One.f k w h l x.f0 x.f1 x.f2 x.f3 = some (chartB w h l && flawB w h x) := by
  simp only [spec_l22One.f, l2Good_eq hk hl, spec_l22Flaw.f, l1In_eq, Option.bind_some]
  cases hc : chartB w h l
  · rfl
  have := chart_of hc
  rw [w64 (x := h - 1) (by omega) (by omega), w64 (x := w - 1) (by omega) (by omega)]
  unfold flawB
  cases decide (0 ≤ x.f0 ∧ x.f0 ≤ 4) <;> cases decide (1 ≤ x.f3 ∧ x.f3 ≤ 9) <;> cases decide (0 ≤ x.f1 ∧ x.f1 ≤ h - 1) <;> rfl
theorem isFlaw_eq {w h : Int} {l : List Int} (hc : chartB w h l = true) (x : S32) : impl_Chart_isFlaw.f w h l x.f0 x.f1 x.f2 x.f3 = some (flawB w h x) := by
  have := chart_of hc
  simp only [impl_Chart_isFlaw.f, impl_isFlawKind.f, impl_Chart_hasPlace.f, in_eq, Option.bind_some]
  rw [w64 (x := h - 1) (by omega) (by omega), w64 (x := w - 1) (by omega) (by omega)]
  unfold flawB
  cases decide (0 ≤ x.f0 ∧ x.f0 ≤ 4) <;> cases decide (1 ≤ x.f3 ∧ x.f3 ≤ 9) <;> cases decide (0 ≤ x.f1 ∧ x.f1 ≤ h - 1) <;> cases decide (0 ≤ x.f2 ∧ x.f2 ≤ w - 1) <;> rfl
theorem before_eq (x y : S32) : spec_l22Before.f x.f0 x.f1 x.f2 x.f3 y.f0 y.f1 y.f2 y.f3 = some (beforeB x y) := by
  unfold spec_l22Before.f beforeB
  (repeat' split) <;> rfl
theorem or3_eq (k : Nat) (a b c : Int) : cmp_Or_int.f (k + 4) [a, b, c] = some (if a = 0 then (if b = 0 then c else b) else a) := by
  have e1 : wrap64 (0 + 1) = 1 := w64 (by omega) (by omega)
  have e2 : wrap64 (1 + 1) = 2 := w64 (by omega) (by omega)
  have e3 : wrap64 (2 + 1) = 3 := w64 (by omega) (by omega)
  have r0 : rd [a, b, c] 0 = a := rfl
  have r1 : rd [a, b, c] 1 = b := rfl
  have r2 : rd [a, b, c] 2 = c := rfl
  have hl : (([a, b, c] : List Int).length : Int) = 3 := rfl
  simp only [cmp_Or_int.f, cmp_Or_int.l0, hl, e1, e2, e3, r0, r1, r2]
  by_cases h1 : a = 0 <;> by_cases h2 : b = 0 <;> by_cases h3 : c = 0 <;> simp [h1, h2, h3]
theorem compare_eq {k : Nat} (hk : 4 ≤ k) (x y : S32) : ∃ c, impl_Flaw_compare.f k x.f0 x.f1 x.f2 x.f3 y.f0 y.f1 y.f2 y.f3 = some c ∧ (c ≥ 0 ↔ beforeB x y = false) := by
  obtain ⟨k, rfl⟩ : ∃ m, k = m + 4 := ⟨k - 4, by omega⟩
  simp only [impl_Flaw_compare.f, cmpI_eq, Option.bind_some, or3_eq]
  refine ⟨_, rfl, ?_⟩
  unfold beforeB cmpI
  (repeat' split) <;> simp at * <;> omega
theorem flawsS_eq {k : Nat} {w h : Int} {l : List Int} {fl : List S32} (hk : l.length + fl.length + 5 < k) (hl : l.length ≤ 1048576) (hf : fl.length ≤ 1048576) : spec_l22Good.f k w h l fl = some (flawsB w h l fl) := by
  unfold spec_l22Good.f
  have hx := idx_loop2 (fun k i => spec_l22Good.l0 k fl i w h l) (fun j => (chartB w h l && flawB w h (fl.getD j z32)) && (decide (j = 0) || befF fl j)) 0 fl.length (l.length + 1) (chartB w h l && decide (fl.length ≤ 12)) (by omega)
    (fun k i _ h1 h2 => by
      simp only [spec_l22Good.l0]
      rw [if_pos (by omega), if_pos (by omega), rdIFlaw_nat, one_eq _ (by omega) hl]
      simp only [Option.bind_some]
      cases (chartB w h l && flawB w h (fl.getD i z32))
      · simp
      by_cases hi : i = 0
      · subst hi; simp
      · rw [if_pos rfl, if_pos (by omega), w64 (x := (i : Int) - 1) (by omega) (by omega), if_pos (by omega), if_pos (by omega), show (i : Int) - 1 = ((i - 1 : Nat) : Int) by omega, rdIFlaw_nat, before_eq]
        simp only [Option.bind_some]
        show (if befF fl i = true then _ else _) = _
        cases befF fl i <;> simp [hi])
    (fun hq k hk => by
      simp only [spec_l22Good.l0]
      rw [if_neg (by omega), l2Good_eq (by omega) hl]
      simp only [Option.bind_some]
      have e1 : decide ((fl.length : Int) ≤ 12) = decide (fl.length ≤ 12) := by
        congr 1; exact propext ⟨fun h => by omega, fun h => by omega⟩
      rw [e1]
      cases chartB w h l <;> rfl)
    fl.length k 0 (by omega) (by omega) (by omega) (fun j h1 h2 => by omega)
  refine hx.trans (congrArg some ?_)
  unfold flawsB
  cases hc : chartB w h l
  · simp
  rw [Bool.true_and, Bool.true_and, Bool.and_comm]
  congr 1
  rw [Bool.eq_iff_iff, Bool.and_eq_true, allR_iff, allR_iff, all_getD z32]
  constructor
  · intro h
    refine ⟨fun j hj => ?_, fun j h1 h2 => ?_⟩
    · have := h j (by omega) (by omega)
      rw [Bool.and_eq_true] at this; simpa using this.1
    · have := h j (by omega) (by omega)
      rw [Bool.and_eq_true, Bool.or_eq_true] at this
      rcases this.2 with h3 | h3
      · have := of_decide_eq_true h3; omega
      · exact h3
  · intro h j h1 h2
    rw [Bool.and_eq_true, Bool.or_eq_true]
    refine ⟨by simpa using h.1 j (by omega), ?_⟩
    by_cases hj : j = 0
    · exact .inl (by simp [hj])
    · exact .inr (h.2 j (by omega) (by omega))
theorem AreFlaws_eq {k : Nat} {w h : Int} {l : List Int} {fl : List S32} (hk : fl.length + 10 < k) (hf : fl.length ≤ 1048576) : impl_AreFlaws.f k w h l fl = some (flawsB w h l fl) := by
  obtain ⟨k, rfl, hk2⟩ := succ_of hk
  simp only [impl_AreFlaws.f, impl_AreFlaws.j0, IsChart_eq, Option.bind_some, flawsB]
  cases hc : chartB w h l
  · simp
  by_cases h12 : (12 : Int) < fl.length
  · simp [show ¬ fl.length ≤ 12 by omega, h12]
  rw [if_pos rfl, if_neg (by omega)]
  simp only [impl_Flaw__impl_Chart_isFlaw.f]
  rw [Ho.allO_eq (q := flawB w h) (fun x _ => isFlaw_eq hc x)]
  simp only [Option.bind_some, show decide (fl.length ≤ 12) = true by simp; omega]
  cases fl.all (flawB w h)
  · simp
  simp only [Bool.not_true, Bool.false_eq_true, if_false, Bool.true_and]
  by_cases h0 : fl.length = 0
  · obtain ⟨k, rfl, _⟩ := succ_of (show 0 < k by omega)
    simp only [impl_AreFlaws.l0]
    rw [if_neg (by omega), h0]; simp [allR]
  have hx := idx_loop2 (fun k i => impl_AreFlaws.l0 k fl i) (befF fl) 1 fl.length 4 true (by omega)
    (fun k i h0 h1 h2 => by
      simp only [impl_AreFlaws.l0]
      rw [if_pos (by omega), w64 (x := (i : Int) - 1) (by omega) (by omega), if_pos (by omega), if_pos (by omega), show (i : Int) - 1 = ((i - 1 : Nat) : Int) by omega, rdIFlaw_nat, rdIFlaw_nat, if_pos (by omega)]
      obtain ⟨c, e, hc⟩ := compare_eq (k := k) h2 (fl.getD (i - 1) z32) (fl.getD i z32)
      rw [e]
      simp only [Option.bind_some]
      show _ = if befF fl i = true then _ else _
      have hc : c ≥ 0 ↔ befF fl i = false := hc
      cases hb : befF fl i
      · rw [if_pos (hc.mpr hb)]; simp
      · rw [if_neg (fun h => by have := hc.mp h; rw [hb] at this; simp at this)]; simp)
    (fun hq k hk => by simp only [impl_AreFlaws.l0]; rw [if_neg (by omega)])
    (fl.length - 1) k 1 (by omega) (by omega) (by omega) (fun j h1 h2 => by omega)
  rw [show ((1 : Nat) : Int) = 1 from rfl] at hx
  simpa using hx

end Go.Proofs.Ytfibaganajembaa.Pure

-- XimplFlawCountsF28
namespace Go.Proofs.Ytfibaganajembaa.X
open Ho (bS eS)
open Go.RowKit Go.Proofs.YtfibaganajembaaW.PrintWords Go.Proofs.YtfibaganajembaaW.PrintLast Go.Proofs.YtfibaganajembaaW.PrintMore
attribute [local go_sem] max2_int min2_int max_two min_two max_three min_three max_four min_four   -- for this text's walks alone
set_option linter.unusedVariables false
set_option linter.unusedSimpArgs false

attribute [local go_sem ↓] Ho.isSome_setCell_   -- a store leaves all places there
/-! ### impl_FlawCounts: function 28 -/
def impl_FlawCounts.l0 : Nat → List Int → List (S32) → Int → Int → Option (List Int × Bool)
  | 0, _, _, _, _ => none
  | k + 1, x6, x14, x15, x16 => if x16 < x15 then (if 0 ≤ x16 then (if x16 < (x14.length : Int) then (if 0 ≤ ((rd_T32 x14 x16).f0) then (if ((rd_T32 x14 x16).f0) < (x6.length : Int) then (impl_FlawCounts.l0 k (x6.set (((rd_T32 x14 x16).f0) : Int).toNat (wrap64 ((rd x6 ((rd_T32 x14 x16).f0)) + 1))) x14 x15 (wrap64 (x16 + 1))) else (none)) else (none)) else (none)) else (none)) else (some (x6, true))
def impl_FlawCounts.f (k : Nat) (a0_0 : Int) (a0_1 : Int) (l0_2 : List Int) (l1 : List (S32)) : Option (List Int × Bool) := (impl_AreFlaws.f k a0_0 a0_1 l0_2 l1).bind fun t102 => (if t102 = true then (if 5 ≤ 35184372088832 then (impl_FlawCounts.l0 k (List.replicate 5 0) l1 (l1.length : Int) 0) else (none)) else (some (([] : List Int), false)))
theorem impl_FlawCounts.mono_l : ∀ k, (∀ y0 y1 y2 y3, LeO (impl_FlawCounts.l0 k y0 y1 y2 y3) (impl_FlawCounts.l0 (k + 1) y0 y1 y2 y3))
  | 0 => fun _ _ _ _ r h => by simp [impl_FlawCounts.l0] at h
  | k + 1 => by
    have ih0 := impl_FlawCounts.mono_l k
    · intro y0 y1 y2 y3
      unfold impl_FlawCounts.l0
      repeat' first
      | (with_reducible exact ih0 _ _ _ _)
      | (with_reducible exact impl_AreFlaws.mono _ _ _ _ _)
      | (with_reducible exact LeO.refl _)
      | (with_reducible exact LeO.none _)
      | (with_reducible refine LeO.ite ?_ ?_)
      | (with_reducible refine LeO.bind ?_ (fun _ => ?_))
      | exact ih0 _ _ _ _
      | exact impl_AreFlaws.mono _ _ _ _ _
      | exact LeO.none _
      | refine LeO.ite ?_ ?_
      | refine LeO.bind ?_ (fun _ => ?_)
theorem impl_FlawCounts.mono : ∀ a0 a1 a2 a3 k, LeO (impl_FlawCounts.f k a0 a1 a2 a3) (impl_FlawCounts.f (k + 1) a0 a1 a2 a3) := by
  intro a0 a1 a2 a3 k
  have ih0 := impl_FlawCounts.mono_l k
  unfold impl_FlawCounts.f
  repeat' first
      | (with_reducible exact ih0 _ _ _ _)
      | (with_reducible exact impl_AreFlaws.mono _ _ _ _ _)
      | (with_reducible exact LeO.refl _)
      | (with_reducible exact LeO.none _)
      | (with_reducible refine LeO.ite ?_ ?_)
      | (with_reducible refine LeO.bind ?_ (fun _ => ?_))
      | exact ih0 _ _ _ _
      | exact impl_AreFlaws.mono _ _ _ _ _
      | exact LeO.none _
      | refine LeO.ite ?_ ?_
      | refine LeO.bind ?_ (fun _ => ?_)
set_option maxHeartbeats 8000000 in
set_option maxRecDepth 100000 in
theorem impl_FlawCounts.calls (k : Nat) (a0_0 : Int) (a0_1 : Int) (A0_2 : Option Addr) (c0_2 : Nat) (l0_2 : List Int) (A1 : Option Addr) (c1 : Nat) (l1 : List (S32)) (r1 : List Int) (r2 : Bool) (w : World) (hr0_2 : Kd.C (Kd.int .i64) w A0_2 l0_2.length l0_2) (hc0_2 : l0_2.length ≤ c0_2) (hr1 : Kd.C k32 w A1 l1.length l1) (hc1 : l1.length ≤ c1) (h : impl_FlawCounts.f k a0_0 a0_1 l0_2 l1 = some (r1, r2)) :
    Calls Try.prog 28 #[.agg #[.int .i64 a0_0, .int .i64 a0_1, .slice A0_2 l0_2.length c0_2], .slice A1 l1.length c1] w fun e w' => ∃ v0_ : Value, e = .returned (.tuple #[v0_, .bool r2]) ∧ Kd.R (Kd.int .i64) 3 w' w.heap.size (fun _ => True) v0_ r1 ∧ Below w.heap.size w w' := by
  have hu30 := Try.underlying30
  have hu32 := Try.underlying32
  have HR0_2 := Aside0.mk hr0_2
  have HC0_2 := Aside0.mk hc0_2
  clear hr0_2 hc0_2
  have HR1 := Aside0.mk hr1
  have HC1 := Aside0.mk hc1
  clear hr1 hc1
  have HB := Aside0.mk (Below.refl w.heap.size w)
  have H : ((impl_AreFlaws.f k a0_0 a0_1 l0_2 l1).bind fun t102 => (if t102 = true then (if 5 ≤ 35184372088832 then (impl_FlawCounts.l0 k (List.replicate 5 0) l1 (l1.length : Int) 0) else (none)) else (some (([] : List Int), false)))) = some (r1, r2) := h
  clear h
  replace H := Option.bind_eq_some_iff.mp H
  obtain ⟨t102, A30, H⟩ := H
  replace H : (if t102 = true then (if 5 ≤ 35184372088832 then (impl_FlawCounts.l0 k (List.replicate 5 0) l1 (l1.length : Int) 0) else (none)) else (some (([] : List Int), false))) = some (r1, r2) := H
  have A3 := Aside0.mk A30
  clear A30
  by_cases c4 : t102 = true
  · subst c4
    have H1 : (if 5 ≤ 35184372088832 then (impl_FlawCounts.l0 k (List.replicate 5 0) l1 (l1.length : Int) 0) else (none)) = some (r1, r2) := by rw [if_pos rfl] at H; exact H
    clear H
    have H := H1
    clear H1
    by_cases c5 : 5 ≤ 35184372088832
    · rw [if_pos c5] at H
      have c5b0 := eq_true c5
      have c5b1 : decide (5 ≤ 35184372088832) = true := decide_eq_true c5
      clear c5
      obtain ⟨y103, hy103⟩ : ∃ y_ : List Int, y_ = (List.replicate 5 0) := ⟨_, rfl⟩
      replace H : (impl_FlawCounts.l0 k y103 l1 (l1.length : Int) 0) = some (r1, r2) := by first | (rw [hy103]; with_reducible exact H) | (have H2_ := (Option.bind_some _ _).symm.trans H; rw [hy103]; with_reducible exact H2_) | (have H2_ := (Option.bind_some _ _).symm.trans H; with_reducible exact H2_) | with_reducible exact H | (rw [hy103]; exact H) | exact H
      have Ny103 := Aside0.mk hy103
      clear hy103
      have H' := Aside0.mk H
      clear H
      go_enter Try.func28, Try.ntmps28
      go_wp2_with (first | ((with_reducible refine gate_dst (N := 2) rfl ?_); refine box_event ?hg (N := 2) ?hd (cs := #[.int .i64 a0_0, .int .i64 a0_1, .slice A0_2 l0_2.length c0_2]) (t := 30) ?hr ?_; (case hd => rfl); (case hg => rfl); (case hr => first | (go_simp; done) | (go_simp; rfl)); intro gb101 hg w6 hbox hb; have n0_ := Aside0.mk (below_step (by exact eS HB.out) hb); have n1_ := Aside0.mk (hbox); have n2_ := Aside0.mk ((by rw [hg]; exact (below_size (by exact eS HB.out)) : w.heap.size ≤ gb101)); have n3_ := Aside0.mk ((by rw [hg]; exact (below_size (by exact eS HB.out)) : w.heap.size ≤ gb101)); clear HB; have HB := n0_; have BK101 := n1_; have GW101 := n2_; have GE101 := n3_; clear n0_ n1_ n2_ n3_; clear hb hbox hg; have hcz7_0 : w6.cell? ⟨gb101, 0, none⟩ = some (.int .i64 a0_0) := (blk_cell BK101.out 0).trans rfl; have hcz7_1 : w6.cell? ⟨gb101, 1, none⟩ = some (.int .i64 a0_1) := (blk_cell BK101.out 1).trans rfl; have hcz7_2 : w6.cell? ⟨gb101, 2, none⟩ = some (.slice A0_2 l0_2.length c0_2) := (blk_cell BK101.out 2).trans rfl; have hfz7_0 := blk_frozen BK101.out 0; have hfz7_1 := blk_frozen BK101.out 1; have hfz7_2 := blk_frozen BK101.out 2) | ((with_reducible refine gate_callee (f := 23) rfl ?_); refine goesL_ (some 11) rfl rfl Try.func23 (by kernel_rfl) rfl #[.agg #[.int .i64 a0_0, .int .i64 a0_1, .slice A0_2 l0_2.length c0_2], .slice A1 l1.length c1] rfl (by (try simp only [List.map_toArray, List.map_cons, List.map_nil]); first | done | rfl | (simp only [List.length_drop, List.length_take]; rfl)) ?_; (with_reducible refine (impl_AreFlaws.calls k a0_0 a0_1 _ _ l0_2 _ _ l1 true _ ?side1 ?side2 ?side3 ?side4 A3.out).mono ?_); (case side1 => repeat (first | exact (Kd.C_below HR0_2.out HB.out) | (with_reducible refine Kd.C_alloc ?_ _) | (with_reducible refine Kd.C_drewN ?_ _) | (with_reducible refine Kd.C_drew ?_))); (case side2 => exact HC0_2.out); (case side3 => repeat (first | exact (Kd.C_below HR1.out HB.out) | (with_reducible refine Kd.C_alloc ?_ _) | (with_reducible refine Kd.C_drewN ?_ _) | (with_reducible refine Kd.C_drew ?_))); (case side4 => exact HC1.out); rintro e w8 ⟨rfl, hb⟩; refine ⟨_, rfl, ?_⟩; have n0_ := Aside0.mk (blk_below (bS BK101.out) hb); have n1_ := Aside0.mk (below_step (by exact eS HB.out) hb); clear BK101; clear HB; have BK101 := n0_; have HB := n1_; clear n0_ n1_; (try clear hb); (try clear hb2); (try clear hk); (try clear hi)) | ((with_reducible refine gate_dst (N := 13) rfl ?_); refine Kd.R_make (Kd.int .i64) _ 3 rfl (N := 13) rfl 22 _ _ rfl 5 rfl rfl Try.underlying22 (.int .i64 0) 8 info3 rfl (by decide) (by omega) 0 (ok := fun _ => True) (okp := fun _ => True) rfl (fun _ hk => hk) trivial (by omega) (by omega) (Below.refl _ _) (Nat.le_refl _) ?_; intro v104 w9 ho10 hb hg_ hnew_; clear hg_ hnew_; (first | rw [← Ny103.out] at ho10 | (simp only [Int.reduceToNat] at ho10; rw [← Ny103.out] at ho10)); have n0_ := Aside0.mk (Kd.R_lower ho10 (below_size (by exact eS HB.out))); have n1_ := Aside0.mk (blk_below (bS BK101.out) hb); have n2_ := Aside0.mk (below_step (by exact eS HB.out) hb); clear BK101; clear HB; have HO105 := n0_; have BK101 := n1_; have HB := n2_; clear n0_ n1_ n2_; clear hb ho10))
      go_loopg [16] k (fun kq v16 w' => ∃ (x6_1 : List Int) (x16_1 : Int), v16 = .int .i64 x16_1 ∧ Aside0 (impl_FlawCounts.l0 kq x6_1 l1 (l1.length : Int) x16_1 = some (r1, r2)) ∧ Aside0 (kq ≤ k) ∧ Aside0 (Kd.R (Kd.int .i64) 3 w' w.heap.size (fun _ => True) v104 x6_1) ∧ Aside0 (w'.heap[gb101]? = some (.cells #[.int .i64 a0_0, .int .i64 a0_1, (.slice A0_2 l0_2.length c0_2)] 30 (0, 0))) ∧ Aside0 (Below w.heap.size w w'))
      case atStart => exact ⟨(y103), (0), (by first | rfl | (simp; done) | (simp [*]; done)), H', ⟨Nat.le_refl _⟩, ⟨by exact Ho.RS <| HO105.out⟩, ⟨by exact bS BK101.out⟩, ⟨by exact eS HB.out⟩⟩
      case round =>
        clear H'
        try clear c1
        try clear c2
        try clear p2
        try clear c4
        try clear c5
        try clear c5b0
        try clear c5b1
        try clear hcz7_0
        try clear hcz7_1
        try clear hcz7_2
        try clear hfz7_0
        try clear hfz7_1
        try clear hfz7_2
        obtain ⟨x6_1, x16_1, rfl, HA, HK1, HO_6, BK101, HB⟩ := hrel
        cases gk with
        | zero => exact absurd HA.out (by simp [impl_FlawCounts.l0])
        | succ k1 =>
          have H := HA.out
          clear HA
          simp only [impl_FlawCounts.l0] at H
          by_cases c11 : x16_1 < (l1.length : Int)
          · rw [if_pos c11] at H
            have c11b0 : decide (x16_1 < (l1.length : Int)) = true := decide_eq_true c11
            clear c11
            by_cases c12 : 0 ≤ x16_1
            · rw [if_pos c12] at H
              have c12b0 : decide (0 ≤ x16_1) = true := decide_eq_true c12
              clear c12
              by_cases c13 : x16_1 < (l1.length : Int)
              · rw [if_pos c13] at H
                have c13b0 : decide (x16_1 < (l1.length : Int)) = true := decide_eq_true c13
                clear c13
                by_cases c14 : 0 ≤ ((rd_T32 l1 x16_1).f0)
                · rw [if_pos c14] at H
                  have c14b0 : decide (0 ≤ ((rd_T32 l1 x16_1).f0)) = true := decide_eq_true c14
                  clear c14
                  by_cases c15 : ((rd_T32 l1 x16_1).f0) < (x6_1.length : Int)
                  · rw [if_pos c15] at H
                    have c15b0 : decide (((rd_T32 l1 x16_1).f0) < (x6_1.length : Int)) = true := decide_eq_true c15
                    clear c15
                    obtain ⟨y109, hy109⟩ : ∃ y_ : List Int, y_ = (x6_1.set (((rd_T32 l1 x16_1).f0) : Int).toNat (wrap64 ((rd x6_1 ((rd_T32 l1 x16_1).f0)) + 1))) := ⟨_, rfl⟩
                    replace H : (impl_FlawCounts.l0 k1 y109 l1 (l1.length : Int) (wrap64 (x16_1 + 1))) = some (r1, r2) := by first | (rw [hy109]; with_reducible exact H) | (have H2_ := (Option.bind_some _ _).symm.trans H; rw [hy109]; with_reducible exact H2_) | (have H2_ := (Option.bind_some _ _).symm.trans H; with_reducible exact H2_) | with_reducible exact H | (rw [hy109]; exact H) | exact H
                    have Ny109 := Aside0.mk hy109
                    clear hy109
                    have H' := Aside0.mk H
                    clear H
                    have p106 : 0 ≤ (x16_1 : Int) := of_decide_eq_true (by first | (with_reducible assumption) | assumption)
                    have q106 : x16_1 < (l1.length : Int) := of_decide_eq_true (by first | (with_reducible assumption) | assumption)
                    obtain ⟨ad106, e106, hx106_0, hx106_1, hx106_2, hx106_3⟩ := at_T32 HR1.out x16_1 p106 q106
                    cases e106
                    replace hx106_0 := (HB.out.cell (World.block_lt_of_cell? w _ hx106_0)).trans hx106_0
                    replace hx106_1 := (HB.out.cell (World.block_lt_of_cell? w _ hx106_1)).trans hx106_1
                    replace hx106_2 := (HB.out.cell (World.block_lt_of_cell? w _ hx106_2)).trans hx106_2
                    replace hx106_3 := (HB.out.cell (World.block_lt_of_cell? w _ hx106_3)).trans hx106_3
                    replace p106 := eq_true p106
                    replace q106 := eq_true q106
                    go_wp2_with (first | ((with_reducible refine gate_dst (N := 8) rfl ?_); refine box_event ?hg (N := 8) ?hd (cs := #[.int .i64 0, .int .i64 0, .int .i64 0, .int .i64 0]) (t := 32) ?hr ?_; (case hd => rfl); (case hg => rfl); (case hr => first | (go_simp; done) | (go_simp; rfl)); intro gb107 hg w17 hbox hb; have n0_ := Aside0.mk (Kd.R_below (by exact Ho.RS <| HO_6.out) hb); have n1_ := Aside0.mk (blk_below (bS BK101.out) hb); have n2_ := Aside0.mk (below_step (by exact eS HB.out) hb); have n3_ := Aside0.mk (hbox); have n4_ := Aside0.mk ((by rw [hg]; exact (below_size (by exact eS HB.out)) : w.heap.size ≤ gb107)); have n5_ := Aside0.mk ((by rw [hg]; exact (below_size (by exact eS HB.out)) : w.heap.size ≤ gb107)); have n6_ := Aside0.mk ((by rw [hg]; exact Nat.ne_of_lt (blk_lt (bS BK101.out)) : gb101 ≠ gb107)); have n7_ := Aside0.mk ((by rw [hg]; exact Nat.ne_of_gt (blk_lt (bS BK101.out)) : gb107 ≠ gb101)); clear HO_6; clear BK101; clear HB; have HO_6 := n0_; have BK101 := n1_; have HB := n2_; have BK107 := n3_; have GW107 := n4_; have GE107 := n5_; have NB101_107 := n6_; have NB107_101 := n7_; clear n0_ n1_ n2_ n3_ n4_ n5_ n6_ n7_; clear hb hbox hg; have hnb18 := NB107_101.out; have hnc18 := NB101_107.out; have hcz19_0 : w17.cell? ⟨gb107, 0, none⟩ = some (.int .i64 0) := (blk_cell BK107.out 0).trans rfl; have hcz19_1 : w17.cell? ⟨gb107, 1, none⟩ = some (.int .i64 0) := (blk_cell BK107.out 1).trans rfl; have hcz19_2 : w17.cell? ⟨gb107, 2, none⟩ = some (.int .i64 0) := (blk_cell BK107.out 2).trans rfl; have hcz19_3 : w17.cell? ⟨gb107, 3, none⟩ = some (.int .i64 0) := (blk_cell BK107.out 3).trans rfl; have hfz19_0 := blk_frozen BK107.out 0; have hfz19_1 := blk_frozen BK107.out 1; have hfz19_2 := blk_frozen BK107.out 2; have hfz19_3 := blk_frozen BK107.out 3) | ((with_reducible refine gate_store (t := 32) (p := 8) rfl ?_); refine store_event (t := 32) (p := 8) (v := ?vo_w20) (w1 := ((((w17.setCell ⟨gb107, 0, none⟩ (.int .i64 ((rd_T32 l1 x16_1).f0))).setCell ⟨gb107, 1, none⟩ (.int .i64 ((rd_T32 l1 x16_1).f1))).setCell ⟨gb107, 2, none⟩ (.int .i64 ((rd_T32 l1 x16_1).f2))).setCell ⟨gb107, 3, none⟩ (.int .i64 ((rd_T32 l1 x16_1).f3)))) ?hg ?ho ?hn ?hr ?_; (case ho => rfl); (case hg => rfl); (case hn => rfl); (case hr => first | (go_simp; done) | (go_simp; rfl)); intro w20 hw; have n0_ : Aside0 (Kd.R (Kd.int .i64) 3 w20 w.heap.size (fun _ => True) v104 x6_1) := ⟨(by rw [hw]; exact (by exact Ho.RS <| Kd.R_mono (Kd.R_far (p := ⟨gb107, 3, none⟩) (Kd.R_far (p := ⟨gb107, 2, none⟩) (Kd.R_far (p := ⟨gb107, 1, none⟩) (Kd.R_far (p := ⟨gb107, 0, none⟩) (Kd.R_types HO_6.out BK107.out (by decide)) (fun _ hk => hk.2) (.int .i64 ((rd_T32 l1 x16_1).f0))) (fun _ hk => hk.2) (.int .i64 ((rd_T32 l1 x16_1).f1))) (fun _ hk => hk.2) (.int .i64 ((rd_T32 l1 x16_1).f2))) (fun _ hk => hk.2) (.int .i64 ((rd_T32 l1 x16_1).f3))) (fun _ hk => trivial)))⟩; have n1_ : Aside0 (w20.heap[gb101]? = some (.cells #[.int .i64 a0_0, .int .i64 a0_1, .slice A0_2 l0_2.length c0_2] 30 (0, 0))) := ⟨(by rw [hw]; exact (by (with_reducible repeat (first | refine blk_drewN ?_ _ | refine blk_drew ?_ | refine blk_alloc ?_ _)); refine blk_far ?_ NB101_107.out _; (with_reducible repeat (first | refine blk_drewN ?_ _ | refine blk_drew ?_ | refine blk_alloc ?_ _)); refine blk_far ?_ NB101_107.out _; (with_reducible repeat (first | refine blk_drewN ?_ _ | refine blk_drew ?_ | refine blk_alloc ?_ _)); refine blk_far ?_ NB101_107.out _; (with_reducible repeat (first | refine blk_drewN ?_ _ | refine blk_drew ?_ | refine blk_alloc ?_ _)); refine blk_far ?_ NB101_107.out _; exact bS BK101.out))⟩; have n2_ : Aside0 (w20.heap[gb107]? = some (.cells #[.int .i64 ((rd_T32 l1 x16_1).f0), .int .i64 ((rd_T32 l1 x16_1).f1), .int .i64 ((rd_T32 l1 x16_1).f2), .int .i64 ((rd_T32 l1 x16_1).f3)] 32 (0, 0))) := ⟨(by rw [hw]; exact (by (with_reducible repeat (first | refine blk_drewN ?_ _ | refine blk_drew ?_ | refine blk_alloc ?_ _)); refine blk_put (cs := #[.int .i64 ((rd_T32 l1 x16_1).f0), .int .i64 ((rd_T32 l1 x16_1).f1), .int .i64 ((rd_T32 l1 x16_1).f2), .int .i64 0]) ?_ 3 _ rfl; (with_reducible repeat (first | refine blk_drewN ?_ _ | refine blk_drew ?_ | refine blk_alloc ?_ _)); refine blk_put (cs := #[.int .i64 ((rd_T32 l1 x16_1).f0), .int .i64 ((rd_T32 l1 x16_1).f1), .int .i64 0, .int .i64 0]) ?_ 2 _ rfl; (with_reducible repeat (first | refine blk_drewN ?_ _ | refine blk_drew ?_ | refine blk_alloc ?_ _)); refine blk_put (cs := #[.int .i64 ((rd_T32 l1 x16_1).f0), .int .i64 0, .int .i64 0, .int .i64 0]) ?_ 1 _ rfl; (with_reducible repeat (first | refine blk_drewN ?_ _ | refine blk_drew ?_ | refine blk_alloc ?_ _)); refine blk_put (cs := #[.int .i64 0, .int .i64 0, .int .i64 0, .int .i64 0]) ?_ 0 _ rfl; exact bS BK107.out))⟩; have n3_ : Aside0 (Below w.heap.size w w20) := ⟨(by rw [hw]; exact (by repeat (first | (with_reducible first | exact HB.out | apply below_alloc | apply pw_below_drewN | apply below_drew1 | refine below_set ?_ GE101.out | refine below_set ?_ GE107.out) | exact HB.out)))⟩; clear hw; clear HO_6; clear BK101; clear BK107; clear HB; have HO_6 := n0_; have BK101 := n1_; have BK107 := n2_; have HB := n3_; clear n0_ n1_ n2_ n3_; have hcz21_0 : w20.cell? ⟨gb107, 0, none⟩ = some (.int .i64 ((rd_T32 l1 x16_1).f0)) := (blk_cell BK107.out 0).trans rfl; have hcz21_1 : w20.cell? ⟨gb107, 1, none⟩ = some (.int .i64 ((rd_T32 l1 x16_1).f1)) := (blk_cell BK107.out 1).trans rfl; have hcz21_2 : w20.cell? ⟨gb107, 2, none⟩ = some (.int .i64 ((rd_T32 l1 x16_1).f2)) := (blk_cell BK107.out 2).trans rfl; have hcz21_3 : w20.cell? ⟨gb107, 3, none⟩ = some (.int .i64 ((rd_T32 l1 x16_1).f3)) := (blk_cell BK107.out 3).trans rfl; have hfz21_0 := blk_frozen BK107.out 0; have hfz21_1 := blk_frozen BK107.out 1; have hfz21_2 := blk_frozen BK107.out 2; have hfz21_3 := blk_frozen BK107.out 3; obtain ⟨Ao22, co22, eo22⟩ := Kd.R_slice HO_6.out; subst eo22; have p108 : 0 ≤ (((rd_T32 l1 x16_1).f0) : Int) := of_decide_eq_true (by first | (with_reducible assumption) | assumption); have q108 : ((rd_T32 l1 x16_1).f0) < (x6_1.length : Int) := of_decide_eq_true (by first | (with_reducible assumption) | assumption); obtain ⟨ad108, e108, hx108_0⟩ := Kd.at_int (Kd.R_reads' HO_6.out).2.2 ((rd_T32 l1 x16_1).f0) p108 q108; cases e108; replace p108 := eq_true p108; replace q108 := eq_true q108; have p16 : 0 ≤ (((rd_T32 l1 x16_1).f0) : Int) := of_decide_eq_true (by first | (with_reducible assumption) | assumption); have q16 : (((rd_T32 l1 x16_1).f0) : Int) < ((x6_1.length : Int) : Int) := of_decide_eq_true (by first | (with_reducible assumption) | assumption); obtain ⟨go16, co16, eo16, gb16, gl16, cl16, HG16⟩ := Kd.R_form HO_6.out (by omega); (first | cases eo16 | (injection eo16 with ea_ en_ ec_; (first | subst ea_ | (injection ea_ with ea_; subst ea_)); subst ec_; clear en_)); have GB16 := Aside0.mk gb16; have GG16 := Aside0.mk HG16; clear gb16 gl16 HG16; (first | simp only [add_plain] at hx108_0 | skip); obtain ⟨hx16_0, hf16_0⟩ := Kd.R_celln 0 HO_6.out (((rd_T32 l1 x16_1).f0) : Int) p16 q16; replace p16 := eq_true p16; replace q16 := eq_true q16; obtain ⟨hy23_, hz23_⟩ := Kd.R_celln 0 HO_6.out (((rd_T32 l1 x16_1).f0) : Int) (of_decide_eq_true (by first | (with_reducible assumption) | assumption)) (of_decide_eq_true (by first | (with_reducible assumption) | assumption)); have HP23 := Kd.R_putg HO_6.out (((rd_T32 l1 x16_1).f0) : Int) (wrap64 ((rd x6_1 ((rd_T32 l1 x16_1).f0)) + 1))) | ((with_reducible refine gate_store (t := 3) (p := 26) rfl ?_); refine store_event (t := 3) (p := 26) (v := ?vo_w24) (w1 := (w20.setCell ⟨go16, (((rd_T32 l1 x16_1).f0) : Int).toNat, none⟩ (.int .i64 (wrap64 ((rd x6_1 ((rd_T32 l1 x16_1).f0)) + 1))))) ?hg ?ho ?hn ?hr ?_; (case ho => rfl); (case hg => rfl); (case hn => rfl); (case hr => first | (go_simp; done) | (go_simp; rfl)); intro w24 hw; have hg : w20.grownBy w24 (some go16) := (by rw [hw]; exact HP23.2); have hp_ : Kd.R (Kd.int .i64) 3 w24 w.heap.size (fun _ => True) (.slice (some ⟨go16, 0, none⟩) x6_1.length co22) y109 := (by rw [hw, Ny109.out]; exact HP23.1); clear HP23; have n0_ := Aside0.mk (hp_); have n1_ := Aside0.mk (blk_grown (bS BK101.out) hg (Kd.R_ne HO_6.out BK101.out (by decide))); have n2_ := Aside0.mk (blk_grown (bS BK107.out) hg (Kd.R_ne HO_6.out BK107.out (by decide))); have n3_ := Aside0.mk ((by rw [hw]; exact below_set (HB.out) GB16.out : Below w.heap.size w w24)); clear HO_6; clear BK101; clear BK107; clear HB; have HO_6 := n0_; have BK101 := n1_; have BK107 := n2_; have HB := n3_; clear n0_ n1_ n2_ n3_; clear hg hw hp_))
                    go_roundg k1
                    case measure => have := HK1.out; omega
                    case rel => exact ⟨(y109), (wrap64 (x16_1 + 1)), (by first | rfl | (simp; done) | (simp [*]; done)), H', ⟨by have := HK1.out; omega⟩, ⟨by exact Ho.RS <| HO_6.out⟩, ⟨by exact bS BK101.out⟩, ⟨by exact eS HB.out⟩⟩
                  · rw [if_neg c15] at H
                    exact absurd H (by simp)
                · rw [if_neg c14] at H
                  exact absurd H (by simp)
              · rw [if_neg c13] at H
                exact absurd H (by simp)
            · rw [if_neg c12] at H
              exact absurd H (by simp)
          · rw [if_neg c11] at H
            have c11b0 : decide (x16_1 < (l1.length : Int)) = false := decide_eq_false c11
            clear c11
            simp only [Option.some.injEq, Prod.mk.injEq] at H
            obtain ⟨rfl, rfl⟩ := H
            go_wp2
            go_ret2
            exact ⟨_, by first | rfl | (simp [errW_none, errW_some] <;> rfl) | (simp [*, errW_none, errW_some] <;> rfl), by exact Ho.RS <| HO_6.out, by exact eS HB.out⟩
    · rw [if_neg c5] at H
      exact absurd H (by simp)
  · replace c4 := Bool.eq_false_iff.mpr c4
    subst c4
    have H1 : (some (([] : List Int), false)) = some (r1, r2) := by rw [if_neg (show ¬ (false = true) by decide)] at H; exact H
    clear H
    have H := H1
    clear H1
    simp only [Option.some.injEq, Prod.mk.injEq] at H
    obtain ⟨rfl, rfl⟩ := H
    go_enter Try.func28, Try.ntmps28
    go_wp2_with (first | ((with_reducible refine gate_dst (N := 2) rfl ?_); refine box_event ?hg (N := 2) ?hd (cs := #[.int .i64 a0_0, .int .i64 a0_1, .slice A0_2 l0_2.length c0_2]) (t := 30) ?hr ?_; (case hd => rfl); (case hg => rfl); (case hr => first | (go_simp; done) | (go_simp; rfl)); intro gb101 hg w25 hbox hb; have n0_ := Aside0.mk (below_step (by exact eS HB.out) hb); have n1_ := Aside0.mk (hbox); have n2_ := Aside0.mk ((by rw [hg]; exact (below_size (by exact eS HB.out)) : w.heap.size ≤ gb101)); have n3_ := Aside0.mk ((by rw [hg]; exact (below_size (by exact eS HB.out)) : w.heap.size ≤ gb101)); clear HB; have HB := n0_; have BK101 := n1_; have GW101 := n2_; have GE101 := n3_; clear n0_ n1_ n2_ n3_; clear hb hbox hg; have hcz26_0 : w25.cell? ⟨gb101, 0, none⟩ = some (.int .i64 a0_0) := (blk_cell BK101.out 0).trans rfl; have hcz26_1 : w25.cell? ⟨gb101, 1, none⟩ = some (.int .i64 a0_1) := (blk_cell BK101.out 1).trans rfl; have hcz26_2 : w25.cell? ⟨gb101, 2, none⟩ = some (.slice A0_2 l0_2.length c0_2) := (blk_cell BK101.out 2).trans rfl; have hfz26_0 := blk_frozen BK101.out 0; have hfz26_1 := blk_frozen BK101.out 1; have hfz26_2 := blk_frozen BK101.out 2) | ((with_reducible refine gate_callee (f := 23) rfl ?_); refine goesL_ (some 11) rfl rfl Try.func23 (by kernel_rfl) rfl #[.agg #[.int .i64 a0_0, .int .i64 a0_1, .slice A0_2 l0_2.length c0_2], .slice A1 l1.length c1] rfl (by (try simp only [List.map_toArray, List.map_cons, List.map_nil]); first | done | rfl | (simp only [List.length_drop, List.length_take]; rfl)) ?_; (with_reducible refine (impl_AreFlaws.calls k a0_0 a0_1 _ _ l0_2 _ _ l1 false _ ?side1 ?side2 ?side3 ?side4 A3.out).mono ?_); (case side1 => repeat (first | exact (Kd.C_below HR0_2.out HB.out) | (with_reducible refine Kd.C_alloc ?_ _) | (with_reducible refine Kd.C_drewN ?_ _) | (with_reducible refine Kd.C_drew ?_))); (case side2 => exact HC0_2.out); (case side3 => repeat (first | exact (Kd.C_below HR1.out HB.out) | (with_reducible refine Kd.C_alloc ?_ _) | (with_reducible refine Kd.C_drewN ?_ _) | (with_reducible refine Kd.C_drew ?_))); (case side4 => exact HC1.out); rintro e w27 ⟨rfl, hb⟩; refine ⟨_, rfl, ?_⟩; have n0_ := Aside0.mk (blk_below (bS BK101.out) hb); have n1_ := Aside0.mk (below_step (by exact eS HB.out) hb); clear BK101; clear HB; have BK101 := n0_; have HB := n1_; clear n0_ n1_; (try clear hb); (try clear hb2); (try clear hk); (try clear hi)))
    go_ret2
    exact ⟨_, by first | rfl | (simp [errW_none, errW_some] <;> rfl) | (simp [*, errW_none, errW_some] <;> rfl), by first | exact Kd.R_nil _ _ _ _ _ | exact Kd.N_nil _ _ _ _ _ | exact Kd.V_nil _ _ _ _ _ | exact Kd.Q_nil _ _ _ _ _ | exact Kd.S_nil _ _ _ _ _, by exact eS HB.out⟩

end Go.Proofs.Ytfibaganajembaa.X

-- XspecFlawCountsF27
namespace Go.Proofs.Ytfibaganajembaa.X
open Ho (bS eS)
open Go.RowKit Go.Proofs.YtfibaganajembaaW.PrintWords Go.Proofs.YtfibaganajembaaW.PrintLast Go.Proofs.YtfibaganajembaaW.PrintMore
attribute [local go_sem] max2_int min2_int max_two min_two max_three min_three max_four min_four   -- for this text's walks alone
set_option linter.unusedVariables false
set_option linter.unusedSimpArgs false

attribute [local go_sem ↓] Ho.isSome_setCell_   -- a store leaves all places there
/-! ### spec_FlawCounts: function 27 -/
def spec_FlawCounts.l0 : Nat → List (S32) → List Int → Int → Option (List Int × Bool)
  | 0, _, _, _ => none
  | k + 1, x1, x6, x7 => if x7 < (x1.length : Int) then (if 0 ≤ x7 then (if 0 ≤ ((rd_T32 x1 x7).f0) then (if ((rd_T32 x1 x7).f0) < (x6.length : Int) then (spec_FlawCounts.l0 k x1 (x6.set (((rd_T32 x1 x7).f0) : Int).toNat (wrap64 ((rd x6 ((rd_T32 x1 x7).f0)) + 1))) (wrap64 (x7 + 1))) else (none)) else (none)) else (none)) else (some (x6, true))
def spec_FlawCounts.f (k : Nat) (a0_0 : Int) (a0_1 : Int) (l0_2 : List Int) (l1 : List (S32)) : Option (List Int × Bool) := (spec_l22Good.f k a0_0 a0_1 l0_2 l1).bind fun t102 => (if t102 = true then (if 5 ≤ 35184372088832 then (spec_FlawCounts.l0 k l1 (List.replicate 5 0) 0) else (none)) else (some ((([] : List Int)), false)))
theorem spec_FlawCounts.mono_l : ∀ k, (∀ y0 y1 y2, LeO (spec_FlawCounts.l0 k y0 y1 y2) (spec_FlawCounts.l0 (k + 1) y0 y1 y2))
  | 0 => fun _ _ _ r h => by simp [spec_FlawCounts.l0] at h
  | k + 1 => by
    have ih0 := spec_FlawCounts.mono_l k
    · intro y0 y1 y2
      unfold spec_FlawCounts.l0
      repeat' first
      | (with_reducible exact ih0 _ _ _)
      | (with_reducible exact spec_l22Good.mono _ _ _ _ _)
      | (with_reducible exact LeO.refl _)
      | (with_reducible exact LeO.none _)
      | (with_reducible refine LeO.ite ?_ ?_)
      | (with_reducible refine LeO.bind ?_ (fun _ => ?_))
      | exact ih0 _ _ _
      | exact spec_l22Good.mono _ _ _ _ _
      | exact LeO.none _
      | refine LeO.ite ?_ ?_
      | refine LeO.bind ?_ (fun _ => ?_)
theorem spec_FlawCounts.mono : ∀ a0 a1 a2 a3 k, LeO (spec_FlawCounts.f k a0 a1 a2 a3) (spec_FlawCounts.f (k + 1) a0 a1 a2 a3) := by
  intro a0 a1 a2 a3 k
  have ih0 := spec_FlawCounts.mono_l k
  unfold spec_FlawCounts.f
  repeat' first
      | (with_reducible exact ih0 _ _ _)
      | (with_reducible exact spec_l22Good.mono _ _ _ _ _)
      | (with_reducible exact LeO.refl _)
      | (with_reducible exact LeO.none _)
      | (with_reducible refine LeO.ite ?_ ?_)
      | (with_reducible refine LeO.bind ?_ (fun _ => ?_))
      | exact ih0 _ _ _
      | exact spec_l22Good.mono _ _ _ _ _
      | exact LeO.none _
      | refine LeO.ite ?_ ?_
      | refine LeO.bind ?_ (fun _ => ?_)
set_option maxHeartbeats 8000000 in
set_option maxRecDepth 100000 in
theorem spec_FlawCounts.calls (k : Nat) (a0_0 : Int) (a0_1 : Int) (A0_2 : Option Addr) (c0_2 : Nat) (l0_2 : List Int) (A1 : Option Addr) (c1 : Nat) (l1 : List (S32)) (r1 : List Int) (r2 : Bool) (w : World) (hr0_2 : Kd.C (Kd.int .i64) w A0_2 l0_2.length l0_2) (hc0_2 : l0_2.length ≤ c0_2) (hr1 : Kd.C k32 w A1 l1.length l1) (hc1 : l1.length ≤ c1) (h : spec_FlawCounts.f k a0_0 a0_1 l0_2 l1 = some (r1, r2)) :
    Calls Try.prog 27 #[.agg #[.int .i64 a0_0, .int .i64 a0_1, .slice A0_2 l0_2.length c0_2], .slice A1 l1.length c1] w fun e w' => ∃ v0_ : Value, e = .returned (.tuple #[v0_, .bool r2]) ∧ Kd.R (Kd.int .i64) 3 w' w.heap.size (fun _ => True) v0_ r1 ∧ Below w.heap.size w w' := by
  have hu30 := Try.underlying30
  have HR0_2 := Aside0.mk hr0_2
  have HC0_2 := Aside0.mk hc0_2
  clear hr0_2 hc0_2
  have HR1 := Aside0.mk hr1
  have HC1 := Aside0.mk hc1
  clear hr1 hc1
  have HB := Aside0.mk (Below.refl w.heap.size w)
  have H : ((spec_l22Good.f k a0_0 a0_1 l0_2 l1).bind fun t102 => (if t102 = true then (if 5 ≤ 35184372088832 then (spec_FlawCounts.l0 k l1 (List.replicate 5 0) 0) else (none)) else (some ((([] : List Int)), false)))) = some (r1, r2) := h
  clear h
  replace H := Option.bind_eq_some_iff.mp H
  obtain ⟨t102, A30, H⟩ := H
  replace H : (if t102 = true then (if 5 ≤ 35184372088832 then (spec_FlawCounts.l0 k l1 (List.replicate 5 0) 0) else (none)) else (some ((([] : List Int)), false))) = some (r1, r2) := H
  have A3 := Aside0.mk A30
  clear A30
  by_cases c4 : t102 = true
  · subst c4
    have H1 : (if 5 ≤ 35184372088832 then (spec_FlawCounts.l0 k l1 (List.replicate 5 0) 0) else (none)) = some (r1, r2) := by rw [if_pos rfl] at H; exact H
    clear H
    have H := H1
    clear H1
    by_cases c5 : 5 ≤ 35184372088832
    · rw [if_pos c5] at H
      have c5b0 := eq_true c5
      have c5b1 : decide (5 ≤ 35184372088832) = true := decide_eq_true c5
      clear c5
      obtain ⟨y106, hy106⟩ : ∃ y_ : List Int, y_ = (List.replicate 5 0) := ⟨_, rfl⟩
      replace H : (spec_FlawCounts.l0 k l1 y106 0) = some (r1, r2) := by first | (rw [hy106]; with_reducible exact H) | (have H2_ := (Option.bind_some _ _).symm.trans H; rw [hy106]; with_reducible exact H2_) | (have H2_ := (Option.bind_some _ _).symm.trans H; with_reducible exact H2_) | with_reducible exact H | (rw [hy106]; exact H) | exact H
      have Ny106 := Aside0.mk hy106
      clear hy106
      have H' := Aside0.mk H
      clear H
      go_enter Try.func27, Try.ntmps27
      go_wp2_with (first | ((with_reducible refine gate_dst (N := 2) rfl ?_); refine box_event ?hg (N := 2) ?hd (cs := #[.int .i64 a0_0, .int .i64 a0_1, .slice A0_2 l0_2.length c0_2]) (t := 30) ?hr ?_; (case hd => rfl); (case hg => rfl); (case hr => first | (go_simp; done) | (go_simp; rfl)); intro gb101 hg w6 hbox hb; have n0_ := Aside0.mk (below_step (by exact eS HB.out) hb); have n1_ := Aside0.mk (hbox); have n2_ := Aside0.mk ((by rw [hg]; exact (below_size (by exact eS HB.out)) : w.heap.size ≤ gb101)); have n3_ := Aside0.mk ((by rw [hg]; exact (below_size (by exact eS HB.out)) : w.heap.size ≤ gb101)); clear HB; have HB := n0_; have BK101 := n1_; have GW101 := n2_; have GE101 := n3_; clear n0_ n1_ n2_ n3_; clear hb hbox hg; have hcz7_0 : w6.cell? ⟨gb101, 0, none⟩ = some (.int .i64 a0_0) := (blk_cell BK101.out 0).trans rfl; have hcz7_1 : w6.cell? ⟨gb101, 1, none⟩ = some (.int .i64 a0_1) := (blk_cell BK101.out 1).trans rfl; have hcz7_2 : w6.cell? ⟨gb101, 2, none⟩ = some (.slice A0_2 l0_2.length c0_2) := (blk_cell BK101.out 2).trans rfl; have hfz7_0 := blk_frozen BK101.out 0; have hfz7_1 := blk_frozen BK101.out 1; have hfz7_2 := blk_frozen BK101.out 2) | ((with_reducible refine gate_callee (f := 60) rfl ?_); refine goesL_ (some 11) rfl rfl Try.func60 (by kernel_rfl) rfl #[.agg #[.int .i64 a0_0, .int .i64 a0_1, .slice A0_2 l0_2.length c0_2], .slice A1 l1.length c1] rfl (by (try simp only [List.map_toArray, List.map_cons, List.map_nil]); first | done | rfl | (simp only [List.length_drop, List.length_take]; rfl)) ?_; (with_reducible refine (spec_l22Good.calls k a0_0 a0_1 _ _ l0_2 _ _ l1 true _ ?side1 ?side2 ?side3 ?side4 A3.out).mono ?_); (case side1 => repeat (first | exact (Kd.C_below HR0_2.out HB.out) | (with_reducible refine Kd.C_alloc ?_ _) | (with_reducible refine Kd.C_drewN ?_ _) | (with_reducible refine Kd.C_drew ?_))); (case side2 => exact HC0_2.out); (case side3 => repeat (first | exact (Kd.C_below HR1.out HB.out) | (with_reducible refine Kd.C_alloc ?_ _) | (with_reducible refine Kd.C_drewN ?_ _) | (with_reducible refine Kd.C_drew ?_))); (case side4 => exact HC1.out); rintro e w8 ⟨rfl, hb⟩; refine ⟨_, rfl, ?_⟩; have n0_ := Aside0.mk (blk_below (bS BK101.out) hb); have n1_ := Aside0.mk (below_step (by exact eS HB.out) hb); clear BK101; clear HB; have BK101 := n0_; have HB := n1_; clear n0_ n1_; (try clear hb); (try clear hb2); (try clear hk); (try clear hi)) | ((with_reducible refine gate_dst (N := 14) rfl ?_); refine Kd.R_make (Kd.int .i64) _ 3 rfl (N := 14) rfl 22 _ _ rfl 5 rfl rfl Try.underlying22 (.int .i64 0) 8 info3 rfl (by decide) (by omega) 0 (ok := fun _ => True) (okp := fun _ => True) rfl (fun _ hk => hk) trivial (by omega) (by omega) (Below.refl _ _) (Nat.le_refl _) ?_; intro v107 w9 ho10 hb hg_ hnew_; clear hg_ hnew_; (first | rw [← Ny106.out] at ho10 | (simp only [Int.reduceToNat] at ho10; rw [← Ny106.out] at ho10)); have n0_ := Aside0.mk (Kd.R_lower ho10 (below_size (by exact eS HB.out))); have n1_ := Aside0.mk (blk_below (bS BK101.out) hb); have n2_ := Aside0.mk (below_step (by exact eS HB.out) hb); clear BK101; clear HB; have HO108 := n0_; have BK101 := n1_; have HB := n2_; clear n0_ n1_ n2_; clear hb ho10))
      go_loopg [7] k (fun kq v7 w' => ∃ (x6_1 : List Int) (x7_1 : Int), v7 = .int .i64 x7_1 ∧ Aside0 (spec_FlawCounts.l0 kq l1 x6_1 x7_1 = some (r1, r2)) ∧ Aside0 (kq ≤ k) ∧ Aside0 (Kd.R (Kd.int .i64) 3 w' w.heap.size (fun _ => True) v107 x6_1) ∧ Aside0 (w'.heap[gb101]? = some (.cells #[.int .i64 a0_0, .int .i64 a0_1, (.slice A0_2 l0_2.length c0_2)] 30 (0, 0))) ∧ Aside0 (Below w.heap.size w w'))
      case atStart => exact ⟨(y106), (0), (by first | rfl | (simp; done) | (simp [*]; done)), H', ⟨Nat.le_refl _⟩, ⟨by exact Ho.RS <| HO108.out⟩, ⟨by exact bS BK101.out⟩, ⟨by exact eS HB.out⟩⟩
      case round =>
        clear H'
        try clear c1
        try clear c2
        try clear p2
        try clear c4
        try clear c5
        try clear c5b0
        try clear c5b1
        try clear c6
        try clear hcz7_0
        try clear hcz7_1
        try clear hcz7_2
        try clear hfz7_0
        try clear hfz7_1
        try clear hfz7_2
        obtain ⟨x6_1, x7_1, rfl, HA, HK1, HO_6, BK101, HB⟩ := hrel
        cases gk with
        | zero => exact absurd HA.out (by simp [spec_FlawCounts.l0])
        | succ k1 =>
          have H := HA.out
          clear HA
          simp only [spec_FlawCounts.l0] at H
          by_cases c11 : x7_1 < (l1.length : Int)
          · rw [if_pos c11] at H
            have c11b0 : decide (x7_1 < (l1.length : Int)) = true := decide_eq_true c11
            clear c11
            by_cases c12 : 0 ≤ x7_1
            · rw [if_pos c12] at H
              have c12b0 : decide (0 ≤ x7_1) = true := decide_eq_true c12
              clear c12
              by_cases c13 : 0 ≤ ((rd_T32 l1 x7_1).f0)
              · rw [if_pos c13] at H
                have c13b0 : decide (0 ≤ ((rd_T32 l1 x7_1).f0)) = true := decide_eq_true c13
                clear c13
                by_cases c14 : ((rd_T32 l1 x7_1).f0) < (x6_1.length : Int)
                · rw [if_pos c14] at H
                  have c14b0 : decide (((rd_T32 l1 x7_1).f0) < (x6_1.length : Int)) = true := decide_eq_true c14
                  clear c14
                  obtain ⟨y111, hy111⟩ : ∃ y_ : List Int, y_ = (x6_1.set (((rd_T32 l1 x7_1).f0) : Int).toNat (wrap64 ((rd x6_1 ((rd_T32 l1 x7_1).f0)) + 1))) := ⟨_, rfl⟩
                  replace H : (spec_FlawCounts.l0 k1 l1 y111 (wrap64 (x7_1 + 1))) = some (r1, r2) := by first | (rw [hy111]; with_reducible exact H) | (have H2_ := (Option.bind_some _ _).symm.trans H; rw [hy111]; with_reducible exact H2_) | (have H2_ := (Option.bind_some _ _).symm.trans H; with_reducible exact H2_) | with_reducible exact H | (rw [hy111]; exact H) | exact H
                  have Ny111 := Aside0.mk hy111
                  clear hy111
                  have H' := Aside0.mk H
                  clear H
                  have p109 : 0 ≤ (x7_1 : Int) := of_decide_eq_true (by first | (with_reducible assumption) | assumption)
                  have q109 : x7_1 < (l1.length : Int) := of_decide_eq_true (by first | (with_reducible assumption) | assumption)
                  obtain ⟨ad109, e109, hx109_0, hx109_1, hx109_2, hx109_3⟩ := at_T32 HR1.out x7_1 p109 q109
                  cases e109
                  replace hx109_0 := (HB.out.cell (World.block_lt_of_cell? w _ hx109_0)).trans hx109_0
                  replace hx109_1 := (HB.out.cell (World.block_lt_of_cell? w _ hx109_1)).trans hx109_1
                  replace hx109_2 := (HB.out.cell (World.block_lt_of_cell? w _ hx109_2)).trans hx109_2
                  replace hx109_3 := (HB.out.cell (World.block_lt_of_cell? w _ hx109_3)).trans hx109_3
                  replace p109 := eq_true p109
                  replace q109 := eq_true q109
                  obtain ⟨Ao16, co16, eo16⟩ := Kd.R_slice HO_6.out
                  subst eo16
                  have p110 : 0 ≤ (((rd_T32 l1 x7_1).f0) : Int) := of_decide_eq_true (by first | (with_reducible assumption) | assumption)
                  have q110 : ((rd_T32 l1 x7_1).f0) < (x6_1.length : Int) := of_decide_eq_true (by first | (with_reducible assumption) | assumption)
                  obtain ⟨ad110, e110, hx110_0⟩ := Kd.at_int (Kd.R_reads' HO_6.out).2.2 ((rd_T32 l1 x7_1).f0) p110 q110
                  cases e110
                  replace p110 := eq_true p110
                  replace q110 := eq_true q110
                  have p15 : 0 ≤ (((rd_T32 l1 x7_1).f0) : Int) := of_decide_eq_true (by first | (with_reducible assumption) | assumption)
                  have q15 : (((rd_T32 l1 x7_1).f0) : Int) < ((x6_1.length : Int) : Int) := of_decide_eq_true (by first | (with_reducible assumption) | assumption)
                  obtain ⟨go15, co15, eo15, gb15, gl15, cl15, HG15⟩ := Kd.R_form HO_6.out (by omega)
                  (first | cases eo15 | (injection eo15 with ea_ en_ ec_; (first | subst ea_ | (injection ea_ with ea_; subst ea_)); subst ec_; clear en_))
                  have GB15 := Aside0.mk gb15
                  have GG15 := Aside0.mk HG15
                  clear gb15 gl15 HG15
                  (first | simp only [add_plain] at hx110_0 | skip)
                  obtain ⟨hx15_0, hf15_0⟩ := Kd.R_celln 0 HO_6.out (((rd_T32 l1 x7_1).f0) : Int) p15 q15
                  replace p15 := eq_true p15
                  replace q15 := eq_true q15
                  have HP17 := Kd.R_putg HO_6.out (((rd_T32 l1 x7_1).f0) : Int) (wrap64 ((rd x6_1 ((rd_T32 l1 x7_1).f0)) + 1))
                  go_wp2_with (first | ((with_reducible refine gate_store (t := 3) (p := 33) rfl ?_); refine store_event (t := 3) (p := 33) (v := ?vo_w18) (w1 := (wr.setCell ⟨go15, (((rd_T32 l1 x7_1).f0) : Int).toNat, none⟩ (.int .i64 (wrap64 ((rd x6_1 ((rd_T32 l1 x7_1).f0)) + 1))))) ?hg ?ho ?hn ?hr ?_; (case ho => rfl); (case hg => rfl); (case hn => rfl); (case hr => first | (go_simp; done) | (go_simp; rfl)); intro w18 hw; have hg : wr.grownBy w18 (some go15) := (by rw [hw]; exact HP17.2); have hp_ : Kd.R (Kd.int .i64) 3 w18 w.heap.size (fun _ => True) (.slice (some ⟨go15, 0, none⟩) x6_1.length co16) y111 := (by rw [hw, Ny111.out]; exact HP17.1); clear HP17; have n0_ := Aside0.mk (hp_); have n1_ := Aside0.mk (blk_grown (bS BK101.out) hg (Kd.R_ne HO_6.out BK101.out (by decide))); have n2_ := Aside0.mk ((by rw [hw]; exact below_set (HB.out) GB15.out : Below w.heap.size w w18)); clear HO_6; clear BK101; clear HB; have HO_6 := n0_; have BK101 := n1_; have HB := n2_; clear n0_ n1_ n2_; clear hg hw hp_))
                  go_roundg k1
                  case measure => have := HK1.out; omega
                  case rel => exact ⟨(y111), (wrap64 (x7_1 + 1)), (by first | rfl | (simp; done) | (simp [*]; done)), H', ⟨by have := HK1.out; omega⟩, ⟨by exact Ho.RS <| HO_6.out⟩, ⟨by exact bS BK101.out⟩, ⟨by exact eS HB.out⟩⟩
                · rw [if_neg c14] at H
                  exact absurd H (by simp)
              · rw [if_neg c13] at H
                exact absurd H (by simp)
            · rw [if_neg c12] at H
              exact absurd H (by simp)
          · rw [if_neg c11] at H
            have c11b0 : decide (x7_1 < (l1.length : Int)) = false := decide_eq_false c11
            clear c11
            simp only [Option.some.injEq, Prod.mk.injEq] at H
            obtain ⟨rfl, rfl⟩ := H
            go_wp2
            go_ret2
            exact ⟨_, by first | rfl | (simp [errW_none, errW_some] <;> rfl) | (simp [*, errW_none, errW_some] <;> rfl), by exact Ho.RS <| HO_6.out, by exact eS HB.out⟩
    · rw [if_neg c5] at H
      exact absurd H (by simp)
  · replace c4 := Bool.eq_false_iff.mpr c4
    subst c4
    have H1 : (some ((([] : List Int)), false)) = some (r1, r2) := by rw [if_neg (show ¬ (false = true) by decide)] at H; exact H
    clear H
    have H := H1
    clear H1
    obtain ⟨y103, hy103⟩ : ∃ y_ : List Int, y_ = (([] : List Int)) := ⟨_, rfl⟩
    replace H : (some (y103, false)) = some (r1, r2) := by first | (rw [hy103]; with_reducible exact H) | (have H2_ := (Option.bind_some _ _).symm.trans H; rw [hy103]; with_reducible exact H2_) | (have H2_ := (Option.bind_some _ _).symm.trans H; with_reducible exact H2_) | with_reducible exact H | (rw [hy103]; exact H) | exact H
    have Ny103 := Aside0.mk hy103
    clear hy103
    simp only [Option.some.injEq, Prod.mk.injEq] at H
    obtain ⟨rfl, rfl⟩ := H
    go_enter Try.func27, Try.ntmps27
    go_wp2_with (first | ((with_reducible refine gate_dst (N := 2) rfl ?_); refine box_event ?hg (N := 2) ?hd (cs := #[.int .i64 a0_0, .int .i64 a0_1, .slice A0_2 l0_2.length c0_2]) (t := 30) ?hr ?_; (case hd => rfl); (case hg => rfl); (case hr => first | (go_simp; done) | (go_simp; rfl)); intro gb101 hg w19 hbox hb; have n0_ := Aside0.mk (below_step (by exact eS HB.out) hb); have n1_ := Aside0.mk (hbox); have n2_ := Aside0.mk ((by rw [hg]; exact (below_size (by exact eS HB.out)) : w.heap.size ≤ gb101)); have n3_ := Aside0.mk ((by rw [hg]; exact (below_size (by exact eS HB.out)) : w.heap.size ≤ gb101)); clear HB; have HB := n0_; have BK101 := n1_; have GW101 := n2_; have GE101 := n3_; clear n0_ n1_ n2_ n3_; clear hb hbox hg; have hcz20_0 : w19.cell? ⟨gb101, 0, none⟩ = some (.int .i64 a0_0) := (blk_cell BK101.out 0).trans rfl; have hcz20_1 : w19.cell? ⟨gb101, 1, none⟩ = some (.int .i64 a0_1) := (blk_cell BK101.out 1).trans rfl; have hcz20_2 : w19.cell? ⟨gb101, 2, none⟩ = some (.slice A0_2 l0_2.length c0_2) := (blk_cell BK101.out 2).trans rfl; have hfz20_0 := blk_frozen BK101.out 0; have hfz20_1 := blk_frozen BK101.out 1; have hfz20_2 := blk_frozen BK101.out 2) | ((with_reducible refine gate_callee (f := 60) rfl ?_); refine goesL_ (some 11) rfl rfl Try.func60 (by kernel_rfl) rfl #[.agg #[.int .i64 a0_0, .int .i64 a0_1, .slice A0_2 l0_2.length c0_2], .slice A1 l1.length c1] rfl (by (try simp only [List.map_toArray, List.map_cons, List.map_nil]); first | done | rfl | (simp only [List.length_drop, List.length_take]; rfl)) ?_; (with_reducible refine (spec_l22Good.calls k a0_0 a0_1 _ _ l0_2 _ _ l1 false _ ?side1 ?side2 ?side3 ?side4 A3.out).mono ?_); (case side1 => repeat (first | exact (Kd.C_below HR0_2.out HB.out) | (with_reducible refine Kd.C_alloc ?_ _) | (with_reducible refine Kd.C_drewN ?_ _) | (with_reducible refine Kd.C_drew ?_))); (case side2 => exact HC0_2.out); (case side3 => repeat (first | exact (Kd.C_below HR1.out HB.out) | (with_reducible refine Kd.C_alloc ?_ _) | (with_reducible refine Kd.C_drewN ?_ _) | (with_reducible refine Kd.C_drew ?_))); (case side4 => exact HC1.out); rintro e w21 ⟨rfl, hb⟩; refine ⟨_, rfl, ?_⟩; have n0_ := Aside0.mk (blk_below (bS BK101.out) hb); have n1_ := Aside0.mk (below_step (by exact eS HB.out) hb); clear BK101; clear HB; have BK101 := n0_; have HB := n1_; clear n0_ n1_; (try clear hb); (try clear hb2); (try clear hk); (try clear hi)) | ((with_reducible refine gate_dst (N := 13) rfl ?_); refine Kd.R_lit (Kd.int .i64) _ 3 ?hg (N := 13) ?hd (xs := ([] : List Int)) (inner := []) (ok := fun _ => True) (okp := fun _ => True) ?hr ?hp (fun _ hk => hk) trivial (Below.refl _ _) (Nat.le_refl _) (by simp) ?_; (case hd => rfl); (case hg => rfl); (case hr => first | (go_simp; done) | (go_simp; rfl)); (case hp => exact (Reps.none _ _)); intro v104 w22 ho23 hb hg_ hnew_; clear hg_ hnew_; (first | rw [← Ny103.out] at ho23 | (simp only [Int.reduceToNat] at ho23; rw [← Ny103.out] at ho23)); have n0_ := Aside0.mk (Kd.R_lower ho23 (below_size (by exact eS HB.out))); have n1_ := Aside0.mk (blk_below (bS BK101.out) hb); have n2_ := Aside0.mk (below_step (by exact eS HB.out) hb); clear BK101; clear HB; have HO105 := n0_; have BK101 := n1_; have HB := n2_; clear n0_ n1_ n2_; clear hb ho23))
    go_ret2
    exact ⟨_, by first | rfl | (simp [errW_none, errW_some] <;> rfl) | (simp [*, errW_none, errW_some] <;> rfl), by exact Ho.RS <| HO105.out, by exact eS HB.out⟩

end Go.Proofs.Ytfibaganajembaa.X

-- Qflawcounts
namespace Go.Proofs.Ytfibaganajembaa.Pure
open Go Go.RowKit Go.Proofs Go.Proofs.Ytfibaganajembaa.X Go.Proofs.YtfibaganajembaaW.PrintWords Go.Proofs.YtfibaganajembaaW.PrintLast
set_option linter.unusedVariables false
set_option linter.unusedSimpArgs false

def countStep (c : List Int) (x : S32) : List Int := c.set x.f0.toNat (rd c x.f0 + 1)
def countsM (fl : List S32) : List Int := fl.foldl countStep (List.replicate 5 0)
theorem rd_set (c : List Int) (n : Nat) (v : Int) (j : Int) (hn : n < c.length) : rd (c.set n v) j = if j.toNat = n then v else rd c j := by
  unfold rd
  rw [List.getD_eq_getElem?_getD, List.getElem?_set]
  by_cases h : n = j.toNat
  · rw [if_pos h, if_pos hn, if_pos h.symm]; rfl
  · rw [if_neg h, if_neg (fun e => h e.symm), ← List.getD_eq_getElem?_getD]
theorem counts_loop (L : Nat → List Int → Int → Option (List Int × Bool)) (fl : List S32) (hb : fl.length ≤ 1000) (hk0 : ∀ x ∈ fl, 0 ≤ x.f0 ∧ x.f0 ≤ 4)
    (hs : ∀ k c (i : Nat), i < fl.length → c.length = 5 → (∀ j, 0 ≤ rd c j ∧ rd c j ≤ i) → L (k + 1) c i = L k (countStep c (fl.getD i z32)) (wrap64 ((i : Int) + 1)))
    (he : ∀ k c (i : Nat), fl.length ≤ i → L (k + 1) c i = some (c, true)) :
    ∀ n k (i : Nat) c, i + n = fl.length → n < k → c.length = 5 → (∀ j, 0 ≤ rd c j ∧ rd c j ≤ i) → L k c i = some ((fl.drop i).foldl countStep c, true) := by
  intro n
  induction n with
  | zero =>
    intro k i c hi hk hl hj
    obtain ⟨k, rfl, _⟩ := succ_of hk
    rw [he k c i (by omega), List.drop_eq_nil_of_le (by omega)]; rfl
  | succ n ih =>
    intro k i c hi hk hl hj
    obtain ⟨k, rfl, hk⟩ := succ_of hk
    have hlt : i < fl.length := by omega
    have hm : fl.getD i z32 ∈ fl := by rw [List.getD_eq_getElem?_getD, List.getElem?_eq_getElem hlt]; exact List.getElem_mem hlt
    have hx := hk0 _ hm
    rw [hs k c i hlt hl hj, wstep hlt (by omega), drop_step hlt z32, List.foldl_cons]
    refine ih k (i + 1) _ (by omega) (by omega) (by rw [countStep, List.length_set]; exact hl) (fun j => ?_)
    unfold countStep
    rw [rd_set c _ _ j (by omega)]
    have h1 := hj j
    have h2 := hj (fl.getD i z32).f0
    push_cast
    split <;> omega
theorem counts_len (fl : List S32) : ∀ c : List Int, (fl.foldl countStep c).length = c.length := by
  induction fl with
  | nil => intro c; rfl
  | cons x l ih => intro c; rw [List.foldl_cons, ih, countStep, List.length_set]
def flawCountsM (w h : Int) (l : List Int) (fl : List S32) : List Int × Bool := if flawsB w h l fl then (countsM fl, true) else ([], false)
theorem flaws_of {w h : Int} {l : List Int} {fl : List S32} (hb : flawsB w h l fl = true) : chartB w h l = true ∧ fl.length ≤ 12 ∧ ∀ x ∈ fl, flawB w h x = true := by
  simp only [flawsB, Bool.and_eq_true, decide_eq_true_eq, List.all_eq_true] at hb
  exact ⟨hb.1, hb.2.1, hb.2.2.1⟩
theorem flaw_of {w h : Int} {x : S32} (hb : flawB w h x = true) : (0 ≤ x.f0 ∧ x.f0 ≤ 4) ∧ (1 ≤ x.f3 ∧ x.f3 ≤ 9) ∧ (0 ≤ x.f1 ∧ x.f1 ≤ h - 1) ∧ (0 ≤ x.f2 ∧ x.f2 ≤ w - 1) := by
  simpa only [flawB, Bool.and_eq_true, decide_eq_true_eq] using hb
theorem rd_rep (j : Int) : rd (List.replicate 5 (0 : Int)) j = 0 := by
  unfold rd
  rw [List.getD_eq_getElem?_getD, List.getElem?_replicate]
  split <;> rfl
theorem countsS_eq {k : Nat} {w h : Int} {l : List Int} {fl : List S32} (hk : l.length + fl.length + 5 < k) (hl : l.length ≤ 1048576) (hf : fl.length ≤ 1048576) : spec_FlawCounts.f k w h l fl = some (flawCountsM w h l fl) := by
  simp only [spec_FlawCounts.f, flawsS_eq hk hl hf, Option.bind_some, flawCountsM]
  cases hb : flawsB w h l fl
  · simp
  obtain ⟨_, h12, hfl⟩ := flaws_of hb
  simp only [if_true]
  rw [if_pos (by omega)]
  have := counts_loop (fun k c i => spec_FlawCounts.l0 k fl c i) fl (by omega) (fun x hx => (flaw_of (hfl x hx)).1)
    (fun k c i h1 h2 h3 => by
      have hm : fl.getD i z32 ∈ fl := by rw [List.getD_eq_getElem?_getD, List.getElem?_eq_getElem h1]; exact List.getElem_mem h1
      have hx := (flaw_of (hfl _ hm)).1
      have h4 := h3 (fl.getD i z32).f0
      simp only [spec_FlawCounts.l0, rdIFlaw_nat]
      rw [if_pos (by omega), if_pos (by omega), if_pos (by omega), if_pos (by omega), w64 (x := rd c _ + 1) (by omega) (by omega)]
      rfl)
    (fun k c i h1 => by simp only [spec_FlawCounts.l0]; rw [if_neg (by omega)])
    fl.length k 0 (List.replicate 5 0) (by omega) (by omega) (by simp) (fun j => by rw [rd_rep]; omega)
  simpa [countsM] using this
theorem countsI_eq {k : Nat} {w h : Int} {l : List Int} {fl : List S32} (hk : fl.length + 10 < k) (hf : fl.length ≤ 1048576) : impl_FlawCounts.f k w h l fl = some (flawCountsM w h l fl) := by
  simp only [impl_FlawCounts.f, AreFlaws_eq hk hf, Option.bind_some, flawCountsM]
  cases hb : flawsB w h l fl
  · simp
  obtain ⟨_, h12, hfl⟩ := flaws_of hb
  simp only [if_true]
  rw [if_pos (by omega)]
  have := counts_loop (fun k c i => impl_FlawCounts.l0 k c fl (fl.length : Int) i) fl (by omega) (fun x hx => (flaw_of (hfl x hx)).1)
    (fun k c i h1 h2 h3 => by
      have hm : fl.getD i z32 ∈ fl := by rw [List.getD_eq_getElem?_getD, List.getElem?_eq_getElem h1]; exact List.getElem_mem h1
      have hx := (flaw_of (hfl _ hm)).1
      have h4 := h3 (fl.getD i z32).f0
      simp only [impl_FlawCounts.l0, rdIFlaw_nat]
      rw [if_pos (by omega), if_pos (by omega), if_pos (by omega), if_pos (by omega), if_pos (by omega), w64 (x := rd c _ + 1) (by omega) (by omega)]
      rfl)
    (fun k c i h1 => by simp only [impl_FlawCounts.l0]; rw [if_neg (by omega)])
    fl.length k 0 (List.replicate 5 0) (by omega) (by omega) (by simp) (fun j => by rw [rd_rep]; omega)
  simpa [countsM] using this
theorem flawCountsM_len (w h : Int) (l : List Int) (fl : List S32) : (flawCountsM w h l fl).1.length ≤ 5 := by
  unfold flawCountsM; split
  · simp only [countsM, counts_len, List.length_replicate]; omega
  · simp

end Go.Proofs.Ytfibaganajembaa.Pure

-- Qnestinv
namespace Go.Proofs.Ytfibaganajembaa.Pure
open Go Go.RowKit Go.Proofs Go.Proofs.YtfibaganajembaaW.PrintWords Go.Proofs.YtfibaganajembaaW.PrintLast
set_option linter.unusedVariables false
set_option linter.unusedSimpArgs false

theorem nest_inv {σ β : Type} (Lin : Nat → σ → Int → Option β) (Lout : Nat → σ → Option β) (step : σ → Nat → σ) (I : Nat → σ → Prop) (n0 m0 : Nat)
    (hs : ∀ (i : Nat) (s : σ), i < n0 → I i s → I (i + 1) (step s i) ∧ ∃ c, ∀ k, m0 ≤ k → Lin (k + c) s (i : Int) = Lin k (step s i) ((i + 1 : Nat) : Int)) (he : ∀ k s, I n0 s → Lin (k + 1) s (n0 : Int) = Lout k s) :
    ∀ (n i : Nat) (s : σ), i + n = n0 → I i s → I n0 ((List.range' i n).foldl step s) ∧ ∃ c, ∀ k, m0 ≤ k → Lin (k + c) s (i : Int) = Lout k ((List.range' i n).foldl step s) := by
  intro n
  induction n with
  | zero =>
    intro i s hi hI
    obtain rfl : i = n0 := by omega
    exact ⟨hI, 1, fun k _ => by rw [he k s hI]; rfl⟩
  | succ n ih =>
    intro i s hi hI
    obtain ⟨hI1, c1, h1⟩ := hs i s (by omega) hI
    obtain ⟨hI2, c2, h2⟩ := ih (i + 1) (step s i) (by omega) hI1
    refine ⟨hI2, c2 + c1, fun k hk => ?_⟩
    rw [show k + (c2 + c1) = (k + c2) + c1 by omega, h1 (k + c2) (by omega), h2 k hk, List.range'_succ, List.foldl_cons]
theorem ex_max (P : Nat → Nat → Prop) (n : Nat) (h : ∀ i, i < n → ∃ m, ∀ k, m ≤ k → P i k) : ∃ m, ∀ i, i < n → ∀ k, m ≤ k → P i k := by
  induction n with
  | zero => exact ⟨0, fun i hi => absurd hi (Nat.not_lt_zero i)⟩
  | succ n ih =>
    obtain ⟨m, hm⟩ := ih (fun i hi => h i (by omega))
    obtain ⟨m2, hm2⟩ := h n (by omega)
    refine ⟨m + m2, fun i hi k hk => ?_⟩
    by_cases e : i = n
    · subst e; exact hm2 k (by omega)
    · exact hm i (by omega) k (by omega)
theorem foldl_app {α : Type} (f : Nat → List α) : ∀ (l : List Nat) (s : List α), l.foldl (fun s r => s ++ f r) s = s ++ l.flatMap f := by
  intro l
  induction l with
  | nil => intro s; simp
  | cons x l ih => intro s; rw [List.foldl_cons, ih, List.flatMap_cons, List.append_assoc]

end Go.Proofs.Ytfibaganajembaa.Pure

-- Qpicks
namespace Go.Proofs.Ytfibaganajembaa.Pure
open Go Go.RowKit Go.Proofs Go.Proofs.YtfibaganajembaaW.PrintWords Go.Proofs.YtfibaganajembaaW.PrintLast
set_option linter.unusedVariables false
set_option linter.unusedSimpArgs false

/-- A loop that collects the numbers of which q holds. -/
theorem pick_loop {β : Type} (L : Nat → List Int → Int → Option β) (q : Nat → Bool) (r : List Int → Option β) (n0 m0 : Nat) (hb : n0 ≤ 9223372036854775806)
    (hs : ∀ k out (i : Nat), i < n0 → out.length ≤ i → m0 ≤ k → L (k + 1) out i = if q i = true then L k (out ++ [(i : Int)]) (wrap64 ((i : Int) + 1)) else L k out (wrap64 ((i : Int) + 1))) (he : ∀ k out, L (k + 1) out (n0 : Int) = r out) :
    ∀ n k (i : Nat) (out : List Int), i + n = n0 → n + m0 < k → out.length ≤ i → L k out i = r (out ++ ((List.range' i n).filter q).map fun (j : Nat) => (j : Int)) := by
  intro n
  induction n with
  | zero =>
    intro k i out hi hk ho
    obtain ⟨k, rfl, _⟩ := succ_of (show 0 < k by omega)
    obtain rfl : i = n0 := by omega
    rw [he]; simp
  | succ n ih =>
    intro k i out hi hk ho
    obtain ⟨k, rfl, hk'⟩ := succ_of (show 0 < k by omega)
    rw [hs k out i (by omega) ho (by omega), wstep (show i < n0 by omega) (by omega), List.range'_succ]
    cases hq : q i
    · simp only [Bool.false_eq_true, if_false]
      rw [ih k (i + 1) out (by omega) (by omega) (by omega), List.filter_cons_of_neg (by simp [hq])]
    · simp only [if_true]
      rw [ih k (i + 1) _ (by omega) (by omega) (by rw [List.length_append, List.length_singleton]; omega), List.filter_cons_of_pos hq, List.map_cons, List.append_assoc]; rfl
/-- A loop that looks for an element. -/
theorem any_loop {α : Type} (L : Nat → Int → Option Bool) (q : α → Bool) (d : α) (l : List α) (hb : l.length ≤ 9223372036854775806)
    (hs : ∀ k (i : Nat), i < l.length → L (k + 1) i = if q (l.getD i d) = true then some true else L k (wrap64 ((i : Int) + 1))) (he : ∀ k (i : Nat), l.length ≤ i → L (k + 1) i = some false) :
    ∀ n k (i : Nat), i + n = l.length → n < k → L k i = some ((l.drop i).any q) := by
  intro n
  induction n with
  | zero =>
    intro k i hi hk
    obtain ⟨k, rfl, _⟩ := succ_of hk
    rw [he k i (by omega), List.drop_eq_nil_of_le (by omega)]; rfl
  | succ n ih =>
    intro k i hi hk
    obtain ⟨k, rfl, hk⟩ := succ_of hk
    rw [hs k i (by omega), wstep (show i < l.length by omega) (by omega), drop_step (by omega) d, List.any_cons, ih k (i + 1) (by omega) (by omega)]
    cases q (l.getD i d) <;> simp

end Go.Proofs.Ytfibaganajembaa.Pure

-- Qweights
namespace Go.Proofs.Ytfibaganajembaa.Pure
open Go Go.RowKit Go.Proofs Go.Proofs.Ytfibaganajembaa.X Go.Proofs.YtfibaganajembaaW.PrintWords Go.Proofs.YtfibaganajembaaW.PrintLast
set_option linter.unusedVariables false
set_option linter.unusedSimpArgs false

def midB (a b : Int) : Bool := if a ≥ wrap64 (Int.tdiv b 4) then decide (a < wrap64 (b - wrap64 (Int.tdiv b 4))) else false
def fac (k : Int) : Int := rd [1, 2, 3, 5, 2] k
def weightM (w h : Int) (x : S32) : Int := if midB x.f1 h && midB x.f2 w then 2 * (x.f3 * fac x.f0) else x.f3 * fac x.f0
theorem midS_eq (a b : Int) : spec_l22Middle.f a b = some (midB a b) := by unfold spec_l22Middle.f midB; split <;> rfl
theorem midI_eq (a b : Int) : impl_isMiddle.f a b = some (midB a b) := by unfold impl_isMiddle.f midB; split <;> rfl
theorem fac_cases {k : Int} (h : 0 ≤ k ∧ k ≤ 4) : (k = 0 ∧ fac k = 1) ∨ (k = 1 ∧ fac k = 2) ∨ (k = 2 ∧ fac k = 3) ∨ (k = 3 ∧ fac k = 5) ∨ (k = 4 ∧ fac k = 2) := by
  have : k = 0 ∨ k = 1 ∨ k = 2 ∨ k = 3 ∨ k = 4 := by omega
  rcases this with rfl | rfl | rfl | rfl | rfl <;> simp [fac, rd]
theorem weight_bd {w h : Int} {x : S32} (hx : flawB w h x = true) : (1 ≤ x.f3 * fac x.f0 ∧ x.f3 * fac x.f0 ≤ 45) ∧ 0 ≤ weightM w h x ∧ weightM w h x ≤ 90 := by
  simp only [flawB, Bool.and_eq_true, decide_eq_true_eq] at hx
  have : 1 ≤ x.f3 * fac x.f0 ∧ x.f3 * fac x.f0 ≤ 45 := by
    rcases fac_cases hx.1 with ⟨_, e⟩ | ⟨_, e⟩ | ⟨_, e⟩ | ⟨_, e⟩ | ⟨_, e⟩ <;> rw [e] <;> omega
  refine ⟨this, ?_⟩
  unfold weightM
  split <;> omega
theorem weightS_eq {w h : Int} {l : List Int} {x : S32} (hx : flawB w h x = true) : spec_l22Weight.f w h l x.f0 x.f1 x.f2 x.f3 = some (weightM w h x) := by
  have hb := weight_bd hx
  have hx2 := hx
  simp only [flawB, Bool.and_eq_true, decide_eq_true_eq] at hx2
  unfold fac at hb
  unfold spec_l22Weight.f weightM fac
  simp only [Option.bind_some, midS_eq]
  rw [if_pos hx2.1.1, if_pos (by simp; omega), w64 (x := x.f3 * rd [1, 2, 3, 5, 2] x.f0) (by omega) (by omega), w64 (x := 2 * (x.f3 * rd [1, 2, 3, 5, 2] x.f0)) (by omega) (by omega)]
  cases midB x.f1 h <;> cases midB x.f2 w <;> simp
theorem weightI_eq {w h : Int} {l : List Int} {x : S32} (hx : flawB w h x = true) : impl_Chart_flawWeight.f w h l x.f0 x.f1 x.f2 x.f3 = some (weightM w h x) := by
  have hb := weight_bd hx
  have hx2 := hx
  simp only [flawB, Bool.and_eq_true, decide_eq_true_eq] at hx2
  have hm : (if x.f0 = 0 then some 1 else if x.f0 = 1 then some 2 else if x.f0 = 2 then some 3 else if x.f0 = 3 then some 5 else if x.f0 = 4 then some 2 else none) = some (fac x.f0) := by
    rcases fac_cases hx2.1 with ⟨e, f⟩ | ⟨e, f⟩ | ⟨e, f⟩ | ⟨e, f⟩ | ⟨e, f⟩ <;> rw [f, e] <;> simp
  unfold impl_Chart_flawWeight.f weightM
  simp only [hm, Option.bind_some, midI_eq]
  rw [Int.mul_comm (fac x.f0) x.f3, w64 (x := x.f3 * fac x.f0) (by omega) (by omega), w64 (x := 2 * (x.f3 * fac x.f0)) (by omega) (by omega)]
  cases midB x.f1 h <;> cases midB x.f2 w <;> simp

end Go.Proofs.Ytfibaganajembaa.Pure

-- Qworst
namespace Go.Proofs.Ytfibaganajembaa.Pure
open Go Go.RowKit Go.Proofs Go.Proofs.Ytfibaganajembaa.X Go.Proofs.YtfibaganajembaaW.PrintWords Go.Proofs.YtfibaganajembaaW.PrintLast
set_option linter.unusedVariables false
set_option linter.unusedSimpArgs false

def rowV (w h : Int) (fl : List S32) (r : Int) (j : Nat) : Int := if (fl.getD j z32).f1 = r then weightM w h (fl.getD j z32) else 0
def rowSumN (w h : Int) (fl : List S32) (r : Int) (n : Nat) : Int := (List.range' 0 n).foldl (fun a j => a + rowV w h fl r j) 0
def rowSum (w h : Int) (fl : List S32) (r : Int) : Int := rowSumN w h fl r fl.length
theorem rowSumN_succ (w h : Int) (fl : List S32) (r : Int) (n : Nat) : rowSumN w h fl r (n + 1) = rowSumN w h fl r n + rowV w h fl r n := by
  unfold rowSumN
  rw [List.range'_concat, List.foldl_append]; simp
theorem flaw_mem {fl : List S32} {j : Nat} (hj : j < fl.length) : fl.getD j z32 ∈ fl := by
  rw [List.getD_eq_getElem?_getD, List.getElem?_eq_getElem hj]; exact List.getElem_mem hj
theorem rowSumN_bd {w h : Int} {fl : List S32} (hx : ∀ x ∈ fl, flawB w h x = true) (r : Int) : ∀ n, n ≤ fl.length → 0 ≤ rowSumN w h fl r n ∧ rowSumN w h fl r n ≤ 90 * n := by
  intro n
  induction n with
  | zero => intro _; simp [rowSumN]
  | succ n ih =>
    intro hn
    have h1 := ih (by omega)
    have h2 := (weight_bd (hx _ (flaw_mem (show n < fl.length by omega)))).2
    rw [rowSumN_succ]
    unfold rowV
    split <;> push_cast <;> omega
def stepRow (f : Nat → Int) (s : List Int × Int) (r : Nat) : List Int × Int := if f r > s.2 then ([(r : Int)], f r) else if f r = s.2 then (s.1 ++ [(r : Int)], s.2) else s
def mxTo (f : Nat → Int) (n : Nat) : Int := (List.range' 0 n).foldl (fun a r => if f r > a then f r else a) 0
theorem mxTo_succ (f : Nat → Int) (n : Nat) : mxTo f (n + 1) = if f n > mxTo f n then f n else mxTo f n := by
  unfold mxTo
  rw [List.range'_concat, List.foldl_append]; simp
theorem mxTo_ge (f : Nat → Int) : ∀ n r, r < n → f r ≤ mxTo f n := by
  intro n
  induction n with
  | zero => intro r hr; omega
  | succ n ih =>
    intro r hr
    rw [mxTo_succ]
    by_cases e : r = n
    · subst e; split <;> omega
    · have := ih r (by omega)
      split <;> omega
theorem mxTo_pos (f : Nat → Int) : ∀ n, 0 ≤ mxTo f n := by
  intro n
  induction n with
  | zero => simp [mxTo]
  | succ n ih => rw [mxTo_succ]; split <;> omega
theorem filter_none {p : Nat → Bool} {l : List Nat} (h : ∀ r ∈ l, p r = false) : l.filter p = [] := by
  rw [List.filter_eq_nil_iff]; intro r hr; rw [h r hr]; simp
theorem worst_eq (f : Nat → Int) : ∀ n, (List.range' 0 n).foldl (stepRow f) ([], 0) = ((((List.range' 0 n).filter fun r => decide (f r = mxTo f n)).map fun (r : Nat) => (r : Int)), mxTo f n) := by
  intro n
  induction n with
  | zero => simp [mxTo]
  | succ n ih =>
    rw [List.range'_concat, List.foldl_append, ih, List.filter_append, List.map_append, mxTo_succ]
    simp only [List.foldl_cons, List.foldl_nil, Nat.one_mul, Nat.zero_add, stepRow]
    by_cases g : f n > mxTo f n
    · rw [if_pos g, if_pos g, filter_none (fun r hr => by
        have hr2 := List.mem_range'_1.mp hr
        have := mxTo_ge f n r (by omega)
        exact decide_eq_false (by omega))]
      simp
    · rw [if_neg g, if_neg g]
      by_cases g2 : f n = mxTo f n
      · rw [if_pos g2]; simp [g2]
      · rw [if_neg g2]; simp [g2]
def worstM (w h : Int) (l : List Int) (fl : List S32) : List Int × Int × Bool :=
  if flawsB w h l fl then (let s := (List.range' 0 h.toNat).foldl (stepRow fun r => rowSum w h fl r) ([], 0); (s.1, s.2, true)) else ([], 0, false)
theorem worstM_len {w h : Int} {l : List Int} {fl : List S32} : (worstM w h l fl).1.length ≤ 8 := by
  unfold worstM
  cases hb : flawsB w h l fl
  · simp
  obtain ⟨hc, _, _⟩ := flaws_of hb
  have := chart_of hc
  simp only [if_true, worst_eq, List.length_map]
  exact Nat.le_trans (List.length_filter_le _ _) (by rw [List.length_range']; omega)
theorem worstS_ex {w h : Int} {l : List Int} {fl : List S32} (hl0 : l.length ≤ 1048576) (hf : fl.length ≤ 1048576) : ∃ k0, ∀ k, k0 ≤ k → spec_WorstRows.f k w h l fl = some (worstM w h l fl) := by
  cases hg : flawsB w h l fl
  · refine ⟨l.length + fl.length + 6, fun k hk => ?_⟩
    simp only [spec_WorstRows.f, flawsS_eq (k := k) (w := w) (h := h) (l := l) (fl := fl) (by omega) hl0 hf, hg, Option.bind_some, worstM]
    simp
  obtain ⟨hc, h12, hx⟩ := flaws_of hg
  have hcw := chart_of hc
  obtain ⟨H, rfl⟩ := nat_of (show 0 ≤ h by omega)
  obtain ⟨_, q, hq⟩ := nest_inv (fun k (s : List Int × Int) i => spec_WorstRows.l0 k fl s.1 s.2 i w (H : Int) l) (fun k s => some (s.1, s.2, true)) (stepRow fun r => rowSum w (H : Int) fl r) (fun i s => s.1.length ≤ i) H 0
    (fun r s hr hs => by
      refine ⟨by unfold stepRow; (repeat' split) <;> first | (simp; done) | (simp; omega) | omega, ?_⟩
      obtain ⟨_, c, hcc⟩ := nest_inv (fun k (a : Int) i => spec_WorstRows.l1 k fl s.1 s.2 (r : Int) a i w (H : Int) l) (fun k a => if a > s.2 then spec_WorstRows.l0 k fl [(r : Int)] a (wrap64 ((r : Int) + 1)) w (H : Int) l else if a = s.2 then spec_WorstRows.l0 k fl (s.1 ++ [(r : Int)]) s.2 (wrap64 ((r : Int) + 1)) w (H : Int) l else spec_WorstRows.l0 k fl s.1 s.2 (wrap64 ((r : Int) + 1)) w (H : Int) l) (fun a j => a + rowV w (H : Int) fl r j) (fun j a => 0 ≤ a ∧ a ≤ 90 * j) fl.length 0
        (fun j a hj ha => by
          have hm := hx _ (flaw_mem hj)
          have hb := (weight_bd hm).2
          refine ⟨by unfold rowV; split <;> push_cast <;> omega, 1, fun k _ => ?_⟩
          simp only [spec_WorstRows.l1, rdIFlaw_nat]
          rw [if_pos (by omega), if_pos (by omega), wstep hj (by omega)]
          unfold rowV
          by_cases g : (fl.getD j z32).f1 = (r : Int)
          · rw [if_pos g, if_pos g, weightS_eq hm]
            simp only [Option.bind_some]
            rw [w64 (x := a + _) (by omega) (by omega)]
          · rw [if_neg g, if_neg g, Int.add_zero])
        (fun k a ha => by
          simp only [spec_WorstRows.l1]
          rw [if_neg (by omega)]
          simp only [Option.bind_some, if_true, List.length_nil, List.nil_append]
          rw [if_pos (show 0 < 17592186044416 by omega), if_pos (show s.1.length < 17592186044416 by omega)])
        fl.length 0 0 (by omega) (by omega)
      refine ⟨c + 1, fun k hk => ?_⟩
      show spec_WorstRows.l0 (k + c + 1) fl s.1 s.2 (r : Int) w (H : Int) l = _
      simp only [spec_WorstRows.l0]
      rw [if_pos (by omega)]
      rw [show (0 : Int) = ((0 : Nat) : Int) from rfl] at hcc ⊢
      rw [hcc k hk, wstep (n := H) hr (by omega)]
      have e : (List.range' 0 fl.length).foldl (fun a j => a + rowV w (H : Int) fl r j) ((0 : Nat) : Int) = rowSum w (H : Int) fl r := rfl
      rw [e]
      unfold stepRow
      (repeat' split) <;> rfl)
    (fun k s hs => by
      simp only [spec_WorstRows.l0]
      rw [if_neg (by omega)])
    H 0 ([], 0) (by omega) (by simp)
  refine ⟨l.length + fl.length + 6 + q, fun k hk => ?_⟩
  simp only [spec_WorstRows.f, flawsS_eq (k := k) (w := w) (h := (H : Int)) (l := l) (fl := fl) (by omega) hl0 hf, hg, Option.bind_some, worstM, if_true]
  obtain ⟨k2, rfl⟩ : ∃ k2, k = k2 + q := ⟨k - q, by omega⟩
  have := hq k2 (by omega)
  simpa using this
theorem max_eq {k : Nat} {s : List Int} (f : Nat → Int) (hk : s.length < k) (h0 : 0 < s.length) (hs : s.length ≤ 1048576) (hf : ∀ r, r < s.length → rd s (r : Int) = f r) (hpos : ∀ r, r < s.length → 0 ≤ f r) : slices_Max_int_int.f k s = some (mxTo f s.length) := by
  unfold slices_Max_int_int.f
  rw [if_neg (by omega), if_pos (by omega)]
  have : ∀ n k i, i + n = s.length → 1 ≤ i → n < k → slices_Max_int_int.l0 k s (mxTo f i) (i : Int) = some (mxTo f s.length) := by
    intro n
    induction n with
    | zero =>
      intro k i hi h1 hk
      obtain ⟨k, rfl, _⟩ := succ_of hk
      rw [slices_Max_int_int.l0, if_neg (by omega), show i = s.length by omega]
    | succ n ih =>
      intro k i hi h1 hk
      obtain ⟨k, rfl, hk⟩ := succ_of hk
      rw [slices_Max_int_int.l0, if_pos (by omega), if_pos (by omega), hf i (by omega), wstep (n := s.length) (by omega) (by omega)]
      have e : mx (mxTo f i) (f i) = mxTo f (i + 1) := by rw [mxTo_succ]; unfold mx; (repeat' split) <;> omega
      rw [e]
      exact ih k (i + 1) (by omega) (by omega) (by omega)
  have h1 := this (s.length - 1) k 1 (by omega) (by omega) (by omega)
  have e0 : mxTo f 1 = rd s 0 := by
    have := hf 0 h0
    rw [show ((0 : Nat) : Int) = 0 from rfl] at this
    have hp := hpos 0 h0
    rw [show (1 : Nat) = 0 + 1 from rfl, mxTo_succ, this]
    have : mxTo f 0 = 0 := by simp [mxTo]
    rw [this]; split <;> omega
  rw [e0] at h1
  exact h1
def stepW (w h : Int) (fl : List S32) (s : List Int) (j : Nat) : List Int := s.set (fl.getD j z32).f1.toNat (rd s (fl.getD j z32).f1 + weightM w h (fl.getD j z32))
theorem stepsW_len (w h : Int) (fl : List S32) : ∀ (m : List Nat) (s : List Int), (m.foldl (stepW w h fl) s).length = s.length := by
  intro m
  induction m with
  | nil => intro s; rfl
  | cons x m ih => intro s; rw [List.foldl_cons, ih, stepW, List.length_set]
theorem stepsW_rd {w : Int} {H : Nat} {fl : List S32} (hx : ∀ x ∈ fl, flawB w (H : Int) x = true) (r : Nat) (hr : r < H) : ∀ n, n ≤ fl.length → rd ((List.range' 0 n).foldl (stepW w H fl) (List.replicate H 0)) (r : Int) = rowSumN w H fl r n := by
  intro n
  induction n with
  | zero =>
    intro _
    have : rd (List.replicate H (0 : Int)) (r : Int) = 0 := by
      rw [rd_nat, List.getD_eq_getElem?_getD, List.getElem?_replicate]; split <;> rfl
    simpa [rowSumN] using this
  | succ n ih =>
    intro hn
    have hm := flaw_of (hx _ (flaw_mem (show n < fl.length by omega)))
    rw [List.range'_concat, List.foldl_append, rowSumN_succ, ← ih (by omega)]
    simp only [List.foldl_cons, List.foldl_nil, Nat.one_mul, Nat.zero_add]
    have e0 : ∀ s : List Int, stepW w (H : Int) fl s n = s.set (fl.getD n z32).f1.toNat (rd s (fl.getD n z32).f1 + weightM w H (fl.getD n z32)) := fun _ => rfl
    rw [e0]
    unfold rowV
    rw [rd_set _ _ _ _ (by rw [stepsW_len, List.length_replicate]; omega)]
    by_cases g : (fl.getD n z32).f1 = (r : Int)
    · rw [if_pos (by omega), if_pos g, g]
    · rw [if_neg (by omega), if_neg g, Int.add_zero]
theorem worstI_ex {w h : Int} {l : List Int} {fl : List S32} (hf : fl.length ≤ 1048576) : ∃ k0, ∀ k, k0 ≤ k → impl_WorstRows.f k w h l fl = some (worstM w h l fl) := by
  cases hg : flawsB w h l fl
  · refine ⟨fl.length + 11, fun k hk => ?_⟩
    simp only [impl_WorstRows.f, AreFlaws_eq (k := k) (w := w) (h := h) (l := l) (fl := fl) (by omega) hf, hg, Option.bind_some, worstM]
    simp
  obtain ⟨hc, h12, hx⟩ := flaws_of hg
  have hcw := chart_of hc
  obtain ⟨H, rfl⟩ := nat_of (show 0 ≤ h by omega)
  have hrd := fun r hr => stepsW_rd hx r hr
  obtain ⟨_, q, hq⟩ := nest_inv (fun k (s : List Int) i => impl_WorstRows.l0 k s fl (fl.length : Int) i w (H : Int) l) (fun k s => (slices_Max_int_int.f k s).bind fun t => impl_WorstRows.l1 k [] t s (s.length : Int) 0) (stepW w H fl) (fun i s => s = (List.range' 0 i).foldl (stepW w H fl) (List.replicate H 0)) fl.length 0
    (fun j s hj hs => by
      have hm := hx _ (flaw_mem hj)
      have hfo := flaw_of hm
      have hb := (weight_bd hm).2
      have hsl : s.length = H := by rw [hs, stepsW_len, List.length_replicate]
      refine ⟨by rw [List.range'_concat, List.foldl_append, ← hs]; simp, 1, fun k _ => ?_⟩
      simp only [impl_WorstRows.l0, rdIFlaw_nat]
      rw [if_pos (by omega), if_pos (by omega), if_pos (by omega), if_pos (by omega), if_pos (by omega), weightI_eq hm, wstep hj (by omega)]
      simp only [Option.bind_some]
      have hbd : 0 ≤ rd s (fl.getD j z32).f1 ∧ rd s (fl.getD j z32).f1 ≤ 90 * j := by
        obtain ⟨r, hr⟩ := nat_of (show 0 ≤ (fl.getD j z32).f1 by omega)
        rw [hr, hs, hrd r (by omega) j (by omega)]
        exact rowSumN_bd hx r j (by omega)
      rw [w64 (x := rd s _ + _) (by omega) (by omega)]
      rfl)
    (fun k s hs => by
      simp only [impl_WorstRows.l0]
      rw [if_neg (by omega)])
    fl.length 0 (List.replicate H 0) (by omega) (by simp)
  obtain ⟨S, hS⟩ : ∃ S, S = (List.range' 0 fl.length).foldl (stepW w H fl) (List.replicate H 0) := ⟨_, rfl⟩
  have hSl : S.length = H := by rw [hS, stepsW_len, List.length_replicate]
  have hSr : ∀ r, r < S.length → rd S (r : Int) = rowSum w (H : Int) fl (r : Int) := fun r hr => by rw [hS]; exact hrd r (by omega) fl.length (by omega)
  rw [← hS] at hq
  refine ⟨fl.length + 11 + (S.length + 2 + q), fun k hk => ?_⟩
  simp only [impl_WorstRows.f, AreFlaws_eq (k := k) (w := w) (h := (H : Int)) (l := l) (fl := fl) (by omega) hf, hg, Option.bind_some, worstM, if_true, worst_eq, Int.toNat_natCast]
  rw [if_pos (by omega), if_pos (by omega)]
  obtain ⟨k2, rfl, hk2⟩ : ∃ k2, k = k2 + q ∧ S.length + 2 ≤ k2 := ⟨k - q, by omega, by omega⟩
  have := hq k2 (by omega)
  rw [show ((0 : Nat) : Int) = 0 from rfl] at this
  rw [this, max_eq (fun r => rowSum w (H : Int) fl (r : Int)) (by omega) (by omega) (by omega) hSr (fun r hr => (rowSumN_bd hx r fl.length (by omega)).1)]
  simp only [Option.bind_some]
  have hp := pick_loop (fun k out i => impl_WorstRows.l1 k out (mxTo (fun r => rowSum w (H : Int) fl (r : Int)) S.length) S (S.length : Int) i) (fun r => decide (rowSum w (H : Int) fl (r : Int) = mxTo (fun r => rowSum w (H : Int) fl (r : Int)) S.length)) (fun out => some (out, mxTo (fun r => rowSum w (H : Int) fl (r : Int)) S.length, true)) S.length 0 (by omega)
    (fun k out i h1 h2 _ => by
      simp only [impl_WorstRows.l1]
      rw [if_pos (by omega), if_pos (by omega), if_pos (by omega), hSr i h1]
      by_cases g : rowSum w (H : Int) fl (i : Int) = mxTo (fun r => rowSum w (H : Int) fl (r : Int)) S.length
      · rw [if_pos g, if_pos (by omega), if_pos (decide_eq_true g)]
      · rw [if_neg g, if_neg (by simpa using g)])
    (fun k out => by
      simp only [impl_WorstRows.l1]
      rw [if_neg (by omega)])
    S.length k2 0 [] (by omega) (by omega) (by simp)
  rw [show ((0 : Nat) : Int) = 0 from rfl] at hp
  rw [hp, hSl]
  simp

end Go.Proofs.Ytfibaganajembaa.Pure

-- PureFnExactWorstRows
namespace Go.Proofs.Ytfibaganajembaa.Pure
open Go Go.RowKit Go.Proofs Go.Proofs.Ytfibaganajembaa.X Go.Proofs.YtfibaganajembaaW.PrintWords Go.Proofs.YtfibaganajembaaW.PrintLast
set_option linter.unusedVariables false
set_option linter.unusedSimpArgs false

theorem FnExactWorstRows : laws_FnExactWorstRows.Pure := by
  intro w h l fl _ _ hl hf
  obtain ⟨k1, e1⟩ : ∃ k0, ∀ k, k0 ≤ k → l.length ≤ 1048576 → (fl.map toFlaw).length ≤ 1048576 → spec_WorstRows.f k w h l (fl.map toFlaw) = some (worstM w h l (fl.map toFlaw)) := by
    by_cases g : l.length ≤ 1048576 ∧ (fl.map toFlaw).length ≤ 1048576
    · obtain ⟨k0, hk⟩ := worstS_ex (w := w) (h := h) (l := l) (fl := fl.map toFlaw) g.1 g.2
      exact ⟨k0, fun k h1 _ _ => hk k h1⟩
    · exact ⟨0, fun k _ a b => absurd ⟨a, b⟩ g⟩
  obtain ⟨k2, e2⟩ : ∃ k0, ∀ k, k0 ≤ k → (fl.map toFlaw).length ≤ 1048576 → impl_WorstRows.f k w h l (fl.map toFlaw) = some (worstM w h l (fl.map toFlaw)) := by
    by_cases g : (fl.map toFlaw).length ≤ 1048576
    · obtain ⟨k0, hk⟩ := worstI_ex (w := w) (h := h) (l := l) (fl := fl.map toFlaw) g
      exact ⟨k0, fun k h1 _ => hk k h1⟩
    · exact ⟨0, fun k _ b => absurd b g⟩
  obtain ⟨k, hk, hk1, hk2⟩ : ∃ k, 4000000 < k ∧ k1 ≤ k ∧ k2 ≤ k := ⟨k1 + k2 + 4000001, by omega, by omega, by omega⟩
  refine ⟨k + 3, ?_⟩
  simp only [laws_FnExactWorstRows.f, szChart_eq hl.1 (show (0 : Int) ≤ 1048576 ∧ (1048576 : Int) ≤ 9223372036854775807 by omega), Option.bind_some]
  by_cases hs : (1048576 : Int) < l.length
  · simp [hs]
  rw [if_neg hs, if_neg (by omega), szFlawS_eq hf.1 (by omega)]
  simp only [Option.bind_some]
  by_cases hs2 : (1048576 : Int) - l.length < fl.length
  · simp [hs2]
  rw [if_neg hs2, if_neg (by omega)]
  have h1 : l.length ≤ 1048576 := by omega
  have h2 : fl.length ≤ 1048576 := by omega
  have h3 : (fl.map toFlaw).length ≤ 1048576 := by rw [List.length_map]; exact h2
  have h5 := worstM_len (w := w) (h := h) (l := l) (fl := fl.map toFlaw)
  simp only [toChart_eq (k := k + 3) (w := w) (h := h) (l := l) (by omega) h1, toFlawS_eq (k := k + 3) (l := fl) (by omega) h2, Option.bind_some, e1 (k + 3) (by omega) h1 h3, e2 (k + 3) (by omega) h3, eqIntS_refl (k := k + 3) (l := (worstM w h l (fl.map toFlaw)).1) (by omega) (by omega), if_true, laws_FnExactWorstRows.j0, toChart_eq (k := k + 2) (w := w) (h := h) (l := l) (by omega) h1, toFlawS_eq (k := k + 2) (l := fl) (by omega) h2, eqChart_refl (k := k + 2) (w := w) (h := h) (l := l) (by omega) h1, eqFlawS_refl (k := k + 2) (l := fl.map toFlaw) (by omega) (by omega), markChart_eq (k := k + 2) (l := l) (s := 1) (by omega) (by omega) (by omega), markFlawS_eq (k := k + 2) (l := fl.map toFlaw) (s := 1 + 1 * (l.length : Int)) (by omega) h3 (by omega), eqIntS_refl (k := k + 2) (l := (worstM w h l (fl.map toFlaw)).1) (by omega) (by omega), bne_self_eq_false, Bool.false_eq_true, if_false]
  rw [if_neg (by omega)]
  simp only [laws_FnExactWorstRows.j1, Bool.false_eq_true, if_false, markIntS_eq (k := k + 1) (l := (worstM w h l (fl.map toFlaw)).1) (s := 1) (by omega) (by omega) (by omega), Option.bind_some, heldIntS_eq (k := k + 1) (n := (worstM w h l (fl.map toFlaw)).1.length) (s := 1) (by omega) (by omega) (by omega), if_true, toChart_eq (k := k + 1) (w := w) (h := h) (l := l) (by omega) h1, toFlawS_eq (k := k + 1) (l := fl) (by omega) h2, e2 (k + 1) (by omega) h3, eqIntS_refl (k := k + 1) (l := (worstM w h l (fl.map toFlaw)).1) (by omega) (by omega), bne_self_eq_false]
  rw [if_neg (by omega)]
  simp only [laws_FnExactWorstRows.j2, Bool.false_eq_true, if_false, heldIntS_eq (k := k) (n := (worstM w h l (fl.map toFlaw)).1.length) (s := 1) (by omega) (by omega) (by omega), Option.bind_some, if_true]
  rw [if_neg (by omega)]

end Go.Proofs.Ytfibaganajembaa.Pure
