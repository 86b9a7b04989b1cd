/- What the law FnExactAspectOf needs, part 2 of 2: what each function of the program that it reaches returns (printed by this session's own program, checked by Lean), and plain mathematics about it. Conditions: those of each theorem. -/
import Derived.Test.YtgohfbelppokcaaZFnExactAspectOf0
import Derived.Test.YtgohfbelppokcaaWLast
import Derived.Test.YtgohfbelppokcaaWWords
import Derived.ProofKit
import Derived.WideShapes
-- XlawsFnExactAspectOfF10
namespace Go.Proofs.Ytgohfbelppokcaa.X
open Ho (bS eS)
open Go.RowKit Go.Proofs.YtgohfbelppokcaaW.PrintWords Go.Proofs.YtgohfbelppokcaaW.PrintLast Go.Proofs.YtgohfbelppokcaaW.PrintMore
attribute [local go_sem] max2_int min2_int max_two min_two max_three min_three max_four min_four   -- for this text's walks alone
set_option linter.unusedVariables false
set_option linter.unusedSimpArgs false

/-! ### laws_FnExactAspectOf: function 10 -/
def laws_FnExactAspectOf.j0 : Nat → Bool → Int → Int → List Int → Int → Int → List Int → Option (Bool)
  | 0, _, _, _, _, _, _, _ => none
  | k + 1, x49, x102000, x102001, x102002, x121000, x121001, x121002 => if x49 = true then (some false) else ((laws_toChart.f k x102000 x102001 x102002).bind fun bt127 => ((laws_eqChart.f k x121000 x121001 x121002 bt127.1 bt127.2.1 bt127.2.2).bind fun t132 => (if t132 = true then (some true) else (some false))))
def laws_FnExactAspectOf.f (k : Nat) (a0_0 : Int) (a0_1 : Int) (l0_2 : List Int) (a1_0 : Int) (a1_1 : Int) (a1_2 : Int) : Option (Bool) := (laws_szChart.f a0_0 a0_1 l0_2 1048576).bind fun t103 => (if t103 < 0 then (some true) else ((laws_toChart.f k a0_0 a0_1 l0_2).bind fun bt104 => ((laws_toGauge.f a1_0 a1_1 a1_2).bind fun bt109 => ((spec_AspectOf.f k bt104.1 bt104.2.1 bt104.2.2 bt109.1 bt109.2.1 bt109.2.2).bind fun bt112 => ((laws_toChart.f k a0_0 a0_1 l0_2).bind fun bt115 => ((laws_toGauge.f a1_0 a1_1 a1_2).bind fun bt121 => ((impl_AspectOf.f k bt115.1 bt115.2.1 bt115.2.2 bt121.1 bt121.2.1 bt121.2.2).bind fun bt124 => (if bt124.1 = bt112.1 then (if bt124.2.1 = bt112.2.1 then (laws_FnExactAspectOf.j0 k (bt124.2.2 != bt112.2.2) a0_0 a0_1 l0_2 bt115.1 bt115.2.1 bt115.2.2) else (laws_FnExactAspectOf.j0 k true a0_0 a0_1 l0_2 bt115.1 bt115.2.1 bt115.2.2)) else (laws_FnExactAspectOf.j0 k true a0_0 a0_1 l0_2 bt115.1 bt115.2.1 bt115.2.2)))))))))
theorem laws_FnExactAspectOf.mono_l : ∀ k, (∀ y0 y1 y2 y3 y4 y5 y6, LeO (laws_FnExactAspectOf.j0 k y0 y1 y2 y3 y4 y5 y6) (laws_FnExactAspectOf.j0 (k + 1) y0 y1 y2 y3 y4 y5 y6))
  | 0 => fun _ _ _ _ _ _ _ r h => by simp [laws_FnExactAspectOf.j0] at h
  | k + 1 => by
    have ih0 := laws_FnExactAspectOf.mono_l k
    · intro y0 y1 y2 y3 y4 y5 y6
      unfold laws_FnExactAspectOf.j0
      repeat' first
      | (with_reducible exact ih0 _ _ _ _ _ _ _)
      | (with_reducible exact impl_AspectOf.mono _ _ _ _ _ _ _)
      | (with_reducible exact laws_eqChart.mono _ _ _ _ _ _ _)
      | (with_reducible exact laws_toChart.mono _ _ _ _)
      | (with_reducible exact spec_AspectOf.mono _ _ _ _ _ _ _)
      | (with_reducible exact LeO.refl _)
      | (with_reducible exact LeO.none _)
      | (with_reducible refine LeO.ite ?_ ?_)
      | (with_reducible refine LeO.bind ?_ (fun _ => ?_))
      | exact ih0 _ _ _ _ _ _ _
      | exact impl_AspectOf.mono _ _ _ _ _ _ _
      | exact laws_eqChart.mono _ _ _ _ _ _ _
      | exact laws_toChart.mono _ _ _ _
      | exact spec_AspectOf.mono _ _ _ _ _ _ _
      | exact LeO.none _
      | refine LeO.ite ?_ ?_
      | refine LeO.bind ?_ (fun _ => ?_)
theorem laws_FnExactAspectOf.mono : ∀ a0 a1 a2 a3 a4 a5 k, LeO (laws_FnExactAspectOf.f k a0 a1 a2 a3 a4 a5) (laws_FnExactAspectOf.f (k + 1) a0 a1 a2 a3 a4 a5) := by
  intro a0 a1 a2 a3 a4 a5 k
  have ih0 := laws_FnExactAspectOf.mono_l k
  unfold laws_FnExactAspectOf.f
  repeat' first
      | (with_reducible exact ih0 _ _ _ _ _ _ _)
      | (with_reducible exact impl_AspectOf.mono _ _ _ _ _ _ _)
      | (with_reducible exact laws_eqChart.mono _ _ _ _ _ _ _)
      | (with_reducible exact laws_toChart.mono _ _ _ _)
      | (with_reducible exact spec_AspectOf.mono _ _ _ _ _ _ _)
      | (with_reducible exact LeO.refl _)
      | (with_reducible exact LeO.none _)
      | (with_reducible refine LeO.ite ?_ ?_)
      | (with_reducible refine LeO.bind ?_ (fun _ => ?_))
      | exact ih0 _ _ _ _ _ _ _
      | exact impl_AspectOf.mono _ _ _ _ _ _ _
      | exact laws_eqChart.mono _ _ _ _ _ _ _
      | exact laws_toChart.mono _ _ _ _
      | exact spec_AspectOf.mono _ _ _ _ _ _ _
      | exact LeO.none _
      | refine LeO.ite ?_ ?_
      | refine LeO.bind ?_ (fun _ => ?_)
def laws_FnExactAspectOf.T5 : Bool × List (List Nat × List Nat) := (true, [([], []), ([0], [0]), ([], []), ([2, 1], [2]), ([1, 3, 3], [1, 3]), ([4], [4]), ([5], [5]), ([5], [5]), ([5], [5]), ([6, 4, 0, 1, 2, 3, 4, 5, 6], [6]), ([7, 9, 0, 1, 2, 3, 4, 5, 6, 7, 9], [7]), ([8, 10, 0, 1, 2, 3, 4, 5, 6, 7, 8, 9, 10], [8])])
def laws_FnExactAspectOf.B5 : List Nat := [0, 1, 0, 7, 15, 31, 63, 63, 63, 127, 767, 2047]
theorem laws_FnExactAspectOf.tab5 : rtab .any (opsOf Try.f10 5) = laws_FnExactAspectOf.T5 := by kernel_rfl
theorem laws_FnExactAspectOf.bits5 : waitsOk laws_FnExactAspectOf.T5.2 laws_FnExactAspectOf.B5 = true := by kernel_rfl
def laws_FnExactAspectOf.T7 : Bool × List (List Nat × List Nat) := (true, [([], []), ([], []), ([1], [1]), ([0, 2, 2], [0, 2]), ([3], [3]), ([4], [4]), ([4], [4]), ([4], [4]), ([5, 3, 0, 1, 2, 3, 4, 5], [5]), ([6, 8, 0, 1, 2, 3, 4, 5, 6, 8], [6]), ([7, 9, 0, 1, 2, 3, 4, 5, 6, 7, 8, 9], [7])])
def laws_FnExactAspectOf.B7 : List Nat := [0, 0, 2, 7, 15, 31, 31, 31, 63, 383, 1023]
theorem laws_FnExactAspectOf.tab7 : rtab .any (opsOf Try.f10 7) = laws_FnExactAspectOf.T7 := by kernel_rfl
theorem laws_FnExactAspectOf.bits7 : waitsOk laws_FnExactAspectOf.T7.2 laws_FnExactAspectOf.B7 = true := by kernel_rfl
set_option maxHeartbeats 8000000 in
set_option maxRecDepth 100000 in
theorem laws_FnExactAspectOf.calls (k : Nat) (a0_0 : Int) (a0_1 : Int) (A0_2 : Option Addr) (c0_2 : Nat) (l0_2 : List Int) (a1_0 : Int) (a1_1 : Int) (a1_2 : Int) (r : Bool) (w : World) (hr0_2 : Kd.C (Kd.int .i64) w A0_2 l0_2.length l0_2) (hc0_2 : l0_2.length ≤ c0_2) (ht : r = true) (h : laws_FnExactAspectOf.f k a0_0 a0_1 l0_2 a1_0 a1_1 a1_2 = some r) :
    Calls Try.prog 10 #[.agg #[.int .i64 a0_0, .int .i64 a0_1, .slice A0_2 l0_2.length c0_2], .agg #[.int .i64 a1_0, .int .i64 a1_1, .int .i64 a1_2]] w fun e w' => e = .returned (.bool r) ∧ Below w.heap.size w w' := by
  have hu42 := Try.underlying42
  have hu23 := Try.underlying23
  have hu46 := Try.underlying46
  have HR0_2 := Aside0.mk hr0_2
  have HC0_2 := Aside0.mk hc0_2
  clear hr0_2 hc0_2
  have HB := Aside0.mk (Below.refl w.heap.size w)
  have HT := Aside0.mk ht
  clear ht
  have H : ((laws_szChart.f a0_0 a0_1 l0_2 1048576).bind fun t103 => (if t103 < 0 then (some true) else ((laws_toChart.f k a0_0 a0_1 l0_2).bind fun bt104 => ((laws_toGauge.f a1_0 a1_1 a1_2).bind fun bt109 => ((spec_AspectOf.f k bt104.1 bt104.2.1 bt104.2.2 bt109.1 bt109.2.1 bt109.2.2).bind fun bt112 => ((laws_toChart.f k a0_0 a0_1 l0_2).bind fun bt115 => ((laws_toGauge.f a1_0 a1_1 a1_2).bind fun bt121 => ((impl_AspectOf.f k bt115.1 bt115.2.1 bt115.2.2 bt121.1 bt121.2.1 bt121.2.2).bind fun bt124 => (if bt124.1 = bt112.1 then (if bt124.2.1 = bt112.2.1 then (laws_FnExactAspectOf.j0 k (bt124.2.2 != bt112.2.2) a0_0 a0_1 l0_2 bt115.1 bt115.2.1 bt115.2.2) else (laws_FnExactAspectOf.j0 k true a0_0 a0_1 l0_2 bt115.1 bt115.2.1 bt115.2.2)) else (laws_FnExactAspectOf.j0 k true a0_0 a0_1 l0_2 bt115.1 bt115.2.1 bt115.2.2)))))))))) = some r := h
  clear h
  replace H := Option.bind_eq_some_iff.mp H
  obtain ⟨t103, A30, H⟩ := H
  replace H : (if t103 < 0 then (some true) else ((laws_toChart.f k a0_0 a0_1 l0_2).bind fun bt104 => ((laws_toGauge.f a1_0 a1_1 a1_2).bind fun bt109 => ((spec_AspectOf.f k bt104.1 bt104.2.1 bt104.2.2 bt109.1 bt109.2.1 bt109.2.2).bind fun bt112 => ((laws_toChart.f k a0_0 a0_1 l0_2).bind fun bt115 => ((laws_toGauge.f a1_0 a1_1 a1_2).bind fun bt121 => ((impl_AspectOf.f k bt115.1 bt115.2.1 bt115.2.2 bt121.1 bt121.2.1 bt121.2.2).bind fun bt124 => (if bt124.1 = bt112.1 then (if bt124.2.1 = bt112.2.1 then (laws_FnExactAspectOf.j0 k (bt124.2.2 != bt112.2.2) a0_0 a0_1 l0_2 bt115.1 bt115.2.1 bt115.2.2) else (laws_FnExactAspectOf.j0 k true a0_0 a0_1 l0_2 bt115.1 bt115.2.1 bt115.2.2)) else (laws_FnExactAspectOf.j0 k true a0_0 a0_1 l0_2 bt115.1 bt115.2.1 bt115.2.2))))))))) = some r := H
  have A3 := Aside0.mk A30
  clear A30
  by_cases c4 : t103 < 0
  · rw [if_pos c4] at H
    have c4b0 : decide (t103 < 0) = true := decide_eq_true c4
    clear c4
    obtain rfl := Option.some.inj H
    go_enter Try.func10, Try.ntmps10
    go_wp2_with (first | ((with_reducible refine gate_dst (N := 2) rfl ?_); refine box_event ?hg (N := 2) ?hd (cs := #[.int .i64 a0_0, .int .i64 a0_1, .slice A0_2 l0_2.length c0_2]) (t := 42) ?hr ?_; (case hd => rfl); (case hg => rfl); (case hr => first | (go_simp; done) | (go_simp; rfl)); intro gb101 hg w5 hbox hb; have n0_ := Aside0.mk (below_step (by exact eS HB.out) hb); have n1_ := Aside0.mk (hbox); have n2_ := Aside0.mk ((by rw [hg]; exact (below_size (by exact eS HB.out)) : w.heap.size ≤ gb101)); have n3_ := Aside0.mk ((by rw [hg]; exact (below_size (by exact eS HB.out)) : w.heap.size ≤ gb101)); clear HB; have HB := n0_; have BK101 := n1_; have GW101 := n2_; have GE101 := n3_; clear n0_ n1_ n2_ n3_; clear hb hbox hg) | ((with_reducible refine gate_dst (N := 3) rfl ?_); refine box_event ?hg (N := 3) ?hd (cs := #[.int .i64 a1_0, .int .i64 a1_1, .int .i64 a1_2]) (t := 23) ?hr ?_; (case hd => rfl); (case hg => rfl); (case hr => first | (go_simp; done) | (go_simp; rfl)); intro gb102 hg w6 hbox hb; have n0_ := Aside0.mk (blk_below (bS BK101.out) hb); have n1_ := Aside0.mk (below_step (by exact eS HB.out) hb); have n2_ := Aside0.mk (hbox); have n3_ := Aside0.mk ((by rw [hg]; exact (below_size (by exact eS HB.out)) : w.heap.size ≤ gb102)); have n4_ := Aside0.mk ((by rw [hg]; exact (below_size (by exact eS HB.out)) : w.heap.size ≤ gb102)); have n5_ := Aside0.mk ((by rw [hg]; exact Nat.ne_of_lt (blk_lt (bS BK101.out)) : gb101 ≠ gb102)); have n6_ := Aside0.mk ((by rw [hg]; exact Nat.ne_of_gt (blk_lt (bS BK101.out)) : gb102 ≠ gb101)); clear BK101; clear HB; have BK101 := n0_; have HB := n1_; have BK102 := n2_; have GW102 := n3_; have GE102 := n4_; have NB101_102 := n5_; have NB102_101 := n6_; clear n0_ n1_ n2_ n3_ n4_ n5_ n6_; clear hb hbox hg; have hnb7 := NB101_102.out; have hnc7 := NB102_101.out; have hcz8_0 : w6.cell? ⟨gb101, 0, none⟩ = some (.int .i64 a0_0) := (blk_cell BK101.out 0).trans rfl; have hcz8_1 : w6.cell? ⟨gb101, 1, none⟩ = some (.int .i64 a0_1) := (blk_cell BK101.out 1).trans rfl; have hcz8_2 : w6.cell? ⟨gb101, 2, none⟩ = some (.slice A0_2 l0_2.length c0_2) := (blk_cell BK101.out 2).trans rfl; have hfz8_0 := blk_frozen BK101.out 0; have hfz8_1 := blk_frozen BK101.out 1; have hfz8_2 := blk_frozen BK101.out 2) | ((with_reducible refine gate_callee (f := 29) rfl ?_); refine goesL_ (some 15) rfl rfl Try.func29 (by kernel_rfl) rfl #[.agg #[.int .i64 a0_0, .int .i64 a0_1, .slice A0_2 l0_2.length c0_2], .int .i64 1048576] rfl (by (try simp only [List.map_toArray, List.map_cons, List.map_nil]); first | done | rfl | (simp only [List.length_drop, List.length_take]; rfl)) ?_; (with_reducible refine (laws_szChart.calls a0_0 a0_1 _ _ l0_2 1048576 t103 _ ?side1 ?side2 A3.out).mono ?_); (case side1 => repeat (first | exact (Kd.C_below HR0_2.out HB.out) | (with_reducible refine Kd.C_alloc ?_ _) | (with_reducible refine Kd.C_drewN ?_ _) | (with_reducible refine Kd.C_drew ?_))); (case side2 => exact HC0_2.out); rintro e w9 ⟨rfl, hb⟩; refine ⟨_, rfl, ?_⟩; have n0_ := Aside0.mk (blk_below (bS BK101.out) hb); have n1_ := Aside0.mk (blk_below (bS BK102.out) hb); have n2_ := Aside0.mk (below_step (by exact eS HB.out) hb); clear BK101; clear BK102; clear HB; have BK101 := n0_; have BK102 := n1_; have HB := n2_; clear n0_ n1_ n2_; (try clear hb); (try clear hb2); (try clear hk); (try clear hi)))
    go_ret
    exact ⟨by first | rfl | (simp [errW_none, errW_some] <;> rfl) | (simp [*, errW_none, errW_some] <;> rfl), by exact eS HB.out⟩
  · rw [if_neg c4] at H
    have c4b0 : decide (t103 < 0) = false := decide_eq_false c4
    clear c4
    replace H := Option.bind_eq_some_iff.mp H
    obtain ⟨⟨t104, t105, t106⟩, A100, H⟩ := H
    replace H : ((laws_toGauge.f a1_0 a1_1 a1_2).bind fun bt109 => ((spec_AspectOf.f k t104 t105 t106 bt109.1 bt109.2.1 bt109.2.2).bind fun bt112 => ((laws_toChart.f k a0_0 a0_1 l0_2).bind fun bt115 => ((laws_toGauge.f a1_0 a1_1 a1_2).bind fun bt121 => ((impl_AspectOf.f k bt115.1 bt115.2.1 bt115.2.2 bt121.1 bt121.2.1 bt121.2.2).bind fun bt124 => (if bt124.1 = bt112.1 then (if bt124.2.1 = bt112.2.1 then (laws_FnExactAspectOf.j0 k (bt124.2.2 != bt112.2.2) a0_0 a0_1 l0_2 bt115.1 bt115.2.1 bt115.2.2) else (laws_FnExactAspectOf.j0 k true a0_0 a0_1 l0_2 bt115.1 bt115.2.1 bt115.2.2)) else (laws_FnExactAspectOf.j0 k true a0_0 a0_1 l0_2 bt115.1 bt115.2.1 bt115.2.2))))))) = some r := H
    have A10 := Aside0.mk A100
    clear A100
    replace H := Option.bind_eq_some_iff.mp H
    obtain ⟨⟨t109, t110, t111⟩, A110, H⟩ := H
    replace H : ((spec_AspectOf.f k t104 t105 t106 t109 t110 t111).bind fun bt112 => ((laws_toChart.f k a0_0 a0_1 l0_2).bind fun bt115 => ((laws_toGauge.f a1_0 a1_1 a1_2).bind fun bt121 => ((impl_AspectOf.f k bt115.1 bt115.2.1 bt115.2.2 bt121.1 bt121.2.1 bt121.2.2).bind fun bt124 => (if bt124.1 = bt112.1 then (if bt124.2.1 = bt112.2.1 then (laws_FnExactAspectOf.j0 k (bt124.2.2 != bt112.2.2) a0_0 a0_1 l0_2 bt115.1 bt115.2.1 bt115.2.2) else (laws_FnExactAspectOf.j0 k true a0_0 a0_1 l0_2 bt115.1 bt115.2.1 bt115.2.2)) else (laws_FnExactAspectOf.j0 k true a0_0 a0_1 l0_2 bt115.1 bt115.2.1 bt115.2.2)))))) = some r := H
    have A11 := Aside0.mk A110
    clear A110
    replace H := Option.bind_eq_some_iff.mp H
    obtain ⟨⟨t112, t113, t114⟩, A120, H⟩ := H
    replace H : ((laws_toChart.f k a0_0 a0_1 l0_2).bind fun bt115 => ((laws_toGauge.f a1_0 a1_1 a1_2).bind fun bt121 => ((impl_AspectOf.f k bt115.1 bt115.2.1 bt115.2.2 bt121.1 bt121.2.1 bt121.2.2).bind fun bt124 => (if bt124.1 = t112 then (if bt124.2.1 = t113 then (laws_FnExactAspectOf.j0 k (bt124.2.2 != t114) a0_0 a0_1 l0_2 bt115.1 bt115.2.1 bt115.2.2) else (laws_FnExactAspectOf.j0 k true a0_0 a0_1 l0_2 bt115.1 bt115.2.1 bt115.2.2)) else (laws_FnExactAspectOf.j0 k true a0_0 a0_1 l0_2 bt115.1 bt115.2.1 bt115.2.2))))) = some r := H
    have A12 := Aside0.mk A120
    clear A120
    replace H := Option.bind_eq_some_iff.mp H
    obtain ⟨⟨t115, t116, t117⟩, A130, H⟩ := H
    replace H : ((laws_toGauge.f a1_0 a1_1 a1_2).bind fun bt121 => ((impl_AspectOf.f k t115 t116 t117 bt121.1 bt121.2.1 bt121.2.2).bind fun bt124 => (if bt124.1 = t112 then (if bt124.2.1 = t113 then (laws_FnExactAspectOf.j0 k (bt124.2.2 != t114) a0_0 a0_1 l0_2 t115 t116 t117) else (laws_FnExactAspectOf.j0 k true a0_0 a0_1 l0_2 t115 t116 t117)) else (laws_FnExactAspectOf.j0 k true a0_0 a0_1 l0_2 t115 t116 t117)))) = some r := H
    have A13 := Aside0.mk A130
    clear A130
    replace H := Option.bind_eq_some_iff.mp H
    obtain ⟨⟨t121, t122, t123⟩, A140, H⟩ := H
    replace H : ((impl_AspectOf.f k t115 t116 t117 t121 t122 t123).bind fun bt124 => (if bt124.1 = t112 then (if bt124.2.1 = t113 then (laws_FnExactAspectOf.j0 k (bt124.2.2 != t114) a0_0 a0_1 l0_2 t115 t116 t117) else (laws_FnExactAspectOf.j0 k true a0_0 a0_1 l0_2 t115 t116 t117)) else (laws_FnExactAspectOf.j0 k true a0_0 a0_1 l0_2 t115 t116 t117))) = some r := H
    have A14 := Aside0.mk A140
    clear A140
    replace H := Option.bind_eq_some_iff.mp H
    obtain ⟨⟨t124, t125, t126⟩, A150, H⟩ := H
    replace H : (if t124 = t112 then (if t125 = t113 then (laws_FnExactAspectOf.j0 k (t126 != t114) a0_0 a0_1 l0_2 t115 t116 t117) else (laws_FnExactAspectOf.j0 k true a0_0 a0_1 l0_2 t115 t116 t117)) else (laws_FnExactAspectOf.j0 k true a0_0 a0_1 l0_2 t115 t116 t117)) = some r := H
    have A15 := Aside0.mk A150
    clear A150
    have HC16 := Aside0.mk H
    clear H
    go_enter Try.func10, Try.ntmps10
    try go_wp2_with (first | ((with_reducible refine gate_dst (N := 2) rfl ?_); refine box_event ?hg (N := 2) ?hd (cs := #[.int .i64 a0_0, .int .i64 a0_1, .slice A0_2 l0_2.length c0_2]) (t := 42) ?hr ?_; (case hd => rfl); (case hg => rfl); (case hr => first | (go_simp; done) | (go_simp; rfl)); intro gb101 hg w17 hbox hb; have n0_ := Aside0.mk (below_step (by exact eS HB.out) hb); have n1_ := Aside0.mk (hbox); have n2_ := Aside0.mk ((by rw [hg]; exact (below_size (by exact eS HB.out)) : w.heap.size ≤ gb101)); have n3_ := Aside0.mk ((by rw [hg]; exact (below_size (by exact eS HB.out)) : w.heap.size ≤ gb101)); clear HB; have HB := n0_; have BK101 := n1_; have GW101 := n2_; have GE101 := n3_; clear n0_ n1_ n2_ n3_; clear hb hbox hg) | ((with_reducible refine gate_dst (N := 3) rfl ?_); refine box_event ?hg (N := 3) ?hd (cs := #[.int .i64 a1_0, .int .i64 a1_1, .int .i64 a1_2]) (t := 23) ?hr ?_; (case hd => rfl); (case hg => rfl); (case hr => first | (go_simp; done) | (go_simp; rfl)); intro gb102 hg w18 hbox hb; have n0_ := Aside0.mk (blk_below (bS BK101.out) hb); have n1_ := Aside0.mk (below_step (by exact eS HB.out) hb); have n2_ := Aside0.mk (hbox); have n3_ := Aside0.mk ((by rw [hg]; exact (below_size (by exact eS HB.out)) : w.heap.size ≤ gb102)); have n4_ := Aside0.mk ((by rw [hg]; exact (below_size (by exact eS HB.out)) : w.heap.size ≤ gb102)); have n5_ := Aside0.mk ((by rw [hg]; exact Nat.ne_of_lt (blk_lt (bS BK101.out)) : gb101 ≠ gb102)); have n6_ := Aside0.mk ((by rw [hg]; exact Nat.ne_of_gt (blk_lt (bS BK101.out)) : gb102 ≠ gb101)); clear BK101; clear HB; have BK101 := n0_; have HB := n1_; have BK102 := n2_; have GW102 := n3_; have GE102 := n4_; have NB101_102 := n5_; have NB102_101 := n6_; clear n0_ n1_ n2_ n3_ n4_ n5_ n6_; clear hb hbox hg; have hnb19 := NB101_102.out; have hnc19 := NB102_101.out; have hcz20_0 : w18.cell? ⟨gb101, 0, none⟩ = some (.int .i64 a0_0) := (blk_cell BK101.out 0).trans rfl; have hcz20_1 : w18.cell? ⟨gb101, 1, none⟩ = some (.int .i64 a0_1) := (blk_cell BK101.out 1).trans rfl; have hcz20_2 : w18.cell? ⟨gb101, 2, none⟩ = some (.slice A0_2 l0_2.length c0_2) := (blk_cell BK101.out 2).trans rfl; have hfz20_0 := blk_frozen BK101.out 0; have hfz20_1 := blk_frozen BK101.out 1; have hfz20_2 := blk_frozen BK101.out 2) | ((with_reducible refine gate_callee (f := 29) rfl ?_); refine goesL_ (some 15) rfl rfl Try.func29 (by kernel_rfl) rfl #[.agg #[.int .i64 a0_0, .int .i64 a0_1, .slice A0_2 l0_2.length c0_2], .int .i64 1048576] rfl (by (try simp only [List.map_toArray, List.map_cons, List.map_nil]); first | done | rfl | (simp only [List.length_drop, List.length_take]; rfl)) ?_; (with_reducible refine (laws_szChart.calls a0_0 a0_1 _ _ l0_2 1048576 t103 _ ?side1 ?side2 A3.out).mono ?_); (case side1 => repeat (first | exact (Kd.C_below HR0_2.out HB.out) | (with_reducible refine Kd.C_alloc ?_ _) | (with_reducible refine Kd.C_drewN ?_ _) | (with_reducible refine Kd.C_drew ?_))); (case side2 => exact HC0_2.out); rintro e w21 ⟨rfl, hb⟩; refine ⟨_, rfl, ?_⟩; have n0_ := Aside0.mk (blk_below (bS BK101.out) hb); have n1_ := Aside0.mk (blk_below (bS BK102.out) hb); have n2_ := Aside0.mk (below_step (by exact eS HB.out) hb); clear BK101; clear BK102; clear HB; have BK101 := n0_; have BK102 := n1_; have HB := n2_; clear n0_ n1_ n2_; (try clear hb); (try clear hb2); (try clear hk); (try clear hi)))
    have n0_ := Aside0.mk (blk_drew BK101.out)
    have n1_ := Aside0.mk (blk_drew BK102.out)
    have n2_ := Aside0.mk (below_drew1 HB.out)
    clear BK101
    clear BK102
    clear HB
    have BK101 := n0_
    have BK102 := n1_
    have HB := n2_
    clear n0_ n1_ n2_
    refine start_ (n := 12) (S := fun w' => w'.cell? ⟨gb101, 0, none⟩ = some (.int .i64 a0_0) ∧ w'.cell? ⟨gb101, 1, none⟩ = some (.int .i64 a0_1) ∧ w'.cell? ⟨gb101, 2, none⟩ = some (.slice A0_2 l0_2.length c0_2) ∧ w'.cell? ⟨gb102, 0, none⟩ = some (.int .i64 a1_0) ∧ w'.cell? ⟨gb102, 1, none⟩ = some (.int .i64 a1_1) ∧ w'.cell? ⟨gb102, 2, none⟩ = some (.int .i64 a1_2)) (ds := []) #[false, false, false, false, false, false, false, false, false, false, false, false] (by kernel_rfl) rfl rfl ⟨(blk_cell BK101.out 0).trans rfl, (blk_cell BK101.out 1).trans rfl, (blk_cell BK101.out 2).trans rfl, (blk_cell BK102.out 0).trans rfl, (blk_cell BK102.out 1).trans rfl, (blk_cell BK102.out 2).trans rfl⟩ (fun hHeld => ?_); refine with_tabW laws_FnExactAspectOf.tab5 laws_FnExactAspectOf.bits5 (fun HT_ HW_ => ?_)
    generalize w21.drew = w22 at BK101 BK102 HB hHeld ⊢
    refine take_ (i := 0) (N := some 19) (v := ?_) (a' := ?_) #[true, false, false, false, false, false, false, false, false, false, false, false] rfl rfl (take_ofW HT_.out HW_.out (by kernel_rfl)) (fun _ _ _ h => h) (Or.inl ⟨by rfl, ?_⟩) hHeld ?_ ?_
    rotate_left
    · rintro w' ⟨s0, s1, s2, s3, s4, s5⟩
      go_simp
      with_reducible rfl
    rotate_left
    · simp only [Act.put, List.setIfInBounds_toArray, List.set_cons_zero, List.set_cons_succ, i64_w, i32_w]
      rfl
    refine take_ (i := 2) (N := some 21) (v := ?_) (a' := ?_) #[true, false, true, false, false, false, false, false, false, false, false, false] rfl rfl (take_ofW HT_.out HW_.out (by kernel_rfl)) (fun _ _ _ h => h) (Or.inl ⟨by rfl, ?_⟩) hHeld ?_ ?_
    rotate_left
    · rintro w' ⟨s0, s1, s2, s3, s4, s5⟩
      go_simp
      with_reducible rfl
    rotate_left
    · simp only [Act.put, List.setIfInBounds_toArray, List.set_cons_zero, List.set_cons_succ, i64_w, i32_w]
      rfl
    refine one_ (i := 1) (N := some 20) #[true, true, true, false, false, false, false, false, false, false, false, false] rfl rfl (one_of HT_.out (by kernel_rfl)) (by decide) (fun K hK => ?_)
    refine goes_ Try.func31 (by kernel_rfl) rfl #[.agg #[.int .i64 a0_0, .int .i64 a0_1, .slice A0_2 l0_2.length c0_2]] (by rfl) rfl rfl (by (try simp only [List.map_toArray, List.map_cons, List.map_nil]); first | done | rfl | (simp only [List.length_drop, List.length_take]; rfl)) ?_
    with_reducible refine (laws_toChart.calls k a0_0 a0_1 _ _ l0_2 t104 t105 t106 _ ?side1 ?side2 A10.out).mono ?_
    (case side1 => repeat (first | exact (Kd.C_below HR0_2.out HB.out) | (with_reducible refine Kd.C_alloc ?_ _) | (with_reducible refine Kd.C_drewN ?_ _) | (with_reducible refine Kd.C_drew ?_)))
    (case side2 => exact HC0_2.out)
    rintro e w23 ⟨v107, rfl, ho0, hb⟩
    refine ⟨_, rfl, ?_⟩
    have n0_ := Aside0.mk (Kd.R_lower ho0 (below_size (by exact eS HB.out)))
    have n1_ := Aside0.mk (blk_below (bS BK101.out) hb)
    have n2_ := Aside0.mk (blk_below (bS BK102.out) hb)
    have n3_ := Aside0.mk (below_step (by exact eS HB.out) hb)
    clear BK101
    clear BK102
    clear HB
    have HO108 := n0_
    have BK101 := n1_
    have BK102 := n2_
    have HB := n3_
    clear n0_ n1_ n2_ n3_
    (try clear hb)
    (try clear hb2)
    (try clear hk)
    (try clear hi)
    (try clear ho0)
    refine hK.out _ _ ⟨(blk_cell BK101.out 0).trans rfl, (blk_cell BK101.out 1).trans rfl, (blk_cell BK101.out 2).trans rfl, (blk_cell BK102.out 0).trans rfl, (blk_cell BK102.out 1).trans rfl, (blk_cell BK102.out 2).trans rfl⟩ (fun hHeld => ?_)
    clear hK K
    refine norm_ (a' := ?_) ?_ ?_
    rotate_left
    · show Act.put _ (some 20) _ = _
      simp only [Act.put, List.setIfInBounds_toArray, List.set_cons_zero, List.set_cons_succ, i64_w, i32_w]
      rfl
    refine one_ (i := 3) (N := some 22) #[true, true, true, true, false, false, false, false, false, false, false, false] rfl rfl (one_of HT_.out (by kernel_rfl)) (by decide) (fun K hK => ?_)
    refine goes_ Try.func16 (by kernel_rfl) rfl #[.agg #[.int .i64 a1_0, .int .i64 a1_1, .int .i64 a1_2]] (by rfl) rfl rfl (by (try simp only [List.map_toArray, List.map_cons, List.map_nil]); first | done | rfl | (simp only [List.length_drop, List.length_take]; rfl)) ?_
    with_reducible refine (laws_toGauge.calls a1_0 a1_1 a1_2 t109 t110 t111 _ A11.out).mono ?_
    rintro e w24 ⟨rfl, hb⟩
    refine ⟨_, rfl, ?_⟩
    have n0_ := Aside0.mk (Kd.R_below (by exact Ho.RS <| HO108.out) hb)
    have n1_ := Aside0.mk (blk_below (bS BK101.out) hb)
    have n2_ := Aside0.mk (blk_below (bS BK102.out) hb)
    have n3_ := Aside0.mk (below_step (by exact eS HB.out) hb)
    clear HO108
    clear BK101
    clear BK102
    clear HB
    have HO108 := n0_
    have BK101 := n1_
    have BK102 := n2_
    have HB := n3_
    clear n0_ n1_ n2_ n3_
    (try clear hb)
    (try clear hb2)
    (try clear hk)
    (try clear hi)
    obtain ⟨Ao25, co25, eo25⟩ := Kd.R_slice HO108.out
    (first | subst eo25 | (injection eo25 with f1_ f2_ f3_; have f4_ := f1_.symm; have f5_ := f3_.symm; clear f1_ f2_ f3_; subst f4_; subst f5_))
    refine hK.out _ _ ⟨(blk_cell BK101.out 0).trans rfl, (blk_cell BK101.out 1).trans rfl, (blk_cell BK101.out 2).trans rfl, (blk_cell BK102.out 0).trans rfl, (blk_cell BK102.out 1).trans rfl, (blk_cell BK102.out 2).trans rfl⟩ (fun hHeld => ?_)
    clear hK K
    refine norm_ (a' := ?_) ?_ ?_
    rotate_left
    · show Act.put _ (some 22) _ = _
      simp only [Act.put, List.setIfInBounds_toArray, List.set_cons_zero, List.set_cons_succ, i64_w, i32_w]
      rfl
    refine one_ (i := 4) (N := some 23) #[true, true, true, true, true, false, false, false, false, false, false, false] rfl rfl (one_of HT_.out (by kernel_rfl)) (by decide) (fun K hK => ?_)
    refine goes_ Try.func34 (by kernel_rfl) rfl #[.agg #[.int .i64 t104, .int .i64 t105, .slice Ao25 t106.length co25], .agg #[.int .i64 t109, .int .i64 t110, .int .i64 t111]] (by rfl) rfl rfl (by (try simp only [List.map_toArray, List.map_cons, List.map_nil]); first | done | rfl | (simp only [List.length_drop, List.length_take]; rfl)) ?_
    with_reducible refine (spec_AspectOf.calls k t104 t105 _ _ t106 t109 t110 t111 t112 t113 t114 _ ?side1 ?side2 A12.out).mono ?_
    (case side1 => repeat (first | exact (Kd.R_reads' HO108.out).2.2 | (with_reducible refine Kd.C_alloc ?_ _) | (with_reducible refine Kd.C_drewN ?_ _) | (with_reducible refine Kd.C_drew ?_)))
    (case side2 => exact (Kd.R_reads' HO108.out).2.1)
    rintro e w26 ⟨rfl, hb⟩
    refine ⟨_, rfl, ?_⟩
    have n0_ := Aside0.mk (Kd.R_below (by exact Ho.RS <| HO108.out) hb)
    have n1_ := Aside0.mk (blk_below (bS BK101.out) hb)
    have n2_ := Aside0.mk (blk_below (bS BK102.out) hb)
    have n3_ := Aside0.mk (below_step (by exact eS HB.out) hb)
    clear HO108
    clear BK101
    clear BK102
    clear HB
    have HO108 := n0_
    have BK101 := n1_
    have BK102 := n2_
    have HB := n3_
    clear n0_ n1_ n2_ n3_
    (try clear hb)
    (try clear hb2)
    (try clear hk)
    (try clear hi)
    refine hK.out _ _ ⟨(blk_cell BK101.out 0).trans rfl, (blk_cell BK101.out 1).trans rfl, (blk_cell BK101.out 2).trans rfl, (blk_cell BK102.out 0).trans rfl, (blk_cell BK102.out 1).trans rfl, (blk_cell BK102.out 2).trans rfl⟩ (fun hHeld => ?_)
    clear hK K
    refine norm_ (a' := ?_) ?_ ?_
    rotate_left
    · show Act.put _ (some 23) _ = _
      simp only [Act.put, List.setIfInBounds_toArray, List.set_cons_zero, List.set_cons_succ, i64_w, i32_w]
      rfl
    refine pure_ (i := 5) (N := some 18) (v := ?_) (a' := ?_) #[true, true, true, true, true, true, false, false, false, false, false, false] rfl rfl (any_of HT_.out (by kernel_rfl)) (fun _ _ _ h => h) (Or.inl ⟨by rfl, ?_⟩) ?_ ?_
    rotate_left
    · intro w'
      go_simp
      with_reducible rfl
    rotate_left
    · simp only [Act.put, List.setIfInBounds_toArray, List.set_cons_zero, List.set_cons_succ, i64_w, i32_w]
      rfl
    refine pure_ (i := 6) (N := some 24) (v := ?_) (a' := ?_) #[true, true, true, true, true, true, true, false, false, false, false, false] rfl rfl (any_of HT_.out (by kernel_rfl)) (fun _ _ _ h => h) (Or.inl ⟨by rfl, ?_⟩) ?_ ?_
    rotate_left
    · intro w'
      go_simp
      with_reducible rfl
    rotate_left
    · simp only [Act.put, List.setIfInBounds_toArray, List.set_cons_zero, List.set_cons_succ, i64_w, i32_w]
      rfl
    refine pure_ (i := 7) (N := some 25) (v := ?_) (a' := ?_) #[true, true, true, true, true, true, true, true, false, false, false, false] rfl rfl (any_of HT_.out (by kernel_rfl)) (fun _ _ _ h => h) (Or.inl ⟨by rfl, ?_⟩) ?_ ?_
    rotate_left
    · intro w'
      go_simp
      with_reducible rfl
    rotate_left
    · simp only [Act.put, List.setIfInBounds_toArray, List.set_cons_zero, List.set_cons_succ, i64_w, i32_w]
      rfl
    refine pure_ (i := 8) (N := some 26) (v := ?_) (a' := ?_) #[true, true, true, true, true, true, true, true, true, false, false, false] rfl rfl (any_of HT_.out (by kernel_rfl)) (fun _ _ _ h => h) (Or.inl ⟨by rfl, ?_⟩) ?_ ?_
    rotate_left
    · intro w'
      go_simp
      with_reducible rfl
    rotate_left
    · simp only [Act.put, List.setIfInBounds_toArray, List.set_cons_zero, List.set_cons_succ, i64_w, i32_w]
      rfl
    refine pure_ (i := 9) (N := some 6) (v := ?_) (a' := ?_) #[true, true, true, true, true, true, true, true, true, true, false, false] rfl rfl (any_of HT_.out (by kernel_rfl)) (fun _ _ _ h => h) (Or.inl ⟨by rfl, ?_⟩) ?_ ?_
    rotate_left
    · intro w'
      go_simp
      with_reducible rfl
    rotate_left
    · simp only [Act.put, List.setIfInBounds_toArray, List.set_cons_zero, List.set_cons_succ, i64_w, i32_w]
      rfl
    refine pure_ (i := 10) (N := some 7) (v := ?_) (a' := ?_) #[true, true, true, true, true, true, true, true, true, true, true, false] rfl rfl (any_of HT_.out (by kernel_rfl)) (fun _ _ _ h => h) (Or.inl ⟨by rfl, ?_⟩) ?_ ?_
    rotate_left
    · intro w'
      go_simp
      with_reducible rfl
    rotate_left
    · simp only [Act.put, List.setIfInBounds_toArray, List.set_cons_zero, List.set_cons_succ, i64_w, i32_w]
      rfl
    refine pure_ (i := 11) (N := some 8) (v := ?_) (a' := ?_) #[true, true, true, true, true, true, true, true, true, true, true, true] rfl rfl (any_of HT_.out (by kernel_rfl)) (fun _ _ _ h => h) (Or.inl ⟨by rfl, ?_⟩) ?_ ?_
    rotate_left
    · intro w'
      go_simp
      with_reducible rfl
    rotate_left
    · simp only [Act.put, List.setIfInBounds_toArray, List.set_cons_zero, List.set_cons_succ, i64_w, i32_w]
      rfl
    refine done_ (done_of HT_.out (by kernel_rfl)) ?_
    have hcz27_0 : w26.cell? ⟨gb101, 0, none⟩ = some (.int .i64 a0_0) := (blk_cell BK101.out 0).trans rfl
    have hcz27_1 : w26.cell? ⟨gb101, 1, none⟩ = some (.int .i64 a0_1) := (blk_cell BK101.out 1).trans rfl
    have hcz27_2 : w26.cell? ⟨gb101, 2, none⟩ = some (.slice A0_2 l0_2.length c0_2) := (blk_cell BK101.out 2).trans rfl
    have hfz27_0 := blk_frozen BK101.out 0
    have hfz27_1 := blk_frozen BK101.out 1
    have hfz27_2 := blk_frozen BK101.out 2
    try go_wp2_with (first | ((with_reducible refine gate_callee (f := 31) rfl ?_); refine goesL_ (some 28) rfl rfl Try.func31 (by kernel_rfl) rfl #[.agg #[.int .i64 a0_0, .int .i64 a0_1, .slice A0_2 l0_2.length c0_2]] rfl (by (try simp only [List.map_toArray, List.map_cons, List.map_nil]); first | done | rfl | (simp only [List.length_drop, List.length_take]; rfl)) ?_; (with_reducible refine (laws_toChart.calls k a0_0 a0_1 _ _ l0_2 t115 t116 t117 _ ?side1 ?side2 A13.out).mono ?_); (case side1 => repeat (first | exact (Kd.C_below HR0_2.out HB.out) | (with_reducible refine Kd.C_alloc ?_ _) | (with_reducible refine Kd.C_drewN ?_ _) | (with_reducible refine Kd.C_drew ?_))); (case side2 => exact HC0_2.out); rintro e w28 ⟨v118, rfl, ho0, hb⟩; refine ⟨_, rfl, ?_⟩; have n0_ := Aside0.mk (Kd.R_elder' (by exact Ho.RS <| HO108.out) (Kd.R_base ho0) hb); have n1_ := Aside0.mk (Kd.R_lower (Kd.R_new' ho0 (Kd.R_lt (by exact Ho.RS <| HO108.out))) (below_size (by exact eS HB.out))); have n2_ := Aside0.mk (blk_below (bS BK101.out) hb); have n3_ := Aside0.mk (blk_below (bS BK102.out) hb); have n4_ := Aside0.mk (below_step (by exact eS HB.out) hb); clear HO108; clear BK101; clear BK102; clear HB; have HO108 := n0_; have HO119 := n1_; have BK101 := n2_; have BK102 := n3_; have HB := n4_; clear n0_ n1_ n2_ n3_ n4_; (try clear hb); (try clear hb2); (try clear hk); (try clear hi); (try clear ho0)) | ((with_reducible refine gate_dst (N := 9) rfl ?_); refine box_event ?hg (N := 9) ?hd (cs := #[.int .i64 0, .int .i64 0, .slice none 0 0]) (t := 46) ?hr ?_; (case hd => rfl); (case hg => rfl); (case hr => first | (go_simp; done) | (go_simp; rfl)); intro gb120 hg w29 hbox hb; have n0_ := Aside0.mk (Kd.R_below (by exact Ho.RS <| HO108.out) hb); have n1_ := Aside0.mk (Kd.R_below (by exact Ho.RS <| HO119.out) hb); have n2_ := Aside0.mk (blk_below (bS BK101.out) hb); have n3_ := Aside0.mk (blk_below (bS BK102.out) hb); have n4_ := Aside0.mk (below_step (by exact eS HB.out) hb); have n5_ := Aside0.mk (hbox); have n6_ := Aside0.mk ((by rw [hg]; exact (below_size (by exact eS HB.out)) : w.heap.size ≤ gb120)); have n7_ := Aside0.mk ((by rw [hg]; exact (below_size (by exact eS HB.out)) : w.heap.size ≤ gb120)); have n8_ := Aside0.mk ((by rw [hg]; exact Nat.ne_of_lt (blk_lt (bS BK101.out)) : gb101 ≠ gb120)); have n9_ := Aside0.mk ((by rw [hg]; exact Nat.ne_of_gt (blk_lt (bS BK101.out)) : gb120 ≠ gb101)); have n10_ := Aside0.mk ((by rw [hg]; exact Nat.ne_of_lt (blk_lt (bS BK102.out)) : gb102 ≠ gb120)); have n11_ := Aside0.mk ((by rw [hg]; exact Nat.ne_of_gt (blk_lt (bS BK102.out)) : gb120 ≠ gb102)); clear HO108; clear HO119; clear BK101; clear BK102; clear HB; have HO108 := n0_; have HO119 := n1_; have BK101 := n2_; have BK102 := n3_; have HB := n4_; have BK120 := n5_; have GW120 := n6_; have GE120 := n7_; have NB101_120 := n8_; have NB120_101 := n9_; have NB102_120 := n10_; have NB120_102 := n11_; clear n0_ n1_ n2_ n3_ n4_ n5_ n6_ n7_ n8_ n9_ n10_ n11_; clear hb hbox hg; have hnb30 := NB120_101.out; have hnc30 := NB101_120.out; have hnb31 := NB120_102.out; have hnc31 := NB102_120.out; have hcz32_0 : w29.cell? ⟨gb120, 0, none⟩ = some (.int .i64 0) := (blk_cell BK120.out 0).trans rfl; have hcz32_1 : w29.cell? ⟨gb120, 1, none⟩ = some (.int .i64 0) := (blk_cell BK120.out 1).trans rfl; have hcz32_2 : w29.cell? ⟨gb120, 2, none⟩ = some (.slice none 0 0) := (blk_cell BK120.out 2).trans rfl; have hfz32_0 := blk_frozen BK120.out 0; have hfz32_1 := blk_frozen BK120.out 1; have hfz32_2 := blk_frozen BK120.out 2; obtain ⟨Ao33, co33, eo33⟩ := Kd.R_slice HO119.out; subst eo33))
    have n0_ : Aside0 (Kd.R (Kd.int .i64) 3 (((w29.setCell ⟨gb120, 0, none⟩ (.int .i64 t115)).setCell ⟨gb120, 1, none⟩ (.int .i64 t116)).setCell ⟨gb120, 2, none⟩ (.slice Ao33 t117.length co33)) w.heap.size (fun k_ => some k_ ≠ (.slice Ao33 t117.length co33 : Value).ownBlock) (.slice Ao25 t106.length co25) t106) := ⟨by exact Ho.RS <| Kd.R_mono (Kd.R_far (p := ⟨gb120, 2, none⟩) (Kd.R_far (p := ⟨gb120, 1, none⟩) (Kd.R_far (p := ⟨gb120, 0, none⟩) (Kd.R_types HO108.out BK120.out (by decide)) (fun _ hk => hk.2) (.int .i64 t115)) (fun _ hk => hk.2) (.int .i64 t116)) (fun _ hk => hk.2) (.slice Ao33 t117.length co33)) (fun _ hk => hk.1.2)⟩
    have n1_ : Aside0 (Kd.R (Kd.int .i64) 3 (((w29.setCell ⟨gb120, 0, none⟩ (.int .i64 t115)).setCell ⟨gb120, 1, none⟩ (.int .i64 t116)).setCell ⟨gb120, 2, none⟩ (.slice Ao33 t117.length co33)) w.heap.size (fun k_ => some k_ ≠ (.slice Ao25 t106.length co25 : Value).ownBlock) (.slice Ao33 t117.length co33) t117) := ⟨by exact Ho.RS <| Kd.R_mono (Kd.R_far (p := ⟨gb120, 2, none⟩) (Kd.R_far (p := ⟨gb120, 1, none⟩) (Kd.R_far (p := ⟨gb120, 0, none⟩) (Kd.R_types HO119.out BK120.out (by decide)) (fun _ hk => hk.2) (.int .i64 t115)) (fun _ hk => hk.2) (.int .i64 t116)) (fun _ hk => hk.2) (.slice Ao33 t117.length co33)) (fun _ hk => hk.1.2)⟩
    have n2_ : Aside0 ((((w29.setCell ⟨gb120, 0, none⟩ (.int .i64 t115)).setCell ⟨gb120, 1, none⟩ (.int .i64 t116)).setCell ⟨gb120, 2, none⟩ (.slice Ao33 t117.length co33)).heap[gb101]? = some (.cells #[.int .i64 a0_0, .int .i64 a0_1, .slice A0_2 l0_2.length c0_2] 42 (0, 0))) := ⟨by (with_reducible repeat (first | refine blk_drewN ?_ _ | refine blk_drew ?_ | refine blk_alloc ?_ _)); refine blk_far ?_ NB101_120.out _; (with_reducible repeat (first | refine blk_drewN ?_ _ | refine blk_drew ?_ | refine blk_alloc ?_ _)); refine blk_far ?_ NB101_120.out _; (with_reducible repeat (first | refine blk_drewN ?_ _ | refine blk_drew ?_ | refine blk_alloc ?_ _)); refine blk_far ?_ NB101_120.out _; exact bS BK101.out⟩
    have n3_ : Aside0 ((((w29.setCell ⟨gb120, 0, none⟩ (.int .i64 t115)).setCell ⟨gb120, 1, none⟩ (.int .i64 t116)).setCell ⟨gb120, 2, none⟩ (.slice Ao33 t117.length co33)).heap[gb102]? = some (.cells #[.int .i64 a1_0, .int .i64 a1_1, .int .i64 a1_2] 23 (0, 0))) := ⟨by (with_reducible repeat (first | refine blk_drewN ?_ _ | refine blk_drew ?_ | refine blk_alloc ?_ _)); refine blk_far ?_ NB102_120.out _; (with_reducible repeat (first | refine blk_drewN ?_ _ | refine blk_drew ?_ | refine blk_alloc ?_ _)); refine blk_far ?_ NB102_120.out _; (with_reducible repeat (first | refine blk_drewN ?_ _ | refine blk_drew ?_ | refine blk_alloc ?_ _)); refine blk_far ?_ NB102_120.out _; exact bS BK102.out⟩
    have n4_ : Aside0 ((((w29.setCell ⟨gb120, 0, none⟩ (.int .i64 t115)).setCell ⟨gb120, 1, none⟩ (.int .i64 t116)).setCell ⟨gb120, 2, none⟩ (.slice Ao33 t117.length co33)).heap[gb120]? = some (.cells #[.int .i64 t115, .int .i64 t116, .slice Ao33 t117.length co33] 46 (0, 0))) := ⟨by (with_reducible repeat (first | refine blk_drewN ?_ _ | refine blk_drew ?_ | refine blk_alloc ?_ _)); refine blk_put (cs := #[.int .i64 t115, .int .i64 t116, .slice none 0 0]) ?_ 2 _ rfl; (with_reducible repeat (first | refine blk_drewN ?_ _ | refine blk_drew ?_ | refine blk_alloc ?_ _)); refine blk_put (cs := #[.int .i64 t115, .int .i64 0, .slice none 0 0]) ?_ 1 _ rfl; (with_reducible repeat (first | refine blk_drewN ?_ _ | refine blk_drew ?_ | refine blk_alloc ?_ _)); refine blk_put (cs := #[.int .i64 0, .int .i64 0, .slice none 0 0]) ?_ 0 _ rfl; exact bS BK120.out⟩
    have n5_ : Aside0 (Below w.heap.size w (((w29.setCell ⟨gb120, 0, none⟩ (.int .i64 t115)).setCell ⟨gb120, 1, none⟩ (.int .i64 t116)).setCell ⟨gb120, 2, none⟩ (.slice Ao33 t117.length co33))) := ⟨by repeat (first | (with_reducible first | exact HB.out | apply below_alloc | apply pw_below_drewN | apply below_drew1 | refine below_set ?_ GE101.out | refine below_set ?_ GE102.out | refine below_set ?_ GE120.out) | exact HB.out)⟩
    (try clear HO108)
    (try clear HO119)
    (try clear BK101)
    (try clear BK102)
    (try clear BK120)
    (try clear HB)
    generalize (((w29.setCell ⟨gb120, 0, none⟩ (.int .i64 t115)).setCell ⟨gb120, 1, none⟩ (.int .i64 t116)).setCell ⟨gb120, 2, none⟩ (.slice Ao33 t117.length co33)) = w34 at n0_ n1_ n2_ n3_ n4_ n5_ ⊢
    have HO108 := n0_
    have HO119 := n1_
    have BK101 := n2_
    have BK102 := n3_
    have BK120 := n4_
    have HB := n5_
    clear n0_ n1_ n2_ n3_ n4_ n5_
    have n0_ := Aside0.mk (Kd.R_drew HO108.out)
    have n1_ := Aside0.mk (Kd.R_drew HO119.out)
    have n2_ := Aside0.mk (blk_drew BK101.out)
    have n3_ := Aside0.mk (blk_drew BK102.out)
    have n4_ := Aside0.mk (blk_drew BK120.out)
    have n5_ := Aside0.mk (below_drew1 HB.out)
    clear HO108
    clear HO119
    clear BK101
    clear BK102
    clear BK120
    clear HB
    have HO108 := n0_
    have HO119 := n1_
    have BK101 := n2_
    have BK102 := n3_
    have BK120 := n4_
    have HB := n5_
    clear n0_ n1_ n2_ n3_ n4_ n5_
    refine start_ (n := 11) (S := fun w' => w'.cell? ⟨gb120, 0, none⟩ = some (.int .i64 t115) ∧ w'.cell? ⟨gb120, 1, none⟩ = some (.int .i64 t116) ∧ w'.cell? ⟨gb120, 2, none⟩ = some (.slice Ao33 t117.length co33) ∧ w'.cell? ⟨gb102, 0, none⟩ = some (.int .i64 a1_0) ∧ w'.cell? ⟨gb102, 1, none⟩ = some (.int .i64 a1_1) ∧ w'.cell? ⟨gb102, 2, none⟩ = some (.int .i64 a1_2)) (ds := []) #[false, false, false, false, false, false, false, false, false, false, false] (by kernel_rfl) rfl rfl ⟨(blk_cell BK120.out 0).trans rfl, (blk_cell BK120.out 1).trans rfl, (blk_cell BK120.out 2).trans rfl, (blk_cell BK102.out 0).trans rfl, (blk_cell BK102.out 1).trans rfl, (blk_cell BK102.out 2).trans rfl⟩ (fun hHeld => ?_); refine with_tabW laws_FnExactAspectOf.tab7 laws_FnExactAspectOf.bits7 (fun HT_ HW_ => ?_)
    generalize w34.drew = w35 at HO108 HO119 BK101 BK102 BK120 HB hHeld ⊢
    refine take_ (i := 0) (N := some 30) (v := ?_) (a' := ?_) #[true, false, false, false, false, false, false, false, false, false, false] rfl rfl (take_ofW HT_.out HW_.out (by kernel_rfl)) (fun _ _ _ h => h) (Or.inl ⟨by rfl, ?_⟩) hHeld ?_ ?_
    rotate_left
    · rintro w' ⟨s0, s1, s2, s3, s4, s5⟩
      go_simp
      with_reducible rfl
    rotate_left
    · simp only [Act.put, List.setIfInBounds_toArray, List.set_cons_zero, List.set_cons_succ, i64_w, i32_w]
      rfl
    refine take_ (i := 1) (N := some 31) (v := ?_) (a' := ?_) #[true, true, false, false, false, false, false, false, false, false, false] rfl rfl (take_ofW HT_.out HW_.out (by kernel_rfl)) (fun _ _ _ h => h) (Or.inl ⟨by rfl, ?_⟩) hHeld ?_ ?_
    rotate_left
    · rintro w' ⟨s0, s1, s2, s3, s4, s5⟩
      go_simp
      with_reducible rfl
    rotate_left
    · simp only [Act.put, List.setIfInBounds_toArray, List.set_cons_zero, List.set_cons_succ, i64_w, i32_w]
      rfl
    refine one_ (i := 2) (N := some 32) #[true, true, true, false, false, false, false, false, false, false, false] rfl rfl (one_of HT_.out (by kernel_rfl)) (by decide) (fun K hK => ?_)
    refine goes_ Try.func16 (by kernel_rfl) rfl #[.agg #[.int .i64 a1_0, .int .i64 a1_1, .int .i64 a1_2]] (by rfl) rfl rfl (by (try simp only [List.map_toArray, List.map_cons, List.map_nil]); first | done | rfl | (simp only [List.length_drop, List.length_take]; rfl)) ?_
    with_reducible refine (laws_toGauge.calls a1_0 a1_1 a1_2 t121 t122 t123 _ A14.out).mono ?_
    rintro e w36 ⟨rfl, hb⟩
    refine ⟨_, rfl, ?_⟩
    have n0_ := Aside0.mk (Kd.R_below (by exact Ho.RS <| HO108.out) hb)
    have n1_ := Aside0.mk (Kd.R_below (by exact Ho.RS <| HO119.out) hb)
    have n2_ := Aside0.mk (blk_below (bS BK101.out) hb)
    have n3_ := Aside0.mk (blk_below (bS BK102.out) hb)
    have n4_ := Aside0.mk (blk_below (bS BK120.out) hb)
    have n5_ := Aside0.mk (below_step (by exact eS HB.out) hb)
    clear HO108
    clear HO119
    clear BK101
    clear BK102
    clear BK120
    clear HB
    have HO108 := n0_
    have HO119 := n1_
    have BK101 := n2_
    have BK102 := n3_
    have BK120 := n4_
    have HB := n5_
    clear n0_ n1_ n2_ n3_ n4_ n5_
    (try clear hb)
    (try clear hb2)
    (try clear hk)
    (try clear hi)
    refine hK.out _ _ ⟨(blk_cell BK120.out 0).trans rfl, (blk_cell BK120.out 1).trans rfl, (blk_cell BK120.out 2).trans rfl, (blk_cell BK102.out 0).trans rfl, (blk_cell BK102.out 1).trans rfl, (blk_cell BK102.out 2).trans rfl⟩ (fun hHeld => ?_)
    clear hK K
    refine norm_ (a' := ?_) ?_ ?_
    rotate_left
    · show Act.put _ (some 32) _ = _
      simp only [Act.put, List.setIfInBounds_toArray, List.set_cons_zero, List.set_cons_succ, i64_w, i32_w]
      rfl
    refine one_ (i := 3) (N := some 33) #[true, true, true, true, false, false, false, false, false, false, false] rfl rfl (one_of HT_.out (by kernel_rfl)) (by decide) (fun K hK => ?_)
    refine goes_ Try.func35 (by kernel_rfl) rfl #[.agg #[.int .i64 t115, .int .i64 t116, .slice Ao33 t117.length co33], .agg #[.int .i64 t121, .int .i64 t122, .int .i64 t123]] (by rfl) rfl rfl (by (try simp only [List.map_toArray, List.map_cons, List.map_nil]); first | done | rfl | (simp only [List.length_drop, List.length_take]; rfl)) ?_
    with_reducible refine (impl_AspectOf.calls k t115 t116 _ _ t117 t121 t122 t123 t124 t125 t126 _ ?side1 ?side2 A15.out).mono ?_
    (case side1 => repeat (first | exact (Kd.R_reads' HO119.out).2.2 | (with_reducible refine Kd.C_alloc ?_ _) | (with_reducible refine Kd.C_drewN ?_ _) | (with_reducible refine Kd.C_drew ?_)))
    (case side2 => exact (Kd.R_reads' HO119.out).2.1)
    rintro e w37 ⟨rfl, hb⟩
    refine ⟨_, rfl, ?_⟩
    have n0_ := Aside0.mk (Kd.R_below (by exact Ho.RS <| HO108.out) hb)
    have n1_ := Aside0.mk (Kd.R_below (by exact Ho.RS <| HO119.out) hb)
    have n2_ := Aside0.mk (blk_below (bS BK101.out) hb)
    have n3_ := Aside0.mk (blk_below (bS BK102.out) hb)
    have n4_ := Aside0.mk (blk_below (bS BK120.out) hb)
    have n5_ := Aside0.mk (below_step (by exact eS HB.out) hb)
    clear HO108
    clear HO119
    clear BK101
    clear BK102
    clear BK120
    clear HB
    have HO108 := n0_
    have HO119 := n1_
    have BK101 := n2_
    have BK102 := n3_
    have BK120 := n4_
    have HB := n5_
    clear n0_ n1_ n2_ n3_ n4_ n5_
    (try clear hb)
    (try clear hb2)
    (try clear hk)
    (try clear hi)
    refine hK.out _ _ ⟨(blk_cell BK120.out 0).trans rfl, (blk_cell BK120.out 1).trans rfl, (blk_cell BK120.out 2).trans rfl, (blk_cell BK102.out 0).trans rfl, (blk_cell BK102.out 1).trans rfl, (blk_cell BK102.out 2).trans rfl⟩ (fun hHeld => ?_)
    clear hK K
    refine norm_ (a' := ?_) ?_ ?_
    rotate_left
    · show Act.put _ (some 33) _ = _
      simp only [Act.put, List.setIfInBounds_toArray, List.set_cons_zero, List.set_cons_succ, i64_w, i32_w]
      rfl
    refine pure_ (i := 4) (N := some 29) (v := ?_) (a' := ?_) #[true, true, true, true, true, false, false, false, false, false, false] rfl rfl (any_of HT_.out (by kernel_rfl)) (fun _ _ _ h => h) (Or.inl ⟨by rfl, ?_⟩) ?_ ?_
    rotate_left
    · intro w'
      go_simp
      with_reducible rfl
    rotate_left
    · simp only [Act.put, List.setIfInBounds_toArray, List.set_cons_zero, List.set_cons_succ, i64_w, i32_w]
      rfl
    refine pure_ (i := 5) (N := some 34) (v := ?_) (a' := ?_) #[true, true, true, true, true, true, false, false, false, false, false] rfl rfl (any_of HT_.out (by kernel_rfl)) (fun _ _ _ h => h) (Or.inl ⟨by rfl, ?_⟩) ?_ ?_
    rotate_left
    · intro w'
      go_simp
      with_reducible rfl
    rotate_left
    · simp only [Act.put, List.setIfInBounds_toArray, List.set_cons_zero, List.set_cons_succ, i64_w, i32_w]
      rfl
    refine pure_ (i := 6) (N := some 35) (v := ?_) (a' := ?_) #[true, true, true, true, true, true, true, false, false, false, false] rfl rfl (any_of HT_.out (by kernel_rfl)) (fun _ _ _ h => h) (Or.inl ⟨by rfl, ?_⟩) ?_ ?_
    rotate_left
    · intro w'
      go_simp
      with_reducible rfl
    rotate_left
    · simp only [Act.put, List.setIfInBounds_toArray, List.set_cons_zero, List.set_cons_succ, i64_w, i32_w]
      rfl
    refine pure_ (i := 7) (N := some 36) (v := ?_) (a' := ?_) #[true, true, true, true, true, true, true, true, false, false, false] rfl rfl (any_of HT_.out (by kernel_rfl)) (fun _ _ _ h => h) (Or.inl ⟨by rfl, ?_⟩) ?_ ?_
    rotate_left
    · intro w'
      go_simp
      with_reducible rfl
    rotate_left
    · simp only [Act.put, List.setIfInBounds_toArray, List.set_cons_zero, List.set_cons_succ, i64_w, i32_w]
      rfl
    refine pure_ (i := 8) (N := some 10) (v := ?_) (a' := ?_) #[true, true, true, true, true, true, true, true, true, false, false] rfl rfl (any_of HT_.out (by kernel_rfl)) (fun _ _ _ h => h) (Or.inl ⟨by rfl, ?_⟩) ?_ ?_
    rotate_left
    · intro w'
      go_simp
      with_reducible rfl
    rotate_left
    · simp only [Act.put, List.setIfInBounds_toArray, List.set_cons_zero, List.set_cons_succ, i64_w, i32_w]
      rfl
    refine pure_ (i := 9) (N := some 11) (v := ?_) (a' := ?_) #[true, true, true, true, true, true, true, true, true, true, false] rfl rfl (any_of HT_.out (by kernel_rfl)) (fun _ _ _ h => h) (Or.inl ⟨by rfl, ?_⟩) ?_ ?_
    rotate_left
    · intro w'
      go_simp
      with_reducible rfl
    rotate_left
    · simp only [Act.put, List.setIfInBounds_toArray, List.set_cons_zero, List.set_cons_succ, i64_w, i32_w]
      rfl
    refine pure_ (i := 10) (N := some 12) (v := ?_) (a' := ?_) #[true, true, true, true, true, true, true, true, true, true, true] rfl rfl (any_of HT_.out (by kernel_rfl)) (fun _ _ _ h => h) (Or.inl ⟨by rfl, ?_⟩) ?_ ?_
    rotate_left
    · intro w'
      go_simp
      with_reducible rfl
    rotate_left
    · simp only [Act.put, List.setIfInBounds_toArray, List.set_cons_zero, List.set_cons_succ, i64_w, i32_w]
      rfl
    refine done_ (done_of HT_.out (by kernel_rfl)) ?_
    go_upto_region 8 with (fail)
    go_cut [49] (fun v49 wc => ∃ (kq : Nat) (x49_15 : Bool), v49 = .bool x49_15 ∧ Aside0 (laws_FnExactAspectOf.j0 kq x49_15 a0_0 a0_1 l0_2 t115 t116 t117 = some r) ∧ Aside0 (kq ≤ k) ∧ Aside0 (Kd.R (Kd.int .i64) 3 wc w.heap.size (fun _ => True) (.slice Ao33 t117.length co33) t117) ∧ Aside0 (wc.heap[gb101]? = some (.cells #[.int .i64 a0_0, .int .i64 a0_1, (.slice A0_2 l0_2.length c0_2)] 42 (0, 0))) ∧ Aside0 (wc.heap[gb102]? = some (.cells #[.int .i64 a1_0, .int .i64 a1_1, .int .i64 a1_2] 23 (0, 0))) ∧ Aside0 (wc.heap[gb120]? = some (.cells #[.int .i64 t115, .int .i64 t116, (.slice Ao33 t117.length co33)] 46 (0, 0))) ∧ Aside0 (Below w.heap.size w wc))
    case first =>
      have H := HC16.out
      clear HC16
      by_cases c38 : t124 = t112
      · rw [if_pos c38] at H
        have c38b0 : (t124 == t112) = true := beq_iff_eq.mpr c38
        have c38b1 : (t124 != t112) = false := bne_eq_false_iff_eq.mpr c38
        clear c38
        (first | rw [c38b0] | (simp only [i64_w, i32_w]; rw [c38b0]) | skip)
        by_cases c39 : t125 = t113
        · rw [if_pos c39] at H
          have c39b0 : (t125 == t113) = true := beq_iff_eq.mpr c39
          have c39b1 : (t125 != t113) = false := bne_eq_false_iff_eq.mpr c39
          clear c39
          have H' := Aside0.mk H
          clear H
          go_wp2
          go_meet
          case rel => exact ⟨_, ((t126 != t114)), (by first | rfl | (simp; done) | (simp [*]; done)), H', ⟨by first | omega | exact Nat.le_refl _⟩, ⟨by exact Ho.RS <| Kd.R_mono HO119.out (fun _ hk => trivial)⟩, ⟨by exact bS BK101.out⟩, ⟨by exact bS BK102.out⟩, ⟨by exact bS BK120.out⟩, ⟨by exact eS HB.out⟩⟩
        · rw [if_neg c39] at H
          have c39b0 : (t125 == t113) = false := beq_eq_false_iff_ne.mpr c39
          have c39b1 : (t125 != t113) = true := bne_iff_ne.mpr c39
          have H' := Aside0.mk H
          clear H
          go_wp2
          go_meet
          case rel => exact ⟨_, (true), (by first | rfl | (simp; done) | (simp [*]; done)), H', ⟨by first | omega | exact Nat.le_refl _⟩, ⟨by exact Ho.RS <| Kd.R_mono HO119.out (fun _ hk => trivial)⟩, ⟨by exact bS BK101.out⟩, ⟨by exact bS BK102.out⟩, ⟨by exact bS BK120.out⟩, ⟨by exact eS HB.out⟩⟩
      · rw [if_neg c38] at H
        have c38b0 : (t124 == t112) = false := beq_eq_false_iff_ne.mpr c38
        have c38b1 : (t124 != t112) = true := bne_iff_ne.mpr c38
        (first | rw [c38b0] | (simp only [i64_w, i32_w]; rw [c38b0]) | skip)
        have H' := Aside0.mk H
        clear H
        go_wp2
        go_meet
        case rel => exact ⟨_, (true), (by first | rfl | (simp; done) | (simp [*]; done)), H', ⟨by first | omega | exact Nat.le_refl _⟩, ⟨by exact Ho.RS <| Kd.R_mono HO119.out (fun _ hk => trivial)⟩, ⟨by exact bS BK101.out⟩, ⟨by exact bS BK102.out⟩, ⟨by exact bS BK120.out⟩, ⟨by exact eS HB.out⟩⟩
    case rest =>
      clear HC16
      try clear c1
      try clear c2
      try clear p2
      try clear c3
      try clear c4
      try clear c4b0
      try clear c7
      try clear c10
      try clear c16
      try clear c19
      try clear c29
      try clear c30
      try clear c31
      try clear c34
      try clear c35
      try clear c38
      try clear c38b0
      try clear c38b1
      try clear c39
      try clear c39b0
      try clear c39b1
      try clear hcz20_0
      try clear hcz20_1
      try clear hcz20_2
      try clear hcz27_0
      try clear hcz27_1
      try clear hcz27_2
      try clear hcz32_0
      try clear hcz32_1
      try clear hcz32_2
      try clear hcz8_0
      try clear hcz8_1
      try clear hcz8_2
      try clear hfz20_0
      try clear hfz20_1
      try clear hfz20_2
      try clear hfz27_0
      try clear hfz27_1
      try clear hfz27_2
      try clear hfz32_0
      try clear hfz32_1
      try clear hfz32_2
      try clear hfz8_0
      try clear hfz8_1
      try clear hfz8_2
      obtain ⟨kq, x49_15, rfl, HA, HJ15, HO_121002, BK101, BK102, BK120, HB⟩ := hcut
      cases kq with
      | zero => exact absurd HA.out (by simp [laws_FnExactAspectOf.j0])
      | succ kj15 =>
        have H := HA.out
        clear HA
        simp only [laws_FnExactAspectOf.j0] at H
        by_cases c40 : x49_15 = true
        · subst c40
          have H1 : (some false) = some r := by rw [if_pos rfl] at H; exact H
          clear H
          have H := H1
          clear H1
          exact absurd ((Option.some.inj H).trans HT.out) (by decide)
        · replace c40 := Bool.eq_false_iff.mpr c40
          subst c40
          have H1 : ((laws_toChart.f kj15 a0_0 a0_1 l0_2).bind fun bt127 => ((laws_eqChart.f kj15 t115 t116 t117 bt127.1 bt127.2.1 bt127.2.2).bind fun t132 => (if t132 = true then (some true) else (some false)))) = some r := by rw [if_neg (show ¬ (false = true) by decide)] at H; exact H
          clear H
          have H := H1
          clear H1
          replace H := Option.bind_eq_some_iff.mp H
          obtain ⟨⟨t127, t128, t129⟩, A410, H⟩ := H
          replace H : ((laws_eqChart.f kj15 t115 t116 t117 t127 t128 t129).bind fun t132 => (if t132 = true then (some true) else (some false))) = some r := H
          have A41 := Aside0.mk A410
          clear A410
          replace H := Option.bind_eq_some_iff.mp H
          obtain ⟨t132, A420, H⟩ := H
          replace H : (if t132 = true then (some true) else (some false)) = some r := H
          have A42 := Aside0.mk A420
          clear A420
          by_cases c43 : t132 = true
          · subst c43
            have H1 : (some true) = some r := by rw [if_pos rfl] at H; exact H
            clear H
            have H := H1
            clear H1
            obtain rfl := Option.some.inj H
            try go_wp2
            have n0_ := Aside0.mk (Kd.R_drew HO_121002.out)
            have n1_ := Aside0.mk (blk_drew BK101.out)
            have n2_ := Aside0.mk (blk_drew BK102.out)
            have n3_ := Aside0.mk (blk_drew BK120.out)
            have n4_ := Aside0.mk (below_drew1 HB.out)
            clear HO_121002
            clear BK101
            clear BK102
            clear BK120
            clear HB
            have HO_121002 := n0_
            have BK101 := n1_
            have BK102 := n2_
            have BK120 := n3_
            have HB := n4_
            clear n0_ n1_ n2_ n3_ n4_
            refine start_ (n := 5) (S := fun w' => w'.cell? ⟨gb120, 0, none⟩ = some (.int .i64 t115) ∧ w'.cell? ⟨gb120, 1, none⟩ = some (.int .i64 t116) ∧ w'.cell? ⟨gb120, 2, none⟩ = some (.slice Ao33 t117.length co33) ∧ w'.cell? ⟨gb101, 0, none⟩ = some (.int .i64 a0_0) ∧ w'.cell? ⟨gb101, 1, none⟩ = some (.int .i64 a0_1) ∧ w'.cell? ⟨gb101, 2, none⟩ = some (.slice A0_2 l0_2.length c0_2)) (ds := []) #[false, false, false, false, false] (by kernel_rfl) rfl rfl ⟨(blk_cell BK120.out 0).trans rfl, (blk_cell BK120.out 1).trans rfl, (blk_cell BK120.out 2).trans rfl, (blk_cell BK101.out 0).trans rfl, (blk_cell BK101.out 1).trans rfl, (blk_cell BK101.out 2).trans rfl⟩ (fun hHeld => ?_)
            generalize wc.drew = w44 at HO_121002 BK101 BK102 BK120 HB hHeld ⊢
            refine take_ (i := 0) (N := some 50) (v := ?_) (a' := ?_) #[true, false, false, false, false] rfl rfl (by kernel_rfl) (fun _ _ _ h => h) (Or.inl ⟨by rfl, ?_⟩) hHeld ?_ ?_
            rotate_left
            · rintro w' ⟨s0, s1, s2, s3, s4, s5⟩
              go_simp
              with_reducible rfl
            rotate_left
            · simp only [Act.put, List.setIfInBounds_toArray, List.set_cons_zero, List.set_cons_succ, i64_w, i32_w]
              rfl
            refine take_ (i := 1) (N := some 51) (v := ?_) (a' := ?_) #[true, true, false, false, false] rfl rfl (by kernel_rfl) (fun _ _ _ h => h) (Or.inl ⟨by rfl, ?_⟩) hHeld ?_ ?_
            rotate_left
            · rintro w' ⟨s0, s1, s2, s3, s4, s5⟩
              go_simp
              with_reducible rfl
            rotate_left
            · simp only [Act.put, List.setIfInBounds_toArray, List.set_cons_zero, List.set_cons_succ, i64_w, i32_w]
              rfl
            refine one_ (i := 2) (N := some 52) #[true, true, true, false, false] rfl rfl (by kernel_rfl) (by decide) (fun K hK => ?_)
            refine goes_ Try.func31 (by kernel_rfl) rfl #[.agg #[.int .i64 a0_0, .int .i64 a0_1, .slice A0_2 l0_2.length c0_2]] (by rfl) rfl rfl (by (try simp only [List.map_toArray, List.map_cons, List.map_nil]); first | done | rfl | (simp only [List.length_drop, List.length_take]; rfl)) ?_
            with_reducible refine (laws_toChart.calls kj15 a0_0 a0_1 _ _ l0_2 t127 t128 t129 _ ?side1 ?side2 A41.out).mono ?_
            (case side1 => repeat (first | exact (Kd.C_below HR0_2.out HB.out) | (with_reducible refine Kd.C_alloc ?_ _) | (with_reducible refine Kd.C_drewN ?_ _) | (with_reducible refine Kd.C_drew ?_)))
            (case side2 => exact HC0_2.out)
            rintro e w45 ⟨v130, rfl, ho0, hb⟩
            refine ⟨_, rfl, ?_⟩
            have n0_ := Aside0.mk (Kd.R_elder' (by exact Ho.RS <| HO_121002.out) (Kd.R_base ho0) hb)
            have n1_ := Aside0.mk (Kd.R_lower (Kd.R_new' ho0 (Kd.R_lt (by exact Ho.RS <| HO_121002.out))) (below_size (by exact eS HB.out)))
            have n2_ := Aside0.mk (blk_below (bS BK101.out) hb)
            have n3_ := Aside0.mk (blk_below (bS BK102.out) hb)
            have n4_ := Aside0.mk (blk_below (bS BK120.out) hb)
            have n5_ := Aside0.mk (below_step (by exact eS HB.out) hb)
            clear HO_121002
            clear BK101
            clear BK102
            clear BK120
            clear HB
            have HO_121002 := n0_
            have HO131 := n1_
            have BK101 := n2_
            have BK102 := n3_
            have BK120 := n4_
            have HB := n5_
            clear n0_ n1_ n2_ n3_ n4_ n5_
            (try clear hb)
            (try clear hb2)
            (try clear hk)
            (try clear hi)
            (try clear ho0)
            obtain ⟨Ao46, co46, eo46⟩ := Kd.R_slice HO131.out
            (first | subst eo46 | (injection eo46 with f1_ f2_ f3_; have f4_ := f1_.symm; have f5_ := f3_.symm; clear f1_ f2_ f3_; subst f4_; subst f5_))
            refine hK.out _ _ ⟨(blk_cell BK120.out 0).trans rfl, (blk_cell BK120.out 1).trans rfl, (blk_cell BK120.out 2).trans rfl, (blk_cell BK101.out 0).trans rfl, (blk_cell BK101.out 1).trans rfl, (blk_cell BK101.out 2).trans rfl⟩ (fun hHeld => ?_)
            clear hK K
            refine norm_ (a' := ?_) ?_ ?_
            rotate_left
            · show Act.put _ (some 52) _ = _
              simp only [Act.put, List.setIfInBounds_toArray, List.set_cons_zero, List.set_cons_succ, i64_w, i32_w]
              rfl
            refine one_ (i := 3) (N := some 53) #[true, true, true, true, false] rfl rfl (by kernel_rfl) (by decide) (fun K hK => ?_)
            refine goes_ Try.func33 (by kernel_rfl) rfl #[.agg #[.int .i64 t115, .int .i64 t116, .slice Ao33 t117.length co33], .agg #[.int .i64 t127, .int .i64 t128, .slice Ao46 t129.length co46]] (by rfl) rfl rfl (by (try simp only [List.map_toArray, List.map_cons, List.map_nil]); first | done | rfl | (simp only [List.length_drop, List.length_take]; rfl)) ?_
            with_reducible refine (laws_eqChart.calls kj15 t115 t116 _ _ t117 t127 t128 _ _ t129 true _ ?side1 ?side2 ?side3 ?side4 A42.out).mono ?_
            (case side1 => repeat (first | exact (Kd.R_reads' HO_121002.out).2.2 | (with_reducible refine Kd.C_alloc ?_ _) | (with_reducible refine Kd.C_drewN ?_ _) | (with_reducible refine Kd.C_drew ?_)))
            (case side2 => exact (Kd.R_reads' HO_121002.out).2.1)
            (case side3 => repeat (first | exact (Kd.R_reads' HO131.out).2.2 | (with_reducible refine Kd.C_alloc ?_ _) | (with_reducible refine Kd.C_drewN ?_ _) | (with_reducible refine Kd.C_drew ?_)))
            (case side4 => exact (Kd.R_reads' HO131.out).2.1)
            rintro e w47 ⟨rfl, hb⟩
            refine ⟨_, rfl, ?_⟩
            have n0_ := Aside0.mk (Kd.R_below (by exact Ho.RS <| HO_121002.out) hb)
            have n1_ := Aside0.mk (Kd.R_below (by exact Ho.RS <| HO131.out) hb)
            have n2_ := Aside0.mk (blk_below (bS BK101.out) hb)
            have n3_ := Aside0.mk (blk_below (bS BK102.out) hb)
            have n4_ := Aside0.mk (blk_below (bS BK120.out) hb)
            have n5_ := Aside0.mk (below_step (by exact eS HB.out) hb)
            clear HO_121002
            clear HO131
            clear BK101
            clear BK102
            clear BK120
            clear HB
            have HO_121002 := n0_
            have HO131 := n1_
            have BK101 := n2_
            have BK102 := n3_
            have BK120 := n4_
            have HB := n5_
            clear n0_ n1_ n2_ n3_ n4_ n5_
            (try clear hb)
            (try clear hb2)
            (try clear hk)
            (try clear hi)
            refine hK.out _ _ ⟨(blk_cell BK120.out 0).trans rfl, (blk_cell BK120.out 1).trans rfl, (blk_cell BK120.out 2).trans rfl, (blk_cell BK101.out 0).trans rfl, (blk_cell BK101.out 1).trans rfl, (blk_cell BK101.out 2).trans rfl⟩ (fun hHeld => ?_)
            clear hK K
            refine norm_ (a' := ?_) ?_ ?_
            rotate_left
            · show Act.put _ (some 53) _ = _
              simp only [Act.put, List.setIfInBounds_toArray, List.set_cons_zero, List.set_cons_succ, i64_w, i32_w]
              rfl
            refine pure_ (i := 4) (N := some 54) (v := ?_) (a' := ?_) #[true, true, true, true, true] rfl rfl (by kernel_rfl) (fun _ _ _ h => h) (Or.inl ⟨by rfl, ?_⟩) ?_ ?_
            rotate_left
            · intro w'
              go_simp
              with_reducible rfl
            rotate_left
            · simp only [Act.put, List.setIfInBounds_toArray, List.set_cons_zero, List.set_cons_succ, i64_w, i32_w]
              rfl
            refine done_ (by kernel_rfl) ?_
            try go_wp2
            go_ret
            exact ⟨by first | rfl | (simp [errW_none, errW_some] <;> rfl) | (simp [*, errW_none, errW_some] <;> rfl), by exact eS HB.out⟩
          · replace c43 := Bool.eq_false_iff.mpr c43
            subst c43
            have H1 : (some false) = some r := by rw [if_neg (show ¬ (false = true) by decide)] at H; exact H
            clear H
            have H := H1
            clear H1
            exact absurd ((Option.some.inj H).trans HT.out) (by decide)

/-- THE ONE PURE STATEMENT of laws_FnExactAspectOf: yours. -/
def laws_FnExactAspectOf.Pure : Prop := ∀ (a0_0 : Int) (a0_1 : Int) (l0_2 : List Int) (a1_0 : Int) (a1_1 : Int) (a1_2 : Int), (Lit.int .i64 a0_0).wf = true → (Lit.int .i64 a0_1).wf = true → (l0_2.length ≤ 9223372036854775807 ∧ ∀ y_ ∈ l0_2, (Lit.int .i64 y_).wf = true) → (Lit.int .i64 a1_0).wf = true → (Lit.int .i64 a1_1).wf = true → (Lit.int .i64 a1_2).wf = true → ∃ k, laws_FnExactAspectOf.f k a0_0 a0_1 l0_2 a1_0 a1_1 a1_2 = some true

end Go.Proofs.Ytgohfbelppokcaa.X

-- Qbase
namespace Go.Proofs.Ytgohfbelppokcaa.Pure
open Go Go.RowKit Go.Proofs Go.Proofs.YtgohfbelppokcaaW.PrintWords Go.Proofs.YtgohfbelppokcaaW.PrintLast
set_option linter.unusedVariables false
set_option linter.unusedSimpArgs false

theorem w64 {x : Int} (h1 : -9223372036854775808 ≤ x) (h2 : x ≤ 9223372036854775807) : wrap64 x = x := by unfold wrap64; omega
theorem w64b {x : Int} (h : -9223372036854775808 ≤ x ∧ x ≤ 9223372036854775807) : wrap64 x = x := w64 h.1 h.2
theorem ite_sf (a b : Bool) : (if a = true then some b else some false) = some (a && b) := by cases a <;> rfl
theorem ite_sf2 (a b : Bool) : (if a = true then some false else some b) = some (!a && b) := by cases a <;> rfl
theorem wf_bd {x : Int} (h : (Lit.int .i64 x).wf = true) : -9223372036854775808 ≤ x ∧ x ≤ 9223372036854775807 := by
  have h1 := h
  simp [Lit.wf] at h1
  exact ⟨h1.1, h1.2⟩
/-- a product of two numbers within bounds -/
theorem mul_bd {a b A B : Int} (ha : 0 ≤ a) (hA : a ≤ A) (hb : 0 ≤ b) (hB : b ≤ B) : 0 ≤ a * b ∧ a * b ≤ A * B :=
  ⟨Int.mul_nonneg ha hb, Int.mul_le_mul hA hB hb (Int.le_trans ha hA)⟩
theorem drop_step {α : Type} {l : List α} {i : Nat} (h : i < l.length) (d : α) : l.drop i = l.getD i d :: l.drop (i + 1) := by
  rw [List.drop_eq_getElem_cons h]; congr 1; simp [List.getD_eq_getElem?_getD, List.getElem?_eq_getElem h]
theorem wstep {i : Nat} {n : Nat} (h : i < n) (hn : n ≤ 9223372036854775807) : wrap64 ((i : Int) + 1) = ((i + 1 : Nat) : Int) := by unfold wrap64; omega
theorem nat_of {i : Int} (h : 0 ≤ i) : ∃ n : Nat, i = n := ⟨i.toNat, by omega⟩
theorem succ_of {k d : Nat} (h : d < k) : ∃ m, k = m + 1 ∧ d ≤ m := ⟨k - 1, by omega, by omega⟩

end Go.Proofs.Ytgohfbelppokcaa.Pure

-- Qloops
namespace Go.Proofs.Ytgohfbelppokcaa.Pure
open Go Go.RowKit Go.Proofs Go.Proofs.YtgohfbelppokcaaW.PrintWords Go.Proofs.YtgohfbelppokcaaW.PrintLast
set_option linter.unusedVariables false
set_option linter.unusedSimpArgs false

/-- A loop that copies element by element into a new row. -/
theorem copy_loop {α β : Type} (L : Nat → List α → List β → Int → Option (List β)) (f : α → β) (d : α) (l : List α) (hb : l.length ≤ 9223372036854775806)
    (hs : ∀ k x3 (i : Nat), i < l.length → x3.length = l.length → L (k + 1) l x3 i = L k l (x3.set i (f (l.getD i d))) (wrap64 ((i : Int) + 1)))
    (he : ∀ k x3 (i : Nat), l.length ≤ i → L (k + 1) l x3 i = some x3) :
    ∀ n k (i : Nat) (x3 : List β), i + n = l.length → n < k → x3.length = l.length → x3.take i = (l.take i).map f → L k l x3 i = some (l.map f) := by
  intro n
  induction n with
  | zero =>
    intro k i x3 hi hk hl ht
    obtain ⟨k, rfl, _⟩ := succ_of hk
    rw [he k x3 i (by omega)]
    rw [List.take_of_length_le (by omega), List.take_of_length_le (by omega)] at ht
    rw [ht]
  | succ n ih =>
    intro k i x3 hi hk hl ht
    obtain ⟨k, rfl, hk⟩ := succ_of hk
    rw [hs k x3 i (by omega) hl, wstep (show i < l.length by omega) (by omega)]
    refine ih k (i + 1) _ (by omega) (by omega) (by rw [List.length_set]; exact hl) ?_
    rw [List.take_succ_eq_append_getElem (by rw [List.length_set]; omega), List.take_succ_eq_append_getElem (by omega), List.map_append, ← ht]
    congr 1
    · rw [List.take_set_of_le (Nat.le_refl _)]
    · simp [List.getD_eq_getElem?_getD, List.getElem?_eq_getElem (show i < l.length by omega)]
/-- A loop that compares a row with itself. -/
theorem refl_loop {α : Type} (L : Nat → List α → List α → Int → Option Bool) (l : List α) (hb : l.length ≤ 9223372036854775806)
    (hs : ∀ k (i : Nat), i < l.length → L (k + 1) l l i = L k l l (wrap64 ((i : Int) + 1))) (he : ∀ k (i : Nat), l.length ≤ i → L (k + 1) l l i = some true) :
    ∀ n k (i : Nat), i + n = l.length → n < k → L k l l i = some true := by
  intro n
  induction n with
  | zero =>
    intro k i hi hk
    obtain ⟨k, rfl, _⟩ := succ_of hk
    exact he k i (by omega)
  | succ n ih =>
    intro k i hi hk
    obtain ⟨k, rfl, hk⟩ := succ_of hk
    rw [hs k i (by omega), wstep (show i < l.length by omega) (by omega)]
    exact ih k (i + 1) (by omega) (by omega)
/-- A loop that asks of all elements, from i on. -/
theorem all_loop {α : Type} (L : Nat → Int → Option Bool) (q : α → Bool) (d : α) (l : List α) (e : Bool) (hb : l.length ≤ 9223372036854775806)
    (hs : ∀ k (i : Nat), i < l.length → L (k + 1) i = if q (l.getD i d) = true then L k (wrap64 ((i : Int) + 1)) else some false) (he : ∀ k (i : Nat), l.length ≤ i → L (k + 1) i = some e) :
    ∀ n k (i : Nat), i + n = l.length → n < k → L k i = some ((l.drop i).all q && e) := by
  intro n
  induction n with
  | zero =>
    intro k i hi hk
    obtain ⟨k, rfl, _⟩ := succ_of hk
    rw [he k i (by omega), List.drop_eq_nil_of_le (by omega)]; rfl
  | succ n ih =>
    intro k i hi hk
    obtain ⟨k, rfl, hk⟩ := succ_of hk
    rw [hs k i (by omega), wstep (show i < l.length by omega) (by omega), drop_step (by omega) d, List.all_cons, ih k (i + 1) (by omega) (by omega)]
    cases q (l.getD i d) <;> simp
/-- What marks leave: each element tells its own number. -/
def markM {α : Type} (g : Int → α) (c : Int) (n : Nat) (s : Int) : List α := (List.range n).map fun (j : Nat) => g (s + c * (j : Int))
theorem markM_length {α : Type} (g : Int → α) (c : Int) (n : Nat) (s : Int) : (markM g c n s).length = n := by simp [markM]
theorem markM_getD {α : Type} (g : Int → α) (c : Int) (n : Nat) (s : Int) (d : α) {i : Nat} (h : i < n) : (markM g c n s).getD i d = g (s + c * i) := by
  simp [markM, List.getD_eq_getElem?_getD, List.getElem?_map, List.getElem?_range h]
/-- A loop that marks. -/
theorem mark_loop {α : Type} (L : Nat → List α → Int → Int → Option (Int × List α)) (g : Int → α) (c : Int) (n0 : Nat) (s : Int) (hb : n0 ≤ 9223372036854775806) 
    (hs : ∀ k x (i : Nat), i < n0 → x.length = n0 → L (k + 1) x (s + c * i) i = L k (x.set i (g (s + c * i))) (s + c * ((i + 1 : Nat) : Int)) (wrap64 ((i : Int) + 1)))
    (he : ∀ k x m (i : Nat), n0 ≤ i → x.length = n0 → L (k + 1) x m i = some (m, x)) :
    ∀ n k (i : Nat) (x : List α), i + n = n0 → n < k → x.length = n0 → x.take i = (markM g c n0 s).take i → L k x (s + c * i) i = some (s + c * n0, markM g c n0 s) := by
  intro n
  induction n with
  | zero =>
    intro k i x hi hk hl ht
    obtain ⟨k, rfl, _⟩ := succ_of hk
    rw [he k x _ i (by omega) hl]
    rw [List.take_of_length_le (by omega), List.take_of_length_le (by rw [markM_length]; omega)] at ht
    rw [ht]; simp [show i = n0 by omega]
  | succ n ih =>
    intro k i x hi hk hl ht
    obtain ⟨k, rfl, hk⟩ := succ_of hk
    rw [hs k x i (by omega) hl, wstep (show i < n0 by omega) (by omega)]
    refine ih k (i + 1) _ (by omega) (by omega) (by rw [List.length_set]; exact hl) ?_
    rw [List.take_succ_eq_append_getElem (by rw [List.length_set]; omega), List.take_succ_eq_append_getElem (by rw [markM_length]; omega), ← ht]
    congr 1
    · rw [List.take_set_of_le (Nat.le_refl _)]
    · simp [markM]
/-- A loop that asks for the marks. -/
theorem held_loop {α : Type} (L : Nat → List α → Int → Int → Option Int) (g : Int → α) (c : Int) (n0 : Nat) (s : Int) (hb : n0 ≤ 9223372036854775806)
    (hs : ∀ k (i : Nat), i < n0 → L (k + 1) (markM g c n0 s) (s + c * i) i = L k (markM g c n0 s) (s + c * ((i + 1 : Nat) : Int)) (wrap64 ((i : Int) + 1)))
    (he : ∀ k m (i : Nat), n0 ≤ i → L (k + 1) (markM g c n0 s) m i = some m) :
    ∀ n k (i : Nat), i + n = n0 → n < k → L k (markM g c n0 s) (s + c * i) i = some (s + c * n0) := by
  intro n
  induction n with
  | zero =>
    intro k i hi hk
    obtain ⟨k, rfl, _⟩ := succ_of hk
    rw [he k _ i (by omega), show i = n0 by omega]
  | succ n ih =>
    intro k i hi hk
    obtain ⟨k, rfl, hk⟩ := succ_of hk
    rw [hs k i (by omega), wstep (show i < n0 by omega) (by omega)]
    exact ih k (i + 1) (by omega) (by omega)
theorem rd_nat (l : List Int) (i : Nat) : rd l (i : Int) = l.getD i 0 := by simp [rd]

end Go.Proofs.Ytgohfbelppokcaa.Pure

-- QeqInts
namespace Go.Proofs.Ytgohfbelppokcaa.Pure
open Go Go.RowKit Go.Proofs Go.Proofs.Ytgohfbelppokcaa.X Go.Proofs.YtgohfbelppokcaaW.PrintWords Go.Proofs.YtgohfbelppokcaaW.PrintLast
set_option linter.unusedVariables false
set_option linter.unusedSimpArgs false

theorem eqIntS_refl {k : Nat} {l : List Int} (hk : l.length < k) (hl : l.length ≤ 9223372036854775806) : laws_eqIntS.f k l l = some true := by
  unfold laws_eqIntS.f
  rw [if_pos rfl]
  exact refl_loop laws_eqIntS.l0 l hl
    (fun k i h => by simp only [laws_eqIntS.l0]; rw [if_pos (by omega), if_pos (by omega), if_pos (by omega)]; simp)
    (fun k i h => by simp only [laws_eqIntS.l0]; rw [if_neg (by omega)])
    l.length k 0 (by omega) hk

end Go.Proofs.Ytgohfbelppokcaa.Pure

-- Qinrange
namespace Go.Proofs.Ytgohfbelppokcaa.Pure
open Go Go.RowKit Go.Proofs Go.Proofs.Ytgohfbelppokcaa.X Go.Proofs.YtgohfbelppokcaaW.PrintWords Go.Proofs.YtgohfbelppokcaaW.PrintLast
set_option linter.unusedVariables false
set_option linter.unusedSimpArgs false

theorem in_eq (x a b : Int) : impl_in.f x a b = some (decide (a ≤ x ∧ x ≤ b)) := by
  unfold impl_in.f
  by_cases h1 : a ≤ x <;> simp [h1]

end Go.Proofs.Ytgohfbelppokcaa.Pure

-- Qspecin
namespace Go.Proofs.Ytgohfbelppokcaa.Pure
open Go Go.RowKit Go.Proofs Go.Proofs.Ytgohfbelppokcaa.X Go.Proofs.YtgohfbelppokcaaW.PrintWords Go.Proofs.YtgohfbelppokcaaW.PrintLast
set_option linter.unusedVariables false
set_option linter.unusedSimpArgs false

theorem l1In_eq (x a b : Int) : spec_l1In.f x a b = some (decide (a ≤ x ∧ x ≤ b)) := by
  unfold spec_l1In.f
  by_cases h1 : a ≤ x <;> simp [h1]

end Go.Proofs.Ytgohfbelppokcaa.Pure

-- QtoInts
namespace Go.Proofs.Ytgohfbelppokcaa.Pure
open Go Go.RowKit Go.Proofs Go.Proofs.Ytgohfbelppokcaa.X Go.Proofs.YtgohfbelppokcaaW.PrintWords Go.Proofs.YtgohfbelppokcaaW.PrintLast
set_option linter.unusedVariables false
set_option linter.unusedSimpArgs false

theorem toIntS_eq {k : Nat} {l : List Int} (hk : l.length < k) (hl : l.length ≤ 1048576) : laws_toIntS.f k l = some l := by
  unfold laws_toIntS.f
  rw [if_pos (by omega), if_pos (by simp; omega)]
  have h := copy_loop laws_toIntS.l0 (fun x => x) 0 l (by omega)
    (fun k x3 i h1 h2 => by
      simp only [laws_toIntS.l0]
      rw [if_pos (by omega), if_pos (by omega), if_pos (by omega), rd_nat]; simp)
    (fun k x3 i h1 => by simp only [laws_toIntS.l0]; rw [if_neg (by omega)])
    l.length k 0 (List.replicate l.length 0) (by omega) hk (by simp) (by simp)
  simpa using h

end Go.Proofs.Ytgohfbelppokcaa.Pure

-- Qchart
namespace Go.Proofs.Ytgohfbelppokcaa.Pure
open Go Go.RowKit Go.Proofs Go.Proofs.Ytgohfbelppokcaa.X Go.Proofs.YtgohfbelppokcaaW.PrintWords Go.Proofs.YtgohfbelppokcaaW.PrintLast
set_option linter.unusedVariables false
set_option linter.unusedSimpArgs false

def colorB (x : Int) : Bool := decide (0 ≤ x ∧ x ≤ 5)
def sideB (x : Int) : Bool := decide (1 ≤ x ∧ x ≤ 8)
def chartB (w h : Int) (l : List Int) : Bool := sideB w && (sideB h && (decide ((l.length : Int) = w * h) && l.all colorB))
theorem side_of {x : Int} (h : sideB x = true) : 1 ≤ x ∧ x ≤ 8 := by simpa [sideB] using h
theorem side_w {w h : Int} (hw : sideB w = true) (hh : sideB h = true) : 0 ≤ w * h ∧ w * h ≤ 64 := by
  have := side_of hw; have := side_of hh
  exact mul_bd (A := 8) (B := 8) (by omega) (by omega) (by omega) (by omega)
theorem chart_of {w h : Int} {l : List Int} (hc : chartB w h l = true) : (1 ≤ w ∧ w ≤ 8) ∧ (1 ≤ h ∧ h ≤ 8) ∧ (l.length : Int) = w * h ∧ l.length ≤ 64 ∧ ∀ x ∈ l, 0 ≤ x ∧ x ≤ 5 := by
  simp only [chartB, Bool.and_eq_true, decide_eq_true_eq, List.all_eq_true] at hc
  obtain ⟨h1, h2, h3, h4⟩ := hc
  have := side_w h1 h2
  exact ⟨side_of h1, side_of h2, h3, by omega, fun x hx => by simpa [colorB] using h4 x hx⟩
theorem szIntS_eq {l : List Int} {a : Int} (hl : l.length ≤ 9223372036854775807) (ha : 0 ≤ a ∧ a ≤ 9223372036854775807) : laws_szIntS.f l a = some (if a < l.length then -1 else a - l.length) := by
  unfold laws_szIntS.f
  rw [w64 (by omega) (by omega)]
  by_cases h : a < l.length
  · rw [if_pos (by omega), if_pos h]
  · rw [if_neg (by omega), if_neg h]
theorem szChart_eq {w h a : Int} {l : List Int} (hl : l.length ≤ 9223372036854775807) (ha : 0 ≤ a ∧ a ≤ 9223372036854775807) : laws_szChart.f w h l a = some (if a < l.length then -1 else a - l.length) := by
  unfold laws_szChart.f
  rw [szIntS_eq hl ha]
  by_cases h : a < l.length
  · simp [h]
  · simp only [if_neg h, Option.bind_some]; rw [if_neg (by omega)]
theorem toChart_eq {k : Nat} {w h : Int} {l : List Int} (hk : l.length < k) (hl : l.length ≤ 1048576) : laws_toChart.f k w h l = some (w, h, l) := by
  simp only [laws_toChart.f, toIntS_eq hk hl, Option.bind_some]
theorem eqChart_refl {k : Nat} {w h : Int} {l : List Int} (hk : l.length < k) (hl : l.length ≤ 1048576) : laws_eqChart.f k w h l w h l = some true := by
  simp only [laws_eqChart.f, eqIntS_refl hk (by omega), Option.bind_some, if_true]
theorem isColor_eq (x : Int) : impl_isColor.f x = some (colorB x) := by simp only [impl_isColor.f, in_eq, Option.bind_some, colorB]
theorem isSide_eq (x : Int) : impl_isSide.f x = some (sideB x) := by simp only [impl_isSide.f, in_eq, Option.bind_some, sideB]
theorem l2Color_eq (x : Int) : spec_l2Color.f x = some (colorB x) := by simp only [spec_l2Color.f, l1In_eq, Option.bind_some, colorB]
theorem l2Side_eq (x : Int) : spec_l2Side.f x = some (sideB x) := by simp only [spec_l2Side.f, l1In_eq, Option.bind_some, sideB]
theorem IsChart_eq (w h : Int) (l : List Int) : impl_IsChart.f w h l = some (chartB w h l) := by
  simp only [impl_IsChart.f, isSide_eq, impl_areAll_int__impl_isColor.f, Ho.allO_eq (q := colorB) (fun x _ => isColor_eq x), Option.bind_some, chartB]
  cases hw : sideB w
  · simp
  · cases hh : sideB h
    · simp
    · have := side_w hw hh
      rw [w64 (by omega) (by omega)]
      by_cases he : (l.length : Int) = w * h <;> simp [he]
theorem l2Good_eq {k : Nat} {w h : Int} {l : List Int} (hk : l.length < k) (hl : l.length ≤ 1048576) : spec_l2Good.f k w h l = some (chartB w h l) := by
  unfold spec_l2Good.f
  have hx := all_loop (fun k i => spec_l2Good.l0 k i w h l) colorB 0 l (sideB w && (sideB h && decide ((l.length : Int) = w * h))) (by omega)
    (fun k i h1 => by
      simp only [spec_l2Good.l0]
      rw [if_pos (by omega), if_pos (by omega), rd_nat, l2Color_eq]
      simp only [Option.bind_some])
    (fun k i h1 => by
      simp only [spec_l2Good.l0]
      rw [if_neg (by omega)]
      simp only [l2Side_eq, Option.bind_some]
      cases hw : sideB w
      · simp
      · cases hh : sideB h
        · simp
        · have := side_w hw hh
          rw [w64 (by omega) (by omega)]
          simp [BEq.beq, instBEqOfDecidableEq])
    l.length k 0 (by omega) hk
  refine hx.trans ?_
  simp only [List.drop_zero, chartB]
  cases sideB w <;> cases sideB h <;> cases l.all colorB <;> simp

end Go.Proofs.Ytgohfbelppokcaa.Pure

-- XimplisLengthF50
namespace Go.Proofs.Ytgohfbelppokcaa.X
open Ho (bS eS)
open Go.RowKit Go.Proofs.YtgohfbelppokcaaW.PrintWords Go.Proofs.YtgohfbelppokcaaW.PrintLast Go.Proofs.YtgohfbelppokcaaW.PrintMore
attribute [local go_sem] max2_int min2_int max_two min_two max_three min_three max_four min_four   -- for this text's walks alone
set_option linter.unusedVariables false
set_option linter.unusedSimpArgs false

/-! ### impl_isLength: function 50 -/
def impl_isLength.f (a0 : Int) : Option (Bool) := (impl_in.f a0 1 20000).bind fun t101 => (some t101)
set_option maxHeartbeats 8000000 in
set_option maxRecDepth 100000 in
theorem impl_isLength.calls (a0 : Int) (r : Bool) (w : World) (h : impl_isLength.f a0 = some r) :
    Calls Try.prog 50 #[.int .i64 a0] w fun e w' => e = .returned (.bool r) ∧ Drawn0 w w' := by
  have H : ((impl_in.f a0 1 20000).bind fun t101 => (some t101)) = some r := h
  clear h
  replace H := Option.bind_eq_some_iff.mp H
  obtain ⟨t101, A20, H⟩ := H
  replace H : (some t101) = some r := H
  have A2 := Aside0.mk A20
  clear A20
  obtain rfl := Option.some.inj H
  go_enter Try.func50, Try.ntmps50
  go_wp2_with (first | ((with_reducible refine gate_callee (f := 48) rfl ?_); refine goesL_ (some 4) rfl rfl Try.func48 (by kernel_rfl) rfl #[.int .i64 a0, .int .i64 1, .int .i64 20000] rfl (by (try simp only [List.map_toArray, List.map_cons, List.map_nil]); first | done | rfl | (simp only [List.length_drop, List.length_take]; rfl)) ?_; (with_reducible refine (impl_in.calls a0 1 20000 t101 _ A2.out).mono ?_); rintro e w' ⟨rfl, ⟨nd, rfl⟩⟩; refine ⟨_, rfl, ?_⟩))
  go_ret
  exact ⟨by first | rfl | (simp; done) | (simp [*]; done), by repeat (first | exact Drawn0.refl _ | apply Drawn0.step)⟩

end Go.Proofs.Ytgohfbelppokcaa.X

-- XimplareAllintimplisLengthF100000
namespace Go.Proofs.Ytgohfbelppokcaa.X
open Ho (bS eS)
open Go.RowKit Go.Proofs.YtgohfbelppokcaaW.PrintWords Go.Proofs.YtgohfbelppokcaaW.PrintLast Go.Proofs.YtgohfbelppokcaaW.PrintMore
attribute [local go_sem] max2_int min2_int max_two min_two max_three min_three max_four min_four   -- for this text's walks alone
set_option linter.unusedVariables false
set_option linter.unusedSimpArgs false

/-! ### impl_areAll_int__impl_isLength: function 100000 -/
def impl_areAll_int__impl_isLength.f (l0 : List Int)  : Option Bool := Ho.allO (fun x_ => impl_isLength.f x_) l0
theorem impl_areAll_int__impl_isLength.calls (A0 : Option Addr) (c0 : Nat) (l0 : List Int)  (r : Bool) (w : World) (hr0 : Kd.C (Kd.int .i64) w A0 l0.length l0) (hc0 : l0.length ≤ c0) (h : impl_areAll_int__impl_isLength.f l0 = some r) :
    Calls Try.prog 52 #[.slice A0 l0.length c0, .func (.func 50) #[] #[]] w fun e w' => e = .returned (.bool r) ∧ Below w.heap.size w w' := by
  have ec : ∀ args w, (callFunc 50 args).run Try.prog w = .ok (.enter 50 args) w := fun args w => by kernel_rfl
  have hp : Ho.PredO Try.prog 50 #[] (Value.int .i64) (fun x_ => impl_isLength.f x_) w := ⟨fun W x_ b_ hB_ hx_ => (impl_isLength.calls x_ b_ W  hx_).mono fun _ _ h_ => ⟨h_.1, h_.2.below⟩⟩
  exact ho_all52 _ 50 _ ec w hp _ _ _ _ hr0 hc0 h

end Go.Proofs.Ytgohfbelppokcaa.X

-- XimplIsMeasureF24
namespace Go.Proofs.Ytgohfbelppokcaa.X
open Ho (bS eS)
open Go.RowKit Go.Proofs.YtgohfbelppokcaaW.PrintWords Go.Proofs.YtgohfbelppokcaaW.PrintLast Go.Proofs.YtgohfbelppokcaaW.PrintMore
attribute [local go_sem] max2_int min2_int max_two min_two max_three min_three max_four min_four   -- for this text's walks alone
set_option linter.unusedVariables false
set_option linter.unusedSimpArgs false

/-! ### impl_IsMeasure: function 24 -/
def impl_IsMeasure.f (a0_0 : Int) (a0_1 : Int) (a0_2 : Int) (a0_3 : Int) : Option (Bool) := (impl_areAll_int__impl_isLength.f (([a0_0, a0_1, a0_2, a0_3] : List Int))).bind fun t105 => (some t105)
set_option maxHeartbeats 8000000 in
set_option maxRecDepth 100000 in
theorem impl_IsMeasure.calls (a0_0 : Int) (a0_1 : Int) (a0_2 : Int) (a0_3 : Int) (r : Bool) (w : World) (h : impl_IsMeasure.f a0_0 a0_1 a0_2 a0_3 = some r) :
    Calls Try.prog 24 #[.agg #[.int .i64 a0_0, .int .i64 a0_1, .int .i64 a0_2, .int .i64 a0_3]] w fun e w' => e = .returned (.bool r) ∧ Below w.heap.size w w' := by
  have hu36 := Try.underlying36
  have HB := Aside0.mk (Below.refl w.heap.size w)
  have H : ((impl_areAll_int__impl_isLength.f (([a0_0, a0_1, a0_2, a0_3] : List Int))).bind fun t105 => (some t105)) = some r := h
  clear h
  obtain ⟨y102, hy102⟩ : ∃ y_ : List Int, y_ = (([a0_0, a0_1, a0_2, a0_3] : List Int)) := ⟨_, rfl⟩
  replace H : ((impl_areAll_int__impl_isLength.f y102).bind fun t105 => (some t105)) = some r := by first | (rw [hy102]; with_reducible exact H) | (have H2_ := (Option.bind_some _ _).symm.trans H; rw [hy102]; with_reducible exact H2_) | (have H2_ := (Option.bind_some _ _).symm.trans H; with_reducible exact H2_) | with_reducible exact H | (rw [hy102]; exact H) | exact H
  have Ny102 := Aside0.mk hy102
  clear hy102
  replace H := Option.bind_eq_some_iff.mp H
  obtain ⟨t105, A20, H⟩ := H
  replace H : (some t105) = some r := H
  have A2 := Aside0.mk A20
  clear A20
  obtain rfl := Option.some.inj H
  go_enter Try.func24, Try.ntmps24
  go_wp2_with (first | ((with_reducible refine gate_dst (N := 1) rfl ?_); refine box_event ?hg (N := 1) ?hd (cs := #[.int .i64 a0_0, .int .i64 a0_1, .int .i64 a0_2, .int .i64 a0_3]) (t := 36) ?hr ?_; (case hd => rfl); (case hg => rfl); (case hr => first | (go_simp; done) | (go_simp; rfl)); intro gb101 hg w3 hbox hb; have n0_ := Aside0.mk (below_step (by exact eS HB.out) hb); have n1_ := Aside0.mk (hbox); have n2_ := Aside0.mk ((by rw [hg]; exact (below_size (by exact eS HB.out)) : w.heap.size ≤ gb101)); have n3_ := Aside0.mk ((by rw [hg]; exact (below_size (by exact eS HB.out)) : w.heap.size ≤ gb101)); clear HB; have HB := n0_; have BK101 := n1_; have GW101 := n2_; have GE101 := n3_; clear n0_ n1_ n2_ n3_; clear hb hbox hg; have hcz4_0 : w3.cell? ⟨gb101, 0, none⟩ = some (.int .i64 a0_0) := (blk_cell BK101.out 0).trans rfl; have hcz4_1 : w3.cell? ⟨gb101, 1, none⟩ = some (.int .i64 a0_1) := (blk_cell BK101.out 1).trans rfl; have hcz4_2 : w3.cell? ⟨gb101, 2, none⟩ = some (.int .i64 a0_2) := (blk_cell BK101.out 2).trans rfl; have hcz4_3 : w3.cell? ⟨gb101, 3, none⟩ = some (.int .i64 a0_3) := (blk_cell BK101.out 3).trans rfl; have hfz4_0 := blk_frozen BK101.out 0; have hfz4_1 := blk_frozen BK101.out 1; have hfz4_2 := blk_frozen BK101.out 2; have hfz4_3 := blk_frozen BK101.out 3) | ((with_reducible refine gate_dst (N := 11) rfl ?_); refine Kd.R_lit (Kd.int .i64) _ 3 ?hg (N := 11) ?hd (xs := ([a0_0, a0_1, a0_2, a0_3] : List Int)) (inner := [.int .i64 a0_0, .int .i64 a0_1, .int .i64 a0_2, .int .i64 a0_3]) (ok := fun _ => True) (okp := fun _ => True) ?hr ?hp (fun _ hk => hk) trivial (Below.refl _ _) (Nat.le_refl _) (by simp) ?_; (case hd => rfl); (case hg => rfl); (case hr => first | (go_simp; done) | (go_simp; rfl)); (case hp => exact (Reps.one (show Kd.M (Kd.int .i64) _ _ _ a0_0 [.int .i64 a0_0] from rfl) (Reps.one (show Kd.M (Kd.int .i64) _ _ _ a0_1 [.int .i64 a0_1] from rfl) (Reps.one (show Kd.M (Kd.int .i64) _ _ _ a0_2 [.int .i64 a0_2] from rfl) (Reps.one (show Kd.M (Kd.int .i64) _ _ _ a0_3 [.int .i64 a0_3] from rfl) (Reps.none _ _)))))); intro v103 w5 ho6 hb hg_ hnew_; clear hg_ hnew_; (first | rw [← Ny102.out] at ho6 | (simp only [Int.reduceToNat] at ho6; rw [← Ny102.out] at ho6)); have n0_ := Aside0.mk (Kd.R_lower ho6 (below_size (by exact eS HB.out))); have n1_ := Aside0.mk (blk_below (bS BK101.out) hb); have n2_ := Aside0.mk (below_step (by exact eS HB.out) hb); clear BK101; clear HB; have HO104 := n0_; have BK101 := n1_; have HB := n2_; clear n0_ n1_ n2_; clear hb ho6; obtain ⟨Ao7, co7, eo7⟩ := Kd.R_slice HO104.out; subst eo7) | ((with_reducible refine gate_callee (f := 52) rfl ?_); refine goesL_ (some 12) rfl rfl Try.func52 (by kernel_rfl) rfl #[.slice Ao7 y102.length co7, .func (.func 50) #[] #[]] rfl (by (try simp only [List.map_toArray, List.map_cons, List.map_nil]); first | done | rfl | (simp only [List.length_drop, List.length_take]; rfl)) ?_; (with_reducible refine (impl_areAll_int__impl_isLength.calls _ _ y102  t105 _ ?side1 ?side2 A2.out).mono ?_); (case side1 => repeat (first | exact (Kd.R_reads' HO104.out).2.2 | (with_reducible refine Kd.C_alloc ?_ _) | (with_reducible refine Kd.C_drewN ?_ _) | (with_reducible refine Kd.C_drew ?_))); (case side2 => exact (Kd.R_reads' HO104.out).2.1); rintro e w8 ⟨rfl, hb⟩; refine ⟨_, rfl, ?_⟩; have n0_ := Aside0.mk (Kd.R_below (by exact Ho.RS <| HO104.out) hb); have n1_ := Aside0.mk (blk_below (bS BK101.out) hb); have n2_ := Aside0.mk (below_step (by exact eS HB.out) hb); clear HO104; clear BK101; clear HB; have HO104 := n0_; have BK101 := n1_; have HB := n2_; clear n0_ n1_ n2_; (try clear hb); (try clear hb2); (try clear hk); (try clear hi)))
  go_ret
  exact ⟨by first | rfl | (simp [errW_none, errW_some] <;> rfl) | (simp [*, errW_none, errW_some] <;> rfl), by exact eS HB.out⟩

end Go.Proofs.Ytgohfbelppokcaa.X

-- Xspecl15LengthF49
namespace Go.Proofs.Ytgohfbelppokcaa.X
open Ho (bS eS)
open Go.RowKit Go.Proofs.YtgohfbelppokcaaW.PrintWords Go.Proofs.YtgohfbelppokcaaW.PrintLast Go.Proofs.YtgohfbelppokcaaW.PrintMore
attribute [local go_sem] max2_int min2_int max_two min_two max_three min_three max_four min_four   -- for this text's walks alone
set_option linter.unusedVariables false
set_option linter.unusedSimpArgs false

/-! ### spec_l15Length: function 49 -/
def spec_l15Length.f (a0 : Int) : Option (Bool) := (spec_l1In.f a0 1 20000).bind fun t101 => (some t101)
set_option maxHeartbeats 8000000 in
set_option maxRecDepth 100000 in
theorem spec_l15Length.calls (a0 : Int) (r : Bool) (w : World) (h : spec_l15Length.f a0 = some r) :
    Calls Try.prog 49 #[.int .i64 a0] w fun e w' => e = .returned (.bool r) ∧ Drawn0 w w' := by
  have H : ((spec_l1In.f a0 1 20000).bind fun t101 => (some t101)) = some r := h
  clear h
  replace H := Option.bind_eq_some_iff.mp H
  obtain ⟨t101, A20, H⟩ := H
  replace H : (some t101) = some r := H
  have A2 := Aside0.mk A20
  clear A20
  obtain rfl := Option.some.inj H
  go_enter Try.func49, Try.ntmps49
  go_wp2_with (first | ((with_reducible refine gate_callee (f := 65) rfl ?_); refine goesL_ (some 4) rfl rfl Try.func65 (by kernel_rfl) rfl #[.int .i64 a0, .int .i64 1, .int .i64 20000] rfl (by (try simp only [List.map_toArray, List.map_cons, List.map_nil]); first | done | rfl | (simp only [List.length_drop, List.length_take]; rfl)) ?_; (with_reducible refine (spec_l1In.calls a0 1 20000 t101 _ A2.out).mono ?_); rintro e w' ⟨rfl, ⟨nd, rfl⟩⟩; refine ⟨_, rfl, ?_⟩))
  go_ret
  exact ⟨by first | rfl | (simp; done) | (simp [*]; done), by repeat (first | exact Drawn0.refl _ | apply Drawn0.step)⟩

end Go.Proofs.Ytgohfbelppokcaa.X

-- Xspecl15MeasureF51
namespace Go.Proofs.Ytgohfbelppokcaa.X
open Ho (bS eS)
open Go.RowKit Go.Proofs.YtgohfbelppokcaaW.PrintWords Go.Proofs.YtgohfbelppokcaaW.PrintLast Go.Proofs.YtgohfbelppokcaaW.PrintMore
attribute [local go_sem] max2_int min2_int max_two min_two max_three min_three max_four min_four   -- for this text's walks alone
set_option linter.unusedVariables false
set_option linter.unusedSimpArgs false

/-! ### spec_l15Measure: function 51 -/
def spec_l15Measure.f (a0_0 : Int) (a0_1 : Int) (a0_2 : Int) (a0_3 : Int) : Option (Bool) := (spec_l15Length.f a0_0).bind fun t102 => (if t102 = true then ((spec_l15Length.f a0_1).bind fun t103 => (if t103 = true then ((spec_l15Length.f a0_2).bind fun t104 => (if t104 = true then ((spec_l15Length.f a0_3).bind fun t105 => (some t105)) else (some false))) else (some false))) else (some false))
set_option maxHeartbeats 8000000 in
set_option maxRecDepth 100000 in
theorem spec_l15Measure.calls (a0_0 : Int) (a0_1 : Int) (a0_2 : Int) (a0_3 : Int) (r : Bool) (w : World) (h : spec_l15Measure.f a0_0 a0_1 a0_2 a0_3 = some r) :
    Calls Try.prog 51 #[.agg #[.int .i64 a0_0, .int .i64 a0_1, .int .i64 a0_2, .int .i64 a0_3]] w fun e w' => e = .returned (.bool r) ∧ Below w.heap.size w w' := by
  have hu36 := Try.underlying36
  have HB := Aside0.mk (Below.refl w.heap.size w)
  have H : ((spec_l15Length.f a0_0).bind fun t102 => (if t102 = true then ((spec_l15Length.f a0_1).bind fun t103 => (if t103 = true then ((spec_l15Length.f a0_2).bind fun t104 => (if t104 = true then ((spec_l15Length.f a0_3).bind fun t105 => (some t105)) else (some false))) else (some false))) else (some false))) = some r := h
  clear h
  replace H := Option.bind_eq_some_iff.mp H
  obtain ⟨t102, A20, H⟩ := H
  replace H : (if t102 = true then ((spec_l15Length.f a0_1).bind fun t103 => (if t103 = true then ((spec_l15Length.f a0_2).bind fun t104 => (if t104 = true then ((spec_l15Length.f a0_3).bind fun t105 => (some t105)) else (some false))) else (some false))) else (some false)) = some r := H
  have A2 := Aside0.mk A20
  clear A20
  by_cases c3 : t102 = true
  · subst c3
    have H1 : ((spec_l15Length.f a0_1).bind fun t103 => (if t103 = true then ((spec_l15Length.f a0_2).bind fun t104 => (if t104 = true then ((spec_l15Length.f a0_3).bind fun t105 => (some t105)) else (some false))) else (some false))) = some r := by rw [if_pos rfl] at H; exact H
    clear H
    have H := H1
    clear H1
    replace H := Option.bind_eq_some_iff.mp H
    obtain ⟨t103, A40, H⟩ := H
    replace H : (if t103 = true then ((spec_l15Length.f a0_2).bind fun t104 => (if t104 = true then ((spec_l15Length.f a0_3).bind fun t105 => (some t105)) else (some false))) else (some false)) = some r := H
    have A4 := Aside0.mk A40
    clear A40
    by_cases c5 : t103 = true
    · subst c5
      have H1 : ((spec_l15Length.f a0_2).bind fun t104 => (if t104 = true then ((spec_l15Length.f a0_3).bind fun t105 => (some t105)) else (some false))) = some r := by rw [if_pos rfl] at H; exact H
      clear H
      have H := H1
      clear H1
      replace H := Option.bind_eq_some_iff.mp H
      obtain ⟨t104, A60, H⟩ := H
      replace H : (if t104 = true then ((spec_l15Length.f a0_3).bind fun t105 => (some t105)) else (some false)) = some r := H
      have A6 := Aside0.mk A60
      clear A60
      by_cases c7 : t104 = true
      · subst c7
        have H1 : ((spec_l15Length.f a0_3).bind fun t105 => (some t105)) = some r := by rw [if_pos rfl] at H; exact H
        clear H
        have H := H1
        clear H1
        replace H := Option.bind_eq_some_iff.mp H
        obtain ⟨t105, A80, H⟩ := H
        replace H : (some t105) = some r := H
        have A8 := Aside0.mk A80
        clear A80
        obtain rfl := Option.some.inj H
        go_enter Try.func51, Try.ntmps51
        go_wp2_with (first | ((with_reducible refine gate_dst (N := 1) rfl ?_); refine box_event ?hg (N := 1) ?hd (cs := #[.int .i64 a0_0, .int .i64 a0_1, .int .i64 a0_2, .int .i64 a0_3]) (t := 36) ?hr ?_; (case hd => rfl); (case hg => rfl); (case hr => first | (go_simp; done) | (go_simp; rfl)); intro gb101 hg w9 hbox hb; have n0_ := Aside0.mk (below_step (by exact eS HB.out) hb); have n1_ := Aside0.mk (hbox); have n2_ := Aside0.mk ((by rw [hg]; exact (below_size (by exact eS HB.out)) : w.heap.size ≤ gb101)); have n3_ := Aside0.mk ((by rw [hg]; exact (below_size (by exact eS HB.out)) : w.heap.size ≤ gb101)); clear HB; have HB := n0_; have BK101 := n1_; have GW101 := n2_; have GE101 := n3_; clear n0_ n1_ n2_ n3_; clear hb hbox hg; have hcz10_0 : w9.cell? ⟨gb101, 0, none⟩ = some (.int .i64 a0_0) := (blk_cell BK101.out 0).trans rfl; have hcz10_1 : w9.cell? ⟨gb101, 1, none⟩ = some (.int .i64 a0_1) := (blk_cell BK101.out 1).trans rfl; have hcz10_2 : w9.cell? ⟨gb101, 2, none⟩ = some (.int .i64 a0_2) := (blk_cell BK101.out 2).trans rfl; have hcz10_3 : w9.cell? ⟨gb101, 3, none⟩ = some (.int .i64 a0_3) := (blk_cell BK101.out 3).trans rfl; have hfz10_0 := blk_frozen BK101.out 0; have hfz10_1 := blk_frozen BK101.out 1; have hfz10_2 := blk_frozen BK101.out 2; have hfz10_3 := blk_frozen BK101.out 3) | ((with_reducible refine gate_callee (f := 49) rfl ?_); refine goesL_ (some 5) rfl rfl Try.func49 (by kernel_rfl) rfl #[.int .i64 a0_0] rfl (by (try simp only [List.map_toArray, List.map_cons, List.map_nil]); first | done | rfl | (simp only [List.length_drop, List.length_take]; rfl)) ?_; (with_reducible refine (spec_l15Length.calls a0_0 true _ A2.out).mono ?_); rintro e w' ⟨rfl, ⟨nd, rfl⟩⟩; refine ⟨_, rfl, ?_⟩) | (go_at_call 49; (with_reducible refine (spec_l15Length.calls a0_1 true _ A4.out).mono ?_); rintro e w' ⟨rfl, ⟨nd, rfl⟩⟩) | (go_at_call 49; (with_reducible refine (spec_l15Length.calls a0_2 true _ A6.out).mono ?_); rintro e w' ⟨rfl, ⟨nd, rfl⟩⟩) | (go_at_call 49; (with_reducible refine (spec_l15Length.calls a0_3 t105 _ A8.out).mono ?_); rintro e w' ⟨rfl, ⟨nd, rfl⟩⟩))
        go_ret
        exact ⟨by first | rfl | (simp [errW_none, errW_some] <;> rfl) | (simp [*, errW_none, errW_some] <;> rfl), by exact eS HB.out⟩
      · replace c7 := Bool.eq_false_iff.mpr c7
        subst c7
        have H1 : (some false) = some r := by rw [if_neg (show ¬ (false = true) by decide)] at H; exact H
        clear H
        have H := H1
        clear H1
        obtain rfl := Option.some.inj H
        go_enter Try.func51, Try.ntmps51
        go_wp2_with (first | ((with_reducible refine gate_dst (N := 1) rfl ?_); refine box_event ?hg (N := 1) ?hd (cs := #[.int .i64 a0_0, .int .i64 a0_1, .int .i64 a0_2, .int .i64 a0_3]) (t := 36) ?hr ?_; (case hd => rfl); (case hg => rfl); (case hr => first | (go_simp; done) | (go_simp; rfl)); intro gb101 hg w11 hbox hb; have n0_ := Aside0.mk (below_step (by exact eS HB.out) hb); have n1_ := Aside0.mk (hbox); have n2_ := Aside0.mk ((by rw [hg]; exact (below_size (by exact eS HB.out)) : w.heap.size ≤ gb101)); have n3_ := Aside0.mk ((by rw [hg]; exact (below_size (by exact eS HB.out)) : w.heap.size ≤ gb101)); clear HB; have HB := n0_; have BK101 := n1_; have GW101 := n2_; have GE101 := n3_; clear n0_ n1_ n2_ n3_; clear hb hbox hg; have hcz12_0 : w11.cell? ⟨gb101, 0, none⟩ = some (.int .i64 a0_0) := (blk_cell BK101.out 0).trans rfl; have hcz12_1 : w11.cell? ⟨gb101, 1, none⟩ = some (.int .i64 a0_1) := (blk_cell BK101.out 1).trans rfl; have hcz12_2 : w11.cell? ⟨gb101, 2, none⟩ = some (.int .i64 a0_2) := (blk_cell BK101.out 2).trans rfl; have hcz12_3 : w11.cell? ⟨gb101, 3, none⟩ = some (.int .i64 a0_3) := (blk_cell BK101.out 3).trans rfl; have hfz12_0 := blk_frozen BK101.out 0; have hfz12_1 := blk_frozen BK101.out 1; have hfz12_2 := blk_frozen BK101.out 2; have hfz12_3 := blk_frozen BK101.out 3) | ((with_reducible refine gate_callee (f := 49) rfl ?_); refine goesL_ (some 5) rfl rfl Try.func49 (by kernel_rfl) rfl #[.int .i64 a0_0] rfl (by (try simp only [List.map_toArray, List.map_cons, List.map_nil]); first | done | rfl | (simp only [List.length_drop, List.length_take]; rfl)) ?_; (with_reducible refine (spec_l15Length.calls a0_0 true _ A2.out).mono ?_); rintro e w' ⟨rfl, ⟨nd, rfl⟩⟩; refine ⟨_, rfl, ?_⟩) | (go_at_call 49; (with_reducible refine (spec_l15Length.calls a0_1 true _ A4.out).mono ?_); rintro e w' ⟨rfl, ⟨nd, rfl⟩⟩) | (go_at_call 49; (with_reducible refine (spec_l15Length.calls a0_2 false _ A6.out).mono ?_); rintro e w' ⟨rfl, ⟨nd, rfl⟩⟩))
        go_ret
        exact ⟨by first | rfl | (simp [errW_none, errW_some] <;> rfl) | (simp [*, errW_none, errW_some] <;> rfl), by exact eS HB.out⟩
    · replace c5 := Bool.eq_false_iff.mpr c5
      subst c5
      have H1 : (some false) = some r := by rw [if_neg (show ¬ (false = true) by decide)] at H; exact H
      clear H
      have H := H1
      clear H1
      obtain rfl := Option.some.inj H
      go_enter Try.func51, Try.ntmps51
      go_wp2_with (first | ((with_reducible refine gate_dst (N := 1) rfl ?_); refine box_event ?hg (N := 1) ?hd (cs := #[.int .i64 a0_0, .int .i64 a0_1, .int .i64 a0_2, .int .i64 a0_3]) (t := 36) ?hr ?_; (case hd => rfl); (case hg => rfl); (case hr => first | (go_simp; done) | (go_simp; rfl)); intro gb101 hg w13 hbox hb; have n0_ := Aside0.mk (below_step (by exact eS HB.out) hb); have n1_ := Aside0.mk (hbox); have n2_ := Aside0.mk ((by rw [hg]; exact (below_size (by exact eS HB.out)) : w.heap.size ≤ gb101)); have n3_ := Aside0.mk ((by rw [hg]; exact (below_size (by exact eS HB.out)) : w.heap.size ≤ gb101)); clear HB; have HB := n0_; have BK101 := n1_; have GW101 := n2_; have GE101 := n3_; clear n0_ n1_ n2_ n3_; clear hb hbox hg; have hcz14_0 : w13.cell? ⟨gb101, 0, none⟩ = some (.int .i64 a0_0) := (blk_cell BK101.out 0).trans rfl; have hcz14_1 : w13.cell? ⟨gb101, 1, none⟩ = some (.int .i64 a0_1) := (blk_cell BK101.out 1).trans rfl; have hcz14_2 : w13.cell? ⟨gb101, 2, none⟩ = some (.int .i64 a0_2) := (blk_cell BK101.out 2).trans rfl; have hcz14_3 : w13.cell? ⟨gb101, 3, none⟩ = some (.int .i64 a0_3) := (blk_cell BK101.out 3).trans rfl; have hfz14_0 := blk_frozen BK101.out 0; have hfz14_1 := blk_frozen BK101.out 1; have hfz14_2 := blk_frozen BK101.out 2; have hfz14_3 := blk_frozen BK101.out 3) | ((with_reducible refine gate_callee (f := 49) rfl ?_); refine goesL_ (some 5) rfl rfl Try.func49 (by kernel_rfl) rfl #[.int .i64 a0_0] rfl (by (try simp only [List.map_toArray, List.map_cons, List.map_nil]); first | done | rfl | (simp only [List.length_drop, List.length_take]; rfl)) ?_; (with_reducible refine (spec_l15Length.calls a0_0 true _ A2.out).mono ?_); rintro e w' ⟨rfl, ⟨nd, rfl⟩⟩; refine ⟨_, rfl, ?_⟩) | (go_at_call 49; (with_reducible refine (spec_l15Length.calls a0_1 false _ A4.out).mono ?_); rintro e w' ⟨rfl, ⟨nd, rfl⟩⟩))
      go_ret
      exact ⟨by first | rfl | (simp [errW_none, errW_some] <;> rfl) | (simp [*, errW_none, errW_some] <;> rfl), by exact eS HB.out⟩
  · replace c3 := Bool.eq_false_iff.mpr c3
    subst c3
    have H1 : (some false) = some r := by rw [if_neg (show ¬ (false = true) by decide)] at H; exact H
    clear H
    have H := H1
    clear H1
    obtain rfl := Option.some.inj H
    go_enter Try.func51, Try.ntmps51
    go_wp2_with (first | ((with_reducible refine gate_dst (N := 1) rfl ?_); refine box_event ?hg (N := 1) ?hd (cs := #[.int .i64 a0_0, .int .i64 a0_1, .int .i64 a0_2, .int .i64 a0_3]) (t := 36) ?hr ?_; (case hd => rfl); (case hg => rfl); (case hr => first | (go_simp; done) | (go_simp; rfl)); intro gb101 hg w15 hbox hb; have n0_ := Aside0.mk (below_step (by exact eS HB.out) hb); have n1_ := Aside0.mk (hbox); have n2_ := Aside0.mk ((by rw [hg]; exact (below_size (by exact eS HB.out)) : w.heap.size ≤ gb101)); have n3_ := Aside0.mk ((by rw [hg]; exact (below_size (by exact eS HB.out)) : w.heap.size ≤ gb101)); clear HB; have HB := n0_; have BK101 := n1_; have GW101 := n2_; have GE101 := n3_; clear n0_ n1_ n2_ n3_; clear hb hbox hg; have hcz16_0 : w15.cell? ⟨gb101, 0, none⟩ = some (.int .i64 a0_0) := (blk_cell BK101.out 0).trans rfl; have hcz16_1 : w15.cell? ⟨gb101, 1, none⟩ = some (.int .i64 a0_1) := (blk_cell BK101.out 1).trans rfl; have hcz16_2 : w15.cell? ⟨gb101, 2, none⟩ = some (.int .i64 a0_2) := (blk_cell BK101.out 2).trans rfl; have hcz16_3 : w15.cell? ⟨gb101, 3, none⟩ = some (.int .i64 a0_3) := (blk_cell BK101.out 3).trans rfl; have hfz16_0 := blk_frozen BK101.out 0; have hfz16_1 := blk_frozen BK101.out 1; have hfz16_2 := blk_frozen BK101.out 2; have hfz16_3 := blk_frozen BK101.out 3) | ((with_reducible refine gate_callee (f := 49) rfl ?_); refine goesL_ (some 5) rfl rfl Try.func49 (by kernel_rfl) rfl #[.int .i64 a0_0] rfl (by (try simp only [List.map_toArray, List.map_cons, List.map_nil]); first | done | rfl | (simp only [List.length_drop, List.length_take]; rfl)) ?_; (with_reducible refine (spec_l15Length.calls a0_0 false _ A2.out).mono ?_); rintro e w' ⟨rfl, ⟨nd, rfl⟩⟩; refine ⟨_, rfl, ?_⟩))
    go_ret
    exact ⟨by first | rfl | (simp [errW_none, errW_some] <;> rfl) | (simp [*, errW_none, errW_some] <;> rfl), by exact eS HB.out⟩

end Go.Proofs.Ytgohfbelppokcaa.X

-- Qmeasure
namespace Go.Proofs.Ytgohfbelppokcaa.Pure
open Go Go.RowKit Go.Proofs Go.Proofs.Ytgohfbelppokcaa.X Go.Proofs.YtgohfbelppokcaaW.PrintWords Go.Proofs.YtgohfbelppokcaaW.PrintLast
set_option linter.unusedVariables false
set_option linter.unusedSimpArgs false

def lengthB (a : Int) : Bool := decide (1 ≤ a ∧ a ≤ 20000)
def measureB (a b c d : Int) : Bool := lengthB a && (lengthB b && (lengthB c && lengthB d))
theorem length_of {a : Int} (h : lengthB a = true) : 1 ≤ a ∧ a ≤ 20000 := by simpa [lengthB] using h
theorem measure_of {a b c d : Int} (h : measureB a b c d = true) : (1 ≤ a ∧ a ≤ 20000) ∧ (1 ≤ b ∧ b ≤ 20000) ∧ (1 ≤ c ∧ c ≤ 20000) ∧ (1 ≤ d ∧ d ≤ 20000) := by
  simp only [measureB, Bool.and_eq_true] at h
  exact ⟨length_of h.1, length_of h.2.1, length_of h.2.2.1, length_of h.2.2.2⟩
theorem l15Length_eq (a : Int) : spec_l15Length.f a = some (lengthB a) := by
  simp only [spec_l15Length.f, l1In_eq, Option.bind_some, lengthB]
theorem isLength_eq (a : Int) : impl_isLength.f a = some (lengthB a) := by
  simp only [impl_isLength.f, in_eq, Option.bind_some, lengthB]
theorem l15Measure_eq (a b c d : Int) : spec_l15Measure.f a b c d = some (measureB a b c d) := by
  simp only [spec_l15Measure.f, l15Length_eq, Option.bind_some, ite_sf, measureB]
theorem IsMeasure_eq (a b c d : Int) : impl_IsMeasure.f a b c d = some (measureB a b c d) := by
  simp only [impl_IsMeasure.f, impl_areAll_int__impl_isLength.f, Ho.allO_eq (q := lengthB) (fun x _ => isLength_eq x), Option.bind_some, measureB]
  simp

end Go.Proofs.Ytgohfbelppokcaa.Pure

-- XimplStraightenByF26
namespace Go.Proofs.Ytgohfbelppokcaa.X
open Ho (bS eS)
open Go.RowKit Go.Proofs.YtgohfbelppokcaaW.PrintWords Go.Proofs.YtgohfbelppokcaaW.PrintLast Go.Proofs.YtgohfbelppokcaaW.PrintMore
attribute [local go_sem] max2_int min2_int max_two min_two max_three min_three max_four min_four   -- for this text's walks alone
set_option linter.unusedVariables false
set_option linter.unusedSimpArgs false

/-! ### impl_StraightenBy: function 26 -/
def impl_StraightenBy.f (a0_0 : Int) (a0_1 : Int) (a0_2 : Int) (a0_3 : Int) : Option (Int × Int × Bool) := (impl_IsMeasure.f a0_0 a0_1 a0_2 a0_3).bind fun t102 => (if t102 = true then ((impl_abs.f (wrap64 (a0_0 - a0_1))).bind fun t103 => ((impl_abs.f (wrap64 (a0_2 - a0_3))).bind fun t104 => (some (t103, t104, true)))) else (some (0, 0, false)))
def impl_StraightenBy.T3 : Bool × List (List Nat × List Nat) := (true, [([], []), ([0], [0]), ([], []), ([2], [2]), ([1, 3], [1, 3]), ([4], [4]), ([], []), ([6], [6]), ([], []), ([8], [8]), ([7, 9], [7, 9]), ([10, 5], [10]), ([5, 11, 0, 1, 2, 3, 4, 5], [5]), ([11, 12, 0, 1, 2, 3, 4, 5, 6, 7, 8, 9, 10, 11, 12], [11]), ([13, 0, 1, 2, 3, 4, 5, 6, 7, 8, 9, 10, 11, 12, 13], [])])
def impl_StraightenBy.B3 : List Nat := [0, 1, 0, 4, 15, 31, 0, 64, 0, 256, 960, 2047, 4095, 8191, 16383]
theorem impl_StraightenBy.tab3 : rtab .any (opsOf Try.f26 3) = impl_StraightenBy.T3 := by kernel_rfl
theorem impl_StraightenBy.bits3 : waitsOk impl_StraightenBy.T3.2 impl_StraightenBy.B3 = true := by kernel_rfl
set_option maxHeartbeats 8000000 in
set_option maxRecDepth 100000 in
theorem impl_StraightenBy.calls (a0_0 : Int) (a0_1 : Int) (a0_2 : Int) (a0_3 : Int) (r1 : Int) (r2 : Int) (r3 : Bool) (w : World) (h : impl_StraightenBy.f a0_0 a0_1 a0_2 a0_3 = some (r1, r2, r3)) :
    Calls Try.prog 26 #[.agg #[.int .i64 a0_0, .int .i64 a0_1, .int .i64 a0_2, .int .i64 a0_3]] w fun e w' => e = .returned (.tuple #[.int .i64 r1, .int .i64 r2, .bool r3]) ∧ Below w.heap.size w w' := by
  have hu36 := Try.underlying36
  have HB := Aside0.mk (Below.refl w.heap.size w)
  have H : ((impl_IsMeasure.f a0_0 a0_1 a0_2 a0_3).bind fun t102 => (if t102 = true then ((impl_abs.f (wrap64 (a0_0 - a0_1))).bind fun t103 => ((impl_abs.f (wrap64 (a0_2 - a0_3))).bind fun t104 => (some (t103, t104, true)))) else (some (0, 0, false)))) = some (r1, r2, r3) := h
  clear h
  replace H := Option.bind_eq_some_iff.mp H
  obtain ⟨t102, A20, H⟩ := H
  replace H : (if t102 = true then ((impl_abs.f (wrap64 (a0_0 - a0_1))).bind fun t103 => ((impl_abs.f (wrap64 (a0_2 - a0_3))).bind fun t104 => (some (t103, t104, true)))) else (some (0, 0, false))) = some (r1, r2, r3) := H
  have A2 := Aside0.mk A20
  clear A20
  by_cases c3 : t102 = true
  · subst c3
    have H1 : ((impl_abs.f (wrap64 (a0_0 - a0_1))).bind fun t103 => ((impl_abs.f (wrap64 (a0_2 - a0_3))).bind fun t104 => (some (t103, t104, true)))) = some (r1, r2, r3) := by rw [if_pos rfl] at H; exact H
    clear H
    have H := H1
    clear H1
    replace H := Option.bind_eq_some_iff.mp H
    obtain ⟨t103, A40, H⟩ := H
    replace H : ((impl_abs.f (wrap64 (a0_2 - a0_3))).bind fun t104 => (some (t103, t104, true))) = some (r1, r2, r3) := H
    have A4 := Aside0.mk A40
    clear A40
    replace H := Option.bind_eq_some_iff.mp H
    obtain ⟨t104, A50, H⟩ := H
    replace H : (some (t103, t104, true)) = some (r1, r2, r3) := H
    have A5 := Aside0.mk A50
    clear A50
    simp only [Option.some.injEq, Prod.mk.injEq] at H
    obtain ⟨rfl, rfl, rfl⟩ := H
    go_enter Try.func26, Try.ntmps26
    try go_wp2_with (first | ((with_reducible refine gate_dst (N := 1) rfl ?_); refine box_event ?hg (N := 1) ?hd (cs := #[.int .i64 a0_0, .int .i64 a0_1, .int .i64 a0_2, .int .i64 a0_3]) (t := 36) ?hr ?_; (case hd => rfl); (case hg => rfl); (case hr => first | (go_simp; done) | (go_simp; rfl)); intro gb101 hg w6 hbox hb; have n0_ := Aside0.mk (below_step (by exact eS HB.out) hb); have n1_ := Aside0.mk (hbox); have n2_ := Aside0.mk ((by rw [hg]; exact (below_size (by exact eS HB.out)) : w.heap.size ≤ gb101)); have n3_ := Aside0.mk ((by rw [hg]; exact (below_size (by exact eS HB.out)) : w.heap.size ≤ gb101)); clear HB; have HB := n0_; have BK101 := n1_; have GW101 := n2_; have GE101 := n3_; clear n0_ n1_ n2_ n3_; clear hb hbox hg; have hcz7_0 : w6.cell? ⟨gb101, 0, none⟩ = some (.int .i64 a0_0) := (blk_cell BK101.out 0).trans rfl; have hcz7_1 : w6.cell? ⟨gb101, 1, none⟩ = some (.int .i64 a0_1) := (blk_cell BK101.out 1).trans rfl; have hcz7_2 : w6.cell? ⟨gb101, 2, none⟩ = some (.int .i64 a0_2) := (blk_cell BK101.out 2).trans rfl; have hcz7_3 : w6.cell? ⟨gb101, 3, none⟩ = some (.int .i64 a0_3) := (blk_cell BK101.out 3).trans rfl; have hfz7_0 := blk_frozen BK101.out 0; have hfz7_1 := blk_frozen BK101.out 1; have hfz7_2 := blk_frozen BK101.out 2; have hfz7_3 := blk_frozen BK101.out 3) | ((with_reducible refine gate_callee (f := 24) rfl ?_); refine goesL_ (some 6) rfl rfl Try.func24 (by kernel_rfl) rfl #[.agg #[.int .i64 a0_0, .int .i64 a0_1, .int .i64 a0_2, .int .i64 a0_3]] rfl (by (try simp only [List.map_toArray, List.map_cons, List.map_nil]); first | done | rfl | (simp only [List.length_drop, List.length_take]; rfl)) ?_; (with_reducible refine (impl_IsMeasure.calls a0_0 a0_1 a0_2 a0_3 true _ A2.out).mono ?_); rintro e w8 ⟨rfl, hb⟩; refine ⟨_, rfl, ?_⟩; have n0_ := Aside0.mk (blk_below (bS BK101.out) hb); have n1_ := Aside0.mk (below_step (by exact eS HB.out) hb); clear BK101; clear HB; have BK101 := n0_; have HB := n1_; clear n0_ n1_; (try clear hb); (try clear hb2); (try clear hk); (try clear hi)))
    have n0_ := Aside0.mk (blk_drew BK101.out)
    have n1_ := Aside0.mk (below_drew1 HB.out)
    clear BK101
    clear HB
    have BK101 := n0_
    have HB := n1_
    clear n0_ n1_
    refine start_ (n := 15) (S := fun w' => w'.cell? ⟨gb101, 0, none⟩ = some (.int .i64 a0_0) ∧ w'.cell? ⟨gb101, 1, none⟩ = some (.int .i64 a0_1) ∧ w'.cell? ⟨gb101, 2, none⟩ = some (.int .i64 a0_2) ∧ w'.cell? ⟨gb101, 3, none⟩ = some (.int .i64 a0_3)) (ds := []) #[false, false, false, false, false, false, false, false, false, false, false, false, false, false, false] (by kernel_rfl) rfl rfl ⟨(blk_cell BK101.out 0).trans rfl, (blk_cell BK101.out 1).trans rfl, (blk_cell BK101.out 2).trans rfl, (blk_cell BK101.out 3).trans rfl⟩ (fun hHeld => ?_); refine with_tabW impl_StraightenBy.tab3 impl_StraightenBy.bits3 (fun HT_ HW_ => ?_)
    generalize w8.drew = w9 at BK101 HB hHeld ⊢
    refine pure_ (i := 0) (N := some 8) (v := ?_) (a' := ?_) #[true, false, false, false, false, false, false, false, false, false, false, false, false, false, false] rfl rfl (any_of HT_.out (by kernel_rfl)) (fun _ _ _ h => h) (Or.inl ⟨by rfl, ?_⟩) ?_ ?_
    rotate_left
    · intro w'
      go_simp
      with_reducible rfl
    rotate_left
    · simp only [Act.put, List.setIfInBounds_toArray, List.set_cons_zero, List.set_cons_succ, i64_w, i32_w]
      rfl
    refine pure_ (i := 2) (N := some 10) (v := ?_) (a' := ?_) #[true, false, true, false, false, false, false, false, false, false, false, false, false, false, false] rfl rfl (any_of HT_.out (by kernel_rfl)) (fun _ _ _ h => h) (Or.inl ⟨by rfl, ?_⟩) ?_ ?_
    rotate_left
    · intro w'
      go_simp
      with_reducible rfl
    rotate_left
    · simp only [Act.put, List.setIfInBounds_toArray, List.set_cons_zero, List.set_cons_succ, i64_w, i32_w]
      rfl
    refine pure_ (i := 6) (N := some 14) (v := ?_) (a' := ?_) #[true, false, true, false, false, false, true, false, false, false, false, false, false, false, false] rfl rfl (any_of HT_.out (by kernel_rfl)) (fun _ _ _ h => h) (Or.inl ⟨by rfl, ?_⟩) ?_ ?_
    rotate_left
    · intro w'
      go_simp
      with_reducible rfl
    rotate_left
    · simp only [Act.put, List.setIfInBounds_toArray, List.set_cons_zero, List.set_cons_succ, i64_w, i32_w]
      rfl
    refine pure_ (i := 8) (N := some 16) (v := ?_) (a' := ?_) #[true, false, true, false, false, false, true, false, true, false, false, false, false, false, false] rfl rfl (any_of HT_.out (by kernel_rfl)) (fun _ _ _ h => h) (Or.inl ⟨by rfl, ?_⟩) ?_ ?_
    rotate_left
    · intro w'
      go_simp
      with_reducible rfl
    rotate_left
    · simp only [Act.put, List.setIfInBounds_toArray, List.set_cons_zero, List.set_cons_succ, i64_w, i32_w]
      rfl
    refine take_ (i := 1) (N := some 9) (v := ?_) (a' := ?_) #[true, true, true, false, false, false, true, false, true, false, false, false, false, false, false] rfl rfl (take_ofW HT_.out HW_.out (by kernel_rfl)) (fun _ _ _ h => h) (Or.inl ⟨by rfl, ?_⟩) hHeld ?_ ?_
    rotate_left
    · rintro w' ⟨s0, s1, s2, s3⟩
      go_simp
      with_reducible rfl
    rotate_left
    · simp only [Act.put, List.setIfInBounds_toArray, List.set_cons_zero, List.set_cons_succ, i64_w, i32_w]
      rfl
    refine take_ (i := 3) (N := some 11) (v := ?_) (a' := ?_) #[true, true, true, true, false, false, true, false, true, false, false, false, false, false, false] rfl rfl (take_ofW HT_.out HW_.out (by kernel_rfl)) (fun _ _ _ h => h) (Or.inl ⟨by rfl, ?_⟩) hHeld ?_ ?_
    rotate_left
    · rintro w' ⟨s0, s1, s2, s3⟩
      go_simp
      with_reducible rfl
    rotate_left
    · simp only [Act.put, List.setIfInBounds_toArray, List.set_cons_zero, List.set_cons_succ, i64_w, i32_w]
      rfl
    refine pure_ (i := 4) (N := some 12) (v := ?_) (a' := ?_) #[true, true, true, true, true, false, true, false, true, false, false, false, false, false, false] rfl rfl (any_of HT_.out (by kernel_rfl)) (fun _ _ _ h => h) (Or.inl ⟨by rfl, ?_⟩) ?_ ?_
    rotate_left
    · intro w'
      go_simp
      with_reducible rfl
    rotate_left
    · simp only [Act.put, List.setIfInBounds_toArray, List.set_cons_zero, List.set_cons_succ, i64_w, i32_w]
      rfl
    refine take_ (i := 7) (N := some 15) (v := ?_) (a' := ?_) #[true, true, true, true, true, false, true, true, true, false, false, false, false, false, false] rfl rfl (take_ofW HT_.out HW_.out (by kernel_rfl)) (fun _ _ _ h => h) (Or.inl ⟨by rfl, ?_⟩) hHeld ?_ ?_
    rotate_left
    · rintro w' ⟨s0, s1, s2, s3⟩
      go_simp
      with_reducible rfl
    rotate_left
    · simp only [Act.put, List.setIfInBounds_toArray, List.set_cons_zero, List.set_cons_succ, i64_w, i32_w]
      rfl
    refine take_ (i := 9) (N := some 17) (v := ?_) (a' := ?_) #[true, true, true, true, true, false, true, true, true, true, false, false, false, false, false] rfl rfl (take_ofW HT_.out HW_.out (by kernel_rfl)) (fun _ _ _ h => h) (Or.inl ⟨by rfl, ?_⟩) hHeld ?_ ?_
    rotate_left
    · rintro w' ⟨s0, s1, s2, s3⟩
      go_simp
      with_reducible rfl
    rotate_left
    · simp only [Act.put, List.setIfInBounds_toArray, List.set_cons_zero, List.set_cons_succ, i64_w, i32_w]
      rfl
    refine pure_ (i := 10) (N := some 18) (v := ?_) (a' := ?_) #[true, true, true, true, true, false, true, true, true, true, true, false, false, false, false] rfl rfl (any_of HT_.out (by kernel_rfl)) (fun _ _ _ h => h) (Or.inl ⟨by rfl, ?_⟩) ?_ ?_
    rotate_left
    · intro w'
      go_simp
      with_reducible rfl
    rotate_left
    · simp only [Act.put, List.setIfInBounds_toArray, List.set_cons_zero, List.set_cons_succ, i64_w, i32_w]
      rfl
    refine one_ (i := 5) (N := some 13) #[true, true, true, true, true, true, true, true, true, true, true, false, false, false, false] rfl rfl (one_of HT_.out (by kernel_rfl)) (by decide) (fun K hK => ?_)
    refine goes_ Try.func54 (by kernel_rfl) rfl #[.int .i64 (wrap64 (a0_0 - a0_1))] (by rfl) rfl rfl (by (try simp only [List.map_toArray, List.map_cons, List.map_nil]); first | done | rfl | (simp only [List.length_drop, List.length_take]; rfl)) ?_
    with_reducible refine (impl_abs.calls (wrap64 (a0_0 - a0_1)) t103 _ A4.out).mono ?_
    rintro e w10 ⟨rfl, hb⟩
    refine ⟨_, rfl, ?_⟩
    have n0_ := Aside0.mk (blk_below (bS BK101.out) hb)
    have n1_ := Aside0.mk (below_step (by exact eS HB.out) hb)
    clear BK101
    clear HB
    have BK101 := n0_
    have HB := n1_
    clear n0_ n1_
    (try clear hb)
    (try clear hb2)
    (try clear hk)
    (try clear hi)
    refine hK.out _ _ ⟨(blk_cell BK101.out 0).trans rfl, (blk_cell BK101.out 1).trans rfl, (blk_cell BK101.out 2).trans rfl, (blk_cell BK101.out 3).trans rfl⟩ (fun hHeld => ?_)
    clear hK K
    refine norm_ (a' := ?_) ?_ ?_
    rotate_left
    · show Act.put _ (some 13) _ = _
      simp only [Act.put, List.setIfInBounds_toArray, List.set_cons_zero, List.set_cons_succ, i64_w, i32_w]
      rfl
    refine one_ (i := 11) (N := some 19) #[true, true, true, true, true, true, true, true, true, true, true, true, false, false, false] rfl rfl (one_of HT_.out (by kernel_rfl)) (by decide) (fun K hK => ?_)
    refine goes_ Try.func54 (by kernel_rfl) rfl #[.int .i64 (wrap64 (a0_2 - a0_3))] (by rfl) rfl rfl (by (try simp only [List.map_toArray, List.map_cons, List.map_nil]); first | done | rfl | (simp only [List.length_drop, List.length_take]; rfl)) ?_
    with_reducible refine (impl_abs.calls (wrap64 (a0_2 - a0_3)) t104 _ A5.out).mono ?_
    rintro e w11 ⟨rfl, hb⟩
    refine ⟨_, rfl, ?_⟩
    have n0_ := Aside0.mk (blk_below (bS BK101.out) hb)
    have n1_ := Aside0.mk (below_step (by exact eS HB.out) hb)
    clear BK101
    clear HB
    have BK101 := n0_
    have HB := n1_
    clear n0_ n1_
    (try clear hb)
    (try clear hb2)
    (try clear hk)
    (try clear hi)
    refine hK.out _ _ ⟨(blk_cell BK101.out 0).trans rfl, (blk_cell BK101.out 1).trans rfl, (blk_cell BK101.out 2).trans rfl, (blk_cell BK101.out 3).trans rfl⟩ (fun hHeld => ?_)
    clear hK K
    refine norm_ (a' := ?_) ?_ ?_
    rotate_left
    · show Act.put _ (some 19) _ = _
      simp only [Act.put, List.setIfInBounds_toArray, List.set_cons_zero, List.set_cons_succ, i64_w, i32_w]
      rfl
    refine pure_ (i := 12) (N := some 2) (v := ?_) (a' := ?_) #[true, true, true, true, true, true, true, true, true, true, true, true, true, false, false] rfl rfl (any_of HT_.out (by kernel_rfl)) (fun _ _ _ h => h) (Or.inl ⟨by rfl, ?_⟩) ?_ ?_
    rotate_left
    · intro w'
      go_simp
      with_reducible rfl
    rotate_left
    · simp only [Act.put, List.setIfInBounds_toArray, List.set_cons_zero, List.set_cons_succ, i64_w, i32_w]
      rfl
    refine pure_ (i := 13) (N := some 3) (v := ?_) (a' := ?_) #[true, true, true, true, true, true, true, true, true, true, true, true, true, true, false] rfl rfl (any_of HT_.out (by kernel_rfl)) (fun _ _ _ h => h) (Or.inl ⟨by rfl, ?_⟩) ?_ ?_
    rotate_left
    · intro w'
      go_simp
      with_reducible rfl
    rotate_left
    · simp only [Act.put, List.setIfInBounds_toArray, List.set_cons_zero, List.set_cons_succ, i64_w, i32_w]
      rfl
    refine pure_ (i := 14) (N := some 4) (v := ?_) (a' := ?_) #[true, true, true, true, true, true, true, true, true, true, true, true, true, true, true] rfl rfl (any_of HT_.out (by kernel_rfl)) (fun _ _ _ h => h) (Or.inl ⟨by rfl, ?_⟩) ?_ ?_
    rotate_left
    · intro w'
      go_simp
      with_reducible rfl
    rotate_left
    · simp only [Act.put, List.setIfInBounds_toArray, List.set_cons_zero, List.set_cons_succ, i64_w, i32_w]
      rfl
    refine done_ (done_of HT_.out (by kernel_rfl)) ?_
    try go_wp2
    go_ret3
    exact ⟨by first | rfl | (simp [errW_none, errW_some] <;> rfl) | (simp [*, errW_none, errW_some] <;> rfl), by exact eS HB.out⟩
  · replace c3 := Bool.eq_false_iff.mpr c3
    subst c3
    have H1 : (some (0, 0, false)) = some (r1, r2, r3) := by rw [if_neg (show ¬ (false = true) by decide)] at H; exact H
    clear H
    have H := H1
    clear H1
    simp only [Option.some.injEq, Prod.mk.injEq] at H
    obtain ⟨rfl, rfl, rfl⟩ := H
    go_enter Try.func26, Try.ntmps26
    go_wp2_with (first | ((with_reducible refine gate_dst (N := 1) rfl ?_); refine box_event ?hg (N := 1) ?hd (cs := #[.int .i64 a0_0, .int .i64 a0_1, .int .i64 a0_2, .int .i64 a0_3]) (t := 36) ?hr ?_; (case hd => rfl); (case hg => rfl); (case hr => first | (go_simp; done) | (go_simp; rfl)); intro gb101 hg w12 hbox hb; have n0_ := Aside0.mk (below_step (by exact eS HB.out) hb); have n1_ := Aside0.mk (hbox); have n2_ := Aside0.mk ((by rw [hg]; exact (below_size (by exact eS HB.out)) : w.heap.size ≤ gb101)); have n3_ := Aside0.mk ((by rw [hg]; exact (below_size (by exact eS HB.out)) : w.heap.size ≤ gb101)); clear HB; have HB := n0_; have BK101 := n1_; have GW101 := n2_; have GE101 := n3_; clear n0_ n1_ n2_ n3_; clear hb hbox hg; have hcz13_0 : w12.cell? ⟨gb101, 0, none⟩ = some (.int .i64 a0_0) := (blk_cell BK101.out 0).trans rfl; have hcz13_1 : w12.cell? ⟨gb101, 1, none⟩ = some (.int .i64 a0_1) := (blk_cell BK101.out 1).trans rfl; have hcz13_2 : w12.cell? ⟨gb101, 2, none⟩ = some (.int .i64 a0_2) := (blk_cell BK101.out 2).trans rfl; have hcz13_3 : w12.cell? ⟨gb101, 3, none⟩ = some (.int .i64 a0_3) := (blk_cell BK101.out 3).trans rfl; have hfz13_0 := blk_frozen BK101.out 0; have hfz13_1 := blk_frozen BK101.out 1; have hfz13_2 := blk_frozen BK101.out 2; have hfz13_3 := blk_frozen BK101.out 3) | ((with_reducible refine gate_callee (f := 24) rfl ?_); refine goesL_ (some 6) rfl rfl Try.func24 (by kernel_rfl) rfl #[.agg #[.int .i64 a0_0, .int .i64 a0_1, .int .i64 a0_2, .int .i64 a0_3]] rfl (by (try simp only [List.map_toArray, List.map_cons, List.map_nil]); first | done | rfl | (simp only [List.length_drop, List.length_take]; rfl)) ?_; (with_reducible refine (impl_IsMeasure.calls a0_0 a0_1 a0_2 a0_3 false _ A2.out).mono ?_); rintro e w14 ⟨rfl, hb⟩; refine ⟨_, rfl, ?_⟩; have n0_ := Aside0.mk (blk_below (bS BK101.out) hb); have n1_ := Aside0.mk (below_step (by exact eS HB.out) hb); clear BK101; clear HB; have BK101 := n0_; have HB := n1_; clear n0_ n1_; (try clear hb); (try clear hb2); (try clear hk); (try clear hi)))
    go_ret3
    exact ⟨by first | rfl | (simp [errW_none, errW_some] <;> rfl) | (simp [*, errW_none, errW_some] <;> rfl), by exact eS HB.out⟩

end Go.Proofs.Ytgohfbelppokcaa.X

-- XspecStraightenByF25
namespace Go.Proofs.Ytgohfbelppokcaa.X
open Ho (bS eS)
open Go.RowKit Go.Proofs.YtgohfbelppokcaaW.PrintWords Go.Proofs.YtgohfbelppokcaaW.PrintLast Go.Proofs.YtgohfbelppokcaaW.PrintMore
attribute [local go_sem] max2_int min2_int max_two min_two max_three min_three max_four min_four   -- for this text's walks alone
set_option linter.unusedVariables false
set_option linter.unusedSimpArgs false

/-! ### spec_StraightenBy: function 25 -/
def spec_StraightenBy.f (a0_0 : Int) (a0_1 : Int) (a0_2 : Int) (a0_3 : Int) : Option (Int × Int × Bool) := (spec_l15Measure.f a0_0 a0_1 a0_2 a0_3).bind fun t102 => (if t102 = true then ((spec_l1Most.f (wrap64 (a0_0 - a0_1)) (wrap64 (a0_1 - a0_0))).bind fun t103 => ((spec_l1Most.f (wrap64 (a0_2 - a0_3)) (wrap64 (a0_3 - a0_2))).bind fun t104 => (some (t103, t104, true)))) else (some (0, 0, false)))
set_option maxHeartbeats 8000000 in
set_option maxRecDepth 100000 in
theorem spec_StraightenBy.calls (a0_0 : Int) (a0_1 : Int) (a0_2 : Int) (a0_3 : Int) (r1 : Int) (r2 : Int) (r3 : Bool) (w : World) (h : spec_StraightenBy.f a0_0 a0_1 a0_2 a0_3 = some (r1, r2, r3)) :
    Calls Try.prog 25 #[.agg #[.int .i64 a0_0, .int .i64 a0_1, .int .i64 a0_2, .int .i64 a0_3]] w fun e w' => e = .returned (.tuple #[.int .i64 r1, .int .i64 r2, .bool r3]) ∧ Below w.heap.size w w' := by
  have hu36 := Try.underlying36
  have HB := Aside0.mk (Below.refl w.heap.size w)
  have H : ((spec_l15Measure.f a0_0 a0_1 a0_2 a0_3).bind fun t102 => (if t102 = true then ((spec_l1Most.f (wrap64 (a0_0 - a0_1)) (wrap64 (a0_1 - a0_0))).bind fun t103 => ((spec_l1Most.f (wrap64 (a0_2 - a0_3)) (wrap64 (a0_3 - a0_2))).bind fun t104 => (some (t103, t104, true)))) else (some (0, 0, false)))) = some (r1, r2, r3) := h
  clear h
  replace H := Option.bind_eq_some_iff.mp H
  obtain ⟨t102, A20, H⟩ := H
  replace H : (if t102 = true then ((spec_l1Most.f (wrap64 (a0_0 - a0_1)) (wrap64 (a0_1 - a0_0))).bind fun t103 => ((spec_l1Most.f (wrap64 (a0_2 - a0_3)) (wrap64 (a0_3 - a0_2))).bind fun t104 => (some (t103, t104, true)))) else (some (0, 0, false))) = some (r1, r2, r3) := H
  have A2 := Aside0.mk A20
  clear A20
  by_cases c3 : t102 = true
  · subst c3
    have H1 : ((spec_l1Most.f (wrap64 (a0_0 - a0_1)) (wrap64 (a0_1 - a0_0))).bind fun t103 => ((spec_l1Most.f (wrap64 (a0_2 - a0_3)) (wrap64 (a0_3 - a0_2))).bind fun t104 => (some (t103, t104, true)))) = some (r1, r2, r3) := by rw [if_pos rfl] at H; exact H
    clear H
    have H := H1
    clear H1
    replace H := Option.bind_eq_some_iff.mp H
    obtain ⟨t103, A40, H⟩ := H
    replace H : ((spec_l1Most.f (wrap64 (a0_2 - a0_3)) (wrap64 (a0_3 - a0_2))).bind fun t104 => (some (t103, t104, true))) = some (r1, r2, r3) := H
    have A4 := Aside0.mk A40
    clear A40
    replace H := Option.bind_eq_some_iff.mp H
    obtain ⟨t104, A50, H⟩ := H
    replace H : (some (t103, t104, true)) = some (r1, r2, r3) := H
    have A5 := Aside0.mk A50
    clear A50
    simp only [Option.some.injEq, Prod.mk.injEq] at H
    obtain ⟨rfl, rfl, rfl⟩ := H
    go_enter Try.func25, Try.ntmps25
    go_wp2_with (first | ((with_reducible refine gate_dst (N := 1) rfl ?_); refine box_event ?hg (N := 1) ?hd (cs := #[.int .i64 a0_0, .int .i64 a0_1, .int .i64 a0_2, .int .i64 a0_3]) (t := 36) ?hr ?_; (case hd => rfl); (case hg => rfl); (case hr => first | (go_simp; done) | (go_simp; rfl)); intro gb101 hg w6 hbox hb; have n0_ := Aside0.mk (below_step (by exact eS HB.out) hb); have n1_ := Aside0.mk (hbox); have n2_ := Aside0.mk ((by rw [hg]; exact (below_size (by exact eS HB.out)) : w.heap.size ≤ gb101)); have n3_ := Aside0.mk ((by rw [hg]; exact (below_size (by exact eS HB.out)) : w.heap.size ≤ gb101)); clear HB; have HB := n0_; have BK101 := n1_; have GW101 := n2_; have GE101 := n3_; clear n0_ n1_ n2_ n3_; clear hb hbox hg; have hcz7_0 : w6.cell? ⟨gb101, 0, none⟩ = some (.int .i64 a0_0) := (blk_cell BK101.out 0).trans rfl; have hcz7_1 : w6.cell? ⟨gb101, 1, none⟩ = some (.int .i64 a0_1) := (blk_cell BK101.out 1).trans rfl; have hcz7_2 : w6.cell? ⟨gb101, 2, none⟩ = some (.int .i64 a0_2) := (blk_cell BK101.out 2).trans rfl; have hcz7_3 : w6.cell? ⟨gb101, 3, none⟩ = some (.int .i64 a0_3) := (blk_cell BK101.out 3).trans rfl; have hfz7_0 := blk_frozen BK101.out 0; have hfz7_1 := blk_frozen BK101.out 1; have hfz7_2 := blk_frozen BK101.out 2; have hfz7_3 := blk_frozen BK101.out 3) | (go_at_call 51; (with_reducible refine (spec_l15Measure.calls a0_0 a0_1 a0_2 a0_3 true _ A2.out).mono ?_); rintro e w8 ⟨rfl, hb⟩; have n0_ := Aside0.mk (blk_below (bS BK101.out) hb); have n1_ := Aside0.mk (below_step (by exact eS HB.out) hb); clear BK101; clear HB; have BK101 := n0_; have HB := n1_; clear n0_ n1_; (try clear hb); (try clear hb2); (try clear hk); (try clear hi); have hcz9_0 : w8.cell? ⟨gb101, 0, none⟩ = some (.int .i64 a0_0) := (blk_cell BK101.out 0).trans rfl; have hcz9_1 : w8.cell? ⟨gb101, 1, none⟩ = some (.int .i64 a0_1) := (blk_cell BK101.out 1).trans rfl; have hcz9_2 : w8.cell? ⟨gb101, 2, none⟩ = some (.int .i64 a0_2) := (blk_cell BK101.out 2).trans rfl; have hcz9_3 : w8.cell? ⟨gb101, 3, none⟩ = some (.int .i64 a0_3) := (blk_cell BK101.out 3).trans rfl; have hfz9_0 := blk_frozen BK101.out 0; have hfz9_1 := blk_frozen BK101.out 1; have hfz9_2 := blk_frozen BK101.out 2; have hfz9_3 := blk_frozen BK101.out 3) | (go_at_call 53; (with_reducible refine (spec_l1Most.calls (wrap64 (a0_0 - a0_1)) (wrap64 (a0_1 - a0_0)) t103 _ A4.out).mono ?_); rintro e w' ⟨rfl, ⟨nd, rfl⟩⟩; (try first | exact ⟨rfl, _, World.drewN_drewN _ _ _⟩ | exact ⟨rfl, _, Eq.trans (World.drewN_drewN _ _ _) (congrArg (World.drewN _) (Nat.add_assoc _ _ _))⟩)) | (go_at_call 53; (with_reducible refine (spec_l1Most.calls (wrap64 (a0_2 - a0_3)) (wrap64 (a0_3 - a0_2)) t104 _ A5.out).mono ?_); rintro e w' ⟨rfl, ⟨nd, rfl⟩⟩; (try first | exact ⟨rfl, _, World.drewN_drewN _ _ _⟩ | exact ⟨rfl, _, Eq.trans (World.drewN_drewN _ _ _) (congrArg (World.drewN _) (Nat.add_assoc _ _ _))⟩)))
    repeat (go_quiet (first | ((with_reducible refine gate_dst (N := 1) rfl ?_); refine box_event ?hg (N := 1) ?hd (cs := #[.int .i64 a0_0, .int .i64 a0_1, .int .i64 a0_2, .int .i64 a0_3]) (t := 36) ?hr ?_; (case hd => rfl); (case hg => rfl); (case hr => first | (go_simp; done) | (go_simp; rfl)); intro gb101 hg w6 hbox hb; have n0_ := Aside0.mk (below_step (by exact eS HB.out) hb); have n1_ := Aside0.mk (hbox); have n2_ := Aside0.mk ((by rw [hg]; exact (below_size (by exact eS HB.out)) : w.heap.size ≤ gb101)); have n3_ := Aside0.mk ((by rw [hg]; exact (below_size (by exact eS HB.out)) : w.heap.size ≤ gb101)); clear HB; have HB := n0_; have BK101 := n1_; have GW101 := n2_; have GE101 := n3_; clear n0_ n1_ n2_ n3_; clear hb hbox hg; have hcz7_0 : w6.cell? ⟨gb101, 0, none⟩ = some (.int .i64 a0_0) := (blk_cell BK101.out 0).trans rfl; have hcz7_1 : w6.cell? ⟨gb101, 1, none⟩ = some (.int .i64 a0_1) := (blk_cell BK101.out 1).trans rfl; have hcz7_2 : w6.cell? ⟨gb101, 2, none⟩ = some (.int .i64 a0_2) := (blk_cell BK101.out 2).trans rfl; have hcz7_3 : w6.cell? ⟨gb101, 3, none⟩ = some (.int .i64 a0_3) := (blk_cell BK101.out 3).trans rfl; have hfz7_0 := blk_frozen BK101.out 0; have hfz7_1 := blk_frozen BK101.out 1; have hfz7_2 := blk_frozen BK101.out 2; have hfz7_3 := blk_frozen BK101.out 3) | (go_at_call 51; (with_reducible refine (spec_l15Measure.calls a0_0 a0_1 a0_2 a0_3 true _ A2.out).mono ?_); rintro e w8 ⟨rfl, hb⟩; have n0_ := Aside0.mk (blk_below (bS BK101.out) hb); have n1_ := Aside0.mk (below_step (by exact eS HB.out) hb); clear BK101; clear HB; have BK101 := n0_; have HB := n1_; clear n0_ n1_; (try clear hb); (try clear hb2); (try clear hk); (try clear hi); have hcz9_0 : w8.cell? ⟨gb101, 0, none⟩ = some (.int .i64 a0_0) := (blk_cell BK101.out 0).trans rfl; have hcz9_1 : w8.cell? ⟨gb101, 1, none⟩ = some (.int .i64 a0_1) := (blk_cell BK101.out 1).trans rfl; have hcz9_2 : w8.cell? ⟨gb101, 2, none⟩ = some (.int .i64 a0_2) := (blk_cell BK101.out 2).trans rfl; have hcz9_3 : w8.cell? ⟨gb101, 3, none⟩ = some (.int .i64 a0_3) := (blk_cell BK101.out 3).trans rfl; have hfz9_0 := blk_frozen BK101.out 0; have hfz9_1 := blk_frozen BK101.out 1; have hfz9_2 := blk_frozen BK101.out 2; have hfz9_3 := blk_frozen BK101.out 3) | (go_at_call 53; (with_reducible refine (spec_l1Most.calls (wrap64 (a0_0 - a0_1)) (wrap64 (a0_1 - a0_0)) t103 _ A4.out).mono ?_); rintro e w' ⟨rfl, ⟨nd, rfl⟩⟩; (try first | exact ⟨rfl, _, World.drewN_drewN _ _ _⟩ | exact ⟨rfl, _, Eq.trans (World.drewN_drewN _ _ _) (congrArg (World.drewN _) (Nat.add_assoc _ _ _))⟩)) | (go_at_call 53; (with_reducible refine (spec_l1Most.calls (wrap64 (a0_2 - a0_3)) (wrap64 (a0_3 - a0_2)) t104 _ A5.out).mono ?_); rintro e w' ⟨rfl, ⟨nd, rfl⟩⟩; (try first | exact ⟨rfl, _, World.drewN_drewN _ _ _⟩ | exact ⟨rfl, _, Eq.trans (World.drewN_drewN _ _ _) (congrArg (World.drewN _) (Nat.add_assoc _ _ _))⟩))); try go_wp2_with (first | ((with_reducible refine gate_dst (N := 1) rfl ?_); refine box_event ?hg (N := 1) ?hd (cs := #[.int .i64 a0_0, .int .i64 a0_1, .int .i64 a0_2, .int .i64 a0_3]) (t := 36) ?hr ?_; (case hd => rfl); (case hg => rfl); (case hr => first | (go_simp; done) | (go_simp; rfl)); intro gb101 hg w6 hbox hb; have n0_ := Aside0.mk (below_step (by exact eS HB.out) hb); have n1_ := Aside0.mk (hbox); have n2_ := Aside0.mk ((by rw [hg]; exact (below_size (by exact eS HB.out)) : w.heap.size ≤ gb101)); have n3_ := Aside0.mk ((by rw [hg]; exact (below_size (by exact eS HB.out)) : w.heap.size ≤ gb101)); clear HB; have HB := n0_; have BK101 := n1_; have GW101 := n2_; have GE101 := n3_; clear n0_ n1_ n2_ n3_; clear hb hbox hg; have hcz7_0 : w6.cell? ⟨gb101, 0, none⟩ = some (.int .i64 a0_0) := (blk_cell BK101.out 0).trans rfl; have hcz7_1 : w6.cell? ⟨gb101, 1, none⟩ = some (.int .i64 a0_1) := (blk_cell BK101.out 1).trans rfl; have hcz7_2 : w6.cell? ⟨gb101, 2, none⟩ = some (.int .i64 a0_2) := (blk_cell BK101.out 2).trans rfl; have hcz7_3 : w6.cell? ⟨gb101, 3, none⟩ = some (.int .i64 a0_3) := (blk_cell BK101.out 3).trans rfl; have hfz7_0 := blk_frozen BK101.out 0; have hfz7_1 := blk_frozen BK101.out 1; have hfz7_2 := blk_frozen BK101.out 2; have hfz7_3 := blk_frozen BK101.out 3) | (go_at_call 51; (with_reducible refine (spec_l15Measure.calls a0_0 a0_1 a0_2 a0_3 true _ A2.out).mono ?_); rintro e w8 ⟨rfl, hb⟩; have n0_ := Aside0.mk (blk_below (bS BK101.out) hb); have n1_ := Aside0.mk (below_step (by exact eS HB.out) hb); clear BK101; clear HB; have BK101 := n0_; have HB := n1_; clear n0_ n1_; (try clear hb); (try clear hb2); (try clear hk); (try clear hi); have hcz9_0 : w8.cell? ⟨gb101, 0, none⟩ = some (.int .i64 a0_0) := (blk_cell BK101.out 0).trans rfl; have hcz9_1 : w8.cell? ⟨gb101, 1, none⟩ = some (.int .i64 a0_1) := (blk_cell BK101.out 1).trans rfl; have hcz9_2 : w8.cell? ⟨gb101, 2, none⟩ = some (.int .i64 a0_2) := (blk_cell BK101.out 2).trans rfl; have hcz9_3 : w8.cell? ⟨gb101, 3, none⟩ = some (.int .i64 a0_3) := (blk_cell BK101.out 3).trans rfl; have hfz9_0 := blk_frozen BK101.out 0; have hfz9_1 := blk_frozen BK101.out 1; have hfz9_2 := blk_frozen BK101.out 2; have hfz9_3 := blk_frozen BK101.out 3) | (go_at_call 53; (with_reducible refine (spec_l1Most.calls (wrap64 (a0_0 - a0_1)) (wrap64 (a0_1 - a0_0)) t103 _ A4.out).mono ?_); rintro e w' ⟨rfl, ⟨nd, rfl⟩⟩; (try first | exact ⟨rfl, _, World.drewN_drewN _ _ _⟩ | exact ⟨rfl, _, Eq.trans (World.drewN_drewN _ _ _) (congrArg (World.drewN _) (Nat.add_assoc _ _ _))⟩)) | (go_at_call 53; (with_reducible refine (spec_l1Most.calls (wrap64 (a0_2 - a0_3)) (wrap64 (a0_3 - a0_2)) t104 _ A5.out).mono ?_); rintro e w' ⟨rfl, ⟨nd, rfl⟩⟩; (try first | exact ⟨rfl, _, World.drewN_drewN _ _ _⟩ | exact ⟨rfl, _, Eq.trans (World.drewN_drewN _ _ _) (congrArg (World.drewN _) (Nat.add_assoc _ _ _))⟩))))
    go_ret3
    exact ⟨by first | rfl | (simp [errW_none, errW_some] <;> rfl) | (simp [*, errW_none, errW_some] <;> rfl), by exact eS HB.out⟩
  · replace c3 := Bool.eq_false_iff.mpr c3
    subst c3
    have H1 : (some (0, 0, false)) = some (r1, r2, r3) := by rw [if_neg (show ¬ (false = true) by decide)] at H; exact H
    clear H
    have H := H1
    clear H1
    simp only [Option.some.injEq, Prod.mk.injEq] at H
    obtain ⟨rfl, rfl, rfl⟩ := H
    go_enter Try.func25, Try.ntmps25
    go_wp2_with (first | ((with_reducible refine gate_dst (N := 1) rfl ?_); refine box_event ?hg (N := 1) ?hd (cs := #[.int .i64 a0_0, .int .i64 a0_1, .int .i64 a0_2, .int .i64 a0_3]) (t := 36) ?hr ?_; (case hd => rfl); (case hg => rfl); (case hr => first | (go_simp; done) | (go_simp; rfl)); intro gb101 hg w10 hbox hb; have n0_ := Aside0.mk (below_step (by exact eS HB.out) hb); have n1_ := Aside0.mk (hbox); have n2_ := Aside0.mk ((by rw [hg]; exact (below_size (by exact eS HB.out)) : w.heap.size ≤ gb101)); have n3_ := Aside0.mk ((by rw [hg]; exact (below_size (by exact eS HB.out)) : w.heap.size ≤ gb101)); clear HB; have HB := n0_; have BK101 := n1_; have GW101 := n2_; have GE101 := n3_; clear n0_ n1_ n2_ n3_; clear hb hbox hg; have hcz11_0 : w10.cell? ⟨gb101, 0, none⟩ = some (.int .i64 a0_0) := (blk_cell BK101.out 0).trans rfl; have hcz11_1 : w10.cell? ⟨gb101, 1, none⟩ = some (.int .i64 a0_1) := (blk_cell BK101.out 1).trans rfl; have hcz11_2 : w10.cell? ⟨gb101, 2, none⟩ = some (.int .i64 a0_2) := (blk_cell BK101.out 2).trans rfl; have hcz11_3 : w10.cell? ⟨gb101, 3, none⟩ = some (.int .i64 a0_3) := (blk_cell BK101.out 3).trans rfl; have hfz11_0 := blk_frozen BK101.out 0; have hfz11_1 := blk_frozen BK101.out 1; have hfz11_2 := blk_frozen BK101.out 2; have hfz11_3 := blk_frozen BK101.out 3) | (go_at_call 51; (with_reducible refine (spec_l15Measure.calls a0_0 a0_1 a0_2 a0_3 false _ A2.out).mono ?_); rintro e w12 ⟨rfl, hb⟩; have n0_ := Aside0.mk (blk_below (bS BK101.out) hb); have n1_ := Aside0.mk (below_step (by exact eS HB.out) hb); clear BK101; clear HB; have BK101 := n0_; have HB := n1_; clear n0_ n1_; (try clear hb); (try clear hb2); (try clear hk); (try clear hi)))
    repeat (go_quiet (first | ((with_reducible refine gate_dst (N := 1) rfl ?_); refine box_event ?hg (N := 1) ?hd (cs := #[.int .i64 a0_0, .int .i64 a0_1, .int .i64 a0_2, .int .i64 a0_3]) (t := 36) ?hr ?_; (case hd => rfl); (case hg => rfl); (case hr => first | (go_simp; done) | (go_simp; rfl)); intro gb101 hg w10 hbox hb; have n0_ := Aside0.mk (below_step (by exact eS HB.out) hb); have n1_ := Aside0.mk (hbox); have n2_ := Aside0.mk ((by rw [hg]; exact (below_size (by exact eS HB.out)) : w.heap.size ≤ gb101)); have n3_ := Aside0.mk ((by rw [hg]; exact (below_size (by exact eS HB.out)) : w.heap.size ≤ gb101)); clear HB; have HB := n0_; have BK101 := n1_; have GW101 := n2_; have GE101 := n3_; clear n0_ n1_ n2_ n3_; clear hb hbox hg; have hcz11_0 : w10.cell? ⟨gb101, 0, none⟩ = some (.int .i64 a0_0) := (blk_cell BK101.out 0).trans rfl; have hcz11_1 : w10.cell? ⟨gb101, 1, none⟩ = some (.int .i64 a0_1) := (blk_cell BK101.out 1).trans rfl; have hcz11_2 : w10.cell? ⟨gb101, 2, none⟩ = some (.int .i64 a0_2) := (blk_cell BK101.out 2).trans rfl; have hcz11_3 : w10.cell? ⟨gb101, 3, none⟩ = some (.int .i64 a0_3) := (blk_cell BK101.out 3).trans rfl; have hfz11_0 := blk_frozen BK101.out 0; have hfz11_1 := blk_frozen BK101.out 1; have hfz11_2 := blk_frozen BK101.out 2; have hfz11_3 := blk_frozen BK101.out 3) | (go_at_call 51; (with_reducible refine (spec_l15Measure.calls a0_0 a0_1 a0_2 a0_3 false _ A2.out).mono ?_); rintro e w12 ⟨rfl, hb⟩; have n0_ := Aside0.mk (blk_below (bS BK101.out) hb); have n1_ := Aside0.mk (below_step (by exact eS HB.out) hb); clear BK101; clear HB; have BK101 := n0_; have HB := n1_; clear n0_ n1_; (try clear hb); (try clear hb2); (try clear hk); (try clear hi))); try go_wp2_with (first | ((with_reducible refine gate_dst (N := 1) rfl ?_); refine box_event ?hg (N := 1) ?hd (cs := #[.int .i64 a0_0, .int .i64 a0_1, .int .i64 a0_2, .int .i64 a0_3]) (t := 36) ?hr ?_; (case hd => rfl); (case hg => rfl); (case hr => first | (go_simp; done) | (go_simp; rfl)); intro gb101 hg w10 hbox hb; have n0_ := Aside0.mk (below_step (by exact eS HB.out) hb); have n1_ := Aside0.mk (hbox); have n2_ := Aside0.mk ((by rw [hg]; exact (below_size (by exact eS HB.out)) : w.heap.size ≤ gb101)); have n3_ := Aside0.mk ((by rw [hg]; exact (below_size (by exact eS HB.out)) : w.heap.size ≤ gb101)); clear HB; have HB := n0_; have BK101 := n1_; have GW101 := n2_; have GE101 := n3_; clear n0_ n1_ n2_ n3_; clear hb hbox hg; have hcz11_0 : w10.cell? ⟨gb101, 0, none⟩ = some (.int .i64 a0_0) := (blk_cell BK101.out 0).trans rfl; have hcz11_1 : w10.cell? ⟨gb101, 1, none⟩ = some (.int .i64 a0_1) := (blk_cell BK101.out 1).trans rfl; have hcz11_2 : w10.cell? ⟨gb101, 2, none⟩ = some (.int .i64 a0_2) := (blk_cell BK101.out 2).trans rfl; have hcz11_3 : w10.cell? ⟨gb101, 3, none⟩ = some (.int .i64 a0_3) := (blk_cell BK101.out 3).trans rfl; have hfz11_0 := blk_frozen BK101.out 0; have hfz11_1 := blk_frozen BK101.out 1; have hfz11_2 := blk_frozen BK101.out 2; have hfz11_3 := blk_frozen BK101.out 3) | (go_at_call 51; (with_reducible refine (spec_l15Measure.calls a0_0 a0_1 a0_2 a0_3 false _ A2.out).mono ?_); rintro e w12 ⟨rfl, hb⟩; have n0_ := Aside0.mk (blk_below (bS BK101.out) hb); have n1_ := Aside0.mk (below_step (by exact eS HB.out) hb); clear BK101; clear HB; have BK101 := n0_; have HB := n1_; clear n0_ n1_; (try clear hb); (try clear hb2); (try clear hk); (try clear hi))))
    go_ret3
    exact ⟨by first | rfl | (simp [errW_none, errW_some] <;> rfl) | (simp [*, errW_none, errW_some] <;> rfl), by exact eS HB.out⟩

end Go.Proofs.Ytgohfbelppokcaa.X

-- Qstraighten
namespace Go.Proofs.Ytgohfbelppokcaa.Pure
open Go Go.RowKit Go.Proofs Go.Proofs.Ytgohfbelppokcaa.X Go.Proofs.YtgohfbelppokcaaW.PrintWords Go.Proofs.YtgohfbelppokcaaW.PrintLast
set_option linter.unusedVariables false
set_option linter.unusedSimpArgs false

def absI (x : Int) : Int := if x < 0 then -x else x
def straightenM (a b c d : Int) : Int × Int × Bool := if measureB a b c d then (absI (a - b), absI (c - d), true) else (0, 0, false)
theorem abs_eq {x : Int} (h : -9223372036854775807 ≤ x) (h2 : x ≤ 9223372036854775807) : impl_abs.f x = some (absI x) := by
  unfold impl_abs.f mx absI
  rw [w64 (by omega) (by omega)]
  congr 1
  (repeat' split) <;> omega
theorem most2_eq (x : Int) (h : -9223372036854775807 ≤ x) (h2 : x ≤ 9223372036854775807) : spec_l1Most.f x (-x) = some (absI x) := by
  unfold spec_l1Most.f absI
  (repeat' split) <;> simp <;> omega
theorem mostd_eq (a b : Int) (h : 0 ≤ a ∧ a ≤ 4611686018427387904) (h2 : 0 ≤ b ∧ b ≤ 4611686018427387904) : spec_l1Most.f (wrap64 (a - b)) (wrap64 (b - a)) = some (absI (a - b)) := by
  rw [w64 (by omega) (by omega), w64 (by omega) (by omega)]
  unfold spec_l1Most.f absI
  (repeat' split) <;> simp <;> omega
theorem straightenS_eq (a b c d : Int) : spec_StraightenBy.f a b c d = some (straightenM a b c d) := by
  simp only [spec_StraightenBy.f, l15Measure_eq, Option.bind_some, straightenM]
  cases h : measureB a b c d
  · simp
  · have hm := measure_of h
    simp only [if_true]
    rw [mostd_eq a b (by omega) (by omega), mostd_eq c d (by omega) (by omega)]
    rfl
theorem straightenI_eq (a b c d : Int) : impl_StraightenBy.f a b c d = some (straightenM a b c d) := by
  simp only [impl_StraightenBy.f, IsMeasure_eq, Option.bind_some, straightenM]
  cases h : measureB a b c d
  · simp
  · have hm := measure_of h
    simp only [if_true]
    rw [w64 (x := a - b) (by omega) (by omega), w64 (x := c - d) (by omega) (by omega), abs_eq (by omega) (by omega), abs_eq (by omega) (by omega)]
    rfl

end Go.Proofs.Ytgohfbelppokcaa.Pure

-- Qfraction
namespace Go.Proofs.Ytgohfbelppokcaa.Pure
open Go Go.RowKit Go.Proofs Go.Proofs.Ytgohfbelppokcaa.X Go.Proofs.YtgohfbelppokcaaW.PrintWords Go.Proofs.YtgohfbelppokcaaW.PrintLast
set_option linter.unusedVariables false
set_option linter.unusedSimpArgs false

theorem tdivE (p : Int) (n : Int) (hn : 0 < n) : Int.tdiv p n = if 0 ≤ p then p / n else -((-p) / n) := by
  split
  · rename_i h; exact Int.tdiv_eq_ediv_of_nonneg h
  · rename_i h
    have h2 : p = -(-p) := by omega
    rw [h2, Int.neg_tdiv, Int.tdiv_eq_ediv_of_nonneg (by omega), Int.neg_neg]
theorem ediv_bd {a b : Int} (ha : 0 ≤ a) (hb : 0 < b) : 0 ≤ a / b ∧ a / b ≤ a :=
  ⟨Int.ediv_nonneg ha (by omega), Int.ediv_le_self b ha⟩
/-- the greatest common divisor, as the loops find it -/
def gcdM (a b : Int) : Int := (Int.gcd a b : Int)
theorem gcd_loop {α : Type} (L : Nat → Int → Int → Option α) (r : Int → Option α) (hs : ∀ k a b, b ≠ 0 → L (k + 1) a b = L k b (Int.tmod a b)) (he : ∀ k a, L (k + 1) a 0 = r a) :
    ∀ n (a : Int) (b : Int) k, 0 ≤ a → 0 ≤ b → b.toNat ≤ n → n < k → L k a b = r (gcdM a b) := by
  intro n
  induction n with
  | zero =>
    intro a b k ha hb hn hk
    obtain ⟨k, rfl, _⟩ := succ_of hk
    obtain rfl : b = 0 := by omega
    rw [he]; congr 1
    simp [gcdM]; omega
  | succ n ih =>
    intro a b k ha hb hn hk
    obtain ⟨k, rfl, hk⟩ := succ_of hk
    by_cases hb0 : b = 0
    · subst hb0; rw [he]; congr 1; simp [gcdM]; omega
    · rw [hs k a b hb0]
      have hm : Int.tmod a b = a % b := Int.tmod_eq_emod_of_nonneg ha
      have h1 : 0 ≤ a % b := Int.emod_nonneg a hb0
      have h2 : a % b < b := Int.emod_lt_of_pos a (by omega)
      rw [hm, ih b (a % b) k (by omega) h1 (by omega) (by omega)]
      congr 1
      unfold gcdM
      obtain ⟨m, rfl⟩ := nat_of ha
      obtain ⟨q, rfl⟩ := nat_of hb
      have e : ((m : Int) % (q : Int)) = ((m % q : Nat) : Int) := by simp
      rw [e]
      show ((Nat.gcd q (m % q) : Nat) : Int) = ((Nat.gcd m q : Nat) : Int)
      rw [Nat.gcd_comm q, ← Nat.gcd_rec, Nat.gcd_comm]
theorem gcdM_pos {a b : Int} (hb : 0 < b) : 0 < gcdM a b := by
  unfold gcdM
  have := Int.gcd_pos_of_ne_zero_right a (show b ≠ 0 by omega)
  omega
theorem gcdM_le {a b : Int} (hb : 0 < b) : gcdM a b ≤ b := by
  unfold gcdM
  exact Int.le_of_dvd hb (Int.gcd_dvd_right a b)
theorem gcdM_mul {c a b : Int} (hc : 0 < c) : gcdM (c * a) (c * b) = c * gcdM a b := by
  unfold gcdM
  rw [Int.gcd_mul_left]
  push_cast
  rw [Int.natAbs_of_nonneg (by omega)]
/-- a fraction in lowest terms; num is not negative, den positive -/
def fracM (n d : Int) : Int × Int := (n / gcdM n d, d / gcdM n d)
theorem fracM_scale {c n d : Int} (hc : 0 < c) (hd : 0 < d) : fracM (c * n) (c * d) = fracM n d := by
  unfold fracM
  rw [gcdM_mul hc, Int.mul_ediv_mul_of_pos _ _ hc, Int.mul_ediv_mul_of_pos _ _ hc]
theorem fracM_bd {n d : Int} (hn : 0 ≤ n) (hd : 0 < d) : 0 ≤ (fracM n d).1 ∧ (fracM n d).1 ≤ n ∧ 0 < (fracM n d).2 ∧ (fracM n d).2 ≤ d := by
  have hp := gcdM_pos (a := n) hd
  have hl := gcdM_le (a := n) hd
  have h1 := ediv_bd hn hp
  have h2 := ediv_bd (a := d) (by omega) hp
  refine ⟨h1.1, h1.2, ?_, h2.2⟩
  have : gcdM n d ∣ d := Int.gcd_dvd_right n d
  exact Int.ediv_pos_of_pos_of_dvd hd (by omega) this
/-- n/d is the fraction, scaled -/
theorem fracM_mul {n d : Int} (hd : 0 < d) : n = gcdM n d * (fracM n d).1 ∧ d = gcdM n d * (fracM n d).2 := by
  unfold fracM
  exact ⟨(Int.mul_ediv_cancel' (Int.gcd_dvd_left n d)).symm, (Int.mul_ediv_cancel' (Int.gcd_dvd_right n d)).symm⟩
theorem frac_w {n d : Int} (hn : 0 ≤ n ∧ n ≤ 9223372036854775807) (hd : 0 < d ∧ d ≤ 9223372036854775807) : (wrap64 (Int.tdiv n (gcdM n d)), wrap64 (Int.tdiv d (gcdM n d))) = fracM n d := by
  have hb := fracM_bd hn.1 hd.1
  rw [Int.tdiv_eq_ediv_of_nonneg hn.1, Int.tdiv_eq_ediv_of_nonneg (by omega)]
  unfold fracM at hb ⊢
  simp only at hb
  rw [w64 (by omega) (by omega), w64 (by omega) (by omega)]
theorem fraction_eq {k : Nat} {n d : Int} (hn : 0 ≤ n ∧ n ≤ 9223372036854775807) (hd : 0 < d ∧ d ≤ 9223372036854775807) (hk : d.toNat < k) : impl_fraction.f k n d = some (fracM n d) := by
  unfold impl_fraction.f impl_gcd.f
  rw [abs_eq (by omega) (by omega)]
  have ha : absI n = n := by unfold absI; split <;> omega
  simp only [Option.bind_some, ha]
  rw [gcd_loop impl_gcd.l0 (fun a => some a) (fun k a b hb => by simp only [impl_gcd.l0]; rw [if_neg hb]) (fun k a => by simp only [impl_gcd.l0]; rw [if_pos trivial]) d.toNat n d k hn.1 (by omega) (Nat.le_refl _) hk]
  have hp := gcdM_pos (a := n) hd.1
  simp only [Option.bind_some]
  rw [if_neg (by omega), frac_w hn hd]
theorem l2Reduce_eq {k : Nat} {n d : Int} (hn : 0 ≤ n ∧ n ≤ 9223372036854775807) (hd : 0 < d ∧ d ≤ 9223372036854775807) (hk : d.toNat < k) : spec_l2Reduce.f k n d = some (fracM n d) := by
  unfold spec_l2Reduce.f
  have ha : absI n = n := by unfold absI; split <;> omega
  rw [w64 (x := -n) (by omega) (by omega), most2_eq n (by omega) (by omega), ha]
  simp only [Option.bind_some]
  rw [gcd_loop (fun k a b => spec_l2Reduce.l0 k n d a b) (fun a => if a = 0 then none else some (wrap64 (Int.tdiv n a), wrap64 (Int.tdiv d a))) (fun k a b hb => by simp only [spec_l2Reduce.l0]; rw [if_neg hb]) (fun k a => by simp only [spec_l2Reduce.l0]; rw [if_pos trivial]) d.toNat n d k hn.1 (by omega) (Nat.le_refl _) hk]
  have hp := gcdM_pos (a := n) hd.1
  rw [if_neg (by omega), frac_w hn hd]

end Go.Proofs.Ytgohfbelppokcaa.Pure

-- Qgauge
namespace Go.Proofs.Ytgohfbelppokcaa.Pure
open Go Go.RowKit Go.Proofs Go.Proofs.Ytgohfbelppokcaa.X Go.Proofs.YtgohfbelppokcaaW.PrintWords Go.Proofs.YtgohfbelppokcaaW.PrintLast
set_option linter.unusedVariables false
set_option linter.unusedSimpArgs false

def gaugeB (a b c : Int) : Bool := decide (1 ≤ a ∧ a ≤ 200) && (decide (1 ≤ b ∧ b ≤ 200) && decide (0 ≤ c ∧ c ≤ 200))
theorem gauge_of {a b c : Int} (h : gaugeB a b c = true) : 1 ≤ a ∧ a ≤ 200 ∧ 1 ≤ b ∧ b ≤ 200 ∧ 0 ≤ c ∧ c ≤ 200 := by
  simp [gaugeB] at h
  omega
theorem l15Gauge_eq (a b c : Int) : spec_l15Gauge.f a b c = some (gaugeB a b c) := by
  simp only [spec_l15Gauge.f, l1In_eq, Option.bind_some, ite_sf, gaugeB]
theorem IsGauge_eq (a b c : Int) : impl_IsGauge.f a b c = some (gaugeB a b c) := by
  simp only [impl_IsGauge.f, in_eq, Option.bind_some, ite_sf, gaugeB]

end Go.Proofs.Ytgohfbelppokcaa.Pure

-- XspecSizeOfF30
namespace Go.Proofs.Ytgohfbelppokcaa.X
open Ho (bS eS)
open Go.RowKit Go.Proofs.YtgohfbelppokcaaW.PrintWords Go.Proofs.YtgohfbelppokcaaW.PrintLast Go.Proofs.YtgohfbelppokcaaW.PrintMore
attribute [local go_sem] max2_int min2_int max_two min_two max_three min_three max_four min_four   -- for this text's walks alone
set_option linter.unusedVariables false
set_option linter.unusedSimpArgs false

/-! ### spec_SizeOf: function 30 -/
def spec_SizeOf.f (k : Nat) (a0_0 : Int) (a0_1 : Int) (l0_2 : List Int) (a1_0 : Int) (a1_1 : Int) (a1_2 : Int) : Option (Int × Int × Int × Int × Bool) := (spec_l15Asked.f k a0_0 a0_1 l0_2 a1_0 a1_1 a1_2).bind fun t103 => (if t103 = true then ((spec_l15Wide.f a0_0 a1_0 a1_2).bind fun bt104 => ((spec_l15Wide.f a0_1 a1_1 a1_2).bind fun bt106 => ((spec_l2Reduce.f k bt104.1 bt104.2).bind fun bt108 => ((spec_l2Reduce.f k bt106.1 bt106.2).bind fun bt110 => (some (bt108.1, bt108.2, bt110.1, bt110.2, true)))))) else (some (0, 0, 0, 0, false)))
theorem spec_SizeOf.mono : ∀ a0 a1 a2 a3 a4 a5 k, LeO (spec_SizeOf.f k a0 a1 a2 a3 a4 a5) (spec_SizeOf.f (k + 1) a0 a1 a2 a3 a4 a5) := by
  intro a0 a1 a2 a3 a4 a5 k
  unfold spec_SizeOf.f
  repeat' first
      | (with_reducible exact spec_l15Asked.mono _ _ _ _ _ _ _)
      | (with_reducible exact spec_l2Reduce.mono _ _ _)
      | (with_reducible exact LeO.refl _)
      | (with_reducible exact LeO.none _)
      | (with_reducible refine LeO.ite ?_ ?_)
      | (with_reducible refine LeO.bind ?_ (fun _ => ?_))
      | exact spec_l15Asked.mono _ _ _ _ _ _ _
      | exact spec_l2Reduce.mono _ _ _
      | exact LeO.none _
      | refine LeO.ite ?_ ?_
      | refine LeO.bind ?_ (fun _ => ?_)
set_option maxHeartbeats 8000000 in
set_option maxRecDepth 100000 in
theorem spec_SizeOf.calls (k : Nat) (a0_0 : Int) (a0_1 : Int) (A0_2 : Option Addr) (c0_2 : Nat) (l0_2 : List Int) (a1_0 : Int) (a1_1 : Int) (a1_2 : Int) (r1 : Int) (r2 : Int) (r3 : Int) (r4 : Int) (r5 : Bool) (w : World) (hr0_2 : Kd.C (Kd.int .i64) w A0_2 l0_2.length l0_2) (hc0_2 : l0_2.length ≤ c0_2) (h : spec_SizeOf.f k a0_0 a0_1 l0_2 a1_0 a1_1 a1_2 = some (r1, r2, r3, r4, r5)) :
    Calls Try.prog 30 #[.agg #[.int .i64 a0_0, .int .i64 a0_1, .slice A0_2 l0_2.length c0_2], .agg #[.int .i64 a1_0, .int .i64 a1_1, .int .i64 a1_2]] w fun e w' => e = .returned (.tuple #[.int .i64 r1, .int .i64 r2, .int .i64 r3, .int .i64 r4, .bool r5]) ∧ Below w.heap.size w w' := by
  have hu46 := Try.underlying46
  have hu25 := Try.underlying25
  have HR0_2 := Aside0.mk hr0_2
  have HC0_2 := Aside0.mk hc0_2
  clear hr0_2 hc0_2
  have HB := Aside0.mk (Below.refl w.heap.size w)
  have H : ((spec_l15Asked.f k a0_0 a0_1 l0_2 a1_0 a1_1 a1_2).bind fun t103 => (if t103 = true then ((spec_l15Wide.f a0_0 a1_0 a1_2).bind fun bt104 => ((spec_l15Wide.f a0_1 a1_1 a1_2).bind fun bt106 => ((spec_l2Reduce.f k bt104.1 bt104.2).bind fun bt108 => ((spec_l2Reduce.f k bt106.1 bt106.2).bind fun bt110 => (some (bt108.1, bt108.2, bt110.1, bt110.2, true)))))) else (some (0, 0, 0, 0, false)))) = some (r1, r2, r3, r4, r5) := h
  clear h
  replace H := Option.bind_eq_some_iff.mp H
  obtain ⟨t103, A30, H⟩ := H
  replace H : (if t103 = true then ((spec_l15Wide.f a0_0 a1_0 a1_2).bind fun bt104 => ((spec_l15Wide.f a0_1 a1_1 a1_2).bind fun bt106 => ((spec_l2Reduce.f k bt104.1 bt104.2).bind fun bt108 => ((spec_l2Reduce.f k bt106.1 bt106.2).bind fun bt110 => (some (bt108.1, bt108.2, bt110.1, bt110.2, true)))))) else (some (0, 0, 0, 0, false))) = some (r1, r2, r3, r4, r5) := H
  have A3 := Aside0.mk A30
  clear A30
  by_cases c4 : t103 = true
  · subst c4
    have H1 : ((spec_l15Wide.f a0_0 a1_0 a1_2).bind fun bt104 => ((spec_l15Wide.f a0_1 a1_1 a1_2).bind fun bt106 => ((spec_l2Reduce.f k bt104.1 bt104.2).bind fun bt108 => ((spec_l2Reduce.f k bt106.1 bt106.2).bind fun bt110 => (some (bt108.1, bt108.2, bt110.1, bt110.2, true)))))) = some (r1, r2, r3, r4, r5) := by rw [if_pos rfl] at H; exact H
    clear H
    have H := H1
    clear H1
    replace H := Option.bind_eq_some_iff.mp H
    obtain ⟨⟨t104, t105⟩, A50, H⟩ := H
    replace H : ((spec_l15Wide.f a0_1 a1_1 a1_2).bind fun bt106 => ((spec_l2Reduce.f k t104 t105).bind fun bt108 => ((spec_l2Reduce.f k bt106.1 bt106.2).bind fun bt110 => (some (bt108.1, bt108.2, bt110.1, bt110.2, true))))) = some (r1, r2, r3, r4, r5) := H
    have A5 := Aside0.mk A50
    clear A50
    replace H := Option.bind_eq_some_iff.mp H
    obtain ⟨⟨t106, t107⟩, A60, H⟩ := H
    replace H : ((spec_l2Reduce.f k t104 t105).bind fun bt108 => ((spec_l2Reduce.f k t106 t107).bind fun bt110 => (some (bt108.1, bt108.2, bt110.1, bt110.2, true)))) = some (r1, r2, r3, r4, r5) := H
    have A6 := Aside0.mk A60
    clear A60
    replace H := Option.bind_eq_some_iff.mp H
    obtain ⟨⟨t108, t109⟩, A70, H⟩ := H
    replace H : ((spec_l2Reduce.f k t106 t107).bind fun bt110 => (some (t108, t109, bt110.1, bt110.2, true))) = some (r1, r2, r3, r4, r5) := H
    have A7 := Aside0.mk A70
    clear A70
    replace H := Option.bind_eq_some_iff.mp H
    obtain ⟨⟨t110, t111⟩, A80, H⟩ := H
    replace H : (some (t108, t109, t110, t111, true)) = some (r1, r2, r3, r4, r5) := H
    have A8 := Aside0.mk A80
    clear A80
    simp only [Option.some.injEq, Prod.mk.injEq] at H
    obtain ⟨rfl, rfl, rfl, rfl, rfl⟩ := H
    go_enter Try.func30, Try.ntmps30
    go_wp2_with (first | ((with_reducible refine gate_dst (N := 2) rfl ?_); refine box_event ?hg (N := 2) ?hd (cs := #[.int .i64 a0_0, .int .i64 a0_1, .slice A0_2 l0_2.length c0_2]) (t := 46) ?hr ?_; (case hd => rfl); (case hg => rfl); (case hr => first | (go_simp; done) | (go_simp; rfl)); intro gb101 hg w9 hbox hb; have n0_ := Aside0.mk (below_step (by exact eS HB.out) hb); have n1_ := Aside0.mk (hbox); have n2_ := Aside0.mk ((by rw [hg]; exact (below_size (by exact eS HB.out)) : w.heap.size ≤ gb101)); have n3_ := Aside0.mk ((by rw [hg]; exact (below_size (by exact eS HB.out)) : w.heap.size ≤ gb101)); clear HB; have HB := n0_; have BK101 := n1_; have GW101 := n2_; have GE101 := n3_; clear n0_ n1_ n2_ n3_; clear hb hbox hg) | ((with_reducible refine gate_dst (N := 3) rfl ?_); refine box_event ?hg (N := 3) ?hd (cs := #[.int .i64 a1_0, .int .i64 a1_1, .int .i64 a1_2]) (t := 25) ?hr ?_; (case hd => rfl); (case hg => rfl); (case hr => first | (go_simp; done) | (go_simp; rfl)); intro gb102 hg w10 hbox hb; have n0_ := Aside0.mk (blk_below (bS BK101.out) hb); have n1_ := Aside0.mk (below_step (by exact eS HB.out) hb); have n2_ := Aside0.mk (hbox); have n3_ := Aside0.mk ((by rw [hg]; exact (below_size (by exact eS HB.out)) : w.heap.size ≤ gb102)); have n4_ := Aside0.mk ((by rw [hg]; exact (below_size (by exact eS HB.out)) : w.heap.size ≤ gb102)); have n5_ := Aside0.mk ((by rw [hg]; exact Nat.ne_of_lt (blk_lt (bS BK101.out)) : gb101 ≠ gb102)); have n6_ := Aside0.mk ((by rw [hg]; exact Nat.ne_of_gt (blk_lt (bS BK101.out)) : gb102 ≠ gb101)); clear BK101; clear HB; have BK101 := n0_; have HB := n1_; have BK102 := n2_; have GW102 := n3_; have GE102 := n4_; have NB101_102 := n5_; have NB102_101 := n6_; clear n0_ n1_ n2_ n3_ n4_ n5_ n6_; clear hb hbox hg; have hnb11 := NB101_102.out; have hnc11 := NB102_101.out; have hcz12_0 : w10.cell? ⟨gb101, 0, none⟩ = some (.int .i64 a0_0) := (blk_cell BK101.out 0).trans rfl; have hcz12_1 : w10.cell? ⟨gb101, 1, none⟩ = some (.int .i64 a0_1) := (blk_cell BK101.out 1).trans rfl; have hcz12_2 : w10.cell? ⟨gb101, 2, none⟩ = some (.slice A0_2 l0_2.length c0_2) := (blk_cell BK101.out 2).trans rfl; have hfz12_0 := blk_frozen BK101.out 0; have hfz12_1 := blk_frozen BK101.out 1; have hfz12_2 := blk_frozen BK101.out 2; have hcz13_0 : w10.cell? ⟨gb102, 0, none⟩ = some (.int .i64 a1_0) := (blk_cell BK102.out 0).trans rfl; have hcz13_1 : w10.cell? ⟨gb102, 1, none⟩ = some (.int .i64 a1_1) := (blk_cell BK102.out 1).trans rfl; have hcz13_2 : w10.cell? ⟨gb102, 2, none⟩ = some (.int .i64 a1_2) := (blk_cell BK102.out 2).trans rfl; have hfz13_0 := blk_frozen BK102.out 0; have hfz13_1 := blk_frozen BK102.out 1; have hfz13_2 := blk_frozen BK102.out 2) | ((with_reducible refine gate_callee (f := 58) rfl ?_); refine goesL_ (some 15) rfl rfl Try.func58 (by kernel_rfl) rfl #[.agg #[.int .i64 a0_0, .int .i64 a0_1, .slice A0_2 l0_2.length c0_2], .agg #[.int .i64 a1_0, .int .i64 a1_1, .int .i64 a1_2]] rfl (by (try simp only [List.map_toArray, List.map_cons, List.map_nil]); first | done | rfl | (simp only [List.length_drop, List.length_take]; rfl)) ?_; (with_reducible refine (spec_l15Asked.calls k a0_0 a0_1 _ _ l0_2 a1_0 a1_1 a1_2 true _ ?side1 ?side2 A3.out).mono ?_); (case side1 => repeat (first | exact (Kd.C_below HR0_2.out HB.out) | (with_reducible refine Kd.C_alloc ?_ _) | (with_reducible refine Kd.C_drewN ?_ _) | (with_reducible refine Kd.C_drew ?_))); (case side2 => exact HC0_2.out); rintro e w14 ⟨rfl, hb⟩; refine ⟨_, rfl, ?_⟩; have n0_ := Aside0.mk (blk_below (bS BK101.out) hb); have n1_ := Aside0.mk (blk_below (bS BK102.out) hb); have n2_ := Aside0.mk (below_step (by exact eS HB.out) hb); clear BK101; clear BK102; clear HB; have BK101 := n0_; have BK102 := n1_; have HB := n2_; clear n0_ n1_ n2_; (try clear hb); (try clear hb2); (try clear hk); (try clear hi); have hcz15_0 : w14.cell? ⟨gb101, 0, none⟩ = some (.int .i64 a0_0) := (blk_cell BK101.out 0).trans rfl; have hcz15_1 : w14.cell? ⟨gb101, 1, none⟩ = some (.int .i64 a0_1) := (blk_cell BK101.out 1).trans rfl; have hcz15_2 : w14.cell? ⟨gb101, 2, none⟩ = some (.slice A0_2 l0_2.length c0_2) := (blk_cell BK101.out 2).trans rfl; have hfz15_0 := blk_frozen BK101.out 0; have hfz15_1 := blk_frozen BK101.out 1; have hfz15_2 := blk_frozen BK101.out 2; have hcz16_0 : w14.cell? ⟨gb102, 0, none⟩ = some (.int .i64 a1_0) := (blk_cell BK102.out 0).trans rfl; have hcz16_1 : w14.cell? ⟨gb102, 1, none⟩ = some (.int .i64 a1_1) := (blk_cell BK102.out 1).trans rfl; have hcz16_2 : w14.cell? ⟨gb102, 2, none⟩ = some (.int .i64 a1_2) := (blk_cell BK102.out 2).trans rfl; have hfz16_0 := blk_frozen BK102.out 0; have hfz16_1 := blk_frozen BK102.out 1; have hfz16_2 := blk_frozen BK102.out 2) | ((with_reducible refine gate_callee (f := 59) rfl ?_); refine goesL_ (some 24) rfl rfl Try.func59 (by kernel_rfl) rfl #[.int .i64 a0_0, .int .i64 a1_0, .int .i64 a1_2] rfl (by (try simp only [List.map_toArray, List.map_cons, List.map_nil]); first | done | rfl | (simp only [List.length_drop, List.length_take]; rfl)) ?_; (with_reducible refine (spec_l15Wide.calls a0_0 a1_0 a1_2 t104 t105 _ A5.out).mono ?_); rintro e w' ⟨rfl, ⟨nd, rfl⟩⟩; refine ⟨_, rfl, ?_⟩) | ((with_reducible refine gate_callee (f := 59) rfl ?_); refine goesL_ (some 34) rfl rfl Try.func59 (by kernel_rfl) rfl #[.int .i64 a0_1, .int .i64 a1_1, .int .i64 a1_2] rfl (by (try simp only [List.map_toArray, List.map_cons, List.map_nil]); first | done | rfl | (simp only [List.length_drop, List.length_take]; rfl)) ?_; (with_reducible refine (spec_l15Wide.calls a0_1 a1_1 a1_2 t106 t107 _ A6.out).mono ?_); rintro e w' ⟨rfl, ⟨nd, rfl⟩⟩; refine ⟨_, rfl, ?_⟩) | ((with_reducible refine gate_callee (f := 55) rfl ?_); refine goesL_ (some 40) rfl rfl Try.func55 (by kernel_rfl) rfl #[.int .i64 t104, .int .i64 t105] rfl (by (try simp only [List.map_toArray, List.map_cons, List.map_nil]); first | done | rfl | (simp only [List.length_drop, List.length_take]; rfl)) ?_; (with_reducible refine (spec_l2Reduce.calls k t104 t105 t108 t109 _ A7.out).mono ?_); rintro e w' ⟨rfl, ⟨nd, rfl⟩⟩; refine ⟨_, rfl, ?_⟩) | ((with_reducible refine gate_callee (f := 55) rfl ?_); refine goesL_ (some 46) rfl rfl Try.func55 (by kernel_rfl) rfl #[.int .i64 t106, .int .i64 t107] rfl (by (try simp only [List.map_toArray, List.map_cons, List.map_nil]); first | done | rfl | (simp only [List.length_drop, List.length_take]; rfl)) ?_; (with_reducible refine (spec_l2Reduce.calls k t106 t107 t110 t111 _ A8.out).mono ?_); rintro e w' ⟨rfl, ⟨nd, rfl⟩⟩; refine ⟨_, rfl, ?_⟩))
    refine bodyPost_ret (results_list (rs := [.tmp 4, .tmp 5, .tmp 6, .tmp 7, .tmp 8]) rfl (by simp) (.tmp (.tmp (.tmp (.tmp (.tmp .nil)))))) rfl ?_
    exact ⟨by first | rfl | (simp [errW_none, errW_some] <;> rfl) | (simp [*, errW_none, errW_some] <;> rfl), by exact eS HB.out⟩
  · replace c4 := Bool.eq_false_iff.mpr c4
    subst c4
    have H1 : (some (0, 0, 0, 0, false)) = some (r1, r2, r3, r4, r5) := by rw [if_neg (show ¬ (false = true) by decide)] at H; exact H
    clear H
    have H := H1
    clear H1
    simp only [Option.some.injEq, Prod.mk.injEq] at H
    obtain ⟨rfl, rfl, rfl, rfl, rfl⟩ := H
    go_enter Try.func30, Try.ntmps30
    go_wp2_with (first | ((with_reducible refine gate_dst (N := 2) rfl ?_); refine box_event ?hg (N := 2) ?hd (cs := #[.int .i64 a0_0, .int .i64 a0_1, .slice A0_2 l0_2.length c0_2]) (t := 46) ?hr ?_; (case hd => rfl); (case hg => rfl); (case hr => first | (go_simp; done) | (go_simp; rfl)); intro gb101 hg w17 hbox hb; have n0_ := Aside0.mk (below_step (by exact eS HB.out) hb); have n1_ := Aside0.mk (hbox); have n2_ := Aside0.mk ((by rw [hg]; exact (below_size (by exact eS HB.out)) : w.heap.size ≤ gb101)); have n3_ := Aside0.mk ((by rw [hg]; exact (below_size (by exact eS HB.out)) : w.heap.size ≤ gb101)); clear HB; have HB := n0_; have BK101 := n1_; have GW101 := n2_; have GE101 := n3_; clear n0_ n1_ n2_ n3_; clear hb hbox hg) | ((with_reducible refine gate_dst (N := 3) rfl ?_); refine box_event ?hg (N := 3) ?hd (cs := #[.int .i64 a1_0, .int .i64 a1_1, .int .i64 a1_2]) (t := 25) ?hr ?_; (case hd => rfl); (case hg => rfl); (case hr => first | (go_simp; done) | (go_simp; rfl)); intro gb102 hg w18 hbox hb; have n0_ := Aside0.mk (blk_below (bS BK101.out) hb); have n1_ := Aside0.mk (below_step (by exact eS HB.out) hb); have n2_ := Aside0.mk (hbox); have n3_ := Aside0.mk ((by rw [hg]; exact (below_size (by exact eS HB.out)) : w.heap.size ≤ gb102)); have n4_ := Aside0.mk ((by rw [hg]; exact (below_size (by exact eS HB.out)) : w.heap.size ≤ gb102)); have n5_ := Aside0.mk ((by rw [hg]; exact Nat.ne_of_lt (blk_lt (bS BK101.out)) : gb101 ≠ gb102)); have n6_ := Aside0.mk ((by rw [hg]; exact Nat.ne_of_gt (blk_lt (bS BK101.out)) : gb102 ≠ gb101)); clear BK101; clear HB; have BK101 := n0_; have HB := n1_; have BK102 := n2_; have GW102 := n3_; have GE102 := n4_; have NB101_102 := n5_; have NB102_101 := n6_; clear n0_ n1_ n2_ n3_ n4_ n5_ n6_; clear hb hbox hg; have hnb19 := NB101_102.out; have hnc19 := NB102_101.out; have hcz20_0 : w18.cell? ⟨gb101, 0, none⟩ = some (.int .i64 a0_0) := (blk_cell BK101.out 0).trans rfl; have hcz20_1 : w18.cell? ⟨gb101, 1, none⟩ = some (.int .i64 a0_1) := (blk_cell BK101.out 1).trans rfl; have hcz20_2 : w18.cell? ⟨gb101, 2, none⟩ = some (.slice A0_2 l0_2.length c0_2) := (blk_cell BK101.out 2).trans rfl; have hfz20_0 := blk_frozen BK101.out 0; have hfz20_1 := blk_frozen BK101.out 1; have hfz20_2 := blk_frozen BK101.out 2; have hcz21_0 : w18.cell? ⟨gb102, 0, none⟩ = some (.int .i64 a1_0) := (blk_cell BK102.out 0).trans rfl; have hcz21_1 : w18.cell? ⟨gb102, 1, none⟩ = some (.int .i64 a1_1) := (blk_cell BK102.out 1).trans rfl; have hcz21_2 : w18.cell? ⟨gb102, 2, none⟩ = some (.int .i64 a1_2) := (blk_cell BK102.out 2).trans rfl; have hfz21_0 := blk_frozen BK102.out 0; have hfz21_1 := blk_frozen BK102.out 1; have hfz21_2 := blk_frozen BK102.out 2) | ((with_reducible refine gate_callee (f := 58) rfl ?_); refine goesL_ (some 15) rfl rfl Try.func58 (by kernel_rfl) rfl #[.agg #[.int .i64 a0_0, .int .i64 a0_1, .slice A0_2 l0_2.length c0_2], .agg #[.int .i64 a1_0, .int .i64 a1_1, .int .i64 a1_2]] rfl (by (try simp only [List.map_toArray, List.map_cons, List.map_nil]); first | done | rfl | (simp only [List.length_drop, List.length_take]; rfl)) ?_; (with_reducible refine (spec_l15Asked.calls k a0_0 a0_1 _ _ l0_2 a1_0 a1_1 a1_2 false _ ?side1 ?side2 A3.out).mono ?_); (case side1 => repeat (first | exact (Kd.C_below HR0_2.out HB.out) | (with_reducible refine Kd.C_alloc ?_ _) | (with_reducible refine Kd.C_drewN ?_ _) | (with_reducible refine Kd.C_drew ?_))); (case side2 => exact HC0_2.out); rintro e w22 ⟨rfl, hb⟩; refine ⟨_, rfl, ?_⟩; have n0_ := Aside0.mk (blk_below (bS BK101.out) hb); have n1_ := Aside0.mk (blk_below (bS BK102.out) hb); have n2_ := Aside0.mk (below_step (by exact eS HB.out) hb); clear BK101; clear BK102; clear HB; have BK101 := n0_; have BK102 := n1_; have HB := n2_; clear n0_ n1_ n2_; (try clear hb); (try clear hb2); (try clear hk); (try clear hi)))
    refine bodyPost_ret (results_list (rs := [.tmp 4, .tmp 5, .tmp 6, .tmp 7, .tmp 8]) rfl (by simp) (.tmp (.tmp (.tmp (.tmp (.tmp .nil)))))) rfl ?_
    exact ⟨by first | rfl | (simp [errW_none, errW_some] <;> rfl) | (simp [*, errW_none, errW_some] <;> rfl), by exact eS HB.out⟩

end Go.Proofs.Ytgohfbelppokcaa.X

-- Qsize
namespace Go.Proofs.Ytgohfbelppokcaa.Pure
open Go Go.RowKit Go.Proofs Go.Proofs.Ytgohfbelppokcaa.X Go.Proofs.YtgohfbelppokcaaW.PrintWords Go.Proofs.YtgohfbelppokcaaW.PrintLast
set_option linter.unusedVariables false
set_option linter.unusedSimpArgs false

/-- the width, or the length, of a carpet, before it is reduced -/
def wideM (n per edge : Int) : Int := 100 * n + 2 * edge * per
theorem wide_bd {n per edge : Int} (hn : 1 ≤ n ∧ n ≤ 8) (hp : 1 ≤ per ∧ per ≤ 200) (he : 0 ≤ edge ∧ edge ≤ 200) : 100 ≤ wideM n per edge ∧ wideM n per edge ≤ 80800 ∧ wrap64 ((wrap64 (100 * n)) + (wrap64 ((wrap64 (2 * edge)) * per))) = wideM n per edge := by
  have h1 : wrap64 (2 * edge) = 2 * edge := w64 (by omega) (by omega)
  have hm := mul_bd (a := 2 * edge) (b := per) (A := 400) (B := 200) (by omega) (by omega) (by omega) (by omega)
  unfold wideM
  refine ⟨by omega, by omega, ?_⟩
  rw [h1, w64 (x := 100 * n) (by omega) (by omega), w64 (x := 2 * edge * per) (by omega) (by omega), w64 (by omega) (by omega)]
def sizeM (w h : Int) (l : List Int) (a b e : Int) : Int × Int × Int × Int × Bool :=
  if chartB w h l && gaugeB a b e then ((fracM (wideM w a e) a).1, (fracM (wideM w a e) a).2, (fracM (wideM h b e) b).1, (fracM (wideM h b e) b).2, true) else (0, 0, 0, 0, false)
theorem asked_eq {k : Nat} {w h : Int} {l : List Int} (a b e : Int) (hk : l.length < k) (hl : l.length ≤ 1048576) : spec_l15Asked.f k w h l a b e = some (chartB w h l && gaugeB a b e) := by
  simp only [spec_l15Asked.f, l2Good_eq hk hl, l15Gauge_eq, Option.bind_some, ite_sf]
theorem size_of {w h a b e : Int} {l : List Int} (hc : (chartB w h l && gaugeB a b e) = true) : (100 ≤ wideM w a e ∧ wideM w a e ≤ 80800 ∧ wrap64 ((wrap64 (100 * w)) + (wrap64 ((wrap64 (2 * e)) * a))) = wideM w a e) ∧ (100 ≤ wideM h b e ∧ wideM h b e ≤ 80800 ∧ wrap64 ((wrap64 (100 * h)) + (wrap64 ((wrap64 (2 * e)) * b))) = wideM h b e) ∧ (1 ≤ a ∧ a ≤ 200) ∧ (1 ≤ b ∧ b ≤ 200) := by
  rw [Bool.and_eq_true] at hc
  have h1 := chart_of hc.1; have h2 := gauge_of hc.2
  exact ⟨wide_bd h1.1 (by omega) (by omega), wide_bd h1.2.1 (by omega) (by omega), by omega, by omega⟩
theorem sizeS_eq {k : Nat} {w h : Int} {l : List Int} (a b e : Int) (hk : l.length < k) (hk2 : 300 < k) (hl : l.length ≤ 1048576) : spec_SizeOf.f k w h l a b e = some (sizeM w h l a b e) := by
  simp only [spec_SizeOf.f, asked_eq a b e hk hl, Option.bind_some, sizeM, spec_l15Wide.f]
  cases hc : (chartB w h l && gaugeB a b e)
  · simp
  obtain ⟨h1, h2, h3, h4⟩ := size_of hc
  simp only [if_true, h1.2.2, h2.2.2]
  rw [l2Reduce_eq (by omega) (by omega) (by omega), l2Reduce_eq (by omega) (by omega) (by omega)]
  rfl
theorem sizeI_eq {k : Nat} {w h : Int} {l : List Int} (a b e : Int) (hk2 : 300 < k) : impl_SizeOf.f k w h l a b e = some (sizeM w h l a b e) := by
  obtain ⟨k, rfl, hk⟩ := succ_of hk2
  simp only [impl_SizeOf.f, impl_SizeOf.j0, IsChart_eq, IsGauge_eq, Option.bind_some, sizeM, impl_Gauge_width.f, impl_Gauge_length.f]
  cases hc : chartB w h l
  · simp
  cases hg : gaugeB a b e
  · simp
  obtain ⟨h1, h2, h3, h4⟩ := size_of (show (chartB w h l && gaugeB a b e) = true by simp [hc, hg])
  simp only [if_true, h1.2.2, h2.2.2, Bool.not_true, Bool.false_eq_true, if_false, Bool.and_self]
  rw [fraction_eq (by omega) (by omega) (by omega), fraction_eq (by omega) (by omega) (by omega)]
  rfl

end Go.Proofs.Ytgohfbelppokcaa.Pure

-- Qaspect
namespace Go.Proofs.Ytgohfbelppokcaa.Pure
open Go Go.RowKit Go.Proofs Go.Proofs.Ytgohfbelppokcaa.X Go.Proofs.YtgohfbelppokcaaW.PrintWords Go.Proofs.YtgohfbelppokcaaW.PrintLast
set_option linter.unusedVariables false
set_option linter.unusedSimpArgs false

def aspectM (w h : Int) (l : List Int) (a b e : Int) : Int × Int × Bool :=
  if chartB w h l && gaugeB a b e then ((fracM (wideM w a e * b) (a * wideM h b e)).1, (fracM (wideM w a e * b) (a * wideM h b e)).2, true) else (0, 0, false)
theorem aspect_w {n m d c : Int} (hn : 100 ≤ n ∧ n ≤ 80800) (hm : 100 ≤ m ∧ m ≤ 80800) (hd : 1 ≤ d ∧ d ≤ 200) (hc : 1 ≤ c ∧ c ≤ 200) :
    (0 ≤ n * c ∧ n * c ≤ 16160000) ∧ (0 < d * m ∧ d * m ≤ 16160000) := by
  have h1 := mul_bd (a := n) (b := c) (A := 80800) (B := 200) (by omega) (by omega) (by omega) (by omega)
  have h2 := mul_bd (a := d) (b := m) (A := 200) (B := 80800) (by omega) (by omega) (by omega) (by omega)
  have h3 : 0 < d * m := Int.mul_pos (by omega) (by omega)
  exact ⟨by omega, by omega⟩
theorem aspectS_eq {k : Nat} {w h : Int} {l : List Int} (a b e : Int) (hk : l.length < k) (hk2 : 16160001 < k) (hl : l.length ≤ 1048576) : spec_AspectOf.f k w h l a b e = some (aspectM w h l a b e) := by
  simp only [spec_AspectOf.f, asked_eq a b e hk hl, Option.bind_some, aspectM, spec_l15Wide.f]
  cases hc : (chartB w h l && gaugeB a b e)
  · simp
  obtain ⟨h1, h2, h3, h4⟩ := size_of hc
  simp only [if_true, h1.2.2, h2.2.2]
  have hw := aspect_w (n := wideM w a e) (m := wideM h b e) (by omega) (by omega) h3 h4
  rw [w64 (x := wideM w a e * b) (by omega) (by omega), w64 (x := a * wideM h b e) (by omega) (by omega), l2Reduce_eq (by omega) (by omega) (by omega)]
  rfl
theorem aspectI_eq {k : Nat} {w h : Int} {l : List Int} (a b e : Int) (hk2 : 16160001 < k) : impl_AspectOf.f k w h l a b e = some (aspectM w h l a b e) := by
  simp only [impl_AspectOf.f, sizeI_eq (k := k) (w := w) (h := h) (l := l) a b e (by omega), Option.bind_some, aspectM, sizeM]
  cases hc : (chartB w h l && gaugeB a b e)
  · simp
  obtain ⟨h1, h2, h3, h4⟩ := size_of hc
  simp only [if_true]
  have f1 := fracM_bd (n := wideM w a e) (d := a) (by omega) (by omega)
  have f2 := fracM_bd (n := wideM h b e) (d := b) (by omega) (by omega)
  have m1 := fracM_mul (n := wideM w a e) (d := a) (by omega)
  have m2 := fracM_mul (n := wideM h b e) (d := b) (by omega)
  have g1 := gcdM_pos (a := wideM w a e) (b := a) (by omega)
  have g2 := gcdM_pos (a := wideM h b e) (b := b) (by omega)
  generalize wideM w a e = n at *
  generalize wideM h b e = m at *
  generalize (fracM n a).1 = n1 at *
  generalize (fracM n a).2 = a1 at *
  generalize (fracM m b).1 = m1' at *
  generalize (fracM m b).2 = b1 at *
  generalize gcdM n a = g at *
  generalize gcdM m b = g' at *
  have b1' := mul_bd (a := n1) (b := b1) (A := 80800) (B := 200) (by omega) (by omega) (by omega) (by omega)
  have b2' := mul_bd (a := a1) (b := m1') (A := 200) (B := 80800) (by omega) (by omega) (by omega) (by omega)
  have hm : 0 < m1' := by
    rcases Int.lt_or_le 0 m1' with h | h
    · exact h
    · have : m1' = 0 := by omega
      rw [this] at m2; simp at m2; omega
  have b3 : 0 < a1 * m1' := Int.mul_pos (by omega) hm
  rw [w64 (x := n1 * b1) (by omega) (by omega), w64 (x := a1 * m1') (by omega) (by omega), fraction_eq (by omega) (by omega) (by omega)]
  have e1 : n * b = (g * g') * (n1 * b1) := by rw [m1.1, m2.2]; simp [Int.mul_assoc, Int.mul_comm, Int.mul_left_comm]
  have e2 : a * m = (g * g') * (a1 * m1') := by rw [m1.2, m2.1]; simp [Int.mul_assoc, Int.mul_comm, Int.mul_left_comm]
  rw [e1, e2, fracM_scale (Int.mul_pos g1 g2) b3]
  rfl

end Go.Proofs.Ytgohfbelppokcaa.Pure

-- PureFnExactAspectOf
namespace Go.Proofs.Ytgohfbelppokcaa.Pure
open Go Go.RowKit Go.Proofs Go.Proofs.Ytgohfbelppokcaa.X Go.Proofs.YtgohfbelppokcaaW.PrintWords Go.Proofs.YtgohfbelppokcaaW.PrintLast
set_option linter.unusedVariables false
set_option linter.unusedSimpArgs false

theorem FnExactAspectOf : laws_FnExactAspectOf.Pure := by
  intro w h l a b e _ _ hl _ _ _
  refine ⟨20000001, ?_⟩
  simp only [laws_FnExactAspectOf.f, szChart_eq hl.1 (show (0 : Int) ≤ 1048576 ∧ (1048576 : Int) ≤ 9223372036854775807 by omega), Option.bind_some]
  by_cases hs : (1048576 : Int) < l.length
  · simp [hs]
  rw [if_neg hs, if_neg (by omega)]
  have h1 : l.length ≤ 1048576 := by omega
  simp only [laws_toGauge.f, toChart_eq (k := 20000001) (w := w) (h := h) (l := l) (by omega) h1, Option.bind_some, aspectS_eq (k := 20000001) (w := w) (h := h) (l := l) a b e (by omega) (by omega) h1, aspectI_eq (k := 20000001) (w := w) (h := h) (l := l) a b e (by omega), if_true, laws_FnExactAspectOf.j0, toChart_eq (k := 20000000) (w := w) (h := h) (l := l) (by omega) h1, eqChart_refl (k := 20000000) (w := w) (h := h) (l := l) (by omega) h1]
  simp

end Go.Proofs.Ytgohfbelppokcaa.Pure

-- Open
namespace Go.Proofs.Open
open Go.RowKit Go.WideShapes Go.Proofs.YtgohfbelppokcaaW.PrintWords
set_option linter.unusedVariables false

theorem mapM_cons_some {α β : Type} {f : α → Option β} {a : α} {l : List α} {ys : List β} (h : (a :: l).mapM f = some ys) : ∃ y ys', f a = some y ∧ l.mapM f = some ys' ∧ ys = y :: ys' := by
  rw [List.mapM_cons] at h
  obtain ⟨y, hy, h⟩ := Option.bind_eq_some_iff.mp h
  obtain ⟨ys', hys, h⟩ := Option.bind_eq_some_iff.mp h
  exact ⟨y, ys', hy, hys, (Option.some.inj h).symm⟩
theorem mapM_some_get {α β : Type} {f : α → Option β} : ∀ {l : List α} {ys : List β}, l.mapM f = some ys → ys.length = l.length ∧ ∀ (i : Nat) (a : α), l[i]? = some a → ∃ y, f a = some y ∧ ys[i]? = some y
  | [], ys, h => by
    obtain rfl : ys = [] := by simpa using h
    exact ⟨rfl, fun i a h => by simp at h⟩
  | a :: l, ys, h => by
    obtain ⟨y, ys', hy, hys, rfl⟩ := mapM_cons_some h
    obtain ⟨hl, hg⟩ := mapM_some_get hys
    refine ⟨by simp [hl], fun i b hb => ?_⟩
    cases i with
    | zero => obtain rfl : a = b := by simpa using hb
              exact ⟨y, hy, rfl⟩
    | succ i => exact hg i b (by simpa using hb)
theorem cells_get {w : World} {base n : Nat} {a : Addr} {cs : List Value} (h : w.cells? base a n = some cs) : cs.length = n ∧ ∀ i u, cs[i]? = some u → w.cell? (a.add i) = some u := by
  unfold World.cells? at h
  split at h
  · obtain ⟨hl, hg⟩ := mapM_some_get h
    rw [List.length_range] at hl
    refine ⟨hl, fun i u hu => ?_⟩
    have hi : i < n := by have := (List.getElem?_eq_some_iff.1 hu).1; omega
    obtain ⟨y, hy, hy2⟩ := hg i i (by simp [List.getElem?_range hi])
    rw [hu] at hy2
    injection hy2 with hy2
    rw [hy2]; exact hy
  · cases h
theorem add_add (a : Addr) (i j : Nat) : (a.add i).add j = a.add (i + j) := by
  by_cases hi : i = 0
  · subst hi
    rw [Nat.zero_add, show a.add 0 = a by unfold Addr.add; simp]
  · by_cases hj : j = 0
    · subst hj
      rw [Nat.add_zero, show (a.add i).add 0 = a.add i by unfold Addr.add; simp]
    · unfold Addr.add
      simp [hi, hj, Nat.add_assoc]
/-- Whatever reads as a datum of type t is an x of kind d, within ok. -/
structure Opens {α : Type} (P : Program) (W : World) (t : TypeId) (d : Kd α) (ok : α → Prop) : Prop where
  get : ∀ {H : Type} (enc : TypeId × Value → H) (base : Nat) (spare : Nat → Bool) (held : Bool) (fuel : Nat) (cs : List Value) (y : DataW H × List MemPlace), DataW.trod enc P W base spare held fuel t cs = some y → ∃ x, d.K W x cs ∧ ok x
theorem Opens.int {P : Program} {W : World} {t : TypeId} {k : IntKind} (hu : P.underlying t = some (.int k)) : Opens P W t (Kd.int k) (fun x => (Lit.int k x).wf = true) := ⟨by
  intro H enc base spare held fuel cs y h
  cases fuel with
  | zero => simp [DataW.trod] at h
  | succ fuel =>
    simp only [DataW.trod, hu] at h
    split at h <;> first | (cases h; done) | skip
    all_goals rename_i heq
    all_goals first | (cases heq; done) | skip
    rename_i k0 k' n
    injection heq with heq
    injection heq with heq
    subst heq
    split at h
    · rename_i hk
      obtain ⟨rfl, hw⟩ := hk
      exact ⟨n, rfl, hw⟩
    · cases h⟩
theorem Opens.bool {P : Program} {W : World} {t : TypeId} (hu : P.underlying t = some .bool) : Opens P W t Kd.bool (fun _ => True) := ⟨by
  intro H enc base spare held fuel cs y h
  cases fuel with
  | zero => simp [DataW.trod] at h
  | succ fuel =>
    simp only [DataW.trod, hu] at h
    split at h <;> first | (cases h; done) | skip
    all_goals rename_i heq
    all_goals first | (cases heq; done) | skip
    rename_i b
    exact ⟨b, rfl, trivial⟩⟩
theorem Opens.string {P : Program} {W : World} {t : TypeId} (hu : P.underlying t = some .string) : Opens P W t Kd.string (fun s => s.size ≤ 9223372036854775807) := ⟨by
  intro H enc base spare held fuel cs y h
  cases fuel with
  | zero => simp [DataW.trod] at h
  | succ fuel =>
    simp only [DataW.trod, hu] at h
    split at h <;> first | (cases h; done) | skip
    all_goals rename_i heq
    all_goals first | (cases heq; done) | skip
    rename_i s
    split at h
    · rename_i hs
      exact ⟨s, rfl, by simpa [maxLen] using hs⟩
    · cases h⟩
theorem pick {α : Type} {n : Nat} {Q : Nat → α → Prop} (h : ∀ i, i < n → ∃ x, Q i x) : ∃ xs : List α, xs.length = n ∧ ∀ i x, xs[i]? = some x → Q i x := by
  induction n with
  | zero => exact ⟨[], rfl, fun i x h => by simp at h⟩
  | succ n ih =>
    obtain ⟨xs, hl, hq⟩ := ih (fun i hi => h i (by omega))
    obtain ⟨x, hx⟩ := h n (by omega)
    refine ⟨xs ++ [x], by simp [hl], fun i z hz => ?_⟩
    by_cases hi : i < n
    · rw [List.getElem?_append_left (by omega)] at hz
      exact hq i z hz
    · have hlt := (List.getElem?_eq_some_iff.1 hz).1
      simp [hl] at hlt
      obtain rfl : i = n := by omega
      rw [List.getElem?_append_right (by omega), hl, Nat.sub_self] at hz
      obtain rfl : x = z := by simpa using hz
      exact hx
theorem Opens.slice {α : Type} {P : Program} {W : World} {t e : TypeId} {d : Kd α} {ok : α → Prop} (hu : P.underlying t = some (.slice e)) (hc : P.cellsOf e = d.sz) (h : Opens P W e d ok) :
    Opens P W t (Kd.slice e d) (fun l => l.length ≤ 9223372036854775807 ∧ ∀ x ∈ l, ok x) := ⟨by
  intro H enc base spare held fuel cs y hd
  cases fuel with
  | zero => simp [DataW.trod] at hd
  | succ fuel =>
    simp only [DataW.trod, hu] at hd
    split at hd <;> first | (cases hd; done) | skip
    all_goals rename_i heq
    all_goals first | (cases heq; done) | skip
    · exact ⟨[], ⟨none, 0, rfl, Nat.le_refl _, rfl, by simp, fun hp => absurd hp (by simp)⟩, by simp, fun x hx => by simp at hx⟩
    · rename_i e' a len cap
      injection heq with heq
      injection heq with heq
      subst heq
      split at hd
      · rename_i hb
        obtain ⟨hb1, hb2, hb3⟩ := hb
        obtain ⟨elems, hel, _⟩ := Option.bind_eq_some_iff.mp hd
        obtain ⟨hl, hg⟩ := mapM_some_get hel
        rw [List.length_range] at hl
        have hm : len ≤ 9223372036854775807 := by have : cap ≤ 9223372036854775807 := by simpa [maxLen] using hb3
                                                  omega
        obtain ⟨xs, hxl, hxs⟩ := pick (n := len) (Q := fun i x => ∃ c, c.length = d.sz ∧ d.K W x c ∧ ok x ∧ ∀ j u, c[j]? = some u → W.cell? (a.add (i * d.sz + j)) = some u) (fun i hi => by
          obtain ⟨z, hz, _⟩ := hg i i (by simp [List.getElem?_range hi])
          obtain ⟨c, hcc, hct⟩ := Option.bind_eq_some_iff.mp hz
          obtain ⟨x, hK, hok⟩ := h.get enc base spare held fuel c z hct
          obtain ⟨hcl, hcell⟩ := cells_get hcc
          refine ⟨x, c, by rw [hcl, hc], hK, hok, fun j u hu => ?_⟩
          have := hcell j u hu
          rw [add_add, hc] at this
          exact this)
        refine ⟨xs, ⟨some a, cap, by rw [hxl], by omega, rfl, by omega, fun _ => ⟨a, rfl, fun j p hj => ?_⟩⟩, by omega, fun x hx => ?_⟩
        · obtain ⟨c, h1, h2, h3, h4⟩ := hxs j p hj
          exact ⟨c, h1, h2, h4⟩
        · obtain ⟨j, hj, rfl⟩ := List.mem_iff_getElem.mp hx
          obtain ⟨c, h1, h2, h3, h4⟩ := hxs j _ (List.getElem?_eq_getElem hj)
          exact h3
      · cases hd⟩
/-- The fields from an offset on. -/
structure OpensAt {α : Type} (P : Program) (W : World) (fs : List Field) (off : Nat) (d : Kd α) (ok : α → Prop) : Prop where
  get : ∀ {H : Type} (enc : TypeId × Value → H) (base : Nat) (spare : Nat → Bool) (held : Bool) (fuel : Nat) (cs : List Value) (ys : List (DataW H × List MemPlace)), cs.length = off + d.sz →
    (fs.mapM fun f => DataW.trod enc P W base spare held fuel f.type ((cs.drop f.offset).take (P.cellsOf f.type))) = some ys → ∃ x, d.K W x (cs.drop off) ∧ ok x
theorem OpensAt.one {α : Type} {P : Program} {W : World} {f : Field} {off : Nat} {d : Kd α} {ok : α → Prop} (ho : f.offset = off) (hc : P.cellsOf f.type = d.sz) (h : Opens P W f.type d ok) : OpensAt P W [f] off d ok := ⟨by
  intro H enc base spare held fuel cs ys hl hm
  obtain ⟨y, _, hy, _, _⟩ := mapM_cons_some hm
  rw [ho, hc, List.take_of_length_le (by rw [List.length_drop]; omega)] at hy
  exact h.get enc base spare held fuel _ y hy⟩
theorem OpensAt.cons {α β : Type} {P : Program} {W : World} {f : Field} {fs : List Field} {off : Nat} {d : Kd α} {d2 : Kd β} {ok : α → Prop} {ok2 : β → Prop} (ho : f.offset = off) (hc : P.cellsOf f.type = d.sz) (h : Opens P W f.type d ok) (h2 : OpensAt P W fs (off + d.sz) d2 ok2) :
    OpensAt P W (f :: fs) off (Kd.pair d d2) (fun x => ok x.1 ∧ ok2 x.2) := ⟨by
  intro H enc base spare held fuel cs ys hl hm
  have hl2 : cs.length = off + (d.sz + d2.sz) := hl
  obtain ⟨y, ys', hy, hys, _⟩ := mapM_cons_some hm
  rw [ho, hc] at hy
  obtain ⟨x, hK, hok⟩ := h.get enc base spare held fuel _ y hy
  obtain ⟨x2, hK2, hok2⟩ := h2.get enc base spare held fuel cs ys' (by omega) hys
  refine ⟨(x, x2), ⟨(cs.drop off).take d.sz, cs.drop (off + d.sz), ?_, hK, hK2⟩, hok, hok2⟩
  rw [← List.drop_drop, List.take_append_drop]⟩
theorem Opens.struct {α : Type} {P : Program} {W : World} {t : TypeId} {fs : Array Field} {d : Kd α} {ok : α → Prop} (hu : P.underlying t = some (.struct fs)) (hc : P.cellsOf t = d.sz) (h : OpensAt P W fs.toList 0 d ok) : Opens P W t d ok := ⟨by
  intro H enc base spare held fuel cs y hd
  cases fuel with
  | zero => simp [DataW.trod] at hd
  | succ fuel =>
    simp only [DataW.trod, hu] at hd
    split at hd
    · rename_i hl
      obtain ⟨ys, hys, _⟩ := Option.map_eq_some_iff.mp hd
      exact h.get enc base spare held fuel cs ys (by omega) hys
    · cases hd⟩
theorem Opens.iso {α β : Type} {P : Program} {W : World} {t : TypeId} {d : Kd α} {f : β → α} {ok : α → Prop} (h : Opens P W t d ok) (g : α → β) (hg : ∀ x, f (g x) = x) : Opens P W t (Kd.iso d f) (fun y => ok (f y)) := ⟨by
  intro H enc base spare held fuel cs y hd
  obtain ⟨x, hK, hok⟩ := h.get enc base spare held fuel cs y hd
  refine ⟨g x, ?_, ?_⟩
  · show d.K W (f (g x)) cs
    rw [hg]; exact hK
  · rw [hg]; exact hok⟩
theorem wf_i64 {x : Int} (h : (Lit.int .i64 x).wf = true) : -9223372036854775808 ≤ x ∧ x ≤ 9223372036854775807 := by
  have h1 := h
  simp [Lit.wf] at h1
  exact ⟨h1.1, h1.2⟩
end Go.Proofs.Open

-- XOpens
namespace Go.Proofs.Ytgohfbelppokcaa.X
open Ho (bS eS)
open Go.RowKit Go.Proofs.YtgohfbelppokcaaW.PrintWords Go.Proofs.YtgohfbelppokcaaW.PrintLast Go.Proofs.YtgohfbelppokcaaW.PrintMore
attribute [local go_sem] max2_int min2_int max_two min_two max_three min_three max_four min_four   -- for this text's walks alone
set_option linter.unusedVariables false
set_option linter.unusedSimpArgs false

def ok23 (x : S23) : Prop := (Lit.int .i64 x.f0).wf = true ∧ (Lit.int .i64 x.f1).wf = true ∧ (Lit.int .i64 x.f2).wf = true
theorem opens23 (W : World) : Open.Opens Try.prog W 23 k23 ok23 := ⟨fun enc base spare held fuel cs y h => by
  obtain ⟨x, hK, hok⟩ := (Open.Opens.iso (f := fun x : S23 => (x.f0, x.f1, x.f2)) (Open.Opens.struct Try.underlying23 (by kernel_rfl) (Open.OpensAt.cons rfl (by kernel_rfl) (Open.Opens.int Try.underlying3) (Open.OpensAt.cons rfl (by kernel_rfl) (Open.Opens.int Try.underlying3) (Open.OpensAt.one rfl (by kernel_rfl) (Open.Opens.int Try.underlying3))))) (fun x => ⟨x.1, x.2.1, x.2.2⟩) (fun x => rfl)).get enc base spare held fuel cs y h
  exact ⟨x, hK, hok⟩⟩
def ok34 (x : S34) : Prop := (Lit.int .i64 x.f0).wf = true ∧ (Lit.int .i64 x.f1).wf = true ∧ (Lit.int .i64 x.f2).wf = true ∧ (Lit.int .i64 x.f3).wf = true
theorem opens34 (W : World) : Open.Opens Try.prog W 34 k34 ok34 := ⟨fun enc base spare held fuel cs y h => by
  obtain ⟨x, hK, hok⟩ := (Open.Opens.iso (f := fun x : S34 => (x.f0, x.f1, x.f2, x.f3)) (Open.Opens.struct Try.underlying34 (by kernel_rfl) (Open.OpensAt.cons rfl (by kernel_rfl) (Open.Opens.int Try.underlying3) (Open.OpensAt.cons rfl (by kernel_rfl) (Open.Opens.int Try.underlying3) (Open.OpensAt.cons rfl (by kernel_rfl) (Open.Opens.int Try.underlying3) (Open.OpensAt.one rfl (by kernel_rfl) (Open.Opens.int Try.underlying3)))))) (fun x => ⟨x.1, x.2.1, x.2.2.1, x.2.2.2⟩) (fun x => rfl)).get enc base spare held fuel cs y h
  exact ⟨x, hK, hok⟩⟩
def ok42 (x : S42) : Prop := (Lit.int .i64 x.f0).wf = true ∧ (Lit.int .i64 x.f1).wf = true ∧ (x.f2.length ≤ 9223372036854775807 ∧ ∀ y_ ∈ x.f2, (Lit.int .i64 y_).wf = true)
theorem opens42 (W : World) : Open.Opens Try.prog W 42 k42 ok42 := ⟨fun enc base spare held fuel cs y h => by
  obtain ⟨x, hK, hok⟩ := (Open.Opens.iso (f := fun x : S42 => (x.f0, x.f1, x.f2)) (Open.Opens.struct Try.underlying42 (by kernel_rfl) (Open.OpensAt.cons rfl (by kernel_rfl) (Open.Opens.int Try.underlying3) (Open.OpensAt.cons rfl (by kernel_rfl) (Open.Opens.int Try.underlying3) (Open.OpensAt.one rfl (by kernel_rfl) (Open.Opens.slice Try.underlying40 (by kernel_rfl) (Open.Opens.int Try.underlying3)))))) (fun x => ⟨x.1, x.2.1, x.2.2⟩) (fun x => rfl)).get enc base spare held fuel cs y h
  exact ⟨x, hK, hok⟩⟩
end Go.Proofs.Ytgohfbelppokcaa.X
