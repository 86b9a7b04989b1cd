/- What the law FnExactKnotsLost needs, part 4 of 4: what each function of the program that it reaches returns (printed by this session's own program, checked by Lean), and plain mathematics about it. Conditions: those of each theorem. -/
import Derived.Test.YtbfhphobnngeaaaZFnExactKnotsLost2
import Derived.Test.YtbfhphobnngeaaaWLast
import Derived.Test.YtbfhphobnngeaaaWWords
-- XspecKnotsLostF18
namespace Go.Proofs.Ytbfhphobnngeaaa.X
open Ho (bS eS)
open Go.RowKit Go.Proofs.YtbfhphobnngeaaaW.PrintWords Go.Proofs.YtbfhphobnngeaaaW.PrintLast Go.Proofs.YtbfhphobnngeaaaW.PrintMore
attribute [local go_sem] max2_int min2_int max_two min_two max_three min_three max_four min_four   -- for this text's walks alone
set_option linter.unusedVariables false
set_option linter.unusedSimpArgs false

attribute [local go_sem ↓] Ho.isSome_setCell_   -- a store leaves all places there
/-! ### spec_KnotsLost: function 18 -/
def spec_KnotsLost.l0 : Nat → List (S39) → Int → Int → Option (Int × Bool)
  | 0, _, _, _ => none
  | k + 1, x1, x6, x7 => if x7 < (x1.length : Int) then (if 0 ≤ x7 then ((spec_l23Knots.f ((rd_T39 x1 x7).f0) ((rd_T39 x1 x7).f1) ((rd_T39 x1 x7).f2) ((rd_T39 x1 x7).f3)).bind fun t104 => (spec_KnotsLost.l0 k x1 (wrap64 (x6 + t104)) (wrap64 (x7 + 1)))) else (none)) else (some (x6, true))
def spec_KnotsLost.f (k : Nat) (a0_0 : Int) (a0_1 : Int) (l0_2 : List Int) (l1 : List (S39)) : Option (Int × Bool) := (spec_l23Good.f k a0_0 a0_1 l0_2 l1).bind fun t102 => (if t102 = true then (spec_KnotsLost.l0 k l1 0 0) else (some (0, false)))
theorem spec_KnotsLost.mono_l : ∀ k, (∀ y0 y1 y2, LeO (spec_KnotsLost.l0 k y0 y1 y2) (spec_KnotsLost.l0 (k + 1) y0 y1 y2))
  | 0 => fun _ _ _ r h => by simp [spec_KnotsLost.l0] at h
  | k + 1 => by
    have ih0 := spec_KnotsLost.mono_l k
    · intro y0 y1 y2
      unfold spec_KnotsLost.l0
      repeat' first
      | (with_reducible exact ih0 _ _ _)
      | (with_reducible exact spec_l23Good.mono _ _ _ _ _)
      | (with_reducible exact LeO.refl _)
      | (with_reducible exact LeO.none _)
      | (with_reducible refine LeO.ite ?_ ?_)
      | (with_reducible refine LeO.bind ?_ (fun _ => ?_))
      | exact ih0 _ _ _
      | exact spec_l23Good.mono _ _ _ _ _
      | exact LeO.none _
      | refine LeO.ite ?_ ?_
      | refine LeO.bind ?_ (fun _ => ?_)
theorem spec_KnotsLost.mono : ∀ a0 a1 a2 a3 k, LeO (spec_KnotsLost.f k a0 a1 a2 a3) (spec_KnotsLost.f (k + 1) a0 a1 a2 a3) := by
  intro a0 a1 a2 a3 k
  have ih0 := spec_KnotsLost.mono_l k
  unfold spec_KnotsLost.f
  repeat' first
      | (with_reducible exact ih0 _ _ _)
      | (with_reducible exact spec_l23Good.mono _ _ _ _ _)
      | (with_reducible exact LeO.refl _)
      | (with_reducible exact LeO.none _)
      | (with_reducible refine LeO.ite ?_ ?_)
      | (with_reducible refine LeO.bind ?_ (fun _ => ?_))
      | exact ih0 _ _ _
      | exact spec_l23Good.mono _ _ _ _ _
      | exact LeO.none _
      | refine LeO.ite ?_ ?_
      | refine LeO.bind ?_ (fun _ => ?_)
set_option maxHeartbeats 8000000 in
set_option maxRecDepth 100000 in
theorem spec_KnotsLost.calls (k : Nat) (a0_0 : Int) (a0_1 : Int) (A0_2 : Option Addr) (c0_2 : Nat) (l0_2 : List Int) (A1 : Option Addr) (c1 : Nat) (l1 : List (S39)) (r1 : Int) (r2 : Bool) (w : World) (hr0_2 : Kd.C (Kd.int .i64) w A0_2 l0_2.length l0_2) (hc0_2 : l0_2.length ≤ c0_2) (hr1 : Kd.C k39 w A1 l1.length l1) (hc1 : l1.length ≤ c1) (h : spec_KnotsLost.f k a0_0 a0_1 l0_2 l1 = some (r1, r2)) :
    Calls Try.prog 18 #[.agg #[.int .i64 a0_0, .int .i64 a0_1, .slice A0_2 l0_2.length c0_2], .slice A1 l1.length c1] w fun e w' => e = .returned (.tuple #[.int .i64 r1, .bool r2]) ∧ Below w.heap.size w w' := by
  have hu29 := Try.underlying29
  have hu39 := Try.underlying39
  have HR0_2 := Aside0.mk hr0_2
  have HC0_2 := Aside0.mk hc0_2
  clear hr0_2 hc0_2
  have HR1 := Aside0.mk hr1
  have HC1 := Aside0.mk hc1
  clear hr1 hc1
  have HB := Aside0.mk (Below.refl w.heap.size w)
  have H : ((spec_l23Good.f k a0_0 a0_1 l0_2 l1).bind fun t102 => (if t102 = true then (spec_KnotsLost.l0 k l1 0 0) else (some (0, false)))) = some (r1, r2) := h
  clear h
  replace H := Option.bind_eq_some_iff.mp H
  obtain ⟨t102, A30, H⟩ := H
  replace H : (if t102 = true then (spec_KnotsLost.l0 k l1 0 0) else (some (0, false))) = some (r1, r2) := H
  have A3 := Aside0.mk A30
  clear A30
  by_cases c4 : t102 = true
  · subst c4
    have H1 : (spec_KnotsLost.l0 k l1 0 0) = some (r1, r2) := by rw [if_pos rfl] at H; exact H
    clear H
    have H := H1
    clear H1
    have H' := Aside0.mk H
    clear H
    go_enter Try.func18, Try.ntmps18
    go_wp2_with (first | ((with_reducible refine gate_dst (N := 2) rfl ?_); refine box_event ?hg (N := 2) ?hd (cs := #[.int .i64 a0_0, .int .i64 a0_1, .slice A0_2 l0_2.length c0_2]) (t := 29) ?hr ?_; (case hd => rfl); (case hg => rfl); (case hr => first | (go_simp; done) | (go_simp; rfl)); intro gb101 hg w5 hbox hb; have n0_ := Aside0.mk (below_step (by exact eS HB.out) hb); have n1_ := Aside0.mk (hbox); have n2_ := Aside0.mk ((by rw [hg]; exact (below_size (by exact eS HB.out)) : w.heap.size ≤ gb101)); have n3_ := Aside0.mk ((by rw [hg]; exact (below_size (by exact eS HB.out)) : w.heap.size ≤ gb101)); clear HB; have HB := n0_; have BK101 := n1_; have GW101 := n2_; have GE101 := n3_; clear n0_ n1_ n2_ n3_; clear hb hbox hg; have hcz6_0 : w5.cell? ⟨gb101, 0, none⟩ = some (.int .i64 a0_0) := (blk_cell BK101.out 0).trans rfl; have hcz6_1 : w5.cell? ⟨gb101, 1, none⟩ = some (.int .i64 a0_1) := (blk_cell BK101.out 1).trans rfl; have hcz6_2 : w5.cell? ⟨gb101, 2, none⟩ = some (.slice A0_2 l0_2.length c0_2) := (blk_cell BK101.out 2).trans rfl; have hfz6_0 := blk_frozen BK101.out 0; have hfz6_1 := blk_frozen BK101.out 1; have hfz6_2 := blk_frozen BK101.out 2) | ((with_reducible refine gate_callee (f := 48) rfl ?_); refine goesL_ (some 10) rfl rfl Try.func48 (by kernel_rfl) rfl #[.agg #[.int .i64 a0_0, .int .i64 a0_1, .slice A0_2 l0_2.length c0_2], .slice A1 l1.length c1] rfl (by (try simp only [List.map_toArray, List.map_cons, List.map_nil]); first | done | rfl | (simp only [List.length_drop, List.length_take]; rfl)) ?_; (with_reducible refine (spec_l23Good.calls k a0_0 a0_1 _ _ l0_2 _ _ l1 true _ ?side1 ?side2 ?side3 ?side4 A3.out).mono ?_); (case side1 => repeat (first | exact (Kd.C_below HR0_2.out HB.out) | (with_reducible refine Kd.C_alloc ?_ _) | (with_reducible refine Kd.C_drewN ?_ _) | (with_reducible refine Kd.C_drew ?_))); (case side2 => exact HC0_2.out); (case side3 => repeat (first | exact (Kd.C_below HR1.out HB.out) | (with_reducible refine Kd.C_alloc ?_ _) | (with_reducible refine Kd.C_drewN ?_ _) | (with_reducible refine Kd.C_drew ?_))); (case side4 => exact HC1.out); rintro e w7 ⟨rfl, hb⟩; refine ⟨_, rfl, ?_⟩; have n0_ := Aside0.mk (blk_below (bS BK101.out) hb); have n1_ := Aside0.mk (below_step (by exact eS HB.out) hb); clear BK101; clear HB; have BK101 := n0_; have HB := n1_; clear n0_ n1_; (try clear hb); (try clear hb2); (try clear hk); (try clear hi)))
    go_loopg [6, 7] k (fun kq v6 v7 w' => ∃ (x6_1 : Int) (x7_1 : Int), v6 = .int .i64 x6_1 ∧ v7 = .int .i64 x7_1 ∧ Aside0 (spec_KnotsLost.l0 kq l1 x6_1 x7_1 = some (r1, r2)) ∧ Aside0 (kq ≤ k) ∧ Aside0 (w'.heap[gb101]? = some (.cells #[.int .i64 a0_0, .int .i64 a0_1, (.slice A0_2 l0_2.length c0_2)] 29 (0, 0))) ∧ Aside0 (Below w.heap.size w w'))
    case atStart => exact ⟨(0), (0), (by first | rfl | (simp; done) | (simp [*]; done)), (by first | rfl | (simp; done) | (simp [*]; done)), H', ⟨Nat.le_refl _⟩, ⟨by exact bS BK101.out⟩, ⟨by exact eS HB.out⟩⟩
    case round =>
      clear H'
      try clear c1
      try clear p2
      try clear c4
      try clear hcz6_0
      try clear hcz6_1
      try clear hcz6_2
      try clear hfz6_0
      try clear hfz6_1
      try clear hfz6_2
      obtain ⟨x6_1, x7_1, rfl, rfl, HA, HK1, BK101, HB⟩ := hrel
      cases gk with
      | zero => exact absurd HA.out (by simp [spec_KnotsLost.l0])
      | succ k1 =>
        have H := HA.out
        clear HA
        simp only [spec_KnotsLost.l0] at H
        by_cases c8 : x7_1 < (l1.length : Int)
        · rw [if_pos c8] at H
          have c8b0 : decide (x7_1 < (l1.length : Int)) = true := decide_eq_true c8
          clear c8
          by_cases c9 : 0 ≤ x7_1
          · rw [if_pos c9] at H
            have c9b0 : decide (0 ≤ x7_1) = true := decide_eq_true c9
            clear c9
            replace H := Option.bind_eq_some_iff.mp H
            obtain ⟨t104, A100, H⟩ := H
            replace H : (spec_KnotsLost.l0 k1 l1 (wrap64 (x6_1 + t104)) (wrap64 (x7_1 + 1))) = some (r1, r2) := H
            have A10 := Aside0.mk A100
            clear A100
            have H' := Aside0.mk H
            clear H
            have p103 : 0 ≤ (x7_1 : Int) := of_decide_eq_true (by first | (with_reducible assumption) | assumption)
            have q103 : x7_1 < (l1.length : Int) := of_decide_eq_true (by first | (with_reducible assumption) | assumption)
            obtain ⟨ad103, e103, hx103_0, hx103_1, hx103_2, hx103_3⟩ := at_T39 HR1.out x7_1 p103 q103
            cases e103
            replace hx103_0 := (HB.out.cell (World.block_lt_of_cell? w _ hx103_0)).trans hx103_0
            replace hx103_1 := (HB.out.cell (World.block_lt_of_cell? w _ hx103_1)).trans hx103_1
            replace hx103_2 := (HB.out.cell (World.block_lt_of_cell? w _ hx103_2)).trans hx103_2
            replace hx103_3 := (HB.out.cell (World.block_lt_of_cell? w _ hx103_3)).trans hx103_3
            replace p103 := eq_true p103
            replace q103 := eq_true q103
            go_wp2_with (first | ((with_reducible refine gate_callee (f := 57) rfl ?_); refine goesL_ (some 23) rfl rfl Try.func57 (by kernel_rfl) rfl #[.agg #[.int .i64 ((rd_T39 l1 x7_1).f0), .int .i64 ((rd_T39 l1 x7_1).f1), .int .i64 ((rd_T39 l1 x7_1).f2), .int .i64 ((rd_T39 l1 x7_1).f3)]] rfl (by (try simp only [List.map_toArray, List.map_cons, List.map_nil]); first | done | rfl | (simp only [List.length_drop, List.length_take]; rfl)) ?_; (with_reducible refine (spec_l23Knots.calls ((rd_T39 l1 x7_1).f0) ((rd_T39 l1 x7_1).f1) ((rd_T39 l1 x7_1).f2) ((rd_T39 l1 x7_1).f3) t104 _ A10.out).mono ?_); rintro e w11 ⟨rfl, hb⟩; refine ⟨_, rfl, ?_⟩; have n0_ := Aside0.mk (blk_below (bS BK101.out) hb); have n1_ := Aside0.mk (below_step (by exact eS HB.out) hb); clear BK101; clear HB; have BK101 := n0_; have HB := n1_; clear n0_ n1_; (try clear hb); (try clear hb2); (try clear hk); (try clear hi)))
            go_roundg k1
            case measure => have := HK1.out; omega
            case rel => exact ⟨(wrap64 (x6_1 + t104)), (wrap64 (x7_1 + 1)), (by first | rfl | (simp; done) | (simp [*]; done)), (by first | rfl | (simp; done) | (simp [*]; done)), H', ⟨by have := HK1.out; omega⟩, ⟨by exact bS BK101.out⟩, ⟨by exact eS HB.out⟩⟩
          · rw [if_neg c9] at H
            exact absurd H (by simp)
        · rw [if_neg c8] at H
          have c8b0 : decide (x7_1 < (l1.length : Int)) = false := decide_eq_false c8
          clear c8
          simp only [Option.some.injEq, Prod.mk.injEq] at H
          obtain ⟨rfl, rfl⟩ := H
          go_wp2
          go_ret2
          exact ⟨by first | rfl | (simp [errW_none, errW_some] <;> rfl) | (simp [*, errW_none, errW_some] <;> rfl), by exact eS HB.out⟩
  · replace c4 := Bool.eq_false_iff.mpr c4
    subst c4
    have H1 : (some (0, false)) = some (r1, r2) := by rw [if_neg (show ¬ (false = true) by decide)] at H; exact H
    clear H
    have H := H1
    clear H1
    simp only [Option.some.injEq, Prod.mk.injEq] at H
    obtain ⟨rfl, rfl⟩ := H
    go_enter Try.func18, Try.ntmps18
    go_wp2_with (first | ((with_reducible refine gate_dst (N := 2) rfl ?_); refine box_event ?hg (N := 2) ?hd (cs := #[.int .i64 a0_0, .int .i64 a0_1, .slice A0_2 l0_2.length c0_2]) (t := 29) ?hr ?_; (case hd => rfl); (case hg => rfl); (case hr => first | (go_simp; done) | (go_simp; rfl)); intro gb101 hg w12 hbox hb; have n0_ := Aside0.mk (below_step (by exact eS HB.out) hb); have n1_ := Aside0.mk (hbox); have n2_ := Aside0.mk ((by rw [hg]; exact (below_size (by exact eS HB.out)) : w.heap.size ≤ gb101)); have n3_ := Aside0.mk ((by rw [hg]; exact (below_size (by exact eS HB.out)) : w.heap.size ≤ gb101)); clear HB; have HB := n0_; have BK101 := n1_; have GW101 := n2_; have GE101 := n3_; clear n0_ n1_ n2_ n3_; clear hb hbox hg; have hcz13_0 : w12.cell? ⟨gb101, 0, none⟩ = some (.int .i64 a0_0) := (blk_cell BK101.out 0).trans rfl; have hcz13_1 : w12.cell? ⟨gb101, 1, none⟩ = some (.int .i64 a0_1) := (blk_cell BK101.out 1).trans rfl; have hcz13_2 : w12.cell? ⟨gb101, 2, none⟩ = some (.slice A0_2 l0_2.length c0_2) := (blk_cell BK101.out 2).trans rfl; have hfz13_0 := blk_frozen BK101.out 0; have hfz13_1 := blk_frozen BK101.out 1; have hfz13_2 := blk_frozen BK101.out 2) | ((with_reducible refine gate_callee (f := 48) rfl ?_); refine goesL_ (some 10) rfl rfl Try.func48 (by kernel_rfl) rfl #[.agg #[.int .i64 a0_0, .int .i64 a0_1, .slice A0_2 l0_2.length c0_2], .slice A1 l1.length c1] rfl (by (try simp only [List.map_toArray, List.map_cons, List.map_nil]); first | done | rfl | (simp only [List.length_drop, List.length_take]; rfl)) ?_; (with_reducible refine (spec_l23Good.calls k a0_0 a0_1 _ _ l0_2 _ _ l1 false _ ?side1 ?side2 ?side3 ?side4 A3.out).mono ?_); (case side1 => repeat (first | exact (Kd.C_below HR0_2.out HB.out) | (with_reducible refine Kd.C_alloc ?_ _) | (with_reducible refine Kd.C_drewN ?_ _) | (with_reducible refine Kd.C_drew ?_))); (case side2 => exact HC0_2.out); (case side3 => repeat (first | exact (Kd.C_below HR1.out HB.out) | (with_reducible refine Kd.C_alloc ?_ _) | (with_reducible refine Kd.C_drewN ?_ _) | (with_reducible refine Kd.C_drew ?_))); (case side4 => exact HC1.out); rintro e w14 ⟨rfl, hb⟩; refine ⟨_, rfl, ?_⟩; have n0_ := Aside0.mk (blk_below (bS BK101.out) hb); have n1_ := Aside0.mk (below_step (by exact eS HB.out) hb); clear BK101; clear HB; have BK101 := n0_; have HB := n1_; clear n0_ n1_; (try clear hb); (try clear hb2); (try clear hk); (try clear hi)))
    go_ret2
    exact ⟨by first | rfl | (simp [errW_none, errW_some] <;> rfl) | (simp [*, errW_none, errW_some] <;> rfl), by exact eS HB.out⟩

end Go.Proofs.Ytbfhphobnngeaaa.X

-- XlawsFnExactKnotsLostF4
namespace Go.Proofs.Ytbfhphobnngeaaa.X
open Ho (bS eS)
open Go.RowKit Go.Proofs.YtbfhphobnngeaaaW.PrintWords Go.Proofs.YtbfhphobnngeaaaW.PrintLast Go.Proofs.YtbfhphobnngeaaaW.PrintMore
attribute [local go_sem] max2_int min2_int max_two min_two max_three min_three max_four min_four   -- for this text's walks alone
set_option linter.unusedVariables false
set_option linter.unusedSimpArgs false

attribute [local go_sem ↓] Ho.isSome_setCell_   -- a store leaves all places there
/-! ### laws_FnExactKnotsLost: function 4 -/
def laws_FnExactKnotsLost.j0 : Nat → List (S67) → List (S39) → Bool → Int → Int → List Int → Int → Int → List Int → Option (Bool)
  | 0, _, _, _, _, _, _, _, _, _ => none
  | k + 1, x1, x9, x47, x102000, x102001, x102002, x120000, x120001, x120002 => if x47 = true then (some false) else ((laws_toChart.f k x102000 x102001 x102002).bind fun bt125 => ((laws_eqChart.f k x120000 x120001 x120002 bt125.1 bt125.2.1 bt125.2.2).bind fun t130 => (if t130 = true then ((laws_toHoleS.f k x1).bind fun t131 => ((laws_eqHoleS.f k x9 t131).bind fun t134 => (if t134 = true then (some true) else (some false)))) else (some false))))
def laws_FnExactKnotsLost.f (k : Nat) (a0_0 : Int) (a0_1 : Int) (l0_2 : List Int) (l1 : List (S67)) : Option (Bool) := (laws_szChart.f a0_0 a0_1 l0_2 1048576).bind fun t102 => (if t102 < 0 then (some true) else ((laws_szHoleS.f l1 t102).bind fun t103 => (if t103 < 0 then (some true) else ((laws_toChart.f k a0_0 a0_1 l0_2).bind fun bt104 => ((laws_toHoleS.f k l1).bind fun t109 => ((spec_KnotsLost.f k bt104.1 bt104.2.1 bt104.2.2 t109).bind fun bt112 => ((laws_toChart.f k a0_0 a0_1 l0_2).bind fun bt114 => ((laws_toHoleS.f k l1).bind fun t120 => ((impl_KnotsLost.f k bt114.1 bt114.2.1 bt114.2.2 t120).bind fun bt123 => (if bt123.1 = bt112.1 then (laws_FnExactKnotsLost.j0 k l1 t120 (bt123.2 != bt112.2) a0_0 a0_1 l0_2 bt114.1 bt114.2.1 bt114.2.2) else (laws_FnExactKnotsLost.j0 k l1 t120 true a0_0 a0_1 l0_2 bt114.1 bt114.2.1 bt114.2.2)))))))))))
theorem laws_FnExactKnotsLost.mono_l : ∀ k, (∀ y0 y1 y2 y3 y4 y5 y6 y7 y8, LeO (laws_FnExactKnotsLost.j0 k y0 y1 y2 y3 y4 y5 y6 y7 y8) (laws_FnExactKnotsLost.j0 (k + 1) y0 y1 y2 y3 y4 y5 y6 y7 y8))
  | 0 => fun _ _ _ _ _ _ _ _ _ r h => by simp [laws_FnExactKnotsLost.j0] at h
  | k + 1 => by
    have ih0 := laws_FnExactKnotsLost.mono_l k
    · intro y0 y1 y2 y3 y4 y5 y6 y7 y8
      unfold laws_FnExactKnotsLost.j0
      repeat' first
      | (with_reducible exact ih0 _ _ _ _ _ _ _ _ _)
      | (with_reducible exact impl_KnotsLost.mono _ _ _ _ _)
      | (with_reducible exact laws_eqChart.mono _ _ _ _ _ _ _)
      | (with_reducible exact laws_eqHoleS.mono _ _ _)
      | (with_reducible exact laws_toChart.mono _ _ _ _)
      | (with_reducible exact laws_toHoleS.mono _ _)
      | (with_reducible exact spec_KnotsLost.mono _ _ _ _ _)
      | (with_reducible exact LeO.refl _)
      | (with_reducible exact LeO.none _)
      | (with_reducible refine LeO.ite ?_ ?_)
      | (with_reducible refine LeO.bind ?_ (fun _ => ?_))
      | exact ih0 _ _ _ _ _ _ _ _ _
      | exact impl_KnotsLost.mono _ _ _ _ _
      | exact laws_eqChart.mono _ _ _ _ _ _ _
      | exact laws_eqHoleS.mono _ _ _
      | exact laws_toChart.mono _ _ _ _
      | exact laws_toHoleS.mono _ _
      | exact spec_KnotsLost.mono _ _ _ _ _
      | exact LeO.none _
      | refine LeO.ite ?_ ?_
      | refine LeO.bind ?_ (fun _ => ?_)
theorem laws_FnExactKnotsLost.mono : ∀ a0 a1 a2 a3 k, LeO (laws_FnExactKnotsLost.f k a0 a1 a2 a3) (laws_FnExactKnotsLost.f (k + 1) a0 a1 a2 a3) := by
  intro a0 a1 a2 a3 k
  have ih0 := laws_FnExactKnotsLost.mono_l k
  unfold laws_FnExactKnotsLost.f
  repeat' first
      | (with_reducible exact ih0 _ _ _ _ _ _ _ _ _)
      | (with_reducible exact impl_KnotsLost.mono _ _ _ _ _)
      | (with_reducible exact laws_eqChart.mono _ _ _ _ _ _ _)
      | (with_reducible exact laws_eqHoleS.mono _ _ _)
      | (with_reducible exact laws_toChart.mono _ _ _ _)
      | (with_reducible exact laws_toHoleS.mono _ _)
      | (with_reducible exact spec_KnotsLost.mono _ _ _ _ _)
      | (with_reducible exact LeO.refl _)
      | (with_reducible exact LeO.none _)
      | (with_reducible refine LeO.ite ?_ ?_)
      | (with_reducible refine LeO.bind ?_ (fun _ => ?_))
      | exact ih0 _ _ _ _ _ _ _ _ _
      | exact impl_KnotsLost.mono _ _ _ _ _
      | exact laws_eqChart.mono _ _ _ _ _ _ _
      | exact laws_eqHoleS.mono _ _ _
      | exact laws_toChart.mono _ _ _ _
      | exact laws_toHoleS.mono _ _
      | exact spec_KnotsLost.mono _ _ _ _ _
      | exact LeO.none _
      | refine LeO.ite ?_ ?_
      | refine LeO.bind ?_ (fun _ => ?_)
set_option maxHeartbeats 8000000 in
set_option maxRecDepth 100000 in
theorem laws_FnExactKnotsLost.calls (k : Nat) (a0_0 : Int) (a0_1 : Int) (A0_2 : Option Addr) (c0_2 : Nat) (l0_2 : List Int) (A1 : Option Addr) (c1 : Nat) (l1 : List (S67)) (r : Bool) (w : World) (hr0_2 : Kd.C (Kd.int .i64) w A0_2 l0_2.length l0_2) (hc0_2 : l0_2.length ≤ c0_2) (hr1 : Kd.C k67 w A1 l1.length l1) (hc1 : l1.length ≤ c1) (ht : r = true) (h : laws_FnExactKnotsLost.f k a0_0 a0_1 l0_2 l1 = some r) :
    Calls Try.prog 4 #[.agg #[.int .i64 a0_0, .int .i64 a0_1, .slice A0_2 l0_2.length c0_2], .slice A1 l1.length c1] w fun e w' => e = .returned (.bool r) ∧ Below w.heap.size w w' := by
  have hu24 := Try.underlying24
  have hu29 := Try.underlying29
  have HR0_2 := Aside0.mk hr0_2
  have HC0_2 := Aside0.mk hc0_2
  clear hr0_2 hc0_2
  have HR1 := Aside0.mk hr1
  have HC1 := Aside0.mk hc1
  clear hr1 hc1
  have HB := Aside0.mk (Below.refl w.heap.size w)
  have HT := Aside0.mk ht
  clear ht
  have H : ((laws_szChart.f a0_0 a0_1 l0_2 1048576).bind fun t102 => (if t102 < 0 then (some true) else ((laws_szHoleS.f l1 t102).bind fun t103 => (if t103 < 0 then (some true) else ((laws_toChart.f k a0_0 a0_1 l0_2).bind fun bt104 => ((laws_toHoleS.f k l1).bind fun t109 => ((spec_KnotsLost.f k bt104.1 bt104.2.1 bt104.2.2 t109).bind fun bt112 => ((laws_toChart.f k a0_0 a0_1 l0_2).bind fun bt114 => ((laws_toHoleS.f k l1).bind fun t120 => ((impl_KnotsLost.f k bt114.1 bt114.2.1 bt114.2.2 t120).bind fun bt123 => (if bt123.1 = bt112.1 then (laws_FnExactKnotsLost.j0 k l1 t120 (bt123.2 != bt112.2) a0_0 a0_1 l0_2 bt114.1 bt114.2.1 bt114.2.2) else (laws_FnExactKnotsLost.j0 k l1 t120 true a0_0 a0_1 l0_2 bt114.1 bt114.2.1 bt114.2.2)))))))))))) = some r := h
  clear h
  replace H := Option.bind_eq_some_iff.mp H
  obtain ⟨t102, A30, H⟩ := H
  replace H : (if t102 < 0 then (some true) else ((laws_szHoleS.f l1 t102).bind fun t103 => (if t103 < 0 then (some true) else ((laws_toChart.f k a0_0 a0_1 l0_2).bind fun bt104 => ((laws_toHoleS.f k l1).bind fun t109 => ((spec_KnotsLost.f k bt104.1 bt104.2.1 bt104.2.2 t109).bind fun bt112 => ((laws_toChart.f k a0_0 a0_1 l0_2).bind fun bt114 => ((laws_toHoleS.f k l1).bind fun t120 => ((impl_KnotsLost.f k bt114.1 bt114.2.1 bt114.2.2 t120).bind fun bt123 => (if bt123.1 = bt112.1 then (laws_FnExactKnotsLost.j0 k l1 t120 (bt123.2 != bt112.2) a0_0 a0_1 l0_2 bt114.1 bt114.2.1 bt114.2.2) else (laws_FnExactKnotsLost.j0 k l1 t120 true a0_0 a0_1 l0_2 bt114.1 bt114.2.1 bt114.2.2))))))))))) = some r := H
  have A3 := Aside0.mk A30
  clear A30
  by_cases c4 : t102 < 0
  · rw [if_pos c4] at H
    have c4b0 : decide (t102 < 0) = true := decide_eq_true c4
    clear c4
    obtain rfl := Option.some.inj H
    go_enter Try.func4, Try.ntmps4
    go_wp2_with (first | ((with_reducible refine gate_dst (N := 2) rfl ?_); refine box_event ?hg (N := 2) ?hd (cs := #[.int .i64 a0_0, .int .i64 a0_1, .slice A0_2 l0_2.length c0_2]) (t := 24) ?hr ?_; (case hd => rfl); (case hg => rfl); (case hr => first | (go_simp; done) | (go_simp; rfl)); intro gb101 hg w5 hbox hb; have n0_ := Aside0.mk (below_step (by exact eS HB.out) hb); have n1_ := Aside0.mk (hbox); have n2_ := Aside0.mk ((by rw [hg]; exact (below_size (by exact eS HB.out)) : w.heap.size ≤ gb101)); have n3_ := Aside0.mk ((by rw [hg]; exact (below_size (by exact eS HB.out)) : w.heap.size ≤ gb101)); clear HB; have HB := n0_; have BK101 := n1_; have GW101 := n2_; have GE101 := n3_; clear n0_ n1_ n2_ n3_; clear hb hbox hg; have hcz6_0 : w5.cell? ⟨gb101, 0, none⟩ = some (.int .i64 a0_0) := (blk_cell BK101.out 0).trans rfl; have hcz6_1 : w5.cell? ⟨gb101, 1, none⟩ = some (.int .i64 a0_1) := (blk_cell BK101.out 1).trans rfl; have hcz6_2 : w5.cell? ⟨gb101, 2, none⟩ = some (.slice A0_2 l0_2.length c0_2) := (blk_cell BK101.out 2).trans rfl; have hfz6_0 := blk_frozen BK101.out 0; have hfz6_1 := blk_frozen BK101.out 1; have hfz6_2 := blk_frozen BK101.out 2) | ((with_reducible refine gate_callee (f := 10) rfl ?_); refine goesL_ (some 14) rfl rfl Try.func10 (by kernel_rfl) rfl #[.agg #[.int .i64 a0_0, .int .i64 a0_1, .slice A0_2 l0_2.length c0_2], .int .i64 1048576] rfl (by (try simp only [List.map_toArray, List.map_cons, List.map_nil]); first | done | rfl | (simp only [List.length_drop, List.length_take]; rfl)) ?_; (with_reducible refine (laws_szChart.calls a0_0 a0_1 _ _ l0_2 1048576 t102 _ ?side1 ?side2 A3.out).mono ?_); (case side1 => repeat (first | exact (Kd.C_below HR0_2.out HB.out) | (with_reducible refine Kd.C_alloc ?_ _) | (with_reducible refine Kd.C_drewN ?_ _) | (with_reducible refine Kd.C_drew ?_))); (case side2 => exact HC0_2.out); rintro e w7 ⟨rfl, hb⟩; refine ⟨_, rfl, ?_⟩; have n0_ := Aside0.mk (blk_below (bS BK101.out) hb); have n1_ := Aside0.mk (below_step (by exact eS HB.out) hb); clear BK101; clear HB; have BK101 := n0_; have HB := n1_; clear n0_ n1_; (try clear hb); (try clear hb2); (try clear hk); (try clear hi)))
    go_ret
    exact ⟨by first | rfl | (simp [errW_none, errW_some] <;> rfl) | (simp [*, errW_none, errW_some] <;> rfl), by exact eS HB.out⟩
  · rw [if_neg c4] at H
    have c4b0 : decide (t102 < 0) = false := decide_eq_false c4
    clear c4
    replace H := Option.bind_eq_some_iff.mp H
    obtain ⟨t103, A80, H⟩ := H
    replace H : (if t103 < 0 then (some true) else ((laws_toChart.f k a0_0 a0_1 l0_2).bind fun bt104 => ((laws_toHoleS.f k l1).bind fun t109 => ((spec_KnotsLost.f k bt104.1 bt104.2.1 bt104.2.2 t109).bind fun bt112 => ((laws_toChart.f k a0_0 a0_1 l0_2).bind fun bt114 => ((laws_toHoleS.f k l1).bind fun t120 => ((impl_KnotsLost.f k bt114.1 bt114.2.1 bt114.2.2 t120).bind fun bt123 => (if bt123.1 = bt112.1 then (laws_FnExactKnotsLost.j0 k l1 t120 (bt123.2 != bt112.2) a0_0 a0_1 l0_2 bt114.1 bt114.2.1 bt114.2.2) else (laws_FnExactKnotsLost.j0 k l1 t120 true a0_0 a0_1 l0_2 bt114.1 bt114.2.1 bt114.2.2))))))))) = some r := H
    have A8 := Aside0.mk A80
    clear A80
    by_cases c9 : t103 < 0
    · rw [if_pos c9] at H
      have c9b0 : decide (t103 < 0) = true := decide_eq_true c9
      clear c9
      obtain rfl := Option.some.inj H
      go_enter Try.func4, Try.ntmps4
      go_wp2_with (first | ((with_reducible refine gate_dst (N := 2) rfl ?_); refine box_event ?hg (N := 2) ?hd (cs := #[.int .i64 a0_0, .int .i64 a0_1, .slice A0_2 l0_2.length c0_2]) (t := 24) ?hr ?_; (case hd => rfl); (case hg => rfl); (case hr => first | (go_simp; done) | (go_simp; rfl)); intro gb101 hg w10 hbox hb; have n0_ := Aside0.mk (below_step (by exact eS HB.out) hb); have n1_ := Aside0.mk (hbox); have n2_ := Aside0.mk ((by rw [hg]; exact (below_size (by exact eS HB.out)) : w.heap.size ≤ gb101)); have n3_ := Aside0.mk ((by rw [hg]; exact (below_size (by exact eS HB.out)) : w.heap.size ≤ gb101)); clear HB; have HB := n0_; have BK101 := n1_; have GW101 := n2_; have GE101 := n3_; clear n0_ n1_ n2_ n3_; clear hb hbox hg; have hcz11_0 : w10.cell? ⟨gb101, 0, none⟩ = some (.int .i64 a0_0) := (blk_cell BK101.out 0).trans rfl; have hcz11_1 : w10.cell? ⟨gb101, 1, none⟩ = some (.int .i64 a0_1) := (blk_cell BK101.out 1).trans rfl; have hcz11_2 : w10.cell? ⟨gb101, 2, none⟩ = some (.slice A0_2 l0_2.length c0_2) := (blk_cell BK101.out 2).trans rfl; have hfz11_0 := blk_frozen BK101.out 0; have hfz11_1 := blk_frozen BK101.out 1; have hfz11_2 := blk_frozen BK101.out 2) | ((with_reducible refine gate_callee (f := 10) rfl ?_); refine goesL_ (some 14) rfl rfl Try.func10 (by kernel_rfl) rfl #[.agg #[.int .i64 a0_0, .int .i64 a0_1, .slice A0_2 l0_2.length c0_2], .int .i64 1048576] rfl (by (try simp only [List.map_toArray, List.map_cons, List.map_nil]); first | done | rfl | (simp only [List.length_drop, List.length_take]; rfl)) ?_; (with_reducible refine (laws_szChart.calls a0_0 a0_1 _ _ l0_2 1048576 t102 _ ?side1 ?side2 A3.out).mono ?_); (case side1 => repeat (first | exact (Kd.C_below HR0_2.out HB.out) | (with_reducible refine Kd.C_alloc ?_ _) | (with_reducible refine Kd.C_drewN ?_ _) | (with_reducible refine Kd.C_drew ?_))); (case side2 => exact HC0_2.out); rintro e w12 ⟨rfl, hb⟩; refine ⟨_, rfl, ?_⟩; have n0_ := Aside0.mk (blk_below (bS BK101.out) hb); have n1_ := Aside0.mk (below_step (by exact eS HB.out) hb); clear BK101; clear HB; have BK101 := n0_; have HB := n1_; clear n0_ n1_; (try clear hb); (try clear hb2); (try clear hk); (try clear hi)) | ((with_reducible refine gate_callee (f := 11) rfl ?_); refine goesL_ (some 19) rfl rfl Try.func11 (by kernel_rfl) rfl #[.slice A1 l1.length c1, .int .i64 t102] rfl (by (try simp only [List.map_toArray, List.map_cons, List.map_nil]); first | done | rfl | (simp only [List.length_drop, List.length_take]; rfl)) ?_; (with_reducible refine (laws_szHoleS.calls _ _ l1 t102 t103 _ ?side1 ?side2 A8.out).mono ?_); (case side1 => repeat (first | exact (Kd.C_below HR1.out HB.out) | (with_reducible refine Kd.C_alloc ?_ _) | (with_reducible refine Kd.C_drewN ?_ _) | (with_reducible refine Kd.C_drew ?_))); (case side2 => exact HC1.out); rintro e w' ⟨rfl, ⟨nd, rfl⟩⟩; refine ⟨_, rfl, ?_⟩))
      go_ret
      exact ⟨by first | rfl | (simp [errW_none, errW_some] <;> rfl) | (simp [*, errW_none, errW_some] <;> rfl), by exact eS HB.out⟩
    · rw [if_neg c9] at H
      have c9b0 : decide (t103 < 0) = false := decide_eq_false c9
      clear c9
      replace H := Option.bind_eq_some_iff.mp H
      obtain ⟨⟨t104, t105, t106⟩, A130, H⟩ := H
      replace H : ((laws_toHoleS.f k l1).bind fun t109 => ((spec_KnotsLost.f k t104 t105 t106 t109).bind fun bt112 => ((laws_toChart.f k a0_0 a0_1 l0_2).bind fun bt114 => ((laws_toHoleS.f k l1).bind fun t120 => ((impl_KnotsLost.f k bt114.1 bt114.2.1 bt114.2.2 t120).bind fun bt123 => (if bt123.1 = bt112.1 then (laws_FnExactKnotsLost.j0 k l1 t120 (bt123.2 != bt112.2) a0_0 a0_1 l0_2 bt114.1 bt114.2.1 bt114.2.2) else (laws_FnExactKnotsLost.j0 k l1 t120 true a0_0 a0_1 l0_2 bt114.1 bt114.2.1 bt114.2.2))))))) = some r := H
      have A13 := Aside0.mk A130
      clear A130
      replace H := Option.bind_eq_some_iff.mp H
      obtain ⟨t109, A140, H⟩ := H
      replace H : ((spec_KnotsLost.f k t104 t105 t106 t109).bind fun bt112 => ((laws_toChart.f k a0_0 a0_1 l0_2).bind fun bt114 => ((laws_toHoleS.f k l1).bind fun t120 => ((impl_KnotsLost.f k bt114.1 bt114.2.1 bt114.2.2 t120).bind fun bt123 => (if bt123.1 = bt112.1 then (laws_FnExactKnotsLost.j0 k l1 t120 (bt123.2 != bt112.2) a0_0 a0_1 l0_2 bt114.1 bt114.2.1 bt114.2.2) else (laws_FnExactKnotsLost.j0 k l1 t120 true a0_0 a0_1 l0_2 bt114.1 bt114.2.1 bt114.2.2)))))) = some r := H
      have A14 := Aside0.mk A140
      clear A140
      replace H := Option.bind_eq_some_iff.mp H
      obtain ⟨⟨t112, t113⟩, A150, H⟩ := H
      replace H : ((laws_toChart.f k a0_0 a0_1 l0_2).bind fun bt114 => ((laws_toHoleS.f k l1).bind fun t120 => ((impl_KnotsLost.f k bt114.1 bt114.2.1 bt114.2.2 t120).bind fun bt123 => (if bt123.1 = t112 then (laws_FnExactKnotsLost.j0 k l1 t120 (bt123.2 != t113) a0_0 a0_1 l0_2 bt114.1 bt114.2.1 bt114.2.2) else (laws_FnExactKnotsLost.j0 k l1 t120 true a0_0 a0_1 l0_2 bt114.1 bt114.2.1 bt114.2.2))))) = some r := H
      have A15 := Aside0.mk A150
      clear A150
      replace H := Option.bind_eq_some_iff.mp H
      obtain ⟨⟨t114, t115, t116⟩, A160, H⟩ := H
      replace H : ((laws_toHoleS.f k l1).bind fun t120 => ((impl_KnotsLost.f k t114 t115 t116 t120).bind fun bt123 => (if bt123.1 = t112 then (laws_FnExactKnotsLost.j0 k l1 t120 (bt123.2 != t113) a0_0 a0_1 l0_2 t114 t115 t116) else (laws_FnExactKnotsLost.j0 k l1 t120 true a0_0 a0_1 l0_2 t114 t115 t116)))) = some r := H
      have A16 := Aside0.mk A160
      clear A160
      replace H := Option.bind_eq_some_iff.mp H
      obtain ⟨t120, A170, H⟩ := H
      replace H : ((impl_KnotsLost.f k t114 t115 t116 t120).bind fun bt123 => (if bt123.1 = t112 then (laws_FnExactKnotsLost.j0 k l1 t120 (bt123.2 != t113) a0_0 a0_1 l0_2 t114 t115 t116) else (laws_FnExactKnotsLost.j0 k l1 t120 true a0_0 a0_1 l0_2 t114 t115 t116))) = some r := H
      have A17 := Aside0.mk A170
      clear A170
      replace H := Option.bind_eq_some_iff.mp H
      obtain ⟨⟨t123, t124⟩, A180, H⟩ := H
      replace H : (if t123 = t112 then (laws_FnExactKnotsLost.j0 k l1 t120 (t124 != t113) a0_0 a0_1 l0_2 t114 t115 t116) else (laws_FnExactKnotsLost.j0 k l1 t120 true a0_0 a0_1 l0_2 t114 t115 t116)) = some r := H
      have A18 := Aside0.mk A180
      clear A180
      have HC19 := Aside0.mk H
      clear H
      go_enter Try.func4, Try.ntmps4
      go_upto_region 12 with (first | ((with_reducible refine gate_dst (N := 2) rfl ?_); refine box_event ?hg (N := 2) ?hd (cs := #[.int .i64 a0_0, .int .i64 a0_1, .slice A0_2 l0_2.length c0_2]) (t := 24) ?hr ?_; (case hd => rfl); (case hg => rfl); (case hr => first | (go_simp; done) | (go_simp; rfl)); intro gb101 hg w20 hbox hb; have n0_ := Aside0.mk (below_step (by exact eS HB.out) hb); have n1_ := Aside0.mk (hbox); have n2_ := Aside0.mk ((by rw [hg]; exact (below_size (by exact eS HB.out)) : w.heap.size ≤ gb101)); have n3_ := Aside0.mk ((by rw [hg]; exact (below_size (by exact eS HB.out)) : w.heap.size ≤ gb101)); clear HB; have HB := n0_; have BK101 := n1_; have GW101 := n2_; have GE101 := n3_; clear n0_ n1_ n2_ n3_; clear hb hbox hg; have hcz21_0 : w20.cell? ⟨gb101, 0, none⟩ = some (.int .i64 a0_0) := (blk_cell BK101.out 0).trans rfl; have hcz21_1 : w20.cell? ⟨gb101, 1, none⟩ = some (.int .i64 a0_1) := (blk_cell BK101.out 1).trans rfl; have hcz21_2 : w20.cell? ⟨gb101, 2, none⟩ = some (.slice A0_2 l0_2.length c0_2) := (blk_cell BK101.out 2).trans rfl; have hfz21_0 := blk_frozen BK101.out 0; have hfz21_1 := blk_frozen BK101.out 1; have hfz21_2 := blk_frozen BK101.out 2) | ((with_reducible refine gate_callee (f := 10) rfl ?_); refine goesL_ (some 14) rfl rfl Try.func10 (by kernel_rfl) rfl #[.agg #[.int .i64 a0_0, .int .i64 a0_1, .slice A0_2 l0_2.length c0_2], .int .i64 1048576] rfl (by (try simp only [List.map_toArray, List.map_cons, List.map_nil]); first | done | rfl | (simp only [List.length_drop, List.length_take]; rfl)) ?_; (with_reducible refine (laws_szChart.calls a0_0 a0_1 _ _ l0_2 1048576 t102 _ ?side1 ?side2 A3.out).mono ?_); (case side1 => repeat (first | exact (Kd.C_below HR0_2.out HB.out) | (with_reducible refine Kd.C_alloc ?_ _) | (with_reducible refine Kd.C_drewN ?_ _) | (with_reducible refine Kd.C_drew ?_))); (case side2 => exact HC0_2.out); rintro e w22 ⟨rfl, hb⟩; refine ⟨_, rfl, ?_⟩; have n0_ := Aside0.mk (blk_below (bS BK101.out) hb); have n1_ := Aside0.mk (below_step (by exact eS HB.out) hb); clear BK101; clear HB; have BK101 := n0_; have HB := n1_; clear n0_ n1_; (try clear hb); (try clear hb2); (try clear hk); (try clear hi)) | ((with_reducible refine gate_callee (f := 11) rfl ?_); refine goesL_ (some 19) rfl rfl Try.func11 (by kernel_rfl) rfl #[.slice A1 l1.length c1, .int .i64 t102] rfl (by (try simp only [List.map_toArray, List.map_cons, List.map_nil]); first | done | rfl | (simp only [List.length_drop, List.length_take]; rfl)) ?_; (with_reducible refine (laws_szHoleS.calls _ _ l1 t102 t103 _ ?side1 ?side2 A8.out).mono ?_); (case side1 => repeat (first | exact (Kd.C_below HR1.out HB.out) | (with_reducible refine Kd.C_alloc ?_ _) | (with_reducible refine Kd.C_drewN ?_ _) | (with_reducible refine Kd.C_drew ?_))); (case side2 => exact HC1.out); rintro e w' ⟨rfl, ⟨nd, rfl⟩⟩; refine ⟨_, rfl, ?_⟩; (try (rw [drewN_self w22]; generalize hq_ : World.drewN w22 _ = w22; have n0_ : Aside0 (w22.heap[gb101]? = some (.cells #[.int .i64 a0_0, .int .i64 a0_1, .slice A0_2 l0_2.length c0_2] 24 (0, 0))) := ⟨by rw [← hq_]; exact (by exact bS BK101.out)⟩; have n1_ : Aside0 (Below w.heap.size w w22) := ⟨by rw [← hq_]; exact (by exact eS HB.out)⟩; clear BK101 HB hq_; have BK101 := n0_; have HB := n1_; clear n0_ n1_)); have hcz23_0 : w22.cell? ⟨gb101, 0, none⟩ = some (.int .i64 a0_0) := (blk_cell BK101.out 0).trans rfl; have hcz23_1 : w22.cell? ⟨gb101, 1, none⟩ = some (.int .i64 a0_1) := (blk_cell BK101.out 1).trans rfl; have hcz23_2 : w22.cell? ⟨gb101, 2, none⟩ = some (.slice A0_2 l0_2.length c0_2) := (blk_cell BK101.out 2).trans rfl; have hfz23_0 := blk_frozen BK101.out 0; have hfz23_1 := blk_frozen BK101.out 1; have hfz23_2 := blk_frozen BK101.out 2) | ((with_reducible refine gate_callee (f := 13) rfl ?_); refine goesL_ (some 24) rfl rfl Try.func13 (by kernel_rfl) rfl #[.agg #[.int .i64 a0_0, .int .i64 a0_1, .slice A0_2 l0_2.length c0_2]] rfl (by (try simp only [List.map_toArray, List.map_cons, List.map_nil]); first | done | rfl | (simp only [List.length_drop, List.length_take]; rfl)) ?_; (with_reducible refine (laws_toChart.calls k a0_0 a0_1 _ _ l0_2 t104 t105 t106 _ ?side1 ?side2 A13.out).mono ?_); (case side1 => repeat (first | exact (Kd.C_below HR0_2.out HB.out) | (with_reducible refine Kd.C_alloc ?_ _) | (with_reducible refine Kd.C_drewN ?_ _) | (with_reducible refine Kd.C_drew ?_))); (case side2 => exact HC0_2.out); rintro e w24 ⟨v107, rfl, ho0, hb⟩; refine ⟨_, rfl, ?_⟩; have n0_ := Aside0.mk (Kd.R_lower ho0 (below_size (by exact eS HB.out))); have n1_ := Aside0.mk (blk_below (bS BK101.out) hb); have n2_ := Aside0.mk (below_step (by exact eS HB.out) hb); clear BK101; clear HB; have HO108 := n0_; have BK101 := n1_; have HB := n2_; clear n0_ n1_ n2_; (try clear hb); (try clear hb2); (try clear hk); (try clear hi); (try clear ho0)) | ((with_reducible refine gate_callee (f := 14) rfl ?_); refine goesL_ (some 26) rfl rfl Try.func14 (by kernel_rfl) rfl #[.slice A1 l1.length c1] rfl (by (try simp only [List.map_toArray, List.map_cons, List.map_nil]); first | done | rfl | (simp only [List.length_drop, List.length_take]; rfl)) ?_; (with_reducible refine (laws_toHoleS.calls k _ _ l1 t109 _ ?side1 ?side2 A14.out).mono ?_); (case side1 => repeat (first | exact (Kd.C_below HR1.out HB.out) | (with_reducible refine Kd.C_alloc ?_ _) | (with_reducible refine Kd.C_drewN ?_ _) | (with_reducible refine Kd.C_drew ?_))); (case side2 => exact HC1.out); rintro e w25 ⟨v110, rfl, ho0, hb⟩; refine ⟨_, rfl, ?_⟩; have n0_ := Aside0.mk (Kd.R_below (by exact Ho.RS <| HO108.out) hb); have n1_ := Aside0.mk (Kd.R_lower ho0 (below_size (by exact eS HB.out))); have n2_ := Aside0.mk (blk_below (bS BK101.out) hb); have n3_ := Aside0.mk (below_step (by exact eS HB.out) hb); clear HO108; clear BK101; clear HB; have HO108 := n0_; have HO111 := n1_; have BK101 := n2_; have HB := n3_; clear n0_ n1_ n2_ n3_; (try clear hb); (try clear hb2); (try clear hk); (try clear hi); (try clear ho0); obtain ⟨Ao26, co26, eo26⟩ := Kd.R_slice HO108.out; subst eo26; obtain ⟨Ao27, co27, eo27⟩ := Kd.R_slice HO111.out; subst eo27) | ((with_reducible refine gate_callee (f := 18) rfl ?_); refine goesL_ (some 27) rfl rfl Try.func18 (by kernel_rfl) rfl #[.agg #[.int .i64 t104, .int .i64 t105, .slice Ao26 t106.length co26], .slice Ao27 t109.length co27] rfl (by (try simp only [List.map_toArray, List.map_cons, List.map_nil]); first | done | rfl | (simp only [List.length_drop, List.length_take]; rfl)) ?_; (with_reducible refine (spec_KnotsLost.calls k t104 t105 _ _ t106 _ _ t109 t112 t113 _ ?side1 ?side2 ?side3 ?side4 A15.out).mono ?_); (case side1 => repeat (first | exact (Kd.R_reads' HO108.out).2.2 | (with_reducible refine Kd.C_alloc ?_ _) | (with_reducible refine Kd.C_drewN ?_ _) | (with_reducible refine Kd.C_drew ?_))); (case side2 => exact (Kd.R_reads' HO108.out).2.1); (case side3 => repeat (first | exact (Kd.R_reads' HO111.out).2.2 | (with_reducible refine Kd.C_alloc ?_ _) | (with_reducible refine Kd.C_drewN ?_ _) | (with_reducible refine Kd.C_drew ?_))); (case side4 => exact (Kd.R_reads' HO111.out).2.1); rintro e w28 ⟨rfl, hb⟩; refine ⟨_, rfl, ?_⟩; have n0_ := Aside0.mk (Kd.R_below (by exact Ho.RS <| HO108.out) hb); have n1_ := Aside0.mk (Kd.R_below (by exact Ho.RS <| HO111.out) hb); have n2_ := Aside0.mk (blk_below (bS BK101.out) hb); have n3_ := Aside0.mk (below_step (by exact eS HB.out) hb); clear HO108; clear HO111; clear BK101; clear HB; have HO108 := n0_; have HO111 := n1_; have BK101 := n2_; have HB := n3_; clear n0_ n1_ n2_ n3_; (try clear hb); (try clear hb2); (try clear hk); (try clear hi); have hcz29_0 : w28.cell? ⟨gb101, 0, none⟩ = some (.int .i64 a0_0) := (blk_cell BK101.out 0).trans rfl; have hcz29_1 : w28.cell? ⟨gb101, 1, none⟩ = some (.int .i64 a0_1) := (blk_cell BK101.out 1).trans rfl; have hcz29_2 : w28.cell? ⟨gb101, 2, none⟩ = some (.slice A0_2 l0_2.length c0_2) := (blk_cell BK101.out 2).trans rfl; have hfz29_0 := blk_frozen BK101.out 0; have hfz29_1 := blk_frozen BK101.out 1; have hfz29_2 := blk_frozen BK101.out 2) | ((with_reducible refine gate_callee (f := 13) rfl ?_); refine goesL_ (some 31) rfl rfl Try.func13 (by kernel_rfl) rfl #[.agg #[.int .i64 a0_0, .int .i64 a0_1, .slice A0_2 l0_2.length c0_2]] rfl (by (try simp only [List.map_toArray, List.map_cons, List.map_nil]); first | done | rfl | (simp only [List.length_drop, List.length_take]; rfl)) ?_; (with_reducible refine (laws_toChart.calls k a0_0 a0_1 _ _ l0_2 t114 t115 t116 _ ?side1 ?side2 A16.out).mono ?_); (case side1 => repeat (first | exact (Kd.C_below HR0_2.out HB.out) | (with_reducible refine Kd.C_alloc ?_ _) | (with_reducible refine Kd.C_drewN ?_ _) | (with_reducible refine Kd.C_drew ?_))); (case side2 => exact HC0_2.out); rintro e w30 ⟨v117, rfl, ho0, hb⟩; refine ⟨_, rfl, ?_⟩; have n0_ := Aside0.mk (Kd.R_elder' (by exact Ho.RS <| HO108.out) (Kd.R_base ho0) hb); have n1_ := Aside0.mk (Kd.R_below (by exact Ho.RS <| HO111.out) hb); have n2_ := Aside0.mk (Kd.R_lower (Kd.R_new' ho0 (Kd.R_lt (by exact Ho.RS <| HO108.out))) (below_size (by exact eS HB.out))); have n3_ := Aside0.mk (blk_below (bS BK101.out) hb); have n4_ := Aside0.mk (below_step (by exact eS HB.out) hb); clear HO108; clear HO111; clear BK101; clear HB; have HO108 := n0_; have HO111 := n1_; have HO118 := n2_; have BK101 := n3_; have HB := n4_; clear n0_ n1_ n2_ n3_ n4_; (try clear hb); (try clear hb2); (try clear hk); (try clear hi); (try clear ho0)) | ((with_reducible refine gate_dst (N := 8) rfl ?_); refine box_event ?hg (N := 8) ?hd (cs := #[.int .i64 0, .int .i64 0, .slice none 0 0]) (t := 29) ?hr ?_; (case hd => rfl); (case hg => rfl); (case hr => first | (go_simp; done) | (go_simp; rfl)); intro gb119 hg w31 hbox hb; have n0_ := Aside0.mk (Kd.R_below (by exact Ho.RS <| HO108.out) hb); have n1_ := Aside0.mk (Kd.R_below (by exact Ho.RS <| HO111.out) hb); have n2_ := Aside0.mk (Kd.R_below (by exact Ho.RS <| HO118.out) hb); have n3_ := Aside0.mk (blk_below (bS BK101.out) hb); have n4_ := Aside0.mk (below_step (by exact eS HB.out) hb); have n5_ := Aside0.mk (hbox); have n6_ := Aside0.mk ((by rw [hg]; exact (below_size (by exact eS HB.out)) : w.heap.size ≤ gb119)); have n7_ := Aside0.mk ((by rw [hg]; exact (below_size (by exact eS HB.out)) : w.heap.size ≤ gb119)); have n8_ := Aside0.mk ((by rw [hg]; exact Nat.ne_of_lt (blk_lt (bS BK101.out)) : gb101 ≠ gb119)); have n9_ := Aside0.mk ((by rw [hg]; exact Nat.ne_of_gt (blk_lt (bS BK101.out)) : gb119 ≠ gb101)); clear HO108; clear HO111; clear HO118; clear BK101; clear HB; have HO108 := n0_; have HO111 := n1_; have HO118 := n2_; have BK101 := n3_; have HB := n4_; have BK119 := n5_; have GW119 := n6_; have GE119 := n7_; have NB101_119 := n8_; have NB119_101 := n9_; clear n0_ n1_ n2_ n3_ n4_ n5_ n6_ n7_ n8_ n9_; clear hb hbox hg; have hnb32 := NB119_101.out; have hnc32 := NB101_119.out; have hcz33_0 : w31.cell? ⟨gb119, 0, none⟩ = some (.int .i64 0) := (blk_cell BK119.out 0).trans rfl; have hcz33_1 : w31.cell? ⟨gb119, 1, none⟩ = some (.int .i64 0) := (blk_cell BK119.out 1).trans rfl; have hcz33_2 : w31.cell? ⟨gb119, 2, none⟩ = some (.slice none 0 0) := (blk_cell BK119.out 2).trans rfl; have hfz33_0 := blk_frozen BK119.out 0; have hfz33_1 := blk_frozen BK119.out 1; have hfz33_2 := blk_frozen BK119.out 2; obtain ⟨Ao34, co34, eo34⟩ := Kd.R_slice HO118.out; subst eo34) | ((with_reducible refine gate_callee (f := 14) rfl ?_); refine goesL_ (some 33) rfl rfl Try.func14 (by kernel_rfl) rfl #[.slice A1 l1.length c1] rfl (by (try simp only [List.map_toArray, List.map_cons, List.map_nil]); first | done | rfl | (simp only [List.length_drop, List.length_take]; rfl)) ?_; (with_reducible refine (laws_toHoleS.calls k _ _ l1 t120 _ ?side1 ?side2 A17.out).mono ?_); (case side1 => exact Kd.C_below HR1.out (by repeat (first | (with_reducible first | exact HB.out | apply below_alloc | apply pw_below_drewN | apply below_drew1 | refine below_set ?_ GE101.out | refine below_set ?_ GE119.out) | exact HB.out))); (case side2 => exact HC1.out); rintro e w35 ⟨v121, rfl, ho0, hb⟩; refine ⟨_, rfl, ?_⟩; have n0_ := Aside0.mk (Kd.R_below (by exact Ho.RS <| (Kd.R_mono (Kd.R_far (p := ⟨gb119, 2, none⟩) (Kd.R_far (p := ⟨gb119, 1, none⟩) (Kd.R_far (p := ⟨gb119, 0, none⟩) (Kd.R_types HO108.out BK119.out (by decide)) (fun _ hk => hk.2) (.int .i64 t114)) (fun _ hk => hk.2) (.int .i64 t115)) (fun _ hk => hk.2) (.slice Ao34 t116.length co34)) (fun _ h_ => h_.1))) hb); have n1_ := Aside0.mk (Kd.R_elder' (by exact Ho.RS <| (Kd.R_mono (Kd.R_far (p := ⟨gb119, 2, none⟩) (Kd.R_far (p := ⟨gb119, 1, none⟩) (Kd.R_far (p := ⟨gb119, 0, none⟩) (Kd.R_types HO111.out BK119.out (by decide)) (fun _ hk => hk.2) (.int .i64 t114)) (fun _ hk => hk.2) (.int .i64 t115)) (fun _ hk => hk.2) (.slice Ao34 t116.length co34)) (fun _ h_ => h_.1))) (Kd.R_base ho0) hb); have n2_ := Aside0.mk (Kd.R_below (by exact Ho.RS <| (Kd.R_mono (Kd.R_far (p := ⟨gb119, 2, none⟩) (Kd.R_far (p := ⟨gb119, 1, none⟩) (Kd.R_far (p := ⟨gb119, 0, none⟩) (Kd.R_types HO118.out BK119.out (by decide)) (fun _ hk => hk.2) (.int .i64 t114)) (fun _ hk => hk.2) (.int .i64 t115)) (fun _ hk => hk.2) (.slice Ao34 t116.length co34)) (fun _ h_ => h_.1))) hb); have n3_ := Aside0.mk (Kd.R_lower (Kd.R_new' ho0 (Kd.R_lt (by exact Ho.RS <| (Kd.R_mono (Kd.R_far (p := ⟨gb119, 2, none⟩) (Kd.R_far (p := ⟨gb119, 1, none⟩) (Kd.R_far (p := ⟨gb119, 0, none⟩) (Kd.R_types HO111.out BK119.out (by decide)) (fun _ hk => hk.2) (.int .i64 t114)) (fun _ hk => hk.2) (.int .i64 t115)) (fun _ hk => hk.2) (.slice Ao34 t116.length co34)) (fun _ h_ => h_.1))))) (below_size (by repeat (first | (with_reducible first | exact HB.out | apply below_alloc | apply pw_below_drewN | apply below_drew1 | refine below_set ?_ GE101.out | refine below_set ?_ GE119.out) | exact HB.out)))); have n4_ := Aside0.mk (blk_below (g := gb101) (o := .cells #[.int .i64 a0_0, .int .i64 a0_1, .slice A0_2 l0_2.length c0_2] 24 (0, 0)) (by (with_reducible repeat (first | refine blk_drewN ?_ _ | refine blk_drew ?_ | refine blk_alloc ?_ _)); refine blk_far ?_ NB101_119.out _; (with_reducible repeat (first | refine blk_drewN ?_ _ | refine blk_drew ?_ | refine blk_alloc ?_ _)); refine blk_far ?_ NB101_119.out _; (with_reducible repeat (first | refine blk_drewN ?_ _ | refine blk_drew ?_ | refine blk_alloc ?_ _)); refine blk_far ?_ NB101_119.out _; exact bS BK101.out) hb); have n5_ := Aside0.mk (blk_below (g := gb119) (o := .cells #[.int .i64 t114, .int .i64 t115, .slice Ao34 t116.length co34] 29 (0, 0)) (by (with_reducible repeat (first | refine blk_drewN ?_ _ | refine blk_drew ?_ | refine blk_alloc ?_ _)); refine blk_put (cs := #[.int .i64 t114, .int .i64 t115, .slice none 0 0]) ?_ 2 _ rfl; (with_reducible repeat (first | refine blk_drewN ?_ _ | refine blk_drew ?_ | refine blk_alloc ?_ _)); refine blk_put (cs := #[.int .i64 t114, .int .i64 0, .slice none 0 0]) ?_ 1 _ rfl; (with_reducible repeat (first | refine blk_drewN ?_ _ | refine blk_drew ?_ | refine blk_alloc ?_ _)); refine blk_put (cs := #[.int .i64 0, .int .i64 0, .slice none 0 0]) ?_ 0 _ rfl; exact bS BK119.out) hb); have n6_ := Aside0.mk (below_step (by repeat (first | (with_reducible first | exact HB.out | apply below_alloc | apply pw_below_drewN | apply below_drew1 | refine below_set ?_ GE101.out | refine below_set ?_ GE119.out) | exact HB.out)) hb); clear HO108; clear HO111; clear HO118; clear BK101; clear BK119; clear HB; have HO108 := n0_; have HO111 := n1_; have HO118 := n2_; have HO122 := n3_; have BK101 := n4_; have BK119 := n5_; have HB := n6_; clear n0_ n1_ n2_ n3_ n4_ n5_ n6_; (try clear hb); (try clear hb2); (try clear hk); (try clear hi); (try clear ho0); have hcz36_0 : w35.cell? ⟨gb119, 0, none⟩ = some (.int .i64 t114) := (blk_cell BK119.out 0).trans rfl; have hcz36_1 : w35.cell? ⟨gb119, 1, none⟩ = some (.int .i64 t115) := (blk_cell BK119.out 1).trans rfl; have hcz36_2 : w35.cell? ⟨gb119, 2, none⟩ = some (.slice Ao34 t116.length co34) := (blk_cell BK119.out 2).trans rfl; have hfz36_0 := blk_frozen BK119.out 0; have hfz36_1 := blk_frozen BK119.out 1; have hfz36_2 := blk_frozen BK119.out 2; obtain ⟨Ao37, co37, eo37⟩ := Kd.R_slice HO122.out; subst eo37) | ((with_reducible refine gate_callee (f := 19) rfl ?_); refine goesL_ (some 37) rfl rfl Try.func19 (by kernel_rfl) rfl #[.agg #[.int .i64 t114, .int .i64 t115, .slice Ao34 t116.length co34], .slice Ao37 t120.length co37] rfl (by (try simp only [List.map_toArray, List.map_cons, List.map_nil]); first | done | rfl | (simp only [List.length_drop, List.length_take]; rfl)) ?_; (with_reducible refine (impl_KnotsLost.calls k t114 t115 _ _ t116 _ _ t120 t123 t124 _ ?side1 ?side2 ?side3 ?side4 A18.out).mono ?_); (case side1 => repeat (first | exact (Kd.R_reads' HO118.out).2.2 | (with_reducible refine Kd.C_alloc ?_ _) | (with_reducible refine Kd.C_drewN ?_ _) | (with_reducible refine Kd.C_drew ?_))); (case side2 => exact (Kd.R_reads' HO118.out).2.1); (case side3 => repeat (first | exact (Kd.R_reads' HO122.out).2.2 | (with_reducible refine Kd.C_alloc ?_ _) | (with_reducible refine Kd.C_drewN ?_ _) | (with_reducible refine Kd.C_drew ?_))); (case side4 => exact (Kd.R_reads' HO122.out).2.1); rintro e w38 ⟨rfl, hb⟩; refine ⟨_, rfl, ?_⟩; have n0_ := Aside0.mk (Kd.R_below (by exact Ho.RS <| HO108.out) hb); have n1_ := Aside0.mk (Kd.R_below (by exact Ho.RS <| HO111.out) hb); have n2_ := Aside0.mk (Kd.R_below (by exact Ho.RS <| HO118.out) hb); have n3_ := Aside0.mk (Kd.R_below (by exact Ho.RS <| HO122.out) hb); have n4_ := Aside0.mk (blk_below (bS BK101.out) hb); have n5_ := Aside0.mk (blk_below (bS BK119.out) hb); have n6_ := Aside0.mk (below_step (by exact eS HB.out) hb); clear HO108; clear HO111; clear HO118; clear HO122; clear BK101; clear BK119; clear HB; have HO108 := n0_; have HO111 := n1_; have HO118 := n2_; have HO122 := n3_; have BK101 := n4_; have BK119 := n5_; have HB := n6_; clear n0_ n1_ n2_ n3_ n4_ n5_ n6_; (try clear hb); (try clear hb2); (try clear hk); (try clear hi)))
      (try simp only [Act.put, List.setIfInBounds_toArray, List.set_cons_zero, List.set_cons_succ])
      go_cut [47] (fun v47 wc => ∃ (kq : Nat) (x47_18 : Bool), v47 = .bool x47_18 ∧ Aside0 (laws_FnExactKnotsLost.j0 kq l1 t120 x47_18 a0_0 a0_1 l0_2 t114 t115 t116 = some r) ∧ Aside0 (kq ≤ k) ∧ Aside0 (Kd.R k39 39 wc w.heap.size (fun _ => True) (.slice Ao37 t120.length co37) t120) ∧ Aside0 (Kd.R (Kd.int .i64) 3 wc w.heap.size (fun _ => True) (.slice Ao34 t116.length co34) t116) ∧ Aside0 (wc.heap[gb101]? = some (.cells #[.int .i64 a0_0, .int .i64 a0_1, (.slice A0_2 l0_2.length c0_2)] 24 (0, 0))) ∧ Aside0 (wc.heap[gb119]? = some (.cells #[.int .i64 t114, .int .i64 t115, (.slice Ao34 t116.length co34)] 29 (0, 0))) ∧ Aside0 (Below w.heap.size w wc))
      case first =>
        have H := HC19.out
        clear HC19
        by_cases c39 : t123 = t112
        · rw [if_pos c39] at H
          have c39b0 : (t123 == t112) = true := beq_iff_eq.mpr c39
          have c39b1 : (t123 != t112) = false := bne_eq_false_iff_eq.mpr c39
          clear c39
          (first | rw [c39b0] | (simp only [i64_w, i32_w]; rw [c39b0]) | skip)
          have H' := Aside0.mk H
          clear H
          go_wp2
          go_meet
          case rel => exact ⟨_, ((t124 != t113)), (by first | rfl | (simp; done) | (simp [*]; done)), H', ⟨by first | omega | exact Nat.le_refl _⟩, ⟨by exact Ho.RS <| Kd.R_mono HO122.out (fun _ hk => trivial)⟩, ⟨by exact Ho.RS <| Kd.R_mono HO118.out (fun _ hk => trivial)⟩, ⟨by exact bS BK101.out⟩, ⟨by exact bS BK119.out⟩, ⟨by exact eS HB.out⟩⟩
        · rw [if_neg c39] at H
          have c39b0 : (t123 == t112) = false := beq_eq_false_iff_ne.mpr c39
          have c39b1 : (t123 != t112) = true := bne_iff_ne.mpr c39
          (first | rw [c39b0] | (simp only [i64_w, i32_w]; rw [c39b0]) | skip)
          have H' := Aside0.mk H
          clear H
          go_wp2
          go_meet
          case rel => exact ⟨_, (true), (by first | rfl | (simp; done) | (simp [*]; done)), H', ⟨by first | omega | exact Nat.le_refl _⟩, ⟨by exact Ho.RS <| Kd.R_mono HO122.out (fun _ hk => trivial)⟩, ⟨by exact Ho.RS <| Kd.R_mono HO118.out (fun _ hk => trivial)⟩, ⟨by exact bS BK101.out⟩, ⟨by exact bS BK119.out⟩, ⟨by exact eS HB.out⟩⟩
      case rest =>
        clear HC19
        try clear c1
        try clear p2
        try clear c3
        try clear c4
        try clear c4b0
        try clear c9
        try clear c9b0
        try clear c10
        try clear c11
        try clear c13
        try clear c14
        try clear c18
        try clear c19
        try clear c32
        try clear c39
        try clear c39b0
        try clear c39b1
        try clear hcz11_0
        try clear hcz11_1
        try clear hcz11_2
        try clear hcz21_0
        try clear hcz21_1
        try clear hcz21_2
        try clear hcz23_0
        try clear hcz23_1
        try clear hcz23_2
        try clear hcz29_0
        try clear hcz29_1
        try clear hcz29_2
        try clear hcz33_0
        try clear hcz33_1
        try clear hcz33_2
        try clear hcz36_0
        try clear hcz36_1
        try clear hcz36_2
        try clear hcz6_0
        try clear hcz6_1
        try clear hcz6_2
        try clear hfz11_0
        try clear hfz11_1
        try clear hfz11_2
        try clear hfz21_0
        try clear hfz21_1
        try clear hfz21_2
        try clear hfz23_0
        try clear hfz23_1
        try clear hfz23_2
        try clear hfz29_0
        try clear hfz29_1
        try clear hfz29_2
        try clear hfz33_0
        try clear hfz33_1
        try clear hfz33_2
        try clear hfz36_0
        try clear hfz36_1
        try clear hfz36_2
        try clear hfz6_0
        try clear hfz6_1
        try clear hfz6_2
        obtain ⟨kq, x47_18, rfl, HA, HJ18, HO_9, HO_120002, BK101, BK119, HB⟩ := hcut
        cases kq with
        | zero => exact absurd HA.out (by simp [laws_FnExactKnotsLost.j0])
        | succ kj18 =>
          have H := HA.out
          clear HA
          simp only [laws_FnExactKnotsLost.j0] at H
          by_cases c40 : x47_18 = true
          · subst c40
            have H1 : (some false) = some r := by rw [if_pos rfl] at H; exact H
            clear H
            have H := H1
            clear H1
            exact absurd ((Option.some.inj H).trans HT.out) (by decide)
          · replace c40 := Bool.eq_false_iff.mpr c40
            subst c40
            have H1 : ((laws_toChart.f kj18 a0_0 a0_1 l0_2).bind fun bt125 => ((laws_eqChart.f kj18 t114 t115 t116 bt125.1 bt125.2.1 bt125.2.2).bind fun t130 => (if t130 = true then ((laws_toHoleS.f kj18 l1).bind fun t131 => ((laws_eqHoleS.f kj18 t120 t131).bind fun t134 => (if t134 = true then (some true) else (some false)))) else (some false)))) = some r := by rw [if_neg (show ¬ (false = true) by decide)] at H; exact H
            clear H
            have H := H1
            clear H1
            replace H := Option.bind_eq_some_iff.mp H
            obtain ⟨⟨t125, t126, t127⟩, A410, H⟩ := H
            replace H : ((laws_eqChart.f kj18 t114 t115 t116 t125 t126 t127).bind fun t130 => (if t130 = true then ((laws_toHoleS.f kj18 l1).bind fun t131 => ((laws_eqHoleS.f kj18 t120 t131).bind fun t134 => (if t134 = true then (some true) else (some false)))) else (some false))) = some r := H
            have A41 := Aside0.mk A410
            clear A410
            replace H := Option.bind_eq_some_iff.mp H
            obtain ⟨t130, A420, H⟩ := H
            replace H : (if t130 = true then ((laws_toHoleS.f kj18 l1).bind fun t131 => ((laws_eqHoleS.f kj18 t120 t131).bind fun t134 => (if t134 = true then (some true) else (some false)))) else (some false)) = some r := H
            have A42 := Aside0.mk A420
            clear A420
            by_cases c43 : t130 = true
            · subst c43
              have H1 : ((laws_toHoleS.f kj18 l1).bind fun t131 => ((laws_eqHoleS.f kj18 t120 t131).bind fun t134 => (if t134 = true then (some true) else (some false)))) = some r := by rw [if_pos rfl] at H; exact H
              clear H
              have H := H1
              clear H1
              replace H := Option.bind_eq_some_iff.mp H
              obtain ⟨t131, A440, H⟩ := H
              replace H : ((laws_eqHoleS.f kj18 t120 t131).bind fun t134 => (if t134 = true then (some true) else (some false))) = some r := H
              have A44 := Aside0.mk A440
              clear A440
              replace H := Option.bind_eq_some_iff.mp H
              obtain ⟨t134, A450, H⟩ := H
              replace H : (if t134 = true then (some true) else (some false)) = some r := H
              have A45 := Aside0.mk A450
              clear A450
              by_cases c46 : t134 = true
              · subst c46
                have H1 : (some true) = some r := by rw [if_pos rfl] at H; exact H
                clear H
                have H := H1
                clear H1
                obtain rfl := Option.some.inj H
                try go_wp2
                have n0_ := Aside0.mk (Kd.R_drew HO_9.out)
                have n1_ := Aside0.mk (Kd.R_drew HO_120002.out)
                have n2_ := Aside0.mk (blk_drew BK101.out)
                have n3_ := Aside0.mk (blk_drew BK119.out)
                have n4_ := Aside0.mk (below_drew1 HB.out)
                clear HO_9
                clear HO_120002
                clear BK101
                clear BK119
                clear HB
                have HO_9 := n0_
                have HO_120002 := n1_
                have BK101 := n2_
                have BK119 := n3_
                have HB := n4_
                clear n0_ n1_ n2_ n3_ n4_
                refine start_ (n := 5) (S := fun w' => w'.cell? ⟨gb119, 0, none⟩ = some (.int .i64 t114) ∧ w'.cell? ⟨gb119, 1, none⟩ = some (.int .i64 t115) ∧ w'.cell? ⟨gb119, 2, none⟩ = some (.slice Ao34 t116.length co34) ∧ w'.cell? ⟨gb101, 0, none⟩ = some (.int .i64 a0_0) ∧ w'.cell? ⟨gb101, 1, none⟩ = some (.int .i64 a0_1) ∧ w'.cell? ⟨gb101, 2, none⟩ = some (.slice A0_2 l0_2.length c0_2)) (ds := []) #[false, false, false, false, false] (by kernel_rfl) rfl rfl ⟨(blk_cell BK119.out 0).trans rfl, (blk_cell BK119.out 1).trans rfl, (blk_cell BK119.out 2).trans rfl, (blk_cell BK101.out 0).trans rfl, (blk_cell BK101.out 1).trans rfl, (blk_cell BK101.out 2).trans rfl⟩ (fun hHeld => ?_)
                generalize wc.drew = w47 at HO_9 HO_120002 BK101 BK119 HB hHeld ⊢
                refine take_ (i := 0) (N := some 48) (v := ?_) (a' := ?_) #[true, false, false, false, false] rfl rfl (by kernel_rfl) (fun _ _ _ h => h) (Or.inl ⟨by rfl, ?_⟩) hHeld ?_ ?_
                rotate_left
                · rintro w' ⟨s0, s1, s2, s3, s4, s5⟩
                  go_simp
                  with_reducible rfl
                rotate_left
                · simp only [Act.put, List.setIfInBounds_toArray, List.set_cons_zero, List.set_cons_succ, i64_w, i32_w]
                  rfl
                refine take_ (i := 1) (N := some 49) (v := ?_) (a' := ?_) #[true, true, false, false, false] rfl rfl (by kernel_rfl) (fun _ _ _ h => h) (Or.inl ⟨by rfl, ?_⟩) hHeld ?_ ?_
                rotate_left
                · rintro w' ⟨s0, s1, s2, s3, s4, s5⟩
                  go_simp
                  with_reducible rfl
                rotate_left
                · simp only [Act.put, List.setIfInBounds_toArray, List.set_cons_zero, List.set_cons_succ, i64_w, i32_w]
                  rfl
                refine one_ (i := 2) (N := some 50) #[true, true, true, false, false] rfl rfl (by kernel_rfl) (by decide) (fun K hK => ?_)
                refine goes_ Try.func13 (by kernel_rfl) rfl #[.agg #[.int .i64 a0_0, .int .i64 a0_1, .slice A0_2 l0_2.length c0_2]] (by rfl) rfl rfl (by (try simp only [List.map_toArray, List.map_cons, List.map_nil]); first | done | rfl | (simp only [List.length_drop, List.length_take]; rfl)) ?_
                with_reducible refine (laws_toChart.calls kj18 a0_0 a0_1 _ _ l0_2 t125 t126 t127 _ ?side1 ?side2 A41.out).mono ?_
                (case side1 => repeat (first | exact (Kd.C_below HR0_2.out HB.out) | (with_reducible refine Kd.C_alloc ?_ _) | (with_reducible refine Kd.C_drewN ?_ _) | (with_reducible refine Kd.C_drew ?_)))
                (case side2 => exact HC0_2.out)
                rintro e w48 ⟨v128, rfl, ho0, hb⟩
                refine ⟨_, rfl, ?_⟩
                have n0_ := Aside0.mk (Kd.R_below (by exact Ho.RS <| HO_9.out) hb)
                have n1_ := Aside0.mk (Kd.R_elder' (by exact Ho.RS <| HO_120002.out) (Kd.R_base ho0) hb)
                have n2_ := Aside0.mk (Kd.R_lower (Kd.R_new' ho0 (Kd.R_lt (by exact Ho.RS <| HO_120002.out))) (below_size (by exact eS HB.out)))
                have n3_ := Aside0.mk (blk_below (bS BK101.out) hb)
                have n4_ := Aside0.mk (blk_below (bS BK119.out) hb)
                have n5_ := Aside0.mk (below_step (by exact eS HB.out) hb)
                clear HO_9
                clear HO_120002
                clear BK101
                clear BK119
                clear HB
                have HO_9 := n0_
                have HO_120002 := n1_
                have HO129 := n2_
                have BK101 := n3_
                have BK119 := n4_
                have HB := n5_
                clear n0_ n1_ n2_ n3_ n4_ n5_
                (try clear hb)
                (try clear hb2)
                (try clear hk)
                (try clear hi)
                (try clear ho0)
                obtain ⟨Ao49, co49, eo49⟩ := Kd.R_slice HO129.out
                (first | subst eo49 | (injection eo49 with f1_ f2_ f3_; have f4_ := f1_.symm; have f5_ := f3_.symm; clear f1_ f2_ f3_; subst f4_; subst f5_))
                refine hK.out _ _ ⟨(blk_cell BK119.out 0).trans rfl, (blk_cell BK119.out 1).trans rfl, (blk_cell BK119.out 2).trans rfl, (blk_cell BK101.out 0).trans rfl, (blk_cell BK101.out 1).trans rfl, (blk_cell BK101.out 2).trans rfl⟩ (fun hHeld => ?_)
                clear hK K
                refine norm_ (a' := ?_) ?_ ?_
                rotate_left
                · show Act.put _ (some 50) _ = _
                  simp only [Act.put, List.setIfInBounds_toArray, List.set_cons_zero, List.set_cons_succ, i64_w, i32_w]
                  rfl
                refine one_ (i := 3) (N := some 51) #[true, true, true, true, false] rfl rfl (by kernel_rfl) (by decide) (fun K hK => ?_)
                refine goes_ Try.func16 (by kernel_rfl) rfl #[.agg #[.int .i64 t114, .int .i64 t115, .slice Ao34 t116.length co34], .agg #[.int .i64 t125, .int .i64 t126, .slice Ao49 t127.length co49]] (by rfl) rfl rfl (by (try simp only [List.map_toArray, List.map_cons, List.map_nil]); first | done | rfl | (simp only [List.length_drop, List.length_take]; rfl)) ?_
                with_reducible refine (laws_eqChart.calls kj18 t114 t115 _ _ t116 t125 t126 _ _ t127 true _ ?side1 ?side2 ?side3 ?side4 A42.out).mono ?_
                (case side1 => repeat (first | exact (Kd.R_reads' HO_120002.out).2.2 | (with_reducible refine Kd.C_alloc ?_ _) | (with_reducible refine Kd.C_drewN ?_ _) | (with_reducible refine Kd.C_drew ?_)))
                (case side2 => exact (Kd.R_reads' HO_120002.out).2.1)
                (case side3 => repeat (first | exact (Kd.R_reads' HO129.out).2.2 | (with_reducible refine Kd.C_alloc ?_ _) | (with_reducible refine Kd.C_drewN ?_ _) | (with_reducible refine Kd.C_drew ?_)))
                (case side4 => exact (Kd.R_reads' HO129.out).2.1)
                rintro e w50 ⟨rfl, hb⟩
                refine ⟨_, rfl, ?_⟩
                have n0_ := Aside0.mk (Kd.R_below (by exact Ho.RS <| HO_9.out) hb)
                have n1_ := Aside0.mk (Kd.R_below (by exact Ho.RS <| HO_120002.out) hb)
                have n2_ := Aside0.mk (Kd.R_below (by exact Ho.RS <| HO129.out) hb)
                have n3_ := Aside0.mk (blk_below (bS BK101.out) hb)
                have n4_ := Aside0.mk (blk_below (bS BK119.out) hb)
                have n5_ := Aside0.mk (below_step (by exact eS HB.out) hb)
                clear HO_9
                clear HO_120002
                clear HO129
                clear BK101
                clear BK119
                clear HB
                have HO_9 := n0_
                have HO_120002 := n1_
                have HO129 := n2_
                have BK101 := n3_
                have BK119 := n4_
                have HB := n5_
                clear n0_ n1_ n2_ n3_ n4_ n5_
                (try clear hb)
                (try clear hb2)
                (try clear hk)
                (try clear hi)
                refine hK.out _ _ ⟨(blk_cell BK119.out 0).trans rfl, (blk_cell BK119.out 1).trans rfl, (blk_cell BK119.out 2).trans rfl, (blk_cell BK101.out 0).trans rfl, (blk_cell BK101.out 1).trans rfl, (blk_cell BK101.out 2).trans rfl⟩ (fun hHeld => ?_)
                clear hK K
                refine norm_ (a' := ?_) ?_ ?_
                rotate_left
                · show Act.put _ (some 51) _ = _
                  simp only [Act.put, List.setIfInBounds_toArray, List.set_cons_zero, List.set_cons_succ, i64_w, i32_w]
                  rfl
                refine pure_ (i := 4) (N := some 52) (v := ?_) (a' := ?_) #[true, true, true, true, true] rfl rfl (by kernel_rfl) (fun _ _ _ h => h) (Or.inl ⟨by rfl, ?_⟩) ?_ ?_
                rotate_left
                · intro w'
                  go_simp
                  with_reducible rfl
                rotate_left
                · simp only [Act.put, List.setIfInBounds_toArray, List.set_cons_zero, List.set_cons_succ, i64_w, i32_w]
                  rfl
                refine done_ (by kernel_rfl) ?_
                try go_wp2_with (first | ((with_reducible refine gate_callee (f := 14) rfl ?_); refine goesL_ (some 55) rfl rfl Try.func14 (by kernel_rfl) rfl #[.slice A1 l1.length c1] rfl (by (try simp only [List.map_toArray, List.map_cons, List.map_nil]); first | done | rfl | (simp only [List.length_drop, List.length_take]; rfl)) ?_; (with_reducible refine (laws_toHoleS.calls kj18 _ _ l1 t131 _ ?side1 ?side2 A44.out).mono ?_); (case side1 => repeat (first | exact (Kd.C_below HR1.out HB.out) | (with_reducible refine Kd.C_alloc ?_ _) | (with_reducible refine Kd.C_drewN ?_ _) | (with_reducible refine Kd.C_drew ?_))); (case side2 => exact HC1.out); rintro e w51 ⟨v132, rfl, ho0, hb⟩; refine ⟨_, rfl, ?_⟩; have n0_ := Aside0.mk (Kd.R_elder' (by exact Ho.RS <| HO_9.out) (Kd.R_base ho0) hb); have n1_ := Aside0.mk (Kd.R_below (by exact Ho.RS <| HO_120002.out) hb); have n2_ := Aside0.mk (Kd.R_below (by exact Ho.RS <| HO129.out) hb); have n3_ := Aside0.mk (Kd.R_lower (Kd.R_new' ho0 (Kd.R_lt (by exact Ho.RS <| HO_9.out))) (below_size (by exact eS HB.out))); have n4_ := Aside0.mk (blk_below (bS BK101.out) hb); have n5_ := Aside0.mk (blk_below (bS BK119.out) hb); have n6_ := Aside0.mk (below_step (by exact eS HB.out) hb); clear HO_9; clear HO_120002; clear HO129; clear BK101; clear BK119; clear HB; have HO_9 := n0_; have HO_120002 := n1_; have HO129 := n2_; have HO133 := n3_; have BK101 := n4_; have BK119 := n5_; have HB := n6_; clear n0_ n1_ n2_ n3_ n4_ n5_ n6_; (try clear hb); (try clear hb2); (try clear hk); (try clear hi); (try clear ho0); obtain ⟨Ao52, co52, eo52⟩ := Kd.R_slice HO133.out; subst eo52) | ((with_reducible refine gate_callee (f := 17) rfl ?_); refine goesL_ (some 56) rfl rfl Try.func17 (by kernel_rfl) rfl #[.slice Ao37 t120.length co37, .slice Ao52 t131.length co52] rfl (by (try simp only [List.map_toArray, List.map_cons, List.map_nil]); first | done | rfl | (simp only [List.length_drop, List.length_take]; rfl)) ?_; (with_reducible refine (laws_eqHoleS.calls kj18 _ _ t120 _ _ t131 true _ ?side1 ?side2 ?side3 ?side4 A45.out).mono ?_); (case side1 => repeat (first | exact (Kd.R_reads' HO_9.out).2.2 | (with_reducible refine Kd.C_alloc ?_ _) | (with_reducible refine Kd.C_drewN ?_ _) | (with_reducible refine Kd.C_drew ?_))); (case side2 => exact (Kd.R_reads' HO_9.out).2.1); (case side3 => repeat (first | exact (Kd.R_reads' HO133.out).2.2 | (with_reducible refine Kd.C_alloc ?_ _) | (with_reducible refine Kd.C_drewN ?_ _) | (with_reducible refine Kd.C_drew ?_))); (case side4 => exact (Kd.R_reads' HO133.out).2.1); rintro e w53 ⟨rfl, hb⟩; refine ⟨_, rfl, ?_⟩; have n0_ := Aside0.mk (Kd.R_below (by exact Ho.RS <| HO_9.out) hb); have n1_ := Aside0.mk (Kd.R_below (by exact Ho.RS <| HO_120002.out) hb); have n2_ := Aside0.mk (Kd.R_below (by exact Ho.RS <| HO129.out) hb); have n3_ := Aside0.mk (Kd.R_below (by exact Ho.RS <| HO133.out) hb); have n4_ := Aside0.mk (blk_below (bS BK101.out) hb); have n5_ := Aside0.mk (blk_below (bS BK119.out) hb); have n6_ := Aside0.mk (below_step (by exact eS HB.out) hb); clear HO_9; clear HO_120002; clear HO129; clear HO133; clear BK101; clear BK119; clear HB; have HO_9 := n0_; have HO_120002 := n1_; have HO129 := n2_; have HO133 := n3_; have BK101 := n4_; have BK119 := n5_; have HB := n6_; clear n0_ n1_ n2_ n3_ n4_ n5_ n6_; (try clear hb); (try clear hb2); (try clear hk); (try clear hi)))
                go_ret
                exact ⟨by first | rfl | (simp [errW_none, errW_some] <;> rfl) | (simp [*, errW_none, errW_some] <;> rfl), by exact eS HB.out⟩
              · replace c46 := Bool.eq_false_iff.mpr c46
                subst c46
                have H1 : (some false) = some r := by rw [if_neg (show ¬ (false = true) by decide)] at H; exact H
                clear H
                have H := H1
                clear H1
                exact absurd ((Option.some.inj H).trans HT.out) (by decide)
            · replace c43 := Bool.eq_false_iff.mpr c43
              subst c43
              have H1 : (some false) = some r := by rw [if_neg (show ¬ (false = true) by decide)] at H; exact H
              clear H
              have H := H1
              clear H1
              exact absurd ((Option.some.inj H).trans HT.out) (by decide)

/-- THE ONE PURE STATEMENT of laws_FnExactKnotsLost: yours. -/
def laws_FnExactKnotsLost.Pure : Prop := ∀ (a0_0 : Int) (a0_1 : Int) (l0_2 : List Int) (l1 : List (S67)), (Lit.int .i64 a0_0).wf = true → (Lit.int .i64 a0_1).wf = true → (l0_2.length ≤ 9223372036854775807 ∧ ∀ y_ ∈ l0_2, (Lit.int .i64 y_).wf = true) → (l1.length ≤ 9223372036854775807 ∧ ∀ y_ ∈ l1, ok67 y_) → ∃ k, laws_FnExactKnotsLost.f k a0_0 a0_1 l0_2 l1 = some true

end Go.Proofs.Ytbfhphobnngeaaa.X

-- Qbase
namespace Go.Proofs.Ytbfhphobnngeaaa.Pure
open Go Go.RowKit Go.Proofs Go.Proofs.YtbfhphobnngeaaaW.PrintWords Go.Proofs.YtbfhphobnngeaaaW.PrintLast
set_option linter.unusedVariables false
set_option linter.unusedSimpArgs false

theorem w64 {x : Int} (h1 : -9223372036854775808 ≤ x) (h2 : x ≤ 9223372036854775807) : wrap64 x = x := by unfold wrap64; omega
theorem w64b {x : Int} (h : -9223372036854775808 ≤ x ∧ x ≤ 9223372036854775807) : wrap64 x = x := w64 h.1 h.2
theorem ite_sf (a b : Bool) : (if a = true then some b else some false) = some (a && b) := by cases a <;> rfl
theorem ite_sf2 (a b : Bool) : (if a = true then some false else some b) = some (!a && b) := by cases a <;> rfl
theorem wf_bd {x : Int} (h : (Lit.int .i64 x).wf = true) : -9223372036854775808 ≤ x ∧ x ≤ 9223372036854775807 := by
  have h1 := h
  simp [Lit.wf] at h1
  exact ⟨h1.1, h1.2⟩
/-- a product of two numbers within bounds -/
theorem mul_bd {a b A B : Int} (ha : 0 ≤ a) (hA : a ≤ A) (hb : 0 ≤ b) (hB : b ≤ B) : 0 ≤ a * b ∧ a * b ≤ A * B :=
  ⟨Int.mul_nonneg ha hb, Int.mul_le_mul hA hB hb (Int.le_trans ha hA)⟩
theorem drop_step {α : Type} {l : List α} {i : Nat} (h : i < l.length) (d : α) : l.drop i = l.getD i d :: l.drop (i + 1) := by
  rw [List.drop_eq_getElem_cons h]; congr 1; simp [List.getD_eq_getElem?_getD, List.getElem?_eq_getElem h]
theorem wstep {i : Nat} {n : Nat} (h : i < n) (hn : n ≤ 9223372036854775807) : wrap64 ((i : Int) + 1) = ((i + 1 : Nat) : Int) := by unfold wrap64; omega
theorem nat_of {i : Int} (h : 0 ≤ i) : ∃ n : Nat, i = n := ⟨i.toNat, by omega⟩
theorem succ_of {k d : Nat} (h : d < k) : ∃ m, k = m + 1 ∧ d ≤ m := ⟨k - 1, by omega, by omega⟩

end Go.Proofs.Ytbfhphobnngeaaa.Pure

-- Qloops
namespace Go.Proofs.Ytbfhphobnngeaaa.Pure
open Go Go.RowKit Go.Proofs Go.Proofs.YtbfhphobnngeaaaW.PrintWords Go.Proofs.YtbfhphobnngeaaaW.PrintLast
set_option linter.unusedVariables false
set_option linter.unusedSimpArgs false

/-- A loop that copies element by element into a new row. -/
theorem copy_loop {α β : Type} (L : Nat → List α → List β → Int → Option (List β)) (f : α → β) (d : α) (l : List α) (hb : l.length ≤ 9223372036854775806)
    (hs : ∀ k x3 (i : Nat), i < l.length → x3.length = l.length → L (k + 1) l x3 i = L k l (x3.set i (f (l.getD i d))) (wrap64 ((i : Int) + 1)))
    (he : ∀ k x3 (i : Nat), l.length ≤ i → L (k + 1) l x3 i = some x3) :
    ∀ n k (i : Nat) (x3 : List β), i + n = l.length → n < k → x3.length = l.length → x3.take i = (l.take i).map f → L k l x3 i = some (l.map f) := by
  intro n
  induction n with
  | zero =>
    intro k i x3 hi hk hl ht
    obtain ⟨k, rfl, _⟩ := succ_of hk
    rw [he k x3 i (by omega)]
    rw [List.take_of_length_le (by omega), List.take_of_length_le (by omega)] at ht
    rw [ht]
  | succ n ih =>
    intro k i x3 hi hk hl ht
    obtain ⟨k, rfl, hk⟩ := succ_of hk
    rw [hs k x3 i (by omega) hl, wstep (show i < l.length by omega) (by omega)]
    refine ih k (i + 1) _ (by omega) (by omega) (by rw [List.length_set]; exact hl) ?_
    rw [List.take_succ_eq_append_getElem (by rw [List.length_set]; omega), List.take_succ_eq_append_getElem (by omega), List.map_append, ← ht]
    congr 1
    · rw [List.take_set_of_le (Nat.le_refl _)]
    · simp [List.getD_eq_getElem?_getD, List.getElem?_eq_getElem (show i < l.length by omega)]
/-- A loop that compares a row with itself. -/
theorem refl_loop {α : Type} (L : Nat → List α → List α → Int → Option Bool) (l : List α) (hb : l.length ≤ 9223372036854775806)
    (hs : ∀ k (i : Nat), i < l.length → L (k + 1) l l i = L k l l (wrap64 ((i : Int) + 1))) (he : ∀ k (i : Nat), l.length ≤ i → L (k + 1) l l i = some true) :
    ∀ n k (i : Nat), i + n = l.length → n < k → L k l l i = some true := by
  intro n
  induction n with
  | zero =>
    intro k i hi hk
    obtain ⟨k, rfl, _⟩ := succ_of hk
    exact he k i (by omega)
  | succ n ih =>
    intro k i hi hk
    obtain ⟨k, rfl, hk⟩ := succ_of hk
    rw [hs k i (by omega), wstep (show i < l.length by omega) (by omega)]
    exact ih k (i + 1) (by omega) (by omega)
/-- A loop that asks of all elements, from i on. -/
theorem all_loop {α : Type} (L : Nat → Int → Option Bool) (q : α → Bool) (d : α) (l : List α) (e : Bool) (hb : l.length ≤ 9223372036854775806)
    (hs : ∀ k (i : Nat), i < l.length → L (k + 1) i = if q (l.getD i d) = true then L k (wrap64 ((i : Int) + 1)) else some false) (he : ∀ k (i : Nat), l.length ≤ i → L (k + 1) i = some e) :
    ∀ n k (i : Nat), i + n = l.length → n < k → L k i = some ((l.drop i).all q && e) := by
  intro n
  induction n with
  | zero =>
    intro k i hi hk
    obtain ⟨k, rfl, _⟩ := succ_of hk
    rw [he k i (by omega), List.drop_eq_nil_of_le (by omega)]; rfl
  | succ n ih =>
    intro k i hi hk
    obtain ⟨k, rfl, hk⟩ := succ_of hk
    rw [hs k i (by omega), wstep (show i < l.length by omega) (by omega), drop_step (by omega) d, List.all_cons, ih k (i + 1) (by omega) (by omega)]
    cases q (l.getD i d) <;> simp
/-- What marks leave: each element tells its own number. -/
def markM {α : Type} (g : Int → α) (c : Int) (n : Nat) (s : Int) : List α := (List.range n).map fun (j : Nat) => g (s + c * (j : Int))
theorem markM_length {α : Type} (g : Int → α) (c : Int) (n : Nat) (s : Int) : (markM g c n s).length = n := by simp [markM]
theorem markM_getD {α : Type} (g : Int → α) (c : Int) (n : Nat) (s : Int) (d : α) {i : Nat} (h : i < n) : (markM g c n s).getD i d = g (s + c * i) := by
  simp [markM, List.getD_eq_getElem?_getD, List.getElem?_map, List.getElem?_range h]
/-- A loop that marks. -/
theorem mark_loop {α : Type} (L : Nat → List α → Int → Int → Option (Int × List α)) (g : Int → α) (c : Int) (n0 : Nat) (s : Int) (hb : n0 ≤ 9223372036854775806) 
    (hs : ∀ k x (i : Nat), i < n0 → x.length = n0 → L (k + 1) x (s + c * i) i = L k (x.set i (g (s + c * i))) (s + c * ((i + 1 : Nat) : Int)) (wrap64 ((i : Int) + 1)))
    (he : ∀ k x m (i : Nat), n0 ≤ i → x.length = n0 → L (k + 1) x m i = some (m, x)) :
    ∀ n k (i : Nat) (x : List α), i + n = n0 → n < k → x.length = n0 → x.take i = (markM g c n0 s).take i → L k x (s + c * i) i = some (s + c * n0, markM g c n0 s) := by
  intro n
  induction n with
  | zero =>
    intro k i x hi hk hl ht
    obtain ⟨k, rfl, _⟩ := succ_of hk
    rw [he k x _ i (by omega) hl]
    rw [List.take_of_length_le (by omega), List.take_of_length_le (by rw [markM_length]; omega)] at ht
    rw [ht]; simp [show i = n0 by omega]
  | succ n ih =>
    intro k i x hi hk hl ht
    obtain ⟨k, rfl, hk⟩ := succ_of hk
    rw [hs k x i (by omega) hl, wstep (show i < n0 by omega) (by omega)]
    refine ih k (i + 1) _ (by omega) (by omega) (by rw [List.length_set]; exact hl) ?_
    rw [List.take_succ_eq_append_getElem (by rw [List.length_set]; omega), List.take_succ_eq_append_getElem (by rw [markM_length]; omega), ← ht]
    congr 1
    · rw [List.take_set_of_le (Nat.le_refl _)]
    · simp [markM]
/-- A loop that asks for the marks. -/
theorem held_loop {α : Type} (L : Nat → List α → Int → Int → Option Int) (g : Int → α) (c : Int) (n0 : Nat) (s : Int) (hb : n0 ≤ 9223372036854775806)
    (hs : ∀ k (i : Nat), i < n0 → L (k + 1) (markM g c n0 s) (s + c * i) i = L k (markM g c n0 s) (s + c * ((i + 1 : Nat) : Int)) (wrap64 ((i : Int) + 1)))
    (he : ∀ k m (i : Nat), n0 ≤ i → L (k + 1) (markM g c n0 s) m i = some m) :
    ∀ n k (i : Nat), i + n = n0 → n < k → L k (markM g c n0 s) (s + c * i) i = some (s + c * n0) := by
  intro n
  induction n with
  | zero =>
    intro k i hi hk
    obtain ⟨k, rfl, _⟩ := succ_of hk
    rw [he k _ i (by omega), show i = n0 by omega]
  | succ n ih =>
    intro k i hi hk
    obtain ⟨k, rfl, hk⟩ := succ_of hk
    rw [hs k i (by omega), wstep (show i < n0 by omega) (by omega)]
    exact ih k (i + 1) (by omega) (by omega)
theorem rd_nat (l : List Int) (i : Nat) : rd l (i : Int) = l.getD i 0 := by simp [rd]

end Go.Proofs.Ytbfhphobnngeaaa.Pure

-- QeqInts
namespace Go.Proofs.Ytbfhphobnngeaaa.Pure
open Go Go.RowKit Go.Proofs Go.Proofs.Ytbfhphobnngeaaa.X Go.Proofs.YtbfhphobnngeaaaW.PrintWords Go.Proofs.YtbfhphobnngeaaaW.PrintLast
set_option linter.unusedVariables false
set_option linter.unusedSimpArgs false

theorem eqIntS_refl {k : Nat} {l : List Int} (hk : l.length < k) (hl : l.length ≤ 9223372036854775806) : laws_eqIntS.f k l l = some true := by
  unfold laws_eqIntS.f
  rw [if_pos rfl]
  exact refl_loop laws_eqIntS.l0 l hl
    (fun k i h => by simp only [laws_eqIntS.l0]; rw [if_pos (by omega), if_pos (by omega), if_pos (by omega)]; simp)
    (fun k i h => by simp only [laws_eqIntS.l0]; rw [if_neg (by omega)])
    l.length k 0 (by omega) hk

end Go.Proofs.Ytbfhphobnngeaaa.Pure

-- Qinrange
namespace Go.Proofs.Ytbfhphobnngeaaa.Pure
open Go Go.RowKit Go.Proofs Go.Proofs.Ytbfhphobnngeaaa.X Go.Proofs.YtbfhphobnngeaaaW.PrintWords Go.Proofs.YtbfhphobnngeaaaW.PrintLast
set_option linter.unusedVariables false
set_option linter.unusedSimpArgs false

theorem in_eq (x a b : Int) : impl_in.f x a b = some (decide (a ≤ x ∧ x ≤ b)) := by
  unfold impl_in.f
  by_cases h1 : a ≤ x <;> simp [h1]

end Go.Proofs.Ytbfhphobnngeaaa.Pure

-- Qspecin
namespace Go.Proofs.Ytbfhphobnngeaaa.Pure
open Go Go.RowKit Go.Proofs Go.Proofs.Ytbfhphobnngeaaa.X Go.Proofs.YtbfhphobnngeaaaW.PrintWords Go.Proofs.YtbfhphobnngeaaaW.PrintLast
set_option linter.unusedVariables false
set_option linter.unusedSimpArgs false

theorem l1In_eq (x a b : Int) : spec_l1In.f x a b = some (decide (a ≤ x ∧ x ≤ b)) := by
  unfold spec_l1In.f
  by_cases h1 : a ≤ x <;> simp [h1]

end Go.Proofs.Ytbfhphobnngeaaa.Pure

-- QtoInts
namespace Go.Proofs.Ytbfhphobnngeaaa.Pure
open Go Go.RowKit Go.Proofs Go.Proofs.Ytbfhphobnngeaaa.X Go.Proofs.YtbfhphobnngeaaaW.PrintWords Go.Proofs.YtbfhphobnngeaaaW.PrintLast
set_option linter.unusedVariables false
set_option linter.unusedSimpArgs false

theorem toIntS_eq {k : Nat} {l : List Int} (hk : l.length < k) (hl : l.length ≤ 1048576) : laws_toIntS.f k l = some l := by
  unfold laws_toIntS.f
  rw [if_pos (by omega), if_pos (by simp; omega)]
  have h := copy_loop laws_toIntS.l0 (fun x => x) 0 l (by omega)
    (fun k x3 i h1 h2 => by
      simp only [laws_toIntS.l0]
      rw [if_pos (by omega), if_pos (by omega), if_pos (by omega), rd_nat]; simp)
    (fun k x3 i h1 => by simp only [laws_toIntS.l0]; rw [if_neg (by omega)])
    l.length k 0 (List.replicate l.length 0) (by omega) hk (by simp) (by simp)
  simpa using h

end Go.Proofs.Ytbfhphobnngeaaa.Pure

-- Qchart
namespace Go.Proofs.Ytbfhphobnngeaaa.Pure
open Go Go.RowKit Go.Proofs Go.Proofs.Ytbfhphobnngeaaa.X Go.Proofs.YtbfhphobnngeaaaW.PrintWords Go.Proofs.YtbfhphobnngeaaaW.PrintLast
set_option linter.unusedVariables false
set_option linter.unusedSimpArgs false

def colorB (x : Int) : Bool := decide (0 ≤ x ∧ x ≤ 5)
def sideB (x : Int) : Bool := decide (1 ≤ x ∧ x ≤ 8)
def chartB (w h : Int) (l : List Int) : Bool := sideB w && (sideB h && (decide ((l.length : Int) = w * h) && l.all colorB))
theorem side_of {x : Int} (h : sideB x = true) : 1 ≤ x ∧ x ≤ 8 := by simpa [sideB] using h
theorem side_w {w h : Int} (hw : sideB w = true) (hh : sideB h = true) : 0 ≤ w * h ∧ w * h ≤ 64 := by
  have := side_of hw; have := side_of hh
  exact mul_bd (A := 8) (B := 8) (by omega) (by omega) (by omega) (by omega)
theorem chart_of {w h : Int} {l : List Int} (hc : chartB w h l = true) : (1 ≤ w ∧ w ≤ 8) ∧ (1 ≤ h ∧ h ≤ 8) ∧ (l.length : Int) = w * h ∧ l.length ≤ 64 ∧ ∀ x ∈ l, 0 ≤ x ∧ x ≤ 5 := by
  simp only [chartB, Bool.and_eq_true, decide_eq_true_eq, List.all_eq_true] at hc
  obtain ⟨h1, h2, h3, h4⟩ := hc
  have := side_w h1 h2
  exact ⟨side_of h1, side_of h2, h3, by omega, fun x hx => by simpa [colorB] using h4 x hx⟩
theorem szIntS_eq {l : List Int} {a : Int} (hl : l.length ≤ 9223372036854775807) (ha : 0 ≤ a ∧ a ≤ 9223372036854775807) : laws_szIntS.f l a = some (if a < l.length then -1 else a - l.length) := by
  unfold laws_szIntS.f
  rw [w64 (by omega) (by omega)]
  by_cases h : a < l.length
  · rw [if_pos (by omega), if_pos h]
  · rw [if_neg (by omega), if_neg h]
theorem szChart_eq {w h a : Int} {l : List Int} (hl : l.length ≤ 9223372036854775807) (ha : 0 ≤ a ∧ a ≤ 9223372036854775807) : laws_szChart.f w h l a = some (if a < l.length then -1 else a - l.length) := by
  unfold laws_szChart.f
  rw [szIntS_eq hl ha]
  by_cases h : a < l.length
  · simp [h]
  · simp only [if_neg h, Option.bind_some]; rw [if_neg (by omega)]
theorem toChart_eq {k : Nat} {w h : Int} {l : List Int} (hk : l.length < k) (hl : l.length ≤ 1048576) : laws_toChart.f k w h l = some (w, h, l) := by
  simp only [laws_toChart.f, toIntS_eq hk hl, Option.bind_some]
theorem eqChart_refl {k : Nat} {w h : Int} {l : List Int} (hk : l.length < k) (hl : l.length ≤ 1048576) : laws_eqChart.f k w h l w h l = some true := by
  simp only [laws_eqChart.f, eqIntS_refl hk (by omega), Option.bind_some, if_true]
theorem isColor_eq (x : Int) : impl_isColor.f x = some (colorB x) := by simp only [impl_isColor.f, in_eq, Option.bind_some, colorB]
theorem isSide_eq (x : Int) : impl_isSide.f x = some (sideB x) := by simp only [impl_isSide.f, in_eq, Option.bind_some, sideB]
theorem l2Color_eq (x : Int) : spec_l2Color.f x = some (colorB x) := by simp only [spec_l2Color.f, l1In_eq, Option.bind_some, colorB]
theorem l2Side_eq (x : Int) : spec_l2Side.f x = some (sideB x) := by simp only [spec_l2Side.f, l1In_eq, Option.bind_some, sideB]
theorem IsChart_eq (w h : Int) (l : List Int) : impl_IsChart.f w h l = some (chartB w h l) := by
  simp only [impl_IsChart.f, isSide_eq, impl_areAll_int__impl_isColor.f, Ho.allO_eq (q := colorB) (fun x _ => isColor_eq x), Option.bind_some, chartB]
  cases hw : sideB w
  · simp
  · cases hh : sideB h
    · simp
    · have := side_w hw hh
      rw [w64 (by omega) (by omega)]
      by_cases he : (l.length : Int) = w * h <;> simp [he]
theorem l2Good_eq {k : Nat} {w h : Int} {l : List Int} (hk : l.length < k) (hl : l.length ≤ 1048576) : spec_l2Good.f k w h l = some (chartB w h l) := by
  unfold spec_l2Good.f
  have hx := all_loop (fun k i => spec_l2Good.l0 k i w h l) colorB 0 l (sideB w && (sideB h && decide ((l.length : Int) = w * h))) (by omega)
    (fun k i h1 => by
      simp only [spec_l2Good.l0]
      rw [if_pos (by omega), if_pos (by omega), rd_nat, l2Color_eq]
      simp only [Option.bind_some])
    (fun k i h1 => by
      simp only [spec_l2Good.l0]
      rw [if_neg (by omega)]
      simp only [l2Side_eq, Option.bind_some]
      cases hw : sideB w
      · simp
      · cases hh : sideB h
        · simp
        · have := side_w hw hh
          rw [w64 (by omega) (by omega)]
          simp [BEq.beq, instBEqOfDecidableEq])
    l.length k 0 (by omega) hk
  refine hx.trans ?_
  simp only [List.drop_zero, chartB]
  cases sideB w <;> cases sideB h <;> cases l.all colorB <;> simp

end Go.Proofs.Ytbfhphobnngeaaa.Pure

-- Qcmpint
namespace Go.Proofs.Ytbfhphobnngeaaa.Pure
open Go Go.RowKit Go.Proofs Go.Proofs.Ytbfhphobnngeaaa.X Go.Proofs.YtbfhphobnngeaaaW.PrintWords Go.Proofs.YtbfhphobnngeaaaW.PrintLast
set_option linter.unusedVariables false
set_option linter.unusedSimpArgs false

def cmpI (a b : Int) : Int := if a < b then -1 else if a > b then 1 else 0
theorem cmpI_eq (a b : Int) : cmp_Compare_int.f a b = some (cmpI a b) := by
  simp only [cmp_Compare_int.f, cmp_isNaN_int.f, bne_self_eq_false, Option.bind_some, Bool.false_eq_true, if_false, cmpI]
  (repeat' split) <;> rfl

end Go.Proofs.Ytbfhphobnngeaaa.Pure

-- Qidxall
namespace Go.Proofs.Ytbfhphobnngeaaa.Pure
open Go Go.RowKit Go.Proofs Go.Proofs.YtbfhphobnngeaaaW.PrintWords Go.Proofs.YtbfhphobnngeaaaW.PrintLast
set_option linter.unusedVariables false
set_option linter.unusedSimpArgs false

/-- q at all numbers from i on, n of them -/
def allR (q : Nat → Bool) (i n : Nat) : Bool := (List.range' i n).all q
theorem allR_iff {q : Nat → Bool} {i n : Nat} : allR q i n = true ↔ ∀ j, i ≤ j → j < i + n → q j = true := by
  unfold allR
  rw [List.all_eq_true]
  exact ⟨fun h j h1 h2 => h j (List.mem_range'_1.mpr ⟨h1, h2⟩), fun h j hj => h j (List.mem_range'_1.mp hj).1 (List.mem_range'_1.mp hj).2⟩
theorem allR_succ (q : Nat → Bool) (i n : Nat) : allR q i (n + 1) = (q i && allR q (i + 1) n) := by
  unfold allR; rw [List.range'_succ, List.all_cons]
/-- A loop that asks of all numbers, from i on. -/
theorem idx_loop (L : Nat → Int → Option Bool) (q : Nat → Bool) (i0 n0 : Nat) (e : Bool) (hb : n0 ≤ 9223372036854775806)
    (hs : ∀ k (i : Nat), i0 ≤ i → i < n0 → L (k + 1) i = if q i = true then L k (wrap64 ((i : Int) + 1)) else some false) (he : ∀ k (i : Nat), n0 ≤ i → L (k + 1) i = some e) :
    ∀ n k (i : Nat), i0 ≤ i → i + n = n0 → n < k → L k i = some (allR q i n && e) := by
  intro n
  induction n with
  | zero =>
    intro k i h0 hi hk
    obtain ⟨k, rfl, _⟩ := succ_of hk
    rw [he k i (by omega)]; simp [allR]
  | succ n ih =>
    intro k i h0 hi hk
    obtain ⟨k, rfl, hk⟩ := succ_of hk
    rw [hs k i h0 (by omega), wstep (show i < n0 by omega) (by omega), allR_succ, ih k (i + 1) (by omega) (by omega) (by omega)]
    cases q i <;> simp
theorem all_getD {α : Type} {p : α → Bool} {l : List α} (d : α) : l.all p = true ↔ ∀ j, j < l.length → p (l.getD j d) = true := by
  rw [List.all_eq_true]
  constructor
  · intro h j hj
    rw [List.getD_eq_getElem?_getD, List.getElem?_eq_getElem hj]
    exact h _ (List.getElem_mem hj)
  · intro h x hx
    obtain ⟨j, hj, rfl⟩ := List.mem_iff_getElem.mp hx
    have := h j hj
    rwa [List.getD_eq_getElem?_getD, List.getElem?_eq_getElem hj] at this
/-- A loop that adds up. -/
theorem sum_loop {α β : Type} (L : Nat → Int → Int → Option β) (v : α → Int) (r : Int → Option β) (d : α) (B : Int) (l : List α) (hb : l.length ≤ 9223372036854775806) (hv : ∀ x ∈ l, 0 ≤ v x ∧ v x ≤ B)
    (hs : ∀ k (acc : Int) (i : Nat), i < l.length → 0 ≤ acc → acc ≤ B * i → L (k + 1) acc i = L k (acc + v (l.getD i d)) (wrap64 ((i : Int) + 1)))
    (he : ∀ k (acc : Int) (i : Nat), l.length ≤ i → L (k + 1) acc i = r acc) :
    ∀ n k (acc : Int) (i : Nat), i + n = l.length → n < k → 0 ≤ acc → acc ≤ B * i → L k acc i = r (acc + ((l.drop i).map v).sum) := by
  intro n
  induction n with
  | zero =>
    intro k acc i hi hk h0 h1
    obtain ⟨k, rfl, _⟩ := succ_of hk
    rw [he k acc i (by omega), List.drop_eq_nil_of_le (by omega)]; simp
  | succ n ih =>
    intro k acc i hi hk h0 h1
    obtain ⟨k, rfl, hk⟩ := succ_of hk
    have hlt : i < l.length := by omega
    have hm : l.getD i d ∈ l := by rw [List.getD_eq_getElem?_getD, List.getElem?_eq_getElem hlt]; exact List.getElem_mem hlt
    have := hv _ hm
    rw [hs k acc i hlt h0 h1, wstep hlt (by omega), drop_step hlt d, List.map_cons, List.sum_cons]
    have hB : B * ((i + 1 : Nat) : Int) = B * i + B := by push_cast; rw [Int.mul_add, Int.mul_one]
    rw [ih k _ (i + 1) (by omega) (by omega) (by omega) (by omega), Int.add_assoc]
/-- The same, where the end leans on all that was asked, and needs fuel of its own. -/
theorem idx_loop2 (L : Nat → Int → Option Bool) (q : Nat → Bool) (i0 n0 m0 : Nat) (e : Bool) (hb : n0 ≤ 9223372036854775806)
    (hs : ∀ k (i : Nat), i0 ≤ i → i < n0 → m0 ≤ k → L (k + 1) i = if q i = true then L k (wrap64 ((i : Int) + 1)) else some false) (he : (∀ j, i0 ≤ j → j < n0 → q j = true) → ∀ k, m0 ≤ k → L (k + 1) (n0 : Int) = some e) :
    ∀ n k (i : Nat), i0 ≤ i → i + n = n0 → n + m0 < k → (∀ j, i0 ≤ j → j < i → q j = true) → L k i = some (allR q i n && e) := by
  intro n
  induction n with
  | zero =>
    intro k i h0 hi hk hq
    obtain ⟨k, rfl, _⟩ := succ_of (show 0 < k by omega)
    obtain rfl : i = n0 := by omega
    rw [he hq k (by omega)]; simp [allR]
  | succ n ih =>
    intro k i h0 hi hk hq
    obtain ⟨k, rfl, hk'⟩ := succ_of (show 0 < k by omega)
    rw [hs k i h0 (by omega) (by omega), wstep (show i < n0 by omega) (by omega), allR_succ]
    cases hc : q i
    · simp
    · rw [if_pos rfl, ih k (i + 1) (by omega) (by omega) (by omega) (fun j h1 h2 => by
        by_cases hj : j = i
        · rw [hj]; exact hc
        · exact hq j h1 (by omega)), Bool.true_and]

end Go.Proofs.Ytbfhphobnngeaaa.Pure

-- QlistHole
namespace Go.Proofs.Ytbfhphobnngeaaa.Pure
open Go Go.RowKit Go.Proofs Go.Proofs.Ytbfhphobnngeaaa.X Go.Proofs.YtbfhphobnngeaaaW.PrintWords Go.Proofs.YtbfhphobnngeaaaW.PrintLast
set_option linter.unusedVariables false
set_option linter.unusedSimpArgs false

def toHole (x : S67) : S39 := ⟨x.f0, x.f1, x.f2, x.f3⟩
theorem rdVHole_nat (l : List S67) (i : Nat) : rd_T67 l (i : Int) = l.getD i z67 := by simp [rd_T67]
theorem rdIHole_nat (l : List S39) (i : Nat) : rd_T39 l (i : Int) = l.getD i z39 := by simp [rd_T39]
theorem szHoleS_eq {l : List S67} {a : Int} (hl : l.length ≤ 9223372036854775807) (ha : 0 ≤ a ∧ a ≤ 9223372036854775807) : laws_szHoleS.f l a = some (if a < l.length then -1 else a - l.length) := by
  unfold laws_szHoleS.f
  rw [w64 (by omega) (by omega)]
  by_cases h : a < l.length
  · rw [if_pos (by omega), if_pos h]
  · rw [if_neg (by omega), if_neg h]
theorem toHoleS_eq {k : Nat} {l : List S67} (hk : l.length < k) (hl : l.length ≤ 1048576) : laws_toHoleS.f k l = some (l.map toHole) := by
  unfold laws_toHoleS.f
  rw [if_pos (by omega), if_pos (by simp; omega)]
  exact copy_loop laws_toHoleS.l0 toHole z67 l (by omega)
    (fun k x3 i h1 h2 => by
      simp only [laws_toHoleS.l0, laws_toHole.f, Option.bind_some]
      rw [if_pos (by omega), if_pos (by omega), if_pos (by omega), rdVHole_nat]
      simp [toHole])
    (fun k x3 i h1 => by simp only [laws_toHoleS.l0]; rw [if_neg (by omega)])
    l.length k 0 _ (by omega) hk (by simp) (by simp)
theorem eqHole_refl (a0 a1 a2 a3 : Int) : laws_eqHole.f a0 a1 a2 a3 a0 a1 a2 a3 = some true := by simp [laws_eqHole.f]
theorem eqHoleS_refl {k : Nat} {l : List S39} (hk : l.length < k) (hl : l.length ≤ 9223372036854775806) : laws_eqHoleS.f k l l = some true := by
  unfold laws_eqHoleS.f
  rw [if_pos rfl]
  exact refl_loop laws_eqHoleS.l0 l hl
    (fun k i h => by simp only [laws_eqHoleS.l0, eqHole_refl, Option.bind_some]; rw [if_pos (by omega), if_pos (by omega), if_pos (by omega)]; simp)
    (fun k i h => by simp only [laws_eqHoleS.l0]; rw [if_neg (by omega)])
    l.length k 0 (by omega) hk

end Go.Proofs.Ytbfhphobnngeaaa.Pure

-- Qholes
namespace Go.Proofs.Ytbfhphobnngeaaa.Pure
open Go Go.RowKit Go.Proofs Go.Proofs.Ytbfhphobnngeaaa.X Go.Proofs.YtbfhphobnngeaaaW.PrintWords Go.Proofs.YtbfhphobnngeaaaW.PrintLast
set_option linter.unusedVariables false
set_option linter.unusedSimpArgs false

def meetsB (x y : S39) : Bool := decide (x.f0 ≤ y.f2) && (decide (y.f0 ≤ x.f2) && (decide (x.f1 ≤ y.f3) && decide (y.f1 ≤ x.f3)))
theorem meetsB_comm (x y : S39) : meetsB x y = meetsB y x := by
  unfold meetsB
  rw [Bool.eq_iff_iff]; simp only [Bool.and_eq_true, decide_eq_true_eq]; omega
/-- hm, wm: the last row and column -/
def holeB (hm wm : Int) (x : S39) : Bool := decide (0 ≤ x.f2 ∧ x.f2 ≤ hm) && (decide (0 ≤ x.f0 ∧ x.f0 ≤ x.f2) && (decide (0 ≤ x.f3 ∧ x.f3 ≤ wm) && decide (0 ≤ x.f1 ∧ x.f1 ≤ x.f3)))
def ordB (x y : S39) : Bool := decide (x.f0 < y.f0) || (decide (x.f0 = y.f0) && decide (x.f1 < y.f1))
def freeB (l : List S39) (j : Nat) : Bool := allR (fun i => !meetsB (l.getD i z39) (l.getD j z39)) 0 j
def ordAt (l : List S39) (j : Nat) : Bool := decide (j = 0) || ordB (l.getD (j - 1) z39) (l.getD j z39)
def holeQ (hm wm : Int) (l : List S39) (j : Nat) : Bool := holeB hm wm (l.getD j z39) && (ordAt l j && freeB l j)
def holesB (w h : Int) (l : List Int) (hl : List S39) : Bool := chartB w h l && (decide (hl.length ≤ 8) && allR (holeQ (h - 1) (w - 1) hl) 0 hl.length)
theorem meetS_eq (x y : S39) : spec_l23Meet.f x.f0 x.f1 x.f2 x.f3 y.f0 y.f1 y.f2 y.f3 = some (meetsB x y) := by
  unfold spec_l23Meet.f meetsB
  by_cases h1 : x.f0 ≤ y.f2 <;> by_cases h2 : y.f0 ≤ x.f2 <;> by_cases h3 : x.f1 ≤ y.f3 <;> simp [h1, h2, h3]
theorem meetI_eq (x y : S39) : impl_Hole_meets.f x.f0 x.f1 x.f2 x.f3 y.f0 y.f1 y.f2 y.f3 = some (meetsB x y) := by
  unfold impl_Hole_meets.f meetsB
  by_cases h1 : x.f0 ≤ y.f2 <;> by_cases h2 : y.f0 ≤ x.f2 <;> by_cases h3 : x.f1 ≤ y.f3 <;> simp [h1, h2, h3]
theorem freeS_loop {w h : Int} {l : List Int} {hl : List S39} {i : Nat} (hi : i < hl.length) (hb : hl.length ≤ 1048576) (c : S39) :
    ∀ (m k j : Nat), j + m = i → spec_l23Good.l1 (k + m + 1) hl (i : Int) (j : Int) w h l c.f0 c.f1 c.f2 c.f3 = if allR (fun j => !meetsB (hl.getD j z39) c) j m = true then spec_l23Good.l0 k hl (wrap64 ((i : Int) + 1)) w h l else some false := by
  intro m
  induction m with
  | zero =>
    intro k j hj
    rw [spec_l23Good.l1, if_neg (by omega)]
    simp [allR]
  | succ m ih =>
    intro k j hj
    show spec_l23Good.l1 ((k + m + 1) + 1) hl (i : Int) (j : Int) w h l c.f0 c.f1 c.f2 c.f3 = _
    rw [spec_l23Good.l1, if_pos (by omega), if_pos (by omega), if_pos (by omega), rdIHole_nat, meetS_eq]
    simp only [Option.bind_some]
    rw [allR_succ, wstep (n := hl.length) (by omega) (by omega), ih k (j + 1) (by omega)]
    cases meetsB (hl.getD j z39) c <;> simp
theorem holesS_loop {w h : Int} {l : List Int} {hl : List S39} (hl0 : l.length ≤ 1048576) (hb : hl.length ≤ 1048576) :
    ∀ (n k i : Nat), i + n = hl.length → (n + 1) * (hl.length + l.length + 10) < k → spec_l23Good.l0 k hl (i : Int) w h l = some (allR (holeQ (wrap64 (h - 1)) (wrap64 (w - 1)) hl) i n && (chartB w h l && decide (hl.length ≤ 8))) := by
  intro n
  induction n with
  | zero =>
    intro k i hi hk
    obtain ⟨k, rfl, hk'⟩ := succ_of (show 0 < k by omega)
    rw [spec_l23Good.l0, if_neg (by omega), l2Good_eq (by omega) hl0]
    simp only [Option.bind_some]
    have e1 : decide ((hl.length : Int) ≤ 8) = decide (hl.length ≤ 8) := by
      congr 1; exact propext ⟨fun h => by omega, fun h => by omega⟩
    rw [e1]
    cases chartB w h l <;> simp [allR]
  | succ n ih =>
    intro k i hi hk
    have hc : (n + 1 + 1) * (hl.length + l.length + 10) = (n + 1) * (hl.length + l.length + 10) + (hl.length + l.length + 10) := Nat.succ_mul _ _
    obtain ⟨k, rfl⟩ : ∃ k2, k = k2 + i + 1 + 1 + 1 + 1 := ⟨k - i - 4, by omega⟩
    have hlt : i < hl.length := by omega
    rw [spec_l23Good.l0, if_pos (by omega), if_pos (by omega)]
    simp only [l1In_eq, Option.bind_some, rdIHole_nat]
    rw [allR_succ]
    have hq : holeQ (wrap64 (h - 1)) (wrap64 (w - 1)) hl i = (decide (0 ≤ (hl.getD i z39).f2 ∧ (hl.getD i z39).f2 ≤ wrap64 (h - 1)) && (decide (0 ≤ (hl.getD i z39).f0 ∧ (hl.getD i z39).f0 ≤ (hl.getD i z39).f2) && (decide (0 ≤ (hl.getD i z39).f3 ∧ (hl.getD i z39).f3 ≤ wrap64 (w - 1)) && decide (0 ≤ (hl.getD i z39).f1 ∧ (hl.getD i z39).f1 ≤ (hl.getD i z39).f3))) && (ordAt hl i && freeB hl i)) := rfl
    obtain ⟨p1, e1⟩ : ∃ p, decide (0 ≤ (hl.getD i z39).f2 ∧ (hl.getD i z39).f2 ≤ wrap64 (h - 1)) = p := ⟨_, rfl⟩
    obtain ⟨p2, e2⟩ : ∃ p, decide (0 ≤ (hl.getD i z39).f0 ∧ (hl.getD i z39).f0 ≤ (hl.getD i z39).f2) = p := ⟨_, rfl⟩
    obtain ⟨p3, e3⟩ : ∃ p, decide (0 ≤ (hl.getD i z39).f3 ∧ (hl.getD i z39).f3 ≤ wrap64 (w - 1)) = p := ⟨_, rfl⟩
    obtain ⟨p4, e4⟩ : ∃ p, decide (0 ≤ (hl.getD i z39).f1 ∧ (hl.getD i z39).f1 ≤ (hl.getD i z39).f3) = p := ⟨_, rfl⟩
    rw [hq, e1, e2, e3, e4]
    clear hq e1 e2 e3 e4
    have dead : ∀ k, spec_l23Good.j1 (k + 1) hl (i : Int) true w h l (hl.getD i z39).f0 (hl.getD i z39).f1 (hl.getD i z39).f2 (hl.getD i z39).f3 = some false := fun k => by rw [spec_l23Good.j1]; simp
    cases p1
    · simp only [Bool.false_eq_true, if_false, if_true, Bool.not_false, dead, Bool.false_and, Bool.true_and]
    cases p2
    · simp only [Bool.false_eq_true, if_false, if_true, Bool.not_false, dead, Bool.false_and, Bool.true_and]
    cases p3
    · simp only [Bool.false_eq_true, if_false, if_true, Bool.not_false, dead, Bool.false_and, Bool.true_and]
    cases p4
    · simp only [Bool.false_eq_true, if_false, if_true, Bool.not_false, dead, Bool.false_and, Bool.true_and]
    simp only [if_true, Bool.not_true, Bool.true_and]
    rw [spec_l23Good.j1, if_neg (by simp)]
    have live : spec_l23Good.j2 (k + i + 1 + 1) hl (i : Int) false w h l (hl.getD i z39).f0 (hl.getD i z39).f1 (hl.getD i z39).f2 (hl.getD i z39).f3 = some (freeB hl i && (allR (holeQ (wrap64 (h - 1)) (wrap64 (w - 1)) hl) (i + 1) n && (chartB w h l && decide (hl.length ≤ 8)))) := by
      rw [spec_l23Good.j2, if_neg (by simp)]
      have := freeS_loop (w := w) (h := h) (l := l) hlt hb (hl.getD i z39) i k 0 (by omega)
      rw [show ((0 : Nat) : Int) = 0 from rfl] at this
      rw [this]
      show (if freeB hl i = true then _ else _) = _
      rw [wstep hlt (by omega), ih k (i + 1) (by omega) (by omega)]
      cases freeB hl i <;> simp
    have gone : spec_l23Good.j2 (k + i + 1 + 1) hl (i : Int) true w h l (hl.getD i z39).f0 (hl.getD i z39).f1 (hl.getD i z39).f2 (hl.getD i z39).f3 = some false := by rw [spec_l23Good.j2]; simp
    by_cases hi0 : i = 0
    · rw [if_neg (by omega), live]
      have ho : ordAt hl i = true := by unfold ordAt; rw [decide_eq_true hi0, Bool.true_or]
      rw [ho]
      cases freeB hl i <;> simp
    · rw [if_pos (by omega), w64 (x := (i : Int) - 1) (by omega) (by omega), if_pos (by omega), if_pos (by omega), show (i : Int) - 1 = ((i - 1 : Nat) : Int) by omega, rdIHole_nat]
      have ho : ordAt hl i = ordB (hl.getD (i - 1) z39) (hl.getD i z39) := by unfold ordAt; rw [decide_eq_false hi0, Bool.false_or]
      rw [ho]
      unfold ordB
      by_cases g1 : (hl.getD (i - 1) z39).f0 > (hl.getD i z39).f0
      · rw [if_pos g1, gone, decide_eq_false (show ¬ (hl.getD (i - 1) z39).f0 < (hl.getD i z39).f0 by omega), decide_eq_false (show ¬ (hl.getD (i - 1) z39).f0 = (hl.getD i z39).f0 by omega)]; simp
      · rw [if_neg g1]
        by_cases g2 : (hl.getD (i - 1) z39).f0 = (hl.getD i z39).f0
        · rw [if_pos g2, decide_eq_true g2, decide_eq_false (show ¬ (hl.getD (i - 1) z39).f0 < (hl.getD i z39).f0 by omega)]
          by_cases g3 : (hl.getD (i - 1) z39).f1 ≥ (hl.getD i z39).f1
          · rw [decide_eq_true g3, gone, decide_eq_false (show ¬ (hl.getD (i - 1) z39).f1 < (hl.getD i z39).f1 by omega)]; simp
          · rw [decide_eq_false g3, live, decide_eq_true (show (hl.getD (i - 1) z39).f1 < (hl.getD i z39).f1 by omega)]; simp [Bool.and_assoc]
        · rw [if_neg g2, live, decide_eq_true (show (hl.getD (i - 1) z39).f0 < (hl.getD i z39).f0 by omega)]; simp [Bool.and_assoc]
theorem holesS_eq {k : Nat} {w h : Int} {l : List Int} {hl : List S39} (hk : (hl.length + 1) * (hl.length + l.length + 10) < k) (hl0 : l.length ≤ 1048576) (hb : hl.length ≤ 1048576) : spec_l23Good.f k w h l hl = some (holesB w h l hl) := by
  unfold spec_l23Good.f
  have := holesS_loop (w := w) (h := h) (l := l) (hl := hl) hl0 hb hl.length k 0 (by omega) hk
  refine (this.trans (congrArg some ?_))
  unfold holesB
  cases hc : chartB w h l
  · simp
  have hx := chart_of hc
  rw [w64 (x := h - 1) (by omega) (by omega), w64 (x := w - 1) (by omega) (by omega), Bool.true_and, Bool.true_and, Bool.and_comm]
theorem isHole_eq {w h : Int} {l : List Int} (hc : chartB w h l = true) (x : S39) : impl_Chart_isHole.f w h l x.f0 x.f1 x.f2 x.f3 = some (holeB (h - 1) (w - 1) x) := by
  have := chart_of hc
  simp only [impl_Chart_isHole.f, impl_Chart_hasPlace.f, in_eq, Option.bind_some]
  rw [w64 (x := h - 1) (by omega) (by omega), w64 (x := w - 1) (by omega) (by omega)]
  unfold holeB
  by_cases g1 : 0 ≤ x.f0 ∧ x.f0 ≤ h - 1 <;> by_cases g2 : 0 ≤ x.f1 ∧ x.f1 ≤ w - 1 <;> by_cases g3 : 0 ≤ x.f2 ∧ x.f2 ≤ h - 1 <;> by_cases g4 : 0 ≤ x.f3 ∧ x.f3 ≤ w - 1 <;> by_cases g5 : x.f0 ≤ x.f2 <;> by_cases g6 : x.f1 ≤ x.f3 <;> simp [g1, g2, g3, g4, g5, g6] <;> omega
theorem or2_eq (k : Nat) (a b : Int) : cmp_Or_int.f (k + 3) [a, b] = some (if a = 0 then b else a) := by
  have e1 : wrap64 (0 + 1) = 1 := w64 (by omega) (by omega)
  have e2 : wrap64 (1 + 1) = 2 := w64 (by omega) (by omega)
  have r0 : rd [a, b] 0 = a := rfl
  have r1 : rd [a, b] 1 = b := rfl
  have hl : (([a, b] : List Int).length : Int) = 2 := rfl
  simp only [cmp_Or_int.f, cmp_Or_int.l0, hl, e1, e2, r0, r1]
  by_cases h1 : a = 0 <;> by_cases h2 : b = 0 <;> simp [h1, h2]
theorem compareH_eq {k : Nat} (hk : 3 ≤ k) (x y : S39) : ∃ c, impl_Hole_compare.f k x.f0 x.f1 x.f2 x.f3 y.f0 y.f1 y.f2 y.f3 = some c ∧ (c ≥ 0 ↔ ordB x y = false) := by
  obtain ⟨k, rfl⟩ : ∃ m, k = m + 3 := ⟨k - 3, by omega⟩
  simp only [impl_Hole_compare.f, cmpI_eq, Option.bind_some, or2_eq]
  refine ⟨_, rfl, ?_⟩
  unfold ordB cmpI
  (repeat' split) <;> simp at * <;> omega
theorem freeI_eq {l : List S39} {i : Nat} (hi : i < l.length) : impl_Hole__impl_Hole_meets.f (l.take i) (l.getD i z39).f0 (l.getD i z39).f1 (l.getD i z39).f2 (l.getD i z39).f3 = some (!freeB l i) := by
  unfold impl_Hole__impl_Hole_meets.f
  rw [Ho.hasO_eq (q := fun x => meetsB (l.getD i z39) x) (fun x _ => meetI_eq _ _)]
  congr 1
  have hlen : (l.take i).length = i := by rw [List.length_take]; omega
  have e : freeB l i = (l.take i).all (fun x => !meetsB (l.getD i z39) x) := by
    unfold freeB
    rw [Bool.eq_iff_iff, allR_iff, all_getD z39]
    have hg : ∀ j, j < i → (l.take i).getD j z39 = l.getD j z39 := by
      intro j hj
      rw [List.getD_eq_getElem?_getD, List.getElem?_take_of_lt hj, ← List.getD_eq_getElem?_getD]
    constructor
    · intro h j hj
      rw [hg j (by omega), meetsB_comm]; exact h j (by omega) (by omega)
    · intro h j _ hj
      have := h j (by omega)
      rw [hg j (by omega), meetsB_comm] at this; exact this
  rw [e, List.not_all_eq_any_not]
  simp

end Go.Proofs.Ytbfhphobnngeaaa.Pure

-- Qknotslost
namespace Go.Proofs.Ytbfhphobnngeaaa.Pure
open Go Go.RowKit Go.Proofs Go.Proofs.Ytbfhphobnngeaaa.X Go.Proofs.YtbfhphobnngeaaaW.PrintWords Go.Proofs.YtbfhphobnngeaaaW.PrintLast
set_option linter.unusedVariables false
set_option linter.unusedSimpArgs false

def knotsH (x : S39) : Int := (x.f2 - x.f0 + 1) * (x.f3 - x.f1 + 1)
theorem holes_of {w h : Int} {l : List Int} {hl : List S39} (hb : holesB w h l hl = true) : chartB w h l = true ∧ hl.length ≤ 8 ∧ ∀ x ∈ hl, holeB (h - 1) (w - 1) x = true := by
  simp only [holesB, Bool.and_eq_true, decide_eq_true_eq] at hb
  refine ⟨hb.1, hb.2.1, fun x hx => ?_⟩
  have h2 := allR_iff.mp hb.2.2
  obtain ⟨j, hj, rfl⟩ := List.mem_iff_getElem.mp hx
  have := h2 j (by omega) (by omega)
  unfold holeQ at this
  rw [Bool.and_eq_true] at this
  have e : hl.getD j z39 = hl[j] := by simp [List.getD_eq_getElem?_getD, List.getElem?_eq_getElem hj]
  rw [← e]; exact this.1
theorem hole_of {a b : Int} {x : S39} (hb : holeB a b x = true) : (0 ≤ x.f2 ∧ x.f2 ≤ a) ∧ (0 ≤ x.f0 ∧ x.f0 ≤ x.f2) ∧ (0 ≤ x.f3 ∧ x.f3 ≤ b) ∧ (0 ≤ x.f1 ∧ x.f1 ≤ x.f3) := by
  simpa only [holeB, Bool.and_eq_true, decide_eq_true_eq] using hb
theorem knots_bd {w h : Int} {l : List Int} (hc : chartB w h l = true) {x : S39} (hx : holeB (h - 1) (w - 1) x = true) : 1 ≤ knotsH x ∧ knotsH x ≤ 64 := by
  have := chart_of hc; have hx := hole_of hx
  unfold knotsH
  have h1 := mul_bd (a := x.f2 - x.f0 + 1) (b := x.f3 - x.f1 + 1) (A := 8) (B := 8) (by omega) (by omega) (by omega) (by omega)
  have h2 : 0 < (x.f2 - x.f0 + 1) * (x.f3 - x.f1 + 1) := Int.mul_pos (by omega) (by omega)
  omega
theorem knots_wr {w h : Int} {l : List Int} (hc : chartB w h l = true) {x : S39} (hx : holeB (h - 1) (w - 1) x = true) : wrap64 ((wrap64 ((wrap64 (x.f2 - x.f0)) + 1)) * (wrap64 ((wrap64 (x.f3 - x.f1)) + 1))) = knotsH x := by
  have hb := knots_bd hc hx
  have := chart_of hc; have hx := hole_of hx
  rw [w64 (x := x.f2 - x.f0) (by omega) (by omega), w64 (x := x.f2 - x.f0 + 1) (by omega) (by omega), w64 (x := x.f3 - x.f1) (by omega) (by omega), w64 (x := x.f3 - x.f1 + 1) (by omega) (by omega)]
  unfold knotsH at hb ⊢
  exact w64 (by omega) (by omega)
def knotsLostM (w h : Int) (l : List Int) (hl : List S39) : Int × Bool := if holesB w h l hl then ((hl.map knotsH).sum, true) else (0, false)
theorem knotsLostS_eq {k : Nat} {w h : Int} {l : List Int} {hl : List S39} (hk : (hl.length + 1) * (hl.length + l.length + 10) < k) (hl0 : l.length ≤ 1048576) (hb : hl.length ≤ 1048576) : spec_KnotsLost.f k w h l hl = some (knotsLostM w h l hl) := by
  simp only [spec_KnotsLost.f, holesS_eq hk hl0 hb, Option.bind_some, knotsLostM]
  cases hg : holesB w h l hl
  · simp
  obtain ⟨hc, h8, hx⟩ := holes_of hg
  simp only [if_true]
  have hk2 : hl.length < k := by have := Nat.le_mul_of_pos_right (hl.length + 1) (show 0 < hl.length + l.length + 10 by omega); omega
  have := sum_loop (fun k a i => spec_KnotsLost.l0 k hl a i) knotsH (fun a => some (a, true)) z39 64 hl (by omega) (fun x hm => by have := knots_bd hc (hx x hm); omega)
    (fun k acc i h1 h2 h3 => by
      have hm : hl.getD i z39 ∈ hl := by rw [List.getD_eq_getElem?_getD, List.getElem?_eq_getElem h1]; exact List.getElem_mem h1
      have hb := knots_bd hc (hx _ hm)
      simp only [spec_KnotsLost.l0, rdIHole_nat, spec_l23Knots.f, Option.bind_some]
      rw [if_pos (by omega), if_pos (by omega), knots_wr hc (hx _ hm), w64 (by omega) (by omega)])
    (fun k acc i h1 => by simp only [spec_KnotsLost.l0]; rw [if_neg (by omega)])
    hl.length k 0 0 (by omega) hk2 (by omega) (by omega)
  simpa using this

end Go.Proofs.Ytbfhphobnngeaaa.Pure

-- QholesI
namespace Go.Proofs.Ytbfhphobnngeaaa.Pure
open Go Go.RowKit Go.Proofs Go.Proofs.Ytbfhphobnngeaaa.X Go.Proofs.YtbfhphobnngeaaaW.PrintWords Go.Proofs.YtbfhphobnngeaaaW.PrintLast
set_option linter.unusedVariables false
set_option linter.unusedSimpArgs false

theorem AreHoles_eq {k : Nat} {w h : Int} {l : List Int} {hl : List S39} (hk : hl.length + 10 < k) (hb : hl.length ≤ 1048576) : impl_AreHoles.f k w h l hl = some (holesB w h l hl) := by
  obtain ⟨k, rfl, hk2⟩ := succ_of hk
  simp only [impl_AreHoles.f, impl_AreHoles.j0, IsChart_eq, Option.bind_some, holesB]
  cases hc : chartB w h l
  · simp
  by_cases h8 : (8 : Int) < hl.length
  · simp [show ¬ hl.length ≤ 8 by omega, h8]
  rw [if_pos rfl, if_neg (by omega)]
  simp only [impl_Hole__impl_Chart_isHole.f]
  rw [Ho.allO_eq (q := holeB (h - 1) (w - 1)) (fun x _ => isHole_eq hc x)]
  simp only [Option.bind_some, show decide (hl.length ≤ 8) = true by simp; omega, Bool.true_and]
  have hsplit : allR (holeQ (h - 1) (w - 1) hl) 0 hl.length = (hl.all (holeB (h - 1) (w - 1)) && allR (fun j => ordAt hl j && freeB hl j) 0 hl.length) := by
    rw [Bool.eq_iff_iff, Bool.and_eq_true, allR_iff, allR_iff, all_getD z39]
    constructor
    · intro hq
      refine ⟨fun j hj => ?_, fun j _ hj => ?_⟩
      · have := hq j (by omega) (by omega)
        unfold holeQ at this; rw [Bool.and_eq_true] at this; exact this.1
      · have := hq j (by omega) hj
        unfold holeQ at this; rw [Bool.and_eq_true] at this; exact this.2
    · intro hq j h1 h2
      unfold holeQ; rw [Bool.and_eq_true]
      exact ⟨hq.1 j (by omega), hq.2 j h1 h2⟩
  rw [hsplit]
  cases hl.all (holeB (h - 1) (w - 1))
  · simp
  simp only [Bool.not_true, Bool.false_eq_true, if_false, Bool.true_and]
  have hx := idx_loop2 (fun k i => impl_AreHoles.l0 k hl hl (hl.length : Int) i) (fun j => ordAt hl j && freeB hl j) 0 hl.length 4 true (by omega)
    (fun k i _ h1 h2 => by
      simp only [impl_AreHoles.l0, Int.toNat_natCast, rdIHole_nat]
      rw [if_pos (by omega), if_pos (by omega), if_pos (by omega)]
      by_cases hi : i = 0
      · rw [if_neg (by omega), if_pos (by omega), freeI_eq h1]
        simp only [Option.bind_some]
        have ho : ordAt hl i = true := by unfold ordAt; rw [decide_eq_true hi, Bool.true_or]
        rw [ho]
        cases freeB hl i <;> simp
      · have ho : ordAt hl i = ordB (hl.getD (i - 1) z39) (hl.getD i z39) := by unfold ordAt; rw [decide_eq_false hi, Bool.false_or]
        rw [if_pos (by omega), w64 (x := (i : Int) - 1) (by omega) (by omega), if_pos (by omega), if_pos (by omega), show (i : Int) - 1 = ((i - 1 : Nat) : Int) by omega, rdIHole_nat]
        obtain ⟨c, e, hcmp⟩ := compareH_eq (k := k) (by omega) (hl.getD (i - 1) z39) (hl.getD i z39)
        rw [e]
        simp only [Option.bind_some]
        rw [ho]
        cases hb2 : ordB (hl.getD (i - 1) z39) (hl.getD i z39)
        · rw [if_pos (hcmp.mpr hb2)]; simp
        · rw [if_neg (fun g => by have := hcmp.mp g; rw [hb2] at this; simp at this), if_pos (by omega), freeI_eq h1]
          simp only [Option.bind_some]
          cases freeB hl i <;> simp)
    (fun hq k hk => by simp only [impl_AreHoles.l0]; rw [if_neg (by omega)])
    hl.length k 0 (by omega) (by omega) (by omega) (fun j h1 h2 => by omega)
  simpa using hx

end Go.Proofs.Ytbfhphobnngeaaa.Pure

-- QknotslostI
namespace Go.Proofs.Ytbfhphobnngeaaa.Pure
open Go Go.RowKit Go.Proofs Go.Proofs.Ytbfhphobnngeaaa.X Go.Proofs.YtbfhphobnngeaaaW.PrintWords Go.Proofs.YtbfhphobnngeaaaW.PrintLast
set_option linter.unusedVariables false
set_option linter.unusedSimpArgs false

theorem knotsLostI_eq {k : Nat} {w h : Int} {l : List Int} {hl : List S39} (hk : hl.length + 10 < k) (hb : hl.length ≤ 1048576) : impl_KnotsLost.f k w h l hl = some (knotsLostM w h l hl) := by
  simp only [impl_KnotsLost.f, AreHoles_eq hk hb, Option.bind_some, knotsLostM]
  cases hg : holesB w h l hl
  · simp
  obtain ⟨hc, h8, hx⟩ := holes_of hg
  simp only [if_true]
  have := sum_loop (fun k a i => impl_KnotsLost.l0 k a hl (hl.length : Int) i) knotsH (fun a => some (a, true)) z39 64 hl (by omega) (fun x hm => by have := knots_bd hc (hx x hm); omega)
    (fun k acc i h1 h2 h3 => by
      have hm : hl.getD i z39 ∈ hl := by rw [List.getD_eq_getElem?_getD, List.getElem?_eq_getElem h1]; exact List.getElem_mem h1
      have hb := knots_bd hc (hx _ hm)
      simp only [impl_KnotsLost.l0, rdIHole_nat, impl_Hole_knots.f, Option.bind_some]
      rw [if_pos (by omega), if_pos (by omega), if_pos (by omega), knots_wr hc (hx _ hm), w64 (by omega) (by omega)])
    (fun k acc i h1 => by simp only [impl_KnotsLost.l0]; rw [if_neg (by omega)])
    hl.length k 0 0 (by omega) (by omega) (by omega) (by omega)
  simpa using this

end Go.Proofs.Ytbfhphobnngeaaa.Pure

-- PureFnExactKnotsLost
namespace Go.Proofs.Ytbfhphobnngeaaa.Pure
open Go Go.RowKit Go.Proofs Go.Proofs.Ytbfhphobnngeaaa.X Go.Proofs.YtbfhphobnngeaaaW.PrintWords Go.Proofs.YtbfhphobnngeaaaW.PrintLast
set_option linter.unusedVariables false
set_option linter.unusedSimpArgs false

theorem FnExactKnotsLost : laws_FnExactKnotsLost.Pure := by
  intro w h l fl _ _ hl hf
  refine ⟨40000000000001, ?_⟩
  simp only [laws_FnExactKnotsLost.f, szChart_eq hl.1 (show (0 : Int) ≤ 1048576 ∧ (1048576 : Int) ≤ 9223372036854775807 by omega), Option.bind_some]
  by_cases hs : (1048576 : Int) < l.length
  · simp [hs]
  rw [if_neg hs, if_neg (by omega), szHoleS_eq hf.1 (by omega)]
  simp only [Option.bind_some]
  by_cases hs2 : (1048576 : Int) - l.length < fl.length
  · simp [hs2]
  rw [if_neg hs2, if_neg (by omega)]
  have h1 : l.length ≤ 1048576 := by omega
  have h2 : fl.length ≤ 1048576 := by omega
  have h3 : (fl.map toHole).length ≤ 1048576 := by rw [List.length_map]; exact h2
  have h4 : ((fl.map toHole).length + 1) * ((fl.map toHole).length + l.length + 10) < 40000000000001 := by
    have := Nat.mul_le_mul (show (fl.map toHole).length + 1 ≤ 1048577 by omega) (show (fl.map toHole).length + l.length + 10 ≤ 2097162 by omega)
    omega
  simp only [toChart_eq (k := 40000000000001) (w := w) (h := h) (l := l) (by omega) h1, toHoleS_eq (k := 40000000000001) (l := fl) (by omega) h2, Option.bind_some, knotsLostS_eq (k := 40000000000001) (w := w) (h := h) (l := l) (hl := fl.map toHole) h4 h1 h3, knotsLostI_eq (k := 40000000000001) (w := w) (h := h) (l := l) (hl := fl.map toHole) (by omega) h3, if_true, bne_self_eq_false, laws_FnExactKnotsLost.j0, Bool.false_eq_true, if_false, toChart_eq (k := 40000000000000) (w := w) (h := h) (l := l) (by omega) h1, toHoleS_eq (k := 40000000000000) (l := fl) (by omega) h2, eqChart_refl (k := 40000000000000) (w := w) (h := h) (l := l) (by omega) h1, eqHoleS_refl (k := 40000000000000) (l := fl.map toHole) (by omega) (by omega)]

end Go.Proofs.Ytbfhphobnngeaaa.Pure
