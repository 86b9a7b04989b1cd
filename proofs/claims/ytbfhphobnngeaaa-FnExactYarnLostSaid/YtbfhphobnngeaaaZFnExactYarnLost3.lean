/- What the law FnExactYarnLost needs, part 4 of 4: what each function of the program that it reaches returns (printed by this session's own program, checked by Lean), and plain mathematics about it. Conditions: those of each theorem. -/
import Derived.Test.YtbfhphobnngeaaaZFnExactYarnLost2
import Derived.Test.YtbfhphobnngeaaaWLast
import Derived.Test.YtbfhphobnngeaaaWWords
-- XspecYarnLostF27
namespace Go.Proofs.Ytbfhphobnngeaaa.X
open Ho (bS eS)
open Go.RowKit Go.Proofs.YtbfhphobnngeaaaW.PrintWords Go.Proofs.YtbfhphobnngeaaaW.PrintLast Go.Proofs.YtbfhphobnngeaaaW.PrintMore
attribute [local go_sem] max2_int min2_int max_two min_two max_three min_three max_four min_four   -- for this text's walks alone
set_option linter.unusedVariables false
set_option linter.unusedSimpArgs false

attribute [local go_sem ↓] Ho.isSome_setCell_   -- a store leaves all places there
/-! ### spec_YarnLost: function 27 -/
mutual
def spec_YarnLost.l0 : Nat → List (S39) → List Int → Int → Int → Int → List Int → Option (List Int × Bool)
  | 0, _, _, _, _, _, _ => none
  | k + 1, x1, x6, x7, x102000, x102001, x102002 => if x7 < (x1.length : Int) then (if 0 ≤ x7 then (spec_YarnLost.l1 k x1 x6 x7 ((rd_T39 x1 x7).f0) x102000 x102001 x102002) else (none)) else (some (x6, true))
def spec_YarnLost.l1 : Nat → List (S39) → List Int → Int → Int → Int → Int → List Int → Option (List Int × Bool)
  | 0, _, _, _, _, _, _, _ => none
  | k + 1, x1, x6, x7, x8, x102000, x102001, x102002 => if 0 ≤ x7 then (if x7 < (x1.length : Int) then (if x8 ≤ ((rd_T39 x1 x7).f2) then (spec_YarnLost.l2 k x1 x6 x7 x8 ((rd_T39 x1 x7).f1) x102000 x102001 x102002) else (spec_YarnLost.l0 k x1 x6 (wrap64 (x7 + 1)) x102000 x102001 x102002)) else (none)) else (none)
def spec_YarnLost.l2 : Nat → List (S39) → List Int → Int → Int → Int → Int → Int → List Int → Option (List Int × Bool)
  | 0, _, _, _, _, _, _, _, _ => none
  | k + 1, x1, x6, x7, x8, x9, x102000, x102001, x102002 => if 0 ≤ x7 then (if x7 < (x1.length : Int) then (if x9 ≤ ((rd_T39 x1 x7).f3) then ((spec_l2At.f x102000 x102001 x102002 x8 x9).bind fun t113 => (if 0 ≤ t113 then (if t113 < (x6.length : Int) then (spec_YarnLost.l2 k x1 (x6.set (t113 : Int).toNat (wrap64 ((rd x6 t113) + 1))) x7 x8 (wrap64 (x9 + 1)) x102000 x102001 x102002) else (none)) else (none))) else (spec_YarnLost.l1 k x1 x6 x7 (wrap64 (x8 + 1)) x102000 x102001 x102002)) else (none)) else (none)
end
def spec_YarnLost.f (k : Nat) (a0_0 : Int) (a0_1 : Int) (l0_2 : List Int) (l1 : List (S39)) : Option (List Int × Bool) := (spec_l23Good.f k a0_0 a0_1 l0_2 l1).bind fun t102 => (if t102 = true then (if 6 ≤ 35184372088832 then (spec_YarnLost.l0 k l1 (List.replicate 6 0) 0 a0_0 a0_1 l0_2) else (none)) else (some ((([] : List Int)), false)))
theorem spec_YarnLost.mono_l : ∀ k, (∀ y0 y1 y2 y3 y4 y5, LeO (spec_YarnLost.l0 k y0 y1 y2 y3 y4 y5) (spec_YarnLost.l0 (k + 1) y0 y1 y2 y3 y4 y5)) ∧ (∀ y0 y1 y2 y3 y4 y5 y6, LeO (spec_YarnLost.l1 k y0 y1 y2 y3 y4 y5 y6) (spec_YarnLost.l1 (k + 1) y0 y1 y2 y3 y4 y5 y6)) ∧ (∀ y0 y1 y2 y3 y4 y5 y6 y7, LeO (spec_YarnLost.l2 k y0 y1 y2 y3 y4 y5 y6 y7) (spec_YarnLost.l2 (k + 1) y0 y1 y2 y3 y4 y5 y6 y7))
  | 0 => ⟨fun _ _ _ _ _ _ r h => by simp [spec_YarnLost.l0] at h, fun _ _ _ _ _ _ _ r h => by simp [spec_YarnLost.l1] at h, fun _ _ _ _ _ _ _ _ r h => by simp [spec_YarnLost.l2] at h⟩
  | k + 1 => by
    obtain ⟨ih0, ih1, ih2⟩ := spec_YarnLost.mono_l k
    refine ⟨?_, ?_, ?_⟩
    · intro y0 y1 y2 y3 y4 y5
      unfold spec_YarnLost.l0
      repeat' first
      | (with_reducible exact ih0 _ _ _ _ _ _)
      | (with_reducible exact ih1 _ _ _ _ _ _ _)
      | (with_reducible exact ih2 _ _ _ _ _ _ _ _)
      | (with_reducible exact spec_l23Good.mono _ _ _ _ _)
      | (with_reducible exact LeO.refl _)
      | (with_reducible exact LeO.none _)
      | (with_reducible refine LeO.ite ?_ ?_)
      | (with_reducible refine LeO.bind ?_ (fun _ => ?_))
      | exact ih0 _ _ _ _ _ _
      | exact ih1 _ _ _ _ _ _ _
      | exact ih2 _ _ _ _ _ _ _ _
      | exact spec_l23Good.mono _ _ _ _ _
      | exact LeO.none _
      | refine LeO.ite ?_ ?_
      | refine LeO.bind ?_ (fun _ => ?_)
    · intro y0 y1 y2 y3 y4 y5 y6
      unfold spec_YarnLost.l1
      repeat' first
      | (with_reducible exact ih0 _ _ _ _ _ _)
      | (with_reducible exact ih1 _ _ _ _ _ _ _)
      | (with_reducible exact ih2 _ _ _ _ _ _ _ _)
      | (with_reducible exact spec_l23Good.mono _ _ _ _ _)
      | (with_reducible exact LeO.refl _)
      | (with_reducible exact LeO.none _)
      | (with_reducible refine LeO.ite ?_ ?_)
      | (with_reducible refine LeO.bind ?_ (fun _ => ?_))
      | exact ih0 _ _ _ _ _ _
      | exact ih1 _ _ _ _ _ _ _
      | exact ih2 _ _ _ _ _ _ _ _
      | exact spec_l23Good.mono _ _ _ _ _
      | exact LeO.none _
      | refine LeO.ite ?_ ?_
      | refine LeO.bind ?_ (fun _ => ?_)
    · intro y0 y1 y2 y3 y4 y5 y6 y7
      unfold spec_YarnLost.l2
      repeat' first
      | (with_reducible exact ih0 _ _ _ _ _ _)
      | (with_reducible exact ih1 _ _ _ _ _ _ _)
      | (with_reducible exact ih2 _ _ _ _ _ _ _ _)
      | (with_reducible exact spec_l23Good.mono _ _ _ _ _)
      | (with_reducible exact LeO.refl _)
      | (with_reducible exact LeO.none _)
      | (with_reducible refine LeO.ite ?_ ?_)
      | (with_reducible refine LeO.bind ?_ (fun _ => ?_))
      | exact ih0 _ _ _ _ _ _
      | exact ih1 _ _ _ _ _ _ _
      | exact ih2 _ _ _ _ _ _ _ _
      | exact spec_l23Good.mono _ _ _ _ _
      | exact LeO.none _
      | refine LeO.ite ?_ ?_
      | refine LeO.bind ?_ (fun _ => ?_)
theorem spec_YarnLost.mono : ∀ a0 a1 a2 a3 k, LeO (spec_YarnLost.f k a0 a1 a2 a3) (spec_YarnLost.f (k + 1) a0 a1 a2 a3) := by
  intro a0 a1 a2 a3 k
  obtain ⟨ih0, ih1, ih2⟩ := spec_YarnLost.mono_l k
  unfold spec_YarnLost.f
  repeat' first
      | (with_reducible exact ih0 _ _ _ _ _ _)
      | (with_reducible exact ih1 _ _ _ _ _ _ _)
      | (with_reducible exact ih2 _ _ _ _ _ _ _ _)
      | (with_reducible exact spec_l23Good.mono _ _ _ _ _)
      | (with_reducible exact LeO.refl _)
      | (with_reducible exact LeO.none _)
      | (with_reducible refine LeO.ite ?_ ?_)
      | (with_reducible refine LeO.bind ?_ (fun _ => ?_))
      | exact ih0 _ _ _ _ _ _
      | exact ih1 _ _ _ _ _ _ _
      | exact ih2 _ _ _ _ _ _ _ _
      | exact spec_l23Good.mono _ _ _ _ _
      | exact LeO.none _
      | refine LeO.ite ?_ ?_
      | refine LeO.bind ?_ (fun _ => ?_)
set_option maxHeartbeats 8000000 in
set_option maxRecDepth 100000 in
theorem spec_YarnLost.calls (k : Nat) (a0_0 : Int) (a0_1 : Int) (A0_2 : Option Addr) (c0_2 : Nat) (l0_2 : List Int) (A1 : Option Addr) (c1 : Nat) (l1 : List (S39)) (r1 : List Int) (r2 : Bool) (w : World) (hr0_2 : Kd.C (Kd.int .i64) w A0_2 l0_2.length l0_2) (hc0_2 : l0_2.length ≤ c0_2) (hr1 : Kd.C k39 w A1 l1.length l1) (hc1 : l1.length ≤ c1) (h : spec_YarnLost.f k a0_0 a0_1 l0_2 l1 = some (r1, r2)) :
    Calls Try.prog 27 #[.agg #[.int .i64 a0_0, .int .i64 a0_1, .slice A0_2 l0_2.length c0_2], .slice A1 l1.length c1] w fun e w' => ∃ v0_ : Value, e = .returned (.tuple #[v0_, .bool r2]) ∧ Kd.R (Kd.int .i64) 3 w' w.heap.size (fun _ => True) v0_ r1 ∧ Below w.heap.size w w' := by
  have hu29 := Try.underlying29
  have HR0_2 := Aside0.mk hr0_2
  have HC0_2 := Aside0.mk hc0_2
  clear hr0_2 hc0_2
  have HR1 := Aside0.mk hr1
  have HC1 := Aside0.mk hc1
  clear hr1 hc1
  have HB := Aside0.mk (Below.refl w.heap.size w)
  have H : ((spec_l23Good.f k a0_0 a0_1 l0_2 l1).bind fun t102 => (if t102 = true then (if 6 ≤ 35184372088832 then (spec_YarnLost.l0 k l1 (List.replicate 6 0) 0 a0_0 a0_1 l0_2) else (none)) else (some ((([] : List Int)), false)))) = some (r1, r2) := h
  clear h
  replace H := Option.bind_eq_some_iff.mp H
  obtain ⟨t102, A30, H⟩ := H
  replace H : (if t102 = true then (if 6 ≤ 35184372088832 then (spec_YarnLost.l0 k l1 (List.replicate 6 0) 0 a0_0 a0_1 l0_2) else (none)) else (some ((([] : List Int)), false))) = some (r1, r2) := H
  have A3 := Aside0.mk A30
  clear A30
  by_cases c4 : t102 = true
  · subst c4
    have H1 : (if 6 ≤ 35184372088832 then (spec_YarnLost.l0 k l1 (List.replicate 6 0) 0 a0_0 a0_1 l0_2) else (none)) = some (r1, r2) := by rw [if_pos rfl] at H; exact H
    clear H
    have H := H1
    clear H1
    by_cases c5 : 6 ≤ 35184372088832
    · rw [if_pos c5] at H
      have c5b0 := eq_true c5
      have c5b1 : decide (6 ≤ 35184372088832) = true := decide_eq_true c5
      clear c5
      obtain ⟨y106, hy106⟩ : ∃ y_ : List Int, y_ = (List.replicate 6 0) := ⟨_, rfl⟩
      replace H : (spec_YarnLost.l0 k l1 y106 0 a0_0 a0_1 l0_2) = some (r1, r2) := by first | (rw [hy106]; with_reducible exact H) | (have H2_ := (Option.bind_some _ _).symm.trans H; rw [hy106]; with_reducible exact H2_) | (have H2_ := (Option.bind_some _ _).symm.trans H; with_reducible exact H2_) | with_reducible exact H | (rw [hy106]; exact H) | exact H
      have Ny106 := Aside0.mk hy106
      clear hy106
      have H' := Aside0.mk H
      clear H
      go_enter Try.func27, Try.ntmps27
      go_wp2_with (first | ((with_reducible refine gate_dst (N := 2) rfl ?_); refine box_event ?hg (N := 2) ?hd (cs := #[.int .i64 a0_0, .int .i64 a0_1, .slice A0_2 l0_2.length c0_2]) (t := 29) ?hr ?_; (case hd => rfl); (case hg => rfl); (case hr => first | (go_simp; done) | (go_simp; rfl)); intro gb101 hg w6 hbox hb; have n0_ := Aside0.mk (below_step (by exact eS HB.out) hb); have n1_ := Aside0.mk (hbox); have n2_ := Aside0.mk ((by rw [hg]; exact (below_size (by exact eS HB.out)) : w.heap.size ≤ gb101)); have n3_ := Aside0.mk ((by rw [hg]; exact (below_size (by exact eS HB.out)) : w.heap.size ≤ gb101)); clear HB; have HB := n0_; have BK101 := n1_; have GW101 := n2_; have GE101 := n3_; clear n0_ n1_ n2_ n3_; clear hb hbox hg; have hcz7_0 : w6.cell? ⟨gb101, 0, none⟩ = some (.int .i64 a0_0) := (blk_cell BK101.out 0).trans rfl; have hcz7_1 : w6.cell? ⟨gb101, 1, none⟩ = some (.int .i64 a0_1) := (blk_cell BK101.out 1).trans rfl; have hcz7_2 : w6.cell? ⟨gb101, 2, none⟩ = some (.slice A0_2 l0_2.length c0_2) := (blk_cell BK101.out 2).trans rfl; have hfz7_0 := blk_frozen BK101.out 0; have hfz7_1 := blk_frozen BK101.out 1; have hfz7_2 := blk_frozen BK101.out 2) | ((with_reducible refine gate_callee (f := 48) rfl ?_); refine goesL_ (some 13) rfl rfl Try.func48 (by kernel_rfl) rfl #[.agg #[.int .i64 a0_0, .int .i64 a0_1, .slice A0_2 l0_2.length c0_2], .slice A1 l1.length c1] rfl (by (try simp only [List.map_toArray, List.map_cons, List.map_nil]); first | done | rfl | (simp only [List.length_drop, List.length_take]; rfl)) ?_; (with_reducible refine (spec_l23Good.calls k a0_0 a0_1 _ _ l0_2 _ _ l1 true _ ?side1 ?side2 ?side3 ?side4 A3.out).mono ?_); (case side1 => repeat (first | exact (Kd.C_below HR0_2.out HB.out) | (with_reducible refine Kd.C_alloc ?_ _) | (with_reducible refine Kd.C_drewN ?_ _) | (with_reducible refine Kd.C_drew ?_))); (case side2 => exact HC0_2.out); (case side3 => repeat (first | exact (Kd.C_below HR1.out HB.out) | (with_reducible refine Kd.C_alloc ?_ _) | (with_reducible refine Kd.C_drewN ?_ _) | (with_reducible refine Kd.C_drew ?_))); (case side4 => exact HC1.out); rintro e w8 ⟨rfl, hb⟩; refine ⟨_, rfl, ?_⟩; have n0_ := Aside0.mk (blk_below (bS BK101.out) hb); have n1_ := Aside0.mk (below_step (by exact eS HB.out) hb); clear BK101; clear HB; have BK101 := n0_; have HB := n1_; clear n0_ n1_; (try clear hb); (try clear hb2); (try clear hk); (try clear hi)) | ((with_reducible refine gate_dst (N := 16) rfl ?_); refine Kd.R_make (Kd.int .i64) _ 3 rfl (N := 16) rfl 22 _ _ rfl 6 rfl rfl Try.underlying22 (.int .i64 0) 8 info3 rfl (by decide) (by omega) 0 (ok := fun _ => True) (okp := fun _ => True) rfl (fun _ hk => hk) trivial (by omega) (by omega) (Below.refl _ _) (Nat.le_refl _) ?_; intro v107 w9 ho10 hb hg_ hnew_; clear hg_ hnew_; (first | rw [← Ny106.out] at ho10 | (simp only [Int.reduceToNat] at ho10; rw [← Ny106.out] at ho10)); have n0_ := Aside0.mk (Kd.R_lower ho10 (below_size (by exact eS HB.out))); have n1_ := Aside0.mk (blk_below (bS BK101.out) hb); have n2_ := Aside0.mk (below_step (by exact eS HB.out) hb); clear BK101; clear HB; have HO108 := n0_; have BK101 := n1_; have HB := n2_; clear n0_ n1_ n2_; clear hb ho10))
      go_loopg [7] k (fun kq v7 w' => ∃ (x6_1 : List Int) (x7_1 : Int), v7 = .int .i64 x7_1 ∧ Aside0 (spec_YarnLost.l0 kq l1 x6_1 x7_1 a0_0 a0_1 l0_2 = some (r1, r2)) ∧ Aside0 (kq ≤ k) ∧ Aside0 (Kd.R (Kd.int .i64) 3 w' w.heap.size (fun _ => True) v107 x6_1) ∧ Aside0 (w'.heap[gb101]? = some (.cells #[.int .i64 a0_0, .int .i64 a0_1, (.slice A0_2 l0_2.length c0_2)] 29 (0, 0))) ∧ Aside0 (Below w.heap.size w w'))
      case atStart => exact ⟨(y106), (0), (by first | rfl | (simp; done) | (simp [*]; done)), H', ⟨Nat.le_refl _⟩, ⟨by exact Ho.RS <| HO108.out⟩, ⟨by exact bS BK101.out⟩, ⟨by exact eS HB.out⟩⟩
      case round =>
        clear H'
        try clear c1
        try clear c2
        try clear p2
        try clear c4
        try clear c5
        try clear c5b0
        try clear c5b1
        try clear hcz7_0
        try clear hcz7_1
        try clear hcz7_2
        try clear hfz7_0
        try clear hfz7_1
        try clear hfz7_2
        obtain ⟨x6_1, x7_1, rfl, HA, HK1, HO_6, BK101, HB⟩ := hrel
        cases gk with
        | zero => exact absurd HA.out (by simp [spec_YarnLost.l0])
        | succ k1 =>
          have H := HA.out
          clear HA
          simp only [spec_YarnLost.l0] at H
          by_cases c11 : x7_1 < (l1.length : Int)
          · rw [if_pos c11] at H
            have c11b0 : decide (x7_1 < (l1.length : Int)) = true := decide_eq_true c11
            clear c11
            by_cases c12 : 0 ≤ x7_1
            · rw [if_pos c12] at H
              have c12b0 : decide (0 ≤ x7_1) = true := decide_eq_true c12
              clear c12
              have H' := Aside0.mk H
              clear H
              have p109 : 0 ≤ (x7_1 : Int) := of_decide_eq_true (by first | (with_reducible assumption) | assumption)
              have q109 : x7_1 < (l1.length : Int) := of_decide_eq_true (by first | (with_reducible assumption) | assumption)
              obtain ⟨ad109, e109, hx109_0, hx109_1, hx109_2, hx109_3⟩ := at_T39 HR1.out x7_1 p109 q109
              cases e109
              replace hx109_0 := (HB.out.cell (World.block_lt_of_cell? w _ hx109_0)).trans hx109_0
              replace hx109_1 := (HB.out.cell (World.block_lt_of_cell? w _ hx109_1)).trans hx109_1
              replace hx109_2 := (HB.out.cell (World.block_lt_of_cell? w _ hx109_2)).trans hx109_2
              replace hx109_3 := (HB.out.cell (World.block_lt_of_cell? w _ hx109_3)).trans hx109_3
              replace p109 := eq_true p109
              replace q109 := eq_true q109
              go_wp2
              go_loopg [8] k1 (fun kq v8 w' => ∃ (x6_2 : List Int) (x8_2 : Int), v8 = .int .i64 x8_2 ∧ Aside0 (spec_YarnLost.l1 kq l1 x6_2 x7_1 x8_2 a0_0 a0_1 l0_2 = some (r1, r2)) ∧ Aside0 (kq ≤ k1) ∧ Aside0 (Kd.R (Kd.int .i64) 3 w' w.heap.size (fun _ => True) v107 x6_2) ∧ Aside0 (w'.heap[gb101]? = some (.cells #[.int .i64 a0_0, .int .i64 a0_1, (.slice A0_2 l0_2.length c0_2)] 29 (0, 0))) ∧ Aside0 (Below w.heap.size w w'))
              case atStart => exact ⟨(x6_1), ((rd_T39 l1 x7_1).f0), (by first | rfl | (simp; done) | (simp [*]; done)), H', ⟨Nat.le_refl _⟩, ⟨by exact Ho.RS <| HO_6.out⟩, ⟨by exact bS BK101.out⟩, ⟨by exact eS HB.out⟩⟩
              case round =>
                clear H'
                try clear c1
                try clear p1
                try clear q1
                try clear hx1
                try clear c2
                try clear p2
                try clear c4
                try clear c5
                try clear c5b0
                try clear c5b1
                try clear p10
                try clear q10
                try clear hx10
                try clear c11
                try clear c11b0
                try clear c12
                try clear c12b0
                try clear hcz7_0
                try clear hcz7_1
                try clear hcz7_2
                try clear hfz7_0
                try clear hfz7_1
                try clear hfz7_2
                try clear hx109_0
                try clear hx109_1
                try clear hx109_2
                try clear hx109_3
                try clear p109
                try clear p2
                try clear q109
                obtain ⟨x6_2, x8_2, rfl, HA, HK2, HO_6, BK101, HB⟩ := hrel
                cases gk with
                | zero => exact absurd HA.out (by simp [spec_YarnLost.l1])
                | succ k2 =>
                  have H := HA.out
                  clear HA
                  simp only [spec_YarnLost.l1] at H
                  by_cases c13 : 0 ≤ x7_1
                  · rw [if_pos c13] at H
                    have c13b0 : decide (0 ≤ x7_1) = true := decide_eq_true c13
                    clear c13
                    by_cases c14 : x7_1 < (l1.length : Int)
                    · rw [if_pos c14] at H
                      have c14b0 : decide (x7_1 < (l1.length : Int)) = true := decide_eq_true c14
                      clear c14
                      by_cases c15 : x8_2 ≤ ((rd_T39 l1 x7_1).f2)
                      · rw [if_pos c15] at H
                        have c15b0 : decide (x8_2 ≤ ((rd_T39 l1 x7_1).f2)) = true := decide_eq_true c15
                        clear c15
                        have H' := Aside0.mk H
                        clear H
                        have p110 : 0 ≤ (x7_1 : Int) := of_decide_eq_true (by first | (with_reducible assumption) | assumption)
                        have q110 : x7_1 < (l1.length : Int) := of_decide_eq_true (by first | (with_reducible assumption) | assumption)
                        obtain ⟨ad110, e110, hx110_0, hx110_1, hx110_2, hx110_3⟩ := at_T39 HR1.out x7_1 p110 q110
                        obtain rfl : ad109 = ad110 := (by injection e110)
                        replace hx110_0 := (HB.out.cell (World.block_lt_of_cell? w _ hx110_0)).trans hx110_0
                        replace hx110_1 := (HB.out.cell (World.block_lt_of_cell? w _ hx110_1)).trans hx110_1
                        replace hx110_2 := (HB.out.cell (World.block_lt_of_cell? w _ hx110_2)).trans hx110_2
                        replace hx110_3 := (HB.out.cell (World.block_lt_of_cell? w _ hx110_3)).trans hx110_3
                        replace p110 := eq_true p110
                        replace q110 := eq_true q110
                        have p111 : 0 ≤ (x7_1 : Int) := of_decide_eq_true (by first | (with_reducible assumption) | assumption)
                        have q111 : x7_1 < (l1.length : Int) := of_decide_eq_true (by first | (with_reducible assumption) | assumption)
                        obtain ⟨ad111, e111, hx111_0, hx111_1, hx111_2, hx111_3⟩ := at_T39 HR1.out x7_1 p111 q111
                        obtain rfl : ad109 = ad111 := (by injection e111)
                        replace hx111_0 := (HB.out.cell (World.block_lt_of_cell? w _ hx111_0)).trans hx111_0
                        replace hx111_1 := (HB.out.cell (World.block_lt_of_cell? w _ hx111_1)).trans hx111_1
                        replace hx111_2 := (HB.out.cell (World.block_lt_of_cell? w _ hx111_2)).trans hx111_2
                        replace hx111_3 := (HB.out.cell (World.block_lt_of_cell? w _ hx111_3)).trans hx111_3
                        replace p111 := eq_true p111
                        replace q111 := eq_true q111
                        go_wp2
                        go_loopg [9] k2 (fun kq v9 w' => ∃ (x6_3 : List Int) (x9_3 : Int), v9 = .int .i64 x9_3 ∧ Aside0 (spec_YarnLost.l2 kq l1 x6_3 x7_1 x8_2 x9_3 a0_0 a0_1 l0_2 = some (r1, r2)) ∧ Aside0 (kq ≤ k2) ∧ Aside0 (Kd.R (Kd.int .i64) 3 w' w.heap.size (fun _ => True) v107 x6_3) ∧ Aside0 (w'.heap[gb101]? = some (.cells #[.int .i64 a0_0, .int .i64 a0_1, (.slice A0_2 l0_2.length c0_2)] 29 (0, 0))) ∧ Aside0 (Below w.heap.size w w'))
                        case atStart => exact ⟨(x6_2), ((rd_T39 l1 x7_1).f1), (by first | rfl | (simp; done) | (simp [*]; done)), H', ⟨Nat.le_refl _⟩, ⟨by exact Ho.RS <| HO_6.out⟩, ⟨by exact bS BK101.out⟩, ⟨by exact eS HB.out⟩⟩
                        case round =>
                          clear H'
                          try clear c1
                          try clear p1
                          try clear q1
                          try clear hx1
                          try clear c2
                          try clear p2
                          try clear c4
                          try clear c5
                          try clear c5b0
                          try clear c5b1
                          try clear p10
                          try clear q10
                          try clear hx10
                          try clear c11
                          try clear c11b0
                          try clear p11
                          try clear q11
                          try clear hx11
                          try clear c12
                          try clear c12b0
                          try clear c13
                          try clear c13b0
                          try clear c14
                          try clear c14b0
                          try clear c15
                          try clear c15b0
                          try clear hcz7_0
                          try clear hcz7_1
                          try clear hcz7_2
                          try clear hfz7_0
                          try clear hfz7_1
                          try clear hfz7_2
                          try clear hx109_0
                          try clear hx109_1
                          try clear hx109_2
                          try clear hx109_3
                          try clear hx110_0
                          try clear hx110_1
                          try clear hx110_2
                          try clear hx110_3
                          try clear hx111_0
                          try clear hx111_1
                          try clear hx111_2
                          try clear hx111_3
                          try clear p1
                          try clear p10
                          try clear p109
                          try clear p110
                          try clear p111
                          try clear p2
                          try clear q1
                          try clear q10
                          try clear q109
                          try clear q110
                          try clear q111
                          obtain ⟨x6_3, x9_3, rfl, HA, HK3, HO_6, BK101, HB⟩ := hrel
                          cases gk with
                          | zero => exact absurd HA.out (by simp [spec_YarnLost.l2])
                          | succ k3 =>
                            have H := HA.out
                            clear HA
                            simp only [spec_YarnLost.l2] at H
                            by_cases c16 : 0 ≤ x7_1
                            · rw [if_pos c16] at H
                              have c16b0 : decide (0 ≤ x7_1) = true := decide_eq_true c16
                              clear c16
                              by_cases c17 : x7_1 < (l1.length : Int)
                              · rw [if_pos c17] at H
                                have c17b0 : decide (x7_1 < (l1.length : Int)) = true := decide_eq_true c17
                                clear c17
                                by_cases c18 : x9_3 ≤ ((rd_T39 l1 x7_1).f3)
                                · rw [if_pos c18] at H
                                  have c18b0 : decide (x9_3 ≤ ((rd_T39 l1 x7_1).f3)) = true := decide_eq_true c18
                                  clear c18
                                  replace H := Option.bind_eq_some_iff.mp H
                                  obtain ⟨t113, A190, H⟩ := H
                                  replace H : (if 0 ≤ t113 then (if t113 < (x6_3.length : Int) then (spec_YarnLost.l2 k3 l1 (x6_3.set (t113 : Int).toNat (wrap64 ((rd x6_3 t113) + 1))) x7_1 x8_2 (wrap64 (x9_3 + 1)) a0_0 a0_1 l0_2) else (none)) else (none)) = some (r1, r2) := H
                                  have A19 := Aside0.mk A190
                                  clear A190
                                  by_cases c20 : 0 ≤ t113
                                  · rw [if_pos c20] at H
                                    have c20b0 : decide (0 ≤ t113) = true := decide_eq_true c20
                                    clear c20
                                    by_cases c21 : t113 < (x6_3.length : Int)
                                    · rw [if_pos c21] at H
                                      have c21b0 : decide (t113 < (x6_3.length : Int)) = true := decide_eq_true c21
                                      clear c21
                                      obtain ⟨y115, hy115⟩ : ∃ y_ : List Int, y_ = (x6_3.set (t113 : Int).toNat (wrap64 ((rd x6_3 t113) + 1))) := ⟨_, rfl⟩
                                      replace H : (spec_YarnLost.l2 k3 l1 y115 x7_1 x8_2 (wrap64 (x9_3 + 1)) a0_0 a0_1 l0_2) = some (r1, r2) := by first | (rw [hy115]; with_reducible exact H) | (have H2_ := (Option.bind_some _ _).symm.trans H; rw [hy115]; with_reducible exact H2_) | (have H2_ := (Option.bind_some _ _).symm.trans H; with_reducible exact H2_) | with_reducible exact H | (rw [hy115]; exact H) | exact H
                                      have Ny115 := Aside0.mk hy115
                                      clear hy115
                                      have H' := Aside0.mk H
                                      clear H
                                      have p112 : 0 ≤ (x7_1 : Int) := of_decide_eq_true (by first | (with_reducible assumption) | assumption)
                                      have q112 : x7_1 < (l1.length : Int) := of_decide_eq_true (by first | (with_reducible assumption) | assumption)
                                      obtain ⟨ad112, e112, hx112_0, hx112_1, hx112_2, hx112_3⟩ := at_T39 HR1.out x7_1 p112 q112
                                      obtain rfl : ad109 = ad112 := (by injection e112)
                                      replace hx112_0 := (HB.out.cell (World.block_lt_of_cell? w _ hx112_0)).trans hx112_0
                                      replace hx112_1 := (HB.out.cell (World.block_lt_of_cell? w _ hx112_1)).trans hx112_1
                                      replace hx112_2 := (HB.out.cell (World.block_lt_of_cell? w _ hx112_2)).trans hx112_2
                                      replace hx112_3 := (HB.out.cell (World.block_lt_of_cell? w _ hx112_3)).trans hx112_3
                                      replace p112 := eq_true p112
                                      replace q112 := eq_true q112
                                      have hcz23_0 : wr.cell? ⟨gb101, 0, none⟩ = some (.int .i64 a0_0) := (blk_cell BK101.out 0).trans rfl
                                      have hcz23_1 : wr.cell? ⟨gb101, 1, none⟩ = some (.int .i64 a0_1) := (blk_cell BK101.out 1).trans rfl
                                      have hcz23_2 : wr.cell? ⟨gb101, 2, none⟩ = some (.slice A0_2 l0_2.length c0_2) := (blk_cell BK101.out 2).trans rfl
                                      have hfz23_0 := blk_frozen BK101.out 0
                                      have hfz23_1 := blk_frozen BK101.out 1
                                      have hfz23_2 := blk_frozen BK101.out 2
                                      go_wp2_with (first | ((with_reducible refine gate_callee (f := 66) rfl ?_); refine goesL_ (some 54) rfl rfl Try.func66 (by kernel_rfl) rfl #[.agg #[.int .i64 a0_0, .int .i64 a0_1, .slice A0_2 l0_2.length c0_2], .int .i64 x8_2, .int .i64 x9_3] rfl (by (try simp only [List.map_toArray, List.map_cons, List.map_nil]); first | done | rfl | (simp only [List.length_drop, List.length_take]; rfl)) ?_; (with_reducible refine (spec_l2At.calls a0_0 a0_1 _ _ l0_2 x8_2 x9_3 t113 _ ?side1 ?side2 A19.out).mono ?_); (case side1 => repeat (first | exact (Kd.C_below HR0_2.out HB.out) | (with_reducible refine Kd.C_alloc ?_ _) | (with_reducible refine Kd.C_drewN ?_ _) | (with_reducible refine Kd.C_drew ?_))); (case side2 => exact HC0_2.out); rintro e w24 ⟨rfl, hb⟩; refine ⟨_, rfl, ?_⟩; have n0_ := Aside0.mk (Kd.R_below (by exact Ho.RS <| HO_6.out) hb); have n1_ := Aside0.mk (blk_below (bS BK101.out) hb); have n2_ := Aside0.mk (below_step (by exact eS HB.out) hb); clear HO_6; clear BK101; clear HB; have HO_6 := n0_; have BK101 := n1_; have HB := n2_; clear n0_ n1_ n2_; (try clear hb); (try clear hb2); (try clear hk); (try clear hi); obtain ⟨Ao25, co25, eo25⟩ := Kd.R_slice HO_6.out; subst eo25; have p114 : 0 ≤ (t113 : Int) := of_decide_eq_true (by first | (with_reducible assumption) | assumption); have q114 : t113 < (x6_3.length : Int) := of_decide_eq_true (by first | (with_reducible assumption) | assumption); obtain ⟨ad114, e114, hx114_0⟩ := Kd.at_int (Kd.R_reads' HO_6.out).2.2 t113 p114 q114; cases e114; replace p114 := eq_true p114; replace q114 := eq_true q114; have p22 : 0 ≤ (t113 : Int) := of_decide_eq_true (by first | (with_reducible assumption) | assumption); have q22 : (t113 : Int) < ((x6_3.length : Int) : Int) := of_decide_eq_true (by first | (with_reducible assumption) | assumption); obtain ⟨go22, co22, eo22, gb22, gl22, cl22, HG22⟩ := Kd.R_form HO_6.out (by omega); (first | cases eo22 | (injection eo22 with ea_ en_ ec_; (first | subst ea_ | (injection ea_ with ea_; subst ea_)); subst ec_; clear en_)); have GB22 := Aside0.mk gb22; have GG22 := Aside0.mk HG22; clear gb22 gl22 HG22; (first | simp only [add_plain] at hx114_0 | skip); obtain ⟨hx22_0, hf22_0⟩ := Kd.R_celln 0 HO_6.out (t113 : Int) p22 q22; replace p22 := eq_true p22; replace q22 := eq_true q22; obtain ⟨hy26_, hz26_⟩ := Kd.R_celln 0 HO_6.out (t113 : Int) (of_decide_eq_true (by first | (with_reducible assumption) | assumption)) (of_decide_eq_true (by first | (with_reducible assumption) | assumption)); have HP26 := Kd.R_putg HO_6.out (t113 : Int) (wrap64 ((rd x6_3 t113) + 1))) | ((with_reducible refine gate_store (t := 3) (p := 62) rfl ?_); refine store_event (t := 3) (p := 62) (v := ?vo_w27) (w1 := (w24.setCell ⟨go22, (t113 : Int).toNat, none⟩ (.int .i64 (wrap64 ((rd x6_3 t113) + 1))))) ?hg ?ho ?hn ?hr ?_; (case ho => rfl); (case hg => rfl); (case hn => rfl); (case hr => first | (go_simp; done) | (go_simp; rfl)); intro w27 hw; have hg : w24.grownBy w27 (some go22) := (by rw [hw]; exact HP26.2); have hp_ : Kd.R (Kd.int .i64) 3 w27 w.heap.size (fun _ => True) (.slice (some ⟨go22, 0, none⟩) x6_3.length co25) y115 := (by rw [hw, Ny115.out]; exact HP26.1); clear HP26; have n0_ := Aside0.mk (hp_); have n1_ := Aside0.mk (blk_grown (bS BK101.out) hg (Kd.R_ne HO_6.out BK101.out (by decide))); have n2_ := Aside0.mk ((by rw [hw]; exact below_set (HB.out) GB22.out : Below w.heap.size w w27)); clear HO_6; clear BK101; clear HB; have HO_6 := n0_; have BK101 := n1_; have HB := n2_; clear n0_ n1_ n2_; clear hg hw hp_))
                                      go_roundg k3
                                      case measure => have := HK1.out; have := HK2.out; have := HK3.out; omega
                                      case rel => exact ⟨(y115), (wrap64 (x9_3 + 1)), (by first | rfl | (simp; done) | (simp [*]; done)), H', ⟨by have := HK1.out; have := HK2.out; have := HK3.out; omega⟩, ⟨by exact Ho.RS <| HO_6.out⟩, ⟨by exact bS BK101.out⟩, ⟨by exact eS HB.out⟩⟩
                                    · rw [if_neg c21] at H
                                      exact absurd H (by simp)
                                  · rw [if_neg c20] at H
                                    exact absurd H (by simp)
                                · rw [if_neg c18] at H
                                  have c18b0 : decide (x9_3 ≤ ((rd_T39 l1 x7_1).f3)) = false := decide_eq_false c18
                                  clear c18
                                  have H' := Aside0.mk H
                                  clear H
                                  have p112 : 0 ≤ (x7_1 : Int) := of_decide_eq_true (by first | (with_reducible assumption) | assumption)
                                  have q112 : x7_1 < (l1.length : Int) := of_decide_eq_true (by first | (with_reducible assumption) | assumption)
                                  obtain ⟨ad112, e112, hx112_0, hx112_1, hx112_2, hx112_3⟩ := at_T39 HR1.out x7_1 p112 q112
                                  obtain rfl : ad109 = ad112 := (by injection e112)
                                  replace hx112_0 := (HB.out.cell (World.block_lt_of_cell? w _ hx112_0)).trans hx112_0
                                  replace hx112_1 := (HB.out.cell (World.block_lt_of_cell? w _ hx112_1)).trans hx112_1
                                  replace hx112_2 := (HB.out.cell (World.block_lt_of_cell? w _ hx112_2)).trans hx112_2
                                  replace hx112_3 := (HB.out.cell (World.block_lt_of_cell? w _ hx112_3)).trans hx112_3
                                  replace p112 := eq_true p112
                                  replace q112 := eq_true q112
                                  go_wp2
                                  go_roundg k3
                                  case measure => have := HK1.out; have := HK2.out; have := HK3.out; omega
                                  case rel => exact ⟨(x6_3), (wrap64 (x8_2 + 1)), (by first | rfl | (simp; done) | (simp [*]; done)), H', ⟨by have := HK1.out; have := HK2.out; have := HK3.out; omega⟩, ⟨by exact Ho.RS <| HO_6.out⟩, ⟨by exact bS BK101.out⟩, ⟨by exact eS HB.out⟩⟩
                              · rw [if_neg c17] at H
                                exact absurd H (by simp)
                            · rw [if_neg c16] at H
                              exact absurd H (by simp)
                      · rw [if_neg c15] at H
                        have c15b0 : decide (x8_2 ≤ ((rd_T39 l1 x7_1).f2)) = false := decide_eq_false c15
                        clear c15
                        have H' := Aside0.mk H
                        clear H
                        have p110 : 0 ≤ (x7_1 : Int) := of_decide_eq_true (by first | (with_reducible assumption) | assumption)
                        have q110 : x7_1 < (l1.length : Int) := of_decide_eq_true (by first | (with_reducible assumption) | assumption)
                        obtain ⟨ad110, e110, hx110_0, hx110_1, hx110_2, hx110_3⟩ := at_T39 HR1.out x7_1 p110 q110
                        obtain rfl : ad109 = ad110 := (by injection e110)
                        replace hx110_0 := (HB.out.cell (World.block_lt_of_cell? w _ hx110_0)).trans hx110_0
                        replace hx110_1 := (HB.out.cell (World.block_lt_of_cell? w _ hx110_1)).trans hx110_1
                        replace hx110_2 := (HB.out.cell (World.block_lt_of_cell? w _ hx110_2)).trans hx110_2
                        replace hx110_3 := (HB.out.cell (World.block_lt_of_cell? w _ hx110_3)).trans hx110_3
                        replace p110 := eq_true p110
                        replace q110 := eq_true q110
                        go_wp2
                        go_roundg k2
                        case measure => have := HK1.out; have := HK2.out; omega
                        case rel => exact ⟨(x6_2), (wrap64 (x7_1 + 1)), (by first | rfl | (simp; done) | (simp [*]; done)), H', ⟨by have := HK1.out; have := HK2.out; omega⟩, ⟨by exact Ho.RS <| HO_6.out⟩, ⟨by exact bS BK101.out⟩, ⟨by exact eS HB.out⟩⟩
                    · rw [if_neg c14] at H
                      exact absurd H (by simp)
                  · rw [if_neg c13] at H
                    exact absurd H (by simp)
            · rw [if_neg c12] at H
              exact absurd H (by simp)
          · rw [if_neg c11] at H
            have c11b0 : decide (x7_1 < (l1.length : Int)) = false := decide_eq_false c11
            clear c11
            simp only [Option.some.injEq, Prod.mk.injEq] at H
            obtain ⟨rfl, rfl⟩ := H
            go_wp2
            go_ret2
            exact ⟨_, by first | rfl | (simp [errW_none, errW_some] <;> rfl) | (simp [*, errW_none, errW_some] <;> rfl), by exact Ho.RS <| HO_6.out, by exact eS HB.out⟩
    · rw [if_neg c5] at H
      exact absurd H (by simp)
  · replace c4 := Bool.eq_false_iff.mpr c4
    subst c4
    have H1 : (some ((([] : List Int)), false)) = some (r1, r2) := by rw [if_neg (show ¬ (false = true) by decide)] at H; exact H
    clear H
    have H := H1
    clear H1
    obtain ⟨y103, hy103⟩ : ∃ y_ : List Int, y_ = (([] : List Int)) := ⟨_, rfl⟩
    replace H : (some (y103, false)) = some (r1, r2) := by first | (rw [hy103]; with_reducible exact H) | (have H2_ := (Option.bind_some _ _).symm.trans H; rw [hy103]; with_reducible exact H2_) | (have H2_ := (Option.bind_some _ _).symm.trans H; with_reducible exact H2_) | with_reducible exact H | (rw [hy103]; exact H) | exact H
    have Ny103 := Aside0.mk hy103
    clear hy103
    simp only [Option.some.injEq, Prod.mk.injEq] at H
    obtain ⟨rfl, rfl⟩ := H
    go_enter Try.func27, Try.ntmps27
    go_wp2_with (first | ((with_reducible refine gate_dst (N := 2) rfl ?_); refine box_event ?hg (N := 2) ?hd (cs := #[.int .i64 a0_0, .int .i64 a0_1, .slice A0_2 l0_2.length c0_2]) (t := 29) ?hr ?_; (case hd => rfl); (case hg => rfl); (case hr => first | (go_simp; done) | (go_simp; rfl)); intro gb101 hg w28 hbox hb; have n0_ := Aside0.mk (below_step (by exact eS HB.out) hb); have n1_ := Aside0.mk (hbox); have n2_ := Aside0.mk ((by rw [hg]; exact (below_size (by exact eS HB.out)) : w.heap.size ≤ gb101)); have n3_ := Aside0.mk ((by rw [hg]; exact (below_size (by exact eS HB.out)) : w.heap.size ≤ gb101)); clear HB; have HB := n0_; have BK101 := n1_; have GW101 := n2_; have GE101 := n3_; clear n0_ n1_ n2_ n3_; clear hb hbox hg; have hcz29_0 : w28.cell? ⟨gb101, 0, none⟩ = some (.int .i64 a0_0) := (blk_cell BK101.out 0).trans rfl; have hcz29_1 : w28.cell? ⟨gb101, 1, none⟩ = some (.int .i64 a0_1) := (blk_cell BK101.out 1).trans rfl; have hcz29_2 : w28.cell? ⟨gb101, 2, none⟩ = some (.slice A0_2 l0_2.length c0_2) := (blk_cell BK101.out 2).trans rfl; have hfz29_0 := blk_frozen BK101.out 0; have hfz29_1 := blk_frozen BK101.out 1; have hfz29_2 := blk_frozen BK101.out 2) | ((with_reducible refine gate_callee (f := 48) rfl ?_); refine goesL_ (some 13) rfl rfl Try.func48 (by kernel_rfl) rfl #[.agg #[.int .i64 a0_0, .int .i64 a0_1, .slice A0_2 l0_2.length c0_2], .slice A1 l1.length c1] rfl (by (try simp only [List.map_toArray, List.map_cons, List.map_nil]); first | done | rfl | (simp only [List.length_drop, List.length_take]; rfl)) ?_; (with_reducible refine (spec_l23Good.calls k a0_0 a0_1 _ _ l0_2 _ _ l1 false _ ?side1 ?side2 ?side3 ?side4 A3.out).mono ?_); (case side1 => repeat (first | exact (Kd.C_below HR0_2.out HB.out) | (with_reducible refine Kd.C_alloc ?_ _) | (with_reducible refine Kd.C_drewN ?_ _) | (with_reducible refine Kd.C_drew ?_))); (case side2 => exact HC0_2.out); (case side3 => repeat (first | exact (Kd.C_below HR1.out HB.out) | (with_reducible refine Kd.C_alloc ?_ _) | (with_reducible refine Kd.C_drewN ?_ _) | (with_reducible refine Kd.C_drew ?_))); (case side4 => exact HC1.out); rintro e w30 ⟨rfl, hb⟩; refine ⟨_, rfl, ?_⟩; have n0_ := Aside0.mk (blk_below (bS BK101.out) hb); have n1_ := Aside0.mk (below_step (by exact eS HB.out) hb); clear BK101; clear HB; have BK101 := n0_; have HB := n1_; clear n0_ n1_; (try clear hb); (try clear hb2); (try clear hk); (try clear hi)) | ((with_reducible refine gate_dst (N := 15) rfl ?_); refine Kd.R_lit (Kd.int .i64) _ 3 ?hg (N := 15) ?hd (xs := ([] : List Int)) (inner := []) (ok := fun _ => True) (okp := fun _ => True) ?hr ?hp (fun _ hk => hk) trivial (Below.refl _ _) (Nat.le_refl _) (by simp) ?_; (case hd => rfl); (case hg => rfl); (case hr => first | (go_simp; done) | (go_simp; rfl)); (case hp => exact (Reps.none _ _)); intro v104 w31 ho32 hb hg_ hnew_; clear hg_ hnew_; (first | rw [← Ny103.out] at ho32 | (simp only [Int.reduceToNat] at ho32; rw [← Ny103.out] at ho32)); have n0_ := Aside0.mk (Kd.R_lower ho32 (below_size (by exact eS HB.out))); have n1_ := Aside0.mk (blk_below (bS BK101.out) hb); have n2_ := Aside0.mk (below_step (by exact eS HB.out) hb); clear BK101; clear HB; have HO105 := n0_; have BK101 := n1_; have HB := n2_; clear n0_ n1_ n2_; clear hb ho32))
    go_ret2
    exact ⟨_, by first | rfl | (simp [errW_none, errW_some] <;> rfl) | (simp [*, errW_none, errW_some] <;> rfl), by exact Ho.RS <| HO105.out, by exact eS HB.out⟩

end Go.Proofs.Ytbfhphobnngeaaa.X

-- XlawsFnExactYarnLostF8
namespace Go.Proofs.Ytbfhphobnngeaaa.X
open Ho (bS eS)
open Go.RowKit Go.Proofs.YtbfhphobnngeaaaW.PrintWords Go.Proofs.YtbfhphobnngeaaaW.PrintLast Go.Proofs.YtbfhphobnngeaaaW.PrintMore
attribute [local go_sem] max2_int min2_int max_two min_two max_three min_three max_four min_four   -- for this text's walks alone
set_option linter.unusedVariables false
set_option linter.unusedSimpArgs false

open Sq (I O Z)
attribute [local go_sem ↓] Ho.isSome_setCell_   -- a store leaves all places there
/-! ### laws_FnExactYarnLost: function 8 -/
mutual
def laws_FnExactYarnLost.j0 : Nat → List (S67) → List Int → Bool → List (S39) → List Int → Bool → Bool → Int → Int → List Int → Int → Int → List Int → Option (Bool)
  | 0, _, _, _, _, _, _, _, _, _, _, _, _, _ => none
  | k + 1, x1, x6, x7, x9, x10, x11, x53, x102000, x102001, x102002, x122000, x122001, x122002 => if x53 = true then (some false) else ((laws_toChart.f k x102000 x102001 x102002).bind fun bt130 => ((laws_eqChart.f k x122000 x122001 x122002 bt130.1 bt130.2.1 bt130.2.2).bind fun t135 => (if t135 = true then ((laws_toHoleS.f k x1).bind fun t136 => ((laws_eqHoleS.f k x9 t136).bind fun t139 => (if t139 = true then ((laws_markChart.f k x122000 x122001 x122002 1).bind fun bt140 => ((laws_markHoleS.f k x9 bt140.1).bind fun bt142 => (if bt142.1 < 0 then (laws_FnExactYarnLost.j1 k x1 x6 x7 x10 true x102000 x102001 x102002) else ((laws_eqIntS.f k x10 x6).bind fun t144 => (if t144 = true then (laws_FnExactYarnLost.j1 k x1 x6 x7 x10 (x11 != x7) x102000 x102001 x102002) else (laws_FnExactYarnLost.j1 k x1 x6 x7 x10 true x102000 x102001 x102002)))))) else (some false)))) else (some false))))
def laws_FnExactYarnLost.j1 : Nat → List (S67) → List Int → Bool → List Int → Bool → Int → Int → List Int → Option (Bool)
  | 0, _, _, _, _, _, _, _, _ => none
  | k + 1, x1, x6, x7, x10, x82, x102000, x102001, x102002 => if x82 = true then (some false) else ((laws_markIntS.f k x10 1).bind fun bt145 => ((laws_heldIntS.f k bt145.2 1).bind fun t147 => (if t147 < 0 then (some false) else (if t147 = bt145.1 then ((laws_toChart.f k x102000 x102001 x102002).bind fun bt148 => ((laws_toHoleS.f k x1).bind fun t153 => ((impl_YarnLost.f k bt148.1 bt148.2.1 bt148.2.2 t153).bind fun bt156 => ((laws_eqIntS.f k bt156.1 x6).bind fun t160 => (if t160 = true then (laws_FnExactYarnLost.j2 k bt145.2 bt145.1 (bt156.2 != x7)) else (laws_FnExactYarnLost.j2 k bt145.2 bt145.1 true)))))) else (some false)))))
def laws_FnExactYarnLost.j2 : Nat → List Int → Int → Bool → Option (Bool)
  | 0, _, _, _ => none
  | k + 1, x10, x13, x110 => if x110 = true then (some false) else ((laws_heldIntS.f k x10 1).bind fun t161 => (if t161 < 0 then (some false) else (if t161 = x13 then (some true) else (some false))))
end
def laws_FnExactYarnLost.f (k : Nat) (a0_0 : Int) (a0_1 : Int) (l0_2 : List Int) (l1 : List (S67)) : Option (Bool) := (laws_szChart.f a0_0 a0_1 l0_2 1048576).bind fun t102 => (if t102 < 0 then (some true) else ((laws_szHoleS.f l1 t102).bind fun t103 => (if t103 < 0 then (some true) else ((laws_toChart.f k a0_0 a0_1 l0_2).bind fun bt104 => ((laws_toHoleS.f k l1).bind fun t109 => ((spec_YarnLost.f k bt104.1 bt104.2.1 bt104.2.2 t109).bind fun bt112 => ((laws_toChart.f k a0_0 a0_1 l0_2).bind fun bt116 => ((laws_toHoleS.f k l1).bind fun t122 => ((impl_YarnLost.f k bt116.1 bt116.2.1 bt116.2.2 t122).bind fun bt125 => ((laws_eqIntS.f k bt125.1 bt112.1).bind fun t129 => (if t129 = true then (laws_FnExactYarnLost.j0 k l1 bt112.1 bt112.2 t122 bt125.1 bt125.2 (bt125.2 != bt112.2) a0_0 a0_1 l0_2 bt116.1 bt116.2.1 bt116.2.2) else (laws_FnExactYarnLost.j0 k l1 bt112.1 bt112.2 t122 bt125.1 bt125.2 true a0_0 a0_1 l0_2 bt116.1 bt116.2.1 bt116.2.2))))))))))))
theorem laws_FnExactYarnLost.mono_l : ∀ k, (∀ y0 y1 y2 y3 y4 y5 y6 y7 y8 y9 y10 y11 y12, LeO (laws_FnExactYarnLost.j0 k y0 y1 y2 y3 y4 y5 y6 y7 y8 y9 y10 y11 y12) (laws_FnExactYarnLost.j0 (k + 1) y0 y1 y2 y3 y4 y5 y6 y7 y8 y9 y10 y11 y12)) ∧ (∀ y0 y1 y2 y3 y4 y5 y6 y7, LeO (laws_FnExactYarnLost.j1 k y0 y1 y2 y3 y4 y5 y6 y7) (laws_FnExactYarnLost.j1 (k + 1) y0 y1 y2 y3 y4 y5 y6 y7)) ∧ (∀ y0 y1 y2, LeO (laws_FnExactYarnLost.j2 k y0 y1 y2) (laws_FnExactYarnLost.j2 (k + 1) y0 y1 y2))
  | 0 => ⟨fun _ _ _ _ _ _ _ _ _ _ _ _ _ r h => by simp [laws_FnExactYarnLost.j0] at h, fun _ _ _ _ _ _ _ _ r h => by simp [laws_FnExactYarnLost.j1] at h, fun _ _ _ r h => by simp [laws_FnExactYarnLost.j2] at h⟩
  | k + 1 => by
    obtain ⟨ih0, ih1, ih2⟩ := laws_FnExactYarnLost.mono_l k
    refine ⟨?_, ?_, ?_⟩
    · intro y0 y1 y2 y3 y4 y5 y6 y7 y8 y9 y10 y11 y12
      unfold laws_FnExactYarnLost.j0
      repeat' first
      | (with_reducible exact ih0 _ _ _ _ _ _ _ _ _ _ _ _ _)
      | (with_reducible exact ih1 _ _ _ _ _ _ _ _)
      | (with_reducible exact ih2 _ _ _)
      | (with_reducible exact impl_YarnLost.mono _ _ _ _ _)
      | (with_reducible exact laws_eqChart.mono _ _ _ _ _ _ _)
      | (with_reducible exact laws_eqHoleS.mono _ _ _)
      | (with_reducible exact laws_eqIntS.mono _ _ _)
      | (with_reducible exact laws_heldIntS.mono _ _ _)
      | (with_reducible exact laws_markChart.mono _ _ _ _ _)
      | (with_reducible exact laws_markHoleS.mono _ _ _)
      | (with_reducible exact laws_markIntS.mono _ _ _)
      | (with_reducible exact laws_toChart.mono _ _ _ _)
      | (with_reducible exact laws_toHoleS.mono _ _)
      | (with_reducible exact spec_YarnLost.mono _ _ _ _ _)
      | (with_reducible exact LeO.refl _)
      | (with_reducible exact LeO.none _)
      | (with_reducible refine LeO.ite ?_ ?_)
      | (with_reducible refine LeO.bind ?_ (fun _ => ?_))
      | exact ih0 _ _ _ _ _ _ _ _ _ _ _ _ _
      | exact ih1 _ _ _ _ _ _ _ _
      | exact ih2 _ _ _
      | exact impl_YarnLost.mono _ _ _ _ _
      | exact laws_eqChart.mono _ _ _ _ _ _ _
      | exact laws_eqHoleS.mono _ _ _
      | exact laws_eqIntS.mono _ _ _
      | exact laws_heldIntS.mono _ _ _
      | exact laws_markChart.mono _ _ _ _ _
      | exact laws_markHoleS.mono _ _ _
      | exact laws_markIntS.mono _ _ _
      | exact laws_toChart.mono _ _ _ _
      | exact laws_toHoleS.mono _ _
      | exact spec_YarnLost.mono _ _ _ _ _
      | exact LeO.none _
      | refine LeO.ite ?_ ?_
      | refine LeO.bind ?_ (fun _ => ?_)
    · intro y0 y1 y2 y3 y4 y5 y6 y7
      unfold laws_FnExactYarnLost.j1
      repeat' first
      | (with_reducible exact ih0 _ _ _ _ _ _ _ _ _ _ _ _ _)
      | (with_reducible exact ih1 _ _ _ _ _ _ _ _)
      | (with_reducible exact ih2 _ _ _)
      | (with_reducible exact impl_YarnLost.mono _ _ _ _ _)
      | (with_reducible exact laws_eqChart.mono _ _ _ _ _ _ _)
      | (with_reducible exact laws_eqHoleS.mono _ _ _)
      | (with_reducible exact laws_eqIntS.mono _ _ _)
      | (with_reducible exact laws_heldIntS.mono _ _ _)
      | (with_reducible exact laws_markChart.mono _ _ _ _ _)
      | (with_reducible exact laws_markHoleS.mono _ _ _)
      | (with_reducible exact laws_markIntS.mono _ _ _)
      | (with_reducible exact laws_toChart.mono _ _ _ _)
      | (with_reducible exact laws_toHoleS.mono _ _)
      | (with_reducible exact spec_YarnLost.mono _ _ _ _ _)
      | (with_reducible exact LeO.refl _)
      | (with_reducible exact LeO.none _)
      | (with_reducible refine LeO.ite ?_ ?_)
      | (with_reducible refine LeO.bind ?_ (fun _ => ?_))
      | exact ih0 _ _ _ _ _ _ _ _ _ _ _ _ _
      | exact ih1 _ _ _ _ _ _ _ _
      | exact ih2 _ _ _
      | exact impl_YarnLost.mono _ _ _ _ _
      | exact laws_eqChart.mono _ _ _ _ _ _ _
      | exact laws_eqHoleS.mono _ _ _
      | exact laws_eqIntS.mono _ _ _
      | exact laws_heldIntS.mono _ _ _
      | exact laws_markChart.mono _ _ _ _ _
      | exact laws_markHoleS.mono _ _ _
      | exact laws_markIntS.mono _ _ _
      | exact laws_toChart.mono _ _ _ _
      | exact laws_toHoleS.mono _ _
      | exact spec_YarnLost.mono _ _ _ _ _
      | exact LeO.none _
      | refine LeO.ite ?_ ?_
      | refine LeO.bind ?_ (fun _ => ?_)
    · intro y0 y1 y2
      unfold laws_FnExactYarnLost.j2
      repeat' first
      | (with_reducible exact ih0 _ _ _ _ _ _ _ _ _ _ _ _ _)
      | (with_reducible exact ih1 _ _ _ _ _ _ _ _)
      | (with_reducible exact ih2 _ _ _)
      | (with_reducible exact impl_YarnLost.mono _ _ _ _ _)
      | (with_reducible exact laws_eqChart.mono _ _ _ _ _ _ _)
      | (with_reducible exact laws_eqHoleS.mono _ _ _)
      | (with_reducible exact laws_eqIntS.mono _ _ _)
      | (with_reducible exact laws_heldIntS.mono _ _ _)
      | (with_reducible exact laws_markChart.mono _ _ _ _ _)
      | (with_reducible exact laws_markHoleS.mono _ _ _)
      | (with_reducible exact laws_markIntS.mono _ _ _)
      | (with_reducible exact laws_toChart.mono _ _ _ _)
      | (with_reducible exact laws_toHoleS.mono _ _)
      | (with_reducible exact spec_YarnLost.mono _ _ _ _ _)
      | (with_reducible exact LeO.refl _)
      | (with_reducible exact LeO.none _)
      | (with_reducible refine LeO.ite ?_ ?_)
      | (with_reducible refine LeO.bind ?_ (fun _ => ?_))
      | exact ih0 _ _ _ _ _ _ _ _ _ _ _ _ _
      | exact ih1 _ _ _ _ _ _ _ _
      | exact ih2 _ _ _
      | exact impl_YarnLost.mono _ _ _ _ _
      | exact laws_eqChart.mono _ _ _ _ _ _ _
      | exact laws_eqHoleS.mono _ _ _
      | exact laws_eqIntS.mono _ _ _
      | exact laws_heldIntS.mono _ _ _
      | exact laws_markChart.mono _ _ _ _ _
      | exact laws_markHoleS.mono _ _ _
      | exact laws_markIntS.mono _ _ _
      | exact laws_toChart.mono _ _ _ _
      | exact laws_toHoleS.mono _ _
      | exact spec_YarnLost.mono _ _ _ _ _
      | exact LeO.none _
      | refine LeO.ite ?_ ?_
      | refine LeO.bind ?_ (fun _ => ?_)
theorem laws_FnExactYarnLost.mono : ∀ a0 a1 a2 a3 k, LeO (laws_FnExactYarnLost.f k a0 a1 a2 a3) (laws_FnExactYarnLost.f (k + 1) a0 a1 a2 a3) := by
  intro a0 a1 a2 a3 k
  obtain ⟨ih0, ih1, ih2⟩ := laws_FnExactYarnLost.mono_l k
  unfold laws_FnExactYarnLost.f
  repeat' first
      | (with_reducible exact ih0 _ _ _ _ _ _ _ _ _ _ _ _ _)
      | (with_reducible exact ih1 _ _ _ _ _ _ _ _)
      | (with_reducible exact ih2 _ _ _)
      | (with_reducible exact impl_YarnLost.mono _ _ _ _ _)
      | (with_reducible exact laws_eqChart.mono _ _ _ _ _ _ _)
      | (with_reducible exact laws_eqHoleS.mono _ _ _)
      | (with_reducible exact laws_eqIntS.mono _ _ _)
      | (with_reducible exact laws_heldIntS.mono _ _ _)
      | (with_reducible exact laws_markChart.mono _ _ _ _ _)
      | (with_reducible exact laws_markHoleS.mono _ _ _)
      | (with_reducible exact laws_markIntS.mono _ _ _)
      | (with_reducible exact laws_toChart.mono _ _ _ _)
      | (with_reducible exact laws_toHoleS.mono _ _)
      | (with_reducible exact spec_YarnLost.mono _ _ _ _ _)
      | (with_reducible exact LeO.refl _)
      | (with_reducible exact LeO.none _)
      | (with_reducible refine LeO.ite ?_ ?_)
      | (with_reducible refine LeO.bind ?_ (fun _ => ?_))
      | exact ih0 _ _ _ _ _ _ _ _ _ _ _ _ _
      | exact ih1 _ _ _ _ _ _ _ _
      | exact ih2 _ _ _
      | exact impl_YarnLost.mono _ _ _ _ _
      | exact laws_eqChart.mono _ _ _ _ _ _ _
      | exact laws_eqHoleS.mono _ _ _
      | exact laws_eqIntS.mono _ _ _
      | exact laws_heldIntS.mono _ _ _
      | exact laws_markChart.mono _ _ _ _ _
      | exact laws_markHoleS.mono _ _ _
      | exact laws_markIntS.mono _ _ _
      | exact laws_toChart.mono _ _ _ _
      | exact laws_toHoleS.mono _ _
      | exact spec_YarnLost.mono _ _ _ _ _
      | exact LeO.none _
      | refine LeO.ite ?_ ?_
      | refine LeO.bind ?_ (fun _ => ?_)
set_option maxHeartbeats 8000000 in
set_option maxRecDepth 100000 in
theorem laws_FnExactYarnLost.calls (k : Nat) (a0_0 : Int) (a0_1 : Int) (A0_2 : Option Addr) (c0_2 : Nat) (l0_2 : List Int) (A1 : Option Addr) (c1 : Nat) (l1 : List (S67)) (r : Bool) (w : World) (hr0_2 : Kd.C (Kd.int .i64) w A0_2 l0_2.length l0_2) (hc0_2 : l0_2.length ≤ c0_2) (hr1 : Kd.C k67 w A1 l1.length l1) (hc1 : l1.length ≤ c1) (ht : r = true) (h : laws_FnExactYarnLost.f k a0_0 a0_1 l0_2 l1 = some r) :
  Calls Try.prog 8 #[.agg #[.int .i64 a0_0, .int .i64 a0_1, .slice A0_2 l0_2.length c0_2], .slice A1 l1.length c1] w fun e w' => e = .returned (.bool r) ∧ Below w.heap.size w w' := by
 have hu24 := Try.underlying24
 have hu29 := Try.underlying29
 have HR0_2 := Aside0.mk hr0_2
 have HC0_2 := Aside0.mk hc0_2
 clear hr0_2 hc0_2
 have HR1 := Aside0.mk hr1
 have HC1 := Aside0.mk hc1
 clear hr1 hc1
 have HB := Aside0.mk (Below.refl w.heap.size w)
 have HT := Aside0.mk ht
 clear ht
 have H : ((laws_szChart.f a0_0 a0_1 l0_2 1048576).bind fun t102 => (if t102 < 0 then (some true) else ((laws_szHoleS.f l1 t102).bind fun t103 => (if t103 < 0 then (some true) else ((laws_toChart.f k a0_0 a0_1 l0_2).bind fun bt104 => ((laws_toHoleS.f k l1).bind fun t109 => ((spec_YarnLost.f k bt104.1 bt104.2.1 bt104.2.2 t109).bind fun bt112 => ((laws_toChart.f k a0_0 a0_1 l0_2).bind fun bt116 => ((laws_toHoleS.f k l1).bind fun t122 => ((impl_YarnLost.f k bt116.1 bt116.2.1 bt116.2.2 t122).bind fun bt125 => ((laws_eqIntS.f k bt125.1 bt112.1).bind fun t129 => (if t129 = true then (laws_FnExactYarnLost.j0 k l1 bt112.1 bt112.2 t122 bt125.1 bt125.2 (bt125.2 != bt112.2) a0_0 a0_1 l0_2 bt116.1 bt116.2.1 bt116.2.2) else (laws_FnExactYarnLost.j0 k l1 bt112.1 bt112.2 t122 bt125.1 bt125.2 true a0_0 a0_1 l0_2 bt116.1 bt116.2.1 bt116.2.2))))))))))))) = some r := h
 clear h
 replace H := Option.bind_eq_some_iff.mp H
 obtain ⟨t102, A30, H⟩ := H
 replace H : (if t102 < 0 then (some true) else ((laws_szHoleS.f l1 t102).bind fun t103 => (if t103 < 0 then (some true) else ((laws_toChart.f k a0_0 a0_1 l0_2).bind fun bt104 => ((laws_toHoleS.f k l1).bind fun t109 => ((spec_YarnLost.f k bt104.1 bt104.2.1 bt104.2.2 t109).bind fun bt112 => ((laws_toChart.f k a0_0 a0_1 l0_2).bind fun bt116 => ((laws_toHoleS.f k l1).bind fun t122 => ((impl_YarnLost.f k bt116.1 bt116.2.1 bt116.2.2 t122).bind fun bt125 => ((laws_eqIntS.f k bt125.1 bt112.1).bind fun t129 => (if t129 = true then (laws_FnExactYarnLost.j0 k l1 bt112.1 bt112.2 t122 bt125.1 bt125.2 (bt125.2 != bt112.2) a0_0 a0_1 l0_2 bt116.1 bt116.2.1 bt116.2.2) else (laws_FnExactYarnLost.j0 k l1 bt112.1 bt112.2 t122 bt125.1 bt125.2 true a0_0 a0_1 l0_2 bt116.1 bt116.2.1 bt116.2.2)))))))))))) = some r := H
 have A3 := Aside0.mk A30
 clear A30
 by_cases c4 : t102 < 0
 ·rw [if_pos c4] at H
  have c4b0 : decide (t102 < 0) = true := decide_eq_true c4
  clear c4
  as_aux_lemma =>
   obtain rfl := Option.some.inj H
   go_enter Try.func8, Try.ntmps8
   go_wp2_with (first | ((with_reducible refine gate_dst (N := 2) rfl ?_); refine box_event ?hg (N := 2) ?hd (cs := #[.int .i64 a0_0, .int .i64 a0_1, .slice A0_2 l0_2.length c0_2]) (t := 24) ?hr ?_; (case hd => rfl); (case hg => rfl); (case hr => first | (go_simp; done) | (go_simp; rfl)); intro gb101 hg w5 hbox hb; have n0_ := Aside0.mk (below_step (by exact eS HB.out) hb); have n1_ := Aside0.mk (hbox); have n2_ := Aside0.mk ((by rw [hg]; exact (below_size (by exact eS HB.out)) : w.heap.size ≤ gb101)); have n3_ := Aside0.mk ((by rw [hg]; exact (below_size (by exact eS HB.out)) : w.heap.size ≤ gb101)); clear HB; have HB := n0_; have BK101 := n1_; have GW101 := n2_; have GE101 := n3_; clear n0_ n1_ n2_ n3_; clear hb hbox hg; have hcz6_0 : w5.cell? ⟨gb101, 0, none⟩ = some (.int .i64 a0_0) := (blk_cell BK101.out 0).trans rfl; have hcz6_1 : w5.cell? ⟨gb101, 1, none⟩ = some (.int .i64 a0_1) := (blk_cell BK101.out 1).trans rfl; have hcz6_2 : w5.cell? ⟨gb101, 2, none⟩ = some (.slice A0_2 l0_2.length c0_2) := (blk_cell BK101.out 2).trans rfl; have hfz6_0 := blk_frozen BK101.out 0; have hfz6_1 := blk_frozen BK101.out 1; have hfz6_2 := blk_frozen BK101.out 2) | ((with_reducible refine gate_callee (f := 10) rfl ?_); refine goesL_ (some 19) rfl rfl Try.func10 (by kernel_rfl) rfl #[.agg #[.int .i64 a0_0, .int .i64 a0_1, .slice A0_2 l0_2.length c0_2], .int .i64 1048576] rfl (by (try simp only [List.map_toArray, List.map_cons, List.map_nil]); first | done | rfl | (simp only [List.length_drop, List.length_take]; rfl)) ?_; (with_reducible refine (laws_szChart.calls a0_0 a0_1 _ _ l0_2 1048576 t102 _ ?side1 ?side2 A3.out).mono ?_); (case side1 => repeat (first | exact (Kd.C_below HR0_2.out HB.out) | (with_reducible refine Kd.C_alloc ?_ _) | (with_reducible refine Kd.C_drewN ?_ _) | (with_reducible refine Kd.C_drew ?_))); (case side2 => exact HC0_2.out); rintro e w7 ⟨rfl, hb⟩; refine ⟨_, rfl, ?_⟩; have n0_ := Aside0.mk (blk_below (bS BK101.out) hb); have n1_ := Aside0.mk (below_step (by exact eS HB.out) hb); clear BK101; clear HB; have BK101 := n0_; have HB := n1_; clear n0_ n1_; (try clear hb); (try clear hb2); (try clear hk); (try clear hi)))
   go_ret
   exact ⟨by first | rfl | (simp [errW_none, errW_some] <;> rfl) | (simp [*, errW_none, errW_some] <;> rfl), by exact eS HB.out⟩
 ·rw [if_neg c4] at H
  have c4b0 : decide (t102 < 0) = false := decide_eq_false c4
  clear c4
  replace H := Option.bind_eq_some_iff.mp H
  obtain ⟨t103, A80, H⟩ := H
  replace H : (if t103 < 0 then (some true) else ((laws_toChart.f k a0_0 a0_1 l0_2).bind fun bt104 => ((laws_toHoleS.f k l1).bind fun t109 => ((spec_YarnLost.f k bt104.1 bt104.2.1 bt104.2.2 t109).bind fun bt112 => ((laws_toChart.f k a0_0 a0_1 l0_2).bind fun bt116 => ((laws_toHoleS.f k l1).bind fun t122 => ((impl_YarnLost.f k bt116.1 bt116.2.1 bt116.2.2 t122).bind fun bt125 => ((laws_eqIntS.f k bt125.1 bt112.1).bind fun t129 => (if t129 = true then (laws_FnExactYarnLost.j0 k l1 bt112.1 bt112.2 t122 bt125.1 bt125.2 (bt125.2 != bt112.2) a0_0 a0_1 l0_2 bt116.1 bt116.2.1 bt116.2.2) else (laws_FnExactYarnLost.j0 k l1 bt112.1 bt112.2 t122 bt125.1 bt125.2 true a0_0 a0_1 l0_2 bt116.1 bt116.2.1 bt116.2.2)))))))))) = some r := H
  have A8 := Aside0.mk A80
  clear A80
  by_cases c9 : t103 < 0
  ·rw [if_pos c9] at H
   have c9b0 : decide (t103 < 0) = true := decide_eq_true c9
   clear c9
   as_aux_lemma =>
    obtain rfl := Option.some.inj H
    go_enter Try.func8, Try.ntmps8
    go_wp2_with (first | ((with_reducible refine gate_dst (N := 2) rfl ?_); refine box_event ?hg (N := 2) ?hd (cs := #[.int .i64 a0_0, .int .i64 a0_1, .slice A0_2 l0_2.length c0_2]) (t := 24) ?hr ?_; (case hd => rfl); (case hg => rfl); (case hr => first | (go_simp; done) | (go_simp; rfl)); intro gb101 hg w10 hbox hb; have n0_ := Aside0.mk (below_step (by exact eS HB.out) hb); have n1_ := Aside0.mk (hbox); have n2_ := Aside0.mk ((by rw [hg]; exact (below_size (by exact eS HB.out)) : w.heap.size ≤ gb101)); have n3_ := Aside0.mk ((by rw [hg]; exact (below_size (by exact eS HB.out)) : w.heap.size ≤ gb101)); clear HB; have HB := n0_; have BK101 := n1_; have GW101 := n2_; have GE101 := n3_; clear n0_ n1_ n2_ n3_; clear hb hbox hg; have hcz11_0 : w10.cell? ⟨gb101, 0, none⟩ = some (.int .i64 a0_0) := (blk_cell BK101.out 0).trans rfl; have hcz11_1 : w10.cell? ⟨gb101, 1, none⟩ = some (.int .i64 a0_1) := (blk_cell BK101.out 1).trans rfl; have hcz11_2 : w10.cell? ⟨gb101, 2, none⟩ = some (.slice A0_2 l0_2.length c0_2) := (blk_cell BK101.out 2).trans rfl; have hfz11_0 := blk_frozen BK101.out 0; have hfz11_1 := blk_frozen BK101.out 1; have hfz11_2 := blk_frozen BK101.out 2) | ((with_reducible refine gate_callee (f := 10) rfl ?_); refine goesL_ (some 19) rfl rfl Try.func10 (by kernel_rfl) rfl #[.agg #[.int .i64 a0_0, .int .i64 a0_1, .slice A0_2 l0_2.length c0_2], .int .i64 1048576] rfl (by (try simp only [List.map_toArray, List.map_cons, List.map_nil]); first | done | rfl | (simp only [List.length_drop, List.length_take]; rfl)) ?_; (with_reducible refine (laws_szChart.calls a0_0 a0_1 _ _ l0_2 1048576 t102 _ ?side1 ?side2 A3.out).mono ?_); (case side1 => repeat (first | exact (Kd.C_below HR0_2.out HB.out) | (with_reducible refine Kd.C_alloc ?_ _) | (with_reducible refine Kd.C_drewN ?_ _) | (with_reducible refine Kd.C_drew ?_))); (case side2 => exact HC0_2.out); rintro e w12 ⟨rfl, hb⟩; refine ⟨_, rfl, ?_⟩; have n0_ := Aside0.mk (blk_below (bS BK101.out) hb); have n1_ := Aside0.mk (below_step (by exact eS HB.out) hb); clear BK101; clear HB; have BK101 := n0_; have HB := n1_; clear n0_ n1_; (try clear hb); (try clear hb2); (try clear hk); (try clear hi)) | ((with_reducible refine gate_callee (f := 11) rfl ?_); refine goesL_ (some 24) rfl rfl Try.func11 (by kernel_rfl) rfl #[.slice A1 l1.length c1, .int .i64 t102] rfl (by (try simp only [List.map_toArray, List.map_cons, List.map_nil]); first | done | rfl | (simp only [List.length_drop, List.length_take]; rfl)) ?_; (with_reducible refine (laws_szHoleS.calls _ _ l1 t102 t103 _ ?side1 ?side2 A8.out).mono ?_); (case side1 => repeat (first | exact (Kd.C_below HR1.out HB.out) | (with_reducible refine Kd.C_alloc ?_ _) | (with_reducible refine Kd.C_drewN ?_ _) | (with_reducible refine Kd.C_drew ?_))); (case side2 => exact HC1.out); rintro e w' ⟨rfl, ⟨nd, rfl⟩⟩; refine ⟨_, rfl, ?_⟩))
    go_ret
    exact ⟨by first | rfl | (simp [errW_none, errW_some] <;> rfl) | (simp [*, errW_none, errW_some] <;> rfl), by exact eS HB.out⟩
  ·rw [if_neg c9] at H
   have c9b0 : decide (t103 < 0) = false := decide_eq_false c9
   clear c9
   replace H := Option.bind_eq_some_iff.mp H
   obtain ⟨⟨t104, t105, t106⟩, A130, H⟩ := H
   replace H : ((laws_toHoleS.f k l1).bind fun t109 => ((spec_YarnLost.f k t104 t105 t106 t109).bind fun bt112 => ((laws_toChart.f k a0_0 a0_1 l0_2).bind fun bt116 => ((laws_toHoleS.f k l1).bind fun t122 => ((impl_YarnLost.f k bt116.1 bt116.2.1 bt116.2.2 t122).bind fun bt125 => ((laws_eqIntS.f k bt125.1 bt112.1).bind fun t129 => (if t129 = true then (laws_FnExactYarnLost.j0 k l1 bt112.1 bt112.2 t122 bt125.1 bt125.2 (bt125.2 != bt112.2) a0_0 a0_1 l0_2 bt116.1 bt116.2.1 bt116.2.2) else (laws_FnExactYarnLost.j0 k l1 bt112.1 bt112.2 t122 bt125.1 bt125.2 true a0_0 a0_1 l0_2 bt116.1 bt116.2.1 bt116.2.2)))))))) = some r := H
   have A13 := Aside0.mk A130
   clear A130
   replace H := Option.bind_eq_some_iff.mp H
   obtain ⟨t109, A140, H⟩ := H
   replace H : ((spec_YarnLost.f k t104 t105 t106 t109).bind fun bt112 => ((laws_toChart.f k a0_0 a0_1 l0_2).bind fun bt116 => ((laws_toHoleS.f k l1).bind fun t122 => ((impl_YarnLost.f k bt116.1 bt116.2.1 bt116.2.2 t122).bind fun bt125 => ((laws_eqIntS.f k bt125.1 bt112.1).bind fun t129 => (if t129 = true then (laws_FnExactYarnLost.j0 k l1 bt112.1 bt112.2 t122 bt125.1 bt125.2 (bt125.2 != bt112.2) a0_0 a0_1 l0_2 bt116.1 bt116.2.1 bt116.2.2) else (laws_FnExactYarnLost.j0 k l1 bt112.1 bt112.2 t122 bt125.1 bt125.2 true a0_0 a0_1 l0_2 bt116.1 bt116.2.1 bt116.2.2))))))) = some r := H
   have A14 := Aside0.mk A140
   clear A140
   replace H := Option.bind_eq_some_iff.mp H
   obtain ⟨⟨t112, t115⟩, A150, H⟩ := H
   replace H : ((laws_toChart.f k a0_0 a0_1 l0_2).bind fun bt116 => ((laws_toHoleS.f k l1).bind fun t122 => ((impl_YarnLost.f k bt116.1 bt116.2.1 bt116.2.2 t122).bind fun bt125 => ((laws_eqIntS.f k bt125.1 t112).bind fun t129 => (if t129 = true then (laws_FnExactYarnLost.j0 k l1 t112 t115 t122 bt125.1 bt125.2 (bt125.2 != t115) a0_0 a0_1 l0_2 bt116.1 bt116.2.1 bt116.2.2) else (laws_FnExactYarnLost.j0 k l1 t112 t115 t122 bt125.1 bt125.2 true a0_0 a0_1 l0_2 bt116.1 bt116.2.1 bt116.2.2)))))) = some r := H
   have A15 := Aside0.mk A150
   clear A150
   replace H := Option.bind_eq_some_iff.mp H
   obtain ⟨⟨t116, t117, t118⟩, A160, H⟩ := H
   replace H : ((laws_toHoleS.f k l1).bind fun t122 => ((impl_YarnLost.f k t116 t117 t118 t122).bind fun bt125 => ((laws_eqIntS.f k bt125.1 t112).bind fun t129 => (if t129 = true then (laws_FnExactYarnLost.j0 k l1 t112 t115 t122 bt125.1 bt125.2 (bt125.2 != t115) a0_0 a0_1 l0_2 t116 t117 t118) else (laws_FnExactYarnLost.j0 k l1 t112 t115 t122 bt125.1 bt125.2 true a0_0 a0_1 l0_2 t116 t117 t118))))) = some r := H
   have A16 := Aside0.mk A160
   clear A160
   replace H := Option.bind_eq_some_iff.mp H
   obtain ⟨t122, A170, H⟩ := H
   replace H : ((impl_YarnLost.f k t116 t117 t118 t122).bind fun bt125 => ((laws_eqIntS.f k bt125.1 t112).bind fun t129 => (if t129 = true then (laws_FnExactYarnLost.j0 k l1 t112 t115 t122 bt125.1 bt125.2 (bt125.2 != t115) a0_0 a0_1 l0_2 t116 t117 t118) else (laws_FnExactYarnLost.j0 k l1 t112 t115 t122 bt125.1 bt125.2 true a0_0 a0_1 l0_2 t116 t117 t118)))) = some r := H
   have A17 := Aside0.mk A170
   clear A170
   replace H := Option.bind_eq_some_iff.mp H
   obtain ⟨⟨t125, t128⟩, A180, H⟩ := H
   replace H : ((laws_eqIntS.f k t125 t112).bind fun t129 => (if t129 = true then (laws_FnExactYarnLost.j0 k l1 t112 t115 t122 t125 t128 (t128 != t115) a0_0 a0_1 l0_2 t116 t117 t118) else (laws_FnExactYarnLost.j0 k l1 t112 t115 t122 t125 t128 true a0_0 a0_1 l0_2 t116 t117 t118))) = some r := H
   have A18 := Aside0.mk A180
   clear A180
   have HC19 := Aside0.mk H
   clear H
   go_enter Try.func8, Try.ntmps8
   go_upto_region 12 with (first | ((with_reducible refine gate_dst (N := 2) rfl ?_); refine box_event ?hg (N := 2) ?hd (cs := #[.int .i64 a0_0, .int .i64 a0_1, .slice A0_2 l0_2.length c0_2]) (t := 24) ?hr ?_; (case hd => rfl); (case hg => rfl); (case hr => first | (go_simp; done) | (go_simp; rfl)); intro gb101 hg w20 hbox hb; have n0_ := Aside0.mk (below_step (by exact eS HB.out) hb); have n1_ := Aside0.mk (hbox); have n2_ := Aside0.mk ((by rw [hg]; exact (below_size (by exact eS HB.out)) : w.heap.size ≤ gb101)); have n3_ := Aside0.mk ((by rw [hg]; exact (below_size (by exact eS HB.out)) : w.heap.size ≤ gb101)); clear HB; have HB := n0_; have BK101 := n1_; have GW101 := n2_; have GE101 := n3_; clear n0_ n1_ n2_ n3_; clear hb hbox hg; have hcz21_0 : w20.cell? ⟨gb101, 0, none⟩ = some (.int .i64 a0_0) := (blk_cell BK101.out 0).trans rfl; have hcz21_1 : w20.cell? ⟨gb101, 1, none⟩ = some (.int .i64 a0_1) := (blk_cell BK101.out 1).trans rfl; have hcz21_2 : w20.cell? ⟨gb101, 2, none⟩ = some (.slice A0_2 l0_2.length c0_2) := (blk_cell BK101.out 2).trans rfl; have hfz21_0 := blk_frozen BK101.out 0; have hfz21_1 := blk_frozen BK101.out 1; have hfz21_2 := blk_frozen BK101.out 2) | ((with_reducible refine gate_callee (f := 10) rfl ?_); refine goesL_ (some 19) rfl rfl Try.func10 (by kernel_rfl) rfl #[.agg #[.int .i64 a0_0, .int .i64 a0_1, .slice A0_2 l0_2.length c0_2], .int .i64 1048576] rfl (by (try simp only [List.map_toArray, List.map_cons, List.map_nil]); first | done | rfl | (simp only [List.length_drop, List.length_take]; rfl)) ?_; (with_reducible refine (laws_szChart.calls a0_0 a0_1 _ _ l0_2 1048576 t102 _ ?side1 ?side2 A3.out).mono ?_); (case side1 => repeat (first | exact (Kd.C_below HR0_2.out HB.out) | (with_reducible refine Kd.C_alloc ?_ _) | (with_reducible refine Kd.C_drewN ?_ _) | (with_reducible refine Kd.C_drew ?_))); (case side2 => exact HC0_2.out); rintro e w22 ⟨rfl, hb⟩; refine ⟨_, rfl, ?_⟩; have n0_ := Aside0.mk (blk_below (bS BK101.out) hb); have n1_ := Aside0.mk (below_step (by exact eS HB.out) hb); clear BK101; clear HB; have BK101 := n0_; have HB := n1_; clear n0_ n1_; (try clear hb); (try clear hb2); (try clear hk); (try clear hi)) | ((with_reducible refine gate_callee (f := 11) rfl ?_); refine goesL_ (some 24) rfl rfl Try.func11 (by kernel_rfl) rfl #[.slice A1 l1.length c1, .int .i64 t102] rfl (by (try simp only [List.map_toArray, List.map_cons, List.map_nil]); first | done | rfl | (simp only [List.length_drop, List.length_take]; rfl)) ?_; (with_reducible refine (laws_szHoleS.calls _ _ l1 t102 t103 _ ?side1 ?side2 A8.out).mono ?_); (case side1 => repeat (first | exact (Kd.C_below HR1.out HB.out) | (with_reducible refine Kd.C_alloc ?_ _) | (with_reducible refine Kd.C_drewN ?_ _) | (with_reducible refine Kd.C_drew ?_))); (case side2 => exact HC1.out); rintro e w' ⟨rfl, ⟨nd, rfl⟩⟩; refine ⟨_, rfl, ?_⟩; (try (rw [drewN_self w22]; generalize hq_ : World.drewN w22 _ = w22; have n0_ : Aside0 (w22.heap[gb101]? = some (.cells #[.int .i64 a0_0, .int .i64 a0_1, .slice A0_2 l0_2.length c0_2] 24 (0, 0))) := ⟨by rw [← hq_]; exact (by exact bS BK101.out)⟩; have n1_ : Aside0 (Below w.heap.size w w22) := ⟨by rw [← hq_]; exact (by exact eS HB.out)⟩; clear BK101 HB hq_; have BK101 := n0_; have HB := n1_; clear n0_ n1_)); have hcz23_0 : w22.cell? ⟨gb101, 0, none⟩ = some (.int .i64 a0_0) := (blk_cell BK101.out 0).trans rfl; have hcz23_1 : w22.cell? ⟨gb101, 1, none⟩ = some (.int .i64 a0_1) := (blk_cell BK101.out 1).trans rfl; have hcz23_2 : w22.cell? ⟨gb101, 2, none⟩ = some (.slice A0_2 l0_2.length c0_2) := (blk_cell BK101.out 2).trans rfl; have hfz23_0 := blk_frozen BK101.out 0; have hfz23_1 := blk_frozen BK101.out 1; have hfz23_2 := blk_frozen BK101.out 2) | ((with_reducible refine gate_callee (f := 13) rfl ?_); refine goesL_ (some 29) rfl rfl Try.func13 (by kernel_rfl) rfl #[.agg #[.int .i64 a0_0, .int .i64 a0_1, .slice A0_2 l0_2.length c0_2]] rfl (by (try simp only [List.map_toArray, List.map_cons, List.map_nil]); first | done | rfl | (simp only [List.length_drop, List.length_take]; rfl)) ?_; (with_reducible refine (laws_toChart.calls k a0_0 a0_1 _ _ l0_2 t104 t105 t106 _ ?side1 ?side2 A13.out).mono ?_); (case side1 => repeat (first | exact (Kd.C_below HR0_2.out HB.out) | (with_reducible refine Kd.C_alloc ?_ _) | (with_reducible refine Kd.C_drewN ?_ _) | (with_reducible refine Kd.C_drew ?_))); (case side2 => exact HC0_2.out); rintro e w24 ⟨v107, rfl, ho0, hb⟩; refine ⟨_, rfl, ?_⟩; have n0_ := Aside0.mk (Kd.R_lower ho0 (below_size (by exact eS HB.out))); have n1_ := Aside0.mk (blk_below (bS BK101.out) hb); have n2_ := Aside0.mk (below_step (by exact eS HB.out) hb); clear BK101; clear HB; have HO108 := n0_; have BK101 := n1_; have HB := n2_; clear n0_ n1_ n2_; (try clear hb); (try clear hb2); (try clear hk); (try clear hi); (try clear ho0)) | ((with_reducible refine gate_callee (f := 14) rfl ?_); refine goesL_ (some 31) rfl rfl Try.func14 (by kernel_rfl) rfl #[.slice A1 l1.length c1] rfl (by (try simp only [List.map_toArray, List.map_cons, List.map_nil]); first | done | rfl | (simp only [List.length_drop, List.length_take]; rfl)) ?_; (with_reducible refine (laws_toHoleS.calls k _ _ l1 t109 _ ?side1 ?side2 A14.out).mono ?_); (case side1 => repeat (first | exact (Kd.C_below HR1.out HB.out) | (with_reducible refine Kd.C_alloc ?_ _) | (with_reducible refine Kd.C_drewN ?_ _) | (with_reducible refine Kd.C_drew ?_))); (case side2 => exact HC1.out); rintro e w25 ⟨v110, rfl, ho0, hb⟩; refine ⟨_, rfl, ?_⟩; have n0_ := Aside0.mk (Kd.R_below (by exact Ho.RS <| HO108.out) hb); have n1_ := Aside0.mk (Kd.R_lower ho0 (below_size (by exact eS HB.out))); have n2_ := Aside0.mk (blk_below (bS BK101.out) hb); have n3_ := Aside0.mk (below_step (by exact eS HB.out) hb); clear HO108; clear BK101; clear HB; have HO108 := n0_; have HO111 := n1_; have BK101 := n2_; have HB := n3_; clear n0_ n1_ n2_ n3_; (try clear hb); (try clear hb2); (try clear hk); (try clear hi); (try clear ho0); obtain ⟨Ao26, co26, eo26⟩ := Kd.R_slice HO108.out; subst eo26; obtain ⟨Ao27, co27, eo27⟩ := Kd.R_slice HO111.out; subst eo27) | ((with_reducible refine gate_callee (f := 27) rfl ?_); refine goesL_ (some 32) rfl rfl Try.func27 (by kernel_rfl) rfl #[.agg #[.int .i64 t104, .int .i64 t105, .slice Ao26 t106.length co26], .slice Ao27 t109.length co27] rfl (by (try simp only [List.map_toArray, List.map_cons, List.map_nil]); first | done | rfl | (simp only [List.length_drop, List.length_take]; rfl)) ?_; (with_reducible refine (spec_YarnLost.calls k t104 t105 _ _ t106 _ _ t109 t112 t115 _ ?side1 ?side2 ?side3 ?side4 A15.out).mono ?_); (case side1 => repeat (first | exact (Kd.R_reads' HO108.out).2.2 | (with_reducible refine Kd.C_alloc ?_ _) | (with_reducible refine Kd.C_drewN ?_ _) | (with_reducible refine Kd.C_drew ?_))); (case side2 => exact (Kd.R_reads' HO108.out).2.1); (case side3 => repeat (first | exact (Kd.R_reads' HO111.out).2.2 | (with_reducible refine Kd.C_alloc ?_ _) | (with_reducible refine Kd.C_drewN ?_ _) | (with_reducible refine Kd.C_drew ?_))); (case side4 => exact (Kd.R_reads' HO111.out).2.1); rintro e w28 ⟨v113, rfl, ho0, hb⟩; refine ⟨_, rfl, ?_⟩; have n0_ := Aside0.mk (Kd.R_elder' (by exact Ho.RS <| HO108.out) (Kd.R_base ho0) hb); have n1_ := Aside0.mk (Kd.R_below (by exact Ho.RS <| HO111.out) hb); have n2_ := Aside0.mk (Kd.R_lower (Kd.R_new' ho0 (Kd.R_lt (by exact Ho.RS <| HO108.out))) (below_size (by exact eS HB.out))); have n3_ := Aside0.mk (blk_below (bS BK101.out) hb); have n4_ := Aside0.mk (below_step (by exact eS HB.out) hb); clear HO108; clear HO111; clear BK101; clear HB; have HO108 := n0_; have HO111 := n1_; have HO114 := n2_; have BK101 := n3_; have HB := n4_; clear n0_ n1_ n2_ n3_ n4_; (try clear hb); (try clear hb2); (try clear hk); (try clear hi); (try clear ho0); have hcz29_0 : w28.cell? ⟨gb101, 0, none⟩ = some (.int .i64 a0_0) := (blk_cell BK101.out 0).trans rfl; have hcz29_1 : w28.cell? ⟨gb101, 1, none⟩ = some (.int .i64 a0_1) := (blk_cell BK101.out 1).trans rfl; have hcz29_2 : w28.cell? ⟨gb101, 2, none⟩ = some (.slice A0_2 l0_2.length c0_2) := (blk_cell BK101.out 2).trans rfl; have hfz29_0 := blk_frozen BK101.out 0; have hfz29_1 := blk_frozen BK101.out 1; have hfz29_2 := blk_frozen BK101.out 2) | ((with_reducible refine gate_callee (f := 13) rfl ?_); refine goesL_ (some 36) rfl rfl Try.func13 (by kernel_rfl) rfl #[.agg #[.int .i64 a0_0, .int .i64 a0_1, .slice A0_2 l0_2.length c0_2]] rfl (by (try simp only [List.map_toArray, List.map_cons, List.map_nil]); first | done | rfl | (simp only [List.length_drop, List.length_take]; rfl)) ?_; (with_reducible refine (laws_toChart.calls k a0_0 a0_1 _ _ l0_2 t116 t117 t118 _ ?side1 ?side2 A16.out).mono ?_); (case side1 => repeat (first | exact (Kd.C_below HR0_2.out HB.out) | (with_reducible refine Kd.C_alloc ?_ _) | (with_reducible refine Kd.C_drewN ?_ _) | (with_reducible refine Kd.C_drew ?_))); (case side2 => exact HC0_2.out); rintro e w30 ⟨v119, rfl, ho0, hb⟩; refine ⟨_, rfl, ?_⟩; have n0_ := Aside0.mk (Kd.R_elder' (by exact Ho.RS <| HO108.out) (Kd.R_base ho0) hb); have n1_ := Aside0.mk (Kd.R_below (by exact Ho.RS <| HO111.out) hb); have n2_ := Aside0.mk (Kd.R_elder' (by exact Ho.RS <| HO114.out) (Kd.R_base ho0) hb); have n3_ := Aside0.mk (Kd.R_lower (Kd.R_new' (Kd.R_new' ho0 (Kd.R_lt (by exact Ho.RS <| HO108.out))) (Kd.R_lt (by exact Ho.RS <| HO114.out))) (below_size (by exact eS HB.out))); have n4_ := Aside0.mk (blk_below (bS BK101.out) hb); have n5_ := Aside0.mk (below_step (by exact eS HB.out) hb); clear HO108; clear HO111; clear HO114; clear BK101; clear HB; have HO108 := n0_; have HO111 := n1_; have HO114 := n2_; have HO120 := n3_; have BK101 := n4_; have HB := n5_; clear n0_ n1_ n2_ n3_ n4_ n5_; (try clear hb); (try clear hb2); (try clear hk); (try clear hi); (try clear ho0)) | ((with_reducible refine gate_dst (N := 8) rfl ?_); refine box_event ?hg (N := 8) ?hd (cs := #[.int .i64 0, .int .i64 0, .slice none 0 0]) (t := 29) ?hr ?_; (case hd => rfl); (case hg => rfl); (case hr => first | (go_simp; done) | (go_simp; rfl)); intro gb121 hg w31 hbox hb; have n0_ := Aside0.mk (Kd.R_below (by exact Ho.RS <| HO108.out) hb); have n1_ := Aside0.mk (Kd.R_below (by exact Ho.RS <| HO111.out) hb); have n2_ := Aside0.mk (Kd.R_below (by exact Ho.RS <| HO114.out) hb); have n3_ := Aside0.mk (Kd.R_below (by exact Ho.RS <| HO120.out) hb); have n4_ := Aside0.mk (blk_below (bS BK101.out) hb); have n5_ := Aside0.mk (below_step (by exact eS HB.out) hb); have n6_ := Aside0.mk (hbox); have n7_ := Aside0.mk ((by rw [hg]; exact (below_size (by exact eS HB.out)) : w.heap.size ≤ gb121)); have n8_ := Aside0.mk ((by rw [hg]; exact (below_size (by exact eS HB.out)) : w.heap.size ≤ gb121)); have n9_ := Aside0.mk ((by rw [hg]; exact Nat.ne_of_lt (blk_lt (bS BK101.out)) : gb101 ≠ gb121)); have n10_ := Aside0.mk ((by rw [hg]; exact Nat.ne_of_gt (blk_lt (bS BK101.out)) : gb121 ≠ gb101)); clear HO108; clear HO111; clear HO114; clear HO120; clear BK101; clear HB; have HO108 := n0_; have HO111 := n1_; have HO114 := n2_; have HO120 := n3_; have BK101 := n4_; have HB := n5_; have BK121 := n6_; have GW121 := n7_; have GE121 := n8_; have NB101_121 := n9_; have NB121_101 := n10_; clear n0_ n1_ n2_ n3_ n4_ n5_ n6_ n7_ n8_ n9_ n10_; clear hb hbox hg; have hnb32 := NB121_101.out; have hnc32 := NB101_121.out; have hcz33_0 : w31.cell? ⟨gb121, 0, none⟩ = some (.int .i64 0) := (blk_cell BK121.out 0).trans rfl; have hcz33_1 : w31.cell? ⟨gb121, 1, none⟩ = some (.int .i64 0) := (blk_cell BK121.out 1).trans rfl; have hcz33_2 : w31.cell? ⟨gb121, 2, none⟩ = some (.slice none 0 0) := (blk_cell BK121.out 2).trans rfl; have hfz33_0 := blk_frozen BK121.out 0; have hfz33_1 := blk_frozen BK121.out 1; have hfz33_2 := blk_frozen BK121.out 2; obtain ⟨Ao34, co34, eo34⟩ := Kd.R_slice HO120.out; subst eo34) | ((with_reducible refine gate_callee (f := 14) rfl ?_); refine goesL_ (some 38) rfl rfl Try.func14 (by kernel_rfl) rfl #[.slice A1 l1.length c1] rfl (by (try simp only [List.map_toArray, List.map_cons, List.map_nil]); first | done | rfl | (simp only [List.length_drop, List.length_take]; rfl)) ?_; (with_reducible refine (laws_toHoleS.calls k _ _ l1 t122 _ ?side1 ?side2 A17.out).mono ?_); (case side1 => exact Kd.C_below HR1.out (by repeat (first | (with_reducible first | exact HB.out | apply below_alloc | apply pw_below_drewN | apply below_drew1 | refine below_set ?_ GE101.out | refine below_set ?_ GE121.out) | exact HB.out))); (case side2 => exact HC1.out); rintro e w35 ⟨v123, rfl, ho0, hb⟩; refine ⟨_, rfl, ?_⟩; have n0_ := Aside0.mk (Kd.R_below (by exact Ho.RS <| (Kd.R_mono (Kd.R_far (p := ⟨gb121, 2, none⟩) (Kd.R_far (p := ⟨gb121, 1, none⟩) (Kd.R_far (p := ⟨gb121, 0, none⟩) (Kd.R_types HO108.out BK121.out (by decide)) (fun _ hk => hk.2) (.int .i64 t116)) (fun _ hk => hk.2) (.int .i64 t117)) (fun _ hk => hk.2) (.slice Ao34 t118.length co34)) (fun _ h_ => h_.1))) hb); have n1_ := Aside0.mk (Kd.R_elder' (by exact Ho.RS <| (Kd.R_mono (Kd.R_far (p := ⟨gb121, 2, none⟩) (Kd.R_far (p := ⟨gb121, 1, none⟩) (Kd.R_far (p := ⟨gb121, 0, none⟩) (Kd.R_types HO111.out BK121.out (by decide)) (fun _ hk => hk.2) (.int .i64 t116)) (fun _ hk => hk.2) (.int .i64 t117)) (fun _ hk => hk.2) (.slice Ao34 t118.length co34)) (fun _ h_ => h_.1))) (Kd.R_base ho0) hb); have n2_ := Aside0.mk (Kd.R_below (by exact Ho.RS <| (Kd.R_mono (Kd.R_far (p := ⟨gb121, 2, none⟩) (Kd.R_far (p := ⟨gb121, 1, none⟩) (Kd.R_far (p := ⟨gb121, 0, none⟩) (Kd.R_types HO114.out BK121.out (by decide)) (fun _ hk => hk.2) (.int .i64 t116)) (fun _ hk => hk.2) (.int .i64 t117)) (fun _ hk => hk.2) (.slice Ao34 t118.length co34)) (fun _ h_ => h_.1))) hb); have n3_ := Aside0.mk (Kd.R_below (by exact Ho.RS <| (Kd.R_mono (Kd.R_far (p := ⟨gb121, 2, none⟩) (Kd.R_far (p := ⟨gb121, 1, none⟩) (Kd.R_far (p := ⟨gb121, 0, none⟩) (Kd.R_types HO120.out BK121.out (by decide)) (fun _ hk => hk.2) (.int .i64 t116)) (fun _ hk => hk.2) (.int .i64 t117)) (fun _ hk => hk.2) (.slice Ao34 t118.length co34)) (fun _ h_ => h_.1))) hb); have n4_ := Aside0.mk (Kd.R_lower (Kd.R_new' ho0 (Kd.R_lt (by exact Ho.RS <| (Kd.R_mono (Kd.R_far (p := ⟨gb121, 2, none⟩) (Kd.R_far (p := ⟨gb121, 1, none⟩) (Kd.R_far (p := ⟨gb121, 0, none⟩) (Kd.R_types HO111.out BK121.out (by decide)) (fun _ hk => hk.2) (.int .i64 t116)) (fun _ hk => hk.2) (.int .i64 t117)) (fun _ hk => hk.2) (.slice Ao34 t118.length co34)) (fun _ h_ => h_.1))))) (below_size (by repeat (first | (with_reducible first | exact HB.out | apply below_alloc | apply pw_below_drewN | apply below_drew1 | refine below_set ?_ GE101.out | refine below_set ?_ GE121.out) | exact HB.out)))); have n5_ := Aside0.mk (blk_below (g := gb101) (o := .cells #[.int .i64 a0_0, .int .i64 a0_1, .slice A0_2 l0_2.length c0_2] 24 (0, 0)) (by (with_reducible repeat (first | refine blk_drewN ?_ _ | refine blk_drew ?_ | refine blk_alloc ?_ _)); refine blk_far ?_ NB101_121.out _; (with_reducible repeat (first | refine blk_drewN ?_ _ | refine blk_drew ?_ | refine blk_alloc ?_ _)); refine blk_far ?_ NB101_121.out _; (with_reducible repeat (first | refine blk_drewN ?_ _ | refine blk_drew ?_ | refine blk_alloc ?_ _)); refine blk_far ?_ NB101_121.out _; exact bS BK101.out) hb); have n6_ := Aside0.mk (blk_below (g := gb121) (o := .cells #[.int .i64 t116, .int .i64 t117, .slice Ao34 t118.length co34] 29 (0, 0)) (by (with_reducible repeat (first | refine blk_drewN ?_ _ | refine blk_drew ?_ | refine blk_alloc ?_ _)); refine blk_put (cs := #[.int .i64 t116, .int .i64 t117, .slice none 0 0]) ?_ 2 _ rfl; (with_reducible repeat (first | refine blk_drewN ?_ _ | refine blk_drew ?_ | refine blk_alloc ?_ _)); refine blk_put (cs := #[.int .i64 t116, .int .i64 0, .slice none 0 0]) ?_ 1 _ rfl; (with_reducible repeat (first | refine blk_drewN ?_ _ | refine blk_drew ?_ | refine blk_alloc ?_ _)); refine blk_put (cs := #[.int .i64 0, .int .i64 0, .slice none 0 0]) ?_ 0 _ rfl; exact bS BK121.out) hb); have n7_ := Aside0.mk (below_step (by repeat (first | (with_reducible first | exact HB.out | apply below_alloc | apply pw_below_drewN | apply below_drew1 | refine below_set ?_ GE101.out | refine below_set ?_ GE121.out) | exact HB.out)) hb); clear HO108; clear HO111; clear HO114; clear HO120; clear BK101; clear BK121; clear HB; have HO108 := n0_; have HO111 := n1_; have HO114 := n2_; have HO120 := n3_; have HO124 := n4_; have BK101 := n5_; have BK121 := n6_; have HB := n7_; clear n0_ n1_ n2_ n3_ n4_ n5_ n6_ n7_; (try clear hb); (try clear hb2); (try clear hk); (try clear hi); (try clear ho0); have hcz36_0 : w35.cell? ⟨gb121, 0, none⟩ = some (.int .i64 t116) := (blk_cell BK121.out 0).trans rfl; have hcz36_1 : w35.cell? ⟨gb121, 1, none⟩ = some (.int .i64 t117) := (blk_cell BK121.out 1).trans rfl; have hcz36_2 : w35.cell? ⟨gb121, 2, none⟩ = some (.slice Ao34 t118.length co34) := (blk_cell BK121.out 2).trans rfl; have hfz36_0 := blk_frozen BK121.out 0; have hfz36_1 := blk_frozen BK121.out 1; have hfz36_2 := blk_frozen BK121.out 2; obtain ⟨Ao37, co37, eo37⟩ := Kd.R_slice HO124.out; subst eo37) | ((with_reducible refine gate_callee (f := 28) rfl ?_); refine goesL_ (some 42) rfl rfl Try.func28 (by kernel_rfl) rfl #[.agg #[.int .i64 t116, .int .i64 t117, .slice Ao34 t118.length co34], .slice Ao37 t122.length co37] rfl (by (try simp only [List.map_toArray, List.map_cons, List.map_nil]); first | done | rfl | (simp only [List.length_drop, List.length_take]; rfl)) ?_; (with_reducible refine (impl_YarnLost.calls k t116 t117 _ _ t118 _ _ t122 t125 t128 _ ?side1 ?side2 ?side3 ?side4 A18.out).mono ?_); (case side1 => repeat (first | exact (Kd.R_reads' HO120.out).2.2 | (with_reducible refine Kd.C_alloc ?_ _) | (with_reducible refine Kd.C_drewN ?_ _) | (with_reducible refine Kd.C_drew ?_))); (case side2 => exact (Kd.R_reads' HO120.out).2.1); (case side3 => repeat (first | exact (Kd.R_reads' HO124.out).2.2 | (with_reducible refine Kd.C_alloc ?_ _) | (with_reducible refine Kd.C_drewN ?_ _) | (with_reducible refine Kd.C_drew ?_))); (case side4 => exact (Kd.R_reads' HO124.out).2.1); rintro e w38 ⟨v126, rfl, ho0, hb⟩; refine ⟨_, rfl, ?_⟩; have n0_ := Aside0.mk (Kd.R_elder' (by exact Ho.RS <| HO108.out) (Kd.R_base ho0) hb); have n1_ := Aside0.mk (Kd.R_below (by exact Ho.RS <| HO111.out) hb); have n2_ := Aside0.mk (Kd.R_elder' (by exact Ho.RS <| HO114.out) (Kd.R_base ho0) hb); have n3_ := Aside0.mk (Kd.R_elder' (by exact Ho.RS <| HO120.out) (Kd.R_base ho0) hb); have n4_ := Aside0.mk (Kd.R_below (by exact Ho.RS <| HO124.out) hb); have n5_ := Aside0.mk (Kd.R_lower (Kd.R_new' (Kd.R_new' (Kd.R_new' ho0 (Kd.R_lt (by exact Ho.RS <| HO108.out))) (Kd.R_lt (by exact Ho.RS <| HO114.out))) (Kd.R_lt (by exact Ho.RS <| HO120.out))) (below_size (by exact eS HB.out))); have n6_ := Aside0.mk (blk_below (bS BK101.out) hb); have n7_ := Aside0.mk (blk_below (bS BK121.out) hb); have n8_ := Aside0.mk (below_step (by exact eS HB.out) hb); clear HO108; clear HO111; clear HO114; clear HO120; clear HO124; clear BK101; clear BK121; clear HB; have HO108 := n0_; have HO111 := n1_; have HO114 := n2_; have HO120 := n3_; have HO124 := n4_; have HO127 := n5_; have BK101 := n6_; have BK121 := n7_; have HB := n8_; clear n0_ n1_ n2_ n3_ n4_ n5_ n6_ n7_ n8_; (try clear hb); (try clear hb2); (try clear hk); (try clear hi); (try clear ho0)))
   (try simp only [Act.put, List.setIfInBounds_toArray, List.set_cons_zero, List.set_cons_succ])
   go_cut [53] (fun v53 wc => ∃ (kq : Nat) (x53_18 : Bool), v53 = .bool x53_18 ∧ Aside0 (laws_FnExactYarnLost.j0 kq l1 t112 t115 t122 t125 t128 x53_18 a0_0 a0_1 l0_2 t116 t117 t118 = some r) ∧ Aside0 (kq ≤ k) ∧ Aside0 (Kd.R (Kd.int .i64) 3 wc w.heap.size (fun k_ => some k_ ≠ (v126 : Value).ownBlock ∧ some k_ ≠ ((.slice Ao34 t118.length co34) : Value).ownBlock) v113 t112) ∧ Aside0 (Kd.R k39 39 wc w.heap.size (fun _ => True) (.slice Ao37 t122.length co37) t122) ∧ Aside0 (Kd.R (Kd.int .i64) 3 wc w.heap.size (fun k_ => some k_ ≠ (v113 : Value).ownBlock ∧ some k_ ≠ ((.slice Ao34 t118.length co34) : Value).ownBlock) v126 t125) ∧ Aside0 (Kd.R (Kd.int .i64) 3 wc w.heap.size (fun k_ => some k_ ≠ (v113 : Value).ownBlock ∧ some k_ ≠ (v126 : Value).ownBlock) (.slice Ao34 t118.length co34) t118) ∧ Aside0 (wc.heap[gb101]? = some (.cells #[.int .i64 a0_0, .int .i64 a0_1, (.slice A0_2 l0_2.length c0_2)] 24 (0, 0))) ∧ Aside0 (wc.heap[gb121]? = some (.cells #[.int .i64 t116, .int .i64 t117, (.slice Ao34 t118.length co34)] 29 (0, 0))) ∧ Aside0 (Below w.heap.size w wc))
   case first =>
    have H := HC19.out
    clear HC19
    replace H := Option.bind_eq_some_iff.mp H
    obtain ⟨t129, A390, H⟩ := H
    replace H : (if t129 = true then (laws_FnExactYarnLost.j0 k l1 t112 t115 t122 t125 t128 (t128 != t115) a0_0 a0_1 l0_2 t116 t117 t118) else (laws_FnExactYarnLost.j0 k l1 t112 t115 t122 t125 t128 true a0_0 a0_1 l0_2 t116 t117 t118)) = some r := H
    have A39 := Aside0.mk A390
    clear A390
    by_cases c40 : t129 = true
    ·subst c40
     have H1 : (laws_FnExactYarnLost.j0 k l1 t112 t115 t122 t125 t128 (t128 != t115) a0_0 a0_1 l0_2 t116 t117 t118) = some r := by rw [if_pos rfl] at H; exact H
     clear H
     have H := H1
     clear H1
     as_aux_lemma =>
      have H' := Aside0.mk H
      clear H
      obtain ⟨Ao41, co41, eo41⟩ := Kd.R_slice HO127.out
      subst eo41
      obtain ⟨Ao42, co42, eo42⟩ := Kd.R_slice HO114.out
      subst eo42
      go_wp2_with (first | ((with_reducible refine gate_callee (f := 29) rfl ?_); refine goesL_ (some 47) rfl rfl Try.func29 (by kernel_rfl) rfl #[.slice Ao41 t125.length co41, .slice Ao42 t112.length co42] rfl (by (try simp only [List.map_toArray, List.map_cons, List.map_nil]); first | done | rfl | (simp only [List.length_drop, List.length_take]; rfl)) ?_; (with_reducible refine (laws_eqIntS.calls k _ _ t125 _ _ t112 true _ ?side1 ?side2 ?side3 ?side4 A39.out).mono ?_); (case side1 => repeat (first | exact (Kd.R_reads' HO127.out).2.2 | (with_reducible refine Kd.C_alloc ?_ _) | (with_reducible refine Kd.C_drewN ?_ _) | (with_reducible refine Kd.C_drew ?_))); (case side2 => exact (Kd.R_reads' HO127.out).2.1); (case side3 => repeat (first | exact (Kd.R_reads' HO114.out).2.2 | (with_reducible refine Kd.C_alloc ?_ _) | (with_reducible refine Kd.C_drewN ?_ _) | (with_reducible refine Kd.C_drew ?_))); (case side4 => exact (Kd.R_reads' HO114.out).2.1); rintro e w' ⟨rfl, ⟨nd, rfl⟩⟩; refine ⟨_, rfl, ?_⟩))
      go_meet
      case rel => exact ⟨_, ((t128 != t115)), (by first | rfl | (simp; done) | (simp [*]; done)), H', ⟨by first | omega | exact Nat.le_refl _⟩, ⟨by exact Ho.RS <| Kd.R_mono HO114.out (fun _ hk => ⟨hk.2, hk.1.2⟩)⟩, ⟨by exact Ho.RS <| Kd.R_mono HO124.out (fun _ hk => trivial)⟩, ⟨by exact Ho.RS <| Kd.R_mono HO127.out (fun _ hk => ⟨hk.1.2, hk.2⟩)⟩, ⟨by exact Ho.RS <| Kd.R_mono HO120.out (fun _ hk => ⟨hk.1.2, hk.2⟩)⟩, ⟨by exact bS BK101.out⟩, ⟨by exact bS BK121.out⟩, ⟨by exact eS HB.out⟩⟩
    ·replace c40 := Bool.eq_false_iff.mpr c40
     subst c40
     have H1 : (laws_FnExactYarnLost.j0 k l1 t112 t115 t122 t125 t128 true a0_0 a0_1 l0_2 t116 t117 t118) = some r := by rw [if_neg (show ¬ (false = true) by decide)] at H; exact H
     clear H
     have H := H1
     clear H1
     as_aux_lemma =>
      have H' := Aside0.mk H
      clear H
      obtain ⟨Ao43, co43, eo43⟩ := Kd.R_slice HO127.out
      subst eo43
      obtain ⟨Ao44, co44, eo44⟩ := Kd.R_slice HO114.out
      subst eo44
      go_wp2_with (first | ((with_reducible refine gate_callee (f := 29) rfl ?_); refine goesL_ (some 47) rfl rfl Try.func29 (by kernel_rfl) rfl #[.slice Ao43 t125.length co43, .slice Ao44 t112.length co44] rfl (by (try simp only [List.map_toArray, List.map_cons, List.map_nil]); first | done | rfl | (simp only [List.length_drop, List.length_take]; rfl)) ?_; (with_reducible refine (laws_eqIntS.calls k _ _ t125 _ _ t112 false _ ?side1 ?side2 ?side3 ?side4 A39.out).mono ?_); (case side1 => repeat (first | exact (Kd.R_reads' HO127.out).2.2 | (with_reducible refine Kd.C_alloc ?_ _) | (with_reducible refine Kd.C_drewN ?_ _) | (with_reducible refine Kd.C_drew ?_))); (case side2 => exact (Kd.R_reads' HO127.out).2.1); (case side3 => repeat (first | exact (Kd.R_reads' HO114.out).2.2 | (with_reducible refine Kd.C_alloc ?_ _) | (with_reducible refine Kd.C_drewN ?_ _) | (with_reducible refine Kd.C_drew ?_))); (case side4 => exact (Kd.R_reads' HO114.out).2.1); rintro e w' ⟨rfl, ⟨nd, rfl⟩⟩; refine ⟨_, rfl, ?_⟩))
      go_meet
      case rel => exact ⟨_, (true), (by first | rfl | (simp; done) | (simp [*]; done)), H', ⟨by first | omega | exact Nat.le_refl _⟩, ⟨by exact Ho.RS <| Kd.R_mono HO114.out (fun _ hk => ⟨hk.2, hk.1.2⟩)⟩, ⟨by exact Ho.RS <| Kd.R_mono HO124.out (fun _ hk => trivial)⟩, ⟨by exact Ho.RS <| Kd.R_mono HO127.out (fun _ hk => ⟨hk.1.2, hk.2⟩)⟩, ⟨by exact Ho.RS <| Kd.R_mono HO120.out (fun _ hk => ⟨hk.1.2, hk.2⟩)⟩, ⟨by exact bS BK101.out⟩, ⟨by exact bS BK121.out⟩, ⟨by exact eS HB.out⟩⟩
   case rest =>
    clear HC19
    try clear c1
    try clear c2
    try clear p2
    try clear c3
    try clear c4
    try clear c4b0
    try clear c8
    try clear c9
    try clear c9b0
    try clear c10
    try clear c11
    try clear c13
    try clear c14
    try clear c27
    try clear c28
    try clear c29
    try clear c32
    try clear c40
    try clear hcz11_0
    try clear hcz11_1
    try clear hcz11_2
    try clear hcz21_0
    try clear hcz21_1
    try clear hcz21_2
    try clear hcz23_0
    try clear hcz23_1
    try clear hcz23_2
    try clear hcz29_0
    try clear hcz29_1
    try clear hcz29_2
    try clear hcz33_0
    try clear hcz33_1
    try clear hcz33_2
    try clear hcz36_0
    try clear hcz36_1
    try clear hcz36_2
    try clear hcz6_0
    try clear hcz6_1
    try clear hcz6_2
    try clear hfz11_0
    try clear hfz11_1
    try clear hfz11_2
    try clear hfz21_0
    try clear hfz21_1
    try clear hfz21_2
    try clear hfz23_0
    try clear hfz23_1
    try clear hfz23_2
    try clear hfz29_0
    try clear hfz29_1
    try clear hfz29_2
    try clear hfz33_0
    try clear hfz33_1
    try clear hfz33_2
    try clear hfz36_0
    try clear hfz36_1
    try clear hfz36_2
    try clear hfz6_0
    try clear hfz6_1
    try clear hfz6_2
    obtain ⟨kq, x53_18, rfl, HA, HJ18, HO_6, HO_9, HO_10, HO_122002, BK101, BK121, HB⟩ := hcut
    cases kq with
    | zero => exact absurd HA.out (by simp [laws_FnExactYarnLost.j0])
    | succ kj18 =>
     have H := HA.out
     clear HA
     simp only [laws_FnExactYarnLost.j0] at H
     by_cases c45 : x53_18 = true
     ·subst c45
      have H1 : (some false) = some r := by rw [if_pos rfl] at H; exact H
      clear H
      have H := H1
      clear H1
      as_aux_lemma =>
       exact absurd ((Option.some.inj H).trans HT.out) (by decide)
     ·replace c45 := Bool.eq_false_iff.mpr c45
      subst c45
      have H1 : ((laws_toChart.f kj18 a0_0 a0_1 l0_2).bind fun bt130 => ((laws_eqChart.f kj18 t116 t117 t118 bt130.1 bt130.2.1 bt130.2.2).bind fun t135 => (if t135 = true then ((laws_toHoleS.f kj18 l1).bind fun t136 => ((laws_eqHoleS.f kj18 t122 t136).bind fun t139 => (if t139 = true then ((laws_markChart.f kj18 t116 t117 t118 1).bind fun bt140 => ((laws_markHoleS.f kj18 t122 bt140.1).bind fun bt142 => (if bt142.1 < 0 then (laws_FnExactYarnLost.j1 kj18 l1 t112 t115 t125 true a0_0 a0_1 l0_2) else ((laws_eqIntS.f kj18 t125 t112).bind fun t144 => (if t144 = true then (laws_FnExactYarnLost.j1 kj18 l1 t112 t115 t125 (t128 != t115) a0_0 a0_1 l0_2) else (laws_FnExactYarnLost.j1 kj18 l1 t112 t115 t125 true a0_0 a0_1 l0_2)))))) else (some false)))) else (some false)))) = some r := by rw [if_neg (show ¬ (false = true) by decide)] at H; exact H
      clear H
      have H := H1
      clear H1
      replace H := Option.bind_eq_some_iff.mp H
      obtain ⟨⟨t130, t131, t132⟩, A460, H⟩ := H
      replace H : ((laws_eqChart.f kj18 t116 t117 t118 t130 t131 t132).bind fun t135 => (if t135 = true then ((laws_toHoleS.f kj18 l1).bind fun t136 => ((laws_eqHoleS.f kj18 t122 t136).bind fun t139 => (if t139 = true then ((laws_markChart.f kj18 t116 t117 t118 1).bind fun bt140 => ((laws_markHoleS.f kj18 t122 bt140.1).bind fun bt142 => (if bt142.1 < 0 then (laws_FnExactYarnLost.j1 kj18 l1 t112 t115 t125 true a0_0 a0_1 l0_2) else ((laws_eqIntS.f kj18 t125 t112).bind fun t144 => (if t144 = true then (laws_FnExactYarnLost.j1 kj18 l1 t112 t115 t125 (t128 != t115) a0_0 a0_1 l0_2) else (laws_FnExactYarnLost.j1 kj18 l1 t112 t115 t125 true a0_0 a0_1 l0_2)))))) else (some false)))) else (some false))) = some r := H
      have A46 := Aside0.mk A460
      clear A460
      replace H := Option.bind_eq_some_iff.mp H
      obtain ⟨t135, A470, H⟩ := H
      replace H : (if t135 = true then ((laws_toHoleS.f kj18 l1).bind fun t136 => ((laws_eqHoleS.f kj18 t122 t136).bind fun t139 => (if t139 = true then ((laws_markChart.f kj18 t116 t117 t118 1).bind fun bt140 => ((laws_markHoleS.f kj18 t122 bt140.1).bind fun bt142 => (if bt142.1 < 0 then (laws_FnExactYarnLost.j1 kj18 l1 t112 t115 t125 true a0_0 a0_1 l0_2) else ((laws_eqIntS.f kj18 t125 t112).bind fun t144 => (if t144 = true then (laws_FnExactYarnLost.j1 kj18 l1 t112 t115 t125 (t128 != t115) a0_0 a0_1 l0_2) else (laws_FnExactYarnLost.j1 kj18 l1 t112 t115 t125 true a0_0 a0_1 l0_2)))))) else (some false)))) else (some false)) = some r := H
      have A47 := Aside0.mk A470
      clear A470
      by_cases c48 : t135 = true
      ·subst c48
       have H1 : ((laws_toHoleS.f kj18 l1).bind fun t136 => ((laws_eqHoleS.f kj18 t122 t136).bind fun t139 => (if t139 = true then ((laws_markChart.f kj18 t116 t117 t118 1).bind fun bt140 => ((laws_markHoleS.f kj18 t122 bt140.1).bind fun bt142 => (if bt142.1 < 0 then (laws_FnExactYarnLost.j1 kj18 l1 t112 t115 t125 true a0_0 a0_1 l0_2) else ((laws_eqIntS.f kj18 t125 t112).bind fun t144 => (if t144 = true then (laws_FnExactYarnLost.j1 kj18 l1 t112 t115 t125 (t128 != t115) a0_0 a0_1 l0_2) else (laws_FnExactYarnLost.j1 kj18 l1 t112 t115 t125 true a0_0 a0_1 l0_2)))))) else (some false)))) = some r := by rw [if_pos rfl] at H; exact H
       clear H
       have H := H1
       clear H1
       replace H := Option.bind_eq_some_iff.mp H
       obtain ⟨t136, A490, H⟩ := H
       replace H : ((laws_eqHoleS.f kj18 t122 t136).bind fun t139 => (if t139 = true then ((laws_markChart.f kj18 t116 t117 t118 1).bind fun bt140 => ((laws_markHoleS.f kj18 t122 bt140.1).bind fun bt142 => (if bt142.1 < 0 then (laws_FnExactYarnLost.j1 kj18 l1 t112 t115 t125 true a0_0 a0_1 l0_2) else ((laws_eqIntS.f kj18 t125 t112).bind fun t144 => (if t144 = true then (laws_FnExactYarnLost.j1 kj18 l1 t112 t115 t125 (t128 != t115) a0_0 a0_1 l0_2) else (laws_FnExactYarnLost.j1 kj18 l1 t112 t115 t125 true a0_0 a0_1 l0_2)))))) else (some false))) = some r := H
       have A49 := Aside0.mk A490
       clear A490
       replace H := Option.bind_eq_some_iff.mp H
       obtain ⟨t139, A500, H⟩ := H
       replace H : (if t139 = true then ((laws_markChart.f kj18 t116 t117 t118 1).bind fun bt140 => ((laws_markHoleS.f kj18 t122 bt140.1).bind fun bt142 => (if bt142.1 < 0 then (laws_FnExactYarnLost.j1 kj18 l1 t112 t115 t125 true a0_0 a0_1 l0_2) else ((laws_eqIntS.f kj18 t125 t112).bind fun t144 => (if t144 = true then (laws_FnExactYarnLost.j1 kj18 l1 t112 t115 t125 (t128 != t115) a0_0 a0_1 l0_2) else (laws_FnExactYarnLost.j1 kj18 l1 t112 t115 t125 true a0_0 a0_1 l0_2)))))) else (some false)) = some r := H
       have A50 := Aside0.mk A500
       clear A500
       by_cases c51 : t139 = true
       ·subst c51
        have H1 : ((laws_markChart.f kj18 t116 t117 t118 1).bind fun bt140 => ((laws_markHoleS.f kj18 t122 bt140.1).bind fun bt142 => (if bt142.1 < 0 then (laws_FnExactYarnLost.j1 kj18 l1 t112 t115 t125 true a0_0 a0_1 l0_2) else ((laws_eqIntS.f kj18 t125 t112).bind fun t144 => (if t144 = true then (laws_FnExactYarnLost.j1 kj18 l1 t112 t115 t125 (t128 != t115) a0_0 a0_1 l0_2) else (laws_FnExactYarnLost.j1 kj18 l1 t112 t115 t125 true a0_0 a0_1 l0_2)))))) = some r := by rw [if_pos rfl] at H; exact H
        clear H
        have H := H1
        clear H1
        replace H := Option.bind_eq_some_iff.mp H
        obtain ⟨⟨t140, t141⟩, A520, H⟩ := H
        replace H : ((laws_markHoleS.f kj18 t122 t140).bind fun bt142 => (if bt142.1 < 0 then (laws_FnExactYarnLost.j1 kj18 l1 t112 t115 t125 true a0_0 a0_1 l0_2) else ((laws_eqIntS.f kj18 t125 t112).bind fun t144 => (if t144 = true then (laws_FnExactYarnLost.j1 kj18 l1 t112 t115 t125 (t128 != t115) a0_0 a0_1 l0_2) else (laws_FnExactYarnLost.j1 kj18 l1 t112 t115 t125 true a0_0 a0_1 l0_2))))) = some r := H
        have A52 := Aside0.mk A520
        clear A520
        replace H := Option.bind_eq_some_iff.mp H
        obtain ⟨⟨t142, t143⟩, A530, H⟩ := H
        replace H : (if t142 < 0 then (laws_FnExactYarnLost.j1 kj18 l1 t112 t115 t125 true a0_0 a0_1 l0_2) else ((laws_eqIntS.f kj18 t125 t112).bind fun t144 => (if t144 = true then (laws_FnExactYarnLost.j1 kj18 l1 t112 t115 t125 (t128 != t115) a0_0 a0_1 l0_2) else (laws_FnExactYarnLost.j1 kj18 l1 t112 t115 t125 true a0_0 a0_1 l0_2)))) = some r := H
        have A53 := Aside0.mk A530
        clear A530
        have HC54 := Aside0.mk H
        clear H
        try go_wp2
        have n0_ := Aside0.mk (Kd.R_drew HO_6.out)
        have n1_ := Aside0.mk (Kd.R_drew HO_9.out)
        have n2_ := Aside0.mk (Kd.R_drew HO_10.out)
        have n3_ := Aside0.mk (Kd.R_drew HO_122002.out)
        have n4_ := Aside0.mk (blk_drew BK101.out)
        have n5_ := Aside0.mk (blk_drew BK121.out)
        have n6_ := Aside0.mk (below_drew1 HB.out)
        clear HO_6
        clear HO_9
        clear HO_10
        clear HO_122002
        clear BK101
        clear BK121
        clear HB
        have HO_6 := n0_
        have HO_9 := n1_
        have HO_10 := n2_
        have HO_122002 := n3_
        have BK101 := n4_
        have BK121 := n5_
        have HB := n6_
        clear n0_ n1_ n2_ n3_ n4_ n5_ n6_
        refine start_ (n := 5) (S := fun w' => w'.cell? ⟨gb121, 0, none⟩ = some (.int .i64 t116) ∧ w'.cell? ⟨gb121, 1, none⟩ = some (.int .i64 t117) ∧ w'.cell? ⟨gb121, 2, none⟩ = some (.slice Ao34 t118.length co34) ∧ w'.cell? ⟨gb101, 0, none⟩ = some (.int .i64 a0_0) ∧ w'.cell? ⟨gb101, 1, none⟩ = some (.int .i64 a0_1) ∧ w'.cell? ⟨gb101, 2, none⟩ = some (.slice A0_2 l0_2.length c0_2)) (ds := []) #[O,O,O,O,O] (by kernel_rfl) rfl rfl ⟨(blk_cell BK121.out 0).trans rfl, (blk_cell BK121.out 1).trans rfl, (blk_cell BK121.out 2).trans rfl, (blk_cell BK101.out 0).trans rfl, (blk_cell BK101.out 1).trans rfl, (blk_cell BK101.out 2).trans rfl⟩ (fun hHeld => ?_)
        generalize wc.drew = w55 at HO_6 HO_9 HO_10 HO_122002 BK101 BK121 HB hHeld ⊢
        refine take_ (i := 0) (N := some 54) (v := ?_) (a' := ?_) #[I,O,O,O,O] rfl rfl (by kernel_rfl) (fun _ _ _ h => h) (Or.inl ⟨by rfl, ?_⟩) hHeld ?_ ?_
        rotate_left; (rintro w' ⟨s0, s1, s2, s3, s4, s5⟩; go_simp; with_reducible rfl); rotate_left; (simp only [Z]; rfl)
        refine take_ (i := 1) (N := some 55) (v := ?_) (a' := ?_) #[I,I,O,O,O] rfl rfl (by kernel_rfl) (fun _ _ _ h => h) (Or.inl ⟨by rfl, ?_⟩) hHeld ?_ ?_
        rotate_left; (rintro w' ⟨s0, s1, s2, s3, s4, s5⟩; go_simp; with_reducible rfl); rotate_left; (simp only [Z]; rfl)
        refine one_ (i := 2) (N := some 56) #[I,I,I,O,O] rfl rfl (by kernel_rfl) (by decide) (fun K hK => ?_)
        refine goes_ Try.func13 (by kernel_rfl) rfl #[.agg #[.int .i64 a0_0, .int .i64 a0_1, .slice A0_2 l0_2.length c0_2]] (by rfl) rfl rfl (by (try simp only [List.map_toArray, List.map_cons, List.map_nil]); first | done | rfl | (simp only [List.length_drop, List.length_take]; rfl)) ?_
        with_reducible refine (laws_toChart.calls kj18 a0_0 a0_1 _ _ l0_2 t130 t131 t132 _ ?side1 ?side2 A46.out).mono ?_
        (case side1 => repeat (first | exact (Kd.C_below HR0_2.out HB.out) | (with_reducible refine Kd.C_alloc ?_ _) | (with_reducible refine Kd.C_drewN ?_ _) | (with_reducible refine Kd.C_drew ?_)))
        (case side2 => exact HC0_2.out)
        rintro e w56 ⟨v133, rfl, ho0, hb⟩
        refine ⟨_, rfl, ?_⟩
        have n0_ := Aside0.mk (Kd.R_elder' (by exact Ho.RS <| HO_6.out) (Kd.R_base ho0) hb)
        have n1_ := Aside0.mk (Kd.R_below (by exact Ho.RS <| HO_9.out) hb)
        have n2_ := Aside0.mk (Kd.R_elder' (by exact Ho.RS <| HO_10.out) (Kd.R_base ho0) hb)
        have n3_ := Aside0.mk (Kd.R_elder' (by exact Ho.RS <| HO_122002.out) (Kd.R_base ho0) hb)
        have n4_ := Aside0.mk (Kd.R_lower (Kd.R_new' (Kd.R_new' (Kd.R_new' ho0 (Kd.R_lt (by exact Ho.RS <| HO_6.out))) (Kd.R_lt (by exact Ho.RS <| HO_10.out))) (Kd.R_lt (by exact Ho.RS <| HO_122002.out))) (below_size (by exact eS HB.out)))
        have n5_ := Aside0.mk (blk_below (bS BK101.out) hb)
        have n6_ := Aside0.mk (blk_below (bS BK121.out) hb)
        have n7_ := Aside0.mk (below_step (by exact eS HB.out) hb)
        clear HO_6
        clear HO_9
        clear HO_10
        clear HO_122002
        clear BK101
        clear BK121
        clear HB
        have HO_6 := n0_
        have HO_9 := n1_
        have HO_10 := n2_
        have HO_122002 := n3_
        have HO134 := n4_
        have BK101 := n5_
        have BK121 := n6_
        have HB := n7_
        clear n0_ n1_ n2_ n3_ n4_ n5_ n6_ n7_
        (try clear hb)
        (try clear hb2)
        (try clear hk)
        (try clear hi)
        (try clear ho0)
        obtain ⟨Ao57, co57, eo57⟩ := Kd.R_slice HO134.out
        (first | subst eo57 | (injection eo57 with f1_ f2_ f3_; have f4_ := f1_.symm; have f5_ := f3_.symm; clear f1_ f2_ f3_; subst f4_; subst f5_))
        refine hK.out _ _ ⟨(blk_cell BK121.out 0).trans rfl, (blk_cell BK121.out 1).trans rfl, (blk_cell BK121.out 2).trans rfl, (blk_cell BK101.out 0).trans rfl, (blk_cell BK101.out 1).trans rfl, (blk_cell BK101.out 2).trans rfl⟩ (fun hHeld => ?_)
        clear hK K
        refine norm_ (a' := ?_) ?_ ?_
        rotate_left
        ·show Act.put _ (some 56) _ = _
         simp only [Z]
         rfl
        refine one_ (i := 3) (N := some 57) #[I,I,I,I,O] rfl rfl (by kernel_rfl) (by decide) (fun K hK => ?_)
        refine goes_ Try.func16 (by kernel_rfl) rfl #[.agg #[.int .i64 t116, .int .i64 t117, .slice Ao34 t118.length co34], .agg #[.int .i64 t130, .int .i64 t131, .slice Ao57 t132.length co57]] (by rfl) rfl rfl (by (try simp only [List.map_toArray, List.map_cons, List.map_nil]); first | done | rfl | (simp only [List.length_drop, List.length_take]; rfl)) ?_
        with_reducible refine (laws_eqChart.calls kj18 t116 t117 _ _ t118 t130 t131 _ _ t132 true _ ?side1 ?side2 ?side3 ?side4 A47.out).mono ?_
        (case side1 => repeat (first | exact (Kd.R_reads' HO_122002.out).2.2 | (with_reducible refine Kd.C_alloc ?_ _) | (with_reducible refine Kd.C_drewN ?_ _) | (with_reducible refine Kd.C_drew ?_)))
        (case side2 => exact (Kd.R_reads' HO_122002.out).2.1)
        (case side3 => repeat (first | exact (Kd.R_reads' HO134.out).2.2 | (with_reducible refine Kd.C_alloc ?_ _) | (with_reducible refine Kd.C_drewN ?_ _) | (with_reducible refine Kd.C_drew ?_)))
        (case side4 => exact (Kd.R_reads' HO134.out).2.1)
        rintro e w58 ⟨rfl, hb⟩
        refine ⟨_, rfl, ?_⟩
        have n0_ := Aside0.mk (Kd.R_below (by exact Ho.RS <| HO_6.out) hb)
        have n1_ := Aside0.mk (Kd.R_below (by exact Ho.RS <| HO_9.out) hb)
        have n2_ := Aside0.mk (Kd.R_below (by exact Ho.RS <| HO_10.out) hb)
        have n3_ := Aside0.mk (Kd.R_below (by exact Ho.RS <| HO_122002.out) hb)
        have n4_ := Aside0.mk (Kd.R_below (by exact Ho.RS <| HO134.out) hb)
        have n5_ := Aside0.mk (blk_below (bS BK101.out) hb)
        have n6_ := Aside0.mk (blk_below (bS BK121.out) hb)
        have n7_ := Aside0.mk (below_step (by exact eS HB.out) hb)
        clear HO_6
        clear HO_9
        clear HO_10
        clear HO_122002
        clear HO134
        clear BK101
        clear BK121
        clear HB
        have HO_6 := n0_
        have HO_9 := n1_
        have HO_10 := n2_
        have HO_122002 := n3_
        have HO134 := n4_
        have BK101 := n5_
        have BK121 := n6_
        have HB := n7_
        clear n0_ n1_ n2_ n3_ n4_ n5_ n6_ n7_
        (try clear hb)
        (try clear hb2)
        (try clear hk)
        (try clear hi)
        refine hK.out _ _ ⟨(blk_cell BK121.out 0).trans rfl, (blk_cell BK121.out 1).trans rfl, (blk_cell BK121.out 2).trans rfl, (blk_cell BK101.out 0).trans rfl, (blk_cell BK101.out 1).trans rfl, (blk_cell BK101.out 2).trans rfl⟩ (fun hHeld => ?_)
        clear hK K
        refine norm_ (a' := ?_) ?_ ?_
        rotate_left
        ·show Act.put _ (some 57) _ = _
         simp only [Z]
         rfl
        refine pure_ (i := 4) (N := some 58) (v := ?_) (a' := ?_) #[I,I,I,I,I] rfl rfl (by kernel_rfl) (fun _ _ _ h => h) (Or.inl ⟨by rfl, ?_⟩) ?_ ?_
        rotate_left; (intro w'; go_simp; with_reducible rfl); rotate_left; (simp only [Z]; rfl)
        refine done_ (by kernel_rfl) ?_
        go_upto_region 21 with (first | ((with_reducible refine gate_callee (f := 14) rfl ?_); refine goesL_ (some 61) rfl rfl Try.func14 (by kernel_rfl) rfl #[.slice A1 l1.length c1] rfl (by (try simp only [List.map_toArray, List.map_cons, List.map_nil]); first | done | rfl | (simp only [List.length_drop, List.length_take]; rfl)) ?_; (with_reducible refine (laws_toHoleS.calls kj18 _ _ l1 t136 _ ?side1 ?side2 A49.out).mono ?_); (case side1 => repeat (first | exact (Kd.C_below HR1.out HB.out) | (with_reducible refine Kd.C_alloc ?_ _) | (with_reducible refine Kd.C_drewN ?_ _) | (with_reducible refine Kd.C_drew ?_))); (case side2 => exact HC1.out); rintro e w59 ⟨v137, rfl, ho0, hb⟩; refine ⟨_, rfl, ?_⟩; have n0_ := Aside0.mk (Kd.R_below (by exact Ho.RS <| HO_6.out) hb); have n1_ := Aside0.mk (Kd.R_elder' (by exact Ho.RS <| HO_9.out) (Kd.R_base ho0) hb); have n2_ := Aside0.mk (Kd.R_below (by exact Ho.RS <| HO_10.out) hb); have n3_ := Aside0.mk (Kd.R_below (by exact Ho.RS <| HO_122002.out) hb); have n4_ := Aside0.mk (Kd.R_below (by exact Ho.RS <| HO134.out) hb); have n5_ := Aside0.mk (Kd.R_lower (Kd.R_new' ho0 (Kd.R_lt (by exact Ho.RS <| HO_9.out))) (below_size (by exact eS HB.out))); have n6_ := Aside0.mk (blk_below (bS BK101.out) hb); have n7_ := Aside0.mk (blk_below (bS BK121.out) hb); have n8_ := Aside0.mk (below_step (by exact eS HB.out) hb); clear HO_6; clear HO_9; clear HO_10; clear HO_122002; clear HO134; clear BK101; clear BK121; clear HB; have HO_6 := n0_; have HO_9 := n1_; have HO_10 := n2_; have HO_122002 := n3_; have HO134 := n4_; have HO138 := n5_; have BK101 := n6_; have BK121 := n7_; have HB := n8_; clear n0_ n1_ n2_ n3_ n4_ n5_ n6_ n7_ n8_; (try clear hb); (try clear hb2); (try clear hk); (try clear hi); (try clear ho0); obtain ⟨Ao60, co60, eo60⟩ := Kd.R_slice HO138.out; subst eo60) | ((with_reducible refine gate_callee (f := 17) rfl ?_); refine goesL_ (some 62) rfl rfl Try.func17 (by kernel_rfl) rfl #[.slice Ao37 t122.length co37, .slice Ao60 t136.length co60] rfl (by (try simp only [List.map_toArray, List.map_cons, List.map_nil]); first | done | rfl | (simp only [List.length_drop, List.length_take]; rfl)) ?_; (with_reducible refine (laws_eqHoleS.calls kj18 _ _ t122 _ _ t136 true _ ?side1 ?side2 ?side3 ?side4 A50.out).mono ?_); (case side1 => repeat (first | exact (Kd.R_reads' HO_9.out).2.2 | (with_reducible refine Kd.C_alloc ?_ _) | (with_reducible refine Kd.C_drewN ?_ _) | (with_reducible refine Kd.C_drew ?_))); (case side2 => exact (Kd.R_reads' HO_9.out).2.1); (case side3 => repeat (first | exact (Kd.R_reads' HO138.out).2.2 | (with_reducible refine Kd.C_alloc ?_ _) | (with_reducible refine Kd.C_drewN ?_ _) | (with_reducible refine Kd.C_drew ?_))); (case side4 => exact (Kd.R_reads' HO138.out).2.1); rintro e w61 ⟨rfl, hb⟩; refine ⟨_, rfl, ?_⟩; have n0_ := Aside0.mk (Kd.R_below (by exact Ho.RS <| HO_6.out) hb); have n1_ := Aside0.mk (Kd.R_below (by exact Ho.RS <| HO_9.out) hb); have n2_ := Aside0.mk (Kd.R_below (by exact Ho.RS <| HO_10.out) hb); have n3_ := Aside0.mk (Kd.R_below (by exact Ho.RS <| HO_122002.out) hb); have n4_ := Aside0.mk (Kd.R_below (by exact Ho.RS <| HO134.out) hb); have n5_ := Aside0.mk (Kd.R_below (by exact Ho.RS <| HO138.out) hb); have n6_ := Aside0.mk (blk_below (bS BK101.out) hb); have n7_ := Aside0.mk (blk_below (bS BK121.out) hb); have n8_ := Aside0.mk (below_step (by exact eS HB.out) hb); clear HO_6; clear HO_9; clear HO_10; clear HO_122002; clear HO134; clear HO138; clear BK101; clear BK121; clear HB; have HO_6 := n0_; have HO_9 := n1_; have HO_10 := n2_; have HO_122002 := n3_; have HO134 := n4_; have HO138 := n5_; have BK101 := n6_; have BK121 := n7_; have HB := n8_; clear n0_ n1_ n2_ n3_ n4_ n5_ n6_ n7_ n8_; (try clear hb); (try clear hb2); (try clear hk); (try clear hi); have hnb62 := NB121_101.out; have hnc62 := NB101_121.out; have hcz63_0 : w61.cell? ⟨gb121, 0, none⟩ = some (.int .i64 t116) := (blk_cell BK121.out 0).trans rfl; have hcz63_1 : w61.cell? ⟨gb121, 1, none⟩ = some (.int .i64 t117) := (blk_cell BK121.out 1).trans rfl; have hcz63_2 : w61.cell? ⟨gb121, 2, none⟩ = some (.slice Ao34 t118.length co34) := (blk_cell BK121.out 2).trans rfl; have hfz63_0 := blk_frozen BK121.out 0; have hfz63_1 := blk_frozen BK121.out 1; have hfz63_2 := blk_frozen BK121.out 2) | ((with_reducible refine gate_callee (f := 30) rfl ?_); refine goesL_ (some 66) rfl rfl Try.func30 (by kernel_rfl) rfl #[.agg #[.int .i64 t116, .int .i64 t117, .slice Ao34 t118.length co34], .int .i64 1] rfl (by (try simp only [List.map_toArray, List.map_cons, List.map_nil]); first | done | rfl | (simp only [List.length_drop, List.length_take]; rfl)) ?_; (with_reducible refine (laws_markChart.calls kj18 t116 t117 (fun k_ => some k_ = (.slice Ao34 t118.length co34 : Value).ownBlock) (.slice Ao34 t118.length co34) t118 1 t140 t141 w _ ?side1 ?side2 A52.out).mono ?_); (case side1 => exact eS HB.out); (case side2 => exact Kd.R_tight rfl HO_122002.out); rintro e w64 ⟨rfl, hy0, hb, hkp⟩; refine ⟨_, rfl, ?_⟩; have n0_ := Aside0.mk (Kd.R_mono (ok' := fun k_ => some k_ ≠ (v126 : Value).ownBlock ∧ some k_ ≠ (.slice Ao34 t118.length co34 : Value).ownBlock ∧ some k_ ≠ (.slice Ao57 t132.length co57 : Value).ownBlock) (Kd.R_keptB (HO_6.out) hkp (fun k_ hk_ hs_ => (hk_.1.2) hs_)) (fun k_ hk_ => ⟨hk_.1.1.1, hk_.1.1.2, hk_.1.2⟩)); have n1_ := Aside0.mk (Kd.R_mono (ok' := fun k_ => some k_ ≠ (.slice Ao60 t136.length co60 : Value).ownBlock) (Kd.R_keptB ((Kd.R_apart' HO_9.out (Kd.R_typed HO_122002.out) (by decide))) hkp (fun k_ hk_ hs_ => (hk_.2) hs_)) (fun k_ hk_ => hk_.1.1.2)); have n2_ := Aside0.mk (Kd.R_mono (ok' := fun k_ => some k_ ≠ (v113 : Value).ownBlock ∧ some k_ ≠ (.slice Ao34 t118.length co34 : Value).ownBlock ∧ some k_ ≠ (.slice Ao57 t132.length co57 : Value).ownBlock) (Kd.R_keptB (HO_10.out) hkp (fun k_ hk_ hs_ => (hk_.1.2) hs_)) (fun k_ hk_ => ⟨hk_.1.1.1, hk_.1.1.2, hk_.1.2⟩)); have n3_ := Aside0.mk (Kd.R_reok rfl hy0 (fun k_ e_ => HO_122002.out.1 k_ e_)); have n4_ := Aside0.mk (blk_kept (by exact bS BK101.out) hkp (fun hs_ => (fun e_ => (Kd.R_ne HO_122002.out BK101.out (by decide)) e_) hs_)); have n5_ := Aside0.mk (blk_kept (by exact bS BK121.out) hkp (fun hs_ => (fun e_ => (Kd.R_ne HO_122002.out BK121.out (by decide)) e_) hs_)); have n6_ := Aside0.mk (Kd.R_mono (ok' := fun k_ => some k_ ≠ (v113 : Value).ownBlock ∧ some k_ ≠ (v126 : Value).ownBlock ∧ some k_ ≠ (.slice Ao34 t118.length co34 : Value).ownBlock) (Kd.R_keptB (HO134.out) hkp (fun k_ hk_ hs_ => (hk_.2) hs_)) (fun k_ hk_ => ⟨hk_.1.1.1.2, hk_.1.1.2, hk_.1.2⟩)); have n7_ := Aside0.mk (Kd.R_mono (ok' := fun k_ => some k_ ≠ (.slice Ao37 t122.length co37 : Value).ownBlock) (Kd.R_keptB ((Kd.R_apart' HO138.out (Kd.R_typed HO_122002.out) (by decide))) hkp (fun k_ hk_ hs_ => (hk_.2) hs_)) (fun k_ hk_ => hk_.1.1.2)); have n8_ := Aside0.mk (hb); clear HO_6; clear HO_9; clear HO_10; clear HO_122002; clear BK101; clear BK121; clear HO134; clear HO138; clear HB; have HO_6 := n0_; have HO_9 := n1_; have HO_10 := n2_; have HO_122002 := n3_; have BK101 := n4_; have BK121 := n5_; have HO134 := n6_; have HO138 := n7_; have HB := n8_; clear n0_ n1_ n2_ n3_ n4_ n5_ n6_ n7_ n8_; (try clear hb); (try clear hkp); (try clear hy0)) | ((with_reducible refine gate_callee (f := 31) rfl ?_); refine goesL_ (some 69) rfl rfl Try.func31 (by kernel_rfl) rfl #[.slice Ao37 t122.length co37, .int .i64 t140] rfl (by (try simp only [List.map_toArray, List.map_cons, List.map_nil]); first | done | rfl | (simp only [List.length_drop, List.length_take]; rfl)) ?_; (with_reducible refine (laws_markHoleS.calls kj18 (fun k_ => some k_ = (.slice Ao37 t122.length co37 : Value).ownBlock) (.slice Ao37 t122.length co37) t122 t140 t142 t143 w _ ?side1 ?side2 A53.out).mono ?_); (case side1 => exact eS HB.out); (case side2 => exact Kd.R_tight rfl HO_9.out); rintro e w65 ⟨rfl, hy0, hb, hkp⟩; refine ⟨_, rfl, ?_⟩; have n0_ := Aside0.mk (Kd.R_mono (ok' := fun k_ => some k_ ≠ (v126 : Value).ownBlock ∧ some k_ ≠ (.slice Ao34 t118.length co34 : Value).ownBlock ∧ some k_ ≠ (.slice Ao57 t132.length co57 : Value).ownBlock) (Kd.R_keptB ((Kd.R_apart' HO_6.out (Kd.R_typed HO_9.out) (by decide))) hkp (fun k_ hk_ hs_ => (hk_.2) hs_)) (fun k_ hk_ => ⟨hk_.1.1.1, hk_.1.1.2.1, hk_.1.1.2.2⟩)); have n1_ := Aside0.mk (Kd.R_reok rfl hy0 (fun k_ e_ => HO_9.out.1 k_ e_)); have n2_ := Aside0.mk (Kd.R_mono (ok' := fun k_ => some k_ ≠ (v113 : Value).ownBlock ∧ some k_ ≠ (.slice Ao34 t118.length co34 : Value).ownBlock ∧ some k_ ≠ (.slice Ao57 t132.length co57 : Value).ownBlock) (Kd.R_keptB ((Kd.R_apart' HO_10.out (Kd.R_typed HO_9.out) (by decide))) hkp (fun k_ hk_ hs_ => (hk_.2) hs_)) (fun k_ hk_ => ⟨hk_.1.1.1, hk_.1.1.2.1, hk_.1.1.2.2⟩)); have n3_ := Aside0.mk (Kd.R_mono (ok' := fun k_ => some k_ ≠ (v113 : Value).ownBlock ∧ some k_ ≠ (v126 : Value).ownBlock ∧ some k_ ≠ (.slice Ao57 t132.length co57 : Value).ownBlock) (Kd.R_keptB ((Kd.R_apart' HO_122002.out (Kd.R_typed HO_9.out) (by decide))) hkp (fun k_ hk_ hs_ => (hk_.2) hs_)) (fun k_ hk_ => ⟨hk_.1.1.1.1, hk_.1.1.1.2, hk_.1.1.2⟩)); have n4_ := Aside0.mk (blk_kept (by exact bS BK101.out) hkp (fun hs_ => (fun e_ => (Kd.R_ne HO_9.out BK101.out (by decide)) e_) hs_)); have n5_ := Aside0.mk (blk_kept (by exact bS BK121.out) hkp (fun hs_ => (fun e_ => (Kd.R_ne HO_9.out BK121.out (by decide)) e_) hs_)); have n6_ := Aside0.mk (Kd.R_mono (ok' := fun k_ => some k_ ≠ (v113 : Value).ownBlock ∧ some k_ ≠ (v126 : Value).ownBlock ∧ some k_ ≠ (.slice Ao34 t118.length co34 : Value).ownBlock) (Kd.R_keptB ((Kd.R_apart' HO134.out (Kd.R_typed HO_9.out) (by decide))) hkp (fun k_ hk_ hs_ => (hk_.2) hs_)) (fun k_ hk_ => ⟨hk_.1.1.1, hk_.1.1.2.1, hk_.1.1.2.2⟩)); have n7_ := Aside0.mk (Kd.R_mono (ok' := fun k_ => some k_ ≠ (.slice Ao37 t122.length co37 : Value).ownBlock) (Kd.R_keptB (HO138.out) hkp (fun k_ hk_ hs_ => (hk_) hs_)) (fun k_ hk_ => hk_.1)); have n8_ := Aside0.mk (hb); clear HO_6; clear HO_9; clear HO_10; clear HO_122002; clear BK101; clear BK121; clear HO134; clear HO138; clear HB; have HO_6 := n0_; have HO_9 := n1_; have HO_10 := n2_; have HO_122002 := n3_; have BK101 := n4_; have BK121 := n5_; have HO134 := n6_; have HO138 := n7_; have HB := n8_; clear n0_ n1_ n2_ n3_ n4_ n5_ n6_ n7_ n8_; (try clear hb); (try clear hkp); (try clear hy0)))
        (try simp only [Act.put, List.setIfInBounds_toArray, List.set_cons_zero, List.set_cons_succ])
        go_cut [82] (fun v82 wc => ∃ (kq : Nat) (x82_53 : Bool), v82 = .bool x82_53 ∧ Aside0 (laws_FnExactYarnLost.j1 kq l1 t112 t115 t125 x82_53 a0_0 a0_1 l0_2 = some r) ∧ Aside0 (kq ≤ kj18) ∧ Aside0 (Kd.R (Kd.int .i64) 3 wc w.heap.size (fun k_ => some k_ ≠ (v126 : Value).ownBlock ∧ some k_ ≠ ((.slice Ao34 t118.length co34) : Value).ownBlock) v113 t112) ∧ Aside0 (Kd.R (Kd.int .i64) 3 wc w.heap.size (fun k_ => some k_ ≠ (v113 : Value).ownBlock ∧ some k_ ≠ ((.slice Ao34 t118.length co34) : Value).ownBlock) v126 t125) ∧ Aside0 (Kd.R (Kd.int .i64) 3 wc w.heap.size (fun k_ => some k_ ≠ (v113 : Value).ownBlock ∧ some k_ ≠ (v126 : Value).ownBlock) (.slice Ao34 t118.length co34) t141) ∧ Aside0 (wc.heap[gb101]? = some (.cells #[.int .i64 a0_0, .int .i64 a0_1, (.slice A0_2 l0_2.length c0_2)] 24 (0, 0))) ∧ Aside0 (wc.heap[gb121]? = some (.cells #[.int .i64 t116, .int .i64 t117, (.slice Ao34 t118.length co34)] 29 (0, 0))) ∧ Aside0 (Below w.heap.size w wc))
        case first =>
         have H := HC54.out
         clear HC54
         by_cases c66 : t142 < 0
         ·rw [if_pos c66] at H
          have c66b0 : decide (t142 < 0) = true := decide_eq_true c66
          clear c66
          (first | rw [c66b0] | (simp only [i64_w, i32_w]; rw [c66b0]) | skip)
          as_aux_lemma =>
           have H' := Aside0.mk H
           clear H
           go_wp2
           go_meet
           case rel => exact ⟨_, (true), (by first | rfl | (simp; done) | (simp [*]; done)), H', ⟨by have := HJ18.out; first | omega | exact Nat.le_refl _⟩, ⟨by exact Ho.RS <| Kd.R_mono HO_6.out (fun _ hk => ⟨hk.1, hk.2.1⟩)⟩, ⟨by exact Ho.RS <| Kd.R_mono HO_10.out (fun _ hk => ⟨hk.1, hk.2.1⟩)⟩, ⟨by exact Ho.RS <| Kd.R_mono HO_122002.out (fun _ hk => ⟨hk.1, hk.2.1⟩)⟩, ⟨by exact bS BK101.out⟩, ⟨by exact bS BK121.out⟩, ⟨by exact eS HB.out⟩⟩
         ·rw [if_neg c66] at H
          have c66b0 : decide (t142 < 0) = false := decide_eq_false c66
          clear c66
          (first | rw [c66b0] | (simp only [i64_w, i32_w]; rw [c66b0]) | skip)
          replace H := Option.bind_eq_some_iff.mp H
          obtain ⟨t144, A670, H⟩ := H
          replace H : (if t144 = true then (laws_FnExactYarnLost.j1 kj18 l1 t112 t115 t125 (t128 != t115) a0_0 a0_1 l0_2) else (laws_FnExactYarnLost.j1 kj18 l1 t112 t115 t125 true a0_0 a0_1 l0_2)) = some r := H
          have A67 := Aside0.mk A670
          clear A670
          by_cases c68 : t144 = true
          ·subst c68
           have H1 : (laws_FnExactYarnLost.j1 kj18 l1 t112 t115 t125 (t128 != t115) a0_0 a0_1 l0_2) = some r := by rw [if_pos rfl] at H; exact H
           clear H
           have H := H1
           clear H1
           as_aux_lemma =>
            have H' := Aside0.mk H
            clear H
            obtain ⟨Ao69, co69, eo69⟩ := Kd.R_slice HO_10.out
            subst eo69
            obtain ⟨Ao70, co70, eo70⟩ := Kd.R_slice HO_6.out
            subst eo70
            go_wp2_with (first | (go_at_call 29; (with_reducible refine (laws_eqIntS.calls kj18 _ _ t125 _ _ t112 true _ ?side1 ?side2 ?side3 ?side4 A67.out).mono ?_); (case side1 => repeat (first | exact (Kd.R_reads' HO_10.out).2.2 | (with_reducible refine Kd.C_alloc ?_ _) | (with_reducible refine Kd.C_drewN ?_ _) | (with_reducible refine Kd.C_drew ?_))); (case side2 => exact (Kd.R_reads' HO_10.out).2.1); (case side3 => repeat (first | exact (Kd.R_reads' HO_6.out).2.2 | (with_reducible refine Kd.C_alloc ?_ _) | (with_reducible refine Kd.C_drewN ?_ _) | (with_reducible refine Kd.C_drew ?_))); (case side4 => exact (Kd.R_reads' HO_6.out).2.1); rintro e w' ⟨rfl, ⟨nd, rfl⟩⟩))
            go_meet
            case rel => exact ⟨_, ((t128 != t115)), (by first | rfl | (simp; done) | (simp [*]; done)), H', ⟨by have := HJ18.out; first | omega | exact Nat.le_refl _⟩, ⟨by exact Ho.RS <| Kd.R_mono HO_6.out (fun _ hk => ⟨hk.1, hk.2.1⟩)⟩, ⟨by exact Ho.RS <| Kd.R_mono HO_10.out (fun _ hk => ⟨hk.1, hk.2.1⟩)⟩, ⟨by exact Ho.RS <| Kd.R_mono HO_122002.out (fun _ hk => ⟨hk.1, hk.2.1⟩)⟩, ⟨by exact bS BK101.out⟩, ⟨by exact bS BK121.out⟩, ⟨by exact eS HB.out⟩⟩
          ·replace c68 := Bool.eq_false_iff.mpr c68
           subst c68
           have H1 : (laws_FnExactYarnLost.j1 kj18 l1 t112 t115 t125 true a0_0 a0_1 l0_2) = some r := by rw [if_neg (show ¬ (false = true) by decide)] at H; exact H
           clear H
           have H := H1
           clear H1
           as_aux_lemma =>
            have H' := Aside0.mk H
            clear H
            obtain ⟨Ao71, co71, eo71⟩ := Kd.R_slice HO_10.out
            subst eo71
            obtain ⟨Ao72, co72, eo72⟩ := Kd.R_slice HO_6.out
            subst eo72
            go_wp2_with (first | (go_at_call 29; (with_reducible refine (laws_eqIntS.calls kj18 _ _ t125 _ _ t112 false _ ?side1 ?side2 ?side3 ?side4 A67.out).mono ?_); (case side1 => repeat (first | exact (Kd.R_reads' HO_10.out).2.2 | (with_reducible refine Kd.C_alloc ?_ _) | (with_reducible refine Kd.C_drewN ?_ _) | (with_reducible refine Kd.C_drew ?_))); (case side2 => exact (Kd.R_reads' HO_10.out).2.1); (case side3 => repeat (first | exact (Kd.R_reads' HO_6.out).2.2 | (with_reducible refine Kd.C_alloc ?_ _) | (with_reducible refine Kd.C_drewN ?_ _) | (with_reducible refine Kd.C_drew ?_))); (case side4 => exact (Kd.R_reads' HO_6.out).2.1); rintro e w' ⟨rfl, ⟨nd, rfl⟩⟩))
            go_meet
            case rel => exact ⟨_, (true), (by first | rfl | (simp; done) | (simp [*]; done)), H', ⟨by have := HJ18.out; first | omega | exact Nat.le_refl _⟩, ⟨by exact Ho.RS <| Kd.R_mono HO_6.out (fun _ hk => ⟨hk.1, hk.2.1⟩)⟩, ⟨by exact Ho.RS <| Kd.R_mono HO_10.out (fun _ hk => ⟨hk.1, hk.2.1⟩)⟩, ⟨by exact Ho.RS <| Kd.R_mono HO_122002.out (fun _ hk => ⟨hk.1, hk.2.1⟩)⟩, ⟨by exact bS BK101.out⟩, ⟨by exact bS BK121.out⟩, ⟨by exact eS HB.out⟩⟩
        case rest =>
         clear HC54
         try clear c1
         try clear c2
         try clear p2
         try clear c3
         try clear c4
         try clear c4b0
         try clear c5
         try clear c6
         try clear c8
         try clear c9
         try clear c9b0
         try clear c10
         try clear c11
         try clear c13
         try clear c14
         try clear c16
         try clear c17
         try clear c27
         try clear c28
         try clear c29
         try clear c30
         try clear c31
         try clear c32
         try clear c40
         try clear c45
         try clear c48
         try clear c51
         try clear c62
         try clear c66
         try clear c66b0
         try clear c68
         try clear hcz11_0
         try clear hcz11_1
         try clear hcz11_2
         try clear hcz21_0
         try clear hcz21_1
         try clear hcz21_2
         try clear hcz23_0
         try clear hcz23_1
         try clear hcz23_2
         try clear hcz29_0
         try clear hcz29_1
         try clear hcz29_2
         try clear hcz33_0
         try clear hcz33_1
         try clear hcz33_2
         try clear hcz36_0
         try clear hcz36_1
         try clear hcz36_2
         try clear hcz63_0
         try clear hcz63_1
         try clear hcz63_2
         try clear hcz6_0
         try clear hcz6_1
         try clear hcz6_2
         try clear hfz11_0
         try clear hfz11_1
         try clear hfz11_2
         try clear hfz21_0
         try clear hfz21_1
         try clear hfz21_2
         try clear hfz23_0
         try clear hfz23_1
         try clear hfz23_2
         try clear hfz29_0
         try clear hfz29_1
         try clear hfz29_2
         try clear hfz33_0
         try clear hfz33_1
         try clear hfz33_2
         try clear hfz36_0
         try clear hfz36_1
         try clear hfz36_2
         try clear hfz63_0
         try clear hfz63_1
         try clear hfz63_2
         try clear hfz6_0
         try clear hfz6_1
         try clear hfz6_2
         try clear p2
         obtain ⟨kq, x82_53, rfl, HA, HJ53, HO_6, HO_10, HO_122002, BK101, BK121, HB⟩ := hcut
         have hl122002_53 := (Kd.R_reads' HO_122002.out).1
         rw [hl122002_53] at HO_122002
         (try simp only [hl122002_53])
         (try simp only [hl122002_53] at BK101)
         (try simp only [hl122002_53] at BK121)
         (try simp only [hl122002_53] at HO_6)
         (try simp only [hl122002_53] at HO_10)
         cases kq with
         | zero => exact absurd HA.out (by simp [laws_FnExactYarnLost.j1])
         | succ kj53 =>
          have H := HA.out
          clear HA
          simp only [laws_FnExactYarnLost.j1] at H
          by_cases c73 : x82_53 = true
          ·subst c73
           have H1 : (some false) = some r := by rw [if_pos rfl] at H; exact H
           clear H
           have H := H1
           clear H1
           as_aux_lemma =>
            exact absurd ((Option.some.inj H).trans HT.out) (by decide)
          ·replace c73 := Bool.eq_false_iff.mpr c73
           subst c73
           have H1 : ((laws_markIntS.f kj53 t125 1).bind fun bt145 => ((laws_heldIntS.f kj53 bt145.2 1).bind fun t147 => (if t147 < 0 then (some false) else (if t147 = bt145.1 then ((laws_toChart.f kj53 a0_0 a0_1 l0_2).bind fun bt148 => ((laws_toHoleS.f kj53 l1).bind fun t153 => ((impl_YarnLost.f kj53 bt148.1 bt148.2.1 bt148.2.2 t153).bind fun bt156 => ((laws_eqIntS.f kj53 bt156.1 t112).bind fun t160 => (if t160 = true then (laws_FnExactYarnLost.j2 kj53 bt145.2 bt145.1 (bt156.2 != t115)) else (laws_FnExactYarnLost.j2 kj53 bt145.2 bt145.1 true)))))) else (some false))))) = some r := by rw [if_neg (show ¬ (false = true) by decide)] at H; exact H
           clear H
           have H := H1
           clear H1
           replace H := Option.bind_eq_some_iff.mp H
           obtain ⟨⟨t145, t146⟩, A740, H⟩ := H
           replace H : ((laws_heldIntS.f kj53 t146 1).bind fun t147 => (if t147 < 0 then (some false) else (if t147 = t145 then ((laws_toChart.f kj53 a0_0 a0_1 l0_2).bind fun bt148 => ((laws_toHoleS.f kj53 l1).bind fun t153 => ((impl_YarnLost.f kj53 bt148.1 bt148.2.1 bt148.2.2 t153).bind fun bt156 => ((laws_eqIntS.f kj53 bt156.1 t112).bind fun t160 => (if t160 = true then (laws_FnExactYarnLost.j2 kj53 t146 t145 (bt156.2 != t115)) else (laws_FnExactYarnLost.j2 kj53 t146 t145 true)))))) else (some false)))) = some r := H
           have A74 := Aside0.mk A740
           clear A740
           replace H := Option.bind_eq_some_iff.mp H
           obtain ⟨t147, A750, H⟩ := H
           replace H : (if t147 < 0 then (some false) else (if t147 = t145 then ((laws_toChart.f kj53 a0_0 a0_1 l0_2).bind fun bt148 => ((laws_toHoleS.f kj53 l1).bind fun t153 => ((impl_YarnLost.f kj53 bt148.1 bt148.2.1 bt148.2.2 t153).bind fun bt156 => ((laws_eqIntS.f kj53 bt156.1 t112).bind fun t160 => (if t160 = true then (laws_FnExactYarnLost.j2 kj53 t146 t145 (bt156.2 != t115)) else (laws_FnExactYarnLost.j2 kj53 t146 t145 true)))))) else (some false))) = some r := H
           have A75 := Aside0.mk A750
           clear A750
           by_cases c76 : t147 < 0
           ·rw [if_pos c76] at H
            have c76b0 : decide (t147 < 0) = true := decide_eq_true c76
            clear c76
            as_aux_lemma =>
             exact absurd ((Option.some.inj H).trans HT.out) (by decide)
           ·rw [if_neg c76] at H
            have c76b0 : decide (t147 < 0) = false := decide_eq_false c76
            clear c76
            by_cases c77 : t147 = t145
            ·rw [if_pos c77] at H
             have c77b0 : (t147 == t145) = true := beq_iff_eq.mpr c77
             have c77b1 : (t147 != t145) = false := bne_eq_false_iff_eq.mpr c77
             clear c77
             replace H := Option.bind_eq_some_iff.mp H
             obtain ⟨⟨t148, t149, t150⟩, A780, H⟩ := H
             replace H : ((laws_toHoleS.f kj53 l1).bind fun t153 => ((impl_YarnLost.f kj53 t148 t149 t150 t153).bind fun bt156 => ((laws_eqIntS.f kj53 bt156.1 t112).bind fun t160 => (if t160 = true then (laws_FnExactYarnLost.j2 kj53 t146 t145 (bt156.2 != t115)) else (laws_FnExactYarnLost.j2 kj53 t146 t145 true))))) = some r := H
             have A78 := Aside0.mk A780
             clear A780
             replace H := Option.bind_eq_some_iff.mp H
             obtain ⟨t153, A790, H⟩ := H
             replace H : ((impl_YarnLost.f kj53 t148 t149 t150 t153).bind fun bt156 => ((laws_eqIntS.f kj53 bt156.1 t112).bind fun t160 => (if t160 = true then (laws_FnExactYarnLost.j2 kj53 t146 t145 (bt156.2 != t115)) else (laws_FnExactYarnLost.j2 kj53 t146 t145 true)))) = some r := H
             have A79 := Aside0.mk A790
             clear A790
             replace H := Option.bind_eq_some_iff.mp H
             obtain ⟨⟨t156, t159⟩, A800, H⟩ := H
             replace H : ((laws_eqIntS.f kj53 t156 t112).bind fun t160 => (if t160 = true then (laws_FnExactYarnLost.j2 kj53 t146 t145 (t159 != t115)) else (laws_FnExactYarnLost.j2 kj53 t146 t145 true))) = some r := H
             have A80 := Aside0.mk A800
             clear A800
             have HC81 := Aside0.mk H
             clear H
             obtain ⟨Ao82, co82, eo82⟩ := Kd.R_slice HO_10.out
             subst eo82
             go_upto_region 32 with (first | ((with_reducible refine gate_callee (f := 32) rfl ?_); refine goesL_ (some 85) rfl rfl Try.func32 (by kernel_rfl) rfl #[.slice Ao82 t125.length co82, .int .i64 1] rfl (by (try simp only [List.map_toArray, List.map_cons, List.map_nil]); first | done | rfl | (simp only [List.length_drop, List.length_take]; rfl)) ?_; (with_reducible refine (laws_markIntS.calls kj53 (fun k_ => some k_ = (.slice Ao82 t125.length co82 : Value).ownBlock) (.slice Ao82 t125.length co82) t125 1 t145 t146 w _ ?side1 ?side2 A74.out).mono ?_); (case side1 => exact eS HB.out); (case side2 => exact Kd.R_tight rfl HO_10.out); rintro e w83 ⟨rfl, hy0, hb, hkp⟩; refine ⟨_, rfl, ?_⟩; have n0_ := Aside0.mk (Kd.R_mono (ok' := fun k_ => some k_ ≠ (.slice Ao82 t125.length co82 : Value).ownBlock ∧ some k_ ≠ (.slice Ao34 t141.length co34 : Value).ownBlock) (Kd.R_keptB (HO_6.out) hkp (fun k_ hk_ hs_ => (hk_.1) hs_)) (fun k_ hk_ => ⟨hk_.1.1, hk_.1.2⟩)); have n1_ := Aside0.mk (Kd.R_reok rfl hy0 (fun k_ e_ => HO_10.out.1 k_ e_)); have n2_ := Aside0.mk (Kd.R_mono (ok' := fun k_ => some k_ ≠ (v113 : Value).ownBlock ∧ some k_ ≠ (.slice Ao82 t125.length co82 : Value).ownBlock) (Kd.R_keptB (HO_122002.out) hkp (fun k_ hk_ hs_ => (hk_.2) hs_)) (fun k_ hk_ => ⟨hk_.1.1, hk_.1.2⟩)); have n3_ := Aside0.mk (blk_kept (by exact bS BK101.out) hkp (fun hs_ => (fun e_ => (Kd.R_ne HO_10.out BK101.out (by decide)) e_) hs_)); have n4_ := Aside0.mk (blk_kept (by exact bS BK121.out) hkp (fun hs_ => (fun e_ => (Kd.R_ne HO_10.out BK121.out (by decide)) e_) hs_)); have n5_ := Aside0.mk (hb); clear HO_6; clear HO_10; clear HO_122002; clear BK101; clear BK121; clear HB; have HO_6 := n0_; have HO_10 := n1_; have HO_122002 := n2_; have BK101 := n3_; have BK121 := n4_; have HB := n5_; clear n0_ n1_ n2_ n3_ n4_ n5_; (try clear hb); (try clear hkp); (try clear hy0)) | ((with_reducible refine gate_callee (f := 33) rfl ?_); refine goesL_ (some 88) rfl rfl Try.func33 (by kernel_rfl) rfl #[.slice Ao82 t146.length co82, .int .i64 1] rfl (by (try simp only [List.map_toArray, List.map_cons, List.map_nil]); first | done | (rw [show t146.length = t125.length from (Kd.R_reads' HO_10.out).1.symm] <;> rfl) | rfl | (simp only [List.length_drop, List.length_take]; rfl)) ?_; (with_reducible refine (laws_heldIntS.calls kj53 _ _ t146 1 t147 _ ?side1 ?side2 A75.out).mono ?_); (case side1 => repeat (first | exact (Kd.R_reads' HO_10.out).2.2 | (with_reducible refine Kd.C_alloc ?_ _) | (with_reducible refine Kd.C_drewN ?_ _) | (with_reducible refine Kd.C_drew ?_))); (case side2 => rw [show t146.length = t125.length from (Kd.R_reads' HO_10.out).1.symm]; exact (Kd.R_reads' HO_10.out).2.1); rintro e w' ⟨rfl, ⟨nd, rfl⟩⟩; refine ⟨_, rfl, ?_⟩; have hnb84 := NB101_121.out; have hnc84 := NB121_101.out; have hcz85_0 : w83.cell? ⟨gb101, 0, none⟩ = some (.int .i64 a0_0) := (blk_cell BK101.out 0).trans rfl; have hcz85_1 : w83.cell? ⟨gb101, 1, none⟩ = some (.int .i64 a0_1) := (blk_cell BK101.out 1).trans rfl; have hcz85_2 : w83.cell? ⟨gb101, 2, none⟩ = some (.slice A0_2 l0_2.length c0_2) := (blk_cell BK101.out 2).trans rfl; have hfz85_0 := blk_frozen BK101.out 0; have hfz85_1 := blk_frozen BK101.out 1; have hfz85_2 := blk_frozen BK101.out 2) | ((with_reducible refine gate_callee (f := 13) rfl ?_); refine goesL_ (some 96) rfl rfl Try.func13 (by kernel_rfl) rfl #[.agg #[.int .i64 a0_0, .int .i64 a0_1, .slice A0_2 l0_2.length c0_2]] rfl (by (try simp only [List.map_toArray, List.map_cons, List.map_nil]); first | done | rfl | (simp only [List.length_drop, List.length_take]; rfl)) ?_; (with_reducible refine (laws_toChart.calls kj53 a0_0 a0_1 _ _ l0_2 t148 t149 t150 _ ?side1 ?side2 A78.out).mono ?_); (case side1 => repeat (first | exact (Kd.C_below HR0_2.out (by exact eS HB.out)) | (with_reducible refine Kd.C_alloc ?_ _) | (with_reducible refine Kd.C_drewN ?_ _) | (with_reducible refine Kd.C_drew ?_))); (case side2 => exact HC0_2.out); rintro e w86 ⟨v151, rfl, ho0, hb⟩; refine ⟨_, rfl, ?_⟩; have n0_ := Aside0.mk (Kd.R_elder' (by exact Ho.RS <| HO_6.out) (Kd.R_base ho0) hb); have n1_ := Aside0.mk (Kd.R_elder' (by exact Ho.RS <| HO_10.out) (Kd.R_base ho0) hb); have n2_ := Aside0.mk (Kd.R_elder' (by exact Ho.RS <| HO_122002.out) (Kd.R_base ho0) hb); have n3_ := Aside0.mk (Kd.R_lower (Kd.R_new' (Kd.R_new' (Kd.R_new' ho0 (Kd.R_lt (by exact Ho.RS <| HO_6.out))) (Kd.R_lt (by exact Ho.RS <| HO_10.out))) (Kd.R_lt (by exact Ho.RS <| HO_122002.out))) (below_size (by exact eS HB.out))); have n4_ := Aside0.mk (blk_below (bS BK101.out) hb); have n5_ := Aside0.mk (blk_below (bS BK121.out) hb); have n6_ := Aside0.mk (below_step (by exact eS HB.out) hb); clear HO_6; clear HO_10; clear HO_122002; clear BK101; clear BK121; clear HB; have HO_6 := n0_; have HO_10 := n1_; have HO_122002 := n2_; have HO152 := n3_; have BK101 := n4_; have BK121 := n5_; have HB := n6_; clear n0_ n1_ n2_ n3_ n4_ n5_ n6_; (try clear hb); (try clear hb2); (try clear hk); (try clear hi); (try clear ho0)) | ((with_reducible refine gate_callee (f := 14) rfl ?_); refine goesL_ (some 98) rfl rfl Try.func14 (by kernel_rfl) rfl #[.slice A1 l1.length c1] rfl (by (try simp only [List.map_toArray, List.map_cons, List.map_nil]); first | done | rfl | (simp only [List.length_drop, List.length_take]; rfl)) ?_; (with_reducible refine (laws_toHoleS.calls kj53 _ _ l1 t153 _ ?side1 ?side2 A79.out).mono ?_); (case side1 => repeat (first | exact (Kd.C_below HR1.out HB.out) | (with_reducible refine Kd.C_alloc ?_ _) | (with_reducible refine Kd.C_drewN ?_ _) | (with_reducible refine Kd.C_drew ?_))); (case side2 => exact HC1.out); rintro e w87 ⟨v154, rfl, ho0, hb⟩; refine ⟨_, rfl, ?_⟩; have n0_ := Aside0.mk (Kd.R_below (by exact Ho.RS <| HO_6.out) hb); have n1_ := Aside0.mk (Kd.R_below (by exact Ho.RS <| HO_10.out) hb); have n2_ := Aside0.mk (Kd.R_below (by exact Ho.RS <| HO_122002.out) hb); have n3_ := Aside0.mk (Kd.R_below (by exact Ho.RS <| HO152.out) hb); have n4_ := Aside0.mk (Kd.R_lower ho0 (below_size (by exact eS HB.out))); have n5_ := Aside0.mk (blk_below (bS BK101.out) hb); have n6_ := Aside0.mk (blk_below (bS BK121.out) hb); have n7_ := Aside0.mk (below_step (by exact eS HB.out) hb); clear HO_6; clear HO_10; clear HO_122002; clear HO152; clear BK101; clear BK121; clear HB; have HO_6 := n0_; have HO_10 := n1_; have HO_122002 := n2_; have HO152 := n3_; have HO155 := n4_; have BK101 := n5_; have BK121 := n6_; have HB := n7_; clear n0_ n1_ n2_ n3_ n4_ n5_ n6_ n7_; (try clear hb); (try clear hb2); (try clear hk); (try clear hi); (try clear ho0); obtain ⟨Ao88, co88, eo88⟩ := Kd.R_slice HO152.out; subst eo88; obtain ⟨Ao89, co89, eo89⟩ := Kd.R_slice HO155.out; subst eo89) | ((with_reducible refine gate_callee (f := 28) rfl ?_); refine goesL_ (some 99) rfl rfl Try.func28 (by kernel_rfl) rfl #[.agg #[.int .i64 t148, .int .i64 t149, .slice Ao88 t150.length co88], .slice Ao89 t153.length co89] rfl (by (try simp only [List.map_toArray, List.map_cons, List.map_nil]); first | done | rfl | (simp only [List.length_drop, List.length_take]; rfl)) ?_; (with_reducible refine (impl_YarnLost.calls kj53 t148 t149 _ _ t150 _ _ t153 t156 t159 _ ?side1 ?side2 ?side3 ?side4 A80.out).mono ?_); (case side1 => repeat (first | exact (Kd.R_reads' HO152.out).2.2 | (with_reducible refine Kd.C_alloc ?_ _) | (with_reducible refine Kd.C_drewN ?_ _) | (with_reducible refine Kd.C_drew ?_))); (case side2 => exact (Kd.R_reads' HO152.out).2.1); (case side3 => repeat (first | exact (Kd.R_reads' HO155.out).2.2 | (with_reducible refine Kd.C_alloc ?_ _) | (with_reducible refine Kd.C_drewN ?_ _) | (with_reducible refine Kd.C_drew ?_))); (case side4 => exact (Kd.R_reads' HO155.out).2.1); rintro e w90 ⟨v157, rfl, ho0, hb⟩; refine ⟨_, rfl, ?_⟩; have n0_ := Aside0.mk (Kd.R_elder' (by exact Ho.RS <| HO_6.out) (Kd.R_base ho0) hb); have n1_ := Aside0.mk (Kd.R_elder' (by exact Ho.RS <| HO_10.out) (Kd.R_base ho0) hb); have n2_ := Aside0.mk (Kd.R_elder' (by exact Ho.RS <| HO_122002.out) (Kd.R_base ho0) hb); have n3_ := Aside0.mk (Kd.R_elder' (by exact Ho.RS <| HO152.out) (Kd.R_base ho0) hb); have n4_ := Aside0.mk (Kd.R_below (by exact Ho.RS <| HO155.out) hb); have n5_ := Aside0.mk (Kd.R_lower (Kd.R_new' (Kd.R_new' (Kd.R_new' (Kd.R_new' ho0 (Kd.R_lt (by exact Ho.RS <| HO_6.out))) (Kd.R_lt (by exact Ho.RS <| HO_10.out))) (Kd.R_lt (by exact Ho.RS <| HO_122002.out))) (Kd.R_lt (by exact Ho.RS <| HO152.out))) (below_size (by exact eS HB.out))); have n6_ := Aside0.mk (blk_below (bS BK101.out) hb); have n7_ := Aside0.mk (blk_below (bS BK121.out) hb); have n8_ := Aside0.mk (below_step (by exact eS HB.out) hb); clear HO_6; clear HO_10; clear HO_122002; clear HO152; clear HO155; clear BK101; clear BK121; clear HB; have HO_6 := n0_; have HO_10 := n1_; have HO_122002 := n2_; have HO152 := n3_; have HO155 := n4_; have HO158 := n5_; have BK101 := n6_; have BK121 := n7_; have HB := n8_; clear n0_ n1_ n2_ n3_ n4_ n5_ n6_ n7_ n8_; (try clear hb); (try clear hb2); (try clear hk); (try clear hi); (try clear ho0)))
             (try simp only [Act.put, List.setIfInBounds_toArray, List.set_cons_zero, List.set_cons_succ])
             go_cut [110] (fun v110 wc => ∃ (kq : Nat) (x110_80 : Bool), v110 = .bool x110_80 ∧ Aside0 (laws_FnExactYarnLost.j2 kq t146 t145 x110_80 = some r) ∧ Aside0 (kq ≤ kj53) ∧ Aside0 (Kd.R (Kd.int .i64) 3 wc w.heap.size (fun k_ => some k_ ≠ ((.slice Ao34 t141.length co34) : Value).ownBlock) (.slice Ao82 t125.length co82) t146) ∧ Aside0 (Kd.R (Kd.int .i64) 3 wc w.heap.size (fun k_ => some k_ ≠ ((.slice Ao82 t125.length co82) : Value).ownBlock) (.slice Ao34 t141.length co34) t141) ∧ Aside0 (wc.heap[gb101]? = some (.cells #[.int .i64 a0_0, .int .i64 a0_1, (.slice A0_2 l0_2.length c0_2)] 24 (0, 0))) ∧ Aside0 (wc.heap[gb121]? = some (.cells #[.int .i64 t116, .int .i64 t117, (.slice Ao34 t141.length co34)] 29 (0, 0))) ∧ Aside0 (Below w.heap.size w wc))
             case first =>
              have H := HC81.out
              clear HC81
              replace H := Option.bind_eq_some_iff.mp H
              obtain ⟨t160, A910, H⟩ := H
              replace H : (if t160 = true then (laws_FnExactYarnLost.j2 kj53 t146 t145 (t159 != t115)) else (laws_FnExactYarnLost.j2 kj53 t146 t145 true)) = some r := H
              have A91 := Aside0.mk A910
              clear A910
              by_cases c92 : t160 = true
              ·subst c92
               have H1 : (laws_FnExactYarnLost.j2 kj53 t146 t145 (t159 != t115)) = some r := by rw [if_pos rfl] at H; exact H
               clear H
               have H := H1
               clear H1
               as_aux_lemma =>
                have H' := Aside0.mk H
                clear H
                obtain ⟨Ao93, co93, eo93⟩ := Kd.R_slice HO158.out
                subst eo93
                obtain ⟨Ao94, co94, eo94⟩ := Kd.R_slice HO_6.out
                subst eo94
                go_wp2_with (first | ((with_reducible refine gate_callee (f := 29) rfl ?_); refine goesL_ (some 104) rfl rfl Try.func29 (by kernel_rfl) rfl #[.slice Ao93 t156.length co93, .slice Ao94 t112.length co94] rfl (by (try simp only [List.map_toArray, List.map_cons, List.map_nil]); first | done | rfl | (simp only [List.length_drop, List.length_take]; rfl)) ?_; (with_reducible refine (laws_eqIntS.calls kj53 _ _ t156 _ _ t112 true _ ?side1 ?side2 ?side3 ?side4 A91.out).mono ?_); (case side1 => repeat (first | exact (Kd.R_reads' HO158.out).2.2 | (with_reducible refine Kd.C_alloc ?_ _) | (with_reducible refine Kd.C_drewN ?_ _) | (with_reducible refine Kd.C_drew ?_))); (case side2 => exact (Kd.R_reads' HO158.out).2.1); (case side3 => repeat (first | exact (Kd.R_reads' HO_6.out).2.2 | (with_reducible refine Kd.C_alloc ?_ _) | (with_reducible refine Kd.C_drewN ?_ _) | (with_reducible refine Kd.C_drew ?_))); (case side4 => exact (Kd.R_reads' HO_6.out).2.1); rintro e w' ⟨rfl, ⟨nd, rfl⟩⟩; refine ⟨_, rfl, ?_⟩))
                go_meet
                case rel => exact ⟨_, ((t159 != t115)), (by first | rfl | (simp; done) | (simp [*]; done)), H', ⟨by have := HJ18.out; have := HJ53.out; first | omega | exact Nat.le_refl _⟩, ⟨by (try simp only [hl122002_53]); exact Ho.RS <| Kd.R_mono HO_10.out (fun _ hk => hk.1.1.2)⟩, ⟨by (try simp only [hl122002_53]); exact Ho.RS <| Kd.R_mono HO_122002.out (fun _ hk => hk.1.1.2)⟩, ⟨by (try simp only [hl122002_53]); exact bS BK101.out⟩, ⟨by (try simp only [hl122002_53]); exact bS BK121.out⟩, ⟨by exact eS HB.out⟩⟩
              ·replace c92 := Bool.eq_false_iff.mpr c92
               subst c92
               have H1 : (laws_FnExactYarnLost.j2 kj53 t146 t145 true) = some r := by rw [if_neg (show ¬ (false = true) by decide)] at H; exact H
               clear H
               have H := H1
               clear H1
               as_aux_lemma =>
                have H' := Aside0.mk H
                clear H
                obtain ⟨Ao95, co95, eo95⟩ := Kd.R_slice HO158.out
                subst eo95
                obtain ⟨Ao96, co96, eo96⟩ := Kd.R_slice HO_6.out
                subst eo96
                go_wp2_with (first | ((with_reducible refine gate_callee (f := 29) rfl ?_); refine goesL_ (some 104) rfl rfl Try.func29 (by kernel_rfl) rfl #[.slice Ao95 t156.length co95, .slice Ao96 t112.length co96] rfl (by (try simp only [List.map_toArray, List.map_cons, List.map_nil]); first | done | rfl | (simp only [List.length_drop, List.length_take]; rfl)) ?_; (with_reducible refine (laws_eqIntS.calls kj53 _ _ t156 _ _ t112 false _ ?side1 ?side2 ?side3 ?side4 A91.out).mono ?_); (case side1 => repeat (first | exact (Kd.R_reads' HO158.out).2.2 | (with_reducible refine Kd.C_alloc ?_ _) | (with_reducible refine Kd.C_drewN ?_ _) | (with_reducible refine Kd.C_drew ?_))); (case side2 => exact (Kd.R_reads' HO158.out).2.1); (case side3 => repeat (first | exact (Kd.R_reads' HO_6.out).2.2 | (with_reducible refine Kd.C_alloc ?_ _) | (with_reducible refine Kd.C_drewN ?_ _) | (with_reducible refine Kd.C_drew ?_))); (case side4 => exact (Kd.R_reads' HO_6.out).2.1); rintro e w' ⟨rfl, ⟨nd, rfl⟩⟩; refine ⟨_, rfl, ?_⟩))
                go_meet
                case rel => exact ⟨_, (true), (by first | rfl | (simp; done) | (simp [*]; done)), H', ⟨by have := HJ18.out; have := HJ53.out; first | omega | exact Nat.le_refl _⟩, ⟨by (try simp only [hl122002_53]); exact Ho.RS <| Kd.R_mono HO_10.out (fun _ hk => hk.1.1.2)⟩, ⟨by (try simp only [hl122002_53]); exact Ho.RS <| Kd.R_mono HO_122002.out (fun _ hk => hk.1.1.2)⟩, ⟨by (try simp only [hl122002_53]); exact bS BK101.out⟩, ⟨by (try simp only [hl122002_53]); exact bS BK121.out⟩, ⟨by exact eS HB.out⟩⟩
             case rest =>
              clear HC81
              try clear c1
              try clear c2
              try clear p2
              try clear c3
              try clear c4
              try clear c4b0
              try clear c5
              try clear c6
              try clear c7
              try clear c8
              try clear c9
              try clear c9b0
              try clear c10
              try clear c11
              try clear c13
              try clear c14
              try clear c16
              try clear c17
              try clear c27
              try clear c28
              try clear c29
              try clear c30
              try clear c31
              try clear c32
              try clear c33
              try clear c40
              try clear c45
              try clear c48
              try clear c51
              try clear c62
              try clear c66
              try clear c66b0
              try clear c68
              try clear c73
              try clear c76
              try clear c76b0
              try clear c77
              try clear c77b0
              try clear c77b1
              try clear c84
              try clear c92
              try clear hcz11_0
              try clear hcz11_1
              try clear hcz11_2
              try clear hcz21_0
              try clear hcz21_1
              try clear hcz21_2
              try clear hcz23_0
              try clear hcz23_1
              try clear hcz23_2
              try clear hcz29_0
              try clear hcz29_1
              try clear hcz29_2
              try clear hcz33_0
              try clear hcz33_1
              try clear hcz33_2
              try clear hcz36_0
              try clear hcz36_1
              try clear hcz36_2
              try clear hcz63_0
              try clear hcz63_1
              try clear hcz63_2
              try clear hcz6_0
              try clear hcz6_1
              try clear hcz6_2
              try clear hcz85_0
              try clear hcz85_1
              try clear hcz85_2
              try clear hfz11_0
              try clear hfz11_1
              try clear hfz11_2
              try clear hfz21_0
              try clear hfz21_1
              try clear hfz21_2
              try clear hfz23_0
              try clear hfz23_1
              try clear hfz23_2
              try clear hfz29_0
              try clear hfz29_1
              try clear hfz29_2
              try clear hfz33_0
              try clear hfz33_1
              try clear hfz33_2
              try clear hfz36_0
              try clear hfz36_1
              try clear hfz36_2
              try clear hfz63_0
              try clear hfz63_1
              try clear hfz63_2
              try clear hfz6_0
              try clear hfz6_1
              try clear hfz6_2
              try clear hfz85_0
              try clear hfz85_1
              try clear hfz85_2
              try clear p2
              obtain ⟨kq, x110_80, rfl, HA, HJ80, HO_10, HO_122002, BK101, BK121, HB⟩ := hcut
              have hl10_80 := (Kd.R_reads' HO_10.out).1
              rw [hl10_80] at HO_10
              (try simp only [hl10_80])
              (try simp only [hl10_80] at BK101)
              (try simp only [hl10_80] at BK121)
              (try simp only [hl10_80] at HO_122002)
              cases kq with
              | zero => exact absurd HA.out (by simp [laws_FnExactYarnLost.j2])
              | succ kj80 =>
               have H := HA.out
               clear HA
               simp only [laws_FnExactYarnLost.j2] at H
               by_cases c97 : x110_80 = true
               ·subst c97
                have H1 : (some false) = some r := by rw [if_pos rfl] at H; exact H
                clear H
                have H := H1
                clear H1
                as_aux_lemma =>
                 exact absurd ((Option.some.inj H).trans HT.out) (by decide)
               ·replace c97 := Bool.eq_false_iff.mpr c97
                subst c97
                have H1 : ((laws_heldIntS.f kj80 t146 1).bind fun t161 => (if t161 < 0 then (some false) else (if t161 = t145 then (some true) else (some false)))) = some r := by rw [if_neg (show ¬ (false = true) by decide)] at H; exact H
                clear H
                have H := H1
                clear H1
                replace H := Option.bind_eq_some_iff.mp H
                obtain ⟨t161, A980, H⟩ := H
                replace H : (if t161 < 0 then (some false) else (if t161 = t145 then (some true) else (some false))) = some r := H
                have A98 := Aside0.mk A980
                clear A980
                by_cases c99 : t161 < 0
                ·rw [if_pos c99] at H
                 have c99b0 : decide (t161 < 0) = true := decide_eq_true c99
                 clear c99
                 as_aux_lemma =>
                  exact absurd ((Option.some.inj H).trans HT.out) (by decide)
                ·rw [if_neg c99] at H
                 have c99b0 : decide (t161 < 0) = false := decide_eq_false c99
                 clear c99
                 by_cases c100 : t161 = t145
                 ·rw [if_pos c100] at H
                  have c100b0 : (t161 == t145) = true := beq_iff_eq.mpr c100
                  have c100b1 : (t161 != t145) = false := bne_eq_false_iff_eq.mpr c100
                  clear c100
                  as_aux_lemma =>
                   obtain rfl := Option.some.inj H
                   go_wp2_with (first | ((with_reducible refine gate_callee (f := 33) rfl ?_); refine goesL_ (some 113) rfl rfl Try.func33 (by kernel_rfl) rfl #[.slice Ao82 t146.length co82, .int .i64 1] rfl (by (try simp only [List.map_toArray, List.map_cons, List.map_nil]); first | done | rfl | (simp only [List.length_drop, List.length_take]; rfl)) ?_; (with_reducible refine (laws_heldIntS.calls kj80 _ _ t146 1 t161 _ ?side1 ?side2 A98.out).mono ?_); (case side1 => repeat (first | exact (Kd.R_reads' HO_10.out).2.2 | (with_reducible refine Kd.C_alloc ?_ _) | (with_reducible refine Kd.C_drewN ?_ _) | (with_reducible refine Kd.C_drew ?_))); (case side2 => exact (Kd.R_reads' HO_10.out).2.1); rintro e w' ⟨rfl, ⟨nd, rfl⟩⟩; refine ⟨_, rfl, ?_⟩))
                   go_ret
                   exact ⟨by first | rfl | (simp [errW_none, errW_some] <;> rfl) | (simp [*, errW_none, errW_some] <;> rfl), by exact eS HB.out⟩
                 ·rw [if_neg c100] at H
                  have c100b0 : (t161 == t145) = false := beq_eq_false_iff_ne.mpr c100
                  have c100b1 : (t161 != t145) = true := bne_iff_ne.mpr c100
                  as_aux_lemma =>
                   exact absurd ((Option.some.inj H).trans HT.out) (by decide)
            ·rw [if_neg c77] at H
             have c77b0 : (t147 == t145) = false := beq_eq_false_iff_ne.mpr c77
             have c77b1 : (t147 != t145) = true := bne_iff_ne.mpr c77
             as_aux_lemma =>
              exact absurd ((Option.some.inj H).trans HT.out) (by decide)
       ·replace c51 := Bool.eq_false_iff.mpr c51
        subst c51
        have H1 : (some false) = some r := by rw [if_neg (show ¬ (false = true) by decide)] at H; exact H
        clear H
        have H := H1
        clear H1
        as_aux_lemma =>
         exact absurd ((Option.some.inj H).trans HT.out) (by decide)
      ·replace c48 := Bool.eq_false_iff.mpr c48
       subst c48
       have H1 : (some false) = some r := by rw [if_neg (show ¬ (false = true) by decide)] at H; exact H
       clear H
       have H := H1
       clear H1
       as_aux_lemma =>
        exact absurd ((Option.some.inj H).trans HT.out) (by decide)

/-- THE ONE PURE STATEMENT of laws_FnExactYarnLost: yours. -/
def laws_FnExactYarnLost.Pure : Prop := ∀ (a0_0 : Int) (a0_1 : Int) (l0_2 : List Int) (l1 : List (S67)), (Lit.int .i64 a0_0).wf = true → (Lit.int .i64 a0_1).wf = true → (l0_2.length ≤ 9223372036854775807 ∧ ∀ y_ ∈ l0_2, (Lit.int .i64 y_).wf = true) → (l1.length ≤ 9223372036854775807 ∧ ∀ y_ ∈ l1, ok67 y_) → ∃ k, laws_FnExactYarnLost.f k a0_0 a0_1 l0_2 l1 = some true

end Go.Proofs.Ytbfhphobnngeaaa.X

-- Qbase
namespace Go.Proofs.Ytbfhphobnngeaaa.Pure
open Go Go.RowKit Go.Proofs Go.Proofs.YtbfhphobnngeaaaW.PrintWords Go.Proofs.YtbfhphobnngeaaaW.PrintLast
set_option linter.unusedVariables false
set_option linter.unusedSimpArgs false

theorem w64 {x : Int} (h1 : -9223372036854775808 ≤ x) (h2 : x ≤ 9223372036854775807) : wrap64 x = x := by unfold wrap64; omega
theorem w64b {x : Int} (h : -9223372036854775808 ≤ x ∧ x ≤ 9223372036854775807) : wrap64 x = x := w64 h.1 h.2
theorem ite_sf (a b : Bool) : (if a = true then some b else some false) = some (a && b) := by cases a <;> rfl
theorem ite_sf2 (a b : Bool) : (if a = true then some false else some b) = some (!a && b) := by cases a <;> rfl
theorem wf_bd {x : Int} (h : (Lit.int .i64 x).wf = true) : -9223372036854775808 ≤ x ∧ x ≤ 9223372036854775807 := by
  have h1 := h
  simp [Lit.wf] at h1
  exact ⟨h1.1, h1.2⟩
/-- a product of two numbers within bounds -/
theorem mul_bd {a b A B : Int} (ha : 0 ≤ a) (hA : a ≤ A) (hb : 0 ≤ b) (hB : b ≤ B) : 0 ≤ a * b ∧ a * b ≤ A * B :=
  ⟨Int.mul_nonneg ha hb, Int.mul_le_mul hA hB hb (Int.le_trans ha hA)⟩
theorem drop_step {α : Type} {l : List α} {i : Nat} (h : i < l.length) (d : α) : l.drop i = l.getD i d :: l.drop (i + 1) := by
  rw [List.drop_eq_getElem_cons h]; congr 1; simp [List.getD_eq_getElem?_getD, List.getElem?_eq_getElem h]
theorem wstep {i : Nat} {n : Nat} (h : i < n) (hn : n ≤ 9223372036854775807) : wrap64 ((i : Int) + 1) = ((i + 1 : Nat) : Int) := by unfold wrap64; omega
theorem nat_of {i : Int} (h : 0 ≤ i) : ∃ n : Nat, i = n := ⟨i.toNat, by omega⟩
theorem succ_of {k d : Nat} (h : d < k) : ∃ m, k = m + 1 ∧ d ≤ m := ⟨k - 1, by omega, by omega⟩

end Go.Proofs.Ytbfhphobnngeaaa.Pure

-- Qloops
namespace Go.Proofs.Ytbfhphobnngeaaa.Pure
open Go Go.RowKit Go.Proofs Go.Proofs.YtbfhphobnngeaaaW.PrintWords Go.Proofs.YtbfhphobnngeaaaW.PrintLast
set_option linter.unusedVariables false
set_option linter.unusedSimpArgs false

/-- A loop that copies element by element into a new row. -/
theorem copy_loop {α β : Type} (L : Nat → List α → List β → Int → Option (List β)) (f : α → β) (d : α) (l : List α) (hb : l.length ≤ 9223372036854775806)
    (hs : ∀ k x3 (i : Nat), i < l.length → x3.length = l.length → L (k + 1) l x3 i = L k l (x3.set i (f (l.getD i d))) (wrap64 ((i : Int) + 1)))
    (he : ∀ k x3 (i : Nat), l.length ≤ i → L (k + 1) l x3 i = some x3) :
    ∀ n k (i : Nat) (x3 : List β), i + n = l.length → n < k → x3.length = l.length → x3.take i = (l.take i).map f → L k l x3 i = some (l.map f) := by
  intro n
  induction n with
  | zero =>
    intro k i x3 hi hk hl ht
    obtain ⟨k, rfl, _⟩ := succ_of hk
    rw [he k x3 i (by omega)]
    rw [List.take_of_length_le (by omega), List.take_of_length_le (by omega)] at ht
    rw [ht]
  | succ n ih =>
    intro k i x3 hi hk hl ht
    obtain ⟨k, rfl, hk⟩ := succ_of hk
    rw [hs k x3 i (by omega) hl, wstep (show i < l.length by omega) (by omega)]
    refine ih k (i + 1) _ (by omega) (by omega) (by rw [List.length_set]; exact hl) ?_
    rw [List.take_succ_eq_append_getElem (by rw [List.length_set]; omega), List.take_succ_eq_append_getElem (by omega), List.map_append, ← ht]
    congr 1
    · rw [List.take_set_of_le (Nat.le_refl _)]
    · simp [List.getD_eq_getElem?_getD, List.getElem?_eq_getElem (show i < l.length by omega)]
/-- A loop that compares a row with itself. -/
theorem refl_loop {α : Type} (L : Nat → List α → List α → Int → Option Bool) (l : List α) (hb : l.length ≤ 9223372036854775806)
    (hs : ∀ k (i : Nat), i < l.length → L (k + 1) l l i = L k l l (wrap64 ((i : Int) + 1))) (he : ∀ k (i : Nat), l.length ≤ i → L (k + 1) l l i = some true) :
    ∀ n k (i : Nat), i + n = l.length → n < k → L k l l i = some true := by
  intro n
  induction n with
  | zero =>
    intro k i hi hk
    obtain ⟨k, rfl, _⟩ := succ_of hk
    exact he k i (by omega)
  | succ n ih =>
    intro k i hi hk
    obtain ⟨k, rfl, hk⟩ := succ_of hk
    rw [hs k i (by omega), wstep (show i < l.length by omega) (by omega)]
    exact ih k (i + 1) (by omega) (by omega)
/-- A loop that asks of all elements, from i on. -/
theorem all_loop {α : Type} (L : Nat → Int → Option Bool) (q : α → Bool) (d : α) (l : List α) (e : Bool) (hb : l.length ≤ 9223372036854775806)
    (hs : ∀ k (i : Nat), i < l.length → L (k + 1) i = if q (l.getD i d) = true then L k (wrap64 ((i : Int) + 1)) else some false) (he : ∀ k (i : Nat), l.length ≤ i → L (k + 1) i = some e) :
    ∀ n k (i : Nat), i + n = l.length → n < k → L k i = some ((l.drop i).all q && e) := by
  intro n
  induction n with
  | zero =>
    intro k i hi hk
    obtain ⟨k, rfl, _⟩ := succ_of hk
    rw [he k i (by omega), List.drop_eq_nil_of_le (by omega)]; rfl
  | succ n ih =>
    intro k i hi hk
    obtain ⟨k, rfl, hk⟩ := succ_of hk
    rw [hs k i (by omega), wstep (show i < l.length by omega) (by omega), drop_step (by omega) d, List.all_cons, ih k (i + 1) (by omega) (by omega)]
    cases q (l.getD i d) <;> simp
/-- What marks leave: each element tells its own number. -/
def markM {α : Type} (g : Int → α) (c : Int) (n : Nat) (s : Int) : List α := (List.range n).map fun (j : Nat) => g (s + c * (j : Int))
theorem markM_length {α : Type} (g : Int → α) (c : Int) (n : Nat) (s : Int) : (markM g c n s).length = n := by simp [markM]
theorem markM_getD {α : Type} (g : Int → α) (c : Int) (n : Nat) (s : Int) (d : α) {i : Nat} (h : i < n) : (markM g c n s).getD i d = g (s + c * i) := by
  simp [markM, List.getD_eq_getElem?_getD, List.getElem?_map, List.getElem?_range h]
/-- A loop that marks. -/
theorem mark_loop {α : Type} (L : Nat → List α → Int → Int → Option (Int × List α)) (g : Int → α) (c : Int) (n0 : Nat) (s : Int) (hb : n0 ≤ 9223372036854775806) 
    (hs : ∀ k x (i : Nat), i < n0 → x.length = n0 → L (k + 1) x (s + c * i) i = L k (x.set i (g (s + c * i))) (s + c * ((i + 1 : Nat) : Int)) (wrap64 ((i : Int) + 1)))
    (he : ∀ k x m (i : Nat), n0 ≤ i → x.length = n0 → L (k + 1) x m i = some (m, x)) :
    ∀ n k (i : Nat) (x : List α), i + n = n0 → n < k → x.length = n0 → x.take i = (markM g c n0 s).take i → L k x (s + c * i) i = some (s + c * n0, markM g c n0 s) := by
  intro n
  induction n with
  | zero =>
    intro k i x hi hk hl ht
    obtain ⟨k, rfl, _⟩ := succ_of hk
    rw [he k x _ i (by omega) hl]
    rw [List.take_of_length_le (by omega), List.take_of_length_le (by rw [markM_length]; omega)] at ht
    rw [ht]; simp [show i = n0 by omega]
  | succ n ih =>
    intro k i x hi hk hl ht
    obtain ⟨k, rfl, hk⟩ := succ_of hk
    rw [hs k x i (by omega) hl, wstep (show i < n0 by omega) (by omega)]
    refine ih k (i + 1) _ (by omega) (by omega) (by rw [List.length_set]; exact hl) ?_
    rw [List.take_succ_eq_append_getElem (by rw [List.length_set]; omega), List.take_succ_eq_append_getElem (by rw [markM_length]; omega), ← ht]
    congr 1
    · rw [List.take_set_of_le (Nat.le_refl _)]
    · simp [markM]
/-- A loop that asks for the marks. -/
theorem held_loop {α : Type} (L : Nat → List α → Int → Int → Option Int) (g : Int → α) (c : Int) (n0 : Nat) (s : Int) (hb : n0 ≤ 9223372036854775806)
    (hs : ∀ k (i : Nat), i < n0 → L (k + 1) (markM g c n0 s) (s + c * i) i = L k (markM g c n0 s) (s + c * ((i + 1 : Nat) : Int)) (wrap64 ((i : Int) + 1)))
    (he : ∀ k m (i : Nat), n0 ≤ i → L (k + 1) (markM g c n0 s) m i = some m) :
    ∀ n k (i : Nat), i + n = n0 → n < k → L k (markM g c n0 s) (s + c * i) i = some (s + c * n0) := by
  intro n
  induction n with
  | zero =>
    intro k i hi hk
    obtain ⟨k, rfl, _⟩ := succ_of hk
    rw [he k _ i (by omega), show i = n0 by omega]
  | succ n ih =>
    intro k i hi hk
    obtain ⟨k, rfl, hk⟩ := succ_of hk
    rw [hs k i (by omega), wstep (show i < n0 by omega) (by omega)]
    exact ih k (i + 1) (by omega) (by omega)
theorem rd_nat (l : List Int) (i : Nat) : rd l (i : Int) = l.getD i 0 := by simp [rd]

end Go.Proofs.Ytbfhphobnngeaaa.Pure

-- QeqInts
namespace Go.Proofs.Ytbfhphobnngeaaa.Pure
open Go Go.RowKit Go.Proofs Go.Proofs.Ytbfhphobnngeaaa.X Go.Proofs.YtbfhphobnngeaaaW.PrintWords Go.Proofs.YtbfhphobnngeaaaW.PrintLast
set_option linter.unusedVariables false
set_option linter.unusedSimpArgs false

theorem eqIntS_refl {k : Nat} {l : List Int} (hk : l.length < k) (hl : l.length ≤ 9223372036854775806) : laws_eqIntS.f k l l = some true := by
  unfold laws_eqIntS.f
  rw [if_pos rfl]
  exact refl_loop laws_eqIntS.l0 l hl
    (fun k i h => by simp only [laws_eqIntS.l0]; rw [if_pos (by omega), if_pos (by omega), if_pos (by omega)]; simp)
    (fun k i h => by simp only [laws_eqIntS.l0]; rw [if_neg (by omega)])
    l.length k 0 (by omega) hk

end Go.Proofs.Ytbfhphobnngeaaa.Pure

-- Qinrange
namespace Go.Proofs.Ytbfhphobnngeaaa.Pure
open Go Go.RowKit Go.Proofs Go.Proofs.Ytbfhphobnngeaaa.X Go.Proofs.YtbfhphobnngeaaaW.PrintWords Go.Proofs.YtbfhphobnngeaaaW.PrintLast
set_option linter.unusedVariables false
set_option linter.unusedSimpArgs false

theorem in_eq (x a b : Int) : impl_in.f x a b = some (decide (a ≤ x ∧ x ≤ b)) := by
  unfold impl_in.f
  by_cases h1 : a ≤ x <;> simp [h1]

end Go.Proofs.Ytbfhphobnngeaaa.Pure

-- Qspecin
namespace Go.Proofs.Ytbfhphobnngeaaa.Pure
open Go Go.RowKit Go.Proofs Go.Proofs.Ytbfhphobnngeaaa.X Go.Proofs.YtbfhphobnngeaaaW.PrintWords Go.Proofs.YtbfhphobnngeaaaW.PrintLast
set_option linter.unusedVariables false
set_option linter.unusedSimpArgs false

theorem l1In_eq (x a b : Int) : spec_l1In.f x a b = some (decide (a ≤ x ∧ x ≤ b)) := by
  unfold spec_l1In.f
  by_cases h1 : a ≤ x <;> simp [h1]

end Go.Proofs.Ytbfhphobnngeaaa.Pure

-- QtoInts
namespace Go.Proofs.Ytbfhphobnngeaaa.Pure
open Go Go.RowKit Go.Proofs Go.Proofs.Ytbfhphobnngeaaa.X Go.Proofs.YtbfhphobnngeaaaW.PrintWords Go.Proofs.YtbfhphobnngeaaaW.PrintLast
set_option linter.unusedVariables false
set_option linter.unusedSimpArgs false

theorem toIntS_eq {k : Nat} {l : List Int} (hk : l.length < k) (hl : l.length ≤ 1048576) : laws_toIntS.f k l = some l := by
  unfold laws_toIntS.f
  rw [if_pos (by omega), if_pos (by simp; omega)]
  have h := copy_loop laws_toIntS.l0 (fun x => x) 0 l (by omega)
    (fun k x3 i h1 h2 => by
      simp only [laws_toIntS.l0]
      rw [if_pos (by omega), if_pos (by omega), if_pos (by omega), rd_nat]; simp)
    (fun k x3 i h1 => by simp only [laws_toIntS.l0]; rw [if_neg (by omega)])
    l.length k 0 (List.replicate l.length 0) (by omega) hk (by simp) (by simp)
  simpa using h

end Go.Proofs.Ytbfhphobnngeaaa.Pure

-- Qchart
namespace Go.Proofs.Ytbfhphobnngeaaa.Pure
open Go Go.RowKit Go.Proofs Go.Proofs.Ytbfhphobnngeaaa.X Go.Proofs.YtbfhphobnngeaaaW.PrintWords Go.Proofs.YtbfhphobnngeaaaW.PrintLast
set_option linter.unusedVariables false
set_option linter.unusedSimpArgs false

def colorB (x : Int) : Bool := decide (0 ≤ x ∧ x ≤ 5)
def sideB (x : Int) : Bool := decide (1 ≤ x ∧ x ≤ 8)
def chartB (w h : Int) (l : List Int) : Bool := sideB w && (sideB h && (decide ((l.length : Int) = w * h) && l.all colorB))
theorem side_of {x : Int} (h : sideB x = true) : 1 ≤ x ∧ x ≤ 8 := by simpa [sideB] using h
theorem side_w {w h : Int} (hw : sideB w = true) (hh : sideB h = true) : 0 ≤ w * h ∧ w * h ≤ 64 := by
  have := side_of hw; have := side_of hh
  exact mul_bd (A := 8) (B := 8) (by omega) (by omega) (by omega) (by omega)
theorem chart_of {w h : Int} {l : List Int} (hc : chartB w h l = true) : (1 ≤ w ∧ w ≤ 8) ∧ (1 ≤ h ∧ h ≤ 8) ∧ (l.length : Int) = w * h ∧ l.length ≤ 64 ∧ ∀ x ∈ l, 0 ≤ x ∧ x ≤ 5 := by
  simp only [chartB, Bool.and_eq_true, decide_eq_true_eq, List.all_eq_true] at hc
  obtain ⟨h1, h2, h3, h4⟩ := hc
  have := side_w h1 h2
  exact ⟨side_of h1, side_of h2, h3, by omega, fun x hx => by simpa [colorB] using h4 x hx⟩
theorem szIntS_eq {l : List Int} {a : Int} (hl : l.length ≤ 9223372036854775807) (ha : 0 ≤ a ∧ a ≤ 9223372036854775807) : laws_szIntS.f l a = some (if a < l.length then -1 else a - l.length) := by
  unfold laws_szIntS.f
  rw [w64 (by omega) (by omega)]
  by_cases h : a < l.length
  · rw [if_pos (by omega), if_pos h]
  · rw [if_neg (by omega), if_neg h]
theorem szChart_eq {w h a : Int} {l : List Int} (hl : l.length ≤ 9223372036854775807) (ha : 0 ≤ a ∧ a ≤ 9223372036854775807) : laws_szChart.f w h l a = some (if a < l.length then -1 else a - l.length) := by
  unfold laws_szChart.f
  rw [szIntS_eq hl ha]
  by_cases h : a < l.length
  · simp [h]
  · simp only [if_neg h, Option.bind_some]; rw [if_neg (by omega)]
theorem toChart_eq {k : Nat} {w h : Int} {l : List Int} (hk : l.length < k) (hl : l.length ≤ 1048576) : laws_toChart.f k w h l = some (w, h, l) := by
  simp only [laws_toChart.f, toIntS_eq hk hl, Option.bind_some]
theorem eqChart_refl {k : Nat} {w h : Int} {l : List Int} (hk : l.length < k) (hl : l.length ≤ 1048576) : laws_eqChart.f k w h l w h l = some true := by
  simp only [laws_eqChart.f, eqIntS_refl hk (by omega), Option.bind_some, if_true]
theorem isColor_eq (x : Int) : impl_isColor.f x = some (colorB x) := by simp only [impl_isColor.f, in_eq, Option.bind_some, colorB]
theorem isSide_eq (x : Int) : impl_isSide.f x = some (sideB x) := by simp only [impl_isSide.f, in_eq, Option.bind_some, sideB]
theorem l2Color_eq (x : Int) : spec_l2Color.f x = some (colorB x) := by simp only [spec_l2Color.f, l1In_eq, Option.bind_some, colorB]
theorem l2Side_eq (x : Int) : spec_l2Side.f x = some (sideB x) := by simp only [spec_l2Side.f, l1In_eq, Option.bind_some, sideB]
theorem IsChart_eq (w h : Int) (l : List Int) : impl_IsChart.f w h l = some (chartB w h l) := by
  simp only [impl_IsChart.f, isSide_eq, impl_areAll_int__impl_isColor.f, Ho.allO_eq (q := colorB) (fun x _ => isColor_eq x), Option.bind_some, chartB]
  cases hw : sideB w
  · simp
  · cases hh : sideB h
    · simp
    · have := side_w hw hh
      rw [w64 (by omega) (by omega)]
      by_cases he : (l.length : Int) = w * h <;> simp [he]
theorem l2Good_eq {k : Nat} {w h : Int} {l : List Int} (hk : l.length < k) (hl : l.length ≤ 1048576) : spec_l2Good.f k w h l = some (chartB w h l) := by
  unfold spec_l2Good.f
  have hx := all_loop (fun k i => spec_l2Good.l0 k i w h l) colorB 0 l (sideB w && (sideB h && decide ((l.length : Int) = w * h))) (by omega)
    (fun k i h1 => by
      simp only [spec_l2Good.l0]
      rw [if_pos (by omega), if_pos (by omega), rd_nat, l2Color_eq]
      simp only [Option.bind_some])
    (fun k i h1 => by
      simp only [spec_l2Good.l0]
      rw [if_neg (by omega)]
      simp only [l2Side_eq, Option.bind_some]
      cases hw : sideB w
      · simp
      · cases hh : sideB h
        · simp
        · have := side_w hw hh
          rw [w64 (by omega) (by omega)]
          simp [BEq.beq, instBEqOfDecidableEq])
    l.length k 0 (by omega) hk
  refine hx.trans ?_
  simp only [List.drop_zero, chartB]
  cases sideB w <;> cases sideB h <;> cases l.all colorB <;> simp

end Go.Proofs.Ytbfhphobnngeaaa.Pure

-- QlistHole
namespace Go.Proofs.Ytbfhphobnngeaaa.Pure
open Go Go.RowKit Go.Proofs Go.Proofs.Ytbfhphobnngeaaa.X Go.Proofs.YtbfhphobnngeaaaW.PrintWords Go.Proofs.YtbfhphobnngeaaaW.PrintLast
set_option linter.unusedVariables false
set_option linter.unusedSimpArgs false

def toHole (x : S67) : S39 := ⟨x.f0, x.f1, x.f2, x.f3⟩
theorem rdVHole_nat (l : List S67) (i : Nat) : rd_T67 l (i : Int) = l.getD i z67 := by simp [rd_T67]
theorem rdIHole_nat (l : List S39) (i : Nat) : rd_T39 l (i : Int) = l.getD i z39 := by simp [rd_T39]
theorem szHoleS_eq {l : List S67} {a : Int} (hl : l.length ≤ 9223372036854775807) (ha : 0 ≤ a ∧ a ≤ 9223372036854775807) : laws_szHoleS.f l a = some (if a < l.length then -1 else a - l.length) := by
  unfold laws_szHoleS.f
  rw [w64 (by omega) (by omega)]
  by_cases h : a < l.length
  · rw [if_pos (by omega), if_pos h]
  · rw [if_neg (by omega), if_neg h]
theorem toHoleS_eq {k : Nat} {l : List S67} (hk : l.length < k) (hl : l.length ≤ 1048576) : laws_toHoleS.f k l = some (l.map toHole) := by
  unfold laws_toHoleS.f
  rw [if_pos (by omega), if_pos (by simp; omega)]
  exact copy_loop laws_toHoleS.l0 toHole z67 l (by omega)
    (fun k x3 i h1 h2 => by
      simp only [laws_toHoleS.l0, laws_toHole.f, Option.bind_some]
      rw [if_pos (by omega), if_pos (by omega), if_pos (by omega), rdVHole_nat]
      simp [toHole])
    (fun k x3 i h1 => by simp only [laws_toHoleS.l0]; rw [if_neg (by omega)])
    l.length k 0 _ (by omega) hk (by simp) (by simp)
theorem eqHole_refl (a0 a1 a2 a3 : Int) : laws_eqHole.f a0 a1 a2 a3 a0 a1 a2 a3 = some true := by simp [laws_eqHole.f]
theorem eqHoleS_refl {k : Nat} {l : List S39} (hk : l.length < k) (hl : l.length ≤ 9223372036854775806) : laws_eqHoleS.f k l l = some true := by
  unfold laws_eqHoleS.f
  rw [if_pos rfl]
  exact refl_loop laws_eqHoleS.l0 l hl
    (fun k i h => by simp only [laws_eqHoleS.l0, eqHole_refl, Option.bind_some]; rw [if_pos (by omega), if_pos (by omega), if_pos (by omega)]; simp)
    (fun k i h => by simp only [laws_eqHoleS.l0]; rw [if_neg (by omega)])
    l.length k 0 (by omega) hk

end Go.Proofs.Ytbfhphobnngeaaa.Pure

-- QmarkInts
namespace Go.Proofs.Ytbfhphobnngeaaa.Pure
open Go Go.RowKit Go.Proofs Go.Proofs.Ytbfhphobnngeaaa.X Go.Proofs.YtbfhphobnngeaaaW.PrintWords Go.Proofs.YtbfhphobnngeaaaW.PrintLast
set_option linter.unusedVariables false
set_option linter.unusedSimpArgs false

theorem markIntS_eq {k : Nat} {l : List Int} {s : Int} (hk : l.length < k) (hl : l.length ≤ 1073741824) (hs : 0 ≤ s ∧ s ≤ 1073741824) : laws_markIntS.f k l s = some (s + 1 * l.length, markM (fun x => x) 1 l.length s) := by
  unfold laws_markIntS.f
  have h := mark_loop laws_markIntS.l0 (fun x => x) 1 l.length s (by omega)
    (fun k x i h1 h2 => by
      simp only [laws_markIntS.l0]
      rw [if_pos (by omega), if_pos (by omega)]
      rw [w64 (x := s + 1 * (i : Int) + 1) (by omega) (by omega)]
      congr 1 <;> first | (push_cast; omega) | simp)
    (fun k x m i h1 h2 => by simp only [laws_markIntS.l0]; rw [if_neg (by omega)])
    l.length k 0 l (by omega) hk rfl (by simp)
  simpa using h
theorem heldIntS_eq {k : Nat} {n : Nat} {s : Int} (hk : n < k) (hl : n ≤ 1073741824) (hs : 0 ≤ s ∧ s ≤ 1073741824) : laws_heldIntS.f k (markM (fun x => x) 1 n s) s = some (s + 1 * n) := by
  unfold laws_heldIntS.f
  have h := held_loop laws_heldIntS.l0 (fun x => x) 1 n s (by omega)
    (fun k i h1 => by
      simp only [laws_heldIntS.l0, markM_length]
      rw [if_pos (by omega), if_pos (by omega), rd_nat, markM_getD _ _ _ _ _ h1, if_pos rfl]
      rw [w64 (x := s + 1 * (i : Int) + 1) (by omega) (by omega)]
      congr 1; push_cast; omega)
    (fun k m i h1 => by simp only [laws_heldIntS.l0, markM_length]; rw [if_neg (by omega)])
    n k 0 (by omega) hk
  simpa using h

end Go.Proofs.Ytbfhphobnngeaaa.Pure

-- Qmarkchart
namespace Go.Proofs.Ytbfhphobnngeaaa.Pure
open Go Go.RowKit Go.Proofs Go.Proofs.Ytbfhphobnngeaaa.X Go.Proofs.YtbfhphobnngeaaaW.PrintWords Go.Proofs.YtbfhphobnngeaaaW.PrintLast
set_option linter.unusedVariables false
set_option linter.unusedSimpArgs false

theorem markChart_eq {k : Nat} {l : List Int} {s : Int} (hk : l.length < k) (hl : l.length ≤ 1073741824) (hs : 0 ≤ s ∧ s ≤ 1073741824) (w h : Int) : laws_markChart.f k w h l s = some (s + 1 * (l.length : Int), markM (fun x => x) 1 l.length s) := by
  simp only [laws_markChart.f, markIntS_eq hk hl hs, Option.bind_some]

end Go.Proofs.Ytbfhphobnngeaaa.Pure

-- QmarksHole
namespace Go.Proofs.Ytbfhphobnngeaaa.Pure
open Go Go.RowKit Go.Proofs Go.Proofs.Ytbfhphobnngeaaa.X Go.Proofs.YtbfhphobnngeaaaW.PrintWords Go.Proofs.YtbfhphobnngeaaaW.PrintLast
set_option linter.unusedVariables false
set_option linter.unusedSimpArgs false

def markHole (s : Int) : S39 := ⟨s, s + 1, s + 2, s + 3⟩
theorem markHoleS_eq {k : Nat} {l : List S39} {s : Int} (hk : l.length < k) (hl : l.length ≤ 1048576) (hs : 0 ≤ s ∧ s ≤ 1073741824) : laws_markHoleS.f k l s = some (s + 4 * (l.length : Int), markM markHole 4 l.length s) := by
  unfold laws_markHoleS.f
  have h := mark_loop laws_markHoleS.l0 markHole 4 l.length s (by omega)
    (fun k x i h1 h2 => by
      have hg : ∀ (y : List S39) (v : S39), y.length = l.length → (y.set i v).getD i z39 = v := by
        intro y v hy
        rw [List.getD_eq_getElem?_getD, List.getElem?_set_self (by omega)]; rfl
      simp only [laws_markHoleS.l0, Option.bind_some, rdIHole_nat, Int.toNat_natCast]
      rw [if_pos (by omega), if_pos (by omega)]
      simp only [hg, List.length_set, h2, List.set_set]
      rw [w64 (x := s + 4 * (i : Int) + 1) (by omega) (by omega), w64 (x := s + 4 * (i : Int) + 1 + 1) (by omega) (by omega), w64 (x := s + 4 * (i : Int) + 1 + 1 + 1) (by omega) (by omega), w64 (x := s + 4 * (i : Int) + 1 + 1 + 1 + 1) (by omega) (by omega)]
      have e1 : markHole (s + 4 * (i : Int)) = ⟨s + 4 * (i : Int), s + 4 * (i : Int) + 1, s + 4 * (i : Int) + 1 + 1, s + 4 * (i : Int) + 1 + 1 + 1⟩ := by
        unfold markHole; congr 1 <;> omega
      have e2 : s + 4 * ((i + 1 : Nat) : Int) = s + 4 * (i : Int) + 1 + 1 + 1 + 1 := by push_cast; omega
      rw [e1, e2])
    (fun k x m i h1 h2 => by simp only [laws_markHoleS.l0]; rw [if_neg (by omega)])
    l.length k 0 l (by omega) hk rfl (by simp)
  simpa using h

end Go.Proofs.Ytbfhphobnngeaaa.Pure

-- Qbump
namespace Go.Proofs.Ytbfhphobnngeaaa.Pure
open Go Go.RowKit Go.Proofs Go.Proofs.YtbfhphobnngeaaaW.PrintWords Go.Proofs.YtbfhphobnngeaaaW.PrintLast
set_option linter.unusedVariables false
set_option linter.unusedSimpArgs false

def bump (c : List Int) (v : Int) : List Int := c.modify v.toNat (fun x => wrap64 (x + 1))
theorem bump_set (c : List Int) (v : Int) (h : v.toNat < c.length) : c.set v.toNat (wrap64 (rd c v + 1)) = bump c v := by
  apply List.ext_getElem?
  intro i
  unfold bump rd
  rw [List.getElem?_set, List.getElem?_modify, List.getD_eq_getElem?_getD]
  by_cases e : v.toNat = i
  · subst e; simp [h]
  · simp [e]
theorem bump_len (c : List Int) (v : Int) : (bump c v).length = c.length := by simp [bump]
theorem bump_comm (c : List Int) (a b : Int) : bump (bump c a) b = bump (bump c b) a := by
  apply List.ext_getElem?
  intro i
  unfold bump
  simp only [List.getElem?_modify]
  by_cases e : a.toNat = i <;> by_cases f : b.toNat = i <;> simp [e, f]
theorem bump_perm {l m : List Int} (p : l.Perm m) (c : List Int) : l.foldl bump c = m.foldl bump c :=
  p.foldl_eq' (fun x _ y _ z => bump_comm z x y) c
theorem cells_perm (f : Nat → List Int) (l : List Nat) : (l.reverse.flatMap f).Perm (l.flatMap f) := (List.reverse_perm l).flatMap_right f

end Go.Proofs.Ytbfhphobnngeaaa.Pure

-- Qcmpint
namespace Go.Proofs.Ytbfhphobnngeaaa.Pure
open Go Go.RowKit Go.Proofs Go.Proofs.Ytbfhphobnngeaaa.X Go.Proofs.YtbfhphobnngeaaaW.PrintWords Go.Proofs.YtbfhphobnngeaaaW.PrintLast
set_option linter.unusedVariables false
set_option linter.unusedSimpArgs false

def cmpI (a b : Int) : Int := if a < b then -1 else if a > b then 1 else 0
theorem cmpI_eq (a b : Int) : cmp_Compare_int.f a b = some (cmpI a b) := by
  simp only [cmp_Compare_int.f, cmp_isNaN_int.f, bne_self_eq_false, Option.bind_some, Bool.false_eq_true, if_false, cmpI]
  (repeat' split) <;> rfl

end Go.Proofs.Ytbfhphobnngeaaa.Pure

-- Qidxall
namespace Go.Proofs.Ytbfhphobnngeaaa.Pure
open Go Go.RowKit Go.Proofs Go.Proofs.YtbfhphobnngeaaaW.PrintWords Go.Proofs.YtbfhphobnngeaaaW.PrintLast
set_option linter.unusedVariables false
set_option linter.unusedSimpArgs false

/-- q at all numbers from i on, n of them -/
def allR (q : Nat → Bool) (i n : Nat) : Bool := (List.range' i n).all q
theorem allR_iff {q : Nat → Bool} {i n : Nat} : allR q i n = true ↔ ∀ j, i ≤ j → j < i + n → q j = true := by
  unfold allR
  rw [List.all_eq_true]
  exact ⟨fun h j h1 h2 => h j (List.mem_range'_1.mpr ⟨h1, h2⟩), fun h j hj => h j (List.mem_range'_1.mp hj).1 (List.mem_range'_1.mp hj).2⟩
theorem allR_succ (q : Nat → Bool) (i n : Nat) : allR q i (n + 1) = (q i && allR q (i + 1) n) := by
  unfold allR; rw [List.range'_succ, List.all_cons]
/-- A loop that asks of all numbers, from i on. -/
theorem idx_loop (L : Nat → Int → Option Bool) (q : Nat → Bool) (i0 n0 : Nat) (e : Bool) (hb : n0 ≤ 9223372036854775806)
    (hs : ∀ k (i : Nat), i0 ≤ i → i < n0 → L (k + 1) i = if q i = true then L k (wrap64 ((i : Int) + 1)) else some false) (he : ∀ k (i : Nat), n0 ≤ i → L (k + 1) i = some e) :
    ∀ n k (i : Nat), i0 ≤ i → i + n = n0 → n < k → L k i = some (allR q i n && e) := by
  intro n
  induction n with
  | zero =>
    intro k i h0 hi hk
    obtain ⟨k, rfl, _⟩ := succ_of hk
    rw [he k i (by omega)]; simp [allR]
  | succ n ih =>
    intro k i h0 hi hk
    obtain ⟨k, rfl, hk⟩ := succ_of hk
    rw [hs k i h0 (by omega), wstep (show i < n0 by omega) (by omega), allR_succ, ih k (i + 1) (by omega) (by omega) (by omega)]
    cases q i <;> simp
theorem all_getD {α : Type} {p : α → Bool} {l : List α} (d : α) : l.all p = true ↔ ∀ j, j < l.length → p (l.getD j d) = true := by
  rw [List.all_eq_true]
  constructor
  · intro h j hj
    rw [List.getD_eq_getElem?_getD, List.getElem?_eq_getElem hj]
    exact h _ (List.getElem_mem hj)
  · intro h x hx
    obtain ⟨j, hj, rfl⟩ := List.mem_iff_getElem.mp hx
    have := h j hj
    rwa [List.getD_eq_getElem?_getD, List.getElem?_eq_getElem hj] at this
/-- A loop that adds up. -/
theorem sum_loop {α β : Type} (L : Nat → Int → Int → Option β) (v : α → Int) (r : Int → Option β) (d : α) (B : Int) (l : List α) (hb : l.length ≤ 9223372036854775806) (hv : ∀ x ∈ l, 0 ≤ v x ∧ v x ≤ B)
    (hs : ∀ k (acc : Int) (i : Nat), i < l.length → 0 ≤ acc → acc ≤ B * i → L (k + 1) acc i = L k (acc + v (l.getD i d)) (wrap64 ((i : Int) + 1)))
    (he : ∀ k (acc : Int) (i : Nat), l.length ≤ i → L (k + 1) acc i = r acc) :
    ∀ n k (acc : Int) (i : Nat), i + n = l.length → n < k → 0 ≤ acc → acc ≤ B * i → L k acc i = r (acc + ((l.drop i).map v).sum) := by
  intro n
  induction n with
  | zero =>
    intro k acc i hi hk h0 h1
    obtain ⟨k, rfl, _⟩ := succ_of hk
    rw [he k acc i (by omega), List.drop_eq_nil_of_le (by omega)]; simp
  | succ n ih =>
    intro k acc i hi hk h0 h1
    obtain ⟨k, rfl, hk⟩ := succ_of hk
    have hlt : i < l.length := by omega
    have hm : l.getD i d ∈ l := by rw [List.getD_eq_getElem?_getD, List.getElem?_eq_getElem hlt]; exact List.getElem_mem hlt
    have := hv _ hm
    rw [hs k acc i hlt h0 h1, wstep hlt (by omega), drop_step hlt d, List.map_cons, List.sum_cons]
    have hB : B * ((i + 1 : Nat) : Int) = B * i + B := by push_cast; rw [Int.mul_add, Int.mul_one]
    rw [ih k _ (i + 1) (by omega) (by omega) (by omega) (by omega), Int.add_assoc]
/-- The same, where the end leans on all that was asked, and needs fuel of its own. -/
theorem idx_loop2 (L : Nat → Int → Option Bool) (q : Nat → Bool) (i0 n0 m0 : Nat) (e : Bool) (hb : n0 ≤ 9223372036854775806)
    (hs : ∀ k (i : Nat), i0 ≤ i → i < n0 → m0 ≤ k → L (k + 1) i = if q i = true then L k (wrap64 ((i : Int) + 1)) else some false) (he : (∀ j, i0 ≤ j → j < n0 → q j = true) → ∀ k, m0 ≤ k → L (k + 1) (n0 : Int) = some e) :
    ∀ n k (i : Nat), i0 ≤ i → i + n = n0 → n + m0 < k → (∀ j, i0 ≤ j → j < i → q j = true) → L k i = some (allR q i n && e) := by
  intro n
  induction n with
  | zero =>
    intro k i h0 hi hk hq
    obtain ⟨k, rfl, _⟩ := succ_of (show 0 < k by omega)
    obtain rfl : i = n0 := by omega
    rw [he hq k (by omega)]; simp [allR]
  | succ n ih =>
    intro k i h0 hi hk hq
    obtain ⟨k, rfl, hk'⟩ := succ_of (show 0 < k by omega)
    rw [hs k i h0 (by omega) (by omega), wstep (show i < n0 by omega) (by omega), allR_succ]
    cases hc : q i
    · simp
    · rw [if_pos rfl, ih k (i + 1) (by omega) (by omega) (by omega) (fun j h1 h2 => by
        by_cases hj : j = i
        · rw [hj]; exact hc
        · exact hq j h1 (by omega)), Bool.true_and]

end Go.Proofs.Ytbfhphobnngeaaa.Pure

-- Qholes
namespace Go.Proofs.Ytbfhphobnngeaaa.Pure
open Go Go.RowKit Go.Proofs Go.Proofs.Ytbfhphobnngeaaa.X Go.Proofs.YtbfhphobnngeaaaW.PrintWords Go.Proofs.YtbfhphobnngeaaaW.PrintLast
set_option linter.unusedVariables false
set_option linter.unusedSimpArgs false

def meetsB (x y : S39) : Bool := decide (x.f0 ≤ y.f2) && (decide (y.f0 ≤ x.f2) && (decide (x.f1 ≤ y.f3) && decide (y.f1 ≤ x.f3)))
theorem meetsB_comm (x y : S39) : meetsB x y = meetsB y x := by
  unfold meetsB
  rw [Bool.eq_iff_iff]; simp only [Bool.and_eq_true, decide_eq_true_eq]; omega
/-- hm, wm: the last row and column -/
def holeB (hm wm : Int) (x : S39) : Bool := decide (0 ≤ x.f2 ∧ x.f2 ≤ hm) && (decide (0 ≤ x.f0 ∧ x.f0 ≤ x.f2) && (decide (0 ≤ x.f3 ∧ x.f3 ≤ wm) && decide (0 ≤ x.f1 ∧ x.f1 ≤ x.f3)))
def ordB (x y : S39) : Bool := decide (x.f0 < y.f0) || (decide (x.f0 = y.f0) && decide (x.f1 < y.f1))
def freeB (l : List S39) (j : Nat) : Bool := allR (fun i => !meetsB (l.getD i z39) (l.getD j z39)) 0 j
def ordAt (l : List S39) (j : Nat) : Bool := decide (j = 0) || ordB (l.getD (j - 1) z39) (l.getD j z39)
def holeQ (hm wm : Int) (l : List S39) (j : Nat) : Bool := holeB hm wm (l.getD j z39) && (ordAt l j && freeB l j)
def holesB (w h : Int) (l : List Int) (hl : List S39) : Bool := chartB w h l && (decide (hl.length ≤ 8) && allR (holeQ (h - 1) (w - 1) hl) 0 hl.length)
theorem meetS_eq (x y : S39) : spec_l23Meet.f x.f0 x.f1 x.f2 x.f3 y.f0 y.f1 y.f2 y.f3 = some (meetsB x y) := by
  unfold spec_l23Meet.f meetsB
  by_cases h1 : x.f0 ≤ y.f2 <;> by_cases h2 : y.f0 ≤ x.f2 <;> by_cases h3 : x.f1 ≤ y.f3 <;> simp [h1, h2, h3]
theorem meetI_eq (x y : S39) : impl_Hole_meets.f x.f0 x.f1 x.f2 x.f3 y.f0 y.f1 y.f2 y.f3 = some (meetsB x y) := by
  unfold impl_Hole_meets.f meetsB
  by_cases h1 : x.f0 ≤ y.f2 <;> by_cases h2 : y.f0 ≤ x.f2 <;> by_cases h3 : x.f1 ≤ y.f3 <;> simp [h1, h2, h3]
theorem freeS_loop {w h : Int} {l : List Int} {hl : List S39} {i : Nat} (hi : i < hl.length) (hb : hl.length ≤ 1048576) (c : S39) :
    ∀ (m k j : Nat), j + m = i → spec_l23Good.l1 (k + m + 1) hl (i : Int) (j : Int) w h l c.f0 c.f1 c.f2 c.f3 = if allR (fun j => !meetsB (hl.getD j z39) c) j m = true then spec_l23Good.l0 k hl (wrap64 ((i : Int) + 1)) w h l else some false := by
  intro m
  induction m with
  | zero =>
    intro k j hj
    rw [spec_l23Good.l1, if_neg (by omega)]
    simp [allR]
  | succ m ih =>
    intro k j hj
    show spec_l23Good.l1 ((k + m + 1) + 1) hl (i : Int) (j : Int) w h l c.f0 c.f1 c.f2 c.f3 = _
    rw [spec_l23Good.l1, if_pos (by omega), if_pos (by omega), if_pos (by omega), rdIHole_nat, meetS_eq]
    simp only [Option.bind_some]
    rw [allR_succ, wstep (n := hl.length) (by omega) (by omega), ih k (j + 1) (by omega)]
    cases meetsB (hl.getD j z39) c <;> simp
theorem holesS_loop {w h : Int} {l : List Int} {hl : List S39} (hl0 : l.length ≤ 1048576) (hb : hl.length ≤ 1048576) :
    ∀ (n k i : Nat), i + n = hl.length → (n + 1) * (hl.length + l.length + 10) < k → spec_l23Good.l0 k hl (i : Int) w h l = some (allR (holeQ (wrap64 (h - 1)) (wrap64 (w - 1)) hl) i n && (chartB w h l && decide (hl.length ≤ 8))) := by
  intro n
  induction n with
  | zero =>
    intro k i hi hk
    obtain ⟨k, rfl, hk'⟩ := succ_of (show 0 < k by omega)
    rw [spec_l23Good.l0, if_neg (by omega), l2Good_eq (by omega) hl0]
    simp only [Option.bind_some]
    have e1 : decide ((hl.length : Int) ≤ 8) = decide (hl.length ≤ 8) := by
      congr 1; exact propext ⟨fun h => by omega, fun h => by omega⟩
    rw [e1]
    cases chartB w h l <;> simp [allR]
  | succ n ih =>
    intro k i hi hk
    have hc : (n + 1 + 1) * (hl.length + l.length + 10) = (n + 1) * (hl.length + l.length + 10) + (hl.length + l.length + 10) := Nat.succ_mul _ _
    obtain ⟨k, rfl⟩ : ∃ k2, k = k2 + i + 1 + 1 + 1 + 1 := ⟨k - i - 4, by omega⟩
    have hlt : i < hl.length := by omega
    rw [spec_l23Good.l0, if_pos (by omega), if_pos (by omega)]
    simp only [l1In_eq, Option.bind_some, rdIHole_nat]
    rw [allR_succ]
    have hq : holeQ (wrap64 (h - 1)) (wrap64 (w - 1)) hl i = (decide (0 ≤ (hl.getD i z39).f2 ∧ (hl.getD i z39).f2 ≤ wrap64 (h - 1)) && (decide (0 ≤ (hl.getD i z39).f0 ∧ (hl.getD i z39).f0 ≤ (hl.getD i z39).f2) && (decide (0 ≤ (hl.getD i z39).f3 ∧ (hl.getD i z39).f3 ≤ wrap64 (w - 1)) && decide (0 ≤ (hl.getD i z39).f1 ∧ (hl.getD i z39).f1 ≤ (hl.getD i z39).f3))) && (ordAt hl i && freeB hl i)) := rfl
    obtain ⟨p1, e1⟩ : ∃ p, decide (0 ≤ (hl.getD i z39).f2 ∧ (hl.getD i z39).f2 ≤ wrap64 (h - 1)) = p := ⟨_, rfl⟩
    obtain ⟨p2, e2⟩ : ∃ p, decide (0 ≤ (hl.getD i z39).f0 ∧ (hl.getD i z39).f0 ≤ (hl.getD i z39).f2) = p := ⟨_, rfl⟩
    obtain ⟨p3, e3⟩ : ∃ p, decide (0 ≤ (hl.getD i z39).f3 ∧ (hl.getD i z39).f3 ≤ wrap64 (w - 1)) = p := ⟨_, rfl⟩
    obtain ⟨p4, e4⟩ : ∃ p, decide (0 ≤ (hl.getD i z39).f1 ∧ (hl.getD i z39).f1 ≤ (hl.getD i z39).f3) = p := ⟨_, rfl⟩
    rw [hq, e1, e2, e3, e4]
    clear hq e1 e2 e3 e4
    have dead : ∀ k, spec_l23Good.j1 (k + 1) hl (i : Int) true w h l (hl.getD i z39).f0 (hl.getD i z39).f1 (hl.getD i z39).f2 (hl.getD i z39).f3 = some false := fun k => by rw [spec_l23Good.j1]; simp
    cases p1
    · simp only [Bool.false_eq_true, if_false, if_true, Bool.not_false, dead, Bool.false_and, Bool.true_and]
    cases p2
    · simp only [Bool.false_eq_true, if_false, if_true, Bool.not_false, dead, Bool.false_and, Bool.true_and]
    cases p3
    · simp only [Bool.false_eq_true, if_false, if_true, Bool.not_false, dead, Bool.false_and, Bool.true_and]
    cases p4
    · simp only [Bool.false_eq_true, if_false, if_true, Bool.not_false, dead, Bool.false_and, Bool.true_and]
    simp only [if_true, Bool.not_true, Bool.true_and]
    rw [spec_l23Good.j1, if_neg (by simp)]
    have live : spec_l23Good.j2 (k + i + 1 + 1) hl (i : Int) false w h l (hl.getD i z39).f0 (hl.getD i z39).f1 (hl.getD i z39).f2 (hl.getD i z39).f3 = some (freeB hl i && (allR (holeQ (wrap64 (h - 1)) (wrap64 (w - 1)) hl) (i + 1) n && (chartB w h l && decide (hl.length ≤ 8)))) := by
      rw [spec_l23Good.j2, if_neg (by simp)]
      have := freeS_loop (w := w) (h := h) (l := l) hlt hb (hl.getD i z39) i k 0 (by omega)
      rw [show ((0 : Nat) : Int) = 0 from rfl] at this
      rw [this]
      show (if freeB hl i = true then _ else _) = _
      rw [wstep hlt (by omega), ih k (i + 1) (by omega) (by omega)]
      cases freeB hl i <;> simp
    have gone : spec_l23Good.j2 (k + i + 1 + 1) hl (i : Int) true w h l (hl.getD i z39).f0 (hl.getD i z39).f1 (hl.getD i z39).f2 (hl.getD i z39).f3 = some false := by rw [spec_l23Good.j2]; simp
    by_cases hi0 : i = 0
    · rw [if_neg (by omega), live]
      have ho : ordAt hl i = true := by unfold ordAt; rw [decide_eq_true hi0, Bool.true_or]
      rw [ho]
      cases freeB hl i <;> simp
    · rw [if_pos (by omega), w64 (x := (i : Int) - 1) (by omega) (by omega), if_pos (by omega), if_pos (by omega), show (i : Int) - 1 = ((i - 1 : Nat) : Int) by omega, rdIHole_nat]
      have ho : ordAt hl i = ordB (hl.getD (i - 1) z39) (hl.getD i z39) := by unfold ordAt; rw [decide_eq_false hi0, Bool.false_or]
      rw [ho]
      unfold ordB
      by_cases g1 : (hl.getD (i - 1) z39).f0 > (hl.getD i z39).f0
      · rw [if_pos g1, gone, decide_eq_false (show ¬ (hl.getD (i - 1) z39).f0 < (hl.getD i z39).f0 by omega), decide_eq_false (show ¬ (hl.getD (i - 1) z39).f0 = (hl.getD i z39).f0 by omega)]; simp
      · rw [if_neg g1]
        by_cases g2 : (hl.getD (i - 1) z39).f0 = (hl.getD i z39).f0
        · rw [if_pos g2, decide_eq_true g2, decide_eq_false (show ¬ (hl.getD (i - 1) z39).f0 < (hl.getD i z39).f0 by omega)]
          by_cases g3 : (hl.getD (i - 1) z39).f1 ≥ (hl.getD i z39).f1
          · rw [decide_eq_true g3, gone, decide_eq_false (show ¬ (hl.getD (i - 1) z39).f1 < (hl.getD i z39).f1 by omega)]; simp
          · rw [decide_eq_false g3, live, decide_eq_true (show (hl.getD (i - 1) z39).f1 < (hl.getD i z39).f1 by omega)]; simp [Bool.and_assoc]
        · rw [if_neg g2, live, decide_eq_true (show (hl.getD (i - 1) z39).f0 < (hl.getD i z39).f0 by omega)]; simp [Bool.and_assoc]
theorem holesS_eq {k : Nat} {w h : Int} {l : List Int} {hl : List S39} (hk : (hl.length + 1) * (hl.length + l.length + 10) < k) (hl0 : l.length ≤ 1048576) (hb : hl.length ≤ 1048576) : spec_l23Good.f k w h l hl = some (holesB w h l hl) := by
  unfold spec_l23Good.f
  have := holesS_loop (w := w) (h := h) (l := l) (hl := hl) hl0 hb hl.length k 0 (by omega) hk
  refine (this.trans (congrArg some ?_))
  unfold holesB
  cases hc : chartB w h l
  · simp
  have hx := chart_of hc
  rw [w64 (x := h - 1) (by omega) (by omega), w64 (x := w - 1) (by omega) (by omega), Bool.true_and, Bool.true_and, Bool.and_comm]
theorem isHole_eq {w h : Int} {l : List Int} (hc : chartB w h l = true) (x : S39) : impl_Chart_isHole.f w h l x.f0 x.f1 x.f2 x.f3 = some (holeB (h - 1) (w - 1) x) := by
  have := chart_of hc
  simp only [impl_Chart_isHole.f, impl_Chart_hasPlace.f, in_eq, Option.bind_some]
  rw [w64 (x := h - 1) (by omega) (by omega), w64 (x := w - 1) (by omega) (by omega)]
  unfold holeB
  by_cases g1 : 0 ≤ x.f0 ∧ x.f0 ≤ h - 1 <;> by_cases g2 : 0 ≤ x.f1 ∧ x.f1 ≤ w - 1 <;> by_cases g3 : 0 ≤ x.f2 ∧ x.f2 ≤ h - 1 <;> by_cases g4 : 0 ≤ x.f3 ∧ x.f3 ≤ w - 1 <;> by_cases g5 : x.f0 ≤ x.f2 <;> by_cases g6 : x.f1 ≤ x.f3 <;> simp [g1, g2, g3, g4, g5, g6] <;> omega
theorem or2_eq (k : Nat) (a b : Int) : cmp_Or_int.f (k + 3) [a, b] = some (if a = 0 then b else a) := by
  have e1 : wrap64 (0 + 1) = 1 := w64 (by omega) (by omega)
  have e2 : wrap64 (1 + 1) = 2 := w64 (by omega) (by omega)
  have r0 : rd [a, b] 0 = a := rfl
  have r1 : rd [a, b] 1 = b := rfl
  have hl : (([a, b] : List Int).length : Int) = 2 := rfl
  simp only [cmp_Or_int.f, cmp_Or_int.l0, hl, e1, e2, r0, r1]
  by_cases h1 : a = 0 <;> by_cases h2 : b = 0 <;> simp [h1, h2]
theorem compareH_eq {k : Nat} (hk : 3 ≤ k) (x y : S39) : ∃ c, impl_Hole_compare.f k x.f0 x.f1 x.f2 x.f3 y.f0 y.f1 y.f2 y.f3 = some c ∧ (c ≥ 0 ↔ ordB x y = false) := by
  obtain ⟨k, rfl⟩ : ∃ m, k = m + 3 := ⟨k - 3, by omega⟩
  simp only [impl_Hole_compare.f, cmpI_eq, Option.bind_some, or2_eq]
  refine ⟨_, rfl, ?_⟩
  unfold ordB cmpI
  (repeat' split) <;> simp at * <;> omega
theorem freeI_eq {l : List S39} {i : Nat} (hi : i < l.length) : impl_Hole__impl_Hole_meets.f (l.take i) (l.getD i z39).f0 (l.getD i z39).f1 (l.getD i z39).f2 (l.getD i z39).f3 = some (!freeB l i) := by
  unfold impl_Hole__impl_Hole_meets.f
  rw [Ho.hasO_eq (q := fun x => meetsB (l.getD i z39) x) (fun x _ => meetI_eq _ _)]
  congr 1
  have hlen : (l.take i).length = i := by rw [List.length_take]; omega
  have e : freeB l i = (l.take i).all (fun x => !meetsB (l.getD i z39) x) := by
    unfold freeB
    rw [Bool.eq_iff_iff, allR_iff, all_getD z39]
    have hg : ∀ j, j < i → (l.take i).getD j z39 = l.getD j z39 := by
      intro j hj
      rw [List.getD_eq_getElem?_getD, List.getElem?_take_of_lt hj, ← List.getD_eq_getElem?_getD]
    constructor
    · intro h j hj
      rw [hg j (by omega), meetsB_comm]; exact h j (by omega) (by omega)
    · intro h j _ hj
      have := h j (by omega)
      rw [hg j (by omega), meetsB_comm] at this; exact this
  rw [e, List.not_all_eq_any_not]
  simp

end Go.Proofs.Ytbfhphobnngeaaa.Pure

-- QyarnM
namespace Go.Proofs.Ytbfhphobnngeaaa.Pure
open Go Go.RowKit Go.Proofs Go.Proofs.Ytbfhphobnngeaaa.X Go.Proofs.YtbfhphobnngeaaaW.PrintWords Go.Proofs.YtbfhphobnngeaaaW.PrintLast
set_option linter.unusedVariables false
set_option linter.unusedSimpArgs false

def rowC (w : Nat) (l : List Int) (b n a : Nat) : List Int := (List.range' b n).map fun c => rd l ((a * w + c : Nat) : Int)
def cellsH (w : Nat) (l : List Int) (x : S39) : List Int := (List.range' x.f0.toNat (x.f2 + 1 - x.f0).toNat).flatMap (rowC w l x.f1.toNat (x.f3 + 1 - x.f1).toNat)
def stepH (w : Nat) (l : List Int) (hl : List S39) (c : List Int) (i : Nat) : List Int := (cellsH w l (hl.getD i z39)).foldl bump c
def yarnM (w h : Int) (l : List Int) (hl : List S39) : List Int × Bool := if holesB w h l hl then ((List.range' 0 hl.length).foldl (stepH w.toNat l hl) (List.replicate 6 0), true) else ([], false)
theorem place_of {w h : Int} {l : List Int} (hc : chartB w h l = true) {a c : Int} (ha : 0 ≤ a ∧ a ≤ h - 1) (hcc : 0 ≤ c ∧ c ≤ w - 1) : (0 ≤ a * w + c ∧ a * w + c < l.length ∧ a * w + c ≤ 64 ∧ 0 ≤ a * w ∧ a * w ≤ 64) ∧ (0 ≤ rd l (a * w + c) ∧ rd l (a * w + c) ≤ 5) := by
  obtain ⟨hw, hh, hl, hl64, hx⟩ := chart_of hc
  have h1 := mul_bd (a := a) (b := w) (A := h - 1) (B := w) (by omega) (by omega) (by omega) (by omega)
  have h2 : (h - 1) * w = w * h - w := by rw [Int.sub_mul, Int.mul_comm h w]; omega
  have h3 : a * w + c < l.length := by omega
  refine ⟨⟨by omega, h3, by omega, by omega, by omega⟩, ?_⟩
  obtain ⟨n, hn⟩ := nat_of (show 0 ≤ a * w + c by omega)
  rw [hn, rd_nat]
  have hlt : n < l.length := by omega
  rw [List.getD_eq_getElem?_getD, List.getElem?_eq_getElem hlt]
  exact hx _ (List.getElem_mem hlt)
theorem atS_eq {w h : Int} {l : List Int} (hc : chartB w h l = true) {a c : Int} (ha : 0 ≤ a ∧ a ≤ h - 1) (hcc : 0 ≤ c ∧ c ≤ w - 1) : spec_l2At.f w h l a c = some (rd l (a * w + c)) := by
  obtain ⟨h1, h2⟩ := place_of hc ha hcc
  unfold spec_l2At.f
  rw [w64 (x := a * w) (by omega) (by omega), w64 (x := a * w + c) (by omega) (by omega), if_pos h1.1, if_pos h1.2.1]
theorem atI_eq {w h : Int} {l : List Int} (hc : chartB w h l = true) {a c : Int} (ha : 0 ≤ a ∧ a ≤ h - 1) (hcc : 0 ≤ c ∧ c ≤ w - 1) : impl_Chart_at.f w h l a c = some (rd l (a * w + c)) := by
  obtain ⟨h1, h2⟩ := place_of hc ha hcc
  unfold impl_Chart_at.f
  rw [w64 (x := a * w) (by omega) (by omega), w64 (x := a * w + c) (by omega) (by omega), if_pos h1.1, if_pos h1.2.1]
theorem yarnM_len (w h : Int) (l : List Int) (hl : List S39) : (yarnM w h l hl).1.length ≤ 6 := by
  unfold yarnM
  have hb : ∀ (m : List Int) (c : List Int), (m.foldl bump c).length = c.length := by
    intro m
    induction m with
    | nil => intro c; rfl
    | cons x m ih => intro c; rw [List.foldl_cons, ih, bump_len]
  have hs : ∀ (m : List Nat) (c : List Int), (m.foldl (stepH w.toNat l hl) c).length = c.length := by
    intro m
    induction m with
    | nil => intro c; rfl
    | cons x m ih => intro c; rw [List.foldl_cons, ih]; unfold stepH; rw [hb]
  split
  · rw [hs]; simp
  · simp
theorem bumps_len (m : List Int) : ∀ c : List Int, (m.foldl bump c).length = c.length := by
  induction m with
  | nil => intro c; rfl
  | cons x m ih => intro c; rw [List.foldl_cons, ih, bump_len]

end Go.Proofs.Ytbfhphobnngeaaa.Pure

-- QholesI
namespace Go.Proofs.Ytbfhphobnngeaaa.Pure
open Go Go.RowKit Go.Proofs Go.Proofs.Ytbfhphobnngeaaa.X Go.Proofs.YtbfhphobnngeaaaW.PrintWords Go.Proofs.YtbfhphobnngeaaaW.PrintLast
set_option linter.unusedVariables false
set_option linter.unusedSimpArgs false

theorem AreHoles_eq {k : Nat} {w h : Int} {l : List Int} {hl : List S39} (hk : hl.length + 10 < k) (hb : hl.length ≤ 1048576) : impl_AreHoles.f k w h l hl = some (holesB w h l hl) := by
  obtain ⟨k, rfl, hk2⟩ := succ_of hk
  simp only [impl_AreHoles.f, impl_AreHoles.j0, IsChart_eq, Option.bind_some, holesB]
  cases hc : chartB w h l
  · simp
  by_cases h8 : (8 : Int) < hl.length
  · simp [show ¬ hl.length ≤ 8 by omega, h8]
  rw [if_pos rfl, if_neg (by omega)]
  simp only [impl_Hole__impl_Chart_isHole.f]
  rw [Ho.allO_eq (q := holeB (h - 1) (w - 1)) (fun x _ => isHole_eq hc x)]
  simp only [Option.bind_some, show decide (hl.length ≤ 8) = true by simp; omega, Bool.true_and]
  have hsplit : allR (holeQ (h - 1) (w - 1) hl) 0 hl.length = (hl.all (holeB (h - 1) (w - 1)) && allR (fun j => ordAt hl j && freeB hl j) 0 hl.length) := by
    rw [Bool.eq_iff_iff, Bool.and_eq_true, allR_iff, allR_iff, all_getD z39]
    constructor
    · intro hq
      refine ⟨fun j hj => ?_, fun j _ hj => ?_⟩
      · have := hq j (by omega) (by omega)
        unfold holeQ at this; rw [Bool.and_eq_true] at this; exact this.1
      · have := hq j (by omega) hj
        unfold holeQ at this; rw [Bool.and_eq_true] at this; exact this.2
    · intro hq j h1 h2
      unfold holeQ; rw [Bool.and_eq_true]
      exact ⟨hq.1 j (by omega), hq.2 j h1 h2⟩
  rw [hsplit]
  cases hl.all (holeB (h - 1) (w - 1))
  · simp
  simp only [Bool.not_true, Bool.false_eq_true, if_false, Bool.true_and]
  have hx := idx_loop2 (fun k i => impl_AreHoles.l0 k hl hl (hl.length : Int) i) (fun j => ordAt hl j && freeB hl j) 0 hl.length 4 true (by omega)
    (fun k i _ h1 h2 => by
      simp only [impl_AreHoles.l0, Int.toNat_natCast, rdIHole_nat]
      rw [if_pos (by omega), if_pos (by omega), if_pos (by omega)]
      by_cases hi : i = 0
      · rw [if_neg (by omega), if_pos (by omega), freeI_eq h1]
        simp only [Option.bind_some]
        have ho : ordAt hl i = true := by unfold ordAt; rw [decide_eq_true hi, Bool.true_or]
        rw [ho]
        cases freeB hl i <;> simp
      · have ho : ordAt hl i = ordB (hl.getD (i - 1) z39) (hl.getD i z39) := by unfold ordAt; rw [decide_eq_false hi, Bool.false_or]
        rw [if_pos (by omega), w64 (x := (i : Int) - 1) (by omega) (by omega), if_pos (by omega), if_pos (by omega), show (i : Int) - 1 = ((i - 1 : Nat) : Int) by omega, rdIHole_nat]
        obtain ⟨c, e, hcmp⟩ := compareH_eq (k := k) (by omega) (hl.getD (i - 1) z39) (hl.getD i z39)
        rw [e]
        simp only [Option.bind_some]
        rw [ho]
        cases hb2 : ordB (hl.getD (i - 1) z39) (hl.getD i z39)
        · rw [if_pos (hcmp.mpr hb2)]; simp
        · rw [if_neg (fun g => by have := hcmp.mp g; rw [hb2] at this; simp at this), if_pos (by omega), freeI_eq h1]
          simp only [Option.bind_some]
          cases freeB hl i <;> simp)
    (fun hq k hk => by simp only [impl_AreHoles.l0]; rw [if_neg (by omega)])
    hl.length k 0 (by omega) (by omega) (by omega) (fun j h1 h2 => by omega)
  simpa using hx

end Go.Proofs.Ytbfhphobnngeaaa.Pure

-- Xspecl23KnotsF57
namespace Go.Proofs.Ytbfhphobnngeaaa.X
open Ho (bS eS)
open Go.RowKit Go.Proofs.YtbfhphobnngeaaaW.PrintWords Go.Proofs.YtbfhphobnngeaaaW.PrintLast Go.Proofs.YtbfhphobnngeaaaW.PrintMore
attribute [local go_sem] max2_int min2_int max_two min_two max_three min_three max_four min_four   -- for this text's walks alone
set_option linter.unusedVariables false
set_option linter.unusedSimpArgs false

attribute [local go_sem ↓] Ho.isSome_setCell_   -- a store leaves all places there
/-! ### spec_l23Knots: function 57 -/
def spec_l23Knots.f (a0_0 : Int) (a0_1 : Int) (a0_2 : Int) (a0_3 : Int) : Option (Int) := some (wrap64 ((wrap64 ((wrap64 (a0_2 - a0_0)) + 1)) * (wrap64 ((wrap64 (a0_3 - a0_1)) + 1))))
set_option maxHeartbeats 8000000 in
set_option maxRecDepth 100000 in
theorem spec_l23Knots.calls (a0_0 : Int) (a0_1 : Int) (a0_2 : Int) (a0_3 : Int) (r : Int) (w : World) (h : spec_l23Knots.f a0_0 a0_1 a0_2 a0_3 = some r) :
    Calls Try.prog 57 #[.agg #[.int .i64 a0_0, .int .i64 a0_1, .int .i64 a0_2, .int .i64 a0_3]] w fun e w' => e = .returned (.int .i64 r) ∧ Below w.heap.size w w' := by
  have hu39 := Try.underlying39
  have HB := Aside0.mk (Below.refl w.heap.size w)
  have H : (some (wrap64 ((wrap64 ((wrap64 (a0_2 - a0_0)) + 1)) * (wrap64 ((wrap64 (a0_3 - a0_1)) + 1))))) = some r := h
  clear h
  obtain rfl := Option.some.inj H
  go_enter Try.func57, Try.ntmps57
  go_wp2_with (first | ((with_reducible refine gate_dst (N := 1) rfl ?_); refine box_event ?hg (N := 1) ?hd (cs := #[.int .i64 a0_0, .int .i64 a0_1, .int .i64 a0_2, .int .i64 a0_3]) (t := 39) ?hr ?_; (case hd => rfl); (case hg => rfl); (case hr => first | (go_simp; done) | (go_simp; rfl)); intro gb101 hg w2 hbox hb; have n0_ := Aside0.mk (below_step (by exact eS HB.out) hb); have n1_ := Aside0.mk (hbox); have n2_ := Aside0.mk ((by rw [hg]; exact (below_size (by exact eS HB.out)) : w.heap.size ≤ gb101)); have n3_ := Aside0.mk ((by rw [hg]; exact (below_size (by exact eS HB.out)) : w.heap.size ≤ gb101)); clear HB; have HB := n0_; have BK101 := n1_; have GW101 := n2_; have GE101 := n3_; clear n0_ n1_ n2_ n3_; clear hb hbox hg; have hcz3_0 : w2.cell? ⟨gb101, 0, none⟩ = some (.int .i64 a0_0) := (blk_cell BK101.out 0).trans rfl; have hcz3_1 : w2.cell? ⟨gb101, 1, none⟩ = some (.int .i64 a0_1) := (blk_cell BK101.out 1).trans rfl; have hcz3_2 : w2.cell? ⟨gb101, 2, none⟩ = some (.int .i64 a0_2) := (blk_cell BK101.out 2).trans rfl; have hcz3_3 : w2.cell? ⟨gb101, 3, none⟩ = some (.int .i64 a0_3) := (blk_cell BK101.out 3).trans rfl; have hfz3_0 := blk_frozen BK101.out 0; have hfz3_1 := blk_frozen BK101.out 1; have hfz3_2 := blk_frozen BK101.out 2; have hfz3_3 := blk_frozen BK101.out 3))
  go_ret
  exact ⟨by first | rfl | (simp [errW_none, errW_some] <;> rfl) | (simp [*, errW_none, errW_some] <;> rfl), by exact eS HB.out⟩

end Go.Proofs.Ytbfhphobnngeaaa.X

-- XspecKnotsLostF18
namespace Go.Proofs.Ytbfhphobnngeaaa.X
open Ho (bS eS)
open Go.RowKit Go.Proofs.YtbfhphobnngeaaaW.PrintWords Go.Proofs.YtbfhphobnngeaaaW.PrintLast Go.Proofs.YtbfhphobnngeaaaW.PrintMore
attribute [local go_sem] max2_int min2_int max_two min_two max_three min_three max_four min_four   -- for this text's walks alone
set_option linter.unusedVariables false
set_option linter.unusedSimpArgs false

attribute [local go_sem ↓] Ho.isSome_setCell_   -- a store leaves all places there
/-! ### spec_KnotsLost: function 18 -/
def spec_KnotsLost.l0 : Nat → List (S39) → Int → Int → Option (Int × Bool)
  | 0, _, _, _ => none
  | k + 1, x1, x6, x7 => if x7 < (x1.length : Int) then (if 0 ≤ x7 then ((spec_l23Knots.f ((rd_T39 x1 x7).f0) ((rd_T39 x1 x7).f1) ((rd_T39 x1 x7).f2) ((rd_T39 x1 x7).f3)).bind fun t104 => (spec_KnotsLost.l0 k x1 (wrap64 (x6 + t104)) (wrap64 (x7 + 1)))) else (none)) else (some (x6, true))
def spec_KnotsLost.f (k : Nat) (a0_0 : Int) (a0_1 : Int) (l0_2 : List Int) (l1 : List (S39)) : Option (Int × Bool) := (spec_l23Good.f k a0_0 a0_1 l0_2 l1).bind fun t102 => (if t102 = true then (spec_KnotsLost.l0 k l1 0 0) else (some (0, false)))
theorem spec_KnotsLost.mono_l : ∀ k, (∀ y0 y1 y2, LeO (spec_KnotsLost.l0 k y0 y1 y2) (spec_KnotsLost.l0 (k + 1) y0 y1 y2))
  | 0 => fun _ _ _ r h => by simp [spec_KnotsLost.l0] at h
  | k + 1 => by
    have ih0 := spec_KnotsLost.mono_l k
    · intro y0 y1 y2
      unfold spec_KnotsLost.l0
      repeat' first
      | (with_reducible exact ih0 _ _ _)
      | (with_reducible exact spec_l23Good.mono _ _ _ _ _)
      | (with_reducible exact LeO.refl _)
      | (with_reducible exact LeO.none _)
      | (with_reducible refine LeO.ite ?_ ?_)
      | (with_reducible refine LeO.bind ?_ (fun _ => ?_))
      | exact ih0 _ _ _
      | exact spec_l23Good.mono _ _ _ _ _
      | exact LeO.none _
      | refine LeO.ite ?_ ?_
      | refine LeO.bind ?_ (fun _ => ?_)
theorem spec_KnotsLost.mono : ∀ a0 a1 a2 a3 k, LeO (spec_KnotsLost.f k a0 a1 a2 a3) (spec_KnotsLost.f (k + 1) a0 a1 a2 a3) := by
  intro a0 a1 a2 a3 k
  have ih0 := spec_KnotsLost.mono_l k
  unfold spec_KnotsLost.f
  repeat' first
      | (with_reducible exact ih0 _ _ _)
      | (with_reducible exact spec_l23Good.mono _ _ _ _ _)
      | (with_reducible exact LeO.refl _)
      | (with_reducible exact LeO.none _)
      | (with_reducible refine LeO.ite ?_ ?_)
      | (with_reducible refine LeO.bind ?_ (fun _ => ?_))
      | exact ih0 _ _ _
      | exact spec_l23Good.mono _ _ _ _ _
      | exact LeO.none _
      | refine LeO.ite ?_ ?_
      | refine LeO.bind ?_ (fun _ => ?_)
set_option maxHeartbeats 8000000 in
set_option maxRecDepth 100000 in
theorem spec_KnotsLost.calls (k : Nat) (a0_0 : Int) (a0_1 : Int) (A0_2 : Option Addr) (c0_2 : Nat) (l0_2 : List Int) (A1 : Option Addr) (c1 : Nat) (l1 : List (S39)) (r1 : Int) (r2 : Bool) (w : World) (hr0_2 : Kd.C (Kd.int .i64) w A0_2 l0_2.length l0_2) (hc0_2 : l0_2.length ≤ c0_2) (hr1 : Kd.C k39 w A1 l1.length l1) (hc1 : l1.length ≤ c1) (h : spec_KnotsLost.f k a0_0 a0_1 l0_2 l1 = some (r1, r2)) :
    Calls Try.prog 18 #[.agg #[.int .i64 a0_0, .int .i64 a0_1, .slice A0_2 l0_2.length c0_2], .slice A1 l1.length c1] w fun e w' => e = .returned (.tuple #[.int .i64 r1, .bool r2]) ∧ Below w.heap.size w w' := by
  have hu29 := Try.underlying29
  have hu39 := Try.underlying39
  have HR0_2 := Aside0.mk hr0_2
  have HC0_2 := Aside0.mk hc0_2
  clear hr0_2 hc0_2
  have HR1 := Aside0.mk hr1
  have HC1 := Aside0.mk hc1
  clear hr1 hc1
  have HB := Aside0.mk (Below.refl w.heap.size w)
  have H : ((spec_l23Good.f k a0_0 a0_1 l0_2 l1).bind fun t102 => (if t102 = true then (spec_KnotsLost.l0 k l1 0 0) else (some (0, false)))) = some (r1, r2) := h
  clear h
  replace H := Option.bind_eq_some_iff.mp H
  obtain ⟨t102, A30, H⟩ := H
  replace H : (if t102 = true then (spec_KnotsLost.l0 k l1 0 0) else (some (0, false))) = some (r1, r2) := H
  have A3 := Aside0.mk A30
  clear A30
  by_cases c4 : t102 = true
  · subst c4
    have H1 : (spec_KnotsLost.l0 k l1 0 0) = some (r1, r2) := by rw [if_pos rfl] at H; exact H
    clear H
    have H := H1
    clear H1
    have H' := Aside0.mk H
    clear H
    go_enter Try.func18, Try.ntmps18
    go_wp2_with (first | ((with_reducible refine gate_dst (N := 2) rfl ?_); refine box_event ?hg (N := 2) ?hd (cs := #[.int .i64 a0_0, .int .i64 a0_1, .slice A0_2 l0_2.length c0_2]) (t := 29) ?hr ?_; (case hd => rfl); (case hg => rfl); (case hr => first | (go_simp; done) | (go_simp; rfl)); intro gb101 hg w5 hbox hb; have n0_ := Aside0.mk (below_step (by exact eS HB.out) hb); have n1_ := Aside0.mk (hbox); have n2_ := Aside0.mk ((by rw [hg]; exact (below_size (by exact eS HB.out)) : w.heap.size ≤ gb101)); have n3_ := Aside0.mk ((by rw [hg]; exact (below_size (by exact eS HB.out)) : w.heap.size ≤ gb101)); clear HB; have HB := n0_; have BK101 := n1_; have GW101 := n2_; have GE101 := n3_; clear n0_ n1_ n2_ n3_; clear hb hbox hg; have hcz6_0 : w5.cell? ⟨gb101, 0, none⟩ = some (.int .i64 a0_0) := (blk_cell BK101.out 0).trans rfl; have hcz6_1 : w5.cell? ⟨gb101, 1, none⟩ = some (.int .i64 a0_1) := (blk_cell BK101.out 1).trans rfl; have hcz6_2 : w5.cell? ⟨gb101, 2, none⟩ = some (.slice A0_2 l0_2.length c0_2) := (blk_cell BK101.out 2).trans rfl; have hfz6_0 := blk_frozen BK101.out 0; have hfz6_1 := blk_frozen BK101.out 1; have hfz6_2 := blk_frozen BK101.out 2) | ((with_reducible refine gate_callee (f := 48) rfl ?_); refine goesL_ (some 10) rfl rfl Try.func48 (by kernel_rfl) rfl #[.agg #[.int .i64 a0_0, .int .i64 a0_1, .slice A0_2 l0_2.length c0_2], .slice A1 l1.length c1] rfl (by (try simp only [List.map_toArray, List.map_cons, List.map_nil]); first | done | rfl | (simp only [List.length_drop, List.length_take]; rfl)) ?_; (with_reducible refine (spec_l23Good.calls k a0_0 a0_1 _ _ l0_2 _ _ l1 true _ ?side1 ?side2 ?side3 ?side4 A3.out).mono ?_); (case side1 => repeat (first | exact (Kd.C_below HR0_2.out HB.out) | (with_reducible refine Kd.C_alloc ?_ _) | (with_reducible refine Kd.C_drewN ?_ _) | (with_reducible refine Kd.C_drew ?_))); (case side2 => exact HC0_2.out); (case side3 => repeat (first | exact (Kd.C_below HR1.out HB.out) | (with_reducible refine Kd.C_alloc ?_ _) | (with_reducible refine Kd.C_drewN ?_ _) | (with_reducible refine Kd.C_drew ?_))); (case side4 => exact HC1.out); rintro e w7 ⟨rfl, hb⟩; refine ⟨_, rfl, ?_⟩; have n0_ := Aside0.mk (blk_below (bS BK101.out) hb); have n1_ := Aside0.mk (below_step (by exact eS HB.out) hb); clear BK101; clear HB; have BK101 := n0_; have HB := n1_; clear n0_ n1_; (try clear hb); (try clear hb2); (try clear hk); (try clear hi)))
    go_loopg [6, 7] k (fun kq v6 v7 w' => ∃ (x6_1 : Int) (x7_1 : Int), v6 = .int .i64 x6_1 ∧ v7 = .int .i64 x7_1 ∧ Aside0 (spec_KnotsLost.l0 kq l1 x6_1 x7_1 = some (r1, r2)) ∧ Aside0 (kq ≤ k) ∧ Aside0 (w'.heap[gb101]? = some (.cells #[.int .i64 a0_0, .int .i64 a0_1, (.slice A0_2 l0_2.length c0_2)] 29 (0, 0))) ∧ Aside0 (Below w.heap.size w w'))
    case atStart => exact ⟨(0), (0), (by first | rfl | (simp; done) | (simp [*]; done)), (by first | rfl | (simp; done) | (simp [*]; done)), H', ⟨Nat.le_refl _⟩, ⟨by exact bS BK101.out⟩, ⟨by exact eS HB.out⟩⟩
    case round =>
      clear H'
      try clear c1
      try clear p2
      try clear c4
      try clear hcz6_0
      try clear hcz6_1
      try clear hcz6_2
      try clear hfz6_0
      try clear hfz6_1
      try clear hfz6_2
      obtain ⟨x6_1, x7_1, rfl, rfl, HA, HK1, BK101, HB⟩ := hrel
      cases gk with
      | zero => exact absurd HA.out (by simp [spec_KnotsLost.l0])
      | succ k1 =>
        have H := HA.out
        clear HA
        simp only [spec_KnotsLost.l0] at H
        by_cases c8 : x7_1 < (l1.length : Int)
        · rw [if_pos c8] at H
          have c8b0 : decide (x7_1 < (l1.length : Int)) = true := decide_eq_true c8
          clear c8
          by_cases c9 : 0 ≤ x7_1
          · rw [if_pos c9] at H
            have c9b0 : decide (0 ≤ x7_1) = true := decide_eq_true c9
            clear c9
            replace H := Option.bind_eq_some_iff.mp H
            obtain ⟨t104, A100, H⟩ := H
            replace H : (spec_KnotsLost.l0 k1 l1 (wrap64 (x6_1 + t104)) (wrap64 (x7_1 + 1))) = some (r1, r2) := H
            have A10 := Aside0.mk A100
            clear A100
            have H' := Aside0.mk H
            clear H
            have p103 : 0 ≤ (x7_1 : Int) := of_decide_eq_true (by first | (with_reducible assumption) | assumption)
            have q103 : x7_1 < (l1.length : Int) := of_decide_eq_true (by first | (with_reducible assumption) | assumption)
            obtain ⟨ad103, e103, hx103_0, hx103_1, hx103_2, hx103_3⟩ := at_T39 HR1.out x7_1 p103 q103
            cases e103
            replace hx103_0 := (HB.out.cell (World.block_lt_of_cell? w _ hx103_0)).trans hx103_0
            replace hx103_1 := (HB.out.cell (World.block_lt_of_cell? w _ hx103_1)).trans hx103_1
            replace hx103_2 := (HB.out.cell (World.block_lt_of_cell? w _ hx103_2)).trans hx103_2
            replace hx103_3 := (HB.out.cell (World.block_lt_of_cell? w _ hx103_3)).trans hx103_3
            replace p103 := eq_true p103
            replace q103 := eq_true q103
            go_wp2_with (first | ((with_reducible refine gate_callee (f := 57) rfl ?_); refine goesL_ (some 23) rfl rfl Try.func57 (by kernel_rfl) rfl #[.agg #[.int .i64 ((rd_T39 l1 x7_1).f0), .int .i64 ((rd_T39 l1 x7_1).f1), .int .i64 ((rd_T39 l1 x7_1).f2), .int .i64 ((rd_T39 l1 x7_1).f3)]] rfl (by (try simp only [List.map_toArray, List.map_cons, List.map_nil]); first | done | rfl | (simp only [List.length_drop, List.length_take]; rfl)) ?_; (with_reducible refine (spec_l23Knots.calls ((rd_T39 l1 x7_1).f0) ((rd_T39 l1 x7_1).f1) ((rd_T39 l1 x7_1).f2) ((rd_T39 l1 x7_1).f3) t104 _ A10.out).mono ?_); rintro e w11 ⟨rfl, hb⟩; refine ⟨_, rfl, ?_⟩; have n0_ := Aside0.mk (blk_below (bS BK101.out) hb); have n1_ := Aside0.mk (below_step (by exact eS HB.out) hb); clear BK101; clear HB; have BK101 := n0_; have HB := n1_; clear n0_ n1_; (try clear hb); (try clear hb2); (try clear hk); (try clear hi)))
            go_roundg k1
            case measure => have := HK1.out; omega
            case rel => exact ⟨(wrap64 (x6_1 + t104)), (wrap64 (x7_1 + 1)), (by first | rfl | (simp; done) | (simp [*]; done)), (by first | rfl | (simp; done) | (simp [*]; done)), H', ⟨by have := HK1.out; omega⟩, ⟨by exact bS BK101.out⟩, ⟨by exact eS HB.out⟩⟩
          · rw [if_neg c9] at H
            exact absurd H (by simp)
        · rw [if_neg c8] at H
          have c8b0 : decide (x7_1 < (l1.length : Int)) = false := decide_eq_false c8
          clear c8
          simp only [Option.some.injEq, Prod.mk.injEq] at H
          obtain ⟨rfl, rfl⟩ := H
          go_wp2
          go_ret2
          exact ⟨by first | rfl | (simp [errW_none, errW_some] <;> rfl) | (simp [*, errW_none, errW_some] <;> rfl), by exact eS HB.out⟩
  · replace c4 := Bool.eq_false_iff.mpr c4
    subst c4
    have H1 : (some (0, false)) = some (r1, r2) := by rw [if_neg (show ¬ (false = true) by decide)] at H; exact H
    clear H
    have H := H1
    clear H1
    simp only [Option.some.injEq, Prod.mk.injEq] at H
    obtain ⟨rfl, rfl⟩ := H
    go_enter Try.func18, Try.ntmps18
    go_wp2_with (first | ((with_reducible refine gate_dst (N := 2) rfl ?_); refine box_event ?hg (N := 2) ?hd (cs := #[.int .i64 a0_0, .int .i64 a0_1, .slice A0_2 l0_2.length c0_2]) (t := 29) ?hr ?_; (case hd => rfl); (case hg => rfl); (case hr => first | (go_simp; done) | (go_simp; rfl)); intro gb101 hg w12 hbox hb; have n0_ := Aside0.mk (below_step (by exact eS HB.out) hb); have n1_ := Aside0.mk (hbox); have n2_ := Aside0.mk ((by rw [hg]; exact (below_size (by exact eS HB.out)) : w.heap.size ≤ gb101)); have n3_ := Aside0.mk ((by rw [hg]; exact (below_size (by exact eS HB.out)) : w.heap.size ≤ gb101)); clear HB; have HB := n0_; have BK101 := n1_; have GW101 := n2_; have GE101 := n3_; clear n0_ n1_ n2_ n3_; clear hb hbox hg; have hcz13_0 : w12.cell? ⟨gb101, 0, none⟩ = some (.int .i64 a0_0) := (blk_cell BK101.out 0).trans rfl; have hcz13_1 : w12.cell? ⟨gb101, 1, none⟩ = some (.int .i64 a0_1) := (blk_cell BK101.out 1).trans rfl; have hcz13_2 : w12.cell? ⟨gb101, 2, none⟩ = some (.slice A0_2 l0_2.length c0_2) := (blk_cell BK101.out 2).trans rfl; have hfz13_0 := blk_frozen BK101.out 0; have hfz13_1 := blk_frozen BK101.out 1; have hfz13_2 := blk_frozen BK101.out 2) | ((with_reducible refine gate_callee (f := 48) rfl ?_); refine goesL_ (some 10) rfl rfl Try.func48 (by kernel_rfl) rfl #[.agg #[.int .i64 a0_0, .int .i64 a0_1, .slice A0_2 l0_2.length c0_2], .slice A1 l1.length c1] rfl (by (try simp only [List.map_toArray, List.map_cons, List.map_nil]); first | done | rfl | (simp only [List.length_drop, List.length_take]; rfl)) ?_; (with_reducible refine (spec_l23Good.calls k a0_0 a0_1 _ _ l0_2 _ _ l1 false _ ?side1 ?side2 ?side3 ?side4 A3.out).mono ?_); (case side1 => repeat (first | exact (Kd.C_below HR0_2.out HB.out) | (with_reducible refine Kd.C_alloc ?_ _) | (with_reducible refine Kd.C_drewN ?_ _) | (with_reducible refine Kd.C_drew ?_))); (case side2 => exact HC0_2.out); (case side3 => repeat (first | exact (Kd.C_below HR1.out HB.out) | (with_reducible refine Kd.C_alloc ?_ _) | (with_reducible refine Kd.C_drewN ?_ _) | (with_reducible refine Kd.C_drew ?_))); (case side4 => exact HC1.out); rintro e w14 ⟨rfl, hb⟩; refine ⟨_, rfl, ?_⟩; have n0_ := Aside0.mk (blk_below (bS BK101.out) hb); have n1_ := Aside0.mk (below_step (by exact eS HB.out) hb); clear BK101; clear HB; have BK101 := n0_; have HB := n1_; clear n0_ n1_; (try clear hb); (try clear hb2); (try clear hk); (try clear hi)))
    go_ret2
    exact ⟨by first | rfl | (simp [errW_none, errW_some] <;> rfl) | (simp [*, errW_none, errW_some] <;> rfl), by exact eS HB.out⟩

end Go.Proofs.Ytbfhphobnngeaaa.X

-- Qknotslost
namespace Go.Proofs.Ytbfhphobnngeaaa.Pure
open Go Go.RowKit Go.Proofs Go.Proofs.Ytbfhphobnngeaaa.X Go.Proofs.YtbfhphobnngeaaaW.PrintWords Go.Proofs.YtbfhphobnngeaaaW.PrintLast
set_option linter.unusedVariables false
set_option linter.unusedSimpArgs false

def knotsH (x : S39) : Int := (x.f2 - x.f0 + 1) * (x.f3 - x.f1 + 1)
theorem holes_of {w h : Int} {l : List Int} {hl : List S39} (hb : holesB w h l hl = true) : chartB w h l = true ∧ hl.length ≤ 8 ∧ ∀ x ∈ hl, holeB (h - 1) (w - 1) x = true := by
  simp only [holesB, Bool.and_eq_true, decide_eq_true_eq] at hb
  refine ⟨hb.1, hb.2.1, fun x hx => ?_⟩
  have h2 := allR_iff.mp hb.2.2
  obtain ⟨j, hj, rfl⟩ := List.mem_iff_getElem.mp hx
  have := h2 j (by omega) (by omega)
  unfold holeQ at this
  rw [Bool.and_eq_true] at this
  have e : hl.getD j z39 = hl[j] := by simp [List.getD_eq_getElem?_getD, List.getElem?_eq_getElem hj]
  rw [← e]; exact this.1
theorem hole_of {a b : Int} {x : S39} (hb : holeB a b x = true) : (0 ≤ x.f2 ∧ x.f2 ≤ a) ∧ (0 ≤ x.f0 ∧ x.f0 ≤ x.f2) ∧ (0 ≤ x.f3 ∧ x.f3 ≤ b) ∧ (0 ≤ x.f1 ∧ x.f1 ≤ x.f3) := by
  simpa only [holeB, Bool.and_eq_true, decide_eq_true_eq] using hb
theorem knots_bd {w h : Int} {l : List Int} (hc : chartB w h l = true) {x : S39} (hx : holeB (h - 1) (w - 1) x = true) : 1 ≤ knotsH x ∧ knotsH x ≤ 64 := by
  have := chart_of hc; have hx := hole_of hx
  unfold knotsH
  have h1 := mul_bd (a := x.f2 - x.f0 + 1) (b := x.f3 - x.f1 + 1) (A := 8) (B := 8) (by omega) (by omega) (by omega) (by omega)
  have h2 : 0 < (x.f2 - x.f0 + 1) * (x.f3 - x.f1 + 1) := Int.mul_pos (by omega) (by omega)
  omega
theorem knots_wr {w h : Int} {l : List Int} (hc : chartB w h l = true) {x : S39} (hx : holeB (h - 1) (w - 1) x = true) : wrap64 ((wrap64 ((wrap64 (x.f2 - x.f0)) + 1)) * (wrap64 ((wrap64 (x.f3 - x.f1)) + 1))) = knotsH x := by
  have hb := knots_bd hc hx
  have := chart_of hc; have hx := hole_of hx
  rw [w64 (x := x.f2 - x.f0) (by omega) (by omega), w64 (x := x.f2 - x.f0 + 1) (by omega) (by omega), w64 (x := x.f3 - x.f1) (by omega) (by omega), w64 (x := x.f3 - x.f1 + 1) (by omega) (by omega)]
  unfold knotsH at hb ⊢
  exact w64 (by omega) (by omega)
def knotsLostM (w h : Int) (l : List Int) (hl : List S39) : Int × Bool := if holesB w h l hl then ((hl.map knotsH).sum, true) else (0, false)
theorem knotsLostS_eq {k : Nat} {w h : Int} {l : List Int} {hl : List S39} (hk : (hl.length + 1) * (hl.length + l.length + 10) < k) (hl0 : l.length ≤ 1048576) (hb : hl.length ≤ 1048576) : spec_KnotsLost.f k w h l hl = some (knotsLostM w h l hl) := by
  simp only [spec_KnotsLost.f, holesS_eq hk hl0 hb, Option.bind_some, knotsLostM]
  cases hg : holesB w h l hl
  · simp
  obtain ⟨hc, h8, hx⟩ := holes_of hg
  simp only [if_true]
  have hk2 : hl.length < k := by have := Nat.le_mul_of_pos_right (hl.length + 1) (show 0 < hl.length + l.length + 10 by omega); omega
  have := sum_loop (fun k a i => spec_KnotsLost.l0 k hl a i) knotsH (fun a => some (a, true)) z39 64 hl (by omega) (fun x hm => by have := knots_bd hc (hx x hm); omega)
    (fun k acc i h1 h2 h3 => by
      have hm : hl.getD i z39 ∈ hl := by rw [List.getD_eq_getElem?_getD, List.getElem?_eq_getElem h1]; exact List.getElem_mem h1
      have hb := knots_bd hc (hx _ hm)
      simp only [spec_KnotsLost.l0, rdIHole_nat, spec_l23Knots.f, Option.bind_some]
      rw [if_pos (by omega), if_pos (by omega), knots_wr hc (hx _ hm), w64 (by omega) (by omega)])
    (fun k acc i h1 => by simp only [spec_KnotsLost.l0]; rw [if_neg (by omega)])
    hl.length k 0 0 (by omega) hk2 (by omega) (by omega)
  simpa using this

end Go.Proofs.Ytbfhphobnngeaaa.Pure

-- Qnestinv
namespace Go.Proofs.Ytbfhphobnngeaaa.Pure
open Go Go.RowKit Go.Proofs Go.Proofs.YtbfhphobnngeaaaW.PrintWords Go.Proofs.YtbfhphobnngeaaaW.PrintLast
set_option linter.unusedVariables false
set_option linter.unusedSimpArgs false

theorem nest_inv {σ β : Type} (Lin : Nat → σ → Int → Option β) (Lout : Nat → σ → Option β) (step : σ → Nat → σ) (I : Nat → σ → Prop) (n0 m0 : Nat)
    (hs : ∀ (i : Nat) (s : σ), i < n0 → I i s → I (i + 1) (step s i) ∧ ∃ c, ∀ k, m0 ≤ k → Lin (k + c) s (i : Int) = Lin k (step s i) ((i + 1 : Nat) : Int)) (he : ∀ k s, I n0 s → Lin (k + 1) s (n0 : Int) = Lout k s) :
    ∀ (n i : Nat) (s : σ), i + n = n0 → I i s → I n0 ((List.range' i n).foldl step s) ∧ ∃ c, ∀ k, m0 ≤ k → Lin (k + c) s (i : Int) = Lout k ((List.range' i n).foldl step s) := by
  intro n
  induction n with
  | zero =>
    intro i s hi hI
    obtain rfl : i = n0 := by omega
    exact ⟨hI, 1, fun k _ => by rw [he k s hI]; rfl⟩
  | succ n ih =>
    intro i s hi hI
    obtain ⟨hI1, c1, h1⟩ := hs i s (by omega) hI
    obtain ⟨hI2, c2, h2⟩ := ih (i + 1) (step s i) (by omega) hI1
    refine ⟨hI2, c2 + c1, fun k hk => ?_⟩
    rw [show k + (c2 + c1) = (k + c2) + c1 by omega, h1 (k + c2) (by omega), h2 k hk, List.range'_succ, List.foldl_cons]
theorem ex_max (P : Nat → Nat → Prop) (n : Nat) (h : ∀ i, i < n → ∃ m, ∀ k, m ≤ k → P i k) : ∃ m, ∀ i, i < n → ∀ k, m ≤ k → P i k := by
  induction n with
  | zero => exact ⟨0, fun i hi => absurd hi (Nat.not_lt_zero i)⟩
  | succ n ih =>
    obtain ⟨m, hm⟩ := ih (fun i hi => h i (by omega))
    obtain ⟨m2, hm2⟩ := h n (by omega)
    refine ⟨m + m2, fun i hi k hk => ?_⟩
    by_cases e : i = n
    · subst e; exact hm2 k (by omega)
    · exact hm i (by omega) k (by omega)
theorem foldl_app {α : Type} (f : Nat → List α) : ∀ (l : List Nat) (s : List α), l.foldl (fun s r => s ++ f r) s = s ++ l.flatMap f := by
  intro l
  induction l with
  | nil => intro s; simp
  | cons x l ih => intro s; rw [List.foldl_cons, ih, List.flatMap_cons, List.append_assoc]

end Go.Proofs.Ytbfhphobnngeaaa.Pure

-- QyarnlostI
namespace Go.Proofs.Ytbfhphobnngeaaa.Pure
open Go Go.RowKit Go.Proofs Go.Proofs.Ytbfhphobnngeaaa.X Go.Proofs.YtbfhphobnngeaaaW.PrintWords Go.Proofs.YtbfhphobnngeaaaW.PrintLast
set_option linter.unusedVariables false
set_option linter.unusedSimpArgs false

theorem rows_rev (bt t : Nat) (ht : t ≤ bt) : (List.range' 0 (bt + 1 - t)).map (fun r => bt - r) = (List.range' t (bt + 1 - t)).reverse := by
  apply List.ext_getElem
  · simp
  · intro i h1 h2
    simp at h1 h2 ⊢
    omega
theorem lost_ex {w : Nat} {h : Int} {l : List Int} (hc : chartB w h l = true) (t lf bt rt : Nat) (h1 : t ≤ bt ∧ (bt : Int) ≤ h - 1) (h2 : lf ≤ rt ∧ (rt : Int) ≤ w - 1) :
    ∃ k0, ∀ k, k0 ≤ k → impl_Chart_lost.f k w h l t lf bt rt = some ((List.range' t (bt + 1 - t)).reverse.flatMap (rowC w l lf (rt + 1 - lf))) := by
  have hcw := chart_of hc
  obtain ⟨_, q, hq⟩ := nest_inv (fun k (s : List Int) r => impl_Chart_lost.l0 k s ((bt : Int) - r) (w : Int) h l t lf bt rt) (fun k s => some s) (fun s r => s ++ rowC w l lf (rt + 1 - lf) (bt - r)) (fun r s => s.length ≤ 8 * r) (bt + 1 - t) 0
    (fun r s hr hs => by
      obtain ⟨hI, c, hcc⟩ := nest_inv (fun k (s : List Int) b => impl_Chart_lost.l1 k s ((bt : Int) - r) b (w : Int) h l t lf bt rt) (fun k s => impl_Chart_lost.l0 k s (wrap64 ((bt : Int) - r - 1)) (w : Int) h l t lf bt rt) (fun s b => s ++ [rd l (((bt - r) * w + b : Nat) : Int)]) (fun b s => lf ≤ b ∧ s.length ≤ 8 * r + (b - lf)) (rt + 1) 0
        (fun b s hbr hs => by
          obtain ⟨hs1, hs2⟩ := hs
          refine ⟨⟨by omega, by rw [List.length_append, List.length_singleton]; omega⟩, 1, fun k _ => ?_⟩
          obtain ⟨hp, hcol⟩ := place_of hc (a := ((bt : Int) - r)) (c := (b : Int)) (by omega) (by omega)
          simp only [impl_Chart_lost.l1]
          rw [if_pos (by omega), atI_eq hc (by omega) (by omega)]
          simp only [Option.bind_some]
          rw [if_pos (by omega), wstep (n := rt + 1) (by omega) (by omega), show (((bt - r) * w + b : Nat) : Int) = ((bt : Int) - r) * w + b by push_cast [show r ≤ bt by omega]; rfl])
        (fun k s hs => by
          simp only [impl_Chart_lost.l1]
          rw [if_neg (by push_cast; omega)])
        (rt + 1 - lf) lf s (by omega) ⟨by omega, by omega⟩
      have e : (List.range' lf (rt + 1 - lf)).foldl (fun s b => s ++ [rd l (((bt - r) * w + b : Nat) : Int)]) s = s ++ rowC w l lf (rt + 1 - lf) (bt - r) := by
        rw [foldl_app (fun b => [rd l (((bt - r) * w + b : Nat) : Int)])]
        unfold rowC
        congr 1
        induction (List.range' lf (rt + 1 - lf)) with
        | nil => rfl
        | cons x m ih => rw [List.flatMap_cons, List.map_cons, ih]; rfl
      rw [e] at hI hcc
      refine ⟨by have := hI.2; show (s ++ rowC w l lf (rt + 1 - lf) (bt - r)).length ≤ 8 * (r + 1); omega, c + 1, fun k hk => ?_⟩
      show impl_Chart_lost.l0 (k + c + 1) s ((bt : Int) - r) (w : Int) h l t lf bt rt = _
      simp only [impl_Chart_lost.l0]
      rw [if_pos (by omega), hcc k hk, w64 (by omega) (by omega)]
      congr 1
      push_cast; omega)
    (fun k s hs => by
      simp only [impl_Chart_lost.l0]
      rw [if_neg (by omega)])
    (bt + 1 - t) 0 [] (by omega) (by simp)
  refine ⟨q, fun k hk => ?_⟩
  obtain ⟨k2, rfl⟩ : ∃ k2, k = k2 + q := ⟨k - q, by omega⟩
  unfold impl_Chart_lost.f
  have := hq k2 (by omega)
  simp only [Int.ofNat_zero, Int.sub_zero] at this
  rw [this, foldl_app (fun r => rowC w l lf (rt + 1 - lf) (bt - r)), List.nil_append, ← rows_rev bt t h1.1, List.flatMap_map]
theorem yarnI_ex {w h : Int} {l : List Int} {hl : List S39} (hb : hl.length ≤ 1048576) : ∃ k0, ∀ k, k0 ≤ k → impl_YarnLost.f k w h l hl = some (yarnM w h l hl) := by
  cases hg : holesB w h l hl
  · refine ⟨hl.length + 11, fun k hk => ?_⟩
    simp only [impl_YarnLost.f, AreHoles_eq (k := k) (w := w) (h := h) (l := l) (hl := hl) (by omega) hb, hg, Option.bind_some, yarnM]
    simp
  obtain ⟨hc, h8, hx⟩ := holes_of hg
  have hcw := chart_of hc
  obtain ⟨w', rfl⟩ := nat_of (show 0 ≤ w by omega)
  obtain ⟨m0, hm0⟩ := ex_max (fun i k => impl_Chart_lost.f k w' h l (hl.getD i z39).f0 (hl.getD i z39).f1 (hl.getD i z39).f2 (hl.getD i z39).f3 = some ((List.range' (hl.getD i z39).f0.toNat ((hl.getD i z39).f2 + 1 - (hl.getD i z39).f0).toNat).reverse.flatMap (rowC w' l (hl.getD i z39).f1.toNat ((hl.getD i z39).f3 + 1 - (hl.getD i z39).f1).toNat))) hl.length
    (fun i hi => by
      have hm : hl.getD i z39 ∈ hl := by rw [List.getD_eq_getElem?_getD, List.getElem?_eq_getElem hi]; exact List.getElem_mem hi
      have hxx := hole_of (hx _ hm)
      obtain ⟨⟨f0, f1, f2, f3⟩, hx0⟩ : ∃ x : S39, hl.getD i z39 = x := ⟨_, rfl⟩
      rw [hx0] at hxx ⊢
      simp only at hxx ⊢
      obtain ⟨t, rfl⟩ := nat_of (show 0 ≤ f0 by omega)
      obtain ⟨lf, rfl⟩ := nat_of (show 0 ≤ f1 by omega)
      obtain ⟨bt, rfl⟩ := nat_of (show 0 ≤ f2 by omega)
      obtain ⟨rt, rfl⟩ := nat_of (show 0 ≤ f3 by omega)
      simp only [Int.toNat_natCast]
      rw [show ((bt : Int) + 1 - t).toNat = bt + 1 - t by omega, show ((rt : Int) + 1 - lf).toNat = rt + 1 - lf by omega]
      exact lost_ex hc t lf bt rt (by omega) (by omega))
  obtain ⟨_, q, hq⟩ := nest_inv (fun k (s : List Int) i => impl_YarnLost.l0 k s hl (hl.length : Int) i (w' : Int) h l) (fun k s => some (s, true)) (stepH w' l hl) (fun _ s => s.length = 6) hl.length m0
    (fun i s hi hs => by
      have hm : hl.getD i z39 ∈ hl := by rw [List.getD_eq_getElem?_getD, List.getElem?_eq_getElem hi]; exact List.getElem_mem hi
      have hxx := hole_of (hx _ hm)
      refine ⟨by unfold stepH; rw [bumps_len]; exact hs, ?_⟩
      have hlost := hm0 i hi
      obtain ⟨m, hmm⟩ : ∃ m, m = ((List.range' (hl.getD i z39).f0.toNat ((hl.getD i z39).f2 + 1 - (hl.getD i z39).f0).toNat).reverse.flatMap (rowC w' l (hl.getD i z39).f1.toNat ((hl.getD i z39).f3 + 1 - (hl.getD i z39).f1).toNat)) := ⟨_, rfl⟩
      rw [← hmm] at hlost
      have hcol : ∀ v ∈ m, 0 ≤ v ∧ v ≤ 5 := by
        intro v hv
        rw [hmm, List.mem_flatMap] at hv
        obtain ⟨a, ha, hv⟩ := hv
        unfold rowC at hv
        rw [List.mem_map] at hv
        obtain ⟨c, hcc, rfl⟩ := hv
        rw [List.mem_reverse, List.mem_range'_1] at ha
        rw [List.mem_range'_1] at hcc
        have := (place_of hc (a := (a : Int)) (c := (c : Int)) (by omega) (by omega)).2
        rw [show ((a * w' + c : Nat) : Int) = (a : Int) * w' + c by push_cast; rfl]
        exact this
      have hlen : m.length ≤ 9223372036854775806 := by
        rw [hmm, List.length_flatMap]
        have hmax : ∀ (n : Nat) (q : List Nat), (q.map fun a => (rowC w' l (hl.getD i z39).f1.toNat n a).length).sum = q.length * n := by
          intro n q
          induction q with
          | nil => simp
          | cons x q ih => rw [List.map_cons, List.sum_cons, ih]; unfold rowC; rw [List.length_map, List.length_range', List.length_cons, Nat.succ_mul]; omega
        rw [hmax, List.length_reverse, List.length_range']
        have := Nat.mul_le_mul (show ((hl.getD i z39).f2 + 1 - (hl.getD i z39).f0).toNat ≤ 8 by omega) (show ((hl.getD i z39).f3 + 1 - (hl.getD i z39).f1).toNat ≤ 8 by omega)
        omega
      obtain ⟨_, c, hcc⟩ := nest_inv (fun k (s : List Int) j => impl_YarnLost.l1 k s hl (hl.length : Int) (i : Int) m (m.length : Int) j (w' : Int) h l) (fun k s => impl_YarnLost.l0 k s hl (hl.length : Int) ((i + 1 : Nat) : Int) (w' : Int) h l) (fun s j => bump s (m.getD j 0)) (fun _ s => s.length = 6) m.length 0
        (fun j s hj hs => by
          have hmj : m.getD j 0 ∈ m := by rw [List.getD_eq_getElem?_getD, List.getElem?_eq_getElem hj]; exact List.getElem_mem hj
          have hv := hcol _ hmj
          refine ⟨by rw [bump_len]; exact hs, 1, fun k _ => ?_⟩
          simp only [impl_YarnLost.l1, rd_nat m]
          rw [if_pos (by omega), if_pos (by omega), if_pos (by omega), if_pos (by omega), if_pos (by omega), wstep hj (by omega), bump_set _ _ (by omega)])
        (fun k s hs => by
          simp only [impl_YarnLost.l1]
          rw [if_neg (by omega), wstep hi (by omega)])
        m.length 0 s (by omega) hs
      refine ⟨c + 1, fun k hk => ?_⟩
      show impl_YarnLost.l0 (k + c + 1) s hl (hl.length : Int) (i : Int) (w' : Int) h l = _
      simp only [impl_YarnLost.l0]
      rw [if_pos (by omega), if_pos (by omega), if_pos (by omega), rdIHole_nat, hlost (k + c) (by omega)]
      simp only [Option.bind_some]
      have e : (List.range' 0 m.length).foldl (fun s j => bump s (m.getD j 0)) s = m.foldl bump s := by
        rw [← List.foldl_map (f := fun j => m.getD j 0) (g := bump)]
        congr 1
        apply List.ext_getElem
        · simp
        · intro j h1 h2
          simp [List.getD_eq_getElem?_getD, List.getElem?_eq_getElem h2]
      rw [e] at hcc
      rw [show (0 : Int) = ((0 : Nat) : Int) from rfl, hcc k (by omega), hmm]
      unfold stepH cellsH
      rw [bump_perm (cells_perm _ _)])
    (fun k s hs => by
      simp only [impl_YarnLost.l0]
      rw [if_neg (by omega)])
    hl.length 0 (List.replicate 6 0) (by omega) (by simp)
  refine ⟨hl.length + 11 + (m0 + q), fun k hk => ?_⟩
  simp only [impl_YarnLost.f, AreHoles_eq (k := k) (w := (w' : Int)) (h := h) (l := l) (hl := hl) (by omega) hb, hg, Option.bind_some, yarnM, if_true]
  rw [if_pos (by omega)]
  obtain ⟨k2, rfl, hk2⟩ : ∃ k2, k = k2 + q ∧ m0 ≤ k2 := ⟨k - q, by omega, by omega⟩
  have := hq k2 hk2
  simpa using this

end Go.Proofs.Ytbfhphobnngeaaa.Pure

-- QyarnlostS
namespace Go.Proofs.Ytbfhphobnngeaaa.Pure
open Go Go.RowKit Go.Proofs Go.Proofs.Ytbfhphobnngeaaa.X Go.Proofs.YtbfhphobnngeaaaW.PrintWords Go.Proofs.YtbfhphobnngeaaaW.PrintLast
set_option linter.unusedVariables false
set_option linter.unusedSimpArgs false

theorem yarnS_ex {w h : Int} {l : List Int} {hl : List S39} (hl0 : l.length ≤ 1048576) (hb : hl.length ≤ 1048576) : ∃ k0, ∀ k, k0 ≤ k → spec_YarnLost.f k w h l hl = some (yarnM w h l hl) := by
  cases hg : holesB w h l hl
  · refine ⟨(hl.length + 1) * (hl.length + l.length + 10) + 1, fun k hk => ?_⟩
    simp only [spec_YarnLost.f, holesS_eq (k := k) (w := w) (h := h) (l := l) (hl := hl) (by omega) hl0 hb, hg, Option.bind_some, yarnM]
    simp
  obtain ⟨hc, h8, hx⟩ := holes_of hg
  have hcw := chart_of hc
  obtain ⟨w', rfl⟩ := nat_of (show 0 ≤ w by omega)
  obtain ⟨_, q, hq⟩ := nest_inv (fun k (s : List Int) i => spec_YarnLost.l0 k hl s i (w' : Int) h l) (fun k s => some (s, true)) (stepH w' l hl) (fun _ s => s.length = 6) hl.length 0
    (fun i s hi hs => by
      have hm : hl.getD i z39 ∈ hl := by rw [List.getD_eq_getElem?_getD, List.getElem?_eq_getElem hi]; exact List.getElem_mem hi
      have hxx := hole_of (hx _ hm)
      refine ⟨by unfold stepH; rw [bumps_len]; exact hs, ?_⟩
      obtain ⟨⟨f0, f1, f2, f3⟩, hx0⟩ : ∃ x : S39, hl.getD i z39 = x := ⟨_, rfl⟩
      rw [hx0] at hxx
      simp only at hxx
      obtain ⟨t, rfl⟩ := nat_of (show 0 ≤ f0 by omega)
      obtain ⟨lf, rfl⟩ := nat_of (show 0 ≤ f1 by omega)
      obtain ⟨bt, rfl⟩ := nat_of (show 0 ≤ f2 by omega)
      obtain ⟨rt, rfl⟩ := nat_of (show 0 ≤ f3 by omega)
      have hrow : ∀ (a : Nat) (s : List Int), a < bt + 1 → s.length = 6 → ∃ c, ∀ k, 0 ≤ k → spec_YarnLost.l2 (k + c) hl s (i : Int) (a : Int) (lf : Int) (w' : Int) h l = spec_YarnLost.l1 k hl ((rowC w' l lf (rt + 1 - lf) a).foldl bump s) (i : Int) (wrap64 ((a : Int) + 1)) (w' : Int) h l := by
        intro a s ha hs
        obtain ⟨_, c, hcc⟩ := nest_inv (fun k (s : List Int) b => spec_YarnLost.l2 k hl s (i : Int) (a : Int) b (w' : Int) h l) (fun k s => spec_YarnLost.l1 k hl s (i : Int) (wrap64 ((a : Int) + 1)) (w' : Int) h l) (fun s b => bump s (rd l ((a * w' + b : Nat) : Int))) (fun _ s => s.length = 6) (rt + 1) 0
          (fun b s hbr hs => by
            refine ⟨by rw [bump_len]; exact hs, 1, fun k _ => ?_⟩
            have hbb : b < rt + 1 := hbr
            obtain ⟨hp, hcol⟩ := place_of hc (a := (a : Int)) (c := (b : Int)) (by omega) (by omega)
            simp only [spec_YarnLost.l2]
            rw [if_pos (by omega), if_pos (by omega), rdIHole_nat, hx0, if_pos (by simp only; omega), atS_eq hc (by omega) (by omega)]
            simp only [Option.bind_some]
            rw [if_pos hcol.1, if_pos (by omega), wstep (n := rt + 1) (by omega) (by omega), bump_set _ _ (by omega), show ((a * w' + b : Nat) : Int) = (a : Int) * w' + b by push_cast; rfl])
          (fun k s hs => by
            simp only [spec_YarnLost.l2]
            rw [if_pos (by omega), if_pos (by omega), rdIHole_nat, hx0, if_neg (by simp only; push_cast; omega)])
          (rt + 1 - lf) lf s (by omega) hs
        refine ⟨c, fun k hk => ?_⟩
        rw [hcc k hk]
        unfold rowC
        rw [List.foldl_map]
      obtain ⟨_, c, hcc⟩ := nest_inv (fun k (s : List Int) a => spec_YarnLost.l1 k hl s (i : Int) a (w' : Int) h l) (fun k s => spec_YarnLost.l0 k hl s ((i + 1 : Nat) : Int) (w' : Int) h l) (fun s a => (rowC w' l lf (rt + 1 - lf) a).foldl bump s) (fun _ s => s.length = 6) (bt + 1) 0
        (fun a s ha hs => by
          refine ⟨by rw [bumps_len]; exact hs, ?_⟩
          obtain ⟨c, hcc⟩ := hrow a s ha hs
          refine ⟨c + 1, fun k hk => ?_⟩
          show spec_YarnLost.l1 (k + c + 1) hl s (i : Int) (a : Int) (w' : Int) h l = _
          simp only [spec_YarnLost.l1]
          rw [if_pos (by omega), if_pos (by omega), rdIHole_nat, hx0, if_pos (by simp only; omega)]
          simp only
          rw [hcc k hk, wstep (n := bt + 1) (by omega) (by omega)])
        (fun k s hs => by
          simp only [spec_YarnLost.l1]
          rw [if_pos (by omega), if_pos (by omega), rdIHole_nat, hx0, if_neg (by simp only; push_cast; omega), wstep hi (by omega)])
        (bt + 1 - t) t s (by omega) hs
      refine ⟨c + 1, fun k hk => ?_⟩
      show spec_YarnLost.l0 (k + c + 1) hl s (i : Int) (w' : Int) h l = _
      simp only [spec_YarnLost.l0]
      rw [if_pos (by omega), if_pos (by omega), rdIHole_nat, hx0]
      simp only
      rw [hcc k hk]
      unfold stepH cellsH
      rw [hx0]
      simp only [Int.toNat_natCast]
      rw [show ((bt : Int) + 1 - t).toNat = bt + 1 - t by omega, show ((rt : Int) + 1 - lf).toNat = rt + 1 - lf by omega, List.foldl_flatMap])
    (fun k s hs => by
      simp only [spec_YarnLost.l0]
      rw [if_neg (by omega)])
    hl.length 0 (List.replicate 6 0) (by omega) (by simp)
  refine ⟨(hl.length + 1) * (hl.length + l.length + 10) + 1 + q, fun k hk => ?_⟩
  simp only [spec_YarnLost.f, holesS_eq (k := k) (w := (w' : Int)) (h := h) (l := l) (hl := hl) (by omega) hl0 hb, hg, Option.bind_some, yarnM, if_true]
  rw [if_pos (by omega)]
  obtain ⟨k2, rfl⟩ : ∃ k2, k = k2 + q := ⟨k - q, by omega⟩
  have := hq k2 (by omega)
  simpa using this

end Go.Proofs.Ytbfhphobnngeaaa.Pure

-- PureFnExactYarnLost
namespace Go.Proofs.Ytbfhphobnngeaaa.Pure
open Go Go.RowKit Go.Proofs Go.Proofs.Ytbfhphobnngeaaa.X Go.Proofs.YtbfhphobnngeaaaW.PrintWords Go.Proofs.YtbfhphobnngeaaaW.PrintLast
set_option linter.unusedVariables false
set_option linter.unusedSimpArgs false

theorem FnExactYarnLost : laws_FnExactYarnLost.Pure := by
  intro w h l fl _ _ hl hf
  obtain ⟨k1, e1⟩ : ∃ k0, ∀ k, k0 ≤ k → l.length ≤ 1048576 → (fl.map toHole).length ≤ 1048576 → spec_YarnLost.f k w h l (fl.map toHole) = some (yarnM w h l (fl.map toHole)) := by
    by_cases g : l.length ≤ 1048576 ∧ (fl.map toHole).length ≤ 1048576
    · obtain ⟨k0, hk⟩ := yarnS_ex (w := w) (h := h) (l := l) (hl := fl.map toHole) g.1 g.2
      exact ⟨k0, fun k h1 _ _ => hk k h1⟩
    · exact ⟨0, fun k _ a b => absurd ⟨a, b⟩ g⟩
  obtain ⟨k2, e2⟩ : ∃ k0, ∀ k, k0 ≤ k → (fl.map toHole).length ≤ 1048576 → impl_YarnLost.f k w h l (fl.map toHole) = some (yarnM w h l (fl.map toHole)) := by
    by_cases g : (fl.map toHole).length ≤ 1048576
    · obtain ⟨k0, hk⟩ := yarnI_ex (w := w) (h := h) (l := l) (hl := fl.map toHole) g
      exact ⟨k0, fun k h1 _ => hk k h1⟩
    · exact ⟨0, fun k _ b => absurd b g⟩
  obtain ⟨k, hk, hk1, hk2⟩ : ∃ k, 4000000 < k ∧ k1 ≤ k ∧ k2 ≤ k := ⟨k1 + k2 + 4000001, by omega, by omega, by omega⟩
  refine ⟨k + 3, ?_⟩
  simp only [laws_FnExactYarnLost.f, szChart_eq hl.1 (show (0 : Int) ≤ 1048576 ∧ (1048576 : Int) ≤ 9223372036854775807 by omega), Option.bind_some]
  by_cases hs : (1048576 : Int) < l.length
  · simp [hs]
  rw [if_neg hs, if_neg (by omega), szHoleS_eq hf.1 (by omega)]
  simp only [Option.bind_some]
  by_cases hs2 : (1048576 : Int) - l.length < fl.length
  · simp [hs2]
  rw [if_neg hs2, if_neg (by omega)]
  have h1 : l.length ≤ 1048576 := by omega
  have h2 : fl.length ≤ 1048576 := by omega
  have h3 : (fl.map toHole).length ≤ 1048576 := by rw [List.length_map]; exact h2
  have h5 := yarnM_len w h l (fl.map toHole)
  simp only [toChart_eq (k := k + 3) (w := w) (h := h) (l := l) (by omega) h1, toHoleS_eq (k := k + 3) (l := fl) (by omega) h2, Option.bind_some, e1 (k + 3) (by omega) h1 h3, e2 (k + 3) (by omega) h3, eqIntS_refl (k := k + 3) (l := (yarnM w h l (fl.map toHole)).1) (by omega) (by omega), if_true, laws_FnExactYarnLost.j0, toChart_eq (k := k + 2) (w := w) (h := h) (l := l) (by omega) h1, toHoleS_eq (k := k + 2) (l := fl) (by omega) h2, eqChart_refl (k := k + 2) (w := w) (h := h) (l := l) (by omega) h1, eqHoleS_refl (k := k + 2) (l := fl.map toHole) (by omega) (by omega), markChart_eq (k := k + 2) (l := l) (s := 1) (by omega) (by omega) (by omega), markHoleS_eq (k := k + 2) (l := fl.map toHole) (s := 1 + 1 * (l.length : Int)) (by omega) h3 (by omega), eqIntS_refl (k := k + 2) (l := (yarnM w h l (fl.map toHole)).1) (by omega) (by omega), bne_self_eq_false, Bool.false_eq_true, if_false]
  rw [if_neg (by omega)]
  simp only [laws_FnExactYarnLost.j1, Bool.false_eq_true, if_false, markIntS_eq (k := k + 1) (l := (yarnM w h l (fl.map toHole)).1) (s := 1) (by omega) (by omega) (by omega), Option.bind_some, heldIntS_eq (k := k + 1) (n := (yarnM w h l (fl.map toHole)).1.length) (s := 1) (by omega) (by omega) (by omega), if_true, toChart_eq (k := k + 1) (w := w) (h := h) (l := l) (by omega) h1, toHoleS_eq (k := k + 1) (l := fl) (by omega) h2, e2 (k + 1) (by omega) h3, eqIntS_refl (k := k + 1) (l := (yarnM w h l (fl.map toHole)).1) (by omega) (by omega), bne_self_eq_false]
  rw [if_neg (by omega)]
  simp only [laws_FnExactYarnLost.j2, Bool.false_eq_true, if_false, heldIntS_eq (k := k) (n := (yarnM w h l (fl.map toHole)).1.length) (s := 1) (by omega) (by omega) (by omega), Option.bind_some, if_true]
  rw [if_neg (by omega)]

end Go.Proofs.Ytbfhphobnngeaaa.Pure
