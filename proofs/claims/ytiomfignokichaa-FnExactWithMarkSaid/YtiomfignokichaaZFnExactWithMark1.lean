/- What the law FnExactWithMark needs, part 2 of 3: what each function of the program that it reaches returns (printed by this session's own program, checked by Lean), and plain mathematics about it. Conditions: those of each theorem. -/
import Derived.Test.YtiomfignokichaaZFnExactWithMark0
import Derived.Test.YtiomfignokichaaWLast
import Derived.Test.YtiomfignokichaaWWords
import Derived.ProofKit
import Derived.WideShapes
-- XspecWithMarkF15
namespace Go.Proofs.Ytiomfignokichaa.X
open Ho (bS eS)
open Go.RowKit Go.Proofs.YtiomfignokichaaW.PrintWords Go.Proofs.YtiomfignokichaaW.PrintLast Go.Proofs.YtiomfignokichaaW.PrintMore
attribute [local go_sem] max2_int min2_int max_two min_two max_three min_three max_four min_four   -- for this text's walks alone
set_option linter.unusedVariables false
set_option linter.unusedSimpArgs false

attribute [local go_sem ↓] Ho.isSome_setCell_   -- a store leaves all places there
/-! ### spec_WithMark: function 15 -/
def spec_WithMark.j0 : Nat → Int → Bool → Bool → List Int → Int → Int → Option (List Int × Int × Int × Bool)
  | 0, _, _, _, _, _, _ => none
  | k + 1, x1, x2, x24, x102000, x102001, x102002 => if x24 = true then (some (([] : List Int), 0, 0, false)) else ((spec_l1Own.f x102000).bind fun t106 => (if 0 ≤ x1 then (if x1 < (t106.length : Int) then ((some (t106.set (x1 : Int).toNat 0 : List Int)).bind fun y110 => (if x2 = true then (some ((y110.set (x1 : Int).toNat 1), x102001, x102002, true)) else (some (y110, x102001, x102002, true)))) else (none)) else (none)))
def spec_WithMark.f (k : Nat) (l0_0 : List Int) (a0_1 : Int) (a0_2 : Int) (a1 : Int) (a2 : Bool) : Option (List Int × Int × Int × Bool) := (spec_l20Piece.f k l0_0 a0_1 a0_2).bind fun t103 => (if t103 = true then ((spec_l1In.f a1 0 7).bind fun t104 => (if t104 = true then (if 0 ≤ a1 then (if a1 < (l0_0.length : Int) then (spec_WithMark.j0 k a1 a2 ((rd l0_0 a1) != (-1)) l0_0 a0_1 a0_2) else (none)) else (none)) else (spec_WithMark.j0 k a1 a2 true l0_0 a0_1 a0_2))) else (spec_WithMark.j0 k a1 a2 true l0_0 a0_1 a0_2))
theorem spec_WithMark.mono_l : ∀ k, (∀ y0 y1 y2 y3 y4 y5, LeO (spec_WithMark.j0 k y0 y1 y2 y3 y4 y5) (spec_WithMark.j0 (k + 1) y0 y1 y2 y3 y4 y5))
  | 0 => fun _ _ _ _ _ _ r h => by simp [spec_WithMark.j0] at h
  | k + 1 => by
    have ih0 := spec_WithMark.mono_l k
    · intro y0 y1 y2 y3 y4 y5
      unfold spec_WithMark.j0
      repeat' first
      | (with_reducible exact ih0 _ _ _ _ _ _)
      | (with_reducible exact spec_l20Piece.mono _ _ _ _)
      | (with_reducible exact LeO.refl _)
      | (with_reducible exact LeO.none _)
      | (with_reducible refine LeO.ite ?_ ?_)
      | (with_reducible refine LeO.bind ?_ (fun _ => ?_))
      | exact ih0 _ _ _ _ _ _
      | exact spec_l20Piece.mono _ _ _ _
      | exact LeO.none _
      | refine LeO.ite ?_ ?_
      | refine LeO.bind ?_ (fun _ => ?_)
theorem spec_WithMark.mono : ∀ a0 a1 a2 a3 a4 k, LeO (spec_WithMark.f k a0 a1 a2 a3 a4) (spec_WithMark.f (k + 1) a0 a1 a2 a3 a4) := by
  intro a0 a1 a2 a3 a4 k
  have ih0 := spec_WithMark.mono_l k
  unfold spec_WithMark.f
  repeat' first
      | (with_reducible exact ih0 _ _ _ _ _ _)
      | (with_reducible exact spec_l20Piece.mono _ _ _ _)
      | (with_reducible exact LeO.refl _)
      | (with_reducible exact LeO.none _)
      | (with_reducible refine LeO.ite ?_ ?_)
      | (with_reducible refine LeO.bind ?_ (fun _ => ?_))
      | exact ih0 _ _ _ _ _ _
      | exact spec_l20Piece.mono _ _ _ _
      | exact LeO.none _
      | refine LeO.ite ?_ ?_
      | refine LeO.bind ?_ (fun _ => ?_)
def spec_WithMark.T3 : Bool × List (List Nat × List Nat) := (true, [([], []), ([0], [0]), ([1], [1]), ([], []), ([3], [3]), ([], []), ([5], [5]), ([2, 4, 6], [2, 4, 6]), ([], []), ([8, 7, 2, 0, 1, 2, 3, 4, 5, 6, 7, 8], [7, 8])])
def spec_WithMark.B3 : List Nat := [0, 1, 3, 0, 8, 0, 32, 127, 0, 511]
theorem spec_WithMark.tab3 : rtab .any (opsOf Try.f15 3) = spec_WithMark.T3 := by kernel_rfl
theorem spec_WithMark.bits3 : waitsOk spec_WithMark.T3.2 spec_WithMark.B3 = true := by kernel_rfl
set_option maxHeartbeats 8000000 in
set_option maxRecDepth 100000 in
theorem spec_WithMark.calls (k : Nat) (A0_0 : Option Addr) (c0_0 : Nat) (l0_0 : List Int) (a0_1 : Int) (a0_2 : Int) (a1 : Int) (a2 : Bool) (r1 : List Int) (r2 : Int) (r3 : Int) (r4 : Bool) (w : World) (hr0_0 : Kd.C (Kd.int .i64) w A0_0 l0_0.length l0_0) (hc0_0 : l0_0.length ≤ c0_0) (h : spec_WithMark.f k l0_0 a0_1 a0_2 a1 a2 = some (r1, r2, r3, r4)) :
    Calls Try.prog 15 #[.agg #[.slice A0_0 l0_0.length c0_0, .int .i64 a0_1, .int .i64 a0_2], .int .i64 a1, .bool a2] w fun e w' => ∃ v0_ : Value, e = .returned (.tuple #[.agg #[v0_, .int .i64 r2, .int .i64 r3], .bool r4]) ∧ Kd.R (Kd.int .i64) 3 w' w.heap.size (fun _ => True) v0_ r1 ∧ Below w.heap.size w w' := by
  have hu27 := Try.underlying27
  have HR0_0 := Aside0.mk hr0_0
  have HC0_0 := Aside0.mk hc0_0
  clear hr0_0 hc0_0
  have HB := Aside0.mk (Below.refl w.heap.size w)
  have H : ((spec_l20Piece.f k l0_0 a0_1 a0_2).bind fun t103 => (if t103 = true then ((spec_l1In.f a1 0 7).bind fun t104 => (if t104 = true then (if 0 ≤ a1 then (if a1 < (l0_0.length : Int) then (spec_WithMark.j0 k a1 a2 ((rd l0_0 a1) != (-1)) l0_0 a0_1 a0_2) else (none)) else (none)) else (spec_WithMark.j0 k a1 a2 true l0_0 a0_1 a0_2))) else (spec_WithMark.j0 k a1 a2 true l0_0 a0_1 a0_2))) = some (r1, r2, r3, r4) := h
  clear h
  have HC4 := Aside0.mk H
  clear H
  go_enter Try.func15, Try.ntmps15
  go_upto_region 1 with (first | ((with_reducible refine gate_dst (N := 3) rfl ?_); refine box_event ?hg (N := 3) ?hd (cs := #[.slice A0_0 l0_0.length c0_0, .int .i64 a0_1, .int .i64 a0_2]) (t := 27) ?hr ?_; (case hd => rfl); (case hg => rfl); (case hr => first | (go_simp; done) | (go_simp; rfl)); intro gb101 hg w5 hbox hb; have n0_ := Aside0.mk (below_step (by exact eS HB.out) hb); have n1_ := Aside0.mk (hbox); have n2_ := Aside0.mk ((by rw [hg]; exact (below_size (by exact eS HB.out)) : w.heap.size ≤ gb101)); have n3_ := Aside0.mk ((by rw [hg]; exact (below_size (by exact eS HB.out)) : w.heap.size ≤ gb101)); clear HB; have HB := n0_; have BK101 := n1_; have GW101 := n2_; have GE101 := n3_; clear n0_ n1_ n2_ n3_; clear hb hbox hg) | ((with_reducible refine gate_dst (N := 6) rfl ?_); refine box_event ?hg (N := 6) ?hd (cs := #[.slice none 0 0, .int .i64 0, .int .i64 0]) (t := 27) ?hr ?_; (case hd => rfl); (case hg => rfl); (case hr => first | (go_simp; done) | (go_simp; rfl)); intro gb102 hg w6 hbox hb; have n0_ := Aside0.mk (blk_below (bS BK101.out) hb); have n1_ := Aside0.mk (below_step (by exact eS HB.out) hb); have n2_ := Aside0.mk (hbox); have n3_ := Aside0.mk ((by rw [hg]; exact (below_size (by exact eS HB.out)) : w.heap.size ≤ gb102)); have n4_ := Aside0.mk ((by rw [hg]; exact (below_size (by exact eS HB.out)) : w.heap.size ≤ gb102)); have n5_ := Aside0.mk ((by rw [hg]; exact Nat.ne_of_lt (blk_lt (bS BK101.out)) : gb101 ≠ gb102)); have n6_ := Aside0.mk ((by rw [hg]; exact Nat.ne_of_gt (blk_lt (bS BK101.out)) : gb102 ≠ gb101)); clear BK101; clear HB; have BK101 := n0_; have HB := n1_; have BK102 := n2_; have GW102 := n3_; have GE102 := n4_; have NB101_102 := n5_; have NB102_101 := n6_; clear n0_ n1_ n2_ n3_ n4_ n5_ n6_; clear hb hbox hg))
  (try simp only [Act.put, List.setIfInBounds_toArray, List.set_cons_zero, List.set_cons_succ])
  go_cut [24] (fun v24 wc => ∃ (kq : Nat) (x24_3 : Bool), v24 = .bool x24_3 ∧ Aside0 (spec_WithMark.j0 kq a1 a2 x24_3 l0_0 a0_1 a0_2 = some (r1, r2, r3, r4)) ∧ Aside0 (kq ≤ k) ∧ Aside0 (wc.heap[gb101]? = some (.cells #[(.slice A0_0 l0_0.length c0_0), .int .i64 a0_1, .int .i64 a0_2] 27 (0, 0))) ∧ Aside0 (wc.heap[gb102]? = some (.cells #[(.slice none 0 0), .int .i64 0, .int .i64 0] 27 (0, 0))) ∧ Aside0 (Below w.heap.size w wc))
  case first =>
    have H := HC4.out
    clear HC4
    replace H := Option.bind_eq_some_iff.mp H
    obtain ⟨t103, A70, H⟩ := H
    replace H : (if t103 = true then ((spec_l1In.f a1 0 7).bind fun t104 => (if t104 = true then (if 0 ≤ a1 then (if a1 < (l0_0.length : Int) then (spec_WithMark.j0 k a1 a2 ((rd l0_0 a1) != (-1)) l0_0 a0_1 a0_2) else (none)) else (none)) else (spec_WithMark.j0 k a1 a2 true l0_0 a0_1 a0_2))) else (spec_WithMark.j0 k a1 a2 true l0_0 a0_1 a0_2)) = some (r1, r2, r3, r4) := H
    have A7 := Aside0.mk A70
    clear A70
    by_cases c8 : t103 = true
    · subst c8
      have H1 : ((spec_l1In.f a1 0 7).bind fun t104 => (if t104 = true then (if 0 ≤ a1 then (if a1 < (l0_0.length : Int) then (spec_WithMark.j0 k a1 a2 ((rd l0_0 a1) != (-1)) l0_0 a0_1 a0_2) else (none)) else (none)) else (spec_WithMark.j0 k a1 a2 true l0_0 a0_1 a0_2))) = some (r1, r2, r3, r4) := by rw [if_pos rfl] at H; exact H
      clear H
      have H := H1
      clear H1
      replace H := Option.bind_eq_some_iff.mp H
      obtain ⟨t104, A90, H⟩ := H
      replace H : (if t104 = true then (if 0 ≤ a1 then (if a1 < (l0_0.length : Int) then (spec_WithMark.j0 k a1 a2 ((rd l0_0 a1) != (-1)) l0_0 a0_1 a0_2) else (none)) else (none)) else (spec_WithMark.j0 k a1 a2 true l0_0 a0_1 a0_2)) = some (r1, r2, r3, r4) := H
      have A9 := Aside0.mk A90
      clear A90
      by_cases c10 : t104 = true
      · subst c10
        have H1 : (if 0 ≤ a1 then (if a1 < (l0_0.length : Int) then (spec_WithMark.j0 k a1 a2 ((rd l0_0 a1) != (-1)) l0_0 a0_1 a0_2) else (none)) else (none)) = some (r1, r2, r3, r4) := by rw [if_pos rfl] at H; exact H
        clear H
        have H := H1
        clear H1
        by_cases c11 : 0 ≤ a1
        · rw [if_pos c11] at H
          have c11b0 : decide (0 ≤ a1) = true := decide_eq_true c11
          clear c11
          (first | rw [c11b0] | (simp only [i64_w, i32_w]; rw [c11b0]) | skip)
          by_cases c12 : a1 < (l0_0.length : Int)
          · rw [if_pos c12] at H
            have c12b0 : decide (a1 < (l0_0.length : Int)) = true := decide_eq_true c12
            clear c12
            have H' := Aside0.mk H
            clear H
            have hnb13 := NB101_102.out
            have hnc13 := NB102_101.out
            have hcz14_0 : w6.cell? ⟨gb101, 0, none⟩ = some (.slice A0_0 l0_0.length c0_0) := (blk_cell BK101.out 0).trans rfl
            have hcz14_1 : w6.cell? ⟨gb101, 1, none⟩ = some (.int .i64 a0_1) := (blk_cell BK101.out 1).trans rfl
            have hcz14_2 : w6.cell? ⟨gb101, 2, none⟩ = some (.int .i64 a0_2) := (blk_cell BK101.out 2).trans rfl
            have hfz14_0 := blk_frozen BK101.out 0
            have hfz14_1 := blk_frozen BK101.out 1
            have hfz14_2 := blk_frozen BK101.out 2
            go_wp2_with (first | ((with_reducible refine gate_callee (f := 35) rfl ?_); refine goesL_ (some 10) rfl rfl Try.func35 (by kernel_rfl) rfl #[.agg #[.slice A0_0 l0_0.length c0_0, .int .i64 a0_1, .int .i64 a0_2]] rfl (by (try simp only [List.map_toArray, List.map_cons, List.map_nil]); first | done | rfl | (simp only [List.length_drop, List.length_take]; rfl)) ?_; (with_reducible refine (spec_l20Piece.calls k _ _ l0_0 a0_1 a0_2 true _ ?side1 ?side2 A7.out).mono ?_); (case side1 => repeat (first | exact (Kd.C_below HR0_0.out HB.out) | (with_reducible refine Kd.C_alloc ?_ _) | (with_reducible refine Kd.C_drewN ?_ _) | (with_reducible refine Kd.C_drew ?_))); (case side2 => exact HC0_0.out); rintro e w15 ⟨rfl, hb⟩; refine ⟨_, rfl, ?_⟩; have n0_ := Aside0.mk (blk_below (bS BK101.out) hb); have n1_ := Aside0.mk (blk_below (bS BK102.out) hb); have n2_ := Aside0.mk (below_step (by exact eS HB.out) hb); clear BK101; clear BK102; clear HB; have BK101 := n0_; have BK102 := n1_; have HB := n2_; clear n0_ n1_ n2_; (try clear hb); (try clear hb2); (try clear hk); (try clear hi)) | (go_at_call 42; (with_reducible refine (spec_l1In.calls a1 0 7 true _ A9.out).mono ?_); rintro e w' ⟨rfl, ⟨nd, rfl⟩⟩; have hcz16_0 : w15.cell? ⟨gb101, 0, none⟩ = some (.slice A0_0 l0_0.length c0_0) := (blk_cell BK101.out 0).trans rfl; have hcz16_1 : w15.cell? ⟨gb101, 1, none⟩ = some (.int .i64 a0_1) := (blk_cell BK101.out 1).trans rfl; have hcz16_2 : w15.cell? ⟨gb101, 2, none⟩ = some (.int .i64 a0_2) := (blk_cell BK101.out 2).trans rfl; have hfz16_0 := blk_frozen BK101.out 0; have hfz16_1 := blk_frozen BK101.out 1; have hfz16_2 := blk_frozen BK101.out 2; have p105 : 0 ≤ (a1 : Int) := of_decide_eq_true (by first | (with_reducible assumption) | assumption); have q105 : a1 < (l0_0.length : Int) := of_decide_eq_true (by first | (with_reducible assumption) | assumption); obtain ⟨ad105, e105, hx105_0⟩ := Kd.at_int HR0_0.out a1 p105 q105; cases e105; replace hx105_0 := (HB.out.cell (World.block_lt_of_cell? w _ hx105_0)).trans hx105_0; replace p105 := eq_true p105; replace q105 := eq_true q105))
            go_meet
            case rel => exact ⟨_, (((rd l0_0 a1) != (-1))), (by first | rfl | (simp; done) | (simp [*]; done)), H', ⟨by first | omega | exact Nat.le_refl _⟩, ⟨by exact bS BK101.out⟩, ⟨by exact bS BK102.out⟩, ⟨by exact eS HB.out⟩⟩
          · rw [if_neg c12] at H
            exact absurd H (by simp)
        · rw [if_neg c11] at H
          exact absurd H (by simp)
      · replace c10 := Bool.eq_false_iff.mpr c10
        subst c10
        have H1 : (spec_WithMark.j0 k a1 a2 true l0_0 a0_1 a0_2) = some (r1, r2, r3, r4) := by rw [if_neg (show ¬ (false = true) by decide)] at H; exact H
        clear H
        have H := H1
        clear H1
        have H' := Aside0.mk H
        clear H
        have hnb17 := NB101_102.out
        have hnc17 := NB102_101.out
        have hcz18_0 : w6.cell? ⟨gb101, 0, none⟩ = some (.slice A0_0 l0_0.length c0_0) := (blk_cell BK101.out 0).trans rfl
        have hcz18_1 : w6.cell? ⟨gb101, 1, none⟩ = some (.int .i64 a0_1) := (blk_cell BK101.out 1).trans rfl
        have hcz18_2 : w6.cell? ⟨gb101, 2, none⟩ = some (.int .i64 a0_2) := (blk_cell BK101.out 2).trans rfl
        have hfz18_0 := blk_frozen BK101.out 0
        have hfz18_1 := blk_frozen BK101.out 1
        have hfz18_2 := blk_frozen BK101.out 2
        go_wp2_with (first | ((with_reducible refine gate_callee (f := 35) rfl ?_); refine goesL_ (some 10) rfl rfl Try.func35 (by kernel_rfl) rfl #[.agg #[.slice A0_0 l0_0.length c0_0, .int .i64 a0_1, .int .i64 a0_2]] rfl (by (try simp only [List.map_toArray, List.map_cons, List.map_nil]); first | done | rfl | (simp only [List.length_drop, List.length_take]; rfl)) ?_; (with_reducible refine (spec_l20Piece.calls k _ _ l0_0 a0_1 a0_2 true _ ?side1 ?side2 A7.out).mono ?_); (case side1 => repeat (first | exact (Kd.C_below HR0_0.out HB.out) | (with_reducible refine Kd.C_alloc ?_ _) | (with_reducible refine Kd.C_drewN ?_ _) | (with_reducible refine Kd.C_drew ?_))); (case side2 => exact HC0_0.out); rintro e w19 ⟨rfl, hb⟩; refine ⟨_, rfl, ?_⟩; have n0_ := Aside0.mk (blk_below (bS BK101.out) hb); have n1_ := Aside0.mk (blk_below (bS BK102.out) hb); have n2_ := Aside0.mk (below_step (by exact eS HB.out) hb); clear BK101; clear BK102; clear HB; have BK101 := n0_; have BK102 := n1_; have HB := n2_; clear n0_ n1_ n2_; (try clear hb); (try clear hb2); (try clear hk); (try clear hi)) | (go_at_call 42; (with_reducible refine (spec_l1In.calls a1 0 7 false _ A9.out).mono ?_); rintro e w' ⟨rfl, ⟨nd, rfl⟩⟩))
        go_meet
        case rel => exact ⟨_, (true), (by first | rfl | (simp; done) | (simp [*]; done)), H', ⟨by first | omega | exact Nat.le_refl _⟩, ⟨by exact bS BK101.out⟩, ⟨by exact bS BK102.out⟩, ⟨by exact eS HB.out⟩⟩
    · replace c8 := Bool.eq_false_iff.mpr c8
      subst c8
      have H1 : (spec_WithMark.j0 k a1 a2 true l0_0 a0_1 a0_2) = some (r1, r2, r3, r4) := by rw [if_neg (show ¬ (false = true) by decide)] at H; exact H
      clear H
      have H := H1
      clear H1
      have H' := Aside0.mk H
      clear H
      have hnb20 := NB101_102.out
      have hnc20 := NB102_101.out
      have hcz21_0 : w6.cell? ⟨gb101, 0, none⟩ = some (.slice A0_0 l0_0.length c0_0) := (blk_cell BK101.out 0).trans rfl
      have hcz21_1 : w6.cell? ⟨gb101, 1, none⟩ = some (.int .i64 a0_1) := (blk_cell BK101.out 1).trans rfl
      have hcz21_2 : w6.cell? ⟨gb101, 2, none⟩ = some (.int .i64 a0_2) := (blk_cell BK101.out 2).trans rfl
      have hfz21_0 := blk_frozen BK101.out 0
      have hfz21_1 := blk_frozen BK101.out 1
      have hfz21_2 := blk_frozen BK101.out 2
      go_wp2_with (first | ((with_reducible refine gate_callee (f := 35) rfl ?_); refine goesL_ (some 10) rfl rfl Try.func35 (by kernel_rfl) rfl #[.agg #[.slice A0_0 l0_0.length c0_0, .int .i64 a0_1, .int .i64 a0_2]] rfl (by (try simp only [List.map_toArray, List.map_cons, List.map_nil]); first | done | rfl | (simp only [List.length_drop, List.length_take]; rfl)) ?_; (with_reducible refine (spec_l20Piece.calls k _ _ l0_0 a0_1 a0_2 false _ ?side1 ?side2 A7.out).mono ?_); (case side1 => repeat (first | exact (Kd.C_below HR0_0.out HB.out) | (with_reducible refine Kd.C_alloc ?_ _) | (with_reducible refine Kd.C_drewN ?_ _) | (with_reducible refine Kd.C_drew ?_))); (case side2 => exact HC0_0.out); rintro e w22 ⟨rfl, hb⟩; refine ⟨_, rfl, ?_⟩; have n0_ := Aside0.mk (blk_below (bS BK101.out) hb); have n1_ := Aside0.mk (blk_below (bS BK102.out) hb); have n2_ := Aside0.mk (below_step (by exact eS HB.out) hb); clear BK101; clear BK102; clear HB; have BK101 := n0_; have BK102 := n1_; have HB := n2_; clear n0_ n1_ n2_; (try clear hb); (try clear hb2); (try clear hk); (try clear hi)))
      go_meet
      case rel => exact ⟨_, (true), (by first | rfl | (simp; done) | (simp [*]; done)), H', ⟨by first | omega | exact Nat.le_refl _⟩, ⟨by exact bS BK101.out⟩, ⟨by exact bS BK102.out⟩, ⟨by exact eS HB.out⟩⟩
  case rest =>
    clear HC4
    try clear c1
    try clear p1
    try clear q1
    try clear hx1
    try clear c2
    try clear p2
    try clear c3
    try clear c8
    try clear c10
    try clear p10
    try clear q10
    try clear hx10
    try clear c11
    try clear c11b0
    try clear c12
    try clear c12b0
    try clear c13
    try clear c15
    try clear c17
    try clear c20
    try clear hcz14_0
    try clear hcz14_1
    try clear hcz14_2
    try clear hcz16_0
    try clear hcz16_1
    try clear hcz16_2
    try clear hcz18_0
    try clear hcz18_1
    try clear hcz18_2
    try clear hcz21_0
    try clear hcz21_1
    try clear hcz21_2
    try clear hfz14_0
    try clear hfz14_1
    try clear hfz14_2
    try clear hfz16_0
    try clear hfz16_1
    try clear hfz16_2
    try clear hfz18_0
    try clear hfz18_1
    try clear hfz18_2
    try clear hfz21_0
    try clear hfz21_1
    try clear hfz21_2
    try clear hx105_0
    try clear p105
    try clear q105
    obtain ⟨kq, x24_3, rfl, HA, HJ3, BK101, BK102, HB⟩ := hcut
    cases kq with
    | zero => exact absurd HA.out (by simp [spec_WithMark.j0])
    | succ kj3 =>
      have H := HA.out
      clear HA
      simp only [spec_WithMark.j0] at H
      by_cases c23 : x24_3 = true
      · subst c23
        have H1 : (some (([] : List Int), 0, 0, false)) = some (r1, r2, r3, r4) := by rw [if_pos rfl] at H; exact H
        clear H
        have H := H1
        clear H1
        simp only [Option.some.injEq, Prod.mk.injEq] at H
        obtain ⟨rfl, rfl, rfl, rfl⟩ := H
        have hnb24 := NB102_101.out
        have hnc24 := NB101_102.out
        have hcz25_0 : wc.cell? ⟨gb102, 0, none⟩ = some (.slice none 0 0) := (blk_cell BK102.out 0).trans rfl
        have hcz25_1 : wc.cell? ⟨gb102, 1, none⟩ = some (.int .i64 0) := (blk_cell BK102.out 1).trans rfl
        have hcz25_2 : wc.cell? ⟨gb102, 2, none⟩ = some (.int .i64 0) := (blk_cell BK102.out 2).trans rfl
        have hfz25_0 := blk_frozen BK102.out 0
        have hfz25_1 := blk_frozen BK102.out 1
        have hfz25_2 := blk_frozen BK102.out 2
        go_wp2
        refine bodyPost_ret (results_ct rfl _ _ gb102 27 #[.slice none 0 0, .int .i64 0, .int .i64 0] (0, 0) _ rfl (by (with_reducible repeat (first | refine blk_drewN ?_ _ | refine blk_drew ?_ | refine blk_alloc ?_ _)); refine blk_put (cs := #[.slice none 0 0, .int .i64 0, .int .i64 0]) ?_ 2 _ rfl; (with_reducible repeat (first | refine blk_drewN ?_ _ | refine blk_drew ?_ | refine blk_alloc ?_ _)); refine blk_put (cs := #[.slice none 0 0, .int .i64 0, .int .i64 0]) ?_ 1 _ rfl; (with_reducible repeat (first | refine blk_drewN ?_ _ | refine blk_drew ?_ | refine blk_alloc ?_ _)); refine blk_put (cs := #[.slice none 0 0, .int .i64 0, .int .i64 0]) ?_ 0 _ rfl; exact bS BK102.out) Try.underlying27 rfl (by kernel_rfl)) rfl ?_
        exact ⟨_, by first | rfl | (simp [errW_none, errW_some] <;> rfl) | (simp [*, errW_none, errW_some] <;> rfl), by first | exact Kd.R_nil _ _ _ _ _ | exact Kd.N_nil _ _ _ _ _ | exact Kd.V_nil _ _ _ _ _ | exact Kd.Q_nil _ _ _ _ _ | exact Kd.S_nil _ _ _ _ _, by repeat (first | (with_reducible first | exact HB.out | apply below_alloc | apply pw_below_drewN | apply below_drew1 | refine below_set ?_ GE101.out | refine below_set ?_ GE102.out) | exact HB.out)⟩
      · replace c23 := Bool.eq_false_iff.mpr c23
        subst c23
        have H1 : ((spec_l1Own.f l0_0).bind fun t106 => (if 0 ≤ a1 then (if a1 < (t106.length : Int) then ((some (t106.set (a1 : Int).toNat 0 : List Int)).bind fun y110 => (if a2 = true then (some ((y110.set (a1 : Int).toNat 1), a0_1, a0_2, true)) else (some (y110, a0_1, a0_2, true)))) else (none)) else (none))) = some (r1, r2, r3, r4) := by rw [if_neg (show ¬ (false = true) by decide)] at H; exact H
        clear H
        have H := H1
        clear H1
        replace H := Option.bind_eq_some_iff.mp H
        obtain ⟨t106, A260, H⟩ := H
        replace H : (if 0 ≤ a1 then (if a1 < (t106.length : Int) then ((some (t106.set (a1 : Int).toNat 0 : List Int)).bind fun y110 => (if a2 = true then (some ((y110.set (a1 : Int).toNat 1), a0_1, a0_2, true)) else (some (y110, a0_1, a0_2, true)))) else (none)) else (none)) = some (r1, r2, r3, r4) := H
        have A26 := Aside0.mk A260
        clear A260
        by_cases c27 : 0 ≤ a1
        · rw [if_pos c27] at H
          have c27b0 : decide (0 ≤ a1) = true := decide_eq_true c27
          clear c27
          by_cases c28 : a1 < (t106.length : Int)
          · rw [if_pos c28] at H
            have c28b0 : decide (a1 < (t106.length : Int)) = true := decide_eq_true c28
            clear c28
            obtain ⟨y110, hy110⟩ : ∃ y_ : List Int, y_ = (t106.set (a1 : Int).toNat 0) := ⟨_, rfl⟩
            replace H : (if a2 = true then (some ((y110.set (a1 : Int).toNat 1), a0_1, a0_2, true)) else (some (y110, a0_1, a0_2, true))) = some (r1, r2, r3, r4) := by first | (rw [hy110]; with_reducible exact H) | (have H2_ := (Option.bind_some _ _).symm.trans H; rw [hy110]; with_reducible exact H2_) | (have H2_ := (Option.bind_some _ _).symm.trans H; with_reducible exact H2_) | with_reducible exact H | (rw [hy110]; exact H) | exact H
            have Ny110 := Aside0.mk hy110
            clear hy110
            by_cases c30 : a2 = true
            · subst c30
              have H1 : (some ((y110.set (a1 : Int).toNat 1), a0_1, a0_2, true)) = some (r1, r2, r3, r4) := by rw [if_pos rfl] at H; exact H
              clear H
              have H := H1
              clear H1
              obtain ⟨y111, hy111⟩ : ∃ y_ : List Int, y_ = (y110.set (a1 : Int).toNat 1) := ⟨_, rfl⟩
              replace H : (some (y111, a0_1, a0_2, true)) = some (r1, r2, r3, r4) := by first | (rw [hy111]; with_reducible exact H) | (have H2_ := (Option.bind_some _ _).symm.trans H; rw [hy111]; with_reducible exact H2_) | (have H2_ := (Option.bind_some _ _).symm.trans H; with_reducible exact H2_) | with_reducible exact H | (rw [hy111]; exact H) | exact H
              have Ny111 := Aside0.mk hy111
              clear hy111
              simp only [Option.some.injEq, Prod.mk.injEq] at H
              obtain ⟨rfl, rfl, rfl, rfl⟩ := H
              try go_wp2
              have n0_ := Aside0.mk (blk_drew BK101.out)
              have n1_ := Aside0.mk (blk_drew BK102.out)
              have n2_ := Aside0.mk (below_drew1 HB.out)
              clear BK101
              clear BK102
              clear HB
              have BK101 := n0_
              have BK102 := n1_
              have HB := n2_
              clear n0_ n1_ n2_
              refine start_ (n := 10) (S := fun w' => w'.cell? ⟨gb101, 0, none⟩ = some (.slice A0_0 l0_0.length c0_0) ∧ w'.cell? ⟨gb101, 1, none⟩ = some (.int .i64 a0_1) ∧ w'.cell? ⟨gb101, 2, none⟩ = some (.int .i64 a0_2)) (ds := []) #[false, false, false, false, false, false, false, false, false, false] (by kernel_rfl) rfl rfl ⟨(blk_cell BK101.out 0).trans rfl, (blk_cell BK101.out 1).trans rfl, (blk_cell BK101.out 2).trans rfl⟩ (fun hHeld => ?_); refine with_tabW spec_WithMark.tab3 spec_WithMark.bits3 (fun HT_ HW_ => ?_)
              generalize wc.drew = w32 at BK101 BK102 HB hHeld ⊢
              refine pure_ (i := 0) (N := some 26) (v := ?_) (a' := ?_) #[true, false, false, false, false, false, false, false, false, false] rfl rfl (any_of HT_.out (by kernel_rfl)) (fun _ _ _ h => h) (Or.inl ⟨by rfl, ?_⟩) ?_ ?_
              rotate_left
              · intro w'
                go_simp
                with_reducible rfl
              rotate_left
              · simp only [Act.put, List.setIfInBounds_toArray, List.set_cons_zero, List.set_cons_succ, i64_w, i32_w]
                rfl
              refine pure_ (i := 3) (N := some 29) (v := ?_) (a' := ?_) #[true, false, false, true, false, false, false, false, false, false] rfl rfl (any_of HT_.out (by kernel_rfl)) (fun _ _ _ h => h) (Or.inl ⟨by rfl, ?_⟩) ?_ ?_
              rotate_left
              · intro w'
                go_simp
                with_reducible rfl
              rotate_left
              · simp only [Act.put, List.setIfInBounds_toArray, List.set_cons_zero, List.set_cons_succ, i64_w, i32_w]
                rfl
              refine pure_ (i := 5) (N := some 31) (v := ?_) (a' := ?_) #[true, false, false, true, false, true, false, false, false, false] rfl rfl (any_of HT_.out (by kernel_rfl)) (fun _ _ _ h => h) (Or.inl ⟨by rfl, ?_⟩) ?_ ?_
              rotate_left
              · intro w'
                go_simp
                with_reducible rfl
              rotate_left
              · simp only [Act.put, List.setIfInBounds_toArray, List.set_cons_zero, List.set_cons_succ, i64_w, i32_w]
                rfl
              refine take_ (i := 1) (N := some 27) (v := ?_) (a' := ?_) #[true, true, false, true, false, true, false, false, false, false] rfl rfl (take_ofW HT_.out HW_.out (by kernel_rfl)) (fun _ _ _ h => h) (Or.inl ⟨by rfl, ?_⟩) hHeld ?_ ?_
              rotate_left
              · rintro w' ⟨s0, s1, s2⟩
                go_simp
                with_reducible rfl
              rotate_left
              · simp only [Act.put, List.setIfInBounds_toArray, List.set_cons_zero, List.set_cons_succ, i64_w, i32_w]
                rfl
              refine take_ (i := 4) (N := some 30) (v := ?_) (a' := ?_) #[true, true, false, true, true, true, false, false, false, false] rfl rfl (take_ofW HT_.out HW_.out (by kernel_rfl)) (fun _ _ _ h => h) (Or.inl ⟨by rfl, ?_⟩) hHeld ?_ ?_
              rotate_left
              · rintro w' ⟨s0, s1, s2⟩
                go_simp
                with_reducible rfl
              rotate_left
              · simp only [Act.put, List.setIfInBounds_toArray, List.set_cons_zero, List.set_cons_succ, i64_w, i32_w]
                rfl
              refine take_ (i := 6) (N := some 32) (v := ?_) (a' := ?_) #[true, true, false, true, true, true, true, false, false, false] rfl rfl (take_ofW HT_.out HW_.out (by kernel_rfl)) (fun _ _ _ h => h) (Or.inl ⟨by rfl, ?_⟩) hHeld ?_ ?_
              rotate_left
              · rintro w' ⟨s0, s1, s2⟩
                go_simp
                with_reducible rfl
              rotate_left
              · simp only [Act.put, List.setIfInBounds_toArray, List.set_cons_zero, List.set_cons_succ, i64_w, i32_w]
                rfl
              refine join_ (σ := Value × Nat) 1 #[true, true, true, true, true, true, true, true, true, false] (fun s_ => [(28, s_.1), (8, .pointer (some ⟨s_.2, 0, none⟩)), (33, .agg #[s_.1, .int .i64 a0_1, .int .i64 a0_2])]) (fun s_ w' => (w'.cell? ⟨gb101, 0, none⟩ = some (.slice A0_0 l0_0.length c0_0) ∧ w'.cell? ⟨gb101, 1, none⟩ = some (.int .i64 a0_1) ∧ w'.cell? ⟨gb101, 2, none⟩ = some (.int .i64 a0_2)) ∧ (Kd.R (Kd.int .i64) 3 w' w.heap.size (fun _ => True) s_.1 t106) ∧ (w'.heap[gb101]? = some (.cells #[.slice A0_0 l0_0.length c0_0, .int .i64 a0_1, .int .i64 a0_2] 27 (0, 0))) ∧ (w'.heap[gb102]? = some (.cells #[.slice none 0 0, .int .i64 0, .int .i64 0] 27 (0, 0))) ∧ (w'.heap[s_.2]? = some (.cells #[.slice none 0 0, .int .i64 0, .int .i64 0] 27 (0, 0))) ∧ (w.heap.size ≤ s_.2) ∧ (w.heap.size ≤ s_.2) ∧ (gb101 ≠ s_.2) ∧ (s_.2 ≠ gb101) ∧ (gb102 ≠ s_.2) ∧ (s_.2 ≠ gb102) ∧ (Below w.heap.size w w')) ?_ ?_
              rotate_left
              · intro hCont
                refine two_ (i := 2) (j := 8) (Ni := some 28) (Nj := some 8) #[true, true, true, true, true, true, true, false, false, false] #[true, true, false, true, true, true, true, false, true, false] rfl rfl rfl rfl (two_of HT_.out (by kernel_rfl)) (by decide) (by decide) (fun K hK => ?_) (fun K hK => ?_)
                · skip
                  refine goes_ Try.func43 (by kernel_rfl) rfl #[.slice A0_0 l0_0.length c0_0] (by rfl) rfl rfl (by (try simp only [List.map_toArray, List.map_cons, List.map_nil]); first | done | rfl | (simp only [List.length_drop, List.length_take]; rfl)) ?_
                  with_reducible refine (spec_l1Own.calls _ _ l0_0 t106 _ ?side1 ?side2 A26.out).mono ?_
                  (case side1 => repeat (first | exact (Kd.C_below HR0_0.out HB.out) | (with_reducible refine Kd.C_alloc ?_ _) | (with_reducible refine Kd.C_drewN ?_ _) | (with_reducible refine Kd.C_drew ?_)))
                  (case side2 => exact HC0_0.out)
                  rintro e w33 ⟨v107, rfl, ho0, hb⟩
                  refine ⟨_, rfl, ?_⟩
                  have n0_ := Aside0.mk (Kd.R_lower ho0 (below_size (by exact eS HB.out)))
                  have n1_ := Aside0.mk (blk_below (bS BK101.out) hb)
                  have n2_ := Aside0.mk (blk_below (bS BK102.out) hb)
                  have n3_ := Aside0.mk (below_step (by exact eS HB.out) hb)
                  clear BK101
                  clear BK102
                  clear HB
                  have HO108 := n0_
                  have BK101 := n1_
                  have BK102 := n2_
                  have HB := n3_
                  clear n0_ n1_ n2_ n3_
                  (try clear hb)
                  (try clear hb2)
                  (try clear hk)
                  (try clear hi)
                  (try clear ho0)
                  obtain ⟨Ao34, co34, eo34⟩ := Kd.R_slice HO108.out
                  (first | subst eo34 | (injection eo34 with f1_ f2_ f3_; have f4_ := f1_.symm; have f5_ := f3_.symm; clear f1_ f2_ f3_; subst f4_; subst f5_))
                  refine hK.out _ _ ⟨(blk_cell BK101.out 0).trans rfl, (blk_cell BK101.out 1).trans rfl, (blk_cell BK101.out 2).trans rfl⟩ (fun hHeld => ?_)
                  clear hK K
                  refine norm_ (a' := ?_) ?_ ?_
                  rotate_left
                  · show Act.put _ (some 28) _ = _
                    simp only [Act.put, List.setIfInBounds_toArray, List.set_cons_zero, List.set_cons_succ, i64_w, i32_w]
                    rfl
                  refine pure_ (i := 7) (N := some 33) (v := ?_) (a' := ?_) #[true, true, true, true, true, true, true, true, false, false] rfl rfl (any_of HT_.out (by kernel_rfl)) (fun _ _ _ h => h) (Or.inl ⟨by rfl, ?_⟩) ?_ ?_
                  rotate_left
                  · intro w'
                    go_simp
                    with_reducible rfl
                  rotate_left
                  · simp only [Act.put, List.setIfInBounds_toArray, List.set_cons_zero, List.set_cons_succ, i64_w, i32_w]
                    rfl
                  refine one_ (i := 8) (N := some 8) #[true, true, true, true, true, true, true, true, true, false] rfl rfl (one_of HT_.out (by kernel_rfl)) (by decide) (fun K hK => ?_)
                  refine box_step ?hg (N := 8) ?hd (cs := #[.slice none 0 0, .int .i64 0, .int .i64 0]) (t := 27) ?hr ?_; (case hd => rfl); (case hg => rfl); (case hr => first | (go_simp; done) | (go_simp; rfl))
                  intro gb109 hg w35 hbox hb
                  have n0_ := Aside0.mk (Kd.R_below (by exact Ho.RS <| HO108.out) hb)
                  have n1_ := Aside0.mk (blk_below (bS BK101.out) hb)
                  have n2_ := Aside0.mk (blk_below (bS BK102.out) hb)
                  have n3_ := Aside0.mk (below_step (by exact eS HB.out) hb)
                  have n4_ := Aside0.mk (hbox)
                  have n5_ := Aside0.mk ((by rw [hg]; exact (below_size (by exact eS HB.out)) : w.heap.size ≤ gb109))
                  have n6_ := Aside0.mk ((by rw [hg]; exact (below_size (by exact eS HB.out)) : w.heap.size ≤ gb109))
                  have n7_ := Aside0.mk ((by rw [hg]; exact Nat.ne_of_lt (blk_lt (bS BK101.out)) : gb101 ≠ gb109))
                  have n8_ := Aside0.mk ((by rw [hg]; exact Nat.ne_of_gt (blk_lt (bS BK101.out)) : gb109 ≠ gb101))
                  have n9_ := Aside0.mk ((by rw [hg]; exact Nat.ne_of_lt (blk_lt (bS BK102.out)) : gb102 ≠ gb109))
                  have n10_ := Aside0.mk ((by rw [hg]; exact Nat.ne_of_gt (blk_lt (bS BK102.out)) : gb109 ≠ gb102))
                  clear HO108
                  clear BK101
                  clear BK102
                  clear HB
                  have HO108 := n0_
                  have BK101 := n1_
                  have BK102 := n2_
                  have HB := n3_
                  have BK109 := n4_
                  have GW109 := n5_
                  have GE109 := n6_
                  have NB101_109 := n7_
                  have NB109_101 := n8_
                  have NB102_109 := n9_
                  have NB109_102 := n10_
                  clear n0_ n1_ n2_ n3_ n4_ n5_ n6_ n7_ n8_ n9_ n10_
                  clear hb hbox hg
                  refine hK.out _ _ ⟨(blk_cell BK101.out 0).trans rfl, (blk_cell BK101.out 1).trans rfl, (blk_cell BK101.out 2).trans rfl⟩ (fun hHeld => ?_)
                  clear hK K
                  refine norm_ (a' := ?_) ?_ ?_
                  rotate_left
                  · show Act.put _ (some 8) _ = _
                    simp only [Act.put, List.setIfInBounds_toArray, List.set_cons_zero, List.set_cons_succ, i64_w, i32_w]
                    rfl
                  exact norm_ (by simp only [putAll, Act.put, List.setIfInBounds_toArray, List.set_cons_zero, List.set_cons_succ]) (hCont (.slice Ao34 t106.length co34, gb109) _ ⟨hHeld, (by exact Ho.RS <| HO108.out), (by exact bS BK101.out), (by exact bS BK102.out), (by exact bS BK109.out), GW109.out, GE109.out, NB101_109.out, NB109_101.out, NB102_109.out, NB109_102.out, (by exact eS HB.out)⟩)
                · skip
                  refine box_step ?hg (N := 8) ?hd (cs := #[.slice none 0 0, .int .i64 0, .int .i64 0]) (t := 27) ?hr ?_; (case hd => rfl); (case hg => rfl); (case hr => first | (go_simp; done) | (go_simp; rfl))
                  intro gb109 hg w33 hbox hb
                  have n0_ := Aside0.mk (blk_below (bS BK101.out) hb)
                  have n1_ := Aside0.mk (blk_below (bS BK102.out) hb)
                  have n2_ := Aside0.mk (below_step (by exact eS HB.out) hb)
                  have n3_ := Aside0.mk (hbox)
                  have n4_ := Aside0.mk ((by rw [hg]; exact (below_size (by exact eS HB.out)) : w.heap.size ≤ gb109))
                  have n5_ := Aside0.mk ((by rw [hg]; exact (below_size (by exact eS HB.out)) : w.heap.size ≤ gb109))
                  have n6_ := Aside0.mk ((by rw [hg]; exact Nat.ne_of_lt (blk_lt (bS BK101.out)) : gb101 ≠ gb109))
                  have n7_ := Aside0.mk ((by rw [hg]; exact Nat.ne_of_gt (blk_lt (bS BK101.out)) : gb109 ≠ gb101))
                  have n8_ := Aside0.mk ((by rw [hg]; exact Nat.ne_of_lt (blk_lt (bS BK102.out)) : gb102 ≠ gb109))
                  have n9_ := Aside0.mk ((by rw [hg]; exact Nat.ne_of_gt (blk_lt (bS BK102.out)) : gb109 ≠ gb102))
                  clear BK101
                  clear BK102
                  clear HB
                  have BK101 := n0_
                  have BK102 := n1_
                  have HB := n2_
                  have BK109 := n3_
                  have GW109 := n4_
                  have GE109 := n5_
                  have NB101_109 := n6_
                  have NB109_101 := n7_
                  have NB102_109 := n8_
                  have NB109_102 := n9_
                  clear n0_ n1_ n2_ n3_ n4_ n5_ n6_ n7_ n8_ n9_
                  clear hb hbox hg
                  refine hK.out _ _ ⟨(blk_cell BK101.out 0).trans rfl, (blk_cell BK101.out 1).trans rfl, (blk_cell BK101.out 2).trans rfl⟩ (fun hHeld => ?_)
                  clear hK K
                  refine norm_ (a' := ?_) ?_ ?_
                  rotate_left
                  · show Act.put _ (some 8) _ = _
                    simp only [Act.put, List.setIfInBounds_toArray, List.set_cons_zero, List.set_cons_succ, i64_w, i32_w]
                    rfl
                  refine one_ (i := 2) (N := some 28) #[true, true, true, true, true, true, true, false, true, false] rfl rfl (one_of HT_.out (by kernel_rfl)) (by decide) (fun K hK => ?_)
                  refine goes_ Try.func43 (by kernel_rfl) rfl #[.slice A0_0 l0_0.length c0_0] (by rfl) rfl rfl (by (try simp only [List.map_toArray, List.map_cons, List.map_nil]); first | done | rfl | (simp only [List.length_drop, List.length_take]; rfl)) ?_
                  with_reducible refine (spec_l1Own.calls _ _ l0_0 t106 _ ?side1 ?side2 A26.out).mono ?_
                  (case side1 => repeat (first | exact (Kd.C_below HR0_0.out HB.out) | (with_reducible refine Kd.C_alloc ?_ _) | (with_reducible refine Kd.C_drewN ?_ _) | (with_reducible refine Kd.C_drew ?_)))
                  (case side2 => exact HC0_0.out)
                  rintro e w34 ⟨v107, rfl, ho0, hb⟩
                  refine ⟨_, rfl, ?_⟩
                  have n0_ := Aside0.mk (Kd.R_lower ho0 (below_size (by exact eS HB.out)))
                  have n1_ := Aside0.mk (blk_below (bS BK101.out) hb)
                  have n2_ := Aside0.mk (blk_below (bS BK102.out) hb)
                  have n3_ := Aside0.mk (blk_below (bS BK109.out) hb)
                  have n4_ := Aside0.mk (below_step (by exact eS HB.out) hb)
                  clear BK101
                  clear BK102
                  clear BK109
                  clear HB
                  have HO108 := n0_
                  have BK101 := n1_
                  have BK102 := n2_
                  have BK109 := n3_
                  have HB := n4_
                  clear n0_ n1_ n2_ n3_ n4_
                  (try clear hb)
                  (try clear hb2)
                  (try clear hk)
                  (try clear hi)
                  (try clear ho0)
                  obtain ⟨Ao35, co35, eo35⟩ := Kd.R_slice HO108.out
                  (first | subst eo35 | (injection eo35 with f1_ f2_ f3_; have f4_ := f1_.symm; have f5_ := f3_.symm; clear f1_ f2_ f3_; subst f4_; subst f5_))
                  refine hK.out _ _ ⟨(blk_cell BK101.out 0).trans rfl, (blk_cell BK101.out 1).trans rfl, (blk_cell BK101.out 2).trans rfl⟩ (fun hHeld => ?_)
                  clear hK K
                  refine norm_ (a' := ?_) ?_ ?_
                  rotate_left
                  · show Act.put _ (some 28) _ = _
                    simp only [Act.put, List.setIfInBounds_toArray, List.set_cons_zero, List.set_cons_succ, i64_w, i32_w]
                    rfl
                  refine pure_ (i := 7) (N := some 33) (v := ?_) (a' := ?_) #[true, true, true, true, true, true, true, true, true, false] rfl rfl (any_of HT_.out (by kernel_rfl)) (fun _ _ _ h => h) (Or.inl ⟨by rfl, ?_⟩) ?_ ?_
                  rotate_left
                  · intro w'
                    go_simp
                    with_reducible rfl
                  rotate_left
                  · simp only [Act.put, List.setIfInBounds_toArray, List.set_cons_zero, List.set_cons_succ, i64_w, i32_w]
                    rfl
                  exact norm_ (by simp only [putAll, Act.put, List.setIfInBounds_toArray, List.set_cons_zero, List.set_cons_succ]) (hCont (.slice Ao35 t106.length co35, gb109) _ ⟨hHeld, (by exact Ho.RS <| HO108.out), (by exact bS BK101.out), (by exact bS BK102.out), (by exact bS BK109.out), GW109.out, GE109.out, NB101_109.out, NB109_101.out, NB102_109.out, NB109_102.out, (by exact eS HB.out)⟩)
              rintro ⟨v107, gb109⟩ w36 ⟨hS_, h0_, h1_, h2_, h3_, h4_, h5_, h6_, h7_, h8_, h9_, h10_⟩
              have n0_ : Aside0 (Kd.R (Kd.int .i64) 3 w36 w.heap.size (fun _ => True) v107 t106) := ⟨h0_⟩
              have n1_ : Aside0 (w36.heap[gb101]? = some (.cells #[.slice A0_0 l0_0.length c0_0, .int .i64 a0_1, .int .i64 a0_2] 27 (0, 0))) := ⟨h1_⟩
              have n2_ : Aside0 (w36.heap[gb102]? = some (.cells #[.slice none 0 0, .int .i64 0, .int .i64 0] 27 (0, 0))) := ⟨h2_⟩
              have n3_ : Aside0 (w36.heap[gb109]? = some (.cells #[.slice none 0 0, .int .i64 0, .int .i64 0] 27 (0, 0))) := ⟨h3_⟩
              have n4_ : Aside0 (w.heap.size ≤ gb109) := ⟨h4_⟩
              have n5_ : Aside0 (w.heap.size ≤ gb109) := ⟨h5_⟩
              have n6_ : Aside0 (gb101 ≠ gb109) := ⟨h6_⟩
              have n7_ : Aside0 (gb109 ≠ gb101) := ⟨h7_⟩
              have n8_ : Aside0 (gb102 ≠ gb109) := ⟨h8_⟩
              have n9_ : Aside0 (gb109 ≠ gb102) := ⟨h9_⟩
              have n10_ : Aside0 (Below w.heap.size w w36) := ⟨h10_⟩
              clear BK101
              clear BK102
              clear HB
              clear h0_ h1_ h2_ h3_ h4_ h5_ h6_ h7_ h8_ h9_ h10_
              have HO108 := n0_
              have BK101 := n1_
              have BK102 := n2_
              have BK109 := n3_
              have GW109 := n4_
              have GE109 := n5_
              have NB101_109 := n6_
              have NB109_101 := n7_
              have NB102_109 := n8_
              have NB109_102 := n9_
              have HB := n10_
              clear n0_ n1_ n2_ n3_ n4_ n5_ n6_ n7_ n8_ n9_ n10_
              have hHeld : w36.cell? ⟨gb101, 0, none⟩ = some (.slice A0_0 l0_0.length c0_0) ∧ w36.cell? ⟨gb101, 1, none⟩ = some (.int .i64 a0_1) ∧ w36.cell? ⟨gb101, 2, none⟩ = some (.int .i64 a0_2) := hS_
              obtain ⟨Ao37, co37, eo37⟩ := Kd.R_slice HO108.out
              (first | subst eo37 | (injection eo37 with f1_ f2_ f3_; have f4_ := f1_.symm; have f5_ := f3_.symm; clear f1_ f2_ f3_; subst f4_; subst f5_))
              refine norm_ (a' := ?_) ?_ ?_
              rotate_left
              · simp only [putAll, Act.put, List.setIfInBounds_toArray, List.set_cons_zero, List.set_cons_succ]
                rfl
              refine one_ (i := 9) (N := none) #[true, true, true, true, true, true, true, true, true, true] rfl rfl (one_of HT_.out (by kernel_rfl)) (by decide) (fun K hK => ?_)
              have hs38 : w36.cell? ⟨gb109, 0, none⟩ = some (.slice none 0 0) := (blk_cell BK109.out 0).trans rfl
              have hfs38 := blk_frozen BK109.out 0
              have hns38_0 := NB101_109.out
              have hns38_1 := NB102_109.out
              have hms38_0 := NB109_101.out
              have hms38_1 := NB109_102.out
              have hs39 : w36.cell? ⟨gb109, 1, none⟩ = some (.int .i64 0) := (blk_cell BK109.out 1).trans rfl
              have hfs39 := blk_frozen BK109.out 1
              have hns39_0 := NB101_109.out
              have hns39_1 := NB102_109.out
              have hms39_0 := NB109_101.out
              have hms39_1 := NB109_102.out
              have hs40 : w36.cell? ⟨gb109, 2, none⟩ = some (.int .i64 0) := (blk_cell BK109.out 2).trans rfl
              have hfs40 := blk_frozen BK109.out 2
              have hns40_0 := NB101_109.out
              have hns40_1 := NB102_109.out
              have hms40_0 := NB109_101.out
              have hms40_1 := NB109_102.out
              refine skip_ (w1 := ?_) (by rfl) rfl ?_ ?_
              rotate_left
              · go_simp
                rfl
              refine hK.out _ _ ⟨((cell_far (p := ⟨gb109, _, none⟩) NB101_109.out _).trans (((cell_far (p := ⟨gb109, _, none⟩) NB101_109.out _).trans (((cell_far (p := ⟨gb109, _, none⟩) NB101_109.out _).trans (hHeld.1)))))), ((cell_far (p := ⟨gb109, _, none⟩) NB101_109.out _).trans (((cell_far (p := ⟨gb109, _, none⟩) NB101_109.out _).trans (((cell_far (p := ⟨gb109, _, none⟩) NB101_109.out _).trans (hHeld.2.1)))))), ((cell_far (p := ⟨gb109, _, none⟩) NB101_109.out _).trans (((cell_far (p := ⟨gb109, _, none⟩) NB101_109.out _).trans (((cell_far (p := ⟨gb109, _, none⟩) NB101_109.out _).trans (hHeld.2.2))))))⟩ (fun hHeld => ?_)
              clear hK K
              refine done_ (done_of HT_.out (by kernel_rfl)) ?_
              have n0_ : Aside0 (Kd.R (Kd.int .i64) 3 (((w36.setCell ⟨gb109, 0, none⟩ (.slice Ao37 t106.length co37)).setCell ⟨gb109, 1, none⟩ (.int .i64 a0_1)).setCell ⟨gb109, 2, none⟩ (.int .i64 a0_2)) w.heap.size (fun _ => True) (.slice Ao37 t106.length co37) t106) := ⟨by exact Ho.RS <| Kd.R_mono (Kd.R_far (p := ⟨gb109, 2, none⟩) (Kd.R_far (p := ⟨gb109, 1, none⟩) (Kd.R_far (p := ⟨gb109, 0, none⟩) (Kd.R_types HO108.out BK109.out (by decide)) (fun _ hk => hk.2) (.slice Ao37 t106.length co37)) (fun _ hk => hk.2) (.int .i64 a0_1)) (fun _ hk => hk.2) (.int .i64 a0_2)) (fun _ hk => trivial)⟩
              have n1_ : Aside0 ((((w36.setCell ⟨gb109, 0, none⟩ (.slice Ao37 t106.length co37)).setCell ⟨gb109, 1, none⟩ (.int .i64 a0_1)).setCell ⟨gb109, 2, none⟩ (.int .i64 a0_2)).heap[gb101]? = some (.cells #[.slice A0_0 l0_0.length c0_0, .int .i64 a0_1, .int .i64 a0_2] 27 (0, 0))) := ⟨by (with_reducible repeat (first | refine blk_drewN ?_ _ | refine blk_drew ?_ | refine blk_alloc ?_ _)); refine blk_far ?_ NB101_109.out _; (with_reducible repeat (first | refine blk_drewN ?_ _ | refine blk_drew ?_ | refine blk_alloc ?_ _)); refine blk_far ?_ NB101_109.out _; (with_reducible repeat (first | refine blk_drewN ?_ _ | refine blk_drew ?_ | refine blk_alloc ?_ _)); refine blk_far ?_ NB101_109.out _; exact bS BK101.out⟩
              have n2_ : Aside0 ((((w36.setCell ⟨gb109, 0, none⟩ (.slice Ao37 t106.length co37)).setCell ⟨gb109, 1, none⟩ (.int .i64 a0_1)).setCell ⟨gb109, 2, none⟩ (.int .i64 a0_2)).heap[gb102]? = some (.cells #[.slice none 0 0, .int .i64 0, .int .i64 0] 27 (0, 0))) := ⟨by (with_reducible repeat (first | refine blk_drewN ?_ _ | refine blk_drew ?_ | refine blk_alloc ?_ _)); refine blk_far ?_ NB102_109.out _; (with_reducible repeat (first | refine blk_drewN ?_ _ | refine blk_drew ?_ | refine blk_alloc ?_ _)); refine blk_far ?_ NB102_109.out _; (with_reducible repeat (first | refine blk_drewN ?_ _ | refine blk_drew ?_ | refine blk_alloc ?_ _)); refine blk_far ?_ NB102_109.out _; exact bS BK102.out⟩
              have n3_ : Aside0 ((((w36.setCell ⟨gb109, 0, none⟩ (.slice Ao37 t106.length co37)).setCell ⟨gb109, 1, none⟩ (.int .i64 a0_1)).setCell ⟨gb109, 2, none⟩ (.int .i64 a0_2)).heap[gb109]? = some (.cells #[.slice Ao37 t106.length co37, .int .i64 a0_1, .int .i64 a0_2] 27 (0, 0))) := ⟨by (with_reducible repeat (first | refine blk_drewN ?_ _ | refine blk_drew ?_ | refine blk_alloc ?_ _)); refine blk_put (cs := #[.slice Ao37 t106.length co37, .int .i64 a0_1, .int .i64 0]) ?_ 2 _ rfl; (with_reducible repeat (first | refine blk_drewN ?_ _ | refine blk_drew ?_ | refine blk_alloc ?_ _)); refine blk_put (cs := #[.slice Ao37 t106.length co37, .int .i64 0, .int .i64 0]) ?_ 1 _ rfl; (with_reducible repeat (first | refine blk_drewN ?_ _ | refine blk_drew ?_ | refine blk_alloc ?_ _)); refine blk_put (cs := #[.slice none 0 0, .int .i64 0, .int .i64 0]) ?_ 0 _ rfl; exact bS BK109.out⟩
              have n4_ : Aside0 (Below w.heap.size w (((w36.setCell ⟨gb109, 0, none⟩ (.slice Ao37 t106.length co37)).setCell ⟨gb109, 1, none⟩ (.int .i64 a0_1)).setCell ⟨gb109, 2, none⟩ (.int .i64 a0_2))) := ⟨by repeat (first | (with_reducible first | exact HB.out | apply below_alloc | apply pw_below_drewN | apply below_drew1 | refine below_set ?_ GE101.out | refine below_set ?_ GE102.out | refine below_set ?_ GE109.out) | exact HB.out)⟩
              (try clear HO108)
              (try clear BK101)
              (try clear BK102)
              (try clear BK109)
              (try clear HB)
              generalize (((w36.setCell ⟨gb109, 0, none⟩ (.slice Ao37 t106.length co37)).setCell ⟨gb109, 1, none⟩ (.int .i64 a0_1)).setCell ⟨gb109, 2, none⟩ (.int .i64 a0_2)) = w41 at n0_ n1_ n2_ n3_ n4_ ⊢
              have HO108 := n0_
              have BK101 := n1_
              have BK102 := n2_
              have BK109 := n3_
              have HB := n4_
              clear n0_ n1_ n2_ n3_ n4_
              have hnb42 := NB109_101.out
              have hnc42 := NB101_109.out
              have hnb43 := NB109_102.out
              have hnc43 := NB102_109.out
              have hcz44_0 : w41.cell? ⟨gb109, 0, none⟩ = some (.slice Ao37 t106.length co37) := (blk_cell BK109.out 0).trans rfl
              have hcz44_1 : w41.cell? ⟨gb109, 1, none⟩ = some (.int .i64 a0_1) := (blk_cell BK109.out 1).trans rfl
              have hcz44_2 : w41.cell? ⟨gb109, 2, none⟩ = some (.int .i64 a0_2) := (blk_cell BK109.out 2).trans rfl
              have hfz44_0 := blk_frozen BK109.out 0
              have hfz44_1 := blk_frozen BK109.out 1
              have hfz44_2 := blk_frozen BK109.out 2
              have p29 : 0 ≤ (a1 : Int) := of_decide_eq_true (by first | (with_reducible assumption) | assumption)
              have q29 : (a1 : Int) < ((t106.length : Int) : Int) := of_decide_eq_true (by first | (with_reducible assumption) | assumption)
              obtain ⟨go29, co29, eo29, gb29, gl29, cl29, HG29⟩ := Kd.R_form HO108.out (by omega)
              (first | cases eo29 | (injection eo29 with ea_ en_ ec_; (first | subst ea_ | (injection ea_ with ea_; subst ea_)); subst ec_; clear en_))
              have GB29 := Aside0.mk gb29
              have GG29 := Aside0.mk HG29
              clear gb29 gl29 HG29
              obtain ⟨hx29_0, hf29_0⟩ := Kd.R_celln 0 HO108.out (a1 : Int) p29 q29
              replace p29 := eq_true p29
              replace q29 := eq_true q29
              obtain ⟨hy45_, hz45_⟩ := Kd.R_celln 0 HO108.out (a1 : Int) (of_decide_eq_true (by first | (with_reducible assumption) | assumption)) (of_decide_eq_true (by first | (with_reducible assumption) | assumption))
              have HP45 := Kd.R_putg HO108.out (a1 : Int) 0
              try go_wp2_with (first | ((with_reducible refine gate_store (t := 3) (p := 37) rfl ?_); refine store_event (t := 3) (p := 37) (v := ?vo_w46) (w1 := (w41.setCell ⟨go29, (a1 : Int).toNat, none⟩ (.int .i64 0))) ?hg ?ho ?hn ?hr ?_; (case ho => rfl); (case hg => rfl); (case hn => rfl); (case hr => first | (go_simp; done) | (go_simp; rfl)); intro w46 hw; have hg : w41.grownBy w46 (some go29) := (by rw [hw]; exact HP45.2); have hp_ : Kd.R (Kd.int .i64) 3 w46 w.heap.size (fun _ => True) (.slice (some ⟨go29, 0, none⟩) t106.length co37) y110 := (by rw [hw, Ny110.out]; exact HP45.1); clear HP45; have n0_ := Aside0.mk (blk_grown (bS BK101.out) hg (Kd.R_ne HO108.out BK101.out (by decide))); have n1_ := Aside0.mk (blk_grown (bS BK102.out) hg (Kd.R_ne HO108.out BK102.out (by decide))); have n2_ := Aside0.mk (hp_); have n3_ := Aside0.mk (blk_grown (bS BK109.out) hg (Kd.R_ne HO108.out BK109.out (by decide))); have n4_ := Aside0.mk ((by rw [hw]; exact below_set (HB.out) GB29.out : Below w.heap.size w w46)); clear BK101; clear BK102; clear HO108; clear BK109; clear HB; have BK101 := n0_; have BK102 := n1_; have HO108 := n2_; have BK109 := n3_; have HB := n4_; clear n0_ n1_ n2_ n3_ n4_; clear hg hw hp_; have hcz47_0 : w46.cell? ⟨gb109, 0, none⟩ = some (.slice (some ⟨go29, 0, none⟩) t106.length co37) := (blk_cell BK109.out 0).trans rfl; have hcz47_1 : w46.cell? ⟨gb109, 1, none⟩ = some (.int .i64 a0_1) := (blk_cell BK109.out 1).trans rfl; have hcz47_2 : w46.cell? ⟨gb109, 2, none⟩ = some (.int .i64 a0_2) := (blk_cell BK109.out 2).trans rfl; have hfz47_0 := blk_frozen BK109.out 0; have hfz47_1 := blk_frozen BK109.out 1; have hfz47_2 := blk_frozen BK109.out 2; have p31 : 0 ≤ (a1 : Int) := of_decide_eq_true (by first | (with_reducible assumption) | assumption); have q31 : (a1 : Int) < ((t106.length : Int) : Int) := of_decide_eq_true (by first | (with_reducible assumption) | assumption); obtain ⟨hx31_0, hf31_0⟩ := Kd.R_celln 0 HO108.out (a1 : Int) p31 q31; replace p31 := eq_true p31; replace q31 := eq_true q31; obtain ⟨hy48_, hz48_⟩ := Kd.R_celln 0 HO108.out (a1 : Int) (of_decide_eq_true (by first | (with_reducible assumption) | assumption)) (of_decide_eq_true (by first | (with_reducible assumption) | assumption)); have HP48 := Kd.R_putg HO108.out (a1 : Int) 1) | ((with_reducible refine gate_store (t := 3) (p := 42) rfl ?_); refine store_event (t := 3) (p := 42) (v := ?vo_w49) (w1 := (w46.setCell ⟨go29, (a1 : Int).toNat, none⟩ (.int .i64 1))) ?hg ?ho ?hn ?hr ?_; (case ho => rfl); (case hg => rfl); (case hn => rfl); (case hr => first | (go_simp; done) | (go_simp; rfl)); intro w49 hw; have hg : w46.grownBy w49 (some go29) := (by rw [hw]; exact HP48.2); have hp_ : Kd.R (Kd.int .i64) 3 w49 w.heap.size (fun _ => True) (.slice (some ⟨go29, 0, none⟩) t106.length co37) y111 := (by rw [hw, Ny111.out]; exact HP48.1); clear HP48; have n0_ := Aside0.mk (blk_grown (bS BK101.out) hg (Kd.R_ne HO108.out BK101.out (by decide))); have n1_ := Aside0.mk (blk_grown (bS BK102.out) hg (Kd.R_ne HO108.out BK102.out (by decide))); have n2_ := Aside0.mk (hp_); have n3_ := Aside0.mk (blk_grown (bS BK109.out) hg (Kd.R_ne HO108.out BK109.out (by decide))); have n4_ := Aside0.mk ((by rw [hw]; exact below_set (HB.out) GB29.out : Below w.heap.size w w49)); clear BK101; clear BK102; clear HO108; clear BK109; clear HB; have BK101 := n0_; have BK102 := n1_; have HO108 := n2_; have BK109 := n3_; have HB := n4_; clear n0_ n1_ n2_ n3_ n4_; clear hg hw hp_; have hcz50_0 : w49.cell? ⟨gb109, 0, none⟩ = some (.slice (some ⟨go29, 0, none⟩) t106.length co37) := (blk_cell BK109.out 0).trans rfl; have hcz50_1 : w49.cell? ⟨gb109, 1, none⟩ = some (.int .i64 a0_1) := (blk_cell BK109.out 1).trans rfl; have hcz50_2 : w49.cell? ⟨gb109, 2, none⟩ = some (.int .i64 a0_2) := (blk_cell BK109.out 2).trans rfl; have hfz50_0 := blk_frozen BK109.out 0; have hfz50_1 := blk_frozen BK109.out 1; have hfz50_2 := blk_frozen BK109.out 2; have hnb51 := NB102_101.out; have hnc51 := NB101_102.out; have hcz52_0 : w49.cell? ⟨gb102, 0, none⟩ = some (.slice none 0 0) := (blk_cell BK102.out 0).trans rfl; have hcz52_1 : w49.cell? ⟨gb102, 1, none⟩ = some (.int .i64 0) := (blk_cell BK102.out 1).trans rfl; have hcz52_2 : w49.cell? ⟨gb102, 2, none⟩ = some (.int .i64 0) := (blk_cell BK102.out 2).trans rfl; have hfz52_0 := blk_frozen BK102.out 0; have hfz52_1 := blk_frozen BK102.out 1; have hfz52_2 := blk_frozen BK102.out 2))
              refine bodyPost_ret (results_ct rfl _ _ gb102 27 #[.slice (some ⟨go29, 0, none⟩) t106.length co37, .int .i64 a0_1, .int .i64 a0_2] (0, 0) _ rfl (by (with_reducible repeat (first | refine blk_drewN ?_ _ | refine blk_drew ?_ | refine blk_alloc ?_ _)); refine blk_put (cs := #[.slice (some ⟨go29, 0, none⟩) t106.length co37, .int .i64 a0_1, .int .i64 0]) ?_ 2 _ rfl; (with_reducible repeat (first | refine blk_drewN ?_ _ | refine blk_drew ?_ | refine blk_alloc ?_ _)); refine blk_put (cs := #[.slice (some ⟨go29, 0, none⟩) t106.length co37, .int .i64 0, .int .i64 0]) ?_ 1 _ rfl; (with_reducible repeat (first | refine blk_drewN ?_ _ | refine blk_drew ?_ | refine blk_alloc ?_ _)); refine blk_put (cs := #[.slice none 0 0, .int .i64 0, .int .i64 0]) ?_ 0 _ rfl; exact bS BK102.out) Try.underlying27 rfl (by kernel_rfl)) rfl ?_
              exact ⟨_, by first | rfl | (simp [errW_none, errW_some] <;> rfl) | (simp [*, errW_none, errW_some] <;> rfl), by exact Ho.RS <| Kd.R_mono (Kd.R_far (p := ⟨gb102, 2, none⟩) (Kd.R_far (p := ⟨gb102, 1, none⟩) (Kd.R_far (p := ⟨gb102, 0, none⟩) (Kd.R_types HO108.out BK102.out (by decide)) (fun _ hk => hk.2) (.slice (some ⟨go29, 0, none⟩) t106.length co37)) (fun _ hk => hk.2) (.int .i64 a0_1)) (fun _ hk => hk.2) (.int .i64 a0_2)) (fun _ hk => trivial), by repeat (first | (with_reducible first | exact HB.out | apply below_alloc | apply pw_below_drewN | apply below_drew1 | refine below_set ?_ GE101.out | refine below_set ?_ GE102.out | refine below_set ?_ GE109.out) | exact HB.out)⟩
            · replace c30 := Bool.eq_false_iff.mpr c30
              subst c30
              have H1 : (some (y110, a0_1, a0_2, true)) = some (r1, r2, r3, r4) := by rw [if_neg (show ¬ (false = true) by decide)] at H; exact H
              clear H
              have H := H1
              clear H1
              simp only [Option.some.injEq, Prod.mk.injEq] at H
              obtain ⟨rfl, rfl, rfl, rfl⟩ := H
              try go_wp2
              have n0_ := Aside0.mk (blk_drew BK101.out)
              have n1_ := Aside0.mk (blk_drew BK102.out)
              have n2_ := Aside0.mk (below_drew1 HB.out)
              clear BK101
              clear BK102
              clear HB
              have BK101 := n0_
              have BK102 := n1_
              have HB := n2_
              clear n0_ n1_ n2_
              refine start_ (n := 10) (S := fun w' => w'.cell? ⟨gb101, 0, none⟩ = some (.slice A0_0 l0_0.length c0_0) ∧ w'.cell? ⟨gb101, 1, none⟩ = some (.int .i64 a0_1) ∧ w'.cell? ⟨gb101, 2, none⟩ = some (.int .i64 a0_2)) (ds := []) #[false, false, false, false, false, false, false, false, false, false] (by kernel_rfl) rfl rfl ⟨(blk_cell BK101.out 0).trans rfl, (blk_cell BK101.out 1).trans rfl, (blk_cell BK101.out 2).trans rfl⟩ (fun hHeld => ?_); refine with_tabW spec_WithMark.tab3 spec_WithMark.bits3 (fun HT_ HW_ => ?_)
              generalize wc.drew = w53 at BK101 BK102 HB hHeld ⊢
              refine pure_ (i := 0) (N := some 26) (v := ?_) (a' := ?_) #[true, false, false, false, false, false, false, false, false, false] rfl rfl (any_of HT_.out (by kernel_rfl)) (fun _ _ _ h => h) (Or.inl ⟨by rfl, ?_⟩) ?_ ?_
              rotate_left
              · intro w'
                go_simp
                with_reducible rfl
              rotate_left
              · simp only [Act.put, List.setIfInBounds_toArray, List.set_cons_zero, List.set_cons_succ, i64_w, i32_w]
                rfl
              refine pure_ (i := 3) (N := some 29) (v := ?_) (a' := ?_) #[true, false, false, true, false, false, false, false, false, false] rfl rfl (any_of HT_.out (by kernel_rfl)) (fun _ _ _ h => h) (Or.inl ⟨by rfl, ?_⟩) ?_ ?_
              rotate_left
              · intro w'
                go_simp
                with_reducible rfl
              rotate_left
              · simp only [Act.put, List.setIfInBounds_toArray, List.set_cons_zero, List.set_cons_succ, i64_w, i32_w]
                rfl
              refine pure_ (i := 5) (N := some 31) (v := ?_) (a' := ?_) #[true, false, false, true, false, true, false, false, false, false] rfl rfl (any_of HT_.out (by kernel_rfl)) (fun _ _ _ h => h) (Or.inl ⟨by rfl, ?_⟩) ?_ ?_
              rotate_left
              · intro w'
                go_simp
                with_reducible rfl
              rotate_left
              · simp only [Act.put, List.setIfInBounds_toArray, List.set_cons_zero, List.set_cons_succ, i64_w, i32_w]
                rfl
              refine take_ (i := 1) (N := some 27) (v := ?_) (a' := ?_) #[true, true, false, true, false, true, false, false, false, false] rfl rfl (take_ofW HT_.out HW_.out (by kernel_rfl)) (fun _ _ _ h => h) (Or.inl ⟨by rfl, ?_⟩) hHeld ?_ ?_
              rotate_left
              · rintro w' ⟨s0, s1, s2⟩
                go_simp
                with_reducible rfl
              rotate_left
              · simp only [Act.put, List.setIfInBounds_toArray, List.set_cons_zero, List.set_cons_succ, i64_w, i32_w]
                rfl
              refine take_ (i := 4) (N := some 30) (v := ?_) (a' := ?_) #[true, true, false, true, true, true, false, false, false, false] rfl rfl (take_ofW HT_.out HW_.out (by kernel_rfl)) (fun _ _ _ h => h) (Or.inl ⟨by rfl, ?_⟩) hHeld ?_ ?_
              rotate_left
              · rintro w' ⟨s0, s1, s2⟩
                go_simp
                with_reducible rfl
              rotate_left
              · simp only [Act.put, List.setIfInBounds_toArray, List.set_cons_zero, List.set_cons_succ, i64_w, i32_w]
                rfl
              refine take_ (i := 6) (N := some 32) (v := ?_) (a' := ?_) #[true, true, false, true, true, true, true, false, false, false] rfl rfl (take_ofW HT_.out HW_.out (by kernel_rfl)) (fun _ _ _ h => h) (Or.inl ⟨by rfl, ?_⟩) hHeld ?_ ?_
              rotate_left
              · rintro w' ⟨s0, s1, s2⟩
                go_simp
                with_reducible rfl
              rotate_left
              · simp only [Act.put, List.setIfInBounds_toArray, List.set_cons_zero, List.set_cons_succ, i64_w, i32_w]
                rfl
              refine join_ (σ := Value × Nat) 1 #[true, true, true, true, true, true, true, true, true, false] (fun s_ => [(28, s_.1), (8, .pointer (some ⟨s_.2, 0, none⟩)), (33, .agg #[s_.1, .int .i64 a0_1, .int .i64 a0_2])]) (fun s_ w' => (w'.cell? ⟨gb101, 0, none⟩ = some (.slice A0_0 l0_0.length c0_0) ∧ w'.cell? ⟨gb101, 1, none⟩ = some (.int .i64 a0_1) ∧ w'.cell? ⟨gb101, 2, none⟩ = some (.int .i64 a0_2)) ∧ (Kd.R (Kd.int .i64) 3 w' w.heap.size (fun _ => True) s_.1 t106) ∧ (w'.heap[gb101]? = some (.cells #[.slice A0_0 l0_0.length c0_0, .int .i64 a0_1, .int .i64 a0_2] 27 (0, 0))) ∧ (w'.heap[gb102]? = some (.cells #[.slice none 0 0, .int .i64 0, .int .i64 0] 27 (0, 0))) ∧ (w'.heap[s_.2]? = some (.cells #[.slice none 0 0, .int .i64 0, .int .i64 0] 27 (0, 0))) ∧ (w.heap.size ≤ s_.2) ∧ (w.heap.size ≤ s_.2) ∧ (gb101 ≠ s_.2) ∧ (s_.2 ≠ gb101) ∧ (gb102 ≠ s_.2) ∧ (s_.2 ≠ gb102) ∧ (Below w.heap.size w w')) ?_ ?_
              rotate_left
              · intro hCont
                refine two_ (i := 2) (j := 8) (Ni := some 28) (Nj := some 8) #[true, true, true, true, true, true, true, false, false, false] #[true, true, false, true, true, true, true, false, true, false] rfl rfl rfl rfl (two_of HT_.out (by kernel_rfl)) (by decide) (by decide) (fun K hK => ?_) (fun K hK => ?_)
                · skip
                  refine goes_ Try.func43 (by kernel_rfl) rfl #[.slice A0_0 l0_0.length c0_0] (by rfl) rfl rfl (by (try simp only [List.map_toArray, List.map_cons, List.map_nil]); first | done | rfl | (simp only [List.length_drop, List.length_take]; rfl)) ?_
                  with_reducible refine (spec_l1Own.calls _ _ l0_0 t106 _ ?side1 ?side2 A26.out).mono ?_
                  (case side1 => repeat (first | exact (Kd.C_below HR0_0.out HB.out) | (with_reducible refine Kd.C_alloc ?_ _) | (with_reducible refine Kd.C_drewN ?_ _) | (with_reducible refine Kd.C_drew ?_)))
                  (case side2 => exact HC0_0.out)
                  rintro e w54 ⟨v107, rfl, ho0, hb⟩
                  refine ⟨_, rfl, ?_⟩
                  have n0_ := Aside0.mk (Kd.R_lower ho0 (below_size (by exact eS HB.out)))
                  have n1_ := Aside0.mk (blk_below (bS BK101.out) hb)
                  have n2_ := Aside0.mk (blk_below (bS BK102.out) hb)
                  have n3_ := Aside0.mk (below_step (by exact eS HB.out) hb)
                  clear BK101
                  clear BK102
                  clear HB
                  have HO108 := n0_
                  have BK101 := n1_
                  have BK102 := n2_
                  have HB := n3_
                  clear n0_ n1_ n2_ n3_
                  (try clear hb)
                  (try clear hb2)
                  (try clear hk)
                  (try clear hi)
                  (try clear ho0)
                  obtain ⟨Ao55, co55, eo55⟩ := Kd.R_slice HO108.out
                  (first | subst eo55 | (injection eo55 with f1_ f2_ f3_; have f4_ := f1_.symm; have f5_ := f3_.symm; clear f1_ f2_ f3_; subst f4_; subst f5_))
                  refine hK.out _ _ ⟨(blk_cell BK101.out 0).trans rfl, (blk_cell BK101.out 1).trans rfl, (blk_cell BK101.out 2).trans rfl⟩ (fun hHeld => ?_)
                  clear hK K
                  refine norm_ (a' := ?_) ?_ ?_
                  rotate_left
                  · show Act.put _ (some 28) _ = _
                    simp only [Act.put, List.setIfInBounds_toArray, List.set_cons_zero, List.set_cons_succ, i64_w, i32_w]
                    rfl
                  refine pure_ (i := 7) (N := some 33) (v := ?_) (a' := ?_) #[true, true, true, true, true, true, true, true, false, false] rfl rfl (any_of HT_.out (by kernel_rfl)) (fun _ _ _ h => h) (Or.inl ⟨by rfl, ?_⟩) ?_ ?_
                  rotate_left
                  · intro w'
                    go_simp
                    with_reducible rfl
                  rotate_left
                  · simp only [Act.put, List.setIfInBounds_toArray, List.set_cons_zero, List.set_cons_succ, i64_w, i32_w]
                    rfl
                  refine one_ (i := 8) (N := some 8) #[true, true, true, true, true, true, true, true, true, false] rfl rfl (one_of HT_.out (by kernel_rfl)) (by decide) (fun K hK => ?_)
                  refine box_step ?hg (N := 8) ?hd (cs := #[.slice none 0 0, .int .i64 0, .int .i64 0]) (t := 27) ?hr ?_; (case hd => rfl); (case hg => rfl); (case hr => first | (go_simp; done) | (go_simp; rfl))
                  intro gb109 hg w56 hbox hb
                  have n0_ := Aside0.mk (Kd.R_below (by exact Ho.RS <| HO108.out) hb)
                  have n1_ := Aside0.mk (blk_below (bS BK101.out) hb)
                  have n2_ := Aside0.mk (blk_below (bS BK102.out) hb)
                  have n3_ := Aside0.mk (below_step (by exact eS HB.out) hb)
                  have n4_ := Aside0.mk (hbox)
                  have n5_ := Aside0.mk ((by rw [hg]; exact (below_size (by exact eS HB.out)) : w.heap.size ≤ gb109))
                  have n6_ := Aside0.mk ((by rw [hg]; exact (below_size (by exact eS HB.out)) : w.heap.size ≤ gb109))
                  have n7_ := Aside0.mk ((by rw [hg]; exact Nat.ne_of_lt (blk_lt (bS BK101.out)) : gb101 ≠ gb109))
                  have n8_ := Aside0.mk ((by rw [hg]; exact Nat.ne_of_gt (blk_lt (bS BK101.out)) : gb109 ≠ gb101))
                  have n9_ := Aside0.mk ((by rw [hg]; exact Nat.ne_of_lt (blk_lt (bS BK102.out)) : gb102 ≠ gb109))
                  have n10_ := Aside0.mk ((by rw [hg]; exact Nat.ne_of_gt (blk_lt (bS BK102.out)) : gb109 ≠ gb102))
                  clear HO108
                  clear BK101
                  clear BK102
                  clear HB
                  have HO108 := n0_
                  have BK101 := n1_
                  have BK102 := n2_
                  have HB := n3_
                  have BK109 := n4_
                  have GW109 := n5_
                  have GE109 := n6_
                  have NB101_109 := n7_
                  have NB109_101 := n8_
                  have NB102_109 := n9_
                  have NB109_102 := n10_
                  clear n0_ n1_ n2_ n3_ n4_ n5_ n6_ n7_ n8_ n9_ n10_
                  clear hb hbox hg
                  refine hK.out _ _ ⟨(blk_cell BK101.out 0).trans rfl, (blk_cell BK101.out 1).trans rfl, (blk_cell BK101.out 2).trans rfl⟩ (fun hHeld => ?_)
                  clear hK K
                  refine norm_ (a' := ?_) ?_ ?_
                  rotate_left
                  · show Act.put _ (some 8) _ = _
                    simp only [Act.put, List.setIfInBounds_toArray, List.set_cons_zero, List.set_cons_succ, i64_w, i32_w]
                    rfl
                  exact norm_ (by simp only [putAll, Act.put, List.setIfInBounds_toArray, List.set_cons_zero, List.set_cons_succ]) (hCont (.slice Ao55 t106.length co55, gb109) _ ⟨hHeld, (by exact Ho.RS <| HO108.out), (by exact bS BK101.out), (by exact bS BK102.out), (by exact bS BK109.out), GW109.out, GE109.out, NB101_109.out, NB109_101.out, NB102_109.out, NB109_102.out, (by exact eS HB.out)⟩)
                · skip
                  refine box_step ?hg (N := 8) ?hd (cs := #[.slice none 0 0, .int .i64 0, .int .i64 0]) (t := 27) ?hr ?_; (case hd => rfl); (case hg => rfl); (case hr => first | (go_simp; done) | (go_simp; rfl))
                  intro gb109 hg w54 hbox hb
                  have n0_ := Aside0.mk (blk_below (bS BK101.out) hb)
                  have n1_ := Aside0.mk (blk_below (bS BK102.out) hb)
                  have n2_ := Aside0.mk (below_step (by exact eS HB.out) hb)
                  have n3_ := Aside0.mk (hbox)
                  have n4_ := Aside0.mk ((by rw [hg]; exact (below_size (by exact eS HB.out)) : w.heap.size ≤ gb109))
                  have n5_ := Aside0.mk ((by rw [hg]; exact (below_size (by exact eS HB.out)) : w.heap.size ≤ gb109))
                  have n6_ := Aside0.mk ((by rw [hg]; exact Nat.ne_of_lt (blk_lt (bS BK101.out)) : gb101 ≠ gb109))
                  have n7_ := Aside0.mk ((by rw [hg]; exact Nat.ne_of_gt (blk_lt (bS BK101.out)) : gb109 ≠ gb101))
                  have n8_ := Aside0.mk ((by rw [hg]; exact Nat.ne_of_lt (blk_lt (bS BK102.out)) : gb102 ≠ gb109))
                  have n9_ := Aside0.mk ((by rw [hg]; exact Nat.ne_of_gt (blk_lt (bS BK102.out)) : gb109 ≠ gb102))
                  clear BK101
                  clear BK102
                  clear HB
                  have BK101 := n0_
                  have BK102 := n1_
                  have HB := n2_
                  have BK109 := n3_
                  have GW109 := n4_
                  have GE109 := n5_
                  have NB101_109 := n6_
                  have NB109_101 := n7_
                  have NB102_109 := n8_
                  have NB109_102 := n9_
                  clear n0_ n1_ n2_ n3_ n4_ n5_ n6_ n7_ n8_ n9_
                  clear hb hbox hg
                  refine hK.out _ _ ⟨(blk_cell BK101.out 0).trans rfl, (blk_cell BK101.out 1).trans rfl, (blk_cell BK101.out 2).trans rfl⟩ (fun hHeld => ?_)
                  clear hK K
                  refine norm_ (a' := ?_) ?_ ?_
                  rotate_left
                  · show Act.put _ (some 8) _ = _
                    simp only [Act.put, List.setIfInBounds_toArray, List.set_cons_zero, List.set_cons_succ, i64_w, i32_w]
                    rfl
                  refine one_ (i := 2) (N := some 28) #[true, true, true, true, true, true, true, false, true, false] rfl rfl (one_of HT_.out (by kernel_rfl)) (by decide) (fun K hK => ?_)
                  refine goes_ Try.func43 (by kernel_rfl) rfl #[.slice A0_0 l0_0.length c0_0] (by rfl) rfl rfl (by (try simp only [List.map_toArray, List.map_cons, List.map_nil]); first | done | rfl | (simp only [List.length_drop, List.length_take]; rfl)) ?_
                  with_reducible refine (spec_l1Own.calls _ _ l0_0 t106 _ ?side1 ?side2 A26.out).mono ?_
                  (case side1 => repeat (first | exact (Kd.C_below HR0_0.out HB.out) | (with_reducible refine Kd.C_alloc ?_ _) | (with_reducible refine Kd.C_drewN ?_ _) | (with_reducible refine Kd.C_drew ?_)))
                  (case side2 => exact HC0_0.out)
                  rintro e w55 ⟨v107, rfl, ho0, hb⟩
                  refine ⟨_, rfl, ?_⟩
                  have n0_ := Aside0.mk (Kd.R_lower ho0 (below_size (by exact eS HB.out)))
                  have n1_ := Aside0.mk (blk_below (bS BK101.out) hb)
                  have n2_ := Aside0.mk (blk_below (bS BK102.out) hb)
                  have n3_ := Aside0.mk (blk_below (bS BK109.out) hb)
                  have n4_ := Aside0.mk (below_step (by exact eS HB.out) hb)
                  clear BK101
                  clear BK102
                  clear BK109
                  clear HB
                  have HO108 := n0_
                  have BK101 := n1_
                  have BK102 := n2_
                  have BK109 := n3_
                  have HB := n4_
                  clear n0_ n1_ n2_ n3_ n4_
                  (try clear hb)
                  (try clear hb2)
                  (try clear hk)
                  (try clear hi)
                  (try clear ho0)
                  obtain ⟨Ao56, co56, eo56⟩ := Kd.R_slice HO108.out
                  (first | subst eo56 | (injection eo56 with f1_ f2_ f3_; have f4_ := f1_.symm; have f5_ := f3_.symm; clear f1_ f2_ f3_; subst f4_; subst f5_))
                  refine hK.out _ _ ⟨(blk_cell BK101.out 0).trans rfl, (blk_cell BK101.out 1).trans rfl, (blk_cell BK101.out 2).trans rfl⟩ (fun hHeld => ?_)
                  clear hK K
                  refine norm_ (a' := ?_) ?_ ?_
                  rotate_left
                  · show Act.put _ (some 28) _ = _
                    simp only [Act.put, List.setIfInBounds_toArray, List.set_cons_zero, List.set_cons_succ, i64_w, i32_w]
                    rfl
                  refine pure_ (i := 7) (N := some 33) (v := ?_) (a' := ?_) #[true, true, true, true, true, true, true, true, true, false] rfl rfl (any_of HT_.out (by kernel_rfl)) (fun _ _ _ h => h) (Or.inl ⟨by rfl, ?_⟩) ?_ ?_
                  rotate_left
                  · intro w'
                    go_simp
                    with_reducible rfl
                  rotate_left
                  · simp only [Act.put, List.setIfInBounds_toArray, List.set_cons_zero, List.set_cons_succ, i64_w, i32_w]
                    rfl
                  exact norm_ (by simp only [putAll, Act.put, List.setIfInBounds_toArray, List.set_cons_zero, List.set_cons_succ]) (hCont (.slice Ao56 t106.length co56, gb109) _ ⟨hHeld, (by exact Ho.RS <| HO108.out), (by exact bS BK101.out), (by exact bS BK102.out), (by exact bS BK109.out), GW109.out, GE109.out, NB101_109.out, NB109_101.out, NB102_109.out, NB109_102.out, (by exact eS HB.out)⟩)
              rintro ⟨v107, gb109⟩ w57 ⟨hS_, h0_, h1_, h2_, h3_, h4_, h5_, h6_, h7_, h8_, h9_, h10_⟩
              have n0_ : Aside0 (Kd.R (Kd.int .i64) 3 w57 w.heap.size (fun _ => True) v107 t106) := ⟨h0_⟩
              have n1_ : Aside0 (w57.heap[gb101]? = some (.cells #[.slice A0_0 l0_0.length c0_0, .int .i64 a0_1, .int .i64 a0_2] 27 (0, 0))) := ⟨h1_⟩
              have n2_ : Aside0 (w57.heap[gb102]? = some (.cells #[.slice none 0 0, .int .i64 0, .int .i64 0] 27 (0, 0))) := ⟨h2_⟩
              have n3_ : Aside0 (w57.heap[gb109]? = some (.cells #[.slice none 0 0, .int .i64 0, .int .i64 0] 27 (0, 0))) := ⟨h3_⟩
              have n4_ : Aside0 (w.heap.size ≤ gb109) := ⟨h4_⟩
              have n5_ : Aside0 (w.heap.size ≤ gb109) := ⟨h5_⟩
              have n6_ : Aside0 (gb101 ≠ gb109) := ⟨h6_⟩
              have n7_ : Aside0 (gb109 ≠ gb101) := ⟨h7_⟩
              have n8_ : Aside0 (gb102 ≠ gb109) := ⟨h8_⟩
              have n9_ : Aside0 (gb109 ≠ gb102) := ⟨h9_⟩
              have n10_ : Aside0 (Below w.heap.size w w57) := ⟨h10_⟩
              clear BK101
              clear BK102
              clear HB
              clear h0_ h1_ h2_ h3_ h4_ h5_ h6_ h7_ h8_ h9_ h10_
              have HO108 := n0_
              have BK101 := n1_
              have BK102 := n2_
              have BK109 := n3_
              have GW109 := n4_
              have GE109 := n5_
              have NB101_109 := n6_
              have NB109_101 := n7_
              have NB102_109 := n8_
              have NB109_102 := n9_
              have HB := n10_
              clear n0_ n1_ n2_ n3_ n4_ n5_ n6_ n7_ n8_ n9_ n10_
              have hHeld : w57.cell? ⟨gb101, 0, none⟩ = some (.slice A0_0 l0_0.length c0_0) ∧ w57.cell? ⟨gb101, 1, none⟩ = some (.int .i64 a0_1) ∧ w57.cell? ⟨gb101, 2, none⟩ = some (.int .i64 a0_2) := hS_
              obtain ⟨Ao58, co58, eo58⟩ := Kd.R_slice HO108.out
              (first | subst eo58 | (injection eo58 with f1_ f2_ f3_; have f4_ := f1_.symm; have f5_ := f3_.symm; clear f1_ f2_ f3_; subst f4_; subst f5_))
              refine norm_ (a' := ?_) ?_ ?_
              rotate_left
              · simp only [putAll, Act.put, List.setIfInBounds_toArray, List.set_cons_zero, List.set_cons_succ]
                rfl
              refine one_ (i := 9) (N := none) #[true, true, true, true, true, true, true, true, true, true] rfl rfl (one_of HT_.out (by kernel_rfl)) (by decide) (fun K hK => ?_)
              have hs59 : w57.cell? ⟨gb109, 0, none⟩ = some (.slice none 0 0) := (blk_cell BK109.out 0).trans rfl
              have hfs59 := blk_frozen BK109.out 0
              have hns59_0 := NB101_109.out
              have hns59_1 := NB102_109.out
              have hms59_0 := NB109_101.out
              have hms59_1 := NB109_102.out
              have hs60 : w57.cell? ⟨gb109, 1, none⟩ = some (.int .i64 0) := (blk_cell BK109.out 1).trans rfl
              have hfs60 := blk_frozen BK109.out 1
              have hns60_0 := NB101_109.out
              have hns60_1 := NB102_109.out
              have hms60_0 := NB109_101.out
              have hms60_1 := NB109_102.out
              have hs61 : w57.cell? ⟨gb109, 2, none⟩ = some (.int .i64 0) := (blk_cell BK109.out 2).trans rfl
              have hfs61 := blk_frozen BK109.out 2
              have hns61_0 := NB101_109.out
              have hns61_1 := NB102_109.out
              have hms61_0 := NB109_101.out
              have hms61_1 := NB109_102.out
              refine skip_ (w1 := ?_) (by rfl) rfl ?_ ?_
              rotate_left
              · go_simp
                rfl
              refine hK.out _ _ ⟨((cell_far (p := ⟨gb109, _, none⟩) NB101_109.out _).trans (((cell_far (p := ⟨gb109, _, none⟩) NB101_109.out _).trans (((cell_far (p := ⟨gb109, _, none⟩) NB101_109.out _).trans (hHeld.1)))))), ((cell_far (p := ⟨gb109, _, none⟩) NB101_109.out _).trans (((cell_far (p := ⟨gb109, _, none⟩) NB101_109.out _).trans (((cell_far (p := ⟨gb109, _, none⟩) NB101_109.out _).trans (hHeld.2.1)))))), ((cell_far (p := ⟨gb109, _, none⟩) NB101_109.out _).trans (((cell_far (p := ⟨gb109, _, none⟩) NB101_109.out _).trans (((cell_far (p := ⟨gb109, _, none⟩) NB101_109.out _).trans (hHeld.2.2))))))⟩ (fun hHeld => ?_)
              clear hK K
              refine done_ (done_of HT_.out (by kernel_rfl)) ?_
              have n0_ : Aside0 (Kd.R (Kd.int .i64) 3 (((w57.setCell ⟨gb109, 0, none⟩ (.slice Ao58 t106.length co58)).setCell ⟨gb109, 1, none⟩ (.int .i64 a0_1)).setCell ⟨gb109, 2, none⟩ (.int .i64 a0_2)) w.heap.size (fun _ => True) (.slice Ao58 t106.length co58) t106) := ⟨by exact Ho.RS <| Kd.R_mono (Kd.R_far (p := ⟨gb109, 2, none⟩) (Kd.R_far (p := ⟨gb109, 1, none⟩) (Kd.R_far (p := ⟨gb109, 0, none⟩) (Kd.R_types HO108.out BK109.out (by decide)) (fun _ hk => hk.2) (.slice Ao58 t106.length co58)) (fun _ hk => hk.2) (.int .i64 a0_1)) (fun _ hk => hk.2) (.int .i64 a0_2)) (fun _ hk => trivial)⟩
              have n1_ : Aside0 ((((w57.setCell ⟨gb109, 0, none⟩ (.slice Ao58 t106.length co58)).setCell ⟨gb109, 1, none⟩ (.int .i64 a0_1)).setCell ⟨gb109, 2, none⟩ (.int .i64 a0_2)).heap[gb101]? = some (.cells #[.slice A0_0 l0_0.length c0_0, .int .i64 a0_1, .int .i64 a0_2] 27 (0, 0))) := ⟨by (with_reducible repeat (first | refine blk_drewN ?_ _ | refine blk_drew ?_ | refine blk_alloc ?_ _)); refine blk_far ?_ NB101_109.out _; (with_reducible repeat (first | refine blk_drewN ?_ _ | refine blk_drew ?_ | refine blk_alloc ?_ _)); refine blk_far ?_ NB101_109.out _; (with_reducible repeat (first | refine blk_drewN ?_ _ | refine blk_drew ?_ | refine blk_alloc ?_ _)); refine blk_far ?_ NB101_109.out _; exact bS BK101.out⟩
              have n2_ : Aside0 ((((w57.setCell ⟨gb109, 0, none⟩ (.slice Ao58 t106.length co58)).setCell ⟨gb109, 1, none⟩ (.int .i64 a0_1)).setCell ⟨gb109, 2, none⟩ (.int .i64 a0_2)).heap[gb102]? = some (.cells #[.slice none 0 0, .int .i64 0, .int .i64 0] 27 (0, 0))) := ⟨by (with_reducible repeat (first | refine blk_drewN ?_ _ | refine blk_drew ?_ | refine blk_alloc ?_ _)); refine blk_far ?_ NB102_109.out _; (with_reducible repeat (first | refine blk_drewN ?_ _ | refine blk_drew ?_ | refine blk_alloc ?_ _)); refine blk_far ?_ NB102_109.out _; (with_reducible repeat (first | refine blk_drewN ?_ _ | refine blk_drew ?_ | refine blk_alloc ?_ _)); refine blk_far ?_ NB102_109.out _; exact bS BK102.out⟩
              have n3_ : Aside0 ((((w57.setCell ⟨gb109, 0, none⟩ (.slice Ao58 t106.length co58)).setCell ⟨gb109, 1, none⟩ (.int .i64 a0_1)).setCell ⟨gb109, 2, none⟩ (.int .i64 a0_2)).heap[gb109]? = some (.cells #[.slice Ao58 t106.length co58, .int .i64 a0_1, .int .i64 a0_2] 27 (0, 0))) := ⟨by (with_reducible repeat (first | refine blk_drewN ?_ _ | refine blk_drew ?_ | refine blk_alloc ?_ _)); refine blk_put (cs := #[.slice Ao58 t106.length co58, .int .i64 a0_1, .int .i64 0]) ?_ 2 _ rfl; (with_reducible repeat (first | refine blk_drewN ?_ _ | refine blk_drew ?_ | refine blk_alloc ?_ _)); refine blk_put (cs := #[.slice Ao58 t106.length co58, .int .i64 0, .int .i64 0]) ?_ 1 _ rfl; (with_reducible repeat (first | refine blk_drewN ?_ _ | refine blk_drew ?_ | refine blk_alloc ?_ _)); refine blk_put (cs := #[.slice none 0 0, .int .i64 0, .int .i64 0]) ?_ 0 _ rfl; exact bS BK109.out⟩
              have n4_ : Aside0 (Below w.heap.size w (((w57.setCell ⟨gb109, 0, none⟩ (.slice Ao58 t106.length co58)).setCell ⟨gb109, 1, none⟩ (.int .i64 a0_1)).setCell ⟨gb109, 2, none⟩ (.int .i64 a0_2))) := ⟨by repeat (first | (with_reducible first | exact HB.out | apply below_alloc | apply pw_below_drewN | apply below_drew1 | refine below_set ?_ GE101.out | refine below_set ?_ GE102.out | refine below_set ?_ GE109.out) | exact HB.out)⟩
              (try clear HO108)
              (try clear BK101)
              (try clear BK102)
              (try clear BK109)
              (try clear HB)
              generalize (((w57.setCell ⟨gb109, 0, none⟩ (.slice Ao58 t106.length co58)).setCell ⟨gb109, 1, none⟩ (.int .i64 a0_1)).setCell ⟨gb109, 2, none⟩ (.int .i64 a0_2)) = w62 at n0_ n1_ n2_ n3_ n4_ ⊢
              have HO108 := n0_
              have BK101 := n1_
              have BK102 := n2_
              have BK109 := n3_
              have HB := n4_
              clear n0_ n1_ n2_ n3_ n4_
              have hnb63 := NB109_101.out
              have hnc63 := NB101_109.out
              have hnb64 := NB109_102.out
              have hnc64 := NB102_109.out
              have hcz65_0 : w62.cell? ⟨gb109, 0, none⟩ = some (.slice Ao58 t106.length co58) := (blk_cell BK109.out 0).trans rfl
              have hcz65_1 : w62.cell? ⟨gb109, 1, none⟩ = some (.int .i64 a0_1) := (blk_cell BK109.out 1).trans rfl
              have hcz65_2 : w62.cell? ⟨gb109, 2, none⟩ = some (.int .i64 a0_2) := (blk_cell BK109.out 2).trans rfl
              have hfz65_0 := blk_frozen BK109.out 0
              have hfz65_1 := blk_frozen BK109.out 1
              have hfz65_2 := blk_frozen BK109.out 2
              have p29 : 0 ≤ (a1 : Int) := of_decide_eq_true (by first | (with_reducible assumption) | assumption)
              have q29 : (a1 : Int) < ((t106.length : Int) : Int) := of_decide_eq_true (by first | (with_reducible assumption) | assumption)
              obtain ⟨go29, co29, eo29, gb29, gl29, cl29, HG29⟩ := Kd.R_form HO108.out (by omega)
              (first | cases eo29 | (injection eo29 with ea_ en_ ec_; (first | subst ea_ | (injection ea_ with ea_; subst ea_)); subst ec_; clear en_))
              have GB29 := Aside0.mk gb29
              have GG29 := Aside0.mk HG29
              clear gb29 gl29 HG29
              obtain ⟨hx29_0, hf29_0⟩ := Kd.R_celln 0 HO108.out (a1 : Int) p29 q29
              replace p29 := eq_true p29
              replace q29 := eq_true q29
              obtain ⟨hy66_, hz66_⟩ := Kd.R_celln 0 HO108.out (a1 : Int) (of_decide_eq_true (by first | (with_reducible assumption) | assumption)) (of_decide_eq_true (by first | (with_reducible assumption) | assumption))
              have HP66 := Kd.R_putg HO108.out (a1 : Int) 0
              try go_wp2_with (first | ((with_reducible refine gate_store (t := 3) (p := 37) rfl ?_); refine store_event (t := 3) (p := 37) (v := ?vo_w67) (w1 := (w62.setCell ⟨go29, (a1 : Int).toNat, none⟩ (.int .i64 0))) ?hg ?ho ?hn ?hr ?_; (case ho => rfl); (case hg => rfl); (case hn => rfl); (case hr => first | (go_simp; done) | (go_simp; rfl)); intro w67 hw; have hg : w62.grownBy w67 (some go29) := (by rw [hw]; exact HP66.2); have hp_ : Kd.R (Kd.int .i64) 3 w67 w.heap.size (fun _ => True) (.slice (some ⟨go29, 0, none⟩) t106.length co58) y110 := (by rw [hw, Ny110.out]; exact HP66.1); clear HP66; have n0_ := Aside0.mk (blk_grown (bS BK101.out) hg (Kd.R_ne HO108.out BK101.out (by decide))); have n1_ := Aside0.mk (blk_grown (bS BK102.out) hg (Kd.R_ne HO108.out BK102.out (by decide))); have n2_ := Aside0.mk (hp_); have n3_ := Aside0.mk (blk_grown (bS BK109.out) hg (Kd.R_ne HO108.out BK109.out (by decide))); have n4_ := Aside0.mk ((by rw [hw]; exact below_set (HB.out) GB29.out : Below w.heap.size w w67)); clear BK101; clear BK102; clear HO108; clear BK109; clear HB; have BK101 := n0_; have BK102 := n1_; have HO108 := n2_; have BK109 := n3_; have HB := n4_; clear n0_ n1_ n2_ n3_ n4_; clear hg hw hp_; have hcz68_0 : w67.cell? ⟨gb109, 0, none⟩ = some (.slice (some ⟨go29, 0, none⟩) t106.length co58) := (blk_cell BK109.out 0).trans rfl; have hcz68_1 : w67.cell? ⟨gb109, 1, none⟩ = some (.int .i64 a0_1) := (blk_cell BK109.out 1).trans rfl; have hcz68_2 : w67.cell? ⟨gb109, 2, none⟩ = some (.int .i64 a0_2) := (blk_cell BK109.out 2).trans rfl; have hfz68_0 := blk_frozen BK109.out 0; have hfz68_1 := blk_frozen BK109.out 1; have hfz68_2 := blk_frozen BK109.out 2; have hnb69 := NB102_101.out; have hnc69 := NB101_102.out; have hcz70_0 : w67.cell? ⟨gb102, 0, none⟩ = some (.slice none 0 0) := (blk_cell BK102.out 0).trans rfl; have hcz70_1 : w67.cell? ⟨gb102, 1, none⟩ = some (.int .i64 0) := (blk_cell BK102.out 1).trans rfl; have hcz70_2 : w67.cell? ⟨gb102, 2, none⟩ = some (.int .i64 0) := (blk_cell BK102.out 2).trans rfl; have hfz70_0 := blk_frozen BK102.out 0; have hfz70_1 := blk_frozen BK102.out 1; have hfz70_2 := blk_frozen BK102.out 2))
              refine bodyPost_ret (results_ct rfl _ _ gb102 27 #[.slice (some ⟨go29, 0, none⟩) t106.length co58, .int .i64 a0_1, .int .i64 a0_2] (0, 0) _ rfl (by (with_reducible repeat (first | refine blk_drewN ?_ _ | refine blk_drew ?_ | refine blk_alloc ?_ _)); refine blk_put (cs := #[.slice (some ⟨go29, 0, none⟩) t106.length co58, .int .i64 a0_1, .int .i64 0]) ?_ 2 _ rfl; (with_reducible repeat (first | refine blk_drewN ?_ _ | refine blk_drew ?_ | refine blk_alloc ?_ _)); refine blk_put (cs := #[.slice (some ⟨go29, 0, none⟩) t106.length co58, .int .i64 0, .int .i64 0]) ?_ 1 _ rfl; (with_reducible repeat (first | refine blk_drewN ?_ _ | refine blk_drew ?_ | refine blk_alloc ?_ _)); refine blk_put (cs := #[.slice none 0 0, .int .i64 0, .int .i64 0]) ?_ 0 _ rfl; exact bS BK102.out) Try.underlying27 rfl (by kernel_rfl)) rfl ?_
              exact ⟨_, by first | rfl | (simp [errW_none, errW_some] <;> rfl) | (simp [*, errW_none, errW_some] <;> rfl), by exact Ho.RS <| Kd.R_mono (Kd.R_far (p := ⟨gb102, 2, none⟩) (Kd.R_far (p := ⟨gb102, 1, none⟩) (Kd.R_far (p := ⟨gb102, 0, none⟩) (Kd.R_types HO108.out BK102.out (by decide)) (fun _ hk => hk.2) (.slice (some ⟨go29, 0, none⟩) t106.length co58)) (fun _ hk => hk.2) (.int .i64 a0_1)) (fun _ hk => hk.2) (.int .i64 a0_2)) (fun _ hk => trivial), by repeat (first | (with_reducible first | exact HB.out | apply below_alloc | apply pw_below_drewN | apply below_drew1 | refine below_set ?_ GE101.out | refine below_set ?_ GE102.out | refine below_set ?_ GE109.out) | exact HB.out)⟩
          · rw [if_neg c28] at H
            exact absurd H (by simp)
        · rw [if_neg c27] at H
          exact absurd H (by simp)

end Go.Proofs.Ytiomfignokichaa.X

-- XlawsFnExactWithMarkF4
namespace Go.Proofs.Ytiomfignokichaa.X
open Ho (bS eS)
open Go.RowKit Go.Proofs.YtiomfignokichaaW.PrintWords Go.Proofs.YtiomfignokichaaW.PrintLast Go.Proofs.YtiomfignokichaaW.PrintMore
attribute [local go_sem] max2_int min2_int max_two min_two max_three min_three max_four min_four   -- for this text's walks alone
set_option linter.unusedVariables false
set_option linter.unusedSimpArgs false

attribute [local go_sem ↓] Ho.isSome_setCell_   -- a store leaves all places there
/-! ### laws_FnExactWithMark: function 4 -/
mutual
def laws_FnExactWithMark.j0 : Nat → Int → Bool → Bool → Bool → Bool → List Int → Int → Int → List Int → Int → Int → List Int → Int → Int → List Int → Int → Int → Option (Bool)
  | 0, _, _, _, _, _, _, _, _, _, _, _, _, _, _, _, _, _ => none
  | k + 1, x1, x2, x9, x12, x48, x102000, x102001, x102002, x115000, x115001, x115002, x121000, x121001, x121002, x128000, x128001, x128002 => if x48 = true then (some false) else ((laws_toPiece.f k x102000 x102001 x102002).bind fun bt129 => ((laws_eqPiece.f k x121000 x121001 x121002 bt129.1 bt129.2.1 bt129.2.2).bind fun t134 => (if t134 = true then ((laws_markPiece.f k x121000 x121001 x121002 1).bind fun bt135 => (if bt135.1 < 0 then (laws_FnExactWithMark.j1 k x1 x2 x9 true x102000 x102001 x102002 x115000 x115001 x115002 x128000 x128001 x128002) else ((laws_eqPiece.f k x128000 x128001 x128002 x115000 x115001 x115002).bind fun t137 => (if t137 = true then (laws_FnExactWithMark.j1 k x1 x2 x9 (x12 != x9) x102000 x102001 x102002 x115000 x115001 x115002 x128000 x128001 x128002) else (laws_FnExactWithMark.j1 k x1 x2 x9 true x102000 x102001 x102002 x115000 x115001 x115002 x128000 x128001 x128002))))) else (some false))))
def laws_FnExactWithMark.j1 : Nat → Int → Bool → Bool → Bool → List Int → Int → Int → List Int → Int → Int → List Int → Int → Int → Option (Bool)
  | 0, _, _, _, _, _, _, _, _, _, _, _, _, _ => none
  | k + 1, x1, x2, x9, x69, x102000, x102001, x102002, x115000, x115001, x115002, x128000, x128001, x128002 => if x69 = true then (some false) else ((laws_markPiece.f k x128000 x128001 x128002 1).bind fun bt138 => ((laws_heldPiece.f k bt138.2 x128001 x128002 1).bind fun t140 => (if t140 < 0 then (some false) else (if t140 = bt138.1 then ((laws_toPiece.f k x102000 x102001 x102002).bind fun bt141 => ((impl_WithMark.f k bt141.1 bt141.2.1 bt141.2.2 x1 x2).bind fun bt146 => ((laws_eqPiece.f k bt146.1 bt146.2.1 bt146.2.2.1 x115000 x115001 x115002).bind fun t153 => (if t153 = true then (laws_FnExactWithMark.j2 k bt138.1 (bt146.2.2.2 != x9) bt138.2 x128001 x128002) else (laws_FnExactWithMark.j2 k bt138.1 true bt138.2 x128001 x128002))))) else (some false)))))
def laws_FnExactWithMark.j2 : Nat → Int → Bool → List Int → Int → Int → Option (Bool)
  | 0, _, _, _, _, _ => none
  | k + 1, x14, x97, x128000, x128001, x128002 => if x97 = true then (some false) else ((laws_heldPiece.f k x128000 x128001 x128002 1).bind fun t154 => (if t154 < 0 then (some false) else (if t154 = x14 then (some true) else (some false))))
end
def laws_FnExactWithMark.f (k : Nat) (l0_0 : List Int) (a0_1 : Int) (a0_2 : Int) (a1 : Int) (a2 : Bool) : Option (Bool) := (laws_szPiece.f l0_0 a0_1 a0_2 1048576).bind fun t102 => (if t102 < 0 then (some true) else ((laws_toPiece.f k l0_0 a0_1 a0_2).bind fun bt103 => ((spec_WithMark.f k bt103.1 bt103.2.1 bt103.2.2 a1 a2).bind fun bt108 => ((laws_toPiece.f k l0_0 a0_1 a0_2).bind fun bt115 => ((impl_WithMark.f k bt115.1 bt115.2.1 bt115.2.2 a1 a2).bind fun bt121 => ((laws_eqPiece.f k bt121.1 bt121.2.1 bt121.2.2.1 bt108.1 bt108.2.1 bt108.2.2.1).bind fun t128 => (if t128 = true then (laws_FnExactWithMark.j0 k a1 a2 bt108.2.2.2 bt121.2.2.2 (bt121.2.2.2 != bt108.2.2.2) l0_0 a0_1 a0_2 bt108.1 bt108.2.1 bt108.2.2.1 bt115.1 bt115.2.1 bt115.2.2 bt121.1 bt121.2.1 bt121.2.2.1) else (laws_FnExactWithMark.j0 k a1 a2 bt108.2.2.2 bt121.2.2.2 true l0_0 a0_1 a0_2 bt108.1 bt108.2.1 bt108.2.2.1 bt115.1 bt115.2.1 bt115.2.2 bt121.1 bt121.2.1 bt121.2.2.1))))))))
theorem laws_FnExactWithMark.mono_l : ∀ k, (∀ y0 y1 y2 y3 y4 y5 y6 y7 y8 y9 y10 y11 y12 y13 y14 y15 y16, LeO (laws_FnExactWithMark.j0 k y0 y1 y2 y3 y4 y5 y6 y7 y8 y9 y10 y11 y12 y13 y14 y15 y16) (laws_FnExactWithMark.j0 (k + 1) y0 y1 y2 y3 y4 y5 y6 y7 y8 y9 y10 y11 y12 y13 y14 y15 y16)) ∧ (∀ y0 y1 y2 y3 y4 y5 y6 y7 y8 y9 y10 y11 y12, LeO (laws_FnExactWithMark.j1 k y0 y1 y2 y3 y4 y5 y6 y7 y8 y9 y10 y11 y12) (laws_FnExactWithMark.j1 (k + 1) y0 y1 y2 y3 y4 y5 y6 y7 y8 y9 y10 y11 y12)) ∧ (∀ y0 y1 y2 y3 y4, LeO (laws_FnExactWithMark.j2 k y0 y1 y2 y3 y4) (laws_FnExactWithMark.j2 (k + 1) y0 y1 y2 y3 y4))
  | 0 => ⟨fun _ _ _ _ _ _ _ _ _ _ _ _ _ _ _ _ _ r h => by simp [laws_FnExactWithMark.j0] at h, fun _ _ _ _ _ _ _ _ _ _ _ _ _ r h => by simp [laws_FnExactWithMark.j1] at h, fun _ _ _ _ _ r h => by simp [laws_FnExactWithMark.j2] at h⟩
  | k + 1 => by
    obtain ⟨ih0, ih1, ih2⟩ := laws_FnExactWithMark.mono_l k
    refine ⟨?_, ?_, ?_⟩
    · intro y0 y1 y2 y3 y4 y5 y6 y7 y8 y9 y10 y11 y12 y13 y14 y15 y16
      unfold laws_FnExactWithMark.j0
      repeat' first
      | (with_reducible exact ih0 _ _ _ _ _ _ _ _ _ _ _ _ _ _ _ _ _)
      | (with_reducible exact ih1 _ _ _ _ _ _ _ _ _ _ _ _ _)
      | (with_reducible exact ih2 _ _ _ _ _)
      | (with_reducible exact impl_WithMark.mono _ _ _ _ _ _)
      | (with_reducible exact laws_eqPiece.mono _ _ _ _ _ _ _)
      | (with_reducible exact laws_heldPiece.mono _ _ _ _ _)
      | (with_reducible exact laws_markPiece.mono _ _ _ _ _)
      | (with_reducible exact laws_toPiece.mono _ _ _ _)
      | (with_reducible exact spec_WithMark.mono _ _ _ _ _ _)
      | (with_reducible exact LeO.refl _)
      | (with_reducible exact LeO.none _)
      | (with_reducible refine LeO.ite ?_ ?_)
      | (with_reducible refine LeO.bind ?_ (fun _ => ?_))
      | exact ih0 _ _ _ _ _ _ _ _ _ _ _ _ _ _ _ _ _
      | exact ih1 _ _ _ _ _ _ _ _ _ _ _ _ _
      | exact ih2 _ _ _ _ _
      | exact impl_WithMark.mono _ _ _ _ _ _
      | exact laws_eqPiece.mono _ _ _ _ _ _ _
      | exact laws_heldPiece.mono _ _ _ _ _
      | exact laws_markPiece.mono _ _ _ _ _
      | exact laws_toPiece.mono _ _ _ _
      | exact spec_WithMark.mono _ _ _ _ _ _
      | exact LeO.none _
      | refine LeO.ite ?_ ?_
      | refine LeO.bind ?_ (fun _ => ?_)
    · intro y0 y1 y2 y3 y4 y5 y6 y7 y8 y9 y10 y11 y12
      unfold laws_FnExactWithMark.j1
      repeat' first
      | (with_reducible exact ih0 _ _ _ _ _ _ _ _ _ _ _ _ _ _ _ _ _)
      | (with_reducible exact ih1 _ _ _ _ _ _ _ _ _ _ _ _ _)
      | (with_reducible exact ih2 _ _ _ _ _)
      | (with_reducible exact impl_WithMark.mono _ _ _ _ _ _)
      | (with_reducible exact laws_eqPiece.mono _ _ _ _ _ _ _)
      | (with_reducible exact laws_heldPiece.mono _ _ _ _ _)
      | (with_reducible exact laws_markPiece.mono _ _ _ _ _)
      | (with_reducible exact laws_toPiece.mono _ _ _ _)
      | (with_reducible exact spec_WithMark.mono _ _ _ _ _ _)
      | (with_reducible exact LeO.refl _)
      | (with_reducible exact LeO.none _)
      | (with_reducible refine LeO.ite ?_ ?_)
      | (with_reducible refine LeO.bind ?_ (fun _ => ?_))
      | exact ih0 _ _ _ _ _ _ _ _ _ _ _ _ _ _ _ _ _
      | exact ih1 _ _ _ _ _ _ _ _ _ _ _ _ _
      | exact ih2 _ _ _ _ _
      | exact impl_WithMark.mono _ _ _ _ _ _
      | exact laws_eqPiece.mono _ _ _ _ _ _ _
      | exact laws_heldPiece.mono _ _ _ _ _
      | exact laws_markPiece.mono _ _ _ _ _
      | exact laws_toPiece.mono _ _ _ _
      | exact spec_WithMark.mono _ _ _ _ _ _
      | exact LeO.none _
      | refine LeO.ite ?_ ?_
      | refine LeO.bind ?_ (fun _ => ?_)
    · intro y0 y1 y2 y3 y4
      unfold laws_FnExactWithMark.j2
      repeat' first
      | (with_reducible exact ih0 _ _ _ _ _ _ _ _ _ _ _ _ _ _ _ _ _)
      | (with_reducible exact ih1 _ _ _ _ _ _ _ _ _ _ _ _ _)
      | (with_reducible exact ih2 _ _ _ _ _)
      | (with_reducible exact impl_WithMark.mono _ _ _ _ _ _)
      | (with_reducible exact laws_eqPiece.mono _ _ _ _ _ _ _)
      | (with_reducible exact laws_heldPiece.mono _ _ _ _ _)
      | (with_reducible exact laws_markPiece.mono _ _ _ _ _)
      | (with_reducible exact laws_toPiece.mono _ _ _ _)
      | (with_reducible exact spec_WithMark.mono _ _ _ _ _ _)
      | (with_reducible exact LeO.refl _)
      | (with_reducible exact LeO.none _)
      | (with_reducible refine LeO.ite ?_ ?_)
      | (with_reducible refine LeO.bind ?_ (fun _ => ?_))
      | exact ih0 _ _ _ _ _ _ _ _ _ _ _ _ _ _ _ _ _
      | exact ih1 _ _ _ _ _ _ _ _ _ _ _ _ _
      | exact ih2 _ _ _ _ _
      | exact impl_WithMark.mono _ _ _ _ _ _
      | exact laws_eqPiece.mono _ _ _ _ _ _ _
      | exact laws_heldPiece.mono _ _ _ _ _
      | exact laws_markPiece.mono _ _ _ _ _
      | exact laws_toPiece.mono _ _ _ _
      | exact spec_WithMark.mono _ _ _ _ _ _
      | exact LeO.none _
      | refine LeO.ite ?_ ?_
      | refine LeO.bind ?_ (fun _ => ?_)
theorem laws_FnExactWithMark.mono : ∀ a0 a1 a2 a3 a4 k, LeO (laws_FnExactWithMark.f k a0 a1 a2 a3 a4) (laws_FnExactWithMark.f (k + 1) a0 a1 a2 a3 a4) := by
  intro a0 a1 a2 a3 a4 k
  obtain ⟨ih0, ih1, ih2⟩ := laws_FnExactWithMark.mono_l k
  unfold laws_FnExactWithMark.f
  repeat' first
      | (with_reducible exact ih0 _ _ _ _ _ _ _ _ _ _ _ _ _ _ _ _ _)
      | (with_reducible exact ih1 _ _ _ _ _ _ _ _ _ _ _ _ _)
      | (with_reducible exact ih2 _ _ _ _ _)
      | (with_reducible exact impl_WithMark.mono _ _ _ _ _ _)
      | (with_reducible exact laws_eqPiece.mono _ _ _ _ _ _ _)
      | (with_reducible exact laws_heldPiece.mono _ _ _ _ _)
      | (with_reducible exact laws_markPiece.mono _ _ _ _ _)
      | (with_reducible exact laws_toPiece.mono _ _ _ _)
      | (with_reducible exact spec_WithMark.mono _ _ _ _ _ _)
      | (with_reducible exact LeO.refl _)
      | (with_reducible exact LeO.none _)
      | (with_reducible refine LeO.ite ?_ ?_)
      | (with_reducible refine LeO.bind ?_ (fun _ => ?_))
      | exact ih0 _ _ _ _ _ _ _ _ _ _ _ _ _ _ _ _ _
      | exact ih1 _ _ _ _ _ _ _ _ _ _ _ _ _
      | exact ih2 _ _ _ _ _
      | exact impl_WithMark.mono _ _ _ _ _ _
      | exact laws_eqPiece.mono _ _ _ _ _ _ _
      | exact laws_heldPiece.mono _ _ _ _ _
      | exact laws_markPiece.mono _ _ _ _ _
      | exact laws_toPiece.mono _ _ _ _
      | exact spec_WithMark.mono _ _ _ _ _ _
      | exact LeO.none _
      | refine LeO.ite ?_ ?_
      | refine LeO.bind ?_ (fun _ => ?_)
set_option maxHeartbeats 8000000 in
set_option maxRecDepth 100000 in
theorem laws_FnExactWithMark.calls (k : Nat) (A0_0 : Option Addr) (c0_0 : Nat) (l0_0 : List Int) (a0_1 : Int) (a0_2 : Int) (a1 : Int) (a2 : Bool) (r : Bool) (w : World) (hr0_0 : Kd.C (Kd.int .i64) w A0_0 l0_0.length l0_0) (hc0_0 : l0_0.length ≤ c0_0) (ht : r = true) (h : laws_FnExactWithMark.f k l0_0 a0_1 a0_2 a1 a2 = some r) :
    Calls Try.prog 4 #[.agg #[.slice A0_0 l0_0.length c0_0, .int .i64 a0_1, .int .i64 a0_2], .int .i64 a1, .bool a2] w fun e w' => e = .returned (.bool r) ∧ Below w.heap.size w w' := by
  have hu24 := Try.underlying24
  have hu27 := Try.underlying27
  have HR0_0 := Aside0.mk hr0_0
  have HC0_0 := Aside0.mk hc0_0
  clear hr0_0 hc0_0
  have HB := Aside0.mk (Below.refl w.heap.size w)
  have HT := Aside0.mk ht
  clear ht
  have H : ((laws_szPiece.f l0_0 a0_1 a0_2 1048576).bind fun t102 => (if t102 < 0 then (some true) else ((laws_toPiece.f k l0_0 a0_1 a0_2).bind fun bt103 => ((spec_WithMark.f k bt103.1 bt103.2.1 bt103.2.2 a1 a2).bind fun bt108 => ((laws_toPiece.f k l0_0 a0_1 a0_2).bind fun bt115 => ((impl_WithMark.f k bt115.1 bt115.2.1 bt115.2.2 a1 a2).bind fun bt121 => ((laws_eqPiece.f k bt121.1 bt121.2.1 bt121.2.2.1 bt108.1 bt108.2.1 bt108.2.2.1).bind fun t128 => (if t128 = true then (laws_FnExactWithMark.j0 k a1 a2 bt108.2.2.2 bt121.2.2.2 (bt121.2.2.2 != bt108.2.2.2) l0_0 a0_1 a0_2 bt108.1 bt108.2.1 bt108.2.2.1 bt115.1 bt115.2.1 bt115.2.2 bt121.1 bt121.2.1 bt121.2.2.1) else (laws_FnExactWithMark.j0 k a1 a2 bt108.2.2.2 bt121.2.2.2 true l0_0 a0_1 a0_2 bt108.1 bt108.2.1 bt108.2.2.1 bt115.1 bt115.2.1 bt115.2.2 bt121.1 bt121.2.1 bt121.2.2.1))))))))) = some r := h
  clear h
  replace H := Option.bind_eq_some_iff.mp H
  obtain ⟨t102, A40, H⟩ := H
  replace H : (if t102 < 0 then (some true) else ((laws_toPiece.f k l0_0 a0_1 a0_2).bind fun bt103 => ((spec_WithMark.f k bt103.1 bt103.2.1 bt103.2.2 a1 a2).bind fun bt108 => ((laws_toPiece.f k l0_0 a0_1 a0_2).bind fun bt115 => ((impl_WithMark.f k bt115.1 bt115.2.1 bt115.2.2 a1 a2).bind fun bt121 => ((laws_eqPiece.f k bt121.1 bt121.2.1 bt121.2.2.1 bt108.1 bt108.2.1 bt108.2.2.1).bind fun t128 => (if t128 = true then (laws_FnExactWithMark.j0 k a1 a2 bt108.2.2.2 bt121.2.2.2 (bt121.2.2.2 != bt108.2.2.2) l0_0 a0_1 a0_2 bt108.1 bt108.2.1 bt108.2.2.1 bt115.1 bt115.2.1 bt115.2.2 bt121.1 bt121.2.1 bt121.2.2.1) else (laws_FnExactWithMark.j0 k a1 a2 bt108.2.2.2 bt121.2.2.2 true l0_0 a0_1 a0_2 bt108.1 bt108.2.1 bt108.2.2.1 bt115.1 bt115.2.1 bt115.2.2 bt121.1 bt121.2.1 bt121.2.2.1)))))))) = some r := H
  have A4 := Aside0.mk A40
  clear A40
  by_cases c5 : t102 < 0
  · rw [if_pos c5] at H
    have c5b0 : decide (t102 < 0) = true := decide_eq_true c5
    clear c5
    as_aux_lemma =>
      obtain rfl := Option.some.inj H
      go_enter Try.func4, Try.ntmps4
      go_wp2_with (first | ((with_reducible refine gate_dst (N := 3) rfl ?_); refine box_event ?hg (N := 3) ?hd (cs := #[.slice A0_0 l0_0.length c0_0, .int .i64 a0_1, .int .i64 a0_2]) (t := 24) ?hr ?_; (case hd => rfl); (case hg => rfl); (case hr => first | (go_simp; done) | (go_simp; rfl)); intro gb101 hg w6 hbox hb; have n0_ := Aside0.mk (below_step (by exact eS HB.out) hb); have n1_ := Aside0.mk (hbox); have n2_ := Aside0.mk ((by rw [hg]; exact (below_size (by exact eS HB.out)) : w.heap.size ≤ gb101)); have n3_ := Aside0.mk ((by rw [hg]; exact (below_size (by exact eS HB.out)) : w.heap.size ≤ gb101)); clear HB; have HB := n0_; have BK101 := n1_; have GW101 := n2_; have GE101 := n3_; clear n0_ n1_ n2_ n3_; clear hb hbox hg; have hcz7_0 : w6.cell? ⟨gb101, 0, none⟩ = some (.slice A0_0 l0_0.length c0_0) := (blk_cell BK101.out 0).trans rfl; have hcz7_1 : w6.cell? ⟨gb101, 1, none⟩ = some (.int .i64 a0_1) := (blk_cell BK101.out 1).trans rfl; have hcz7_2 : w6.cell? ⟨gb101, 2, none⟩ = some (.int .i64 a0_2) := (blk_cell BK101.out 2).trans rfl; have hfz7_0 := blk_frozen BK101.out 0; have hfz7_1 := blk_frozen BK101.out 1; have hfz7_2 := blk_frozen BK101.out 2) | ((with_reducible refine gate_callee (f := 10) rfl ?_); refine goesL_ (some 20) rfl rfl Try.func10 (by kernel_rfl) rfl #[.agg #[.slice A0_0 l0_0.length c0_0, .int .i64 a0_1, .int .i64 a0_2], .int .i64 1048576] rfl (by (try simp only [List.map_toArray, List.map_cons, List.map_nil]); first | done | rfl | (simp only [List.length_drop, List.length_take]; rfl)) ?_; (with_reducible refine (laws_szPiece.calls _ _ l0_0 a0_1 a0_2 1048576 t102 _ ?side1 ?side2 A4.out).mono ?_); (case side1 => repeat (first | exact (Kd.C_below HR0_0.out HB.out) | (with_reducible refine Kd.C_alloc ?_ _) | (with_reducible refine Kd.C_drewN ?_ _) | (with_reducible refine Kd.C_drew ?_))); (case side2 => exact HC0_0.out); rintro e w8 ⟨rfl, hb⟩; refine ⟨_, rfl, ?_⟩; have n0_ := Aside0.mk (blk_below (bS BK101.out) hb); have n1_ := Aside0.mk (below_step (by exact eS HB.out) hb); clear BK101; clear HB; have BK101 := n0_; have HB := n1_; clear n0_ n1_; (try clear hb); (try clear hb2); (try clear hk); (try clear hi)))
      go_ret
      exact ⟨by first | rfl | (simp [errW_none, errW_some] <;> rfl) | (simp [*, errW_none, errW_some] <;> rfl), by exact eS HB.out⟩
  · rw [if_neg c5] at H
    have c5b0 : decide (t102 < 0) = false := decide_eq_false c5
    clear c5
    replace H := Option.bind_eq_some_iff.mp H
    obtain ⟨⟨t103, t106, t107⟩, A90, H⟩ := H
    replace H : ((spec_WithMark.f k t103 t106 t107 a1 a2).bind fun bt108 => ((laws_toPiece.f k l0_0 a0_1 a0_2).bind fun bt115 => ((impl_WithMark.f k bt115.1 bt115.2.1 bt115.2.2 a1 a2).bind fun bt121 => ((laws_eqPiece.f k bt121.1 bt121.2.1 bt121.2.2.1 bt108.1 bt108.2.1 bt108.2.2.1).bind fun t128 => (if t128 = true then (laws_FnExactWithMark.j0 k a1 a2 bt108.2.2.2 bt121.2.2.2 (bt121.2.2.2 != bt108.2.2.2) l0_0 a0_1 a0_2 bt108.1 bt108.2.1 bt108.2.2.1 bt115.1 bt115.2.1 bt115.2.2 bt121.1 bt121.2.1 bt121.2.2.1) else (laws_FnExactWithMark.j0 k a1 a2 bt108.2.2.2 bt121.2.2.2 true l0_0 a0_1 a0_2 bt108.1 bt108.2.1 bt108.2.2.1 bt115.1 bt115.2.1 bt115.2.2 bt121.1 bt121.2.1 bt121.2.2.1)))))) = some r := H
    have A9 := Aside0.mk A90
    clear A90
    replace H := Option.bind_eq_some_iff.mp H
    obtain ⟨⟨t108, t111, t112, t113⟩, A100, H⟩ := H
    replace H : ((laws_toPiece.f k l0_0 a0_1 a0_2).bind fun bt115 => ((impl_WithMark.f k bt115.1 bt115.2.1 bt115.2.2 a1 a2).bind fun bt121 => ((laws_eqPiece.f k bt121.1 bt121.2.1 bt121.2.2.1 t108 t111 t112).bind fun t128 => (if t128 = true then (laws_FnExactWithMark.j0 k a1 a2 t113 bt121.2.2.2 (bt121.2.2.2 != t113) l0_0 a0_1 a0_2 t108 t111 t112 bt115.1 bt115.2.1 bt115.2.2 bt121.1 bt121.2.1 bt121.2.2.1) else (laws_FnExactWithMark.j0 k a1 a2 t113 bt121.2.2.2 true l0_0 a0_1 a0_2 t108 t111 t112 bt115.1 bt115.2.1 bt115.2.2 bt121.1 bt121.2.1 bt121.2.2.1))))) = some r := H
    have A10 := Aside0.mk A100
    clear A100
    replace H := Option.bind_eq_some_iff.mp H
    obtain ⟨⟨t115, t118, t119⟩, A110, H⟩ := H
    replace H : ((impl_WithMark.f k t115 t118 t119 a1 a2).bind fun bt121 => ((laws_eqPiece.f k bt121.1 bt121.2.1 bt121.2.2.1 t108 t111 t112).bind fun t128 => (if t128 = true then (laws_FnExactWithMark.j0 k a1 a2 t113 bt121.2.2.2 (bt121.2.2.2 != t113) l0_0 a0_1 a0_2 t108 t111 t112 t115 t118 t119 bt121.1 bt121.2.1 bt121.2.2.1) else (laws_FnExactWithMark.j0 k a1 a2 t113 bt121.2.2.2 true l0_0 a0_1 a0_2 t108 t111 t112 t115 t118 t119 bt121.1 bt121.2.1 bt121.2.2.1)))) = some r := H
    have A11 := Aside0.mk A110
    clear A110
    replace H := Option.bind_eq_some_iff.mp H
    obtain ⟨⟨t121, t124, t125, t126⟩, A120, H⟩ := H
    replace H : ((laws_eqPiece.f k t121 t124 t125 t108 t111 t112).bind fun t128 => (if t128 = true then (laws_FnExactWithMark.j0 k a1 a2 t113 t126 (t126 != t113) l0_0 a0_1 a0_2 t108 t111 t112 t115 t118 t119 t121 t124 t125) else (laws_FnExactWithMark.j0 k a1 a2 t113 t126 true l0_0 a0_1 a0_2 t108 t111 t112 t115 t118 t119 t121 t124 t125))) = some r := H
    have A12 := Aside0.mk A120
    clear A120
    have HC13 := Aside0.mk H
    clear H
    go_enter Try.func4, Try.ntmps4
    go_upto_region 8 with (first | ((with_reducible refine gate_dst (N := 3) rfl ?_); refine box_event ?hg (N := 3) ?hd (cs := #[.slice A0_0 l0_0.length c0_0, .int .i64 a0_1, .int .i64 a0_2]) (t := 24) ?hr ?_; (case hd => rfl); (case hg => rfl); (case hr => first | (go_simp; done) | (go_simp; rfl)); intro gb101 hg w14 hbox hb; have n0_ := Aside0.mk (below_step (by exact eS HB.out) hb); have n1_ := Aside0.mk (hbox); have n2_ := Aside0.mk ((by rw [hg]; exact (below_size (by exact eS HB.out)) : w.heap.size ≤ gb101)); have n3_ := Aside0.mk ((by rw [hg]; exact (below_size (by exact eS HB.out)) : w.heap.size ≤ gb101)); clear HB; have HB := n0_; have BK101 := n1_; have GW101 := n2_; have GE101 := n3_; clear n0_ n1_ n2_ n3_; clear hb hbox hg; have hcz15_0 : w14.cell? ⟨gb101, 0, none⟩ = some (.slice A0_0 l0_0.length c0_0) := (blk_cell BK101.out 0).trans rfl; have hcz15_1 : w14.cell? ⟨gb101, 1, none⟩ = some (.int .i64 a0_1) := (blk_cell BK101.out 1).trans rfl; have hcz15_2 : w14.cell? ⟨gb101, 2, none⟩ = some (.int .i64 a0_2) := (blk_cell BK101.out 2).trans rfl; have hfz15_0 := blk_frozen BK101.out 0; have hfz15_1 := blk_frozen BK101.out 1; have hfz15_2 := blk_frozen BK101.out 2) | ((with_reducible refine gate_callee (f := 10) rfl ?_); refine goesL_ (some 20) rfl rfl Try.func10 (by kernel_rfl) rfl #[.agg #[.slice A0_0 l0_0.length c0_0, .int .i64 a0_1, .int .i64 a0_2], .int .i64 1048576] rfl (by (try simp only [List.map_toArray, List.map_cons, List.map_nil]); first | done | rfl | (simp only [List.length_drop, List.length_take]; rfl)) ?_; (with_reducible refine (laws_szPiece.calls _ _ l0_0 a0_1 a0_2 1048576 t102 _ ?side1 ?side2 A4.out).mono ?_); (case side1 => repeat (first | exact (Kd.C_below HR0_0.out HB.out) | (with_reducible refine Kd.C_alloc ?_ _) | (with_reducible refine Kd.C_drewN ?_ _) | (with_reducible refine Kd.C_drew ?_))); (case side2 => exact HC0_0.out); rintro e w16 ⟨rfl, hb⟩; refine ⟨_, rfl, ?_⟩; have n0_ := Aside0.mk (blk_below (bS BK101.out) hb); have n1_ := Aside0.mk (below_step (by exact eS HB.out) hb); clear BK101; clear HB; have BK101 := n0_; have HB := n1_; clear n0_ n1_; (try clear hb); (try clear hb2); (try clear hk); (try clear hi); have hcz17_0 : w16.cell? ⟨gb101, 0, none⟩ = some (.slice A0_0 l0_0.length c0_0) := (blk_cell BK101.out 0).trans rfl; have hcz17_1 : w16.cell? ⟨gb101, 1, none⟩ = some (.int .i64 a0_1) := (blk_cell BK101.out 1).trans rfl; have hcz17_2 : w16.cell? ⟨gb101, 2, none⟩ = some (.int .i64 a0_2) := (blk_cell BK101.out 2).trans rfl; have hfz17_0 := blk_frozen BK101.out 0; have hfz17_1 := blk_frozen BK101.out 1; have hfz17_2 := blk_frozen BK101.out 2) | ((with_reducible refine gate_callee (f := 12) rfl ?_); refine goesL_ (some 25) rfl rfl Try.func12 (by kernel_rfl) rfl #[.agg #[.slice A0_0 l0_0.length c0_0, .int .i64 a0_1, .int .i64 a0_2]] rfl (by (try simp only [List.map_toArray, List.map_cons, List.map_nil]); first | done | rfl | (simp only [List.length_drop, List.length_take]; rfl)) ?_; (with_reducible refine (laws_toPiece.calls k _ _ l0_0 a0_1 a0_2 t103 t106 t107 _ ?side1 ?side2 A9.out).mono ?_); (case side1 => repeat (first | exact (Kd.C_below HR0_0.out HB.out) | (with_reducible refine Kd.C_alloc ?_ _) | (with_reducible refine Kd.C_drewN ?_ _) | (with_reducible refine Kd.C_drew ?_))); (case side2 => exact HC0_0.out); rintro e w18 ⟨v104, rfl, ho0, hb⟩; refine ⟨_, rfl, ?_⟩; have n0_ := Aside0.mk (Kd.R_lower ho0 (below_size (by exact eS HB.out))); have n1_ := Aside0.mk (blk_below (bS BK101.out) hb); have n2_ := Aside0.mk (below_step (by exact eS HB.out) hb); clear BK101; clear HB; have HO105 := n0_; have BK101 := n1_; have HB := n2_; clear n0_ n1_ n2_; (try clear hb); (try clear hb2); (try clear hk); (try clear hi); (try clear ho0); obtain ⟨Ao19, co19, eo19⟩ := Kd.R_slice HO105.out; subst eo19) | ((with_reducible refine gate_callee (f := 15) rfl ?_); refine goesL_ (some 28) rfl rfl Try.func15 (by kernel_rfl) rfl #[.agg #[.slice Ao19 t103.length co19, .int .i64 t106, .int .i64 t107], .int .i64 a1, .bool a2] rfl (by (try simp only [List.map_toArray, List.map_cons, List.map_nil]); first | done | rfl | (simp only [List.length_drop, List.length_take]; rfl)) ?_; (with_reducible refine (spec_WithMark.calls k _ _ t103 t106 t107 a1 a2 t108 t111 t112 t113 _ ?side1 ?side2 A10.out).mono ?_); (case side1 => repeat (first | exact (Kd.R_reads' HO105.out).2.2 | (with_reducible refine Kd.C_alloc ?_ _) | (with_reducible refine Kd.C_drewN ?_ _) | (with_reducible refine Kd.C_drew ?_))); (case side2 => exact (Kd.R_reads' HO105.out).2.1); rintro e w20 ⟨v109, rfl, ho0, hb⟩; refine ⟨_, rfl, ?_⟩; have n0_ := Aside0.mk (Kd.R_elder' (by exact Ho.RS <| HO105.out) (Kd.R_base ho0) hb); have n1_ := Aside0.mk (Kd.R_lower (Kd.R_new' ho0 (Kd.R_lt (by exact Ho.RS <| HO105.out))) (below_size (by exact eS HB.out))); have n2_ := Aside0.mk (blk_below (bS BK101.out) hb); have n3_ := Aside0.mk (below_step (by exact eS HB.out) hb); clear HO105; clear BK101; clear HB; have HO105 := n0_; have HO110 := n1_; have BK101 := n2_; have HB := n3_; clear n0_ n1_ n2_ n3_; (try clear hb); (try clear hb2); (try clear hk); (try clear hi); (try clear ho0)) | ((with_reducible refine gate_dst (N := 8) rfl ?_); refine box_event ?hg (N := 8) ?hd (cs := #[.slice none 0 0, .int .i64 0, .int .i64 0]) (t := 27) ?hr ?_; (case hd => rfl); (case hg => rfl); (case hr => first | (go_simp; done) | (go_simp; rfl)); intro gb114 hg w21 hbox hb; have n0_ := Aside0.mk (Kd.R_below (by exact Ho.RS <| HO105.out) hb); have n1_ := Aside0.mk (Kd.R_below (by exact Ho.RS <| HO110.out) hb); have n2_ := Aside0.mk (blk_below (bS BK101.out) hb); have n3_ := Aside0.mk (below_step (by exact eS HB.out) hb); have n4_ := Aside0.mk (hbox); have n5_ := Aside0.mk ((by rw [hg]; exact (below_size (by exact eS HB.out)) : w.heap.size ≤ gb114)); have n6_ := Aside0.mk ((by rw [hg]; exact (below_size (by exact eS HB.out)) : w.heap.size ≤ gb114)); have n7_ := Aside0.mk ((by rw [hg]; exact Nat.ne_of_lt (blk_lt (bS BK101.out)) : gb101 ≠ gb114)); have n8_ := Aside0.mk ((by rw [hg]; exact Nat.ne_of_gt (blk_lt (bS BK101.out)) : gb114 ≠ gb101)); clear HO105; clear HO110; clear BK101; clear HB; have HO105 := n0_; have HO110 := n1_; have BK101 := n2_; have HB := n3_; have BK114 := n4_; have GW114 := n5_; have GE114 := n6_; have NB101_114 := n7_; have NB114_101 := n8_; clear n0_ n1_ n2_ n3_ n4_ n5_ n6_ n7_ n8_; clear hb hbox hg; obtain ⟨Ao22, co22, eo22⟩ := Kd.R_slice HO110.out; subst eo22; have hnb23 := NB114_101.out; have hnc23 := NB101_114.out; have hcz24_0 : w21.cell? ⟨gb114, 0, none⟩ = some (.slice none 0 0) := (blk_cell BK114.out 0).trans rfl; have hcz24_1 : w21.cell? ⟨gb114, 1, none⟩ = some (.int .i64 0) := (blk_cell BK114.out 1).trans rfl; have hcz24_2 : w21.cell? ⟨gb114, 2, none⟩ = some (.int .i64 0) := (blk_cell BK114.out 2).trans rfl; have hfz24_0 := blk_frozen BK114.out 0; have hfz24_1 := blk_frozen BK114.out 1; have hfz24_2 := blk_frozen BK114.out 2; have hcz25_0 : w21.cell? ⟨gb101, 0, none⟩ = some (.slice A0_0 l0_0.length c0_0) := (blk_cell BK101.out 0).trans rfl; have hcz25_1 : w21.cell? ⟨gb101, 1, none⟩ = some (.int .i64 a0_1) := (blk_cell BK101.out 1).trans rfl; have hcz25_2 : w21.cell? ⟨gb101, 2, none⟩ = some (.int .i64 a0_2) := (blk_cell BK101.out 2).trans rfl; have hfz25_0 := blk_frozen BK101.out 0; have hfz25_1 := blk_frozen BK101.out 1; have hfz25_2 := blk_frozen BK101.out 2) | ((with_reducible refine gate_callee (f := 12) rfl ?_); refine goesL_ (some 32) rfl rfl Try.func12 (by kernel_rfl) rfl #[.agg #[.slice A0_0 l0_0.length c0_0, .int .i64 a0_1, .int .i64 a0_2]] rfl (by (try simp only [List.map_toArray, List.map_cons, List.map_nil]); first | done | rfl | (simp only [List.length_drop, List.length_take]; rfl)) ?_; (with_reducible refine (laws_toPiece.calls k _ _ l0_0 a0_1 a0_2 t115 t118 t119 _ ?side1 ?side2 A11.out).mono ?_); (case side1 => exact Kd.C_below HR0_0.out (by repeat (first | (with_reducible first | exact HB.out | apply below_alloc | apply pw_below_drewN | apply below_drew1 | refine below_set ?_ GE101.out | refine below_set ?_ GE114.out) | exact HB.out))); (case side2 => exact HC0_0.out); rintro e w26 ⟨v116, rfl, ho0, hb⟩; refine ⟨_, rfl, ?_⟩; have n0_ := Aside0.mk (Kd.R_elder' (by exact Ho.RS <| (Kd.R_mono (Kd.R_far (p := ⟨gb114, 2, none⟩) (Kd.R_far (p := ⟨gb114, 1, none⟩) (Kd.R_far (p := ⟨gb114, 0, none⟩) (Kd.R_types HO105.out BK114.out (by decide)) (fun _ hk => hk.2) (.slice Ao22 t108.length co22)) (fun _ hk => hk.2) (.int .i64 t111)) (fun _ hk => hk.2) (.int .i64 t112)) (fun _ h_ => h_.1))) (Kd.R_base ho0) hb); have n1_ := Aside0.mk (Kd.R_elder' (by exact Ho.RS <| (Kd.R_mono (Kd.R_far (p := ⟨gb114, 2, none⟩) (Kd.R_far (p := ⟨gb114, 1, none⟩) (Kd.R_far (p := ⟨gb114, 0, none⟩) (Kd.R_types HO110.out BK114.out (by decide)) (fun _ hk => hk.2) (.slice Ao22 t108.length co22)) (fun _ hk => hk.2) (.int .i64 t111)) (fun _ hk => hk.2) (.int .i64 t112)) (fun _ h_ => h_.1))) (Kd.R_base ho0) hb); have n2_ := Aside0.mk (Kd.R_lower (Kd.R_new' (Kd.R_new' ho0 (Kd.R_lt (by exact Ho.RS <| (Kd.R_mono (Kd.R_far (p := ⟨gb114, 2, none⟩) (Kd.R_far (p := ⟨gb114, 1, none⟩) (Kd.R_far (p := ⟨gb114, 0, none⟩) (Kd.R_types HO105.out BK114.out (by decide)) (fun _ hk => hk.2) (.slice Ao22 t108.length co22)) (fun _ hk => hk.2) (.int .i64 t111)) (fun _ hk => hk.2) (.int .i64 t112)) (fun _ h_ => h_.1))))) (Kd.R_lt (by exact Ho.RS <| (Kd.R_mono (Kd.R_far (p := ⟨gb114, 2, none⟩) (Kd.R_far (p := ⟨gb114, 1, none⟩) (Kd.R_far (p := ⟨gb114, 0, none⟩) (Kd.R_types HO110.out BK114.out (by decide)) (fun _ hk => hk.2) (.slice Ao22 t108.length co22)) (fun _ hk => hk.2) (.int .i64 t111)) (fun _ hk => hk.2) (.int .i64 t112)) (fun _ h_ => h_.1))))) (below_size (by repeat (first | (with_reducible first | exact HB.out | apply below_alloc | apply pw_below_drewN | apply below_drew1 | refine below_set ?_ GE101.out | refine below_set ?_ GE114.out) | exact HB.out)))); have n3_ := Aside0.mk (blk_below (g := gb101) (o := .cells #[.slice A0_0 l0_0.length c0_0, .int .i64 a0_1, .int .i64 a0_2] 24 (0, 0)) (by (with_reducible repeat (first | refine blk_drewN ?_ _ | refine blk_drew ?_ | refine blk_alloc ?_ _)); refine blk_far ?_ NB101_114.out _; (with_reducible repeat (first | refine blk_drewN ?_ _ | refine blk_drew ?_ | refine blk_alloc ?_ _)); refine blk_far ?_ NB101_114.out _; (with_reducible repeat (first | refine blk_drewN ?_ _ | refine blk_drew ?_ | refine blk_alloc ?_ _)); refine blk_far ?_ NB101_114.out _; exact bS BK101.out) hb); have n4_ := Aside0.mk (blk_below (g := gb114) (o := .cells #[.slice Ao22 t108.length co22, .int .i64 t111, .int .i64 t112] 27 (0, 0)) (by (with_reducible repeat (first | refine blk_drewN ?_ _ | refine blk_drew ?_ | refine blk_alloc ?_ _)); refine blk_put (cs := #[.slice Ao22 t108.length co22, .int .i64 t111, .int .i64 0]) ?_ 2 _ rfl; (with_reducible repeat (first | refine blk_drewN ?_ _ | refine blk_drew ?_ | refine blk_alloc ?_ _)); refine blk_put (cs := #[.slice Ao22 t108.length co22, .int .i64 0, .int .i64 0]) ?_ 1 _ rfl; (with_reducible repeat (first | refine blk_drewN ?_ _ | refine blk_drew ?_ | refine blk_alloc ?_ _)); refine blk_put (cs := #[.slice none 0 0, .int .i64 0, .int .i64 0]) ?_ 0 _ rfl; exact bS BK114.out) hb); have n5_ := Aside0.mk (below_step (by repeat (first | (with_reducible first | exact HB.out | apply below_alloc | apply pw_below_drewN | apply below_drew1 | refine below_set ?_ GE101.out | refine below_set ?_ GE114.out) | exact HB.out)) hb); clear HO105; clear HO110; clear BK101; clear BK114; clear HB; have HO105 := n0_; have HO110 := n1_; have HO117 := n2_; have BK101 := n3_; have BK114 := n4_; have HB := n5_; clear n0_ n1_ n2_ n3_ n4_ n5_; (try clear hb); (try clear hb2); (try clear hk); (try clear hi); (try clear ho0)) | ((with_reducible refine gate_dst (N := 10) rfl ?_); refine box_event ?hg (N := 10) ?hd (cs := #[.slice none 0 0, .int .i64 0, .int .i64 0]) (t := 27) ?hr ?_; (case hd => rfl); (case hg => rfl); (case hr => first | (go_simp; done) | (go_simp; rfl)); intro gb120 hg w27 hbox hb; have n0_ := Aside0.mk (Kd.R_below (by exact Ho.RS <| HO105.out) hb); have n1_ := Aside0.mk (Kd.R_below (by exact Ho.RS <| HO110.out) hb); have n2_ := Aside0.mk (Kd.R_below (by exact Ho.RS <| HO117.out) hb); have n3_ := Aside0.mk (blk_below (bS BK101.out) hb); have n4_ := Aside0.mk (blk_below (bS BK114.out) hb); have n5_ := Aside0.mk (below_step (by exact eS HB.out) hb); have n6_ := Aside0.mk (hbox); have n7_ := Aside0.mk ((by rw [hg]; exact (below_size (by exact eS HB.out)) : w.heap.size ≤ gb120)); have n8_ := Aside0.mk ((by rw [hg]; exact (below_size (by exact eS HB.out)) : w.heap.size ≤ gb120)); have n9_ := Aside0.mk ((by rw [hg]; exact Nat.ne_of_lt (blk_lt (bS BK101.out)) : gb101 ≠ gb120)); have n10_ := Aside0.mk ((by rw [hg]; exact Nat.ne_of_gt (blk_lt (bS BK101.out)) : gb120 ≠ gb101)); have n11_ := Aside0.mk ((by rw [hg]; exact Nat.ne_of_lt (blk_lt (bS BK114.out)) : gb114 ≠ gb120)); have n12_ := Aside0.mk ((by rw [hg]; exact Nat.ne_of_gt (blk_lt (bS BK114.out)) : gb120 ≠ gb114)); clear HO105; clear HO110; clear HO117; clear BK101; clear BK114; clear HB; have HO105 := n0_; have HO110 := n1_; have HO117 := n2_; have BK101 := n3_; have BK114 := n4_; have HB := n5_; have BK120 := n6_; have GW120 := n7_; have GE120 := n8_; have NB101_120 := n9_; have NB120_101 := n10_; have NB114_120 := n11_; have NB120_114 := n12_; clear n0_ n1_ n2_ n3_ n4_ n5_ n6_ n7_ n8_ n9_ n10_ n11_ n12_; clear hb hbox hg; obtain ⟨Ao28, co28, eo28⟩ := Kd.R_slice HO117.out; subst eo28; have hnb29 := NB120_101.out; have hnc29 := NB101_120.out; have hnb30 := NB120_114.out; have hnc30 := NB114_120.out; have hcz31_0 : w27.cell? ⟨gb120, 0, none⟩ = some (.slice none 0 0) := (blk_cell BK120.out 0).trans rfl; have hcz31_1 : w27.cell? ⟨gb120, 1, none⟩ = some (.int .i64 0) := (blk_cell BK120.out 1).trans rfl; have hcz31_2 : w27.cell? ⟨gb120, 2, none⟩ = some (.int .i64 0) := (blk_cell BK120.out 2).trans rfl; have hfz31_0 := blk_frozen BK120.out 0; have hfz31_1 := blk_frozen BK120.out 1; have hfz31_2 := blk_frozen BK120.out 2) | ((with_reducible refine gate_callee (f := 16) rfl ?_); refine goesL_ (some 37) rfl rfl Try.func16 (by kernel_rfl) rfl #[.agg #[.slice Ao28 t115.length co28, .int .i64 t118, .int .i64 t119], .int .i64 a1, .bool a2] rfl (by (try simp only [List.map_toArray, List.map_cons, List.map_nil]); first | done | rfl | (simp only [List.length_drop, List.length_take]; rfl)) ?_; (with_reducible refine (impl_WithMark.calls k _ _ t115 t118 t119 a1 a2 t121 t124 t125 t126 _ ?side1 ?side2 A12.out).mono ?_); (case side1 => refine (Kd.R_reads' (e := 3) (base := w.heap.size) (ok := fun k_ => ((True ∧ some k_ ≠ (.slice Ao19 t103.length co19 : Value).ownBlock) ∧ some k_ ≠ (.slice Ao22 t108.length co22 : Value).ownBlock)) (n := t115.length) (c := co28) ?_).2.2; exact (by exact Ho.RS <| (Kd.R_mono (Kd.R_far (p := ⟨gb120, 2, none⟩) (Kd.R_far (p := ⟨gb120, 1, none⟩) (Kd.R_far (p := ⟨gb120, 0, none⟩) (Kd.R_types HO117.out BK120.out (by decide)) (fun _ hk => hk.2) (.slice Ao28 t115.length co28)) (fun _ hk => hk.2) (.int .i64 t118)) (fun _ hk => hk.2) (.int .i64 t119)) (fun _ h_ => h_.1)))); (case side2 => exact (Kd.R_reads' HO117.out).2.1); rintro e w32 ⟨v122, rfl, ho0, hb⟩; refine ⟨_, rfl, ?_⟩; have n0_ := Aside0.mk (Kd.R_elder' (by exact Ho.RS <| (Kd.R_mono (Kd.R_far (p := ⟨gb120, 2, none⟩) (Kd.R_far (p := ⟨gb120, 1, none⟩) (Kd.R_far (p := ⟨gb120, 0, none⟩) (Kd.R_types HO105.out BK120.out (by decide)) (fun _ hk => hk.2) (.slice Ao28 t115.length co28)) (fun _ hk => hk.2) (.int .i64 t118)) (fun _ hk => hk.2) (.int .i64 t119)) (fun _ h_ => h_.1))) (Kd.R_base ho0) hb); have n1_ := Aside0.mk (Kd.R_elder' (by exact Ho.RS <| (Kd.R_mono (Kd.R_far (p := ⟨gb120, 2, none⟩) (Kd.R_far (p := ⟨gb120, 1, none⟩) (Kd.R_far (p := ⟨gb120, 0, none⟩) (Kd.R_types HO110.out BK120.out (by decide)) (fun _ hk => hk.2) (.slice Ao28 t115.length co28)) (fun _ hk => hk.2) (.int .i64 t118)) (fun _ hk => hk.2) (.int .i64 t119)) (fun _ h_ => h_.1))) (Kd.R_base ho0) hb); have n2_ := Aside0.mk (Kd.R_elder' (by exact Ho.RS <| (Kd.R_mono (Kd.R_far (p := ⟨gb120, 2, none⟩) (Kd.R_far (p := ⟨gb120, 1, none⟩) (Kd.R_far (p := ⟨gb120, 0, none⟩) (Kd.R_types HO117.out BK120.out (by decide)) (fun _ hk => hk.2) (.slice Ao28 t115.length co28)) (fun _ hk => hk.2) (.int .i64 t118)) (fun _ hk => hk.2) (.int .i64 t119)) (fun _ h_ => h_.1))) (Kd.R_base ho0) hb); have n3_ := Aside0.mk (Kd.R_lower (Kd.R_new' (Kd.R_new' (Kd.R_new' ho0 (Kd.R_lt (by exact Ho.RS <| (Kd.R_mono (Kd.R_far (p := ⟨gb120, 2, none⟩) (Kd.R_far (p := ⟨gb120, 1, none⟩) (Kd.R_far (p := ⟨gb120, 0, none⟩) (Kd.R_types HO105.out BK120.out (by decide)) (fun _ hk => hk.2) (.slice Ao28 t115.length co28)) (fun _ hk => hk.2) (.int .i64 t118)) (fun _ hk => hk.2) (.int .i64 t119)) (fun _ h_ => h_.1))))) (Kd.R_lt (by exact Ho.RS <| (Kd.R_mono (Kd.R_far (p := ⟨gb120, 2, none⟩) (Kd.R_far (p := ⟨gb120, 1, none⟩) (Kd.R_far (p := ⟨gb120, 0, none⟩) (Kd.R_types HO110.out BK120.out (by decide)) (fun _ hk => hk.2) (.slice Ao28 t115.length co28)) (fun _ hk => hk.2) (.int .i64 t118)) (fun _ hk => hk.2) (.int .i64 t119)) (fun _ h_ => h_.1))))) (Kd.R_lt (by exact Ho.RS <| (Kd.R_mono (Kd.R_far (p := ⟨gb120, 2, none⟩) (Kd.R_far (p := ⟨gb120, 1, none⟩) (Kd.R_far (p := ⟨gb120, 0, none⟩) (Kd.R_types HO117.out BK120.out (by decide)) (fun _ hk => hk.2) (.slice Ao28 t115.length co28)) (fun _ hk => hk.2) (.int .i64 t118)) (fun _ hk => hk.2) (.int .i64 t119)) (fun _ h_ => h_.1))))) (below_size (by repeat (first | (with_reducible first | exact HB.out | apply below_alloc | apply pw_below_drewN | apply below_drew1 | refine below_set ?_ GE101.out | refine below_set ?_ GE114.out | refine below_set ?_ GE120.out) | exact HB.out)))); have n4_ := Aside0.mk (blk_below (g := gb101) (o := .cells #[.slice A0_0 l0_0.length c0_0, .int .i64 a0_1, .int .i64 a0_2] 24 (0, 0)) (by (with_reducible repeat (first | refine blk_drewN ?_ _ | refine blk_drew ?_ | refine blk_alloc ?_ _)); refine blk_far ?_ NB101_120.out _; (with_reducible repeat (first | refine blk_drewN ?_ _ | refine blk_drew ?_ | refine blk_alloc ?_ _)); refine blk_far ?_ NB101_120.out _; (with_reducible repeat (first | refine blk_drewN ?_ _ | refine blk_drew ?_ | refine blk_alloc ?_ _)); refine blk_far ?_ NB101_120.out _; exact bS BK101.out) hb); have n5_ := Aside0.mk (blk_below (g := gb114) (o := .cells #[.slice Ao22 t108.length co22, .int .i64 t111, .int .i64 t112] 27 (0, 0)) (by (with_reducible repeat (first | refine blk_drewN ?_ _ | refine blk_drew ?_ | refine blk_alloc ?_ _)); refine blk_far ?_ NB114_120.out _; (with_reducible repeat (first | refine blk_drewN ?_ _ | refine blk_drew ?_ | refine blk_alloc ?_ _)); refine blk_far ?_ NB114_120.out _; (with_reducible repeat (first | refine blk_drewN ?_ _ | refine blk_drew ?_ | refine blk_alloc ?_ _)); refine blk_far ?_ NB114_120.out _; exact bS BK114.out) hb); have n6_ := Aside0.mk (blk_below (g := gb120) (o := .cells #[.slice Ao28 t115.length co28, .int .i64 t118, .int .i64 t119] 27 (0, 0)) (by (with_reducible repeat (first | refine blk_drewN ?_ _ | refine blk_drew ?_ | refine blk_alloc ?_ _)); refine blk_put (cs := #[.slice Ao28 t115.length co28, .int .i64 t118, .int .i64 0]) ?_ 2 _ rfl; (with_reducible repeat (first | refine blk_drewN ?_ _ | refine blk_drew ?_ | refine blk_alloc ?_ _)); refine blk_put (cs := #[.slice Ao28 t115.length co28, .int .i64 0, .int .i64 0]) ?_ 1 _ rfl; (with_reducible repeat (first | refine blk_drewN ?_ _ | refine blk_drew ?_ | refine blk_alloc ?_ _)); refine blk_put (cs := #[.slice none 0 0, .int .i64 0, .int .i64 0]) ?_ 0 _ rfl; exact bS BK120.out) hb); have n7_ := Aside0.mk (below_step (by repeat (first | (with_reducible first | exact HB.out | apply below_alloc | apply pw_below_drewN | apply below_drew1 | refine below_set ?_ GE101.out | refine below_set ?_ GE114.out | refine below_set ?_ GE120.out) | exact HB.out)) hb); clear HO105; clear HO110; clear HO117; clear BK101; clear BK114; clear BK120; clear HB; have HO105 := n0_; have HO110 := n1_; have HO117 := n2_; have HO123 := n3_; have BK101 := n4_; have BK114 := n5_; have BK120 := n6_; have HB := n7_; clear n0_ n1_ n2_ n3_ n4_ n5_ n6_ n7_; (try clear hb); (try clear hb2); (try clear hk); (try clear hi); (try clear ho0)) | ((with_reducible refine gate_dst (N := 11) rfl ?_); refine box_event ?hg (N := 11) ?hd (cs := #[.slice none 0 0, .int .i64 0, .int .i64 0]) (t := 27) ?hr ?_; (case hd => rfl); (case hg => rfl); (case hr => first | (go_simp; done) | (go_simp; rfl)); intro gb127 hg w33 hbox hb; have n0_ := Aside0.mk (Kd.R_below (by exact Ho.RS <| HO105.out) hb); have n1_ := Aside0.mk (Kd.R_below (by exact Ho.RS <| HO110.out) hb); have n2_ := Aside0.mk (Kd.R_below (by exact Ho.RS <| HO117.out) hb); have n3_ := Aside0.mk (Kd.R_below (by exact Ho.RS <| HO123.out) hb); have n4_ := Aside0.mk (blk_below (bS BK101.out) hb); have n5_ := Aside0.mk (blk_below (bS BK114.out) hb); have n6_ := Aside0.mk (blk_below (bS BK120.out) hb); have n7_ := Aside0.mk (below_step (by exact eS HB.out) hb); have n8_ := Aside0.mk (hbox); have n9_ := Aside0.mk ((by rw [hg]; exact (below_size (by exact eS HB.out)) : w.heap.size ≤ gb127)); have n10_ := Aside0.mk ((by rw [hg]; exact (below_size (by exact eS HB.out)) : w.heap.size ≤ gb127)); have n11_ := Aside0.mk ((by rw [hg]; exact Nat.ne_of_lt (blk_lt (bS BK101.out)) : gb101 ≠ gb127)); have n12_ := Aside0.mk ((by rw [hg]; exact Nat.ne_of_gt (blk_lt (bS BK101.out)) : gb127 ≠ gb101)); have n13_ := Aside0.mk ((by rw [hg]; exact Nat.ne_of_lt (blk_lt (bS BK114.out)) : gb114 ≠ gb127)); have n14_ := Aside0.mk ((by rw [hg]; exact Nat.ne_of_gt (blk_lt (bS BK114.out)) : gb127 ≠ gb114)); have n15_ := Aside0.mk ((by rw [hg]; exact Nat.ne_of_lt (blk_lt (bS BK120.out)) : gb120 ≠ gb127)); have n16_ := Aside0.mk ((by rw [hg]; exact Nat.ne_of_gt (blk_lt (bS BK120.out)) : gb127 ≠ gb120)); clear HO105; clear HO110; clear HO117; clear HO123; clear BK101; clear BK114; clear BK120; clear HB; have HO105 := n0_; have HO110 := n1_; have HO117 := n2_; have HO123 := n3_; have BK101 := n4_; have BK114 := n5_; have BK120 := n6_; have HB := n7_; have BK127 := n8_; have GW127 := n9_; have GE127 := n10_; have NB101_127 := n11_; have NB127_101 := n12_; have NB114_127 := n13_; have NB127_114 := n14_; have NB120_127 := n15_; have NB127_120 := n16_; clear n0_ n1_ n2_ n3_ n4_ n5_ n6_ n7_ n8_ n9_ n10_ n11_ n12_ n13_ n14_ n15_ n16_; clear hb hbox hg; obtain ⟨Ao34, co34, eo34⟩ := Kd.R_slice HO123.out; subst eo34; have hnb35 := NB127_101.out; have hnc35 := NB101_127.out; have hnb36 := NB127_114.out; have hnc36 := NB114_127.out; have hnb37 := NB127_120.out; have hnc37 := NB120_127.out; have hcz38_0 : w33.cell? ⟨gb127, 0, none⟩ = some (.slice none 0 0) := (blk_cell BK127.out 0).trans rfl; have hcz38_1 : w33.cell? ⟨gb127, 1, none⟩ = some (.int .i64 0) := (blk_cell BK127.out 1).trans rfl; have hcz38_2 : w33.cell? ⟨gb127, 2, none⟩ = some (.int .i64 0) := (blk_cell BK127.out 2).trans rfl; have hfz38_0 := blk_frozen BK127.out 0; have hfz38_1 := blk_frozen BK127.out 1; have hfz38_2 := blk_frozen BK127.out 2))
    (try simp only [Act.put, List.setIfInBounds_toArray, List.set_cons_zero, List.set_cons_succ])
    go_cut [48] (fun v48 wc => ∃ (kq : Nat) (x48_12 : Bool), v48 = .bool x48_12 ∧ Aside0 (laws_FnExactWithMark.j0 kq a1 a2 t113 t126 x48_12 l0_0 a0_1 a0_2 t108 t111 t112 t115 t118 t119 t121 t124 t125 = some r) ∧ Aside0 (kq ≤ k) ∧ Aside0 (Kd.R (Kd.int .i64) 3 wc w.heap.size (fun k_ => some k_ ≠ ((.slice Ao28 t115.length co28) : Value).ownBlock ∧ some k_ ≠ ((.slice Ao34 t121.length co34) : Value).ownBlock) (.slice Ao22 t108.length co22) t108) ∧ Aside0 (Kd.R (Kd.int .i64) 3 wc w.heap.size (fun k_ => some k_ ≠ ((.slice Ao22 t108.length co22) : Value).ownBlock ∧ some k_ ≠ ((.slice Ao34 t121.length co34) : Value).ownBlock) (.slice Ao28 t115.length co28) t115) ∧ Aside0 (Kd.R (Kd.int .i64) 3 wc w.heap.size (fun k_ => some k_ ≠ ((.slice Ao22 t108.length co22) : Value).ownBlock ∧ some k_ ≠ ((.slice Ao28 t115.length co28) : Value).ownBlock) (.slice Ao34 t121.length co34) t121) ∧ Aside0 (wc.heap[gb101]? = some (.cells #[(.slice A0_0 l0_0.length c0_0), .int .i64 a0_1, .int .i64 a0_2] 24 (0, 0))) ∧ Aside0 (wc.heap[gb114]? = some (.cells #[(.slice Ao22 t108.length co22), .int .i64 t111, .int .i64 t112] 27 (0, 0))) ∧ Aside0 (wc.heap[gb120]? = some (.cells #[(.slice Ao28 t115.length co28), .int .i64 t118, .int .i64 t119] 27 (0, 0))) ∧ Aside0 (wc.heap[gb127]? = some (.cells #[(.slice Ao34 t121.length co34), .int .i64 t124, .int .i64 t125] 27 (0, 0))) ∧ Aside0 (Below w.heap.size w wc))
    case first =>
      have H := HC13.out
      clear HC13
      replace H := Option.bind_eq_some_iff.mp H
      obtain ⟨t128, A390, H⟩ := H
      replace H : (if t128 = true then (laws_FnExactWithMark.j0 k a1 a2 t113 t126 (t126 != t113) l0_0 a0_1 a0_2 t108 t111 t112 t115 t118 t119 t121 t124 t125) else (laws_FnExactWithMark.j0 k a1 a2 t113 t126 true l0_0 a0_1 a0_2 t108 t111 t112 t115 t118 t119 t121 t124 t125)) = some r := H
      have A39 := Aside0.mk A390
      clear A390
      by_cases c40 : t128 = true
      · subst c40
        have H1 : (laws_FnExactWithMark.j0 k a1 a2 t113 t126 (t126 != t113) l0_0 a0_1 a0_2 t108 t111 t112 t115 t118 t119 t121 t124 t125) = some r := by rw [if_pos rfl] at H; exact H
        clear H
        have H := H1
        clear H1
        as_aux_lemma =>
          have H' := Aside0.mk H
          clear H
          have hnb41 := NB127_101.out
          have hnc41 := NB101_127.out
          have hnb42 := NB127_114.out
          have hnc42 := NB114_127.out
          have hnb43 := NB127_120.out
          have hnc43 := NB120_127.out
          have hcz44_0 : w33.cell? ⟨gb127, 0, none⟩ = some (.slice none 0 0) := (blk_cell BK127.out 0).trans rfl
          have hcz44_1 : w33.cell? ⟨gb127, 1, none⟩ = some (.int .i64 0) := (blk_cell BK127.out 1).trans rfl
          have hcz44_2 : w33.cell? ⟨gb127, 2, none⟩ = some (.int .i64 0) := (blk_cell BK127.out 2).trans rfl
          have hfz44_0 := blk_frozen BK127.out 0
          have hfz44_1 := blk_frozen BK127.out 1
          have hfz44_2 := blk_frozen BK127.out 2
          have hnb45 := NB114_101.out
          have hnc45 := NB101_114.out
          have hnb46 := NB114_120.out
          have hnc46 := NB120_114.out
          have hcz47_0 : w33.cell? ⟨gb114, 0, none⟩ = some (.slice Ao22 t108.length co22) := (blk_cell BK114.out 0).trans rfl
          have hcz47_1 : w33.cell? ⟨gb114, 1, none⟩ = some (.int .i64 t111) := (blk_cell BK114.out 1).trans rfl
          have hcz47_2 : w33.cell? ⟨gb114, 2, none⟩ = some (.int .i64 t112) := (blk_cell BK114.out 2).trans rfl
          have hfz47_0 := blk_frozen BK114.out 0
          have hfz47_1 := blk_frozen BK114.out 1
          have hfz47_2 := blk_frozen BK114.out 2
          go_wp2_with (first | ((with_reducible refine gate_callee (f := 14) rfl ?_); refine goesL_ (some 42) rfl rfl Try.func14 (by kernel_rfl) rfl #[.agg #[.slice Ao34 t121.length co34, .int .i64 t124, .int .i64 t125], .agg #[.slice Ao22 t108.length co22, .int .i64 t111, .int .i64 t112]] rfl (by (try simp only [List.map_toArray, List.map_cons, List.map_nil]); first | done | rfl | (simp only [List.length_drop, List.length_take]; rfl)) ?_; (with_reducible refine (laws_eqPiece.calls k _ _ t121 t124 t125 _ _ t108 t111 t112 true _ ?side1 ?side2 ?side3 ?side4 A39.out).mono ?_); (case side1 => refine (Kd.R_reads' (e := 3) (base := w.heap.size) (ok := fun k_ => (((True ∧ some k_ ≠ (.slice Ao19 t103.length co19 : Value).ownBlock) ∧ some k_ ≠ (.slice Ao22 t108.length co22 : Value).ownBlock) ∧ some k_ ≠ (.slice Ao28 t115.length co28 : Value).ownBlock)) (n := t121.length) (c := co34) ?_).2.2; exact (by exact Ho.RS <| (Kd.R_mono (Kd.R_far (p := ⟨gb127, 2, none⟩) (Kd.R_far (p := ⟨gb127, 1, none⟩) (Kd.R_far (p := ⟨gb127, 0, none⟩) (Kd.R_types HO123.out BK127.out (by decide)) (fun _ hk => hk.2) (.slice Ao34 t121.length co34)) (fun _ hk => hk.2) (.int .i64 t124)) (fun _ hk => hk.2) (.int .i64 t125)) (fun _ h_ => h_.1)))); (case side2 => exact (Kd.R_reads' HO123.out).2.1); (case side3 => refine (Kd.R_reads' (e := 3) (base := w.heap.size) (ok := fun k_ => (((True ∧ some k_ ≠ (.slice Ao19 t103.length co19 : Value).ownBlock) ∧ some k_ ≠ (.slice Ao28 t115.length co28 : Value).ownBlock) ∧ some k_ ≠ (.slice Ao34 t121.length co34 : Value).ownBlock)) (n := t108.length) (c := co22) ?_).2.2; exact (by exact Ho.RS <| (Kd.R_mono (Kd.R_far (p := ⟨gb127, 2, none⟩) (Kd.R_far (p := ⟨gb127, 1, none⟩) (Kd.R_far (p := ⟨gb127, 0, none⟩) (Kd.R_types HO110.out BK127.out (by decide)) (fun _ hk => hk.2) (.slice Ao34 t121.length co34)) (fun _ hk => hk.2) (.int .i64 t124)) (fun _ hk => hk.2) (.int .i64 t125)) (fun _ h_ => h_.1)))); (case side4 => exact (Kd.R_reads' HO110.out).2.1); rintro e w48 ⟨rfl, hb⟩; refine ⟨_, rfl, ?_⟩; have n0_ := Aside0.mk (Kd.R_below (by exact Ho.RS <| (Kd.R_mono (Kd.R_far (p := ⟨gb127, 2, none⟩) (Kd.R_far (p := ⟨gb127, 1, none⟩) (Kd.R_far (p := ⟨gb127, 0, none⟩) (Kd.R_types HO105.out BK127.out (by decide)) (fun _ hk => hk.2) (.slice Ao34 t121.length co34)) (fun _ hk => hk.2) (.int .i64 t124)) (fun _ hk => hk.2) (.int .i64 t125)) (fun _ h_ => h_.1))) hb); have n1_ := Aside0.mk (Kd.R_below (by exact Ho.RS <| (Kd.R_mono (Kd.R_far (p := ⟨gb127, 2, none⟩) (Kd.R_far (p := ⟨gb127, 1, none⟩) (Kd.R_far (p := ⟨gb127, 0, none⟩) (Kd.R_types HO110.out BK127.out (by decide)) (fun _ hk => hk.2) (.slice Ao34 t121.length co34)) (fun _ hk => hk.2) (.int .i64 t124)) (fun _ hk => hk.2) (.int .i64 t125)) (fun _ h_ => h_.1))) hb); have n2_ := Aside0.mk (Kd.R_below (by exact Ho.RS <| (Kd.R_mono (Kd.R_far (p := ⟨gb127, 2, none⟩) (Kd.R_far (p := ⟨gb127, 1, none⟩) (Kd.R_far (p := ⟨gb127, 0, none⟩) (Kd.R_types HO117.out BK127.out (by decide)) (fun _ hk => hk.2) (.slice Ao34 t121.length co34)) (fun _ hk => hk.2) (.int .i64 t124)) (fun _ hk => hk.2) (.int .i64 t125)) (fun _ h_ => h_.1))) hb); have n3_ := Aside0.mk (Kd.R_below (by exact Ho.RS <| (Kd.R_mono (Kd.R_far (p := ⟨gb127, 2, none⟩) (Kd.R_far (p := ⟨gb127, 1, none⟩) (Kd.R_far (p := ⟨gb127, 0, none⟩) (Kd.R_types HO123.out BK127.out (by decide)) (fun _ hk => hk.2) (.slice Ao34 t121.length co34)) (fun _ hk => hk.2) (.int .i64 t124)) (fun _ hk => hk.2) (.int .i64 t125)) (fun _ h_ => h_.1))) hb); have n4_ := Aside0.mk (blk_below (g := gb101) (o := .cells #[.slice A0_0 l0_0.length c0_0, .int .i64 a0_1, .int .i64 a0_2] 24 (0, 0)) (by (with_reducible repeat (first | refine blk_drewN ?_ _ | refine blk_drew ?_ | refine blk_alloc ?_ _)); refine blk_far ?_ NB101_127.out _; (with_reducible repeat (first | refine blk_drewN ?_ _ | refine blk_drew ?_ | refine blk_alloc ?_ _)); refine blk_far ?_ NB101_127.out _; (with_reducible repeat (first | refine blk_drewN ?_ _ | refine blk_drew ?_ | refine blk_alloc ?_ _)); refine blk_far ?_ NB101_127.out _; exact bS BK101.out) hb); have n5_ := Aside0.mk (blk_below (g := gb114) (o := .cells #[.slice Ao22 t108.length co22, .int .i64 t111, .int .i64 t112] 27 (0, 0)) (by (with_reducible repeat (first | refine blk_drewN ?_ _ | refine blk_drew ?_ | refine blk_alloc ?_ _)); refine blk_far ?_ NB114_127.out _; (with_reducible repeat (first | refine blk_drewN ?_ _ | refine blk_drew ?_ | refine blk_alloc ?_ _)); refine blk_far ?_ NB114_127.out _; (with_reducible repeat (first | refine blk_drewN ?_ _ | refine blk_drew ?_ | refine blk_alloc ?_ _)); refine blk_far ?_ NB114_127.out _; exact bS BK114.out) hb); have n6_ := Aside0.mk (blk_below (g := gb120) (o := .cells #[.slice Ao28 t115.length co28, .int .i64 t118, .int .i64 t119] 27 (0, 0)) (by (with_reducible repeat (first | refine blk_drewN ?_ _ | refine blk_drew ?_ | refine blk_alloc ?_ _)); refine blk_far ?_ NB120_127.out _; (with_reducible repeat (first | refine blk_drewN ?_ _ | refine blk_drew ?_ | refine blk_alloc ?_ _)); refine blk_far ?_ NB120_127.out _; (with_reducible repeat (first | refine blk_drewN ?_ _ | refine blk_drew ?_ | refine blk_alloc ?_ _)); refine blk_far ?_ NB120_127.out _; exact bS BK120.out) hb); have n7_ := Aside0.mk (blk_below (g := gb127) (o := .cells #[.slice Ao34 t121.length co34, .int .i64 t124, .int .i64 t125] 27 (0, 0)) (by (with_reducible repeat (first | refine blk_drewN ?_ _ | refine blk_drew ?_ | refine blk_alloc ?_ _)); refine blk_put (cs := #[.slice Ao34 t121.length co34, .int .i64 t124, .int .i64 0]) ?_ 2 _ rfl; (with_reducible repeat (first | refine blk_drewN ?_ _ | refine blk_drew ?_ | refine blk_alloc ?_ _)); refine blk_put (cs := #[.slice Ao34 t121.length co34, .int .i64 0, .int .i64 0]) ?_ 1 _ rfl; (with_reducible repeat (first | refine blk_drewN ?_ _ | refine blk_drew ?_ | refine blk_alloc ?_ _)); refine blk_put (cs := #[.slice none 0 0, .int .i64 0, .int .i64 0]) ?_ 0 _ rfl; exact bS BK127.out) hb); have n8_ := Aside0.mk (below_step (by repeat (first | (with_reducible first | exact HB.out | apply below_alloc | apply pw_below_drewN | apply below_drew1 | refine below_set ?_ GE101.out | refine below_set ?_ GE114.out | refine below_set ?_ GE120.out | refine below_set ?_ GE127.out) | exact HB.out)) hb); clear HO105; clear HO110; clear HO117; clear HO123; clear BK101; clear BK114; clear BK120; clear BK127; clear HB; have HO105 := n0_; have HO110 := n1_; have HO117 := n2_; have HO123 := n3_; have BK101 := n4_; have BK114 := n5_; have BK120 := n6_; have BK127 := n7_; have HB := n8_; clear n0_ n1_ n2_ n3_ n4_ n5_ n6_ n7_ n8_; (try clear hb); (try clear hb2); (try clear hk); (try clear hi)))
          go_meet
          case rel => exact ⟨_, ((t126 != t113)), (by first | rfl | (simp; done) | (simp [*]; done)), H', ⟨by first | omega | exact Nat.le_refl _⟩, ⟨by exact Ho.RS <| Kd.R_mono HO110.out (fun _ hk => ⟨hk.1.2, hk.2⟩)⟩, ⟨by exact Ho.RS <| Kd.R_mono HO117.out (fun _ hk => ⟨hk.1.2, hk.2⟩)⟩, ⟨by exact Ho.RS <| Kd.R_mono HO123.out (fun _ hk => ⟨hk.1.2, hk.2⟩)⟩, ⟨by exact bS BK101.out⟩, ⟨by exact bS BK114.out⟩, ⟨by exact bS BK120.out⟩, ⟨by exact bS BK127.out⟩, ⟨by exact eS HB.out⟩⟩
      · replace c40 := Bool.eq_false_iff.mpr c40
        subst c40
        have H1 : (laws_FnExactWithMark.j0 k a1 a2 t113 t126 true l0_0 a0_1 a0_2 t108 t111 t112 t115 t118 t119 t121 t124 t125) = some r := by rw [if_neg (show ¬ (false = true) by decide)] at H; exact H
        clear H
        have H := H1
        clear H1
        as_aux_lemma =>
          have H' := Aside0.mk H
          clear H
          have hnb49 := NB127_101.out
          have hnc49 := NB101_127.out
          have hnb50 := NB127_114.out
          have hnc50 := NB114_127.out
          have hnb51 := NB127_120.out
          have hnc51 := NB120_127.out
          have hcz52_0 : w33.cell? ⟨gb127, 0, none⟩ = some (.slice none 0 0) := (blk_cell BK127.out 0).trans rfl
          have hcz52_1 : w33.cell? ⟨gb127, 1, none⟩ = some (.int .i64 0) := (blk_cell BK127.out 1).trans rfl
          have hcz52_2 : w33.cell? ⟨gb127, 2, none⟩ = some (.int .i64 0) := (blk_cell BK127.out 2).trans rfl
          have hfz52_0 := blk_frozen BK127.out 0
          have hfz52_1 := blk_frozen BK127.out 1
          have hfz52_2 := blk_frozen BK127.out 2
          have hnb53 := NB114_101.out
          have hnc53 := NB101_114.out
          have hnb54 := NB114_120.out
          have hnc54 := NB120_114.out
          have hcz55_0 : w33.cell? ⟨gb114, 0, none⟩ = some (.slice Ao22 t108.length co22) := (blk_cell BK114.out 0).trans rfl
          have hcz55_1 : w33.cell? ⟨gb114, 1, none⟩ = some (.int .i64 t111) := (blk_cell BK114.out 1).trans rfl
          have hcz55_2 : w33.cell? ⟨gb114, 2, none⟩ = some (.int .i64 t112) := (blk_cell BK114.out 2).trans rfl
          have hfz55_0 := blk_frozen BK114.out 0
          have hfz55_1 := blk_frozen BK114.out 1
          have hfz55_2 := blk_frozen BK114.out 2
          go_wp2_with (first | ((with_reducible refine gate_callee (f := 14) rfl ?_); refine goesL_ (some 42) rfl rfl Try.func14 (by kernel_rfl) rfl #[.agg #[.slice Ao34 t121.length co34, .int .i64 t124, .int .i64 t125], .agg #[.slice Ao22 t108.length co22, .int .i64 t111, .int .i64 t112]] rfl (by (try simp only [List.map_toArray, List.map_cons, List.map_nil]); first | done | rfl | (simp only [List.length_drop, List.length_take]; rfl)) ?_; (with_reducible refine (laws_eqPiece.calls k _ _ t121 t124 t125 _ _ t108 t111 t112 false _ ?side1 ?side2 ?side3 ?side4 A39.out).mono ?_); (case side1 => refine (Kd.R_reads' (e := 3) (base := w.heap.size) (ok := fun k_ => (((True ∧ some k_ ≠ (.slice Ao19 t103.length co19 : Value).ownBlock) ∧ some k_ ≠ (.slice Ao22 t108.length co22 : Value).ownBlock) ∧ some k_ ≠ (.slice Ao28 t115.length co28 : Value).ownBlock)) (n := t121.length) (c := co34) ?_).2.2; exact (by exact Ho.RS <| (Kd.R_mono (Kd.R_far (p := ⟨gb127, 2, none⟩) (Kd.R_far (p := ⟨gb127, 1, none⟩) (Kd.R_far (p := ⟨gb127, 0, none⟩) (Kd.R_types HO123.out BK127.out (by decide)) (fun _ hk => hk.2) (.slice Ao34 t121.length co34)) (fun _ hk => hk.2) (.int .i64 t124)) (fun _ hk => hk.2) (.int .i64 t125)) (fun _ h_ => h_.1)))); (case side2 => exact (Kd.R_reads' HO123.out).2.1); (case side3 => refine (Kd.R_reads' (e := 3) (base := w.heap.size) (ok := fun k_ => (((True ∧ some k_ ≠ (.slice Ao19 t103.length co19 : Value).ownBlock) ∧ some k_ ≠ (.slice Ao28 t115.length co28 : Value).ownBlock) ∧ some k_ ≠ (.slice Ao34 t121.length co34 : Value).ownBlock)) (n := t108.length) (c := co22) ?_).2.2; exact (by exact Ho.RS <| (Kd.R_mono (Kd.R_far (p := ⟨gb127, 2, none⟩) (Kd.R_far (p := ⟨gb127, 1, none⟩) (Kd.R_far (p := ⟨gb127, 0, none⟩) (Kd.R_types HO110.out BK127.out (by decide)) (fun _ hk => hk.2) (.slice Ao34 t121.length co34)) (fun _ hk => hk.2) (.int .i64 t124)) (fun _ hk => hk.2) (.int .i64 t125)) (fun _ h_ => h_.1)))); (case side4 => exact (Kd.R_reads' HO110.out).2.1); rintro e w56 ⟨rfl, hb⟩; refine ⟨_, rfl, ?_⟩; have n0_ := Aside0.mk (Kd.R_below (by exact Ho.RS <| (Kd.R_mono (Kd.R_far (p := ⟨gb127, 2, none⟩) (Kd.R_far (p := ⟨gb127, 1, none⟩) (Kd.R_far (p := ⟨gb127, 0, none⟩) (Kd.R_types HO105.out BK127.out (by decide)) (fun _ hk => hk.2) (.slice Ao34 t121.length co34)) (fun _ hk => hk.2) (.int .i64 t124)) (fun _ hk => hk.2) (.int .i64 t125)) (fun _ h_ => h_.1))) hb); have n1_ := Aside0.mk (Kd.R_below (by exact Ho.RS <| (Kd.R_mono (Kd.R_far (p := ⟨gb127, 2, none⟩) (Kd.R_far (p := ⟨gb127, 1, none⟩) (Kd.R_far (p := ⟨gb127, 0, none⟩) (Kd.R_types HO110.out BK127.out (by decide)) (fun _ hk => hk.2) (.slice Ao34 t121.length co34)) (fun _ hk => hk.2) (.int .i64 t124)) (fun _ hk => hk.2) (.int .i64 t125)) (fun _ h_ => h_.1))) hb); have n2_ := Aside0.mk (Kd.R_below (by exact Ho.RS <| (Kd.R_mono (Kd.R_far (p := ⟨gb127, 2, none⟩) (Kd.R_far (p := ⟨gb127, 1, none⟩) (Kd.R_far (p := ⟨gb127, 0, none⟩) (Kd.R_types HO117.out BK127.out (by decide)) (fun _ hk => hk.2) (.slice Ao34 t121.length co34)) (fun _ hk => hk.2) (.int .i64 t124)) (fun _ hk => hk.2) (.int .i64 t125)) (fun _ h_ => h_.1))) hb); have n3_ := Aside0.mk (Kd.R_below (by exact Ho.RS <| (Kd.R_mono (Kd.R_far (p := ⟨gb127, 2, none⟩) (Kd.R_far (p := ⟨gb127, 1, none⟩) (Kd.R_far (p := ⟨gb127, 0, none⟩) (Kd.R_types HO123.out BK127.out (by decide)) (fun _ hk => hk.2) (.slice Ao34 t121.length co34)) (fun _ hk => hk.2) (.int .i64 t124)) (fun _ hk => hk.2) (.int .i64 t125)) (fun _ h_ => h_.1))) hb); have n4_ := Aside0.mk (blk_below (g := gb101) (o := .cells #[.slice A0_0 l0_0.length c0_0, .int .i64 a0_1, .int .i64 a0_2] 24 (0, 0)) (by (with_reducible repeat (first | refine blk_drewN ?_ _ | refine blk_drew ?_ | refine blk_alloc ?_ _)); refine blk_far ?_ NB101_127.out _; (with_reducible repeat (first | refine blk_drewN ?_ _ | refine blk_drew ?_ | refine blk_alloc ?_ _)); refine blk_far ?_ NB101_127.out _; (with_reducible repeat (first | refine blk_drewN ?_ _ | refine blk_drew ?_ | refine blk_alloc ?_ _)); refine blk_far ?_ NB101_127.out _; exact bS BK101.out) hb); have n5_ := Aside0.mk (blk_below (g := gb114) (o := .cells #[.slice Ao22 t108.length co22, .int .i64 t111, .int .i64 t112] 27 (0, 0)) (by (with_reducible repeat (first | refine blk_drewN ?_ _ | refine blk_drew ?_ | refine blk_alloc ?_ _)); refine blk_far ?_ NB114_127.out _; (with_reducible repeat (first | refine blk_drewN ?_ _ | refine blk_drew ?_ | refine blk_alloc ?_ _)); refine blk_far ?_ NB114_127.out _; (with_reducible repeat (first | refine blk_drewN ?_ _ | refine blk_drew ?_ | refine blk_alloc ?_ _)); refine blk_far ?_ NB114_127.out _; exact bS BK114.out) hb); have n6_ := Aside0.mk (blk_below (g := gb120) (o := .cells #[.slice Ao28 t115.length co28, .int .i64 t118, .int .i64 t119] 27 (0, 0)) (by (with_reducible repeat (first | refine blk_drewN ?_ _ | refine blk_drew ?_ | refine blk_alloc ?_ _)); refine blk_far ?_ NB120_127.out _; (with_reducible repeat (first | refine blk_drewN ?_ _ | refine blk_drew ?_ | refine blk_alloc ?_ _)); refine blk_far ?_ NB120_127.out _; (with_reducible repeat (first | refine blk_drewN ?_ _ | refine blk_drew ?_ | refine blk_alloc ?_ _)); refine blk_far ?_ NB120_127.out _; exact bS BK120.out) hb); have n7_ := Aside0.mk (blk_below (g := gb127) (o := .cells #[.slice Ao34 t121.length co34, .int .i64 t124, .int .i64 t125] 27 (0, 0)) (by (with_reducible repeat (first | refine blk_drewN ?_ _ | refine blk_drew ?_ | refine blk_alloc ?_ _)); refine blk_put (cs := #[.slice Ao34 t121.length co34, .int .i64 t124, .int .i64 0]) ?_ 2 _ rfl; (with_reducible repeat (first | refine blk_drewN ?_ _ | refine blk_drew ?_ | refine blk_alloc ?_ _)); refine blk_put (cs := #[.slice Ao34 t121.length co34, .int .i64 0, .int .i64 0]) ?_ 1 _ rfl; (with_reducible repeat (first | refine blk_drewN ?_ _ | refine blk_drew ?_ | refine blk_alloc ?_ _)); refine blk_put (cs := #[.slice none 0 0, .int .i64 0, .int .i64 0]) ?_ 0 _ rfl; exact bS BK127.out) hb); have n8_ := Aside0.mk (below_step (by repeat (first | (with_reducible first | exact HB.out | apply below_alloc | apply pw_below_drewN | apply below_drew1 | refine below_set ?_ GE101.out | refine below_set ?_ GE114.out | refine below_set ?_ GE120.out | refine below_set ?_ GE127.out) | exact HB.out)) hb); clear HO105; clear HO110; clear HO117; clear HO123; clear BK101; clear BK114; clear BK120; clear BK127; clear HB; have HO105 := n0_; have HO110 := n1_; have HO117 := n2_; have HO123 := n3_; have BK101 := n4_; have BK114 := n5_; have BK120 := n6_; have BK127 := n7_; have HB := n8_; clear n0_ n1_ n2_ n3_ n4_ n5_ n6_ n7_ n8_; (try clear hb); (try clear hb2); (try clear hk); (try clear hi)))
          go_meet
          case rel => exact ⟨_, (true), (by first | rfl | (simp; done) | (simp [*]; done)), H', ⟨by first | omega | exact Nat.le_refl _⟩, ⟨by exact Ho.RS <| Kd.R_mono HO110.out (fun _ hk => ⟨hk.1.2, hk.2⟩)⟩, ⟨by exact Ho.RS <| Kd.R_mono HO117.out (fun _ hk => ⟨hk.1.2, hk.2⟩)⟩, ⟨by exact Ho.RS <| Kd.R_mono HO123.out (fun _ hk => ⟨hk.1.2, hk.2⟩)⟩, ⟨by exact bS BK101.out⟩, ⟨by exact bS BK114.out⟩, ⟨by exact bS BK120.out⟩, ⟨by exact bS BK127.out⟩, ⟨by exact eS HB.out⟩⟩
    case rest =>
      clear HC13
      try clear c1
      try clear c2
      try clear p2
      try clear c3
      try clear c4
      try clear c5
      try clear c5b0
      try clear c10
      try clear c12
      try clear c14
      try clear c15
      try clear c16
      try clear c23
      try clear c29
      try clear c30
      try clear c35
      try clear c36
      try clear c37
      try clear c40
      try clear c41
      try clear c42
      try clear c43
      try clear c45
      try clear c46
      try clear c49
      try clear c50
      try clear c51
      try clear c53
      try clear c54
      try clear hcz15_0
      try clear hcz15_1
      try clear hcz15_2
      try clear hcz17_0
      try clear hcz17_1
      try clear hcz17_2
      try clear hcz24_0
      try clear hcz24_1
      try clear hcz24_2
      try clear hcz25_0
      try clear hcz25_1
      try clear hcz25_2
      try clear hcz31_0
      try clear hcz31_1
      try clear hcz31_2
      try clear hcz38_0
      try clear hcz38_1
      try clear hcz38_2
      try clear hcz44_0
      try clear hcz44_1
      try clear hcz44_2
      try clear hcz47_0
      try clear hcz47_1
      try clear hcz47_2
      try clear hcz52_0
      try clear hcz52_1
      try clear hcz52_2
      try clear hcz55_0
      try clear hcz55_1
      try clear hcz55_2
      try clear hcz7_0
      try clear hcz7_1
      try clear hcz7_2
      try clear hfz15_0
      try clear hfz15_1
      try clear hfz15_2
      try clear hfz17_0
      try clear hfz17_1
      try clear hfz17_2
      try clear hfz24_0
      try clear hfz24_1
      try clear hfz24_2
      try clear hfz25_0
      try clear hfz25_1
      try clear hfz25_2
      try clear hfz31_0
      try clear hfz31_1
      try clear hfz31_2
      try clear hfz38_0
      try clear hfz38_1
      try clear hfz38_2
      try clear hfz44_0
      try clear hfz44_1
      try clear hfz44_2
      try clear hfz47_0
      try clear hfz47_1
      try clear hfz47_2
      try clear hfz52_0
      try clear hfz52_1
      try clear hfz52_2
      try clear hfz55_0
      try clear hfz55_1
      try clear hfz55_2
      try clear hfz7_0
      try clear hfz7_1
      try clear hfz7_2
      obtain ⟨kq, x48_12, rfl, HA, HJ12, HO_115000, HO_121000, HO_128000, BK101, BK114, BK120, BK127, HB⟩ := hcut
      cases kq with
      | zero => exact absurd HA.out (by simp [laws_FnExactWithMark.j0])
      | succ kj12 =>
        have H := HA.out
        clear HA
        simp only [laws_FnExactWithMark.j0] at H
        by_cases c57 : x48_12 = true
        · subst c57
          have H1 : (some false) = some r := by rw [if_pos rfl] at H; exact H
          clear H
          have H := H1
          clear H1
          as_aux_lemma =>
            exact absurd ((Option.some.inj H).trans HT.out) (by decide)
        · replace c57 := Bool.eq_false_iff.mpr c57
          subst c57
          have H1 : ((laws_toPiece.f kj12 l0_0 a0_1 a0_2).bind fun bt129 => ((laws_eqPiece.f kj12 t115 t118 t119 bt129.1 bt129.2.1 bt129.2.2).bind fun t134 => (if t134 = true then ((laws_markPiece.f kj12 t115 t118 t119 1).bind fun bt135 => (if bt135.1 < 0 then (laws_FnExactWithMark.j1 kj12 a1 a2 t113 true l0_0 a0_1 a0_2 t108 t111 t112 t121 t124 t125) else ((laws_eqPiece.f kj12 t121 t124 t125 t108 t111 t112).bind fun t137 => (if t137 = true then (laws_FnExactWithMark.j1 kj12 a1 a2 t113 (t126 != t113) l0_0 a0_1 a0_2 t108 t111 t112 t121 t124 t125) else (laws_FnExactWithMark.j1 kj12 a1 a2 t113 true l0_0 a0_1 a0_2 t108 t111 t112 t121 t124 t125))))) else (some false)))) = some r := by rw [if_neg (show ¬ (false = true) by decide)] at H; exact H
          clear H
          have H := H1
          clear H1
          replace H := Option.bind_eq_some_iff.mp H
          obtain ⟨⟨t129, t132, t133⟩, A580, H⟩ := H
          replace H : ((laws_eqPiece.f kj12 t115 t118 t119 t129 t132 t133).bind fun t134 => (if t134 = true then ((laws_markPiece.f kj12 t115 t118 t119 1).bind fun bt135 => (if bt135.1 < 0 then (laws_FnExactWithMark.j1 kj12 a1 a2 t113 true l0_0 a0_1 a0_2 t108 t111 t112 t121 t124 t125) else ((laws_eqPiece.f kj12 t121 t124 t125 t108 t111 t112).bind fun t137 => (if t137 = true then (laws_FnExactWithMark.j1 kj12 a1 a2 t113 (t126 != t113) l0_0 a0_1 a0_2 t108 t111 t112 t121 t124 t125) else (laws_FnExactWithMark.j1 kj12 a1 a2 t113 true l0_0 a0_1 a0_2 t108 t111 t112 t121 t124 t125))))) else (some false))) = some r := H
          have A58 := Aside0.mk A580
          clear A580
          replace H := Option.bind_eq_some_iff.mp H
          obtain ⟨t134, A590, H⟩ := H
          replace H : (if t134 = true then ((laws_markPiece.f kj12 t115 t118 t119 1).bind fun bt135 => (if bt135.1 < 0 then (laws_FnExactWithMark.j1 kj12 a1 a2 t113 true l0_0 a0_1 a0_2 t108 t111 t112 t121 t124 t125) else ((laws_eqPiece.f kj12 t121 t124 t125 t108 t111 t112).bind fun t137 => (if t137 = true then (laws_FnExactWithMark.j1 kj12 a1 a2 t113 (t126 != t113) l0_0 a0_1 a0_2 t108 t111 t112 t121 t124 t125) else (laws_FnExactWithMark.j1 kj12 a1 a2 t113 true l0_0 a0_1 a0_2 t108 t111 t112 t121 t124 t125))))) else (some false)) = some r := H
          have A59 := Aside0.mk A590
          clear A590
          by_cases c60 : t134 = true
          · subst c60
            have H1 : ((laws_markPiece.f kj12 t115 t118 t119 1).bind fun bt135 => (if bt135.1 < 0 then (laws_FnExactWithMark.j1 kj12 a1 a2 t113 true l0_0 a0_1 a0_2 t108 t111 t112 t121 t124 t125) else ((laws_eqPiece.f kj12 t121 t124 t125 t108 t111 t112).bind fun t137 => (if t137 = true then (laws_FnExactWithMark.j1 kj12 a1 a2 t113 (t126 != t113) l0_0 a0_1 a0_2 t108 t111 t112 t121 t124 t125) else (laws_FnExactWithMark.j1 kj12 a1 a2 t113 true l0_0 a0_1 a0_2 t108 t111 t112 t121 t124 t125))))) = some r := by rw [if_pos rfl] at H; exact H
            clear H
            have H := H1
            clear H1
            replace H := Option.bind_eq_some_iff.mp H
            obtain ⟨⟨t135, t136⟩, A610, H⟩ := H
            replace H : (if t135 < 0 then (laws_FnExactWithMark.j1 kj12 a1 a2 t113 true l0_0 a0_1 a0_2 t108 t111 t112 t121 t124 t125) else ((laws_eqPiece.f kj12 t121 t124 t125 t108 t111 t112).bind fun t137 => (if t137 = true then (laws_FnExactWithMark.j1 kj12 a1 a2 t113 (t126 != t113) l0_0 a0_1 a0_2 t108 t111 t112 t121 t124 t125) else (laws_FnExactWithMark.j1 kj12 a1 a2 t113 true l0_0 a0_1 a0_2 t108 t111 t112 t121 t124 t125)))) = some r := H
            have A61 := Aside0.mk A610
            clear A610
            have HC62 := Aside0.mk H
            clear H
            try go_wp2
            have n0_ := Aside0.mk (Kd.R_drew HO_115000.out)
            have n1_ := Aside0.mk (Kd.R_drew HO_121000.out)
            have n2_ := Aside0.mk (Kd.R_drew HO_128000.out)
            have n3_ := Aside0.mk (blk_drew BK101.out)
            have n4_ := Aside0.mk (blk_drew BK114.out)
            have n5_ := Aside0.mk (blk_drew BK120.out)
            have n6_ := Aside0.mk (blk_drew BK127.out)
            have n7_ := Aside0.mk (below_drew1 HB.out)
            clear HO_115000
            clear HO_121000
            clear HO_128000
            clear BK101
            clear BK114
            clear BK120
            clear BK127
            clear HB
            have HO_115000 := n0_
            have HO_121000 := n1_
            have HO_128000 := n2_
            have BK101 := n3_
            have BK114 := n4_
            have BK120 := n5_
            have BK127 := n6_
            have HB := n7_
            clear n0_ n1_ n2_ n3_ n4_ n5_ n6_ n7_
            refine start_ (n := 5) (S := fun w' => w'.cell? ⟨gb120, 0, none⟩ = some (.slice Ao28 t115.length co28) ∧ w'.cell? ⟨gb120, 1, none⟩ = some (.int .i64 t118) ∧ w'.cell? ⟨gb120, 2, none⟩ = some (.int .i64 t119) ∧ w'.cell? ⟨gb101, 0, none⟩ = some (.slice A0_0 l0_0.length c0_0) ∧ w'.cell? ⟨gb101, 1, none⟩ = some (.int .i64 a0_1) ∧ w'.cell? ⟨gb101, 2, none⟩ = some (.int .i64 a0_2)) (ds := []) #[false, false, false, false, false] (by kernel_rfl) rfl rfl ⟨(blk_cell BK120.out 0).trans rfl, (blk_cell BK120.out 1).trans rfl, (blk_cell BK120.out 2).trans rfl, (blk_cell BK101.out 0).trans rfl, (blk_cell BK101.out 1).trans rfl, (blk_cell BK101.out 2).trans rfl⟩ (fun hHeld => ?_)
            generalize wc.drew = w63 at HO_115000 HO_121000 HO_128000 BK101 BK114 BK120 BK127 HB hHeld ⊢
            refine take_ (i := 0) (N := some 49) (v := ?_) (a' := ?_) #[true, false, false, false, false] rfl rfl (by kernel_rfl) (fun _ _ _ h => h) (Or.inl ⟨by rfl, ?_⟩) hHeld ?_ ?_
            rotate_left
            · rintro w' ⟨s0, s1, s2, s3, s4, s5⟩
              go_simp
              with_reducible rfl
            rotate_left
            · simp only [Act.put, List.setIfInBounds_toArray, List.set_cons_zero, List.set_cons_succ, i64_w, i32_w]
              rfl
            refine take_ (i := 1) (N := some 50) (v := ?_) (a' := ?_) #[true, true, false, false, false] rfl rfl (by kernel_rfl) (fun _ _ _ h => h) (Or.inl ⟨by rfl, ?_⟩) hHeld ?_ ?_
            rotate_left
            · rintro w' ⟨s0, s1, s2, s3, s4, s5⟩
              go_simp
              with_reducible rfl
            rotate_left
            · simp only [Act.put, List.setIfInBounds_toArray, List.set_cons_zero, List.set_cons_succ, i64_w, i32_w]
              rfl
            refine one_ (i := 2) (N := some 51) #[true, true, true, false, false] rfl rfl (by kernel_rfl) (by decide) (fun K hK => ?_)
            refine goes_ Try.func12 (by kernel_rfl) rfl #[.agg #[.slice A0_0 l0_0.length c0_0, .int .i64 a0_1, .int .i64 a0_2]] (by rfl) rfl rfl (by (try simp only [List.map_toArray, List.map_cons, List.map_nil]); first | done | rfl | (simp only [List.length_drop, List.length_take]; rfl)) ?_
            with_reducible refine (laws_toPiece.calls kj12 _ _ l0_0 a0_1 a0_2 t129 t132 t133 _ ?side1 ?side2 A58.out).mono ?_
            (case side1 => repeat (first | exact (Kd.C_below HR0_0.out HB.out) | (with_reducible refine Kd.C_alloc ?_ _) | (with_reducible refine Kd.C_drewN ?_ _) | (with_reducible refine Kd.C_drew ?_)))
            (case side2 => exact HC0_0.out)
            rintro e w64 ⟨v130, rfl, ho0, hb⟩
            refine ⟨_, rfl, ?_⟩
            have n0_ := Aside0.mk (Kd.R_elder' (by exact Ho.RS <| HO_115000.out) (Kd.R_base ho0) hb)
            have n1_ := Aside0.mk (Kd.R_elder' (by exact Ho.RS <| HO_121000.out) (Kd.R_base ho0) hb)
            have n2_ := Aside0.mk (Kd.R_elder' (by exact Ho.RS <| HO_128000.out) (Kd.R_base ho0) hb)
            have n3_ := Aside0.mk (Kd.R_lower (Kd.R_new' (Kd.R_new' (Kd.R_new' ho0 (Kd.R_lt (by exact Ho.RS <| HO_115000.out))) (Kd.R_lt (by exact Ho.RS <| HO_121000.out))) (Kd.R_lt (by exact Ho.RS <| HO_128000.out))) (below_size (by exact eS HB.out)))
            have n4_ := Aside0.mk (blk_below (bS BK101.out) hb)
            have n5_ := Aside0.mk (blk_below (bS BK114.out) hb)
            have n6_ := Aside0.mk (blk_below (bS BK120.out) hb)
            have n7_ := Aside0.mk (blk_below (bS BK127.out) hb)
            have n8_ := Aside0.mk (below_step (by exact eS HB.out) hb)
            clear HO_115000
            clear HO_121000
            clear HO_128000
            clear BK101
            clear BK114
            clear BK120
            clear BK127
            clear HB
            have HO_115000 := n0_
            have HO_121000 := n1_
            have HO_128000 := n2_
            have HO131 := n3_
            have BK101 := n4_
            have BK114 := n5_
            have BK120 := n6_
            have BK127 := n7_
            have HB := n8_
            clear n0_ n1_ n2_ n3_ n4_ n5_ n6_ n7_ n8_
            (try clear hb)
            (try clear hb2)
            (try clear hk)
            (try clear hi)
            (try clear ho0)
            obtain ⟨Ao65, co65, eo65⟩ := Kd.R_slice HO131.out
            (first | subst eo65 | (injection eo65 with f1_ f2_ f3_; have f4_ := f1_.symm; have f5_ := f3_.symm; clear f1_ f2_ f3_; subst f4_; subst f5_))
            refine hK.out _ _ ⟨(blk_cell BK120.out 0).trans rfl, (blk_cell BK120.out 1).trans rfl, (blk_cell BK120.out 2).trans rfl, (blk_cell BK101.out 0).trans rfl, (blk_cell BK101.out 1).trans rfl, (blk_cell BK101.out 2).trans rfl⟩ (fun hHeld => ?_)
            clear hK K
            refine norm_ (a' := ?_) ?_ ?_
            rotate_left
            · show Act.put _ (some 51) _ = _
              simp only [Act.put, List.setIfInBounds_toArray, List.set_cons_zero, List.set_cons_succ, i64_w, i32_w]
              rfl
            refine one_ (i := 3) (N := some 52) #[true, true, true, true, false] rfl rfl (by kernel_rfl) (by decide) (fun K hK => ?_)
            refine goes_ Try.func14 (by kernel_rfl) rfl #[.agg #[.slice Ao28 t115.length co28, .int .i64 t118, .int .i64 t119], .agg #[.slice Ao65 t129.length co65, .int .i64 t132, .int .i64 t133]] (by rfl) rfl rfl (by (try simp only [List.map_toArray, List.map_cons, List.map_nil]); first | done | rfl | (simp only [List.length_drop, List.length_take]; rfl)) ?_
            with_reducible refine (laws_eqPiece.calls kj12 _ _ t115 t118 t119 _ _ t129 t132 t133 true _ ?side1 ?side2 ?side3 ?side4 A59.out).mono ?_
            (case side1 => repeat (first | exact (Kd.R_reads' HO_121000.out).2.2 | (with_reducible refine Kd.C_alloc ?_ _) | (with_reducible refine Kd.C_drewN ?_ _) | (with_reducible refine Kd.C_drew ?_)))
            (case side2 => exact (Kd.R_reads' HO_121000.out).2.1)
            (case side3 => repeat (first | exact (Kd.R_reads' HO131.out).2.2 | (with_reducible refine Kd.C_alloc ?_ _) | (with_reducible refine Kd.C_drewN ?_ _) | (with_reducible refine Kd.C_drew ?_)))
            (case side4 => exact (Kd.R_reads' HO131.out).2.1)
            rintro e w66 ⟨rfl, hb⟩
            refine ⟨_, rfl, ?_⟩
            have n0_ := Aside0.mk (Kd.R_below (by exact Ho.RS <| HO_115000.out) hb)
            have n1_ := Aside0.mk (Kd.R_below (by exact Ho.RS <| HO_121000.out) hb)
            have n2_ := Aside0.mk (Kd.R_below (by exact Ho.RS <| HO_128000.out) hb)
            have n3_ := Aside0.mk (Kd.R_below (by exact Ho.RS <| HO131.out) hb)
            have n4_ := Aside0.mk (blk_below (bS BK101.out) hb)
            have n5_ := Aside0.mk (blk_below (bS BK114.out) hb)
            have n6_ := Aside0.mk (blk_below (bS BK120.out) hb)
            have n7_ := Aside0.mk (blk_below (bS BK127.out) hb)
            have n8_ := Aside0.mk (below_step (by exact eS HB.out) hb)
            clear HO_115000
            clear HO_121000
            clear HO_128000
            clear HO131
            clear BK101
            clear BK114
            clear BK120
            clear BK127
            clear HB
            have HO_115000 := n0_
            have HO_121000 := n1_
            have HO_128000 := n2_
            have HO131 := n3_
            have BK101 := n4_
            have BK114 := n5_
            have BK120 := n6_
            have BK127 := n7_
            have HB := n8_
            clear n0_ n1_ n2_ n3_ n4_ n5_ n6_ n7_ n8_
            (try clear hb)
            (try clear hb2)
            (try clear hk)
            (try clear hi)
            refine hK.out _ _ ⟨(blk_cell BK120.out 0).trans rfl, (blk_cell BK120.out 1).trans rfl, (blk_cell BK120.out 2).trans rfl, (blk_cell BK101.out 0).trans rfl, (blk_cell BK101.out 1).trans rfl, (blk_cell BK101.out 2).trans rfl⟩ (fun hHeld => ?_)
            clear hK K
            refine norm_ (a' := ?_) ?_ ?_
            rotate_left
            · show Act.put _ (some 52) _ = _
              simp only [Act.put, List.setIfInBounds_toArray, List.set_cons_zero, List.set_cons_succ, i64_w, i32_w]
              rfl
            refine pure_ (i := 4) (N := some 53) (v := ?_) (a' := ?_) #[true, true, true, true, true] rfl rfl (by kernel_rfl) (fun _ _ _ h => h) (Or.inl ⟨by rfl, ?_⟩) ?_ ?_
            rotate_left
            · intro w'
              go_simp
              with_reducible rfl
            rotate_left
            · simp only [Act.put, List.setIfInBounds_toArray, List.set_cons_zero, List.set_cons_succ, i64_w, i32_w]
              rfl
            refine done_ (by kernel_rfl) ?_
            have hnb67 := NB120_101.out
            have hnc67 := NB101_120.out
            have hnb68 := NB120_114.out
            have hnc68 := NB114_120.out
            have hnb69 := NB120_127.out
            have hnc69 := NB127_120.out
            have hcz70_0 : w66.cell? ⟨gb120, 0, none⟩ = some (.slice Ao28 t115.length co28) := (blk_cell BK120.out 0).trans rfl
            have hcz70_1 : w66.cell? ⟨gb120, 1, none⟩ = some (.int .i64 t118) := (blk_cell BK120.out 1).trans rfl
            have hcz70_2 : w66.cell? ⟨gb120, 2, none⟩ = some (.int .i64 t119) := (blk_cell BK120.out 2).trans rfl
            have hfz70_0 := blk_frozen BK120.out 0
            have hfz70_1 := blk_frozen BK120.out 1
            have hfz70_2 := blk_frozen BK120.out 2
            go_upto_region 14 with (first | ((with_reducible refine gate_callee (f := 17) rfl ?_); refine goesL_ (some 56) rfl rfl Try.func17 (by kernel_rfl) rfl #[.agg #[.slice Ao28 t115.length co28, .int .i64 t118, .int .i64 t119], .int .i64 1] rfl (by (try simp only [List.map_toArray, List.map_cons, List.map_nil]); first | done | rfl | (simp only [List.length_drop, List.length_take]; rfl)) ?_; (with_reducible refine (laws_markPiece.calls kj12 (fun k_ => some k_ = (.slice Ao28 t115.length co28 : Value).ownBlock) (.slice Ao28 t115.length co28) t115 t118 t119 1 t135 t136 w _ ?side1 ?side2 A61.out).mono ?_); (case side1 => exact eS HB.out); (case side2 => exact Kd.R_tight rfl HO_121000.out); rintro e w71 ⟨rfl, hy0, hb, hkp⟩; refine ⟨_, rfl, ?_⟩; have n0_ := Aside0.mk (Kd.R_mono (ok' := fun k_ => some k_ ≠ (.slice Ao28 t115.length co28 : Value).ownBlock ∧ some k_ ≠ (.slice Ao34 t121.length co34 : Value).ownBlock ∧ some k_ ≠ (.slice Ao65 t129.length co65 : Value).ownBlock) (Kd.R_keptB (HO_115000.out) hkp (fun k_ hk_ hs_ => (hk_.1.1) hs_)) (fun k_ hk_ => ⟨hk_.1.1.1, hk_.1.1.2, hk_.1.2⟩)); have n1_ := Aside0.mk (Kd.R_reok rfl hy0 (fun k_ e_ => HO_121000.out.1 k_ e_)); have n2_ := Aside0.mk (Kd.R_mono (ok' := fun k_ => some k_ ≠ (.slice Ao22 t108.length co22 : Value).ownBlock ∧ some k_ ≠ (.slice Ao28 t115.length co28 : Value).ownBlock ∧ some k_ ≠ (.slice Ao65 t129.length co65 : Value).ownBlock) (Kd.R_keptB (HO_128000.out) hkp (fun k_ hk_ hs_ => (hk_.1.2) hs_)) (fun k_ hk_ => ⟨hk_.1.1.1, hk_.1.1.2, hk_.1.2⟩)); have n3_ := Aside0.mk (blk_kept (by exact bS BK101.out) hkp (fun hs_ => (fun e_ => (Kd.R_ne HO_121000.out BK101.out (by decide)) e_) hs_)); have n4_ := Aside0.mk (blk_kept (by exact bS BK114.out) hkp (fun hs_ => (fun e_ => (Kd.R_ne HO_121000.out BK114.out (by decide)) e_) hs_)); have n5_ := Aside0.mk (blk_kept (by exact bS BK120.out) hkp (fun hs_ => (fun e_ => (Kd.R_ne HO_121000.out BK120.out (by decide)) e_) hs_)); have n6_ := Aside0.mk (blk_kept (by exact bS BK127.out) hkp (fun hs_ => (fun e_ => (Kd.R_ne HO_121000.out BK127.out (by decide)) e_) hs_)); have n7_ := Aside0.mk (Kd.R_mono (ok' := fun k_ => some k_ ≠ (.slice Ao22 t108.length co22 : Value).ownBlock ∧ some k_ ≠ (.slice Ao28 t115.length co28 : Value).ownBlock ∧ some k_ ≠ (.slice Ao34 t121.length co34 : Value).ownBlock) (Kd.R_keptB (HO131.out) hkp (fun k_ hk_ hs_ => (hk_.1.2) hs_)) (fun k_ hk_ => ⟨hk_.1.1.1.2, hk_.1.1.2, hk_.1.2⟩)); have n8_ := Aside0.mk (hb); clear HO_115000; clear HO_121000; clear HO_128000; clear BK101; clear BK114; clear BK120; clear BK127; clear HO131; clear HB; have HO_115000 := n0_; have HO_121000 := n1_; have HO_128000 := n2_; have BK101 := n3_; have BK114 := n4_; have BK120 := n5_; have BK127 := n6_; have HO131 := n7_; have HB := n8_; clear n0_ n1_ n2_ n3_ n4_ n5_ n6_ n7_ n8_; (try clear hb); (try clear hkp); (try clear hy0)))
            (try simp only [Act.put, List.setIfInBounds_toArray, List.set_cons_zero, List.set_cons_succ])
            go_cut [69] (fun v69 wc => ∃ (kq : Nat) (x69_61 : Bool), v69 = .bool x69_61 ∧ Aside0 (laws_FnExactWithMark.j1 kq a1 a2 t113 x69_61 l0_0 a0_1 a0_2 t108 t111 t112 t121 t124 t125 = some r) ∧ Aside0 (kq ≤ kj12) ∧ Aside0 (Kd.R (Kd.int .i64) 3 wc w.heap.size (fun k_ => some k_ ≠ ((.slice Ao28 t115.length co28) : Value).ownBlock ∧ some k_ ≠ ((.slice Ao34 t121.length co34) : Value).ownBlock) (.slice Ao22 t108.length co22) t108) ∧ Aside0 (Kd.R (Kd.int .i64) 3 wc w.heap.size (fun k_ => some k_ ≠ ((.slice Ao22 t108.length co22) : Value).ownBlock ∧ some k_ ≠ ((.slice Ao34 t121.length co34) : Value).ownBlock) (.slice Ao28 t115.length co28) t136) ∧ Aside0 (Kd.R (Kd.int .i64) 3 wc w.heap.size (fun k_ => some k_ ≠ ((.slice Ao22 t108.length co22) : Value).ownBlock ∧ some k_ ≠ ((.slice Ao28 t115.length co28) : Value).ownBlock) (.slice Ao34 t121.length co34) t121) ∧ Aside0 (wc.heap[gb101]? = some (.cells #[(.slice A0_0 l0_0.length c0_0), .int .i64 a0_1, .int .i64 a0_2] 24 (0, 0))) ∧ Aside0 (wc.heap[gb114]? = some (.cells #[(.slice Ao22 t108.length co22), .int .i64 t111, .int .i64 t112] 27 (0, 0))) ∧ Aside0 (wc.heap[gb120]? = some (.cells #[(.slice Ao28 t115.length co28), .int .i64 t118, .int .i64 t119] 27 (0, 0))) ∧ Aside0 (wc.heap[gb127]? = some (.cells #[(.slice Ao34 t121.length co34), .int .i64 t124, .int .i64 t125] 27 (0, 0))) ∧ Aside0 (Below w.heap.size w wc))
            case first =>
              have H := HC62.out
              clear HC62
              by_cases c72 : t135 < 0
              · rw [if_pos c72] at H
                have c72b0 : decide (t135 < 0) = true := decide_eq_true c72
                clear c72
                (first | rw [c72b0] | (simp only [i64_w, i32_w]; rw [c72b0]) | skip)
                as_aux_lemma =>
                  have H' := Aside0.mk H
                  clear H
                  go_wp2
                  go_meet
                  case rel => exact ⟨_, (true), (by first | rfl | (simp; done) | (simp [*]; done)), H', ⟨by have := HJ12.out; first | omega | exact Nat.le_refl _⟩, ⟨by exact Ho.RS <| Kd.R_mono HO_115000.out (fun _ hk => ⟨hk.1, hk.2.1⟩)⟩, ⟨by exact Ho.RS <| Kd.R_mono HO_121000.out (fun _ hk => ⟨hk.1.1, hk.1.2⟩)⟩, ⟨by exact Ho.RS <| Kd.R_mono HO_128000.out (fun _ hk => ⟨hk.1, hk.2.1⟩)⟩, ⟨by exact bS BK101.out⟩, ⟨by exact bS BK114.out⟩, ⟨by exact bS BK120.out⟩, ⟨by exact bS BK127.out⟩, ⟨by exact eS HB.out⟩⟩
              · rw [if_neg c72] at H
                have c72b0 : decide (t135 < 0) = false := decide_eq_false c72
                clear c72
                (first | rw [c72b0] | (simp only [i64_w, i32_w]; rw [c72b0]) | skip)
                replace H := Option.bind_eq_some_iff.mp H
                obtain ⟨t137, A730, H⟩ := H
                replace H : (if t137 = true then (laws_FnExactWithMark.j1 kj12 a1 a2 t113 (t126 != t113) l0_0 a0_1 a0_2 t108 t111 t112 t121 t124 t125) else (laws_FnExactWithMark.j1 kj12 a1 a2 t113 true l0_0 a0_1 a0_2 t108 t111 t112 t121 t124 t125)) = some r := H
                have A73 := Aside0.mk A730
                clear A730
                by_cases c74 : t137 = true
                · subst c74
                  have H1 : (laws_FnExactWithMark.j1 kj12 a1 a2 t113 (t126 != t113) l0_0 a0_1 a0_2 t108 t111 t112 t121 t124 t125) = some r := by rw [if_pos rfl] at H; exact H
                  clear H
                  have H := H1
                  clear H1
                  as_aux_lemma =>
                    have H' := Aside0.mk H
                    clear H
                    have hnb75 := NB127_101.out
                    have hnc75 := NB101_127.out
                    have hnb76 := NB127_114.out
                    have hnc76 := NB114_127.out
                    have hnb77 := NB127_120.out
                    have hnc77 := NB120_127.out
                    have hcz78_0 : w71.cell? ⟨gb127, 0, none⟩ = some (.slice Ao34 t121.length co34) := (blk_cell BK127.out 0).trans rfl
                    have hcz78_1 : w71.cell? ⟨gb127, 1, none⟩ = some (.int .i64 t124) := (blk_cell BK127.out 1).trans rfl
                    have hcz78_2 : w71.cell? ⟨gb127, 2, none⟩ = some (.int .i64 t125) := (blk_cell BK127.out 2).trans rfl
                    have hfz78_0 := blk_frozen BK127.out 0
                    have hfz78_1 := blk_frozen BK127.out 1
                    have hfz78_2 := blk_frozen BK127.out 2
                    have hnb79 := NB114_101.out
                    have hnc79 := NB101_114.out
                    have hnb80 := NB114_120.out
                    have hnc80 := NB120_114.out
                    have hcz81_0 : w71.cell? ⟨gb114, 0, none⟩ = some (.slice Ao22 t108.length co22) := (blk_cell BK114.out 0).trans rfl
                    have hcz81_1 : w71.cell? ⟨gb114, 1, none⟩ = some (.int .i64 t111) := (blk_cell BK114.out 1).trans rfl
                    have hcz81_2 : w71.cell? ⟨gb114, 2, none⟩ = some (.int .i64 t112) := (blk_cell BK114.out 2).trans rfl
                    have hfz81_0 := blk_frozen BK114.out 0
                    have hfz81_1 := blk_frozen BK114.out 1
                    have hfz81_2 := blk_frozen BK114.out 2
                    go_wp2_with (first | (go_at_call 14; (with_reducible refine (laws_eqPiece.calls kj12 _ _ t121 t124 t125 _ _ t108 t111 t112 true _ ?side1 ?side2 ?side3 ?side4 A73.out).mono ?_); (case side1 => repeat (first | exact (Kd.R_reads' HO_128000.out).2.2 | (with_reducible refine Kd.C_alloc ?_ _) | (with_reducible refine Kd.C_drewN ?_ _) | (with_reducible refine Kd.C_drew ?_))); (case side2 => exact (Kd.R_reads' HO_128000.out).2.1); (case side3 => repeat (first | exact (Kd.R_reads' HO_115000.out).2.2 | (with_reducible refine Kd.C_alloc ?_ _) | (with_reducible refine Kd.C_drewN ?_ _) | (with_reducible refine Kd.C_drew ?_))); (case side4 => exact (Kd.R_reads' HO_115000.out).2.1); rintro e w82 ⟨rfl, hb⟩; have n0_ := Aside0.mk (Kd.R_below (by exact Ho.RS <| HO_115000.out) hb); have n1_ := Aside0.mk (Kd.R_below (by exact Ho.RS <| HO_121000.out) hb); have n2_ := Aside0.mk (Kd.R_below (by exact Ho.RS <| HO_128000.out) hb); have n3_ := Aside0.mk (Kd.R_below (by exact Ho.RS <| HO131.out) hb); have n4_ := Aside0.mk (blk_below (bS BK101.out) hb); have n5_ := Aside0.mk (blk_below (bS BK114.out) hb); have n6_ := Aside0.mk (blk_below (bS BK120.out) hb); have n7_ := Aside0.mk (blk_below (bS BK127.out) hb); have n8_ := Aside0.mk (below_step (by exact eS HB.out) hb); clear HO_115000; clear HO_121000; clear HO_128000; clear HO131; clear BK101; clear BK114; clear BK120; clear BK127; clear HB; have HO_115000 := n0_; have HO_121000 := n1_; have HO_128000 := n2_; have HO131 := n3_; have BK101 := n4_; have BK114 := n5_; have BK120 := n6_; have BK127 := n7_; have HB := n8_; clear n0_ n1_ n2_ n3_ n4_ n5_ n6_ n7_ n8_; (try clear hb); (try clear hb2); (try clear hk); (try clear hi)))
                    go_meet
                    case rel => exact ⟨_, ((t126 != t113)), (by first | rfl | (simp; done) | (simp [*]; done)), H', ⟨by have := HJ12.out; first | omega | exact Nat.le_refl _⟩, ⟨by exact Ho.RS <| Kd.R_mono HO_115000.out (fun _ hk => ⟨hk.1, hk.2.1⟩)⟩, ⟨by exact Ho.RS <| Kd.R_mono HO_121000.out (fun _ hk => ⟨hk.1.1, hk.1.2⟩)⟩, ⟨by exact Ho.RS <| Kd.R_mono HO_128000.out (fun _ hk => ⟨hk.1, hk.2.1⟩)⟩, ⟨by exact bS BK101.out⟩, ⟨by exact bS BK114.out⟩, ⟨by exact bS BK120.out⟩, ⟨by exact bS BK127.out⟩, ⟨by exact eS HB.out⟩⟩
                · replace c74 := Bool.eq_false_iff.mpr c74
                  subst c74
                  have H1 : (laws_FnExactWithMark.j1 kj12 a1 a2 t113 true l0_0 a0_1 a0_2 t108 t111 t112 t121 t124 t125) = some r := by rw [if_neg (show ¬ (false = true) by decide)] at H; exact H
                  clear H
                  have H := H1
                  clear H1
                  as_aux_lemma =>
                    have H' := Aside0.mk H
                    clear H
                    have hnb83 := NB127_101.out
                    have hnc83 := NB101_127.out
                    have hnb84 := NB127_114.out
                    have hnc84 := NB114_127.out
                    have hnb85 := NB127_120.out
                    have hnc85 := NB120_127.out
                    have hcz86_0 : w71.cell? ⟨gb127, 0, none⟩ = some (.slice Ao34 t121.length co34) := (blk_cell BK127.out 0).trans rfl
                    have hcz86_1 : w71.cell? ⟨gb127, 1, none⟩ = some (.int .i64 t124) := (blk_cell BK127.out 1).trans rfl
                    have hcz86_2 : w71.cell? ⟨gb127, 2, none⟩ = some (.int .i64 t125) := (blk_cell BK127.out 2).trans rfl
                    have hfz86_0 := blk_frozen BK127.out 0
                    have hfz86_1 := blk_frozen BK127.out 1
                    have hfz86_2 := blk_frozen BK127.out 2
                    have hnb87 := NB114_101.out
                    have hnc87 := NB101_114.out
                    have hnb88 := NB114_120.out
                    have hnc88 := NB120_114.out
                    have hcz89_0 : w71.cell? ⟨gb114, 0, none⟩ = some (.slice Ao22 t108.length co22) := (blk_cell BK114.out 0).trans rfl
                    have hcz89_1 : w71.cell? ⟨gb114, 1, none⟩ = some (.int .i64 t111) := (blk_cell BK114.out 1).trans rfl
                    have hcz89_2 : w71.cell? ⟨gb114, 2, none⟩ = some (.int .i64 t112) := (blk_cell BK114.out 2).trans rfl
                    have hfz89_0 := blk_frozen BK114.out 0
                    have hfz89_1 := blk_frozen BK114.out 1
                    have hfz89_2 := blk_frozen BK114.out 2
                    go_wp2_with (first | (go_at_call 14; (with_reducible refine (laws_eqPiece.calls kj12 _ _ t121 t124 t125 _ _ t108 t111 t112 false _ ?side1 ?side2 ?side3 ?side4 A73.out).mono ?_); (case side1 => repeat (first | exact (Kd.R_reads' HO_128000.out).2.2 | (with_reducible refine Kd.C_alloc ?_ _) | (with_reducible refine Kd.C_drewN ?_ _) | (with_reducible refine Kd.C_drew ?_))); (case side2 => exact (Kd.R_reads' HO_128000.out).2.1); (case side3 => repeat (first | exact (Kd.R_reads' HO_115000.out).2.2 | (with_reducible refine Kd.C_alloc ?_ _) | (with_reducible refine Kd.C_drewN ?_ _) | (with_reducible refine Kd.C_drew ?_))); (case side4 => exact (Kd.R_reads' HO_115000.out).2.1); rintro e w90 ⟨rfl, hb⟩; have n0_ := Aside0.mk (Kd.R_below (by exact Ho.RS <| HO_115000.out) hb); have n1_ := Aside0.mk (Kd.R_below (by exact Ho.RS <| HO_121000.out) hb); have n2_ := Aside0.mk (Kd.R_below (by exact Ho.RS <| HO_128000.out) hb); have n3_ := Aside0.mk (Kd.R_below (by exact Ho.RS <| HO131.out) hb); have n4_ := Aside0.mk (blk_below (bS BK101.out) hb); have n5_ := Aside0.mk (blk_below (bS BK114.out) hb); have n6_ := Aside0.mk (blk_below (bS BK120.out) hb); have n7_ := Aside0.mk (blk_below (bS BK127.out) hb); have n8_ := Aside0.mk (below_step (by exact eS HB.out) hb); clear HO_115000; clear HO_121000; clear HO_128000; clear HO131; clear BK101; clear BK114; clear BK120; clear BK127; clear HB; have HO_115000 := n0_; have HO_121000 := n1_; have HO_128000 := n2_; have HO131 := n3_; have BK101 := n4_; have BK114 := n5_; have BK120 := n6_; have BK127 := n7_; have HB := n8_; clear n0_ n1_ n2_ n3_ n4_ n5_ n6_ n7_ n8_; (try clear hb); (try clear hb2); (try clear hk); (try clear hi)))
                    go_meet
                    case rel => exact ⟨_, (true), (by first | rfl | (simp; done) | (simp [*]; done)), H', ⟨by have := HJ12.out; first | omega | exact Nat.le_refl _⟩, ⟨by exact Ho.RS <| Kd.R_mono HO_115000.out (fun _ hk => ⟨hk.1, hk.2.1⟩)⟩, ⟨by exact Ho.RS <| Kd.R_mono HO_121000.out (fun _ hk => ⟨hk.1.1, hk.1.2⟩)⟩, ⟨by exact Ho.RS <| Kd.R_mono HO_128000.out (fun _ hk => ⟨hk.1, hk.2.1⟩)⟩, ⟨by exact bS BK101.out⟩, ⟨by exact bS BK114.out⟩, ⟨by exact bS BK120.out⟩, ⟨by exact bS BK127.out⟩, ⟨by exact eS HB.out⟩⟩
            case rest =>
              clear HC62
              try clear c1
              try clear c2
              try clear p2
              try clear c3
              try clear c4
              try clear c5
              try clear c5b0
              try clear c6
              try clear c7
              try clear c8
              try clear c10
              try clear c12
              try clear c14
              try clear c15
              try clear c16
              try clear c17
              try clear c23
              try clear c29
              try clear c30
              try clear c35
              try clear c36
              try clear c37
              try clear c40
              try clear c41
              try clear c42
              try clear c43
              try clear c45
              try clear c46
              try clear c49
              try clear c50
              try clear c51
              try clear c53
              try clear c54
              try clear c57
              try clear c60
              try clear c67
              try clear c68
              try clear c69
              try clear c72
              try clear c72b0
              try clear c74
              try clear c75
              try clear c76
              try clear c77
              try clear c79
              try clear c80
              try clear c83
              try clear c84
              try clear c85
              try clear c87
              try clear c88
              try clear hcz15_0
              try clear hcz15_1
              try clear hcz15_2
              try clear hcz17_0
              try clear hcz17_1
              try clear hcz17_2
              try clear hcz24_0
              try clear hcz24_1
              try clear hcz24_2
              try clear hcz25_0
              try clear hcz25_1
              try clear hcz25_2
              try clear hcz31_0
              try clear hcz31_1
              try clear hcz31_2
              try clear hcz38_0
              try clear hcz38_1
              try clear hcz38_2
              try clear hcz44_0
              try clear hcz44_1
              try clear hcz44_2
              try clear hcz47_0
              try clear hcz47_1
              try clear hcz47_2
              try clear hcz52_0
              try clear hcz52_1
              try clear hcz52_2
              try clear hcz55_0
              try clear hcz55_1
              try clear hcz55_2
              try clear hcz70_0
              try clear hcz70_1
              try clear hcz70_2
              try clear hcz78_0
              try clear hcz78_1
              try clear hcz78_2
              try clear hcz7_0
              try clear hcz7_1
              try clear hcz7_2
              try clear hcz81_0
              try clear hcz81_1
              try clear hcz81_2
              try clear hcz86_0
              try clear hcz86_1
              try clear hcz86_2
              try clear hcz89_0
              try clear hcz89_1
              try clear hcz89_2
              try clear hfz15_0
              try clear hfz15_1
              try clear hfz15_2
              try clear hfz17_0
              try clear hfz17_1
              try clear hfz17_2
              try clear hfz24_0
              try clear hfz24_1
              try clear hfz24_2
              try clear hfz25_0
              try clear hfz25_1
              try clear hfz25_2
              try clear hfz31_0
              try clear hfz31_1
              try clear hfz31_2
              try clear hfz38_0
              try clear hfz38_1
              try clear hfz38_2
              try clear hfz44_0
              try clear hfz44_1
              try clear hfz44_2
              try clear hfz47_0
              try clear hfz47_1
              try clear hfz47_2
              try clear hfz52_0
              try clear hfz52_1
              try clear hfz52_2
              try clear hfz55_0
              try clear hfz55_1
              try clear hfz55_2
              try clear hfz70_0
              try clear hfz70_1
              try clear hfz70_2
              try clear hfz78_0
              try clear hfz78_1
              try clear hfz78_2
              try clear hfz7_0
              try clear hfz7_1
              try clear hfz7_2
              try clear hfz81_0
              try clear hfz81_1
              try clear hfz81_2
              try clear hfz86_0
              try clear hfz86_1
              try clear hfz86_2
              try clear hfz89_0
              try clear hfz89_1
              try clear hfz89_2
              try clear p2
              obtain ⟨kq, x69_61, rfl, HA, HJ61, HO_115000, HO_121000, HO_128000, BK101, BK114, BK120, BK127, HB⟩ := hcut
              have hl121000_61 := (Kd.R_reads' HO_121000.out).1
              rw [hl121000_61] at HO_121000
              (try simp only [hl121000_61])
              (try simp only [hl121000_61] at BK101)
              (try simp only [hl121000_61] at BK114)
              (try simp only [hl121000_61] at BK120)
              (try simp only [hl121000_61] at BK127)
              (try simp only [hl121000_61] at HO_115000)
              (try simp only [hl121000_61] at HO_128000)
              cases kq with
              | zero => exact absurd HA.out (by simp [laws_FnExactWithMark.j1])
              | succ kj61 =>
                have H := HA.out
                clear HA
                simp only [laws_FnExactWithMark.j1] at H
                by_cases c91 : x69_61 = true
                · subst c91
                  have H1 : (some false) = some r := by rw [if_pos rfl] at H; exact H
                  clear H
                  have H := H1
                  clear H1
                  as_aux_lemma =>
                    exact absurd ((Option.some.inj H).trans HT.out) (by decide)
                · replace c91 := Bool.eq_false_iff.mpr c91
                  subst c91
                  have H1 : ((laws_markPiece.f kj61 t121 t124 t125 1).bind fun bt138 => ((laws_heldPiece.f kj61 bt138.2 t124 t125 1).bind fun t140 => (if t140 < 0 then (some false) else (if t140 = bt138.1 then ((laws_toPiece.f kj61 l0_0 a0_1 a0_2).bind fun bt141 => ((impl_WithMark.f kj61 bt141.1 bt141.2.1 bt141.2.2 a1 a2).bind fun bt146 => ((laws_eqPiece.f kj61 bt146.1 bt146.2.1 bt146.2.2.1 t108 t111 t112).bind fun t153 => (if t153 = true then (laws_FnExactWithMark.j2 kj61 bt138.1 (bt146.2.2.2 != t113) bt138.2 t124 t125) else (laws_FnExactWithMark.j2 kj61 bt138.1 true bt138.2 t124 t125))))) else (some false))))) = some r := by rw [if_neg (show ¬ (false = true) by decide)] at H; exact H
                  clear H
                  have H := H1
                  clear H1
                  replace H := Option.bind_eq_some_iff.mp H
                  obtain ⟨⟨t138, t139⟩, A920, H⟩ := H
                  replace H : ((laws_heldPiece.f kj61 t139 t124 t125 1).bind fun t140 => (if t140 < 0 then (some false) else (if t140 = t138 then ((laws_toPiece.f kj61 l0_0 a0_1 a0_2).bind fun bt141 => ((impl_WithMark.f kj61 bt141.1 bt141.2.1 bt141.2.2 a1 a2).bind fun bt146 => ((laws_eqPiece.f kj61 bt146.1 bt146.2.1 bt146.2.2.1 t108 t111 t112).bind fun t153 => (if t153 = true then (laws_FnExactWithMark.j2 kj61 t138 (bt146.2.2.2 != t113) t139 t124 t125) else (laws_FnExactWithMark.j2 kj61 t138 true t139 t124 t125))))) else (some false)))) = some r := H
                  have A92 := Aside0.mk A920
                  clear A920
                  replace H := Option.bind_eq_some_iff.mp H
                  obtain ⟨t140, A930, H⟩ := H
                  replace H : (if t140 < 0 then (some false) else (if t140 = t138 then ((laws_toPiece.f kj61 l0_0 a0_1 a0_2).bind fun bt141 => ((impl_WithMark.f kj61 bt141.1 bt141.2.1 bt141.2.2 a1 a2).bind fun bt146 => ((laws_eqPiece.f kj61 bt146.1 bt146.2.1 bt146.2.2.1 t108 t111 t112).bind fun t153 => (if t153 = true then (laws_FnExactWithMark.j2 kj61 t138 (bt146.2.2.2 != t113) t139 t124 t125) else (laws_FnExactWithMark.j2 kj61 t138 true t139 t124 t125))))) else (some false))) = some r := H
                  have A93 := Aside0.mk A930
                  clear A930
                  by_cases c94 : t140 < 0
                  · rw [if_pos c94] at H
                    have c94b0 : decide (t140 < 0) = true := decide_eq_true c94
                    clear c94
                    as_aux_lemma =>
                      exact absurd ((Option.some.inj H).trans HT.out) (by decide)
                  · rw [if_neg c94] at H
                    have c94b0 : decide (t140 < 0) = false := decide_eq_false c94
                    clear c94
                    by_cases c95 : t140 = t138
                    · rw [if_pos c95] at H
                      have c95b0 : (t140 == t138) = true := beq_iff_eq.mpr c95
                      have c95b1 : (t140 != t138) = false := bne_eq_false_iff_eq.mpr c95
                      clear c95
                      replace H := Option.bind_eq_some_iff.mp H
                      obtain ⟨⟨t141, t144, t145⟩, A960, H⟩ := H
                      replace H : ((impl_WithMark.f kj61 t141 t144 t145 a1 a2).bind fun bt146 => ((laws_eqPiece.f kj61 bt146.1 bt146.2.1 bt146.2.2.1 t108 t111 t112).bind fun t153 => (if t153 = true then (laws_FnExactWithMark.j2 kj61 t138 (bt146.2.2.2 != t113) t139 t124 t125) else (laws_FnExactWithMark.j2 kj61 t138 true t139 t124 t125)))) = some r := H
                      have A96 := Aside0.mk A960
                      clear A960
                      replace H := Option.bind_eq_some_iff.mp H
                      obtain ⟨⟨t146, t149, t150, t151⟩, A970, H⟩ := H
                      replace H : ((laws_eqPiece.f kj61 t146 t149 t150 t108 t111 t112).bind fun t153 => (if t153 = true then (laws_FnExactWithMark.j2 kj61 t138 (t151 != t113) t139 t124 t125) else (laws_FnExactWithMark.j2 kj61 t138 true t139 t124 t125))) = some r := H
                      have A97 := Aside0.mk A970
                      clear A970
                      have HC98 := Aside0.mk H
                      clear H
                      have hnb99 := NB127_101.out
                      have hnc99 := NB101_127.out
                      have hnb100 := NB127_114.out
                      have hnc100 := NB114_127.out
                      have hnb101 := NB127_120.out
                      have hnc101 := NB120_127.out
                      have hcz102_0 : wc.cell? ⟨gb127, 0, none⟩ = some (.slice Ao34 t121.length co34) := (blk_cell BK127.out 0).trans rfl
                      have hcz102_1 : wc.cell? ⟨gb127, 1, none⟩ = some (.int .i64 t124) := (blk_cell BK127.out 1).trans rfl
                      have hcz102_2 : wc.cell? ⟨gb127, 2, none⟩ = some (.int .i64 t125) := (blk_cell BK127.out 2).trans rfl
                      have hfz102_0 := blk_frozen BK127.out 0
                      have hfz102_1 := blk_frozen BK127.out 1
                      have hfz102_2 := blk_frozen BK127.out 2
                      go_upto_region 25 with (first | ((with_reducible refine gate_callee (f := 17) rfl ?_); refine goesL_ (some 72) rfl rfl Try.func17 (by kernel_rfl) rfl #[.agg #[.slice Ao34 t121.length co34, .int .i64 t124, .int .i64 t125], .int .i64 1] rfl (by (try simp only [List.map_toArray, List.map_cons, List.map_nil]); first | done | rfl | (simp only [List.length_drop, List.length_take]; rfl)) ?_; (with_reducible refine (laws_markPiece.calls kj61 (fun k_ => some k_ = (.slice Ao34 t121.length co34 : Value).ownBlock) (.slice Ao34 t121.length co34) t121 t124 t125 1 t138 t139 w _ ?side1 ?side2 A92.out).mono ?_); (case side1 => exact eS HB.out); (case side2 => exact Kd.R_tight rfl HO_128000.out); rintro e w103 ⟨rfl, hy0, hb, hkp⟩; refine ⟨_, rfl, ?_⟩; have n0_ := Aside0.mk (Kd.R_mono (ok' := fun k_ => some k_ ≠ (.slice Ao28 t136.length co28 : Value).ownBlock ∧ some k_ ≠ (.slice Ao34 t121.length co34 : Value).ownBlock) (Kd.R_keptB (HO_115000.out) hkp (fun k_ hk_ hs_ => (hk_.2) hs_)) (fun k_ hk_ => ⟨hk_.1.1, hk_.1.2⟩)); have n1_ := Aside0.mk (Kd.R_mono (ok' := fun k_ => some k_ ≠ (.slice Ao22 t108.length co22 : Value).ownBlock ∧ some k_ ≠ (.slice Ao34 t121.length co34 : Value).ownBlock) (Kd.R_keptB (HO_121000.out) hkp (fun k_ hk_ hs_ => (hk_.2) hs_)) (fun k_ hk_ => ⟨hk_.1.1, hk_.1.2⟩)); have n2_ := Aside0.mk (Kd.R_reok rfl hy0 (fun k_ e_ => HO_128000.out.1 k_ e_)); have n3_ := Aside0.mk (blk_kept (by exact bS BK101.out) hkp (fun hs_ => (fun e_ => (Kd.R_ne HO_128000.out BK101.out (by decide)) e_) hs_)); have n4_ := Aside0.mk (blk_kept (by exact bS BK114.out) hkp (fun hs_ => (fun e_ => (Kd.R_ne HO_128000.out BK114.out (by decide)) e_) hs_)); have n5_ := Aside0.mk (blk_kept (by exact bS BK120.out) hkp (fun hs_ => (fun e_ => (Kd.R_ne HO_128000.out BK120.out (by decide)) e_) hs_)); have n6_ := Aside0.mk (blk_kept (by exact bS BK127.out) hkp (fun hs_ => (fun e_ => (Kd.R_ne HO_128000.out BK127.out (by decide)) e_) hs_)); have n7_ := Aside0.mk (hb); clear HO_115000; clear HO_121000; clear HO_128000; clear BK101; clear BK114; clear BK120; clear BK127; clear HB; have HO_115000 := n0_; have HO_121000 := n1_; have HO_128000 := n2_; have BK101 := n3_; have BK114 := n4_; have BK120 := n5_; have BK127 := n6_; have HB := n7_; clear n0_ n1_ n2_ n3_ n4_ n5_ n6_ n7_; (try clear hb); (try clear hkp); (try clear hy0); have hcz104_0 : w103.cell? ⟨gb127, 0, none⟩ = some (.slice Ao34 t121.length co34) := (blk_cell BK127.out 0).trans rfl; have hcz104_1 : w103.cell? ⟨gb127, 1, none⟩ = some (.int .i64 t124) := (blk_cell BK127.out 1).trans rfl; have hcz104_2 : w103.cell? ⟨gb127, 2, none⟩ = some (.int .i64 t125) := (blk_cell BK127.out 2).trans rfl; have hfz104_0 := blk_frozen BK127.out 0; have hfz104_1 := blk_frozen BK127.out 1; have hfz104_2 := blk_frozen BK127.out 2) | ((with_reducible refine gate_callee (f := 18) rfl ?_); refine goesL_ (some 75) rfl rfl Try.func18 (by kernel_rfl) rfl #[.agg #[.slice Ao34 t139.length co34, .int .i64 t124, .int .i64 t125], .int .i64 1] rfl (by (try simp only [List.map_toArray, List.map_cons, List.map_nil]); first | done | (rw [show t139.length = t121.length from (Kd.R_reads' HO_128000.out).1.symm] <;> rfl) | rfl | (simp only [List.length_drop, List.length_take]; rfl)) ?_; (with_reducible refine (laws_heldPiece.calls kj61 _ _ t139 t124 t125 1 t140 _ ?side1 ?side2 A93.out).mono ?_); (case side1 => repeat (first | exact (Kd.R_reads' HO_128000.out).2.2 | (with_reducible refine Kd.C_alloc ?_ _) | (with_reducible refine Kd.C_drewN ?_ _) | (with_reducible refine Kd.C_drew ?_))); (case side2 => rw [show t139.length = t121.length from (Kd.R_reads' HO_128000.out).1.symm]; exact (Kd.R_reads' HO_128000.out).2.1); rintro e w105 ⟨rfl, hb⟩; refine ⟨_, rfl, ?_⟩; have n0_ := Aside0.mk (Kd.R_below (by exact Ho.RS <| HO_115000.out) hb); have n1_ := Aside0.mk (Kd.R_below (by exact Ho.RS <| HO_121000.out) hb); have n2_ := Aside0.mk (Kd.R_below (by exact Ho.RS <| HO_128000.out) hb); have n3_ := Aside0.mk (blk_below (bS BK101.out) hb); have n4_ := Aside0.mk (blk_below (bS BK114.out) hb); have n5_ := Aside0.mk (blk_below (bS BK120.out) hb); have n6_ := Aside0.mk (blk_below (bS BK127.out) hb); have n7_ := Aside0.mk (below_step (by exact eS HB.out) hb); clear HO_115000; clear HO_121000; clear HO_128000; clear BK101; clear BK114; clear BK120; clear BK127; clear HB; have HO_115000 := n0_; have HO_121000 := n1_; have HO_128000 := n2_; have BK101 := n3_; have BK114 := n4_; have BK120 := n5_; have BK127 := n6_; have HB := n7_; clear n0_ n1_ n2_ n3_ n4_ n5_ n6_ n7_; (try clear hb); (try clear hb2); (try clear hk); (try clear hi); have hnb106 := NB101_114.out; have hnc106 := NB114_101.out; have hnb107 := NB101_120.out; have hnc107 := NB120_101.out; have hcz108_0 : w105.cell? ⟨gb101, 0, none⟩ = some (.slice A0_0 l0_0.length c0_0) := (blk_cell BK101.out 0).trans rfl; have hcz108_1 : w105.cell? ⟨gb101, 1, none⟩ = some (.int .i64 a0_1) := (blk_cell BK101.out 1).trans rfl; have hcz108_2 : w105.cell? ⟨gb101, 2, none⟩ = some (.int .i64 a0_2) := (blk_cell BK101.out 2).trans rfl; have hfz108_0 := blk_frozen BK101.out 0; have hfz108_1 := blk_frozen BK101.out 1; have hfz108_2 := blk_frozen BK101.out 2) | ((with_reducible refine gate_callee (f := 12) rfl ?_); refine goesL_ (some 83) rfl rfl Try.func12 (by kernel_rfl) rfl #[.agg #[.slice A0_0 l0_0.length c0_0, .int .i64 a0_1, .int .i64 a0_2]] rfl (by (try simp only [List.map_toArray, List.map_cons, List.map_nil]); first | done | rfl | (simp only [List.length_drop, List.length_take]; rfl)) ?_; (with_reducible refine (laws_toPiece.calls kj61 _ _ l0_0 a0_1 a0_2 t141 t144 t145 _ ?side1 ?side2 A96.out).mono ?_); (case side1 => repeat (first | exact (Kd.C_below HR0_0.out HB.out) | (with_reducible refine Kd.C_alloc ?_ _) | (with_reducible refine Kd.C_drewN ?_ _) | (with_reducible refine Kd.C_drew ?_))); (case side2 => exact HC0_0.out); rintro e w109 ⟨v142, rfl, ho0, hb⟩; refine ⟨_, rfl, ?_⟩; have n0_ := Aside0.mk (Kd.R_elder' (by exact Ho.RS <| HO_115000.out) (Kd.R_base ho0) hb); have n1_ := Aside0.mk (Kd.R_elder' (by exact Ho.RS <| HO_121000.out) (Kd.R_base ho0) hb); have n2_ := Aside0.mk (Kd.R_elder' (by exact Ho.RS <| HO_128000.out) (Kd.R_base ho0) hb); have n3_ := Aside0.mk (Kd.R_lower (Kd.R_new' (Kd.R_new' (Kd.R_new' ho0 (Kd.R_lt (by exact Ho.RS <| HO_115000.out))) (Kd.R_lt (by exact Ho.RS <| HO_121000.out))) (Kd.R_lt (by exact Ho.RS <| HO_128000.out))) (below_size (by exact eS HB.out))); have n4_ := Aside0.mk (blk_below (bS BK101.out) hb); have n5_ := Aside0.mk (blk_below (bS BK114.out) hb); have n6_ := Aside0.mk (blk_below (bS BK120.out) hb); have n7_ := Aside0.mk (blk_below (bS BK127.out) hb); have n8_ := Aside0.mk (below_step (by exact eS HB.out) hb); clear HO_115000; clear HO_121000; clear HO_128000; clear BK101; clear BK114; clear BK120; clear BK127; clear HB; have HO_115000 := n0_; have HO_121000 := n1_; have HO_128000 := n2_; have HO143 := n3_; have BK101 := n4_; have BK114 := n5_; have BK120 := n6_; have BK127 := n7_; have HB := n8_; clear n0_ n1_ n2_ n3_ n4_ n5_ n6_ n7_ n8_; (try clear hb); (try clear hb2); (try clear hk); (try clear hi); (try clear ho0); obtain ⟨Ao110, co110, eo110⟩ := Kd.R_slice HO143.out; subst eo110) | ((with_reducible refine gate_callee (f := 16) rfl ?_); refine goesL_ (some 86) rfl rfl Try.func16 (by kernel_rfl) rfl #[.agg #[.slice Ao110 t141.length co110, .int .i64 t144, .int .i64 t145], .int .i64 a1, .bool a2] rfl (by (try simp only [List.map_toArray, List.map_cons, List.map_nil]); first | done | rfl | (simp only [List.length_drop, List.length_take]; rfl)) ?_; (with_reducible refine (impl_WithMark.calls kj61 _ _ t141 t144 t145 a1 a2 t146 t149 t150 t151 _ ?side1 ?side2 A97.out).mono ?_); (case side1 => repeat (first | exact (Kd.R_reads' HO143.out).2.2 | (with_reducible refine Kd.C_alloc ?_ _) | (with_reducible refine Kd.C_drewN ?_ _) | (with_reducible refine Kd.C_drew ?_))); (case side2 => exact (Kd.R_reads' HO143.out).2.1); rintro e w111 ⟨v147, rfl, ho0, hb⟩; refine ⟨_, rfl, ?_⟩; have n0_ := Aside0.mk (Kd.R_elder' (by exact Ho.RS <| HO_115000.out) (Kd.R_base ho0) hb); have n1_ := Aside0.mk (Kd.R_elder' (by exact Ho.RS <| HO_121000.out) (Kd.R_base ho0) hb); have n2_ := Aside0.mk (Kd.R_elder' (by exact Ho.RS <| HO_128000.out) (Kd.R_base ho0) hb); have n3_ := Aside0.mk (Kd.R_elder' (by exact Ho.RS <| HO143.out) (Kd.R_base ho0) hb); have n4_ := Aside0.mk (Kd.R_lower (Kd.R_new' (Kd.R_new' (Kd.R_new' (Kd.R_new' ho0 (Kd.R_lt (by exact Ho.RS <| HO_115000.out))) (Kd.R_lt (by exact Ho.RS <| HO_121000.out))) (Kd.R_lt (by exact Ho.RS <| HO_128000.out))) (Kd.R_lt (by exact Ho.RS <| HO143.out))) (below_size (by exact eS HB.out))); have n5_ := Aside0.mk (blk_below (bS BK101.out) hb); have n6_ := Aside0.mk (blk_below (bS BK114.out) hb); have n7_ := Aside0.mk (blk_below (bS BK120.out) hb); have n8_ := Aside0.mk (blk_below (bS BK127.out) hb); have n9_ := Aside0.mk (below_step (by exact eS HB.out) hb); clear HO_115000; clear HO_121000; clear HO_128000; clear HO143; clear BK101; clear BK114; clear BK120; clear BK127; clear HB; have HO_115000 := n0_; have HO_121000 := n1_; have HO_128000 := n2_; have HO143 := n3_; have HO148 := n4_; have BK101 := n5_; have BK114 := n6_; have BK120 := n7_; have BK127 := n8_; have HB := n9_; clear n0_ n1_ n2_ n3_ n4_ n5_ n6_ n7_ n8_ n9_; (try clear hb); (try clear hb2); (try clear hk); (try clear hi); (try clear ho0)) | ((with_reducible refine gate_dst (N := 16) rfl ?_); refine box_event ?hg (N := 16) ?hd (cs := #[.slice none 0 0, .int .i64 0, .int .i64 0]) (t := 27) ?hr ?_; (case hd => rfl); (case hg => rfl); (case hr => first | (go_simp; done) | (go_simp; rfl)); intro gb152 hg w112 hbox hb; have n0_ := Aside0.mk (Kd.R_below (by exact Ho.RS <| HO_115000.out) hb); have n1_ := Aside0.mk (Kd.R_below (by exact Ho.RS <| HO_121000.out) hb); have n2_ := Aside0.mk (Kd.R_below (by exact Ho.RS <| HO_128000.out) hb); have n3_ := Aside0.mk (Kd.R_below (by exact Ho.RS <| HO143.out) hb); have n4_ := Aside0.mk (Kd.R_below (by exact Ho.RS <| HO148.out) hb); have n5_ := Aside0.mk (blk_below (bS BK101.out) hb); have n6_ := Aside0.mk (blk_below (bS BK114.out) hb); have n7_ := Aside0.mk (blk_below (bS BK120.out) hb); have n8_ := Aside0.mk (blk_below (bS BK127.out) hb); have n9_ := Aside0.mk (below_step (by exact eS HB.out) hb); have n10_ := Aside0.mk (hbox); have n11_ := Aside0.mk ((by rw [hg]; exact (below_size (by exact eS HB.out)) : w.heap.size ≤ gb152)); have n12_ := Aside0.mk ((by rw [hg]; exact (below_size (by exact eS HB.out)) : w.heap.size ≤ gb152)); have n13_ := Aside0.mk ((by rw [hg]; exact Nat.ne_of_lt (blk_lt (bS BK101.out)) : gb101 ≠ gb152)); have n14_ := Aside0.mk ((by rw [hg]; exact Nat.ne_of_gt (blk_lt (bS BK101.out)) : gb152 ≠ gb101)); have n15_ := Aside0.mk ((by rw [hg]; exact Nat.ne_of_lt (blk_lt (bS BK114.out)) : gb114 ≠ gb152)); have n16_ := Aside0.mk ((by rw [hg]; exact Nat.ne_of_gt (blk_lt (bS BK114.out)) : gb152 ≠ gb114)); have n17_ := Aside0.mk ((by rw [hg]; exact Nat.ne_of_lt (blk_lt (bS BK120.out)) : gb120 ≠ gb152)); have n18_ := Aside0.mk ((by rw [hg]; exact Nat.ne_of_gt (blk_lt (bS BK120.out)) : gb152 ≠ gb120)); have n19_ := Aside0.mk ((by rw [hg]; exact Nat.ne_of_lt (blk_lt (bS BK127.out)) : gb127 ≠ gb152)); have n20_ := Aside0.mk ((by rw [hg]; exact Nat.ne_of_gt (blk_lt (bS BK127.out)) : gb152 ≠ gb127)); clear HO_115000; clear HO_121000; clear HO_128000; clear HO143; clear HO148; clear BK101; clear BK114; clear BK120; clear BK127; clear HB; have HO_115000 := n0_; have HO_121000 := n1_; have HO_128000 := n2_; have HO143 := n3_; have HO148 := n4_; have BK101 := n5_; have BK114 := n6_; have BK120 := n7_; have BK127 := n8_; have HB := n9_; have BK152 := n10_; have GW152 := n11_; have GE152 := n12_; have NB101_152 := n13_; have NB152_101 := n14_; have NB114_152 := n15_; have NB152_114 := n16_; have NB120_152 := n17_; have NB152_120 := n18_; have NB127_152 := n19_; have NB152_127 := n20_; clear n0_ n1_ n2_ n3_ n4_ n5_ n6_ n7_ n8_ n9_ n10_ n11_ n12_ n13_ n14_ n15_ n16_ n17_ n18_ n19_ n20_; clear hb hbox hg; obtain ⟨Ao113, co113, eo113⟩ := Kd.R_slice HO148.out; subst eo113; have hnb114 := NB152_101.out; have hnc114 := NB101_152.out; have hnb115 := NB152_114.out; have hnc115 := NB114_152.out; have hnb116 := NB152_120.out; have hnc116 := NB120_152.out; have hnb117 := NB152_127.out; have hnc117 := NB127_152.out; have hcz118_0 : w112.cell? ⟨gb152, 0, none⟩ = some (.slice none 0 0) := (blk_cell BK152.out 0).trans rfl; have hcz118_1 : w112.cell? ⟨gb152, 1, none⟩ = some (.int .i64 0) := (blk_cell BK152.out 1).trans rfl; have hcz118_2 : w112.cell? ⟨gb152, 2, none⟩ = some (.int .i64 0) := (blk_cell BK152.out 2).trans rfl; have hfz118_0 := blk_frozen BK152.out 0; have hfz118_1 := blk_frozen BK152.out 1; have hfz118_2 := blk_frozen BK152.out 2))
                      (try simp only [Act.put, List.setIfInBounds_toArray, List.set_cons_zero, List.set_cons_succ])
                      go_cut [97] (fun v97 wc => ∃ (kq : Nat) (x97_97 : Bool), v97 = .bool x97_97 ∧ Aside0 (laws_FnExactWithMark.j2 kq t138 x97_97 t139 t124 t125 = some r) ∧ Aside0 (kq ≤ kj61) ∧ Aside0 (Kd.R (Kd.int .i64) 3 wc w.heap.size (fun k_ => some k_ ≠ ((.slice Ao28 t136.length co28) : Value).ownBlock ∧ some k_ ≠ ((.slice Ao34 t121.length co34) : Value).ownBlock ∧ some k_ ≠ ((.slice Ao113 t146.length co113) : Value).ownBlock) (.slice Ao22 t108.length co22) t108) ∧ Aside0 (Kd.R (Kd.int .i64) 3 wc w.heap.size (fun k_ => some k_ ≠ ((.slice Ao22 t108.length co22) : Value).ownBlock ∧ some k_ ≠ ((.slice Ao34 t121.length co34) : Value).ownBlock ∧ some k_ ≠ ((.slice Ao113 t146.length co113) : Value).ownBlock) (.slice Ao28 t136.length co28) t136) ∧ Aside0 (Kd.R (Kd.int .i64) 3 wc w.heap.size (fun k_ => some k_ ≠ ((.slice Ao22 t108.length co22) : Value).ownBlock ∧ some k_ ≠ ((.slice Ao28 t136.length co28) : Value).ownBlock ∧ some k_ ≠ ((.slice Ao113 t146.length co113) : Value).ownBlock) (.slice Ao34 t121.length co34) t139) ∧ Aside0 (Kd.R (Kd.int .i64) 3 wc w.heap.size (fun k_ => some k_ ≠ ((.slice Ao22 t108.length co22) : Value).ownBlock ∧ some k_ ≠ ((.slice Ao28 t136.length co28) : Value).ownBlock ∧ some k_ ≠ ((.slice Ao34 t121.length co34) : Value).ownBlock) (.slice Ao113 t146.length co113) t146) ∧ Aside0 (wc.heap[gb101]? = some (.cells #[(.slice A0_0 l0_0.length c0_0), .int .i64 a0_1, .int .i64 a0_2] 24 (0, 0))) ∧ Aside0 (wc.heap[gb114]? = some (.cells #[(.slice Ao22 t108.length co22), .int .i64 t111, .int .i64 t112] 27 (0, 0))) ∧ Aside0 (wc.heap[gb120]? = some (.cells #[(.slice Ao28 t136.length co28), .int .i64 t118, .int .i64 t119] 27 (0, 0))) ∧ Aside0 (wc.heap[gb127]? = some (.cells #[(.slice Ao34 t121.length co34), .int .i64 t124, .int .i64 t125] 27 (0, 0))) ∧ Aside0 (wc.heap[gb152]? = some (.cells #[(.slice Ao113 t146.length co113), .int .i64 t149, .int .i64 t150] 27 (0, 0))) ∧ Aside0 (Below w.heap.size w wc))
                      case first =>
                        have H := HC98.out
                        clear HC98
                        replace H := Option.bind_eq_some_iff.mp H
                        obtain ⟨t153, A1190, H⟩ := H
                        replace H : (if t153 = true then (laws_FnExactWithMark.j2 kj61 t138 (t151 != t113) t139 t124 t125) else (laws_FnExactWithMark.j2 kj61 t138 true t139 t124 t125)) = some r := H
                        have A119 := Aside0.mk A1190
                        clear A1190
                        by_cases c120 : t153 = true
                        · subst c120
                          have H1 : (laws_FnExactWithMark.j2 kj61 t138 (t151 != t113) t139 t124 t125) = some r := by rw [if_pos rfl] at H; exact H
                          clear H
                          have H := H1
                          clear H1
                          as_aux_lemma =>
                            have H' := Aside0.mk H
                            clear H
                            have hnb121 := NB152_101.out
                            have hnc121 := NB101_152.out
                            have hnb122 := NB152_114.out
                            have hnc122 := NB114_152.out
                            have hnb123 := NB152_120.out
                            have hnc123 := NB120_152.out
                            have hnb124 := NB152_127.out
                            have hnc124 := NB127_152.out
                            have hcz125_0 : w112.cell? ⟨gb152, 0, none⟩ = some (.slice none 0 0) := (blk_cell BK152.out 0).trans rfl
                            have hcz125_1 : w112.cell? ⟨gb152, 1, none⟩ = some (.int .i64 0) := (blk_cell BK152.out 1).trans rfl
                            have hcz125_2 : w112.cell? ⟨gb152, 2, none⟩ = some (.int .i64 0) := (blk_cell BK152.out 2).trans rfl
                            have hfz125_0 := blk_frozen BK152.out 0
                            have hfz125_1 := blk_frozen BK152.out 1
                            have hfz125_2 := blk_frozen BK152.out 2
                            have hnb126 := NB114_101.out
                            have hnc126 := NB101_114.out
                            have hnb127 := NB114_120.out
                            have hnc127 := NB120_114.out
                            have hnb128 := NB114_127.out
                            have hnc128 := NB127_114.out
                            have hcz129_0 : w112.cell? ⟨gb114, 0, none⟩ = some (.slice Ao22 t108.length co22) := (blk_cell BK114.out 0).trans rfl
                            have hcz129_1 : w112.cell? ⟨gb114, 1, none⟩ = some (.int .i64 t111) := (blk_cell BK114.out 1).trans rfl
                            have hcz129_2 : w112.cell? ⟨gb114, 2, none⟩ = some (.int .i64 t112) := (blk_cell BK114.out 2).trans rfl
                            have hfz129_0 := blk_frozen BK114.out 0
                            have hfz129_1 := blk_frozen BK114.out 1
                            have hfz129_2 := blk_frozen BK114.out 2
                            go_wp2_with (first | ((with_reducible refine gate_callee (f := 14) rfl ?_); refine goesL_ (some 91) rfl rfl Try.func14 (by kernel_rfl) rfl #[.agg #[.slice Ao113 t146.length co113, .int .i64 t149, .int .i64 t150], .agg #[.slice Ao22 t108.length co22, .int .i64 t111, .int .i64 t112]] rfl (by (try simp only [List.map_toArray, List.map_cons, List.map_nil]); first | done | rfl | (simp only [List.length_drop, List.length_take]; rfl)) ?_; (with_reducible refine (laws_eqPiece.calls kj61 _ _ t146 t149 t150 _ _ t108 t111 t112 true _ ?side1 ?side2 ?side3 ?side4 A119.out).mono ?_); (case side1 => refine (Kd.R_reads' (e := 3) (base := w.heap.size) (ok := fun k_ => ((((True ∧ some k_ ≠ (.slice Ao22 t108.length co22 : Value).ownBlock) ∧ some k_ ≠ (.slice Ao28 t136.length co28 : Value).ownBlock) ∧ some k_ ≠ (.slice Ao34 t121.length co34 : Value).ownBlock) ∧ some k_ ≠ (.slice Ao110 t141.length co110 : Value).ownBlock)) (n := t146.length) (c := co113) ?_).2.2; exact (by exact Ho.RS <| (Kd.R_mono (Kd.R_far (p := ⟨gb152, 2, none⟩) (Kd.R_far (p := ⟨gb152, 1, none⟩) (Kd.R_far (p := ⟨gb152, 0, none⟩) (Kd.R_types HO148.out BK152.out (by decide)) (fun _ hk => hk.2) (.slice Ao113 t146.length co113)) (fun _ hk => hk.2) (.int .i64 t149)) (fun _ hk => hk.2) (.int .i64 t150)) (fun _ h_ => h_.1)))); (case side2 => exact (Kd.R_reads' HO148.out).2.1); (case side3 => refine (Kd.R_reads' (e := 3) (base := w.heap.size) (ok := fun k_ => (((some k_ ≠ (.slice Ao28 t136.length co28 : Value).ownBlock ∧ some k_ ≠ (.slice Ao34 t121.length co34 : Value).ownBlock) ∧ some k_ ≠ (.slice Ao110 t141.length co110 : Value).ownBlock) ∧ some k_ ≠ (.slice Ao113 t146.length co113 : Value).ownBlock)) (n := t108.length) (c := co22) ?_).2.2; exact (by exact Ho.RS <| (Kd.R_mono (Kd.R_far (p := ⟨gb152, 2, none⟩) (Kd.R_far (p := ⟨gb152, 1, none⟩) (Kd.R_far (p := ⟨gb152, 0, none⟩) (Kd.R_types HO_115000.out BK152.out (by decide)) (fun _ hk => hk.2) (.slice Ao113 t146.length co113)) (fun _ hk => hk.2) (.int .i64 t149)) (fun _ hk => hk.2) (.int .i64 t150)) (fun _ h_ => h_.1)))); (case side4 => exact (Kd.R_reads' HO_115000.out).2.1); rintro e w130 ⟨rfl, hb⟩; refine ⟨_, rfl, ?_⟩; have n0_ := Aside0.mk (Kd.R_below (by exact Ho.RS <| (Kd.R_mono (Kd.R_far (p := ⟨gb152, 2, none⟩) (Kd.R_far (p := ⟨gb152, 1, none⟩) (Kd.R_far (p := ⟨gb152, 0, none⟩) (Kd.R_types HO_115000.out BK152.out (by decide)) (fun _ hk => hk.2) (.slice Ao113 t146.length co113)) (fun _ hk => hk.2) (.int .i64 t149)) (fun _ hk => hk.2) (.int .i64 t150)) (fun _ h_ => h_.1))) hb); have n1_ := Aside0.mk (Kd.R_below (by exact Ho.RS <| (Kd.R_mono (Kd.R_far (p := ⟨gb152, 2, none⟩) (Kd.R_far (p := ⟨gb152, 1, none⟩) (Kd.R_far (p := ⟨gb152, 0, none⟩) (Kd.R_types HO_121000.out BK152.out (by decide)) (fun _ hk => hk.2) (.slice Ao113 t146.length co113)) (fun _ hk => hk.2) (.int .i64 t149)) (fun _ hk => hk.2) (.int .i64 t150)) (fun _ h_ => h_.1))) hb); have n2_ := Aside0.mk (Kd.R_below (by exact Ho.RS <| (Kd.R_mono (Kd.R_far (p := ⟨gb152, 2, none⟩) (Kd.R_far (p := ⟨gb152, 1, none⟩) (Kd.R_far (p := ⟨gb152, 0, none⟩) (Kd.R_types HO_128000.out BK152.out (by decide)) (fun _ hk => hk.2) (.slice Ao113 t146.length co113)) (fun _ hk => hk.2) (.int .i64 t149)) (fun _ hk => hk.2) (.int .i64 t150)) (fun _ h_ => h_.1))) hb); have n3_ := Aside0.mk (Kd.R_below (by exact Ho.RS <| (Kd.R_mono (Kd.R_far (p := ⟨gb152, 2, none⟩) (Kd.R_far (p := ⟨gb152, 1, none⟩) (Kd.R_far (p := ⟨gb152, 0, none⟩) (Kd.R_types HO143.out BK152.out (by decide)) (fun _ hk => hk.2) (.slice Ao113 t146.length co113)) (fun _ hk => hk.2) (.int .i64 t149)) (fun _ hk => hk.2) (.int .i64 t150)) (fun _ h_ => h_.1))) hb); have n4_ := Aside0.mk (Kd.R_below (by exact Ho.RS <| (Kd.R_mono (Kd.R_far (p := ⟨gb152, 2, none⟩) (Kd.R_far (p := ⟨gb152, 1, none⟩) (Kd.R_far (p := ⟨gb152, 0, none⟩) (Kd.R_types HO148.out BK152.out (by decide)) (fun _ hk => hk.2) (.slice Ao113 t146.length co113)) (fun _ hk => hk.2) (.int .i64 t149)) (fun _ hk => hk.2) (.int .i64 t150)) (fun _ h_ => h_.1))) hb); have n5_ := Aside0.mk (blk_below (g := gb101) (o := .cells #[.slice A0_0 l0_0.length c0_0, .int .i64 a0_1, .int .i64 a0_2] 24 (0, 0)) (by (with_reducible repeat (first | refine blk_drewN ?_ _ | refine blk_drew ?_ | refine blk_alloc ?_ _)); refine blk_far ?_ NB101_152.out _; (with_reducible repeat (first | refine blk_drewN ?_ _ | refine blk_drew ?_ | refine blk_alloc ?_ _)); refine blk_far ?_ NB101_152.out _; (with_reducible repeat (first | refine blk_drewN ?_ _ | refine blk_drew ?_ | refine blk_alloc ?_ _)); refine blk_far ?_ NB101_152.out _; exact bS BK101.out) hb); have n6_ := Aside0.mk (blk_below (g := gb114) (o := .cells #[.slice Ao22 t108.length co22, .int .i64 t111, .int .i64 t112] 27 (0, 0)) (by (with_reducible repeat (first | refine blk_drewN ?_ _ | refine blk_drew ?_ | refine blk_alloc ?_ _)); refine blk_far ?_ NB114_152.out _; (with_reducible repeat (first | refine blk_drewN ?_ _ | refine blk_drew ?_ | refine blk_alloc ?_ _)); refine blk_far ?_ NB114_152.out _; (with_reducible repeat (first | refine blk_drewN ?_ _ | refine blk_drew ?_ | refine blk_alloc ?_ _)); refine blk_far ?_ NB114_152.out _; exact bS BK114.out) hb); have n7_ := Aside0.mk (blk_below (g := gb120) (o := .cells #[.slice Ao28 t136.length co28, .int .i64 t118, .int .i64 t119] 27 (0, 0)) (by (with_reducible repeat (first | refine blk_drewN ?_ _ | refine blk_drew ?_ | refine blk_alloc ?_ _)); refine blk_far ?_ NB120_152.out _; (with_reducible repeat (first | refine blk_drewN ?_ _ | refine blk_drew ?_ | refine blk_alloc ?_ _)); refine blk_far ?_ NB120_152.out _; (with_reducible repeat (first | refine blk_drewN ?_ _ | refine blk_drew ?_ | refine blk_alloc ?_ _)); refine blk_far ?_ NB120_152.out _; exact bS BK120.out) hb); have n8_ := Aside0.mk (blk_below (g := gb127) (o := .cells #[.slice Ao34 t121.length co34, .int .i64 t124, .int .i64 t125] 27 (0, 0)) (by (with_reducible repeat (first | refine blk_drewN ?_ _ | refine blk_drew ?_ | refine blk_alloc ?_ _)); refine blk_far ?_ NB127_152.out _; (with_reducible repeat (first | refine blk_drewN ?_ _ | refine blk_drew ?_ | refine blk_alloc ?_ _)); refine blk_far ?_ NB127_152.out _; (with_reducible repeat (first | refine blk_drewN ?_ _ | refine blk_drew ?_ | refine blk_alloc ?_ _)); refine blk_far ?_ NB127_152.out _; exact bS BK127.out) hb); have n9_ := Aside0.mk (blk_below (g := gb152) (o := .cells #[.slice Ao113 t146.length co113, .int .i64 t149, .int .i64 t150] 27 (0, 0)) (by (with_reducible repeat (first | refine blk_drewN ?_ _ | refine blk_drew ?_ | refine blk_alloc ?_ _)); refine blk_put (cs := #[.slice Ao113 t146.length co113, .int .i64 t149, .int .i64 0]) ?_ 2 _ rfl; (with_reducible repeat (first | refine blk_drewN ?_ _ | refine blk_drew ?_ | refine blk_alloc ?_ _)); refine blk_put (cs := #[.slice Ao113 t146.length co113, .int .i64 0, .int .i64 0]) ?_ 1 _ rfl; (with_reducible repeat (first | refine blk_drewN ?_ _ | refine blk_drew ?_ | refine blk_alloc ?_ _)); refine blk_put (cs := #[.slice none 0 0, .int .i64 0, .int .i64 0]) ?_ 0 _ rfl; exact bS BK152.out) hb); have n10_ := Aside0.mk (below_step (by repeat (first | (with_reducible first | exact HB.out | apply below_alloc | apply pw_below_drewN | apply below_drew1 | refine below_set ?_ GE101.out | refine below_set ?_ GE114.out | refine below_set ?_ GE120.out | refine below_set ?_ GE127.out | refine below_set ?_ GE152.out) | exact HB.out)) hb); clear HO_115000; clear HO_121000; clear HO_128000; clear HO143; clear HO148; clear BK101; clear BK114; clear BK120; clear BK127; clear BK152; clear HB; have HO_115000 := n0_; have HO_121000 := n1_; have HO_128000 := n2_; have HO143 := n3_; have HO148 := n4_; have BK101 := n5_; have BK114 := n6_; have BK120 := n7_; have BK127 := n8_; have BK152 := n9_; have HB := n10_; clear n0_ n1_ n2_ n3_ n4_ n5_ n6_ n7_ n8_ n9_ n10_; (try clear hb); (try clear hb2); (try clear hk); (try clear hi)))
                            go_meet
                            case rel => exact ⟨_, ((t151 != t113)), (by first | rfl | (simp; done) | (simp [*]; done)), H', ⟨by have := HJ12.out; have := HJ61.out; first | omega | exact Nat.le_refl _⟩, ⟨by (try simp only [hl121000_61]); exact Ho.RS <| Kd.R_mono HO_115000.out (fun _ hk => ⟨hk.1.1.1, ⟨hk.1.1.2, hk.2⟩⟩)⟩, ⟨by (try simp only [hl121000_61]); exact Ho.RS <| Kd.R_mono HO_121000.out (fun _ hk => ⟨hk.1.1.1, ⟨hk.1.1.2, hk.2⟩⟩)⟩, ⟨by (try simp only [hl121000_61]); exact Ho.RS <| Kd.R_mono HO_128000.out (fun _ hk => ⟨hk.1.1.1, ⟨hk.1.1.2, hk.2⟩⟩)⟩, ⟨by (try simp only [hl121000_61]); exact Ho.RS <| Kd.R_mono HO148.out (fun _ hk => ⟨hk.1.1.1.2, ⟨hk.1.1.2, hk.1.2⟩⟩)⟩, ⟨by (try simp only [hl121000_61]); exact bS BK101.out⟩, ⟨by (try simp only [hl121000_61]); exact bS BK114.out⟩, ⟨by (try simp only [hl121000_61]); exact bS BK120.out⟩, ⟨by (try simp only [hl121000_61]); exact bS BK127.out⟩, ⟨by (try simp only [hl121000_61]); exact bS BK152.out⟩, ⟨by exact eS HB.out⟩⟩
                        · replace c120 := Bool.eq_false_iff.mpr c120
                          subst c120
                          have H1 : (laws_FnExactWithMark.j2 kj61 t138 true t139 t124 t125) = some r := by rw [if_neg (show ¬ (false = true) by decide)] at H; exact H
                          clear H
                          have H := H1
                          clear H1
                          as_aux_lemma =>
                            have H' := Aside0.mk H
                            clear H
                            have hnb131 := NB152_101.out
                            have hnc131 := NB101_152.out
                            have hnb132 := NB152_114.out
                            have hnc132 := NB114_152.out
                            have hnb133 := NB152_120.out
                            have hnc133 := NB120_152.out
                            have hnb134 := NB152_127.out
                            have hnc134 := NB127_152.out
                            have hcz135_0 : w112.cell? ⟨gb152, 0, none⟩ = some (.slice none 0 0) := (blk_cell BK152.out 0).trans rfl
                            have hcz135_1 : w112.cell? ⟨gb152, 1, none⟩ = some (.int .i64 0) := (blk_cell BK152.out 1).trans rfl
                            have hcz135_2 : w112.cell? ⟨gb152, 2, none⟩ = some (.int .i64 0) := (blk_cell BK152.out 2).trans rfl
                            have hfz135_0 := blk_frozen BK152.out 0
                            have hfz135_1 := blk_frozen BK152.out 1
                            have hfz135_2 := blk_frozen BK152.out 2
                            have hnb136 := NB114_101.out
                            have hnc136 := NB101_114.out
                            have hnb137 := NB114_120.out
                            have hnc137 := NB120_114.out
                            have hnb138 := NB114_127.out
                            have hnc138 := NB127_114.out
                            have hcz139_0 : w112.cell? ⟨gb114, 0, none⟩ = some (.slice Ao22 t108.length co22) := (blk_cell BK114.out 0).trans rfl
                            have hcz139_1 : w112.cell? ⟨gb114, 1, none⟩ = some (.int .i64 t111) := (blk_cell BK114.out 1).trans rfl
                            have hcz139_2 : w112.cell? ⟨gb114, 2, none⟩ = some (.int .i64 t112) := (blk_cell BK114.out 2).trans rfl
                            have hfz139_0 := blk_frozen BK114.out 0
                            have hfz139_1 := blk_frozen BK114.out 1
                            have hfz139_2 := blk_frozen BK114.out 2
                            go_wp2_with (first | ((with_reducible refine gate_callee (f := 14) rfl ?_); refine goesL_ (some 91) rfl rfl Try.func14 (by kernel_rfl) rfl #[.agg #[.slice Ao113 t146.length co113, .int .i64 t149, .int .i64 t150], .agg #[.slice Ao22 t108.length co22, .int .i64 t111, .int .i64 t112]] rfl (by (try simp only [List.map_toArray, List.map_cons, List.map_nil]); first | done | rfl | (simp only [List.length_drop, List.length_take]; rfl)) ?_; (with_reducible refine (laws_eqPiece.calls kj61 _ _ t146 t149 t150 _ _ t108 t111 t112 false _ ?side1 ?side2 ?side3 ?side4 A119.out).mono ?_); (case side1 => refine (Kd.R_reads' (e := 3) (base := w.heap.size) (ok := fun k_ => ((((True ∧ some k_ ≠ (.slice Ao22 t108.length co22 : Value).ownBlock) ∧ some k_ ≠ (.slice Ao28 t136.length co28 : Value).ownBlock) ∧ some k_ ≠ (.slice Ao34 t121.length co34 : Value).ownBlock) ∧ some k_ ≠ (.slice Ao110 t141.length co110 : Value).ownBlock)) (n := t146.length) (c := co113) ?_).2.2; exact (by exact Ho.RS <| (Kd.R_mono (Kd.R_far (p := ⟨gb152, 2, none⟩) (Kd.R_far (p := ⟨gb152, 1, none⟩) (Kd.R_far (p := ⟨gb152, 0, none⟩) (Kd.R_types HO148.out BK152.out (by decide)) (fun _ hk => hk.2) (.slice Ao113 t146.length co113)) (fun _ hk => hk.2) (.int .i64 t149)) (fun _ hk => hk.2) (.int .i64 t150)) (fun _ h_ => h_.1)))); (case side2 => exact (Kd.R_reads' HO148.out).2.1); (case side3 => refine (Kd.R_reads' (e := 3) (base := w.heap.size) (ok := fun k_ => (((some k_ ≠ (.slice Ao28 t136.length co28 : Value).ownBlock ∧ some k_ ≠ (.slice Ao34 t121.length co34 : Value).ownBlock) ∧ some k_ ≠ (.slice Ao110 t141.length co110 : Value).ownBlock) ∧ some k_ ≠ (.slice Ao113 t146.length co113 : Value).ownBlock)) (n := t108.length) (c := co22) ?_).2.2; exact (by exact Ho.RS <| (Kd.R_mono (Kd.R_far (p := ⟨gb152, 2, none⟩) (Kd.R_far (p := ⟨gb152, 1, none⟩) (Kd.R_far (p := ⟨gb152, 0, none⟩) (Kd.R_types HO_115000.out BK152.out (by decide)) (fun _ hk => hk.2) (.slice Ao113 t146.length co113)) (fun _ hk => hk.2) (.int .i64 t149)) (fun _ hk => hk.2) (.int .i64 t150)) (fun _ h_ => h_.1)))); (case side4 => exact (Kd.R_reads' HO_115000.out).2.1); rintro e w140 ⟨rfl, hb⟩; refine ⟨_, rfl, ?_⟩; have n0_ := Aside0.mk (Kd.R_below (by exact Ho.RS <| (Kd.R_mono (Kd.R_far (p := ⟨gb152, 2, none⟩) (Kd.R_far (p := ⟨gb152, 1, none⟩) (Kd.R_far (p := ⟨gb152, 0, none⟩) (Kd.R_types HO_115000.out BK152.out (by decide)) (fun _ hk => hk.2) (.slice Ao113 t146.length co113)) (fun _ hk => hk.2) (.int .i64 t149)) (fun _ hk => hk.2) (.int .i64 t150)) (fun _ h_ => h_.1))) hb); have n1_ := Aside0.mk (Kd.R_below (by exact Ho.RS <| (Kd.R_mono (Kd.R_far (p := ⟨gb152, 2, none⟩) (Kd.R_far (p := ⟨gb152, 1, none⟩) (Kd.R_far (p := ⟨gb152, 0, none⟩) (Kd.R_types HO_121000.out BK152.out (by decide)) (fun _ hk => hk.2) (.slice Ao113 t146.length co113)) (fun _ hk => hk.2) (.int .i64 t149)) (fun _ hk => hk.2) (.int .i64 t150)) (fun _ h_ => h_.1))) hb); have n2_ := Aside0.mk (Kd.R_below (by exact Ho.RS <| (Kd.R_mono (Kd.R_far (p := ⟨gb152, 2, none⟩) (Kd.R_far (p := ⟨gb152, 1, none⟩) (Kd.R_far (p := ⟨gb152, 0, none⟩) (Kd.R_types HO_128000.out BK152.out (by decide)) (fun _ hk => hk.2) (.slice Ao113 t146.length co113)) (fun _ hk => hk.2) (.int .i64 t149)) (fun _ hk => hk.2) (.int .i64 t150)) (fun _ h_ => h_.1))) hb); have n3_ := Aside0.mk (Kd.R_below (by exact Ho.RS <| (Kd.R_mono (Kd.R_far (p := ⟨gb152, 2, none⟩) (Kd.R_far (p := ⟨gb152, 1, none⟩) (Kd.R_far (p := ⟨gb152, 0, none⟩) (Kd.R_types HO143.out BK152.out (by decide)) (fun _ hk => hk.2) (.slice Ao113 t146.length co113)) (fun _ hk => hk.2) (.int .i64 t149)) (fun _ hk => hk.2) (.int .i64 t150)) (fun _ h_ => h_.1))) hb); have n4_ := Aside0.mk (Kd.R_below (by exact Ho.RS <| (Kd.R_mono (Kd.R_far (p := ⟨gb152, 2, none⟩) (Kd.R_far (p := ⟨gb152, 1, none⟩) (Kd.R_far (p := ⟨gb152, 0, none⟩) (Kd.R_types HO148.out BK152.out (by decide)) (fun _ hk => hk.2) (.slice Ao113 t146.length co113)) (fun _ hk => hk.2) (.int .i64 t149)) (fun _ hk => hk.2) (.int .i64 t150)) (fun _ h_ => h_.1))) hb); have n5_ := Aside0.mk (blk_below (g := gb101) (o := .cells #[.slice A0_0 l0_0.length c0_0, .int .i64 a0_1, .int .i64 a0_2] 24 (0, 0)) (by (with_reducible repeat (first | refine blk_drewN ?_ _ | refine blk_drew ?_ | refine blk_alloc ?_ _)); refine blk_far ?_ NB101_152.out _; (with_reducible repeat (first | refine blk_drewN ?_ _ | refine blk_drew ?_ | refine blk_alloc ?_ _)); refine blk_far ?_ NB101_152.out _; (with_reducible repeat (first | refine blk_drewN ?_ _ | refine blk_drew ?_ | refine blk_alloc ?_ _)); refine blk_far ?_ NB101_152.out _; exact bS BK101.out) hb); have n6_ := Aside0.mk (blk_below (g := gb114) (o := .cells #[.slice Ao22 t108.length co22, .int .i64 t111, .int .i64 t112] 27 (0, 0)) (by (with_reducible repeat (first | refine blk_drewN ?_ _ | refine blk_drew ?_ | refine blk_alloc ?_ _)); refine blk_far ?_ NB114_152.out _; (with_reducible repeat (first | refine blk_drewN ?_ _ | refine blk_drew ?_ | refine blk_alloc ?_ _)); refine blk_far ?_ NB114_152.out _; (with_reducible repeat (first | refine blk_drewN ?_ _ | refine blk_drew ?_ | refine blk_alloc ?_ _)); refine blk_far ?_ NB114_152.out _; exact bS BK114.out) hb); have n7_ := Aside0.mk (blk_below (g := gb120) (o := .cells #[.slice Ao28 t136.length co28, .int .i64 t118, .int .i64 t119] 27 (0, 0)) (by (with_reducible repeat (first | refine blk_drewN ?_ _ | refine blk_drew ?_ | refine blk_alloc ?_ _)); refine blk_far ?_ NB120_152.out _; (with_reducible repeat (first | refine blk_drewN ?_ _ | refine blk_drew ?_ | refine blk_alloc ?_ _)); refine blk_far ?_ NB120_152.out _; (with_reducible repeat (first | refine blk_drewN ?_ _ | refine blk_drew ?_ | refine blk_alloc ?_ _)); refine blk_far ?_ NB120_152.out _; exact bS BK120.out) hb); have n8_ := Aside0.mk (blk_below (g := gb127) (o := .cells #[.slice Ao34 t121.length co34, .int .i64 t124, .int .i64 t125] 27 (0, 0)) (by (with_reducible repeat (first | refine blk_drewN ?_ _ | refine blk_drew ?_ | refine blk_alloc ?_ _)); refine blk_far ?_ NB127_152.out _; (with_reducible repeat (first | refine blk_drewN ?_ _ | refine blk_drew ?_ | refine blk_alloc ?_ _)); refine blk_far ?_ NB127_152.out _; (with_reducible repeat (first | refine blk_drewN ?_ _ | refine blk_drew ?_ | refine blk_alloc ?_ _)); refine blk_far ?_ NB127_152.out _; exact bS BK127.out) hb); have n9_ := Aside0.mk (blk_below (g := gb152) (o := .cells #[.slice Ao113 t146.length co113, .int .i64 t149, .int .i64 t150] 27 (0, 0)) (by (with_reducible repeat (first | refine blk_drewN ?_ _ | refine blk_drew ?_ | refine blk_alloc ?_ _)); refine blk_put (cs := #[.slice Ao113 t146.length co113, .int .i64 t149, .int .i64 0]) ?_ 2 _ rfl; (with_reducible repeat (first | refine blk_drewN ?_ _ | refine blk_drew ?_ | refine blk_alloc ?_ _)); refine blk_put (cs := #[.slice Ao113 t146.length co113, .int .i64 0, .int .i64 0]) ?_ 1 _ rfl; (with_reducible repeat (first | refine blk_drewN ?_ _ | refine blk_drew ?_ | refine blk_alloc ?_ _)); refine blk_put (cs := #[.slice none 0 0, .int .i64 0, .int .i64 0]) ?_ 0 _ rfl; exact bS BK152.out) hb); have n10_ := Aside0.mk (below_step (by repeat (first | (with_reducible first | exact HB.out | apply below_alloc | apply pw_below_drewN | apply below_drew1 | refine below_set ?_ GE101.out | refine below_set ?_ GE114.out | refine below_set ?_ GE120.out | refine below_set ?_ GE127.out | refine below_set ?_ GE152.out) | exact HB.out)) hb); clear HO_115000; clear HO_121000; clear HO_128000; clear HO143; clear HO148; clear BK101; clear BK114; clear BK120; clear BK127; clear BK152; clear HB; have HO_115000 := n0_; have HO_121000 := n1_; have HO_128000 := n2_; have HO143 := n3_; have HO148 := n4_; have BK101 := n5_; have BK114 := n6_; have BK120 := n7_; have BK127 := n8_; have BK152 := n9_; have HB := n10_; clear n0_ n1_ n2_ n3_ n4_ n5_ n6_ n7_ n8_ n9_ n10_; (try clear hb); (try clear hb2); (try clear hk); (try clear hi)))
                            go_meet
                            case rel => exact ⟨_, (true), (by first | rfl | (simp; done) | (simp [*]; done)), H', ⟨by have := HJ12.out; have := HJ61.out; first | omega | exact Nat.le_refl _⟩, ⟨by (try simp only [hl121000_61]); exact Ho.RS <| Kd.R_mono HO_115000.out (fun _ hk => ⟨hk.1.1.1, ⟨hk.1.1.2, hk.2⟩⟩)⟩, ⟨by (try simp only [hl121000_61]); exact Ho.RS <| Kd.R_mono HO_121000.out (fun _ hk => ⟨hk.1.1.1, ⟨hk.1.1.2, hk.2⟩⟩)⟩, ⟨by (try simp only [hl121000_61]); exact Ho.RS <| Kd.R_mono HO_128000.out (fun _ hk => ⟨hk.1.1.1, ⟨hk.1.1.2, hk.2⟩⟩)⟩, ⟨by (try simp only [hl121000_61]); exact Ho.RS <| Kd.R_mono HO148.out (fun _ hk => ⟨hk.1.1.1.2, ⟨hk.1.1.2, hk.1.2⟩⟩)⟩, ⟨by (try simp only [hl121000_61]); exact bS BK101.out⟩, ⟨by (try simp only [hl121000_61]); exact bS BK114.out⟩, ⟨by (try simp only [hl121000_61]); exact bS BK120.out⟩, ⟨by (try simp only [hl121000_61]); exact bS BK127.out⟩, ⟨by (try simp only [hl121000_61]); exact bS BK152.out⟩, ⟨by exact eS HB.out⟩⟩
                      case rest =>
                        clear HC98
                        try clear c1
                        try clear c2
                        try clear p2
                        try clear c3
                        try clear c4
                        try clear c5
                        try clear c5b0
                        try clear c6
                        try clear c7
                        try clear c8
                        try clear c9
                        try clear c10
                        try clear c11
                        try clear c12
                        try clear c13
                        try clear c14
                        try clear c15
                        try clear c16
                        try clear c17
                        try clear c18
                        try clear c23
                        try clear c29
                        try clear c30
                        try clear c35
                        try clear c36
                        try clear c37
                        try clear c40
                        try clear c41
                        try clear c42
                        try clear c43
                        try clear c45
                        try clear c46
                        try clear c49
                        try clear c50
                        try clear c51
                        try clear c53
                        try clear c54
                        try clear c57
                        try clear c60
                        try clear c67
                        try clear c68
                        try clear c69
                        try clear c72
                        try clear c72b0
                        try clear c74
                        try clear c75
                        try clear c76
                        try clear c77
                        try clear c79
                        try clear c80
                        try clear c83
                        try clear c84
                        try clear c85
                        try clear c87
                        try clear c88
                        try clear c91
                        try clear c94
                        try clear c94b0
                        try clear c95
                        try clear c95b0
                        try clear c95b1
                        try clear c99
                        try clear c100
                        try clear c101
                        try clear c106
                        try clear c107
                        try clear c114
                        try clear c115
                        try clear c116
                        try clear c117
                        try clear c120
                        try clear c121
                        try clear c122
                        try clear c123
                        try clear c124
                        try clear c126
                        try clear c127
                        try clear c128
                        try clear c131
                        try clear c132
                        try clear c133
                        try clear c134
                        try clear c136
                        try clear c137
                        try clear c138
                        try clear hcz102_0
                        try clear hcz102_1
                        try clear hcz102_2
                        try clear hcz104_0
                        try clear hcz104_1
                        try clear hcz104_2
                        try clear hcz108_0
                        try clear hcz108_1
                        try clear hcz108_2
                        try clear hcz118_0
                        try clear hcz118_1
                        try clear hcz118_2
                        try clear hcz125_0
                        try clear hcz125_1
                        try clear hcz125_2
                        try clear hcz129_0
                        try clear hcz129_1
                        try clear hcz129_2
                        try clear hcz135_0
                        try clear hcz135_1
                        try clear hcz135_2
                        try clear hcz139_0
                        try clear hcz139_1
                        try clear hcz139_2
                        try clear hcz15_0
                        try clear hcz15_1
                        try clear hcz15_2
                        try clear hcz17_0
                        try clear hcz17_1
                        try clear hcz17_2
                        try clear hcz24_0
                        try clear hcz24_1
                        try clear hcz24_2
                        try clear hcz25_0
                        try clear hcz25_1
                        try clear hcz25_2
                        try clear hcz31_0
                        try clear hcz31_1
                        try clear hcz31_2
                        try clear hcz38_0
                        try clear hcz38_1
                        try clear hcz38_2
                        try clear hcz44_0
                        try clear hcz44_1
                        try clear hcz44_2
                        try clear hcz47_0
                        try clear hcz47_1
                        try clear hcz47_2
                        try clear hcz52_0
                        try clear hcz52_1
                        try clear hcz52_2
                        try clear hcz55_0
                        try clear hcz55_1
                        try clear hcz55_2
                        try clear hcz70_0
                        try clear hcz70_1
                        try clear hcz70_2
                        try clear hcz78_0
                        try clear hcz78_1
                        try clear hcz78_2
                        try clear hcz7_0
                        try clear hcz7_1
                        try clear hcz7_2
                        try clear hcz81_0
                        try clear hcz81_1
                        try clear hcz81_2
                        try clear hcz86_0
                        try clear hcz86_1
                        try clear hcz86_2
                        try clear hcz89_0
                        try clear hcz89_1
                        try clear hcz89_2
                        try clear hfz102_0
                        try clear hfz102_1
                        try clear hfz102_2
                        try clear hfz104_0
                        try clear hfz104_1
                        try clear hfz104_2
                        try clear hfz108_0
                        try clear hfz108_1
                        try clear hfz108_2
                        try clear hfz118_0
                        try clear hfz118_1
                        try clear hfz118_2
                        try clear hfz125_0
                        try clear hfz125_1
                        try clear hfz125_2
                        try clear hfz129_0
                        try clear hfz129_1
                        try clear hfz129_2
                        try clear hfz135_0
                        try clear hfz135_1
                        try clear hfz135_2
                        try clear hfz139_0
                        try clear hfz139_1
                        try clear hfz139_2
                        try clear hfz15_0
                        try clear hfz15_1
                        try clear hfz15_2
                        try clear hfz17_0
                        try clear hfz17_1
                        try clear hfz17_2
                        try clear hfz24_0
                        try clear hfz24_1
                        try clear hfz24_2
                        try clear hfz25_0
                        try clear hfz25_1
                        try clear hfz25_2
                        try clear hfz31_0
                        try clear hfz31_1
                        try clear hfz31_2
                        try clear hfz38_0
                        try clear hfz38_1
                        try clear hfz38_2
                        try clear hfz44_0
                        try clear hfz44_1
                        try clear hfz44_2
                        try clear hfz47_0
                        try clear hfz47_1
                        try clear hfz47_2
                        try clear hfz52_0
                        try clear hfz52_1
                        try clear hfz52_2
                        try clear hfz55_0
                        try clear hfz55_1
                        try clear hfz55_2
                        try clear hfz70_0
                        try clear hfz70_1
                        try clear hfz70_2
                        try clear hfz78_0
                        try clear hfz78_1
                        try clear hfz78_2
                        try clear hfz7_0
                        try clear hfz7_1
                        try clear hfz7_2
                        try clear hfz81_0
                        try clear hfz81_1
                        try clear hfz81_2
                        try clear hfz86_0
                        try clear hfz86_1
                        try clear hfz86_2
                        try clear hfz89_0
                        try clear hfz89_1
                        try clear hfz89_2
                        try clear p2
                        obtain ⟨kq, x97_97, rfl, HA, HJ97, HO_115000, HO_121000, HO_128000, HO_153000, BK101, BK114, BK120, BK127, BK152, HB⟩ := hcut
                        have hl128000_97 := (Kd.R_reads' HO_128000.out).1
                        rw [hl128000_97] at HO_128000
                        (try simp only [hl128000_97])
                        (try simp only [hl128000_97] at BK101)
                        (try simp only [hl128000_97] at BK114)
                        (try simp only [hl128000_97] at BK120)
                        (try simp only [hl128000_97] at BK127)
                        (try simp only [hl128000_97] at BK152)
                        (try simp only [hl128000_97] at HO_115000)
                        (try simp only [hl128000_97] at HO_121000)
                        (try simp only [hl128000_97] at HO_153000)
                        cases kq with
                        | zero => exact absurd HA.out (by simp [laws_FnExactWithMark.j2])
                        | succ kj97 =>
                          have H := HA.out
                          clear HA
                          simp only [laws_FnExactWithMark.j2] at H
                          by_cases c141 : x97_97 = true
                          · subst c141
                            have H1 : (some false) = some r := by rw [if_pos rfl] at H; exact H
                            clear H
                            have H := H1
                            clear H1
                            as_aux_lemma =>
                              exact absurd ((Option.some.inj H).trans HT.out) (by decide)
                          · replace c141 := Bool.eq_false_iff.mpr c141
                            subst c141
                            have H1 : ((laws_heldPiece.f kj97 t139 t124 t125 1).bind fun t154 => (if t154 < 0 then (some false) else (if t154 = t138 then (some true) else (some false)))) = some r := by rw [if_neg (show ¬ (false = true) by decide)] at H; exact H
                            clear H
                            have H := H1
                            clear H1
                            replace H := Option.bind_eq_some_iff.mp H
                            obtain ⟨t154, A1420, H⟩ := H
                            replace H : (if t154 < 0 then (some false) else (if t154 = t138 then (some true) else (some false))) = some r := H
                            have A142 := Aside0.mk A1420
                            clear A1420
                            by_cases c143 : t154 < 0
                            · rw [if_pos c143] at H
                              have c143b0 : decide (t154 < 0) = true := decide_eq_true c143
                              clear c143
                              as_aux_lemma =>
                                exact absurd ((Option.some.inj H).trans HT.out) (by decide)
                            · rw [if_neg c143] at H
                              have c143b0 : decide (t154 < 0) = false := decide_eq_false c143
                              clear c143
                              by_cases c144 : t154 = t138
                              · rw [if_pos c144] at H
                                have c144b0 : (t154 == t138) = true := beq_iff_eq.mpr c144
                                have c144b1 : (t154 != t138) = false := bne_eq_false_iff_eq.mpr c144
                                clear c144
                                as_aux_lemma =>
                                  obtain rfl := Option.some.inj H
                                  have hnb145 := NB127_101.out
                                  have hnc145 := NB101_127.out
                                  have hnb146 := NB127_114.out
                                  have hnc146 := NB114_127.out
                                  have hnb147 := NB127_120.out
                                  have hnc147 := NB120_127.out
                                  have hnb148 := NB127_152.out
                                  have hnc148 := NB152_127.out
                                  have hcz149_0 : wc.cell? ⟨gb127, 0, none⟩ = some (.slice Ao34 t139.length co34) := (blk_cell BK127.out 0).trans rfl
                                  have hcz149_1 : wc.cell? ⟨gb127, 1, none⟩ = some (.int .i64 t124) := (blk_cell BK127.out 1).trans rfl
                                  have hcz149_2 : wc.cell? ⟨gb127, 2, none⟩ = some (.int .i64 t125) := (blk_cell BK127.out 2).trans rfl
                                  have hfz149_0 := blk_frozen BK127.out 0
                                  have hfz149_1 := blk_frozen BK127.out 1
                                  have hfz149_2 := blk_frozen BK127.out 2
                                  go_wp2_with (first | ((with_reducible refine gate_callee (f := 18) rfl ?_); refine goesL_ (some 100) rfl rfl Try.func18 (by kernel_rfl) rfl #[.agg #[.slice Ao34 t139.length co34, .int .i64 t124, .int .i64 t125], .int .i64 1] rfl (by (try simp only [List.map_toArray, List.map_cons, List.map_nil]); first | done | rfl | (simp only [List.length_drop, List.length_take]; rfl)) ?_; (with_reducible refine (laws_heldPiece.calls kj97 _ _ t139 t124 t125 1 t154 _ ?side1 ?side2 A142.out).mono ?_); (case side1 => repeat (first | exact (Kd.R_reads' HO_128000.out).2.2 | (with_reducible refine Kd.C_alloc ?_ _) | (with_reducible refine Kd.C_drewN ?_ _) | (with_reducible refine Kd.C_drew ?_))); (case side2 => exact (Kd.R_reads' HO_128000.out).2.1); rintro e w150 ⟨rfl, hb⟩; refine ⟨_, rfl, ?_⟩; have n0_ := Aside0.mk (Kd.R_below (by exact Ho.RS <| HO_115000.out) hb); have n1_ := Aside0.mk (Kd.R_below (by exact Ho.RS <| HO_121000.out) hb); have n2_ := Aside0.mk (Kd.R_below (by exact Ho.RS <| HO_128000.out) hb); have n3_ := Aside0.mk (Kd.R_below (by exact Ho.RS <| HO_153000.out) hb); have n4_ := Aside0.mk (blk_below (bS BK101.out) hb); have n5_ := Aside0.mk (blk_below (bS BK114.out) hb); have n6_ := Aside0.mk (blk_below (bS BK120.out) hb); have n7_ := Aside0.mk (blk_below (bS BK127.out) hb); have n8_ := Aside0.mk (blk_below (bS BK152.out) hb); have n9_ := Aside0.mk (below_step (by exact eS HB.out) hb); clear HO_115000; clear HO_121000; clear HO_128000; clear HO_153000; clear BK101; clear BK114; clear BK120; clear BK127; clear BK152; clear HB; have HO_115000 := n0_; have HO_121000 := n1_; have HO_128000 := n2_; have HO_153000 := n3_; have BK101 := n4_; have BK114 := n5_; have BK120 := n6_; have BK127 := n7_; have BK152 := n8_; have HB := n9_; clear n0_ n1_ n2_ n3_ n4_ n5_ n6_ n7_ n8_ n9_; (try clear hb); (try clear hb2); (try clear hk); (try clear hi)))
                                  go_ret
                                  exact ⟨by first | rfl | (simp [errW_none, errW_some] <;> rfl) | (simp [*, errW_none, errW_some] <;> rfl), by exact eS HB.out⟩
                              · rw [if_neg c144] at H
                                have c144b0 : (t154 == t138) = false := beq_eq_false_iff_ne.mpr c144
                                have c144b1 : (t154 != t138) = true := bne_iff_ne.mpr c144
                                as_aux_lemma =>
                                  exact absurd ((Option.some.inj H).trans HT.out) (by decide)
                    · rw [if_neg c95] at H
                      have c95b0 : (t140 == t138) = false := beq_eq_false_iff_ne.mpr c95
                      have c95b1 : (t140 != t138) = true := bne_iff_ne.mpr c95
                      as_aux_lemma =>
                        exact absurd ((Option.some.inj H).trans HT.out) (by decide)
          · replace c60 := Bool.eq_false_iff.mpr c60
            subst c60
            have H1 : (some false) = some r := by rw [if_neg (show ¬ (false = true) by decide)] at H; exact H
            clear H
            have H := H1
            clear H1
            as_aux_lemma =>
              exact absurd ((Option.some.inj H).trans HT.out) (by decide)

/-- THE ONE PURE STATEMENT of laws_FnExactWithMark: yours. -/
def laws_FnExactWithMark.Pure : Prop := ∀ (l0_0 : List Int) (a0_1 : Int) (a0_2 : Int) (a1 : Int) (a2 : Bool), (l0_0.length ≤ 9223372036854775807 ∧ ∀ y_ ∈ l0_0, (Lit.int .i64 y_).wf = true) → (Lit.int .i64 a0_1).wf = true → (Lit.int .i64 a0_2).wf = true → (Lit.int .i64 a1).wf = true → ∃ k, laws_FnExactWithMark.f k l0_0 a0_1 a0_2 a1 a2 = some true

end Go.Proofs.Ytiomfignokichaa.X

-- Qbase
namespace Go.Proofs.Ytiomfignokichaa.Pure
open Go Go.RowKit Go.Proofs Go.Proofs.YtiomfignokichaaW.PrintWords Go.Proofs.YtiomfignokichaaW.PrintLast
set_option linter.unusedVariables false
set_option linter.unusedSimpArgs false

theorem w64 {x : Int} (h1 : -9223372036854775808 ≤ x) (h2 : x ≤ 9223372036854775807) : wrap64 x = x := by unfold wrap64; omega
theorem w64b {x : Int} (h : -9223372036854775808 ≤ x ∧ x ≤ 9223372036854775807) : wrap64 x = x := w64 h.1 h.2
theorem ite_sf (a b : Bool) : (if a = true then some b else some false) = some (a && b) := by cases a <;> rfl
theorem ite_sf2 (a b : Bool) : (if a = true then some false else some b) = some (!a && b) := by cases a <;> rfl
theorem wf_bd {x : Int} (h : (Lit.int .i64 x).wf = true) : -9223372036854775808 ≤ x ∧ x ≤ 9223372036854775807 := by
  have h1 := h
  simp [Lit.wf] at h1
  exact ⟨h1.1, h1.2⟩
/-- a product of two numbers within bounds -/
theorem mul_bd {a b A B : Int} (ha : 0 ≤ a) (hA : a ≤ A) (hb : 0 ≤ b) (hB : b ≤ B) : 0 ≤ a * b ∧ a * b ≤ A * B :=
  ⟨Int.mul_nonneg ha hb, Int.mul_le_mul hA hB hb (Int.le_trans ha hA)⟩
theorem drop_step {α : Type} {l : List α} {i : Nat} (h : i < l.length) (d : α) : l.drop i = l.getD i d :: l.drop (i + 1) := by
  rw [List.drop_eq_getElem_cons h]; congr 1; simp [List.getD_eq_getElem?_getD, List.getElem?_eq_getElem h]
theorem wstep {i : Nat} {n : Nat} (h : i < n) (hn : n ≤ 9223372036854775807) : wrap64 ((i : Int) + 1) = ((i + 1 : Nat) : Int) := by unfold wrap64; omega
theorem nat_of {i : Int} (h : 0 ≤ i) : ∃ n : Nat, i = n := ⟨i.toNat, by omega⟩
theorem succ_of {k d : Nat} (h : d < k) : ∃ m, k = m + 1 ∧ d ≤ m := ⟨k - 1, by omega, by omega⟩

end Go.Proofs.Ytiomfignokichaa.Pure

-- Qloops
namespace Go.Proofs.Ytiomfignokichaa.Pure
open Go Go.RowKit Go.Proofs Go.Proofs.YtiomfignokichaaW.PrintWords Go.Proofs.YtiomfignokichaaW.PrintLast
set_option linter.unusedVariables false
set_option linter.unusedSimpArgs false

/-- A loop that copies element by element into a new row. -/
theorem copy_loop {α β : Type} (L : Nat → List α → List β → Int → Option (List β)) (f : α → β) (d : α) (l : List α) (hb : l.length ≤ 9223372036854775806)
    (hs : ∀ k x3 (i : Nat), i < l.length → x3.length = l.length → L (k + 1) l x3 i = L k l (x3.set i (f (l.getD i d))) (wrap64 ((i : Int) + 1)))
    (he : ∀ k x3 (i : Nat), l.length ≤ i → L (k + 1) l x3 i = some x3) :
    ∀ n k (i : Nat) (x3 : List β), i + n = l.length → n < k → x3.length = l.length → x3.take i = (l.take i).map f → L k l x3 i = some (l.map f) := by
  intro n
  induction n with
  | zero =>
    intro k i x3 hi hk hl ht
    obtain ⟨k, rfl, _⟩ := succ_of hk
    rw [he k x3 i (by omega)]
    rw [List.take_of_length_le (by omega), List.take_of_length_le (by omega)] at ht
    rw [ht]
  | succ n ih =>
    intro k i x3 hi hk hl ht
    obtain ⟨k, rfl, hk⟩ := succ_of hk
    rw [hs k x3 i (by omega) hl, wstep (show i < l.length by omega) (by omega)]
    refine ih k (i + 1) _ (by omega) (by omega) (by rw [List.length_set]; exact hl) ?_
    rw [List.take_succ_eq_append_getElem (by rw [List.length_set]; omega), List.take_succ_eq_append_getElem (by omega), List.map_append, ← ht]
    congr 1
    · rw [List.take_set_of_le (Nat.le_refl _)]
    · simp [List.getD_eq_getElem?_getD, List.getElem?_eq_getElem (show i < l.length by omega)]
/-- A loop that compares a row with itself. -/
theorem refl_loop {α : Type} (L : Nat → List α → List α → Int → Option Bool) (l : List α) (hb : l.length ≤ 9223372036854775806)
    (hs : ∀ k (i : Nat), i < l.length → L (k + 1) l l i = L k l l (wrap64 ((i : Int) + 1))) (he : ∀ k (i : Nat), l.length ≤ i → L (k + 1) l l i = some true) :
    ∀ n k (i : Nat), i + n = l.length → n < k → L k l l i = some true := by
  intro n
  induction n with
  | zero =>
    intro k i hi hk
    obtain ⟨k, rfl, _⟩ := succ_of hk
    exact he k i (by omega)
  | succ n ih =>
    intro k i hi hk
    obtain ⟨k, rfl, hk⟩ := succ_of hk
    rw [hs k i (by omega), wstep (show i < l.length by omega) (by omega)]
    exact ih k (i + 1) (by omega) (by omega)
/-- A loop that asks of all elements, from i on. -/
theorem all_loop {α : Type} (L : Nat → Int → Option Bool) (q : α → Bool) (d : α) (l : List α) (e : Bool) (hb : l.length ≤ 9223372036854775806)
    (hs : ∀ k (i : Nat), i < l.length → L (k + 1) i = if q (l.getD i d) = true then L k (wrap64 ((i : Int) + 1)) else some false) (he : ∀ k (i : Nat), l.length ≤ i → L (k + 1) i = some e) :
    ∀ n k (i : Nat), i + n = l.length → n < k → L k i = some ((l.drop i).all q && e) := by
  intro n
  induction n with
  | zero =>
    intro k i hi hk
    obtain ⟨k, rfl, _⟩ := succ_of hk
    rw [he k i (by omega), List.drop_eq_nil_of_le (by omega)]; rfl
  | succ n ih =>
    intro k i hi hk
    obtain ⟨k, rfl, hk⟩ := succ_of hk
    rw [hs k i (by omega), wstep (show i < l.length by omega) (by omega), drop_step (by omega) d, List.all_cons, ih k (i + 1) (by omega) (by omega)]
    cases q (l.getD i d) <;> simp
/-- What marks leave: each element tells its own number. -/
def markM {α : Type} (g : Int → α) (c : Int) (n : Nat) (s : Int) : List α := (List.range n).map fun (j : Nat) => g (s + c * (j : Int))
theorem markM_length {α : Type} (g : Int → α) (c : Int) (n : Nat) (s : Int) : (markM g c n s).length = n := by simp [markM]
theorem markM_getD {α : Type} (g : Int → α) (c : Int) (n : Nat) (s : Int) (d : α) {i : Nat} (h : i < n) : (markM g c n s).getD i d = g (s + c * i) := by
  simp [markM, List.getD_eq_getElem?_getD, List.getElem?_map, List.getElem?_range h]
/-- A loop that marks. -/
theorem mark_loop {α : Type} (L : Nat → List α → Int → Int → Option (Int × List α)) (g : Int → α) (c : Int) (n0 : Nat) (s : Int) (hb : n0 ≤ 9223372036854775806) 
    (hs : ∀ k x (i : Nat), i < n0 → x.length = n0 → L (k + 1) x (s + c * i) i = L k (x.set i (g (s + c * i))) (s + c * ((i + 1 : Nat) : Int)) (wrap64 ((i : Int) + 1)))
    (he : ∀ k x m (i : Nat), n0 ≤ i → x.length = n0 → L (k + 1) x m i = some (m, x)) :
    ∀ n k (i : Nat) (x : List α), i + n = n0 → n < k → x.length = n0 → x.take i = (markM g c n0 s).take i → L k x (s + c * i) i = some (s + c * n0, markM g c n0 s) := by
  intro n
  induction n with
  | zero =>
    intro k i x hi hk hl ht
    obtain ⟨k, rfl, _⟩ := succ_of hk
    rw [he k x _ i (by omega) hl]
    rw [List.take_of_length_le (by omega), List.take_of_length_le (by rw [markM_length]; omega)] at ht
    rw [ht]; simp [show i = n0 by omega]
  | succ n ih =>
    intro k i x hi hk hl ht
    obtain ⟨k, rfl, hk⟩ := succ_of hk
    rw [hs k x i (by omega) hl, wstep (show i < n0 by omega) (by omega)]
    refine ih k (i + 1) _ (by omega) (by omega) (by rw [List.length_set]; exact hl) ?_
    rw [List.take_succ_eq_append_getElem (by rw [List.length_set]; omega), List.take_succ_eq_append_getElem (by rw [markM_length]; omega), ← ht]
    congr 1
    · rw [List.take_set_of_le (Nat.le_refl _)]
    · simp [markM]
/-- A loop that asks for the marks. -/
theorem held_loop {α : Type} (L : Nat → List α → Int → Int → Option Int) (g : Int → α) (c : Int) (n0 : Nat) (s : Int) (hb : n0 ≤ 9223372036854775806)
    (hs : ∀ k (i : Nat), i < n0 → L (k + 1) (markM g c n0 s) (s + c * i) i = L k (markM g c n0 s) (s + c * ((i + 1 : Nat) : Int)) (wrap64 ((i : Int) + 1)))
    (he : ∀ k m (i : Nat), n0 ≤ i → L (k + 1) (markM g c n0 s) m i = some m) :
    ∀ n k (i : Nat), i + n = n0 → n < k → L k (markM g c n0 s) (s + c * i) i = some (s + c * n0) := by
  intro n
  induction n with
  | zero =>
    intro k i hi hk
    obtain ⟨k, rfl, _⟩ := succ_of hk
    rw [he k _ i (by omega), show i = n0 by omega]
  | succ n ih =>
    intro k i hi hk
    obtain ⟨k, rfl, hk⟩ := succ_of hk
    rw [hs k i (by omega), wstep (show i < n0 by omega) (by omega)]
    exact ih k (i + 1) (by omega) (by omega)
theorem rd_nat (l : List Int) (i : Nat) : rd l (i : Int) = l.getD i 0 := by simp [rd]

end Go.Proofs.Ytiomfignokichaa.Pure

-- QeqInts
namespace Go.Proofs.Ytiomfignokichaa.Pure
open Go Go.RowKit Go.Proofs Go.Proofs.Ytiomfignokichaa.X Go.Proofs.YtiomfignokichaaW.PrintWords Go.Proofs.YtiomfignokichaaW.PrintLast
set_option linter.unusedVariables false
set_option linter.unusedSimpArgs false

theorem eqIntS_refl {k : Nat} {l : List Int} (hk : l.length < k) (hl : l.length ≤ 9223372036854775806) : laws_eqIntS.f k l l = some true := by
  unfold laws_eqIntS.f
  rw [if_pos rfl]
  exact refl_loop laws_eqIntS.l0 l hl
    (fun k i h => by simp only [laws_eqIntS.l0]; rw [if_pos (by omega), if_pos (by omega), if_pos (by omega)]; simp)
    (fun k i h => by simp only [laws_eqIntS.l0]; rw [if_neg (by omega)])
    l.length k 0 (by omega) hk

end Go.Proofs.Ytiomfignokichaa.Pure

-- Qinrange
namespace Go.Proofs.Ytiomfignokichaa.Pure
open Go Go.RowKit Go.Proofs Go.Proofs.Ytiomfignokichaa.X Go.Proofs.YtiomfignokichaaW.PrintWords Go.Proofs.YtiomfignokichaaW.PrintLast
set_option linter.unusedVariables false
set_option linter.unusedSimpArgs false

theorem in_eq (x a b : Int) : impl_in.f x a b = some (decide (a ≤ x ∧ x ≤ b)) := by
  unfold impl_in.f
  by_cases h1 : a ≤ x <;> simp [h1]

end Go.Proofs.Ytiomfignokichaa.Pure

-- Qspecin
namespace Go.Proofs.Ytiomfignokichaa.Pure
open Go Go.RowKit Go.Proofs Go.Proofs.Ytiomfignokichaa.X Go.Proofs.YtiomfignokichaaW.PrintWords Go.Proofs.YtiomfignokichaaW.PrintLast
set_option linter.unusedVariables false
set_option linter.unusedSimpArgs false

theorem l1In_eq (x a b : Int) : spec_l1In.f x a b = some (decide (a ≤ x ∧ x ≤ b)) := by
  unfold spec_l1In.f
  by_cases h1 : a ≤ x <;> simp [h1]

end Go.Proofs.Ytiomfignokichaa.Pure

-- QtoInts
namespace Go.Proofs.Ytiomfignokichaa.Pure
open Go Go.RowKit Go.Proofs Go.Proofs.Ytiomfignokichaa.X Go.Proofs.YtiomfignokichaaW.PrintWords Go.Proofs.YtiomfignokichaaW.PrintLast
set_option linter.unusedVariables false
set_option linter.unusedSimpArgs false

theorem toIntS_eq {k : Nat} {l : List Int} (hk : l.length < k) (hl : l.length ≤ 1048576) : laws_toIntS.f k l = some l := by
  unfold laws_toIntS.f
  rw [if_pos (by omega), if_pos (by simp; omega)]
  have h := copy_loop laws_toIntS.l0 (fun x => x) 0 l (by omega)
    (fun k x3 i h1 h2 => by
      simp only [laws_toIntS.l0]
      rw [if_pos (by omega), if_pos (by omega), if_pos (by omega), rd_nat]; simp)
    (fun k x3 i h1 => by simp only [laws_toIntS.l0]; rw [if_neg (by omega)])
    l.length k 0 (List.replicate l.length 0) (by omega) hk (by simp) (by simp)
  simpa using h

end Go.Proofs.Ytiomfignokichaa.Pure

-- Qpiece
namespace Go.Proofs.Ytiomfignokichaa.Pure
open Go Go.RowKit Go.Proofs Go.Proofs.Ytiomfignokichaa.X Go.Proofs.YtiomfignokichaaW.PrintWords Go.Proofs.YtiomfignokichaaW.PrintLast
set_option linter.unusedVariables false
set_option linter.unusedSimpArgs false

def eraB (a b : Int) : Bool := decide (1 ≤ a ∧ a ≤ b) && decide (b ≤ 3000)
def kindB (x : Int) : Bool := decide (-1 ≤ x ∧ x ≤ 1)
def pieceB (l : List Int) (a b : Int) : Bool := l.all kindB && (decide (l.length = 8) && eraB a b)
theorem years_eq (a b : Int) : spec_l20Years.f a b = some (eraB a b) := by
  simp only [spec_l20Years.f, l1In_eq, Option.bind_some, eraB]
  cases decide (1 ≤ a ∧ a ≤ b) <;> rfl
theorem areEra_eq (a b : Int) : impl_areEra.f a b = some (eraB a b) := by
  unfold impl_areEra.f eraB
  by_cases h1 : 1 ≤ a <;> by_cases h2 : a ≤ b <;> simp [h1, h2]
theorem marksP_eq {k : Nat} {l : List Int} (hk : l.length < k) (hl : l.length ≤ 1073741824) : spec_l20Marks.f k l (-1) 1 = some (l.all kindB && decide (l.length = 8)) := by
  unfold spec_l20Marks.f
  have h := all_loop (fun k i => spec_l20Marks.l0 k l (-1) 1 i) kindB 0 l (decide (l.length = 8)) (by omega)
    (fun k i h1 => by
      simp only [spec_l20Marks.l0]
      rw [if_pos (by omega), if_pos (by omega), rd_nat, l1In_eq]
      rfl)
    (fun k i h1 => by
      simp only [spec_l20Marks.l0]
      rw [if_neg (by omega)]
      congr 1
      rw [Bool.eq_iff_iff]; simp; omega)
    l.length k 0 (by omega) hk
  simpa using h
theorem pieceS_eq {k : Nat} {l : List Int} (hk : l.length < k) (hl : l.length ≤ 1073741824) (a b : Int) : spec_l20Piece.f k l a b = some (pieceB l a b) := by
  simp only [spec_l20Piece.f, marksP_eq hk hl, years_eq, Option.bind_some, pieceB]
  cases l.all kindB <;> cases decide (l.length = 8) <;> rfl
theorem pieceI_eq (l : List Int) (a b : Int) : impl_IsPiece.f l a b = some (pieceB l a b) := by
  simp only [impl_IsPiece.f, areEra_eq, Option.bind_some, pieceB, impl_areAll_int__impl_IsPiece_1.f]
  rw [Ho.allO_eq (q := kindB) (fun x _ => by simp only [impl_IsPiece_1.f, in_eq, Option.bind_some, kindB])]
  simp only [Option.bind_some]
  cases eraB a b
  · simp
  by_cases h : l.length = 8
  · rw [if_pos rfl, if_pos (by omega)]; simp [h]
  · rw [if_pos rfl, if_neg (by omega)]; simp [h]
theorem piece_len {l : List Int} {a b : Int} (h : pieceB l a b = true) : l.length = 8 := by
  simp only [pieceB, Bool.and_eq_true, decide_eq_true_eq] at h; exact h.2.1
theorem toPiece_eq {k : Nat} {l : List Int} (hk : l.length < k) (hl : l.length ≤ 1048576) (a b : Int) : laws_toPiece.f k l a b = some (l, a, b) := by
  simp only [laws_toPiece.f, toIntS_eq hk hl, Option.bind_some]
theorem eqPiece_refl {k : Nat} {l : List Int} (hk : l.length < k) (hl : l.length ≤ 1048576) (a b : Int) : laws_eqPiece.f k l a b l a b = some true := by
  simp only [laws_eqPiece.f, eqIntS_refl hk (by omega), Option.bind_some, if_true]
theorem szPiece_eq {l : List Int} {s : Int} (hl : l.length ≤ 9223372036854775807) (hs : 0 ≤ s ∧ s ≤ 9223372036854775807) (a b : Int) : laws_szPiece.f l a b s = some (if s < l.length then -1 else s - l.length) := by
  unfold laws_szPiece.f laws_szIntS.f
  rw [w64 (by omega) (by omega)]
  by_cases h : s < l.length
  · rw [if_pos (by omega), if_pos h]; rfl
  · rw [if_neg (by omega), if_neg h]; simp only [Option.bind_some]; rw [if_neg (by omega)]

end Go.Proofs.Ytiomfignokichaa.Pure

-- QmarkInts
namespace Go.Proofs.Ytiomfignokichaa.Pure
open Go Go.RowKit Go.Proofs Go.Proofs.Ytiomfignokichaa.X Go.Proofs.YtiomfignokichaaW.PrintWords Go.Proofs.YtiomfignokichaaW.PrintLast
set_option linter.unusedVariables false
set_option linter.unusedSimpArgs false

theorem markIntS_eq {k : Nat} {l : List Int} {s : Int} (hk : l.length < k) (hl : l.length ≤ 1073741824) (hs : 0 ≤ s ∧ s ≤ 1073741824) : laws_markIntS.f k l s = some (s + 1 * l.length, markM (fun x => x) 1 l.length s) := by
  unfold laws_markIntS.f
  have h := mark_loop laws_markIntS.l0 (fun x => x) 1 l.length s (by omega)
    (fun k x i h1 h2 => by
      simp only [laws_markIntS.l0]
      rw [if_pos (by omega), if_pos (by omega)]
      rw [w64 (x := s + 1 * (i : Int) + 1) (by omega) (by omega)]
      congr 1 <;> first | (push_cast; omega) | simp)
    (fun k x m i h1 h2 => by simp only [laws_markIntS.l0]; rw [if_neg (by omega)])
    l.length k 0 l (by omega) hk rfl (by simp)
  simpa using h
theorem heldIntS_eq {k : Nat} {n : Nat} {s : Int} (hk : n < k) (hl : n ≤ 1073741824) (hs : 0 ≤ s ∧ s ≤ 1073741824) : laws_heldIntS.f k (markM (fun x => x) 1 n s) s = some (s + 1 * n) := by
  unfold laws_heldIntS.f
  have h := held_loop laws_heldIntS.l0 (fun x => x) 1 n s (by omega)
    (fun k i h1 => by
      simp only [laws_heldIntS.l0, markM_length]
      rw [if_pos (by omega), if_pos (by omega), rd_nat, markM_getD _ _ _ _ _ h1, if_pos rfl]
      rw [w64 (x := s + 1 * (i : Int) + 1) (by omega) (by omega)]
      congr 1; push_cast; omega)
    (fun k m i h1 => by simp only [laws_heldIntS.l0, markM_length]; rw [if_neg (by omega)])
    n k 0 (by omega) hk
  simpa using h

end Go.Proofs.Ytiomfignokichaa.Pure

-- Qwithmark
namespace Go.Proofs.Ytiomfignokichaa.Pure
open Go Go.RowKit Go.Proofs Go.Proofs.Ytiomfignokichaa.X Go.Proofs.YtiomfignokichaaW.PrintWords Go.Proofs.YtiomfignokichaaW.PrintLast
set_option linter.unusedVariables false
set_option linter.unusedSimpArgs false

def withMarkM (l : List Int) (a b i : Int) (m : Bool) : List Int × Int × Int × Bool :=
  if pieceB l a b && (decide (0 ≤ i ∧ i ≤ 7) && decide (rd l i = -1)) then (l.set i.toNat (if m then 1 else 0), a, b, true) else ([], 0, 0, false)
theorem withMarkS_eq {k : Nat} {l : List Int} (hk : l.length < k) (hl : l.length ≤ 1073741824) (a b i : Int) (m : Bool) : spec_WithMark.f k l a b i m = some (withMarkM l a b i m) := by
  obtain ⟨k, rfl, _⟩ := succ_of hk
  simp only [spec_WithMark.f, pieceS_eq hk hl, l1In_eq, Option.bind_some, withMarkM, spec_WithMark.j0]
  cases hp : pieceB l a b
  · simp
  have h8 := piece_len hp
  cases hi : decide (0 ≤ i ∧ i ≤ 7)
  · simp
  have hi := of_decide_eq_true hi
  simp only [if_true, Bool.true_and]
  rw [if_pos (by omega), if_pos (by omega)]
  by_cases hr : rd l i = -1
  · simp only [hr, bne_self_eq_false, Bool.false_eq_true, if_false, decide_true, if_true, spec_l1Own.f, List.length_nil, Nat.zero_add, List.nil_append, Option.bind_some]
    rw [if_pos (by omega)]
    simp only [Option.bind_some]
    rw [if_pos (by omega), if_pos (by omega)]
    cases m <;> simp [List.set_set]
  · have : (rd l i != -1) = true := by simpa using hr
    simp [this, hr]
theorem withMarkI_eq {k : Nat} {l : List Int} (hk : 0 < k) (hl : l.length ≤ 1073741824) (a b i : Int) (m : Bool) : impl_WithMark.f k l a b i m = some (withMarkM l a b i m) := by
  obtain ⟨k, rfl, _⟩ := succ_of hk
  simp only [impl_WithMark.f, pieceI_eq, in_eq, Option.bind_some, withMarkM, impl_WithMark.j0]
  cases hp : pieceB l a b
  · simp
  have h8 := piece_len hp
  cases hi : decide (0 ≤ i ∧ i ≤ 7)
  · simp
  have hi := of_decide_eq_true hi
  simp only [if_true, Bool.true_and]
  rw [if_pos (by omega), if_pos (by omega)]
  by_cases hr : rd l i = -1
  · simp only [hr, bne_self_eq_false, Bool.false_eq_true, if_false, decide_true, if_true, slices_Clone_int_int.f, List.length_nil, Nat.zero_add, List.nil_append, Option.bind_some]
    rw [if_pos (by omega)]
    simp only [Option.bind_some]
    rw [if_pos (by omega), if_pos (by omega)]
    cases m <;> simp [List.set_set]
  · have : (rd l i != -1) = true := by simpa using hr
    simp [this, hr]
theorem withMarkM_len (l : List Int) (a b i : Int) (m : Bool) : (withMarkM l a b i m).1.length ≤ l.length := by
  unfold withMarkM; split
  · simp [List.length_set]
  · simp
theorem markPiece_eq {k : Nat} {l : List Int} {s : Int} (hk : l.length < k) (hl : l.length ≤ 1073741824) (hs : 0 ≤ s ∧ s ≤ 1073741824) (a b : Int) : laws_markPiece.f k l a b s = some (s + 1 * (l.length : Int), markM (fun x => x) 1 l.length s) := by
  simp only [laws_markPiece.f, markIntS_eq hk hl hs, Option.bind_some]
theorem heldPiece_eq {k n : Nat} {s : Int} (hk : n < k) (hl : n ≤ 1073741824) (hs : 0 ≤ s ∧ s ≤ 1073741824) (a b : Int) : laws_heldPiece.f k (markM (fun x => x) 1 n s) a b s = some (s + 1 * (n : Int)) := by
  simp only [laws_heldPiece.f, heldIntS_eq hk hl hs, Option.bind_some]
  rw [if_neg (by omega)]

end Go.Proofs.Ytiomfignokichaa.Pure

-- PureFnExactWithMark
namespace Go.Proofs.Ytiomfignokichaa.Pure
open Go Go.RowKit Go.Proofs Go.Proofs.Ytiomfignokichaa.X Go.Proofs.YtiomfignokichaaW.PrintWords Go.Proofs.YtiomfignokichaaW.PrintLast
set_option linter.unusedVariables false
set_option linter.unusedSimpArgs false

theorem FnExactWithMark : laws_FnExactWithMark.Pure := by
  intro l a b i m hl _ _ _
  refine ⟨4000001, ?_⟩
  simp only [laws_FnExactWithMark.f, szPiece_eq hl.1 (show (0 : Int) ≤ 1048576 ∧ (1048576 : Int) ≤ 9223372036854775807 by omega), Option.bind_some]
  by_cases hs : (1048576 : Int) < l.length
  · simp [hs]
  rw [if_neg hs, if_neg (by omega)]
  have h1 : l.length ≤ 1048576 := by omega
  have h3 := withMarkM_len l a b i m
  simp only [toPiece_eq (k := 4000001) (l := l) (by omega) h1, Option.bind_some, withMarkS_eq (k := 4000001) (l := l) (by omega) (by omega), withMarkI_eq (k := 4000001) (l := l) (by omega) (by omega), eqPiece_refl (k := 4000001) (l := (withMarkM l a b i m).1) (by omega) (by omega), if_true, laws_FnExactWithMark.j0, toPiece_eq (k := 4000000) (l := l) (by omega) h1, eqPiece_refl (k := 4000000) (l := l) (by omega) h1, markPiece_eq (k := 4000000) (l := l) (s := 1) (by omega) (by omega) (by omega), eqPiece_refl (k := 4000000) (l := (withMarkM l a b i m).1) (by omega) (by omega)]
  simp only [bne_self_eq_false, Bool.false_eq_true, if_false]
  rw [if_neg (by omega)]
  simp only [laws_FnExactWithMark.j1, Bool.false_eq_true, if_false, markPiece_eq (k := 3999999) (l := (withMarkM l a b i m).1) (s := 1) (by omega) (by omega) (by omega), Option.bind_some, heldPiece_eq (k := 3999999) (n := (withMarkM l a b i m).1.length) (s := 1) (by omega) (by omega) (by omega), if_true, toPiece_eq (k := 3999999) (l := l) (by omega) h1, withMarkI_eq (k := 3999999) (l := l) (by omega) (by omega), eqPiece_refl (k := 3999999) (l := (withMarkM l a b i m).1) (by omega) (by omega), bne_self_eq_false]
  rw [if_neg (by omega)]
  simp only [laws_FnExactWithMark.j2, Bool.false_eq_true, if_false, heldPiece_eq (k := 3999998) (n := (withMarkM l a b i m).1.length) (s := 1) (by omega) (by omega) (by omega), Option.bind_some, if_true]
  rw [if_neg (by omega)]

end Go.Proofs.Ytiomfignokichaa.Pure

-- Open
namespace Go.Proofs.Open
open Go.RowKit Go.WideShapes Go.Proofs.YtiomfignokichaaW.PrintWords
set_option linter.unusedVariables false

theorem mapM_cons_some {α β : Type} {f : α → Option β} {a : α} {l : List α} {ys : List β} (h : (a :: l).mapM f = some ys) : ∃ y ys', f a = some y ∧ l.mapM f = some ys' ∧ ys = y :: ys' := by
  rw [List.mapM_cons] at h
  obtain ⟨y, hy, h⟩ := Option.bind_eq_some_iff.mp h
  obtain ⟨ys', hys, h⟩ := Option.bind_eq_some_iff.mp h
  exact ⟨y, ys', hy, hys, (Option.some.inj h).symm⟩
theorem mapM_some_get {α β : Type} {f : α → Option β} : ∀ {l : List α} {ys : List β}, l.mapM f = some ys → ys.length = l.length ∧ ∀ (i : Nat) (a : α), l[i]? = some a → ∃ y, f a = some y ∧ ys[i]? = some y
  | [], ys, h => by
    obtain rfl : ys = [] := by simpa using h
    exact ⟨rfl, fun i a h => by simp at h⟩
  | a :: l, ys, h => by
    obtain ⟨y, ys', hy, hys, rfl⟩ := mapM_cons_some h
    obtain ⟨hl, hg⟩ := mapM_some_get hys
    refine ⟨by simp [hl], fun i b hb => ?_⟩
    cases i with
    | zero => obtain rfl : a = b := by simpa using hb
              exact ⟨y, hy, rfl⟩
    | succ i => exact hg i b (by simpa using hb)
theorem cells_get {w : World} {base n : Nat} {a : Addr} {cs : List Value} (h : w.cells? base a n = some cs) : cs.length = n ∧ ∀ i u, cs[i]? = some u → w.cell? (a.add i) = some u := by
  unfold World.cells? at h
  split at h
  · obtain ⟨hl, hg⟩ := mapM_some_get h
    rw [List.length_range] at hl
    refine ⟨hl, fun i u hu => ?_⟩
    have hi : i < n := by have := (List.getElem?_eq_some_iff.1 hu).1; omega
    obtain ⟨y, hy, hy2⟩ := hg i i (by simp [List.getElem?_range hi])
    rw [hu] at hy2
    injection hy2 with hy2
    rw [hy2]; exact hy
  · cases h
theorem add_add (a : Addr) (i j : Nat) : (a.add i).add j = a.add (i + j) := by
  by_cases hi : i = 0
  · subst hi
    rw [Nat.zero_add, show a.add 0 = a by unfold Addr.add; simp]
  · by_cases hj : j = 0
    · subst hj
      rw [Nat.add_zero, show (a.add i).add 0 = a.add i by unfold Addr.add; simp]
    · unfold Addr.add
      simp [hi, hj, Nat.add_assoc]
/-- Whatever reads as a datum of type t is an x of kind d, within ok. -/
structure Opens {α : Type} (P : Program) (W : World) (t : TypeId) (d : Kd α) (ok : α → Prop) : Prop where
  get : ∀ {H : Type} (enc : TypeId × Value → H) (base : Nat) (spare : Nat → Bool) (held : Bool) (fuel : Nat) (cs : List Value) (y : DataW H × List MemPlace), DataW.trod enc P W base spare held fuel t cs = some y → ∃ x, d.K W x cs ∧ ok x
theorem Opens.int {P : Program} {W : World} {t : TypeId} {k : IntKind} (hu : P.underlying t = some (.int k)) : Opens P W t (Kd.int k) (fun x => (Lit.int k x).wf = true) := ⟨by
  intro H enc base spare held fuel cs y h
  cases fuel with
  | zero => simp [DataW.trod] at h
  | succ fuel =>
    simp only [DataW.trod, hu] at h
    split at h <;> first | (cases h; done) | skip
    all_goals rename_i heq
    all_goals first | (cases heq; done) | skip
    rename_i k0 k' n
    injection heq with heq
    injection heq with heq
    subst heq
    split at h
    · rename_i hk
      obtain ⟨rfl, hw⟩ := hk
      exact ⟨n, rfl, hw⟩
    · cases h⟩
theorem Opens.bool {P : Program} {W : World} {t : TypeId} (hu : P.underlying t = some .bool) : Opens P W t Kd.bool (fun _ => True) := ⟨by
  intro H enc base spare held fuel cs y h
  cases fuel with
  | zero => simp [DataW.trod] at h
  | succ fuel =>
    simp only [DataW.trod, hu] at h
    split at h <;> first | (cases h; done) | skip
    all_goals rename_i heq
    all_goals first | (cases heq; done) | skip
    rename_i b
    exact ⟨b, rfl, trivial⟩⟩
theorem Opens.string {P : Program} {W : World} {t : TypeId} (hu : P.underlying t = some .string) : Opens P W t Kd.string (fun s => s.size ≤ 9223372036854775807) := ⟨by
  intro H enc base spare held fuel cs y h
  cases fuel with
  | zero => simp [DataW.trod] at h
  | succ fuel =>
    simp only [DataW.trod, hu] at h
    split at h <;> first | (cases h; done) | skip
    all_goals rename_i heq
    all_goals first | (cases heq; done) | skip
    rename_i s
    split at h
    · rename_i hs
      exact ⟨s, rfl, by simpa [maxLen] using hs⟩
    · cases h⟩
theorem pick {α : Type} {n : Nat} {Q : Nat → α → Prop} (h : ∀ i, i < n → ∃ x, Q i x) : ∃ xs : List α, xs.length = n ∧ ∀ i x, xs[i]? = some x → Q i x := by
  induction n with
  | zero => exact ⟨[], rfl, fun i x h => by simp at h⟩
  | succ n ih =>
    obtain ⟨xs, hl, hq⟩ := ih (fun i hi => h i (by omega))
    obtain ⟨x, hx⟩ := h n (by omega)
    refine ⟨xs ++ [x], by simp [hl], fun i z hz => ?_⟩
    by_cases hi : i < n
    · rw [List.getElem?_append_left (by omega)] at hz
      exact hq i z hz
    · have hlt := (List.getElem?_eq_some_iff.1 hz).1
      simp [hl] at hlt
      obtain rfl : i = n := by omega
      rw [List.getElem?_append_right (by omega), hl, Nat.sub_self] at hz
      obtain rfl : x = z := by simpa using hz
      exact hx
theorem Opens.slice {α : Type} {P : Program} {W : World} {t e : TypeId} {d : Kd α} {ok : α → Prop} (hu : P.underlying t = some (.slice e)) (hc : P.cellsOf e = d.sz) (h : Opens P W e d ok) :
    Opens P W t (Kd.slice e d) (fun l => l.length ≤ 9223372036854775807 ∧ ∀ x ∈ l, ok x) := ⟨by
  intro H enc base spare held fuel cs y hd
  cases fuel with
  | zero => simp [DataW.trod] at hd
  | succ fuel =>
    simp only [DataW.trod, hu] at hd
    split at hd <;> first | (cases hd; done) | skip
    all_goals rename_i heq
    all_goals first | (cases heq; done) | skip
    · exact ⟨[], ⟨none, 0, rfl, Nat.le_refl _, rfl, by simp, fun hp => absurd hp (by simp)⟩, by simp, fun x hx => by simp at hx⟩
    · rename_i e' a len cap
      injection heq with heq
      injection heq with heq
      subst heq
      split at hd
      · rename_i hb
        obtain ⟨hb1, hb2, hb3⟩ := hb
        obtain ⟨elems, hel, _⟩ := Option.bind_eq_some_iff.mp hd
        obtain ⟨hl, hg⟩ := mapM_some_get hel
        rw [List.length_range] at hl
        have hm : len ≤ 9223372036854775807 := by have : cap ≤ 9223372036854775807 := by simpa [maxLen] using hb3
                                                  omega
        obtain ⟨xs, hxl, hxs⟩ := pick (n := len) (Q := fun i x => ∃ c, c.length = d.sz ∧ d.K W x c ∧ ok x ∧ ∀ j u, c[j]? = some u → W.cell? (a.add (i * d.sz + j)) = some u) (fun i hi => by
          obtain ⟨z, hz, _⟩ := hg i i (by simp [List.getElem?_range hi])
          obtain ⟨c, hcc, hct⟩ := Option.bind_eq_some_iff.mp hz
          obtain ⟨x, hK, hok⟩ := h.get enc base spare held fuel c z hct
          obtain ⟨hcl, hcell⟩ := cells_get hcc
          refine ⟨x, c, by rw [hcl, hc], hK, hok, fun j u hu => ?_⟩
          have := hcell j u hu
          rw [add_add, hc] at this
          exact this)
        refine ⟨xs, ⟨some a, cap, by rw [hxl], by omega, rfl, by omega, fun _ => ⟨a, rfl, fun j p hj => ?_⟩⟩, by omega, fun x hx => ?_⟩
        · obtain ⟨c, h1, h2, h3, h4⟩ := hxs j p hj
          exact ⟨c, h1, h2, h4⟩
        · obtain ⟨j, hj, rfl⟩ := List.mem_iff_getElem.mp hx
          obtain ⟨c, h1, h2, h3, h4⟩ := hxs j _ (List.getElem?_eq_getElem hj)
          exact h3
      · cases hd⟩
/-- The fields from an offset on. -/
structure OpensAt {α : Type} (P : Program) (W : World) (fs : List Field) (off : Nat) (d : Kd α) (ok : α → Prop) : Prop where
  get : ∀ {H : Type} (enc : TypeId × Value → H) (base : Nat) (spare : Nat → Bool) (held : Bool) (fuel : Nat) (cs : List Value) (ys : List (DataW H × List MemPlace)), cs.length = off + d.sz →
    (fs.mapM fun f => DataW.trod enc P W base spare held fuel f.type ((cs.drop f.offset).take (P.cellsOf f.type))) = some ys → ∃ x, d.K W x (cs.drop off) ∧ ok x
theorem OpensAt.one {α : Type} {P : Program} {W : World} {f : Field} {off : Nat} {d : Kd α} {ok : α → Prop} (ho : f.offset = off) (hc : P.cellsOf f.type = d.sz) (h : Opens P W f.type d ok) : OpensAt P W [f] off d ok := ⟨by
  intro H enc base spare held fuel cs ys hl hm
  obtain ⟨y, _, hy, _, _⟩ := mapM_cons_some hm
  rw [ho, hc, List.take_of_length_le (by rw [List.length_drop]; omega)] at hy
  exact h.get enc base spare held fuel _ y hy⟩
theorem OpensAt.cons {α β : Type} {P : Program} {W : World} {f : Field} {fs : List Field} {off : Nat} {d : Kd α} {d2 : Kd β} {ok : α → Prop} {ok2 : β → Prop} (ho : f.offset = off) (hc : P.cellsOf f.type = d.sz) (h : Opens P W f.type d ok) (h2 : OpensAt P W fs (off + d.sz) d2 ok2) :
    OpensAt P W (f :: fs) off (Kd.pair d d2) (fun x => ok x.1 ∧ ok2 x.2) := ⟨by
  intro H enc base spare held fuel cs ys hl hm
  have hl2 : cs.length = off + (d.sz + d2.sz) := hl
  obtain ⟨y, ys', hy, hys, _⟩ := mapM_cons_some hm
  rw [ho, hc] at hy
  obtain ⟨x, hK, hok⟩ := h.get enc base spare held fuel _ y hy
  obtain ⟨x2, hK2, hok2⟩ := h2.get enc base spare held fuel cs ys' (by omega) hys
  refine ⟨(x, x2), ⟨(cs.drop off).take d.sz, cs.drop (off + d.sz), ?_, hK, hK2⟩, hok, hok2⟩
  rw [← List.drop_drop, List.take_append_drop]⟩
theorem Opens.struct {α : Type} {P : Program} {W : World} {t : TypeId} {fs : Array Field} {d : Kd α} {ok : α → Prop} (hu : P.underlying t = some (.struct fs)) (hc : P.cellsOf t = d.sz) (h : OpensAt P W fs.toList 0 d ok) : Opens P W t d ok := ⟨by
  intro H enc base spare held fuel cs y hd
  cases fuel with
  | zero => simp [DataW.trod] at hd
  | succ fuel =>
    simp only [DataW.trod, hu] at hd
    split at hd
    · rename_i hl
      obtain ⟨ys, hys, _⟩ := Option.map_eq_some_iff.mp hd
      exact h.get enc base spare held fuel cs ys (by omega) hys
    · cases hd⟩
theorem Opens.iso {α β : Type} {P : Program} {W : World} {t : TypeId} {d : Kd α} {f : β → α} {ok : α → Prop} (h : Opens P W t d ok) (g : α → β) (hg : ∀ x, f (g x) = x) : Opens P W t (Kd.iso d f) (fun y => ok (f y)) := ⟨by
  intro H enc base spare held fuel cs y hd
  obtain ⟨x, hK, hok⟩ := h.get enc base spare held fuel cs y hd
  refine ⟨g x, ?_, ?_⟩
  · show d.K W (f (g x)) cs
    rw [hg]; exact hK
  · rw [hg]; exact hok⟩
theorem wf_i64 {x : Int} (h : (Lit.int .i64 x).wf = true) : -9223372036854775808 ≤ x ∧ x ≤ 9223372036854775807 := by
  have h1 := h
  simp [Lit.wf] at h1
  exact ⟨h1.1, h1.2⟩
end Go.Proofs.Open
