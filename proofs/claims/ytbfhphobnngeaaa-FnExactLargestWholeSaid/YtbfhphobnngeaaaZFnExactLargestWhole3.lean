/- What the law FnExactLargestWhole needs, part 4 of 4: what each function of the program that it reaches returns (printed by this session's own program, checked by Lean), and plain mathematics about it. Conditions: those of each theorem. -/
import Derived.Test.YtbfhphobnngeaaaZFnExactLargestWhole2
import Derived.Test.YtbfhphobnngeaaaWLast
import Derived.Test.YtbfhphobnngeaaaWWords
-- XspecLargestWholeF23
namespace Go.Proofs.Ytbfhphobnngeaaa.X
open Ho (bS eS)
open Go.RowKit Go.Proofs.YtbfhphobnngeaaaW.PrintWords Go.Proofs.YtbfhphobnngeaaaW.PrintLast Go.Proofs.YtbfhphobnngeaaaW.PrintMore
attribute [local go_sem] max2_int min2_int max_two min_two max_three min_three max_four min_four   -- for this text's walks alone
set_option linter.unusedVariables false
set_option linter.unusedSimpArgs false

attribute [local go_sem ↓] Ho.isSome_setCell_   -- a store leaves all places there
/-! ### spec_LargestWhole: function 23 -/
mutual
def spec_LargestWhole.l0 : Nat → List (S39) → Int → Int → Int → Int → List Int → Int → Int → Int → Int → Option (Int × Int × Int × Int × Int × Bool)
  | 0, _, _, _, _, _, _, _, _, _, _ => none
  | k + 1, x1, x8, x9, x102000, x102001, x102002, x104000, x104001, x104002, x104003 => if x9 < x102001 then (spec_LargestWhole.l1 k x1 x8 x9 0 x102000 x102001 x102002 x104000 x104001 x104002 x104003) else (some (x104000, x104001, x104002, x104003, x8, decide (x8 > 0)))
def spec_LargestWhole.l1 : Nat → List (S39) → Int → Int → Int → Int → Int → List Int → Int → Int → Int → Int → Option (Int × Int × Int × Int × Int × Bool)
  | 0, _, _, _, _, _, _, _, _, _, _, _ => none
  | k + 1, x1, x8, x9, x10, x102000, x102001, x102002, x104000, x104001, x104002, x104003 => if x10 < x102000 then (spec_LargestWhole.l2 k x1 x8 x9 x10 x9 x102000 x102001 x102002 x104000 x104001 x104002 x104003) else (spec_LargestWhole.l0 k x1 x8 (wrap64 (x9 + 1)) x102000 x102001 x102002 x104000 x104001 x104002 x104003)
def spec_LargestWhole.l2 : Nat → List (S39) → Int → Int → Int → Int → Int → Int → List Int → Int → Int → Int → Int → Option (Int × Int × Int × Int × Int × Bool)
  | 0, _, _, _, _, _, _, _, _, _, _, _, _ => none
  | k + 1, x1, x8, x9, x10, x11, x102000, x102001, x102002, x104000, x104001, x104002, x104003 => if x11 < x102001 then (spec_LargestWhole.l3 k x1 x8 x9 x10 x11 x10 x102000 x102001 x102002 x104000 x104001 x104002 x104003) else (spec_LargestWhole.l1 k x1 x8 x9 (wrap64 (x10 + 1)) x102000 x102001 x102002 x104000 x104001 x104002 x104003)
def spec_LargestWhole.l3 : Nat → List (S39) → Int → Int → Int → Int → Int → Int → Int → List Int → Int → Int → Int → Int → Option (Int × Int × Int × Int × Int × Bool)
  | 0, _, _, _, _, _, _, _, _, _, _, _, _, _ => none
  | k + 1, x1, x8, x9, x10, x11, x12, x102000, x102001, x102002, x104000, x104001, x104002, x104003 => if x12 < x102000 then ((spec_l23Knots.f x9 x10 x11 x12).bind fun t106 => (if t106 > x8 then ((spec_l23Whole.f k x1 x9 x10 x11 x12).bind fun t107 => (if t107 = true then ((spec_l23Knots.f x9 x10 x11 x12).bind fun t108 => (spec_LargestWhole.l3 k x1 t108 x9 x10 x11 (wrap64 (x12 + 1)) x102000 x102001 x102002 x9 x10 x11 x12)) else (spec_LargestWhole.l3 k x1 x8 x9 x10 x11 (wrap64 (x12 + 1)) x102000 x102001 x102002 x104000 x104001 x104002 x104003))) else (spec_LargestWhole.l3 k x1 x8 x9 x10 x11 (wrap64 (x12 + 1)) x102000 x102001 x102002 x104000 x104001 x104002 x104003))) else (spec_LargestWhole.l2 k x1 x8 x9 x10 (wrap64 (x11 + 1)) x102000 x102001 x102002 x104000 x104001 x104002 x104003)
end
def spec_LargestWhole.f (k : Nat) (a0_0 : Int) (a0_1 : Int) (l0_2 : List Int) (l1 : List (S39)) : Option (Int × Int × Int × Int × Int × Bool) := (spec_l23Good.f k a0_0 a0_1 l0_2 l1).bind fun t104 => (if t104 = true then (spec_LargestWhole.l0 k l1 0 0 a0_0 a0_1 l0_2 0 0 0 0) else (some (0, 0, 0, 0, 0, false)))
theorem spec_LargestWhole.mono_l : ∀ k, (∀ y0 y1 y2 y3 y4 y5 y6 y7 y8 y9, LeO (spec_LargestWhole.l0 k y0 y1 y2 y3 y4 y5 y6 y7 y8 y9) (spec_LargestWhole.l0 (k + 1) y0 y1 y2 y3 y4 y5 y6 y7 y8 y9)) ∧ (∀ y0 y1 y2 y3 y4 y5 y6 y7 y8 y9 y10, LeO (spec_LargestWhole.l1 k y0 y1 y2 y3 y4 y5 y6 y7 y8 y9 y10) (spec_LargestWhole.l1 (k + 1) y0 y1 y2 y3 y4 y5 y6 y7 y8 y9 y10)) ∧ (∀ y0 y1 y2 y3 y4 y5 y6 y7 y8 y9 y10 y11, LeO (spec_LargestWhole.l2 k y0 y1 y2 y3 y4 y5 y6 y7 y8 y9 y10 y11) (spec_LargestWhole.l2 (k + 1) y0 y1 y2 y3 y4 y5 y6 y7 y8 y9 y10 y11)) ∧ (∀ y0 y1 y2 y3 y4 y5 y6 y7 y8 y9 y10 y11 y12, LeO (spec_LargestWhole.l3 k y0 y1 y2 y3 y4 y5 y6 y7 y8 y9 y10 y11 y12) (spec_LargestWhole.l3 (k + 1) y0 y1 y2 y3 y4 y5 y6 y7 y8 y9 y10 y11 y12))
  | 0 => ⟨fun _ _ _ _ _ _ _ _ _ _ r h => by simp [spec_LargestWhole.l0] at h, fun _ _ _ _ _ _ _ _ _ _ _ r h => by simp [spec_LargestWhole.l1] at h, fun _ _ _ _ _ _ _ _ _ _ _ _ r h => by simp [spec_LargestWhole.l2] at h, fun _ _ _ _ _ _ _ _ _ _ _ _ _ r h => by simp [spec_LargestWhole.l3] at h⟩
  | k + 1 => by
    obtain ⟨ih0, ih1, ih2, ih3⟩ := spec_LargestWhole.mono_l k
    refine ⟨?_, ?_, ?_, ?_⟩
    · intro y0 y1 y2 y3 y4 y5 y6 y7 y8 y9
      unfold spec_LargestWhole.l0
      repeat' first
      | (with_reducible exact ih0 _ _ _ _ _ _ _ _ _ _)
      | (with_reducible exact ih1 _ _ _ _ _ _ _ _ _ _ _)
      | (with_reducible exact ih2 _ _ _ _ _ _ _ _ _ _ _ _)
      | (with_reducible exact ih3 _ _ _ _ _ _ _ _ _ _ _ _ _)
      | (with_reducible exact spec_l23Good.mono _ _ _ _ _)
      | (with_reducible exact spec_l23Whole.mono _ _ _ _ _ _)
      | (with_reducible exact LeO.refl _)
      | (with_reducible exact LeO.none _)
      | (with_reducible refine LeO.ite ?_ ?_)
      | (with_reducible refine LeO.bind ?_ (fun _ => ?_))
      | exact ih0 _ _ _ _ _ _ _ _ _ _
      | exact ih1 _ _ _ _ _ _ _ _ _ _ _
      | exact ih2 _ _ _ _ _ _ _ _ _ _ _ _
      | exact ih3 _ _ _ _ _ _ _ _ _ _ _ _ _
      | exact spec_l23Good.mono _ _ _ _ _
      | exact spec_l23Whole.mono _ _ _ _ _ _
      | exact LeO.none _
      | refine LeO.ite ?_ ?_
      | refine LeO.bind ?_ (fun _ => ?_)
    · intro y0 y1 y2 y3 y4 y5 y6 y7 y8 y9 y10
      unfold spec_LargestWhole.l1
      repeat' first
      | (with_reducible exact ih0 _ _ _ _ _ _ _ _ _ _)
      | (with_reducible exact ih1 _ _ _ _ _ _ _ _ _ _ _)
      | (with_reducible exact ih2 _ _ _ _ _ _ _ _ _ _ _ _)
      | (with_reducible exact ih3 _ _ _ _ _ _ _ _ _ _ _ _ _)
      | (with_reducible exact spec_l23Good.mono _ _ _ _ _)
      | (with_reducible exact spec_l23Whole.mono _ _ _ _ _ _)
      | (with_reducible exact LeO.refl _)
      | (with_reducible exact LeO.none _)
      | (with_reducible refine LeO.ite ?_ ?_)
      | (with_reducible refine LeO.bind ?_ (fun _ => ?_))
      | exact ih0 _ _ _ _ _ _ _ _ _ _
      | exact ih1 _ _ _ _ _ _ _ _ _ _ _
      | exact ih2 _ _ _ _ _ _ _ _ _ _ _ _
      | exact ih3 _ _ _ _ _ _ _ _ _ _ _ _ _
      | exact spec_l23Good.mono _ _ _ _ _
      | exact spec_l23Whole.mono _ _ _ _ _ _
      | exact LeO.none _
      | refine LeO.ite ?_ ?_
      | refine LeO.bind ?_ (fun _ => ?_)
    · intro y0 y1 y2 y3 y4 y5 y6 y7 y8 y9 y10 y11
      unfold spec_LargestWhole.l2
      repeat' first
      | (with_reducible exact ih0 _ _ _ _ _ _ _ _ _ _)
      | (with_reducible exact ih1 _ _ _ _ _ _ _ _ _ _ _)
      | (with_reducible exact ih2 _ _ _ _ _ _ _ _ _ _ _ _)
      | (with_reducible exact ih3 _ _ _ _ _ _ _ _ _ _ _ _ _)
      | (with_reducible exact spec_l23Good.mono _ _ _ _ _)
      | (with_reducible exact spec_l23Whole.mono _ _ _ _ _ _)
      | (with_reducible exact LeO.refl _)
      | (with_reducible exact LeO.none _)
      | (with_reducible refine LeO.ite ?_ ?_)
      | (with_reducible refine LeO.bind ?_ (fun _ => ?_))
      | exact ih0 _ _ _ _ _ _ _ _ _ _
      | exact ih1 _ _ _ _ _ _ _ _ _ _ _
      | exact ih2 _ _ _ _ _ _ _ _ _ _ _ _
      | exact ih3 _ _ _ _ _ _ _ _ _ _ _ _ _
      | exact spec_l23Good.mono _ _ _ _ _
      | exact spec_l23Whole.mono _ _ _ _ _ _
      | exact LeO.none _
      | refine LeO.ite ?_ ?_
      | refine LeO.bind ?_ (fun _ => ?_)
    · intro y0 y1 y2 y3 y4 y5 y6 y7 y8 y9 y10 y11 y12
      unfold spec_LargestWhole.l3
      repeat' first
      | (with_reducible exact ih0 _ _ _ _ _ _ _ _ _ _)
      | (with_reducible exact ih1 _ _ _ _ _ _ _ _ _ _ _)
      | (with_reducible exact ih2 _ _ _ _ _ _ _ _ _ _ _ _)
      | (with_reducible exact ih3 _ _ _ _ _ _ _ _ _ _ _ _ _)
      | (with_reducible exact spec_l23Good.mono _ _ _ _ _)
      | (with_reducible exact spec_l23Whole.mono _ _ _ _ _ _)
      | (with_reducible exact LeO.refl _)
      | (with_reducible exact LeO.none _)
      | (with_reducible refine LeO.ite ?_ ?_)
      | (with_reducible refine LeO.bind ?_ (fun _ => ?_))
      | exact ih0 _ _ _ _ _ _ _ _ _ _
      | exact ih1 _ _ _ _ _ _ _ _ _ _ _
      | exact ih2 _ _ _ _ _ _ _ _ _ _ _ _
      | exact ih3 _ _ _ _ _ _ _ _ _ _ _ _ _
      | exact spec_l23Good.mono _ _ _ _ _
      | exact spec_l23Whole.mono _ _ _ _ _ _
      | exact LeO.none _
      | refine LeO.ite ?_ ?_
      | refine LeO.bind ?_ (fun _ => ?_)
theorem spec_LargestWhole.mono : ∀ a0 a1 a2 a3 k, LeO (spec_LargestWhole.f k a0 a1 a2 a3) (spec_LargestWhole.f (k + 1) a0 a1 a2 a3) := by
  intro a0 a1 a2 a3 k
  obtain ⟨ih0, ih1, ih2, ih3⟩ := spec_LargestWhole.mono_l k
  unfold spec_LargestWhole.f
  repeat' first
      | (with_reducible exact ih0 _ _ _ _ _ _ _ _ _ _)
      | (with_reducible exact ih1 _ _ _ _ _ _ _ _ _ _ _)
      | (with_reducible exact ih2 _ _ _ _ _ _ _ _ _ _ _ _)
      | (with_reducible exact ih3 _ _ _ _ _ _ _ _ _ _ _ _ _)
      | (with_reducible exact spec_l23Good.mono _ _ _ _ _)
      | (with_reducible exact spec_l23Whole.mono _ _ _ _ _ _)
      | (with_reducible exact LeO.refl _)
      | (with_reducible exact LeO.none _)
      | (with_reducible refine LeO.ite ?_ ?_)
      | (with_reducible refine LeO.bind ?_ (fun _ => ?_))
      | exact ih0 _ _ _ _ _ _ _ _ _ _
      | exact ih1 _ _ _ _ _ _ _ _ _ _ _
      | exact ih2 _ _ _ _ _ _ _ _ _ _ _ _
      | exact ih3 _ _ _ _ _ _ _ _ _ _ _ _ _
      | exact spec_l23Good.mono _ _ _ _ _
      | exact spec_l23Whole.mono _ _ _ _ _ _
      | exact LeO.none _
      | refine LeO.ite ?_ ?_
      | refine LeO.bind ?_ (fun _ => ?_)
set_option maxHeartbeats 8000000 in
set_option maxRecDepth 100000 in
theorem spec_LargestWhole.calls (k : Nat) (a0_0 : Int) (a0_1 : Int) (A0_2 : Option Addr) (c0_2 : Nat) (l0_2 : List Int) (A1 : Option Addr) (c1 : Nat) (l1 : List (S39)) (r1 : Int) (r2 : Int) (r3 : Int) (r4 : Int) (r5 : Int) (r6 : Bool) (w : World) (hr0_2 : Kd.C (Kd.int .i64) w A0_2 l0_2.length l0_2) (hc0_2 : l0_2.length ≤ c0_2) (hr1 : Kd.C k39 w A1 l1.length l1) (hc1 : l1.length ≤ c1) (h : spec_LargestWhole.f k a0_0 a0_1 l0_2 l1 = some (r1, r2, r3, r4, r5, r6)) :
  Calls Try.prog 23 #[.agg #[.int .i64 a0_0, .int .i64 a0_1, .slice A0_2 l0_2.length c0_2], .slice A1 l1.length c1] w fun e w' => e = .returned (.tuple #[.agg #[.int .i64 r1, .int .i64 r2, .int .i64 r3, .int .i64 r4], .int .i64 r5, .bool r6]) ∧ Below w.heap.size w w' := by
 have hu29 := Try.underlying29
 have hu39 := Try.underlying39
 have HR0_2 := Aside0.mk hr0_2
 have HC0_2 := Aside0.mk hc0_2
 clear hr0_2 hc0_2
 have HR1 := Aside0.mk hr1
 have HC1 := Aside0.mk hc1
 clear hr1 hc1
 have HB := Aside0.mk (Below.refl w.heap.size w)
 have H : ((spec_l23Good.f k a0_0 a0_1 l0_2 l1).bind fun t104 => (if t104 = true then (spec_LargestWhole.l0 k l1 0 0 a0_0 a0_1 l0_2 0 0 0 0) else (some (0, 0, 0, 0, 0, false)))) = some (r1, r2, r3, r4, r5, r6) := h
 clear h
 replace H := Option.bind_eq_some_iff.mp H
 obtain ⟨t104, A30, H⟩ := H
 replace H : (if t104 = true then (spec_LargestWhole.l0 k l1 0 0 a0_0 a0_1 l0_2 0 0 0 0) else (some (0, 0, 0, 0, 0, false))) = some (r1, r2, r3, r4, r5, r6) := H
 have A3 := Aside0.mk A30
 clear A30
 by_cases c4 : t104 = true
 ·subst c4
  have H1 : (spec_LargestWhole.l0 k l1 0 0 a0_0 a0_1 l0_2 0 0 0 0) = some (r1, r2, r3, r4, r5, r6) := by rw [if_pos rfl] at H; exact H
  clear H
  have H := H1
  clear H1
  have H' := Aside0.mk H
  clear H
  go_enter Try.func23, Try.ntmps23
  go_wp2_with (first | ((with_reducible refine gate_dst (N := 2) rfl ?_); refine box_event ?hg (N := 2) ?hd (cs := #[.int .i64 a0_0, .int .i64 a0_1, .slice A0_2 l0_2.length c0_2]) (t := 29) ?hr ?_; (case hd => rfl); (case hg => rfl); (case hr => first | (go_simp; done) | (go_simp; rfl)); intro gb101 hg w5 hbox hb; have n0_ := Aside0.mk (below_step (by exact eS HB.out) hb); have n1_ := Aside0.mk (hbox); have n2_ := Aside0.mk ((by rw [hg]; exact (below_size (by exact eS HB.out)) : w.heap.size ≤ gb101)); have n3_ := Aside0.mk ((by rw [hg]; exact (below_size (by exact eS HB.out)) : w.heap.size ≤ gb101)); clear HB; have HB := n0_; have BK101 := n1_; have GW101 := n2_; have GE101 := n3_; clear n0_ n1_ n2_ n3_; clear hb hbox hg) | ((with_reducible refine gate_dst (N := 4) rfl ?_); refine box_event ?hg (N := 4) ?hd (cs := #[.int .i64 0, .int .i64 0, .int .i64 0, .int .i64 0]) (t := 39) ?hr ?_; (case hd => rfl); (case hg => rfl); (case hr => first | (go_simp; done) | (go_simp; rfl)); intro gb102 hg w6 hbox hb; have n0_ := Aside0.mk (blk_below (bS BK101.out) hb); have n1_ := Aside0.mk (below_step (by exact eS HB.out) hb); have n2_ := Aside0.mk (hbox); have n3_ := Aside0.mk ((by rw [hg]; exact (below_size (by exact eS HB.out)) : w.heap.size ≤ gb102)); have n4_ := Aside0.mk ((by rw [hg]; exact (below_size (by exact eS HB.out)) : w.heap.size ≤ gb102)); have n5_ := Aside0.mk ((by rw [hg]; exact Nat.ne_of_lt (blk_lt (bS BK101.out)) : gb101 ≠ gb102)); have n6_ := Aside0.mk ((by rw [hg]; exact Nat.ne_of_gt (blk_lt (bS BK101.out)) : gb102 ≠ gb101)); clear BK101; clear HB; have BK101 := n0_; have HB := n1_; have BK102 := n2_; have GW102 := n3_; have GE102 := n4_; have NB101_102 := n5_; have NB102_101 := n6_; clear n0_ n1_ n2_ n3_ n4_ n5_ n6_; clear hb hbox hg) | ((with_reducible refine gate_dst (N := 7) rfl ?_); refine box_event ?hg (N := 7) ?hd (cs := #[.int .i64 0, .int .i64 0, .int .i64 0, .int .i64 0]) (t := 39) ?hr ?_; (case hd => rfl); (case hg => rfl); (case hr => first | (go_simp; done) | (go_simp; rfl)); intro gb103 hg w7 hbox hb; have n0_ := Aside0.mk (blk_below (bS BK101.out) hb); have n1_ := Aside0.mk (blk_below (bS BK102.out) hb); have n2_ := Aside0.mk (below_step (by exact eS HB.out) hb); have n3_ := Aside0.mk (hbox); have n4_ := Aside0.mk ((by rw [hg]; exact (below_size (by exact eS HB.out)) : w.heap.size ≤ gb103)); have n5_ := Aside0.mk ((by rw [hg]; exact (below_size (by exact eS HB.out)) : w.heap.size ≤ gb103)); have n6_ := Aside0.mk ((by rw [hg]; exact Nat.ne_of_lt (blk_lt (bS BK101.out)) : gb101 ≠ gb103)); have n7_ := Aside0.mk ((by rw [hg]; exact Nat.ne_of_gt (blk_lt (bS BK101.out)) : gb103 ≠ gb101)); have n8_ := Aside0.mk ((by rw [hg]; exact Nat.ne_of_lt (blk_lt (bS BK102.out)) : gb102 ≠ gb103)); have n9_ := Aside0.mk ((by rw [hg]; exact Nat.ne_of_gt (blk_lt (bS BK102.out)) : gb103 ≠ gb102)); clear BK101; clear BK102; clear HB; have BK101 := n0_; have BK102 := n1_; have HB := n2_; have BK103 := n3_; have GW103 := n4_; have GE103 := n5_; have NB101_103 := n6_; have NB103_101 := n7_; have NB102_103 := n8_; have NB103_102 := n9_; clear n0_ n1_ n2_ n3_ n4_ n5_ n6_ n7_ n8_ n9_; clear hb hbox hg; have hnb8 := NB103_101.out; have hnc8 := NB101_103.out; have hnb9 := NB103_102.out; have hnc9 := NB102_103.out; have hcz10_0 : w7.cell? ⟨gb103, 0, none⟩ = some (.int .i64 0) := (blk_cell BK103.out 0).trans rfl; have hcz10_1 : w7.cell? ⟨gb103, 1, none⟩ = some (.int .i64 0) := (blk_cell BK103.out 1).trans rfl; have hcz10_2 : w7.cell? ⟨gb103, 2, none⟩ = some (.int .i64 0) := (blk_cell BK103.out 2).trans rfl; have hcz10_3 : w7.cell? ⟨gb103, 3, none⟩ = some (.int .i64 0) := (blk_cell BK103.out 3).trans rfl; have hfz10_0 := blk_frozen BK103.out 0; have hfz10_1 := blk_frozen BK103.out 1; have hfz10_2 := blk_frozen BK103.out 2; have hfz10_3 := blk_frozen BK103.out 3; have hnb11 := NB101_102.out; have hnc11 := NB102_101.out; have hcz12_0 : w7.cell? ⟨gb101, 0, none⟩ = some (.int .i64 a0_0) := (blk_cell BK101.out 0).trans rfl; have hcz12_1 : w7.cell? ⟨gb101, 1, none⟩ = some (.int .i64 a0_1) := (blk_cell BK101.out 1).trans rfl; have hcz12_2 : w7.cell? ⟨gb101, 2, none⟩ = some (.slice A0_2 l0_2.length c0_2) := (blk_cell BK101.out 2).trans rfl; have hfz12_0 := blk_frozen BK101.out 0; have hfz12_1 := blk_frozen BK101.out 1; have hfz12_2 := blk_frozen BK101.out 2) | ((with_reducible refine gate_callee (f := 48) rfl ?_); refine goesL_ (some 17) rfl rfl Try.func48 (by kernel_rfl) rfl #[.agg #[.int .i64 a0_0, .int .i64 a0_1, .slice A0_2 l0_2.length c0_2], .slice A1 l1.length c1] rfl (by (try simp only [List.map_toArray, List.map_cons, List.map_nil]); first | done | rfl | (simp only [List.length_drop, List.length_take]; rfl)) ?_; (with_reducible refine (spec_l23Good.calls k a0_0 a0_1 _ _ l0_2 _ _ l1 true _ ?side1 ?side2 ?side3 ?side4 A3.out).mono ?_); (case side1 => exact Kd.C_below HR0_2.out (by repeat (first | (with_reducible first | exact HB.out | apply below_alloc | apply pw_below_drewN | apply below_drew1 | refine below_set ?_ GE101.out | refine below_set ?_ GE102.out | refine below_set ?_ GE103.out) | exact HB.out))); (case side2 => exact HC0_2.out); (case side3 => exact Kd.C_below HR1.out (by repeat (first | (with_reducible first | exact HB.out | apply below_alloc | apply pw_below_drewN | apply below_drew1 | refine below_set ?_ GE101.out | refine below_set ?_ GE102.out | refine below_set ?_ GE103.out) | exact HB.out))); (case side4 => exact HC1.out); rintro e w13 ⟨rfl, hb⟩; refine ⟨_, rfl, ?_⟩; have n0_ := Aside0.mk (blk_below (g := gb101) (o := .cells #[.int .i64 a0_0, .int .i64 a0_1, .slice A0_2 l0_2.length c0_2] 29 (0, 0)) (by (with_reducible repeat (first | refine blk_drewN ?_ _ | refine blk_drew ?_ | refine blk_alloc ?_ _)); refine blk_far ?_ NB101_103.out _; (with_reducible repeat (first | refine blk_drewN ?_ _ | refine blk_drew ?_ | refine blk_alloc ?_ _)); refine blk_far ?_ NB101_103.out _; (with_reducible repeat (first | refine blk_drewN ?_ _ | refine blk_drew ?_ | refine blk_alloc ?_ _)); refine blk_far ?_ NB101_103.out _; (with_reducible repeat (first | refine blk_drewN ?_ _ | refine blk_drew ?_ | refine blk_alloc ?_ _)); refine blk_far ?_ NB101_103.out _; exact bS BK101.out) hb); have n1_ := Aside0.mk (blk_below (g := gb102) (o := .cells #[.int .i64 0, .int .i64 0, .int .i64 0, .int .i64 0] 39 (0, 0)) (by (with_reducible repeat (first | refine blk_drewN ?_ _ | refine blk_drew ?_ | refine blk_alloc ?_ _)); refine blk_far ?_ NB102_103.out _; (with_reducible repeat (first | refine blk_drewN ?_ _ | refine blk_drew ?_ | refine blk_alloc ?_ _)); refine blk_far ?_ NB102_103.out _; (with_reducible repeat (first | refine blk_drewN ?_ _ | refine blk_drew ?_ | refine blk_alloc ?_ _)); refine blk_far ?_ NB102_103.out _; (with_reducible repeat (first | refine blk_drewN ?_ _ | refine blk_drew ?_ | refine blk_alloc ?_ _)); refine blk_far ?_ NB102_103.out _; exact bS BK102.out) hb); have n2_ := Aside0.mk (blk_below (g := gb103) (o := .cells #[.int .i64 0, .int .i64 0, .int .i64 0, .int .i64 0] 39 (0, 0)) (by (with_reducible repeat (first | refine blk_drewN ?_ _ | refine blk_drew ?_ | refine blk_alloc ?_ _)); refine blk_put (cs := #[.int .i64 0, .int .i64 0, .int .i64 0, .int .i64 0]) ?_ 3 _ rfl; (with_reducible repeat (first | refine blk_drewN ?_ _ | refine blk_drew ?_ | refine blk_alloc ?_ _)); refine blk_put (cs := #[.int .i64 0, .int .i64 0, .int .i64 0, .int .i64 0]) ?_ 2 _ rfl; (with_reducible repeat (first | refine blk_drewN ?_ _ | refine blk_drew ?_ | refine blk_alloc ?_ _)); refine blk_put (cs := #[.int .i64 0, .int .i64 0, .int .i64 0, .int .i64 0]) ?_ 1 _ rfl; (with_reducible repeat (first | refine blk_drewN ?_ _ | refine blk_drew ?_ | refine blk_alloc ?_ _)); refine blk_put (cs := #[.int .i64 0, .int .i64 0, .int .i64 0, .int .i64 0]) ?_ 0 _ rfl; exact bS BK103.out) hb); have n3_ := Aside0.mk (below_step (by repeat (first | (with_reducible first | exact HB.out | apply below_alloc | apply pw_below_drewN | apply below_drew1 | refine below_set ?_ GE101.out | refine below_set ?_ GE102.out | refine below_set ?_ GE103.out) | exact HB.out)) hb); clear BK101; clear BK102; clear BK103; clear HB; have BK101 := n0_; have BK102 := n1_; have BK103 := n2_; have HB := n3_; clear n0_ n1_ n2_ n3_; (try clear hb); (try clear hb2); (try clear hk); (try clear hi)))
  go_loopg [8, 9] k (fun kq v8 v9 w' => ∃ (x8_1 : Int) (x9_1 : Int) (x104000_1 : Int) (x104001_1 : Int) (x104002_1 : Int) (x104003_1 : Int), v8 = .int .i64 x8_1 ∧ v9 = .int .i64 x9_1 ∧ Aside0 (spec_LargestWhole.l0 kq l1 x8_1 x9_1 a0_0 a0_1 l0_2 x104000_1 x104001_1 x104002_1 x104003_1 = some (r1, r2, r3, r4, r5, r6)) ∧ Aside0 (kq ≤ k) ∧ Aside0 (w'.heap[gb101]? = some (.cells #[.int .i64 a0_0, .int .i64 a0_1, (.slice A0_2 l0_2.length c0_2)] 29 (0, 0))) ∧ Aside0 (w'.heap[gb102]? = some (.cells #[.int .i64 0, .int .i64 0, .int .i64 0, .int .i64 0] 39 (0, 0))) ∧ Aside0 (w'.heap[gb103]? = some (.cells #[.int .i64 x104000_1, .int .i64 x104001_1, .int .i64 x104002_1, .int .i64 x104003_1] 39 (0, 0))) ∧ Aside0 (Below w.heap.size w w'))
  case atStart => exact ⟨(0), (0), (0), (0), (0), (0), (by first | rfl | (simp; done) | (simp [*]; done)), (by first | rfl | (simp; done) | (simp [*]; done)), H', ⟨Nat.le_refl _⟩, ⟨by exact bS BK101.out⟩, ⟨by exact bS BK102.out⟩, ⟨by exact bS BK103.out⟩, ⟨by exact eS HB.out⟩⟩
  case round =>
   clear H'
   try clear c1
   try clear c2
   try clear p2
   try clear c4
   try clear c8
   try clear c9
   try clear c11
   try clear hcz10_0
   try clear hcz10_1
   try clear hcz10_2
   try clear hcz10_3
   try clear hcz12_0
   try clear hcz12_1
   try clear hcz12_2
   try clear hfz10_0
   try clear hfz10_1
   try clear hfz10_2
   try clear hfz10_3
   try clear hfz12_0
   try clear hfz12_1
   try clear hfz12_2
   obtain ⟨x8_1, x9_1, x104000_1, x104001_1, x104002_1, x104003_1, rfl, rfl, HA, HK1, BK101, BK102, BK103, HB⟩ := hrel
   cases gk with
   | zero => exact absurd HA.out (by simp [spec_LargestWhole.l0])
   | succ k1 =>
    have H := HA.out
    clear HA
    simp only [spec_LargestWhole.l0] at H
    by_cases c14 : x9_1 < a0_1
    ·rw [if_pos c14] at H
     have c14b0 : decide (x9_1 < a0_1) = true := decide_eq_true c14
     clear c14
     have H' := Aside0.mk H
     clear H
     have hnb15 := NB101_102.out
     have hnc15 := NB102_101.out
     have hnb16 := NB101_103.out
     have hnc16 := NB103_101.out
     have hcz17_0 : wr.cell? ⟨gb101, 0, none⟩ = some (.int .i64 a0_0) := (blk_cell BK101.out 0).trans rfl
     have hcz17_1 : wr.cell? ⟨gb101, 1, none⟩ = some (.int .i64 a0_1) := (blk_cell BK101.out 1).trans rfl
     have hcz17_2 : wr.cell? ⟨gb101, 2, none⟩ = some (.slice A0_2 l0_2.length c0_2) := (blk_cell BK101.out 2).trans rfl
     have hfz17_0 := blk_frozen BK101.out 0
     have hfz17_1 := blk_frozen BK101.out 1
     have hfz17_2 := blk_frozen BK101.out 2
     go_wp2
     go_loopg [8, 10] k1 (fun kq v8 v10 w' => ∃ (x8_2 : Int) (x10_2 : Int) (x104000_2 : Int) (x104001_2 : Int) (x104002_2 : Int) (x104003_2 : Int), v8 = .int .i64 x8_2 ∧ v10 = .int .i64 x10_2 ∧ Aside0 (spec_LargestWhole.l1 kq l1 x8_2 x9_1 x10_2 a0_0 a0_1 l0_2 x104000_2 x104001_2 x104002_2 x104003_2 = some (r1, r2, r3, r4, r5, r6)) ∧ Aside0 (kq ≤ k1) ∧ Aside0 (w'.heap[gb101]? = some (.cells #[.int .i64 a0_0, .int .i64 a0_1, (.slice A0_2 l0_2.length c0_2)] 29 (0, 0))) ∧ Aside0 (w'.heap[gb102]? = some (.cells #[.int .i64 0, .int .i64 0, .int .i64 0, .int .i64 0] 39 (0, 0))) ∧ Aside0 (w'.heap[gb103]? = some (.cells #[.int .i64 x104000_2, .int .i64 x104001_2, .int .i64 x104002_2, .int .i64 x104003_2] 39 (0, 0))) ∧ Aside0 (Below w.heap.size w w'))
     case atStart => exact ⟨(x8_1), (0), (x104000_1), (x104001_1), (x104002_1), (x104003_1), (by first | rfl | (simp; done) | (simp [*]; done)), (by first | rfl | (simp; done) | (simp [*]; done)), H', ⟨Nat.le_refl _⟩, ⟨by exact bS BK101.out⟩, ⟨by exact bS BK102.out⟩, ⟨by exact bS BK103.out⟩, ⟨by exact eS HB.out⟩⟩
     case round =>
      clear H'
      try clear c1
      try clear c2
      try clear p2
      try clear c4
      try clear c8
      try clear c9
      try clear c11
      try clear c14
      try clear c14b0
      try clear c15
      try clear c16
      try clear hcz10_0
      try clear hcz10_1
      try clear hcz10_2
      try clear hcz10_3
      try clear hcz12_0
      try clear hcz12_1
      try clear hcz12_2
      try clear hcz17_0
      try clear hcz17_1
      try clear hcz17_2
      try clear hfz10_0
      try clear hfz10_1
      try clear hfz10_2
      try clear hfz10_3
      try clear hfz12_0
      try clear hfz12_1
      try clear hfz12_2
      try clear hfz17_0
      try clear hfz17_1
      try clear hfz17_2
      try clear p2
      obtain ⟨x8_2, x10_2, x104000_2, x104001_2, x104002_2, x104003_2, rfl, rfl, HA, HK2, BK101, BK102, BK103, HB⟩ := hrel
      cases gk with
      | zero => exact absurd HA.out (by simp [spec_LargestWhole.l1])
      | succ k2 =>
       have H := HA.out
       clear HA
       simp only [spec_LargestWhole.l1] at H
       by_cases c18 : x10_2 < a0_0
       ·rw [if_pos c18] at H
        have c18b0 : decide (x10_2 < a0_0) = true := decide_eq_true c18
        clear c18
        have H' := Aside0.mk H
        clear H
        have hnb19 := NB101_102.out
        have hnc19 := NB102_101.out
        have hnb20 := NB101_103.out
        have hnc20 := NB103_101.out
        have hcz21_0 : wr.cell? ⟨gb101, 0, none⟩ = some (.int .i64 a0_0) := (blk_cell BK101.out 0).trans rfl
        have hcz21_1 : wr.cell? ⟨gb101, 1, none⟩ = some (.int .i64 a0_1) := (blk_cell BK101.out 1).trans rfl
        have hcz21_2 : wr.cell? ⟨gb101, 2, none⟩ = some (.slice A0_2 l0_2.length c0_2) := (blk_cell BK101.out 2).trans rfl
        have hfz21_0 := blk_frozen BK101.out 0
        have hfz21_1 := blk_frozen BK101.out 1
        have hfz21_2 := blk_frozen BK101.out 2
        go_wp2
        go_loopg [8, 11] k2 (fun kq v8 v11 w' => ∃ (x8_3 : Int) (x11_3 : Int) (x104000_3 : Int) (x104001_3 : Int) (x104002_3 : Int) (x104003_3 : Int), v8 = .int .i64 x8_3 ∧ v11 = .int .i64 x11_3 ∧ Aside0 (spec_LargestWhole.l2 kq l1 x8_3 x9_1 x10_2 x11_3 a0_0 a0_1 l0_2 x104000_3 x104001_3 x104002_3 x104003_3 = some (r1, r2, r3, r4, r5, r6)) ∧ Aside0 (kq ≤ k2) ∧ Aside0 (w'.heap[gb101]? = some (.cells #[.int .i64 a0_0, .int .i64 a0_1, (.slice A0_2 l0_2.length c0_2)] 29 (0, 0))) ∧ Aside0 (w'.heap[gb102]? = some (.cells #[.int .i64 0, .int .i64 0, .int .i64 0, .int .i64 0] 39 (0, 0))) ∧ Aside0 (w'.heap[gb103]? = some (.cells #[.int .i64 x104000_3, .int .i64 x104001_3, .int .i64 x104002_3, .int .i64 x104003_3] 39 (0, 0))) ∧ Aside0 (Below w.heap.size w w'))
        case atStart => exact ⟨(x8_2), (x9_1), (x104000_2), (x104001_2), (x104002_2), (x104003_2), (by first | rfl | (simp; done) | (simp [*]; done)), (by first | rfl | (simp; done) | (simp [*]; done)), H', ⟨Nat.le_refl _⟩, ⟨by exact bS BK101.out⟩, ⟨by exact bS BK102.out⟩, ⟨by exact bS BK103.out⟩, ⟨by exact eS HB.out⟩⟩
        case round =>
         clear H'
         try clear c1
         try clear c2
         try clear p2
         try clear c4
         try clear c8
         try clear c9
         try clear c11
         try clear c14
         try clear c14b0
         try clear c15
         try clear c16
         try clear c18
         try clear c18b0
         try clear c19
         try clear c20
         try clear hcz10_0
         try clear hcz10_1
         try clear hcz10_2
         try clear hcz10_3
         try clear hcz12_0
         try clear hcz12_1
         try clear hcz12_2
         try clear hcz17_0
         try clear hcz17_1
         try clear hcz17_2
         try clear hcz21_0
         try clear hcz21_1
         try clear hcz21_2
         try clear hfz10_0
         try clear hfz10_1
         try clear hfz10_2
         try clear hfz10_3
         try clear hfz12_0
         try clear hfz12_1
         try clear hfz12_2
         try clear hfz17_0
         try clear hfz17_1
         try clear hfz17_2
         try clear hfz21_0
         try clear hfz21_1
         try clear hfz21_2
         try clear p2
         obtain ⟨x8_3, x11_3, x104000_3, x104001_3, x104002_3, x104003_3, rfl, rfl, HA, HK3, BK101, BK102, BK103, HB⟩ := hrel
         cases gk with
         | zero => exact absurd HA.out (by simp [spec_LargestWhole.l2])
         | succ k3 =>
          have H := HA.out
          clear HA
          simp only [spec_LargestWhole.l2] at H
          by_cases c22 : x11_3 < a0_1
          ·rw [if_pos c22] at H
           have c22b0 : decide (x11_3 < a0_1) = true := decide_eq_true c22
           clear c22
           have H' := Aside0.mk H
           clear H
           have hnb23 := NB101_102.out
           have hnc23 := NB102_101.out
           have hnb24 := NB101_103.out
           have hnc24 := NB103_101.out
           have hcz25_0 : wr.cell? ⟨gb101, 0, none⟩ = some (.int .i64 a0_0) := (blk_cell BK101.out 0).trans rfl
           have hcz25_1 : wr.cell? ⟨gb101, 1, none⟩ = some (.int .i64 a0_1) := (blk_cell BK101.out 1).trans rfl
           have hcz25_2 : wr.cell? ⟨gb101, 2, none⟩ = some (.slice A0_2 l0_2.length c0_2) := (blk_cell BK101.out 2).trans rfl
           have hfz25_0 := blk_frozen BK101.out 0
           have hfz25_1 := blk_frozen BK101.out 1
           have hfz25_2 := blk_frozen BK101.out 2
           go_wp2
           go_loopg [8, 12] k3 (fun kq v8 v12 w' => ∃ (x8_4 : Int) (x12_4 : Int) (x104000_4 : Int) (x104001_4 : Int) (x104002_4 : Int) (x104003_4 : Int), v8 = .int .i64 x8_4 ∧ v12 = .int .i64 x12_4 ∧ Aside0 (spec_LargestWhole.l3 kq l1 x8_4 x9_1 x10_2 x11_3 x12_4 a0_0 a0_1 l0_2 x104000_4 x104001_4 x104002_4 x104003_4 = some (r1, r2, r3, r4, r5, r6)) ∧ Aside0 (kq ≤ k3) ∧ Aside0 (w'.heap[gb101]? = some (.cells #[.int .i64 a0_0, .int .i64 a0_1, (.slice A0_2 l0_2.length c0_2)] 29 (0, 0))) ∧ Aside0 (w'.heap[gb102]? = some (.cells #[.int .i64 0, .int .i64 0, .int .i64 0, .int .i64 0] 39 (0, 0))) ∧ Aside0 (w'.heap[gb103]? = some (.cells #[.int .i64 x104000_4, .int .i64 x104001_4, .int .i64 x104002_4, .int .i64 x104003_4] 39 (0, 0))) ∧ Aside0 (Below w.heap.size w w'))
           case atStart => exact ⟨(x8_3), (x10_2), (x104000_3), (x104001_3), (x104002_3), (x104003_3), (by first | rfl | (simp; done) | (simp [*]; done)), (by first | rfl | (simp; done) | (simp [*]; done)), H', ⟨Nat.le_refl _⟩, ⟨by exact bS BK101.out⟩, ⟨by exact bS BK102.out⟩, ⟨by exact bS BK103.out⟩, ⟨by exact eS HB.out⟩⟩
           case round =>
            clear H'
            try clear c1
            try clear c2
            try clear p2
            try clear c4
            try clear c8
            try clear c9
            try clear c11
            try clear c14
            try clear c14b0
            try clear c15
            try clear c16
            try clear c18
            try clear c18b0
            try clear c19
            try clear c20
            try clear c22
            try clear c22b0
            try clear c23
            try clear c24
            try clear hcz10_0
            try clear hcz10_1
            try clear hcz10_2
            try clear hcz10_3
            try clear hcz12_0
            try clear hcz12_1
            try clear hcz12_2
            try clear hcz17_0
            try clear hcz17_1
            try clear hcz17_2
            try clear hcz21_0
            try clear hcz21_1
            try clear hcz21_2
            try clear hcz25_0
            try clear hcz25_1
            try clear hcz25_2
            try clear hfz10_0
            try clear hfz10_1
            try clear hfz10_2
            try clear hfz10_3
            try clear hfz12_0
            try clear hfz12_1
            try clear hfz12_2
            try clear hfz17_0
            try clear hfz17_1
            try clear hfz17_2
            try clear hfz21_0
            try clear hfz21_1
            try clear hfz21_2
            try clear hfz25_0
            try clear hfz25_1
            try clear hfz25_2
            try clear p2
            obtain ⟨x8_4, x12_4, x104000_4, x104001_4, x104002_4, x104003_4, rfl, rfl, HA, HK4, BK101, BK102, BK103, HB⟩ := hrel
            cases gk with
            | zero => exact absurd HA.out (by simp [spec_LargestWhole.l3])
            | succ k4 =>
             have H := HA.out
             clear HA
             simp only [spec_LargestWhole.l3] at H
             by_cases c26 : x12_4 < a0_0
             ·rw [if_pos c26] at H
              have c26b0 : decide (x12_4 < a0_0) = true := decide_eq_true c26
              clear c26
              replace H := Option.bind_eq_some_iff.mp H
              obtain ⟨t106, A270, H⟩ := H
              replace H : (if t106 > x8_4 then ((spec_l23Whole.f k4 l1 x9_1 x10_2 x11_3 x12_4).bind fun t107 => (if t107 = true then ((spec_l23Knots.f x9_1 x10_2 x11_3 x12_4).bind fun t108 => (spec_LargestWhole.l3 k4 l1 t108 x9_1 x10_2 x11_3 (wrap64 (x12_4 + 1)) a0_0 a0_1 l0_2 x9_1 x10_2 x11_3 x12_4)) else (spec_LargestWhole.l3 k4 l1 x8_4 x9_1 x10_2 x11_3 (wrap64 (x12_4 + 1)) a0_0 a0_1 l0_2 x104000_4 x104001_4 x104002_4 x104003_4))) else (spec_LargestWhole.l3 k4 l1 x8_4 x9_1 x10_2 x11_3 (wrap64 (x12_4 + 1)) a0_0 a0_1 l0_2 x104000_4 x104001_4 x104002_4 x104003_4)) = some (r1, r2, r3, r4, r5, r6) := H
              have A27 := Aside0.mk A270
              clear A270
              by_cases c28 : t106 > x8_4
              ·rw [if_pos c28] at H
               have c28b0 : decide (x8_4 < t106) = true := decide_eq_true c28
               clear c28
               replace H := Option.bind_eq_some_iff.mp H
               obtain ⟨t107, A290, H⟩ := H
               replace H : (if t107 = true then ((spec_l23Knots.f x9_1 x10_2 x11_3 x12_4).bind fun t108 => (spec_LargestWhole.l3 k4 l1 t108 x9_1 x10_2 x11_3 (wrap64 (x12_4 + 1)) a0_0 a0_1 l0_2 x9_1 x10_2 x11_3 x12_4)) else (spec_LargestWhole.l3 k4 l1 x8_4 x9_1 x10_2 x11_3 (wrap64 (x12_4 + 1)) a0_0 a0_1 l0_2 x104000_4 x104001_4 x104002_4 x104003_4)) = some (r1, r2, r3, r4, r5, r6) := H
               have A29 := Aside0.mk A290
               clear A290
               by_cases c30 : t107 = true
               ·subst c30
                have H1 : ((spec_l23Knots.f x9_1 x10_2 x11_3 x12_4).bind fun t108 => (spec_LargestWhole.l3 k4 l1 t108 x9_1 x10_2 x11_3 (wrap64 (x12_4 + 1)) a0_0 a0_1 l0_2 x9_1 x10_2 x11_3 x12_4)) = some (r1, r2, r3, r4, r5, r6) := by rw [if_pos rfl] at H; exact H
                clear H
                have H := H1
                clear H1
                replace H := Option.bind_eq_some_iff.mp H
                obtain ⟨t108, A310, H⟩ := H
                replace H : (spec_LargestWhole.l3 k4 l1 t108 x9_1 x10_2 x11_3 (wrap64 (x12_4 + 1)) a0_0 a0_1 l0_2 x9_1 x10_2 x11_3 x12_4) = some (r1, r2, r3, r4, r5, r6) := H
                have A31 := Aside0.mk A310
                clear A310
                have H' := Aside0.mk H
                clear H
                have hnb32 := NB101_102.out
                have hnc32 := NB102_101.out
                have hnb33 := NB101_103.out
                have hnc33 := NB103_101.out
                have hcz34_0 : wr.cell? ⟨gb101, 0, none⟩ = some (.int .i64 a0_0) := (blk_cell BK101.out 0).trans rfl
                have hcz34_1 : wr.cell? ⟨gb101, 1, none⟩ = some (.int .i64 a0_1) := (blk_cell BK101.out 1).trans rfl
                have hcz34_2 : wr.cell? ⟨gb101, 2, none⟩ = some (.slice A0_2 l0_2.length c0_2) := (blk_cell BK101.out 2).trans rfl
                have hfz34_0 := blk_frozen BK101.out 0
                have hfz34_1 := blk_frozen BK101.out 1
                have hfz34_2 := blk_frozen BK101.out 2
                go_wp2_with (first | ((with_reducible refine gate_dst (N := 13) rfl ?_); refine box_event ?hg (N := 13) ?hd (cs := #[.int .i64 0, .int .i64 0, .int .i64 0, .int .i64 0]) (t := 39) ?hr ?_; (case hd => rfl); (case hg => rfl); (case hr => first | (go_simp; done) | (go_simp; rfl)); intro gb105 hg w35 hbox hb; have n0_ := Aside0.mk (blk_below (bS BK101.out) hb); have n1_ := Aside0.mk (blk_below (bS BK102.out) hb); have n2_ := Aside0.mk (blk_below (bS BK103.out) hb); have n3_ := Aside0.mk (below_step (by exact eS HB.out) hb); have n4_ := Aside0.mk (hbox); have n5_ := Aside0.mk ((by rw [hg]; exact (below_size (by exact eS HB.out)) : w.heap.size ≤ gb105)); have n6_ := Aside0.mk ((by rw [hg]; exact (below_size (by exact eS HB.out)) : w.heap.size ≤ gb105)); have n7_ := Aside0.mk ((by rw [hg]; exact Nat.ne_of_lt (blk_lt (bS BK101.out)) : gb101 ≠ gb105)); have n8_ := Aside0.mk ((by rw [hg]; exact Nat.ne_of_gt (blk_lt (bS BK101.out)) : gb105 ≠ gb101)); have n9_ := Aside0.mk ((by rw [hg]; exact Nat.ne_of_lt (blk_lt (bS BK102.out)) : gb102 ≠ gb105)); have n10_ := Aside0.mk ((by rw [hg]; exact Nat.ne_of_gt (blk_lt (bS BK102.out)) : gb105 ≠ gb102)); have n11_ := Aside0.mk ((by rw [hg]; exact Nat.ne_of_lt (blk_lt (bS BK103.out)) : gb103 ≠ gb105)); have n12_ := Aside0.mk ((by rw [hg]; exact Nat.ne_of_gt (blk_lt (bS BK103.out)) : gb105 ≠ gb103)); clear BK101; clear BK102; clear BK103; clear HB; have BK101 := n0_; have BK102 := n1_; have BK103 := n2_; have HB := n3_; have BK105 := n4_; have GW105 := n5_; have GE105 := n6_; have NB101_105 := n7_; have NB105_101 := n8_; have NB102_105 := n9_; have NB105_102 := n10_; have NB103_105 := n11_; have NB105_103 := n12_; clear n0_ n1_ n2_ n3_ n4_ n5_ n6_ n7_ n8_ n9_ n10_ n11_ n12_; clear hb hbox hg; have hnb36 := NB105_101.out; have hnc36 := NB101_105.out; have hnb37 := NB105_102.out; have hnc37 := NB102_105.out; have hnb38 := NB105_103.out; have hnc38 := NB103_105.out; have hcz39_0 : w35.cell? ⟨gb105, 0, none⟩ = some (.int .i64 0) := (blk_cell BK105.out 0).trans rfl; have hcz39_1 : w35.cell? ⟨gb105, 1, none⟩ = some (.int .i64 0) := (blk_cell BK105.out 1).trans rfl; have hcz39_2 : w35.cell? ⟨gb105, 2, none⟩ = some (.int .i64 0) := (blk_cell BK105.out 2).trans rfl; have hcz39_3 : w35.cell? ⟨gb105, 3, none⟩ = some (.int .i64 0) := (blk_cell BK105.out 3).trans rfl; have hfz39_0 := blk_frozen BK105.out 0; have hfz39_1 := blk_frozen BK105.out 1; have hfz39_2 := blk_frozen BK105.out 2; have hfz39_3 := blk_frozen BK105.out 3) | ((with_reducible refine gate_callee (f := 57) rfl ?_); refine goesL_ (some 52) rfl rfl Try.func57 (by kernel_rfl) rfl #[.agg #[.int .i64 x9_1, .int .i64 x10_2, .int .i64 x11_3, .int .i64 x12_4]] rfl (by (try simp only [List.map_toArray, List.map_cons, List.map_nil]); first | done | rfl | (simp only [List.length_drop, List.length_take]; rfl)) ?_; (with_reducible refine (spec_l23Knots.calls x9_1 x10_2 x11_3 x12_4 t106 _ A27.out).mono ?_); rintro e w40 ⟨rfl, hb⟩; refine ⟨_, rfl, ?_⟩; have n0_ := Aside0.mk (blk_below (g := gb101) (o := .cells #[.int .i64 a0_0, .int .i64 a0_1, .slice A0_2 l0_2.length c0_2] 29 (0, 0)) (by (with_reducible repeat (first | refine blk_drewN ?_ _ | refine blk_drew ?_ | refine blk_alloc ?_ _)); refine blk_far ?_ NB101_105.out _; (with_reducible repeat (first | refine blk_drewN ?_ _ | refine blk_drew ?_ | refine blk_alloc ?_ _)); refine blk_far ?_ NB101_105.out _; (with_reducible repeat (first | refine blk_drewN ?_ _ | refine blk_drew ?_ | refine blk_alloc ?_ _)); refine blk_far ?_ NB101_105.out _; (with_reducible repeat (first | refine blk_drewN ?_ _ | refine blk_drew ?_ | refine blk_alloc ?_ _)); refine blk_far ?_ NB101_105.out _; exact bS BK101.out) hb); have n1_ := Aside0.mk (blk_below (g := gb102) (o := .cells #[.int .i64 0, .int .i64 0, .int .i64 0, .int .i64 0] 39 (0, 0)) (by (with_reducible repeat (first | refine blk_drewN ?_ _ | refine blk_drew ?_ | refine blk_alloc ?_ _)); refine blk_far ?_ NB102_105.out _; (with_reducible repeat (first | refine blk_drewN ?_ _ | refine blk_drew ?_ | refine blk_alloc ?_ _)); refine blk_far ?_ NB102_105.out _; (with_reducible repeat (first | refine blk_drewN ?_ _ | refine blk_drew ?_ | refine blk_alloc ?_ _)); refine blk_far ?_ NB102_105.out _; (with_reducible repeat (first | refine blk_drewN ?_ _ | refine blk_drew ?_ | refine blk_alloc ?_ _)); refine blk_far ?_ NB102_105.out _; exact bS BK102.out) hb); have n2_ := Aside0.mk (blk_below (g := gb103) (o := .cells #[.int .i64 x104000_4, .int .i64 x104001_4, .int .i64 x104002_4, .int .i64 x104003_4] 39 (0, 0)) (by (with_reducible repeat (first | refine blk_drewN ?_ _ | refine blk_drew ?_ | refine blk_alloc ?_ _)); refine blk_far ?_ NB103_105.out _; (with_reducible repeat (first | refine blk_drewN ?_ _ | refine blk_drew ?_ | refine blk_alloc ?_ _)); refine blk_far ?_ NB103_105.out _; (with_reducible repeat (first | refine blk_drewN ?_ _ | refine blk_drew ?_ | refine blk_alloc ?_ _)); refine blk_far ?_ NB103_105.out _; (with_reducible repeat (first | refine blk_drewN ?_ _ | refine blk_drew ?_ | refine blk_alloc ?_ _)); refine blk_far ?_ NB103_105.out _; exact bS BK103.out) hb); have n3_ := Aside0.mk (blk_below (g := gb105) (o := .cells #[.int .i64 x9_1, .int .i64 x10_2, .int .i64 x11_3, .int .i64 x12_4] 39 (0, 0)) (by (with_reducible repeat (first | refine blk_drewN ?_ _ | refine blk_drew ?_ | refine blk_alloc ?_ _)); refine blk_put (cs := #[.int .i64 x9_1, .int .i64 x10_2, .int .i64 x11_3, .int .i64 0]) ?_ 3 _ rfl; (with_reducible repeat (first | refine blk_drewN ?_ _ | refine blk_drew ?_ | refine blk_alloc ?_ _)); refine blk_put (cs := #[.int .i64 x9_1, .int .i64 x10_2, .int .i64 0, .int .i64 0]) ?_ 2 _ rfl; (with_reducible repeat (first | refine blk_drewN ?_ _ | refine blk_drew ?_ | refine blk_alloc ?_ _)); refine blk_put (cs := #[.int .i64 x9_1, .int .i64 0, .int .i64 0, .int .i64 0]) ?_ 1 _ rfl; (with_reducible repeat (first | refine blk_drewN ?_ _ | refine blk_drew ?_ | refine blk_alloc ?_ _)); refine blk_put (cs := #[.int .i64 0, .int .i64 0, .int .i64 0, .int .i64 0]) ?_ 0 _ rfl; exact bS BK105.out) hb); have n4_ := Aside0.mk (below_step (by repeat (first | (with_reducible first | exact HB.out | apply below_alloc | apply pw_below_drewN | apply below_drew1 | refine below_set ?_ GE101.out | refine below_set ?_ GE102.out | refine below_set ?_ GE103.out | refine below_set ?_ GE105.out) | exact HB.out)) hb); clear BK101; clear BK102; clear BK103; clear BK105; clear HB; have BK101 := n0_; have BK102 := n1_; have BK103 := n2_; have BK105 := n3_; have HB := n4_; clear n0_ n1_ n2_ n3_ n4_; (try clear hb); (try clear hb2); (try clear hk); (try clear hi); have hcz41_0 : w40.cell? ⟨gb105, 0, none⟩ = some (.int .i64 x9_1) := (blk_cell BK105.out 0).trans rfl; have hcz41_1 : w40.cell? ⟨gb105, 1, none⟩ = some (.int .i64 x10_2) := (blk_cell BK105.out 1).trans rfl; have hcz41_2 : w40.cell? ⟨gb105, 2, none⟩ = some (.int .i64 x11_3) := (blk_cell BK105.out 2).trans rfl; have hcz41_3 : w40.cell? ⟨gb105, 3, none⟩ = some (.int .i64 x12_4) := (blk_cell BK105.out 3).trans rfl; have hfz41_0 := blk_frozen BK105.out 0; have hfz41_1 := blk_frozen BK105.out 1; have hfz41_2 := blk_frozen BK105.out 2; have hfz41_3 := blk_frozen BK105.out 3) | (go_at_call 63; (with_reducible refine (spec_l23Whole.calls k4 _ _ l1 x9_1 x10_2 x11_3 x12_4 true _ ?side1 ?side2 A29.out).mono ?_); (case side1 => repeat (first | exact (Kd.C_below HR1.out HB.out) | (with_reducible refine Kd.C_alloc ?_ _) | (with_reducible refine Kd.C_drewN ?_ _) | (with_reducible refine Kd.C_drew ?_))); (case side2 => exact HC1.out); rintro e w42 ⟨rfl, hb⟩; have n0_ := Aside0.mk (blk_below (bS BK101.out) hb); have n1_ := Aside0.mk (blk_below (bS BK102.out) hb); have n2_ := Aside0.mk (blk_below (bS BK103.out) hb); have n3_ := Aside0.mk (blk_below (bS BK105.out) hb); have n4_ := Aside0.mk (below_step (by exact eS HB.out) hb); clear BK101; clear BK102; clear BK103; clear BK105; clear HB; have BK101 := n0_; have BK102 := n1_; have BK103 := n2_; have BK105 := n3_; have HB := n4_; clear n0_ n1_ n2_ n3_ n4_; (try clear hb); (try clear hb2); (try clear hk); (try clear hi); have hcz43_0 : w42.cell? ⟨gb105, 0, none⟩ = some (.int .i64 x9_1) := (blk_cell BK105.out 0).trans rfl; have hcz43_1 : w42.cell? ⟨gb105, 1, none⟩ = some (.int .i64 x10_2) := (blk_cell BK105.out 1).trans rfl; have hcz43_2 : w42.cell? ⟨gb105, 2, none⟩ = some (.int .i64 x11_3) := (blk_cell BK105.out 2).trans rfl; have hcz43_3 : w42.cell? ⟨gb105, 3, none⟩ = some (.int .i64 x12_4) := (blk_cell BK105.out 3).trans rfl; have hfz43_0 := blk_frozen BK105.out 0; have hfz43_1 := blk_frozen BK105.out 1; have hfz43_2 := blk_frozen BK105.out 2; have hfz43_3 := blk_frozen BK105.out 3; have hnb44 := NB103_102.out; have hnc44 := NB102_103.out; have hcz45_0 : w42.cell? ⟨gb103, 0, none⟩ = some (.int .i64 x104000_4) := (blk_cell BK103.out 0).trans rfl; have hcz45_1 : w42.cell? ⟨gb103, 1, none⟩ = some (.int .i64 x104001_4) := (blk_cell BK103.out 1).trans rfl; have hcz45_2 : w42.cell? ⟨gb103, 2, none⟩ = some (.int .i64 x104002_4) := (blk_cell BK103.out 2).trans rfl; have hcz45_3 : w42.cell? ⟨gb103, 3, none⟩ = some (.int .i64 x104003_4) := (blk_cell BK103.out 3).trans rfl; have hfz45_0 := blk_frozen BK103.out 0; have hfz45_1 := blk_frozen BK103.out 1; have hfz45_2 := blk_frozen BK103.out 2; have hfz45_3 := blk_frozen BK103.out 3) | ((with_reducible refine gate_callee (f := 57) rfl ?_); refine goesL_ (some 62) rfl rfl Try.func57 (by kernel_rfl) rfl #[.agg #[.int .i64 x9_1, .int .i64 x10_2, .int .i64 x11_3, .int .i64 x12_4]] rfl (by (try simp only [List.map_toArray, List.map_cons, List.map_nil]); first | done | rfl | (simp only [List.length_drop, List.length_take]; rfl)) ?_; (with_reducible refine (spec_l23Knots.calls x9_1 x10_2 x11_3 x12_4 t108 _ A31.out).mono ?_); rintro e w46 ⟨rfl, hb⟩; refine ⟨_, rfl, ?_⟩; have n0_ := Aside0.mk (blk_below (g := gb101) (o := .cells #[.int .i64 a0_0, .int .i64 a0_1, .slice A0_2 l0_2.length c0_2] 29 (0, 0)) (by (with_reducible repeat (first | refine blk_drewN ?_ _ | refine blk_drew ?_ | refine blk_alloc ?_ _)); refine blk_far ?_ NB101_103.out _; (with_reducible repeat (first | refine blk_drewN ?_ _ | refine blk_drew ?_ | refine blk_alloc ?_ _)); refine blk_far ?_ NB101_103.out _; (with_reducible repeat (first | refine blk_drewN ?_ _ | refine blk_drew ?_ | refine blk_alloc ?_ _)); refine blk_far ?_ NB101_103.out _; (with_reducible repeat (first | refine blk_drewN ?_ _ | refine blk_drew ?_ | refine blk_alloc ?_ _)); refine blk_far ?_ NB101_103.out _; exact bS BK101.out) hb); have n1_ := Aside0.mk (blk_below (g := gb102) (o := .cells #[.int .i64 0, .int .i64 0, .int .i64 0, .int .i64 0] 39 (0, 0)) (by (with_reducible repeat (first | refine blk_drewN ?_ _ | refine blk_drew ?_ | refine blk_alloc ?_ _)); refine blk_far ?_ NB102_103.out _; (with_reducible repeat (first | refine blk_drewN ?_ _ | refine blk_drew ?_ | refine blk_alloc ?_ _)); refine blk_far ?_ NB102_103.out _; (with_reducible repeat (first | refine blk_drewN ?_ _ | refine blk_drew ?_ | refine blk_alloc ?_ _)); refine blk_far ?_ NB102_103.out _; (with_reducible repeat (first | refine blk_drewN ?_ _ | refine blk_drew ?_ | refine blk_alloc ?_ _)); refine blk_far ?_ NB102_103.out _; exact bS BK102.out) hb); have n2_ := Aside0.mk (blk_below (g := gb103) (o := .cells #[.int .i64 x9_1, .int .i64 x10_2, .int .i64 x11_3, .int .i64 x12_4] 39 (0, 0)) (by (with_reducible repeat (first | refine blk_drewN ?_ _ | refine blk_drew ?_ | refine blk_alloc ?_ _)); refine blk_put (cs := #[.int .i64 x9_1, .int .i64 x10_2, .int .i64 x11_3, .int .i64 x104003_4]) ?_ 3 _ rfl; (with_reducible repeat (first | refine blk_drewN ?_ _ | refine blk_drew ?_ | refine blk_alloc ?_ _)); refine blk_put (cs := #[.int .i64 x9_1, .int .i64 x10_2, .int .i64 x104002_4, .int .i64 x104003_4]) ?_ 2 _ rfl; (with_reducible repeat (first | refine blk_drewN ?_ _ | refine blk_drew ?_ | refine blk_alloc ?_ _)); refine blk_put (cs := #[.int .i64 x9_1, .int .i64 x104001_4, .int .i64 x104002_4, .int .i64 x104003_4]) ?_ 1 _ rfl; (with_reducible repeat (first | refine blk_drewN ?_ _ | refine blk_drew ?_ | refine blk_alloc ?_ _)); refine blk_put (cs := #[.int .i64 x104000_4, .int .i64 x104001_4, .int .i64 x104002_4, .int .i64 x104003_4]) ?_ 0 _ rfl; exact bS BK103.out) hb); have n3_ := Aside0.mk (blk_below (g := gb105) (o := .cells #[.int .i64 x9_1, .int .i64 x10_2, .int .i64 x11_3, .int .i64 x12_4] 39 (0, 0)) (by (with_reducible repeat (first | refine blk_drewN ?_ _ | refine blk_drew ?_ | refine blk_alloc ?_ _)); refine blk_far ?_ NB105_103.out _; (with_reducible repeat (first | refine blk_drewN ?_ _ | refine blk_drew ?_ | refine blk_alloc ?_ _)); refine blk_far ?_ NB105_103.out _; (with_reducible repeat (first | refine blk_drewN ?_ _ | refine blk_drew ?_ | refine blk_alloc ?_ _)); refine blk_far ?_ NB105_103.out _; (with_reducible repeat (first | refine blk_drewN ?_ _ | refine blk_drew ?_ | refine blk_alloc ?_ _)); refine blk_far ?_ NB105_103.out _; exact bS BK105.out) hb); have n4_ := Aside0.mk (below_step (by repeat (first | (with_reducible first | exact HB.out | apply below_alloc | apply pw_below_drewN | apply below_drew1 | refine below_set ?_ GE101.out | refine below_set ?_ GE102.out | refine below_set ?_ GE103.out | refine below_set ?_ GE105.out) | exact HB.out)) hb); clear BK101; clear BK102; clear BK103; clear BK105; clear HB; have BK101 := n0_; have BK102 := n1_; have BK103 := n2_; have BK105 := n3_; have HB := n4_; clear n0_ n1_ n2_ n3_ n4_; (try clear hb); (try clear hb2); (try clear hk); (try clear hi)))
                go_roundg k4
                case measure => have := HK1.out; have := HK2.out; have := HK3.out; have := HK4.out; omega
                case rel => exact ⟨(t108), (wrap64 (x12_4 + 1)), (x9_1), (x10_2), (x11_3), (x12_4), (by first | rfl | (simp; done) | (simp [*]; done)), (by first | rfl | (simp; done) | (simp [*]; done)), H', ⟨by have := HK1.out; have := HK2.out; have := HK3.out; have := HK4.out; omega⟩, ⟨by exact bS BK101.out⟩, ⟨by exact bS BK102.out⟩, ⟨by exact bS BK103.out⟩, ⟨by exact eS HB.out⟩⟩
               ·replace c30 := Bool.eq_false_iff.mpr c30
                subst c30
                have H1 : (spec_LargestWhole.l3 k4 l1 x8_4 x9_1 x10_2 x11_3 (wrap64 (x12_4 + 1)) a0_0 a0_1 l0_2 x104000_4 x104001_4 x104002_4 x104003_4) = some (r1, r2, r3, r4, r5, r6) := by rw [if_neg (show ¬ (false = true) by decide)] at H; exact H
                clear H
                have H := H1
                clear H1
                have H' := Aside0.mk H
                clear H
                have hnb47 := NB101_102.out
                have hnc47 := NB102_101.out
                have hnb48 := NB101_103.out
                have hnc48 := NB103_101.out
                have hcz49_0 : wr.cell? ⟨gb101, 0, none⟩ = some (.int .i64 a0_0) := (blk_cell BK101.out 0).trans rfl
                have hcz49_1 : wr.cell? ⟨gb101, 1, none⟩ = some (.int .i64 a0_1) := (blk_cell BK101.out 1).trans rfl
                have hcz49_2 : wr.cell? ⟨gb101, 2, none⟩ = some (.slice A0_2 l0_2.length c0_2) := (blk_cell BK101.out 2).trans rfl
                have hfz49_0 := blk_frozen BK101.out 0
                have hfz49_1 := blk_frozen BK101.out 1
                have hfz49_2 := blk_frozen BK101.out 2
                go_wp2_with (first | ((with_reducible refine gate_dst (N := 13) rfl ?_); refine box_event ?hg (N := 13) ?hd (cs := #[.int .i64 0, .int .i64 0, .int .i64 0, .int .i64 0]) (t := 39) ?hr ?_; (case hd => rfl); (case hg => rfl); (case hr => first | (go_simp; done) | (go_simp; rfl)); intro gb105 hg w50 hbox hb; have n0_ := Aside0.mk (blk_below (bS BK101.out) hb); have n1_ := Aside0.mk (blk_below (bS BK102.out) hb); have n2_ := Aside0.mk (blk_below (bS BK103.out) hb); have n3_ := Aside0.mk (below_step (by exact eS HB.out) hb); have n4_ := Aside0.mk (hbox); have n5_ := Aside0.mk ((by rw [hg]; exact (below_size (by exact eS HB.out)) : w.heap.size ≤ gb105)); have n6_ := Aside0.mk ((by rw [hg]; exact (below_size (by exact eS HB.out)) : w.heap.size ≤ gb105)); have n7_ := Aside0.mk ((by rw [hg]; exact Nat.ne_of_lt (blk_lt (bS BK101.out)) : gb101 ≠ gb105)); have n8_ := Aside0.mk ((by rw [hg]; exact Nat.ne_of_gt (blk_lt (bS BK101.out)) : gb105 ≠ gb101)); have n9_ := Aside0.mk ((by rw [hg]; exact Nat.ne_of_lt (blk_lt (bS BK102.out)) : gb102 ≠ gb105)); have n10_ := Aside0.mk ((by rw [hg]; exact Nat.ne_of_gt (blk_lt (bS BK102.out)) : gb105 ≠ gb102)); have n11_ := Aside0.mk ((by rw [hg]; exact Nat.ne_of_lt (blk_lt (bS BK103.out)) : gb103 ≠ gb105)); have n12_ := Aside0.mk ((by rw [hg]; exact Nat.ne_of_gt (blk_lt (bS BK103.out)) : gb105 ≠ gb103)); clear BK101; clear BK102; clear BK103; clear HB; have BK101 := n0_; have BK102 := n1_; have BK103 := n2_; have HB := n3_; have BK105 := n4_; have GW105 := n5_; have GE105 := n6_; have NB101_105 := n7_; have NB105_101 := n8_; have NB102_105 := n9_; have NB105_102 := n10_; have NB103_105 := n11_; have NB105_103 := n12_; clear n0_ n1_ n2_ n3_ n4_ n5_ n6_ n7_ n8_ n9_ n10_ n11_ n12_; clear hb hbox hg; have hnb51 := NB105_101.out; have hnc51 := NB101_105.out; have hnb52 := NB105_102.out; have hnc52 := NB102_105.out; have hnb53 := NB105_103.out; have hnc53 := NB103_105.out; have hcz54_0 : w50.cell? ⟨gb105, 0, none⟩ = some (.int .i64 0) := (blk_cell BK105.out 0).trans rfl; have hcz54_1 : w50.cell? ⟨gb105, 1, none⟩ = some (.int .i64 0) := (blk_cell BK105.out 1).trans rfl; have hcz54_2 : w50.cell? ⟨gb105, 2, none⟩ = some (.int .i64 0) := (blk_cell BK105.out 2).trans rfl; have hcz54_3 : w50.cell? ⟨gb105, 3, none⟩ = some (.int .i64 0) := (blk_cell BK105.out 3).trans rfl; have hfz54_0 := blk_frozen BK105.out 0; have hfz54_1 := blk_frozen BK105.out 1; have hfz54_2 := blk_frozen BK105.out 2; have hfz54_3 := blk_frozen BK105.out 3) | ((with_reducible refine gate_callee (f := 57) rfl ?_); refine goesL_ (some 52) rfl rfl Try.func57 (by kernel_rfl) rfl #[.agg #[.int .i64 x9_1, .int .i64 x10_2, .int .i64 x11_3, .int .i64 x12_4]] rfl (by (try simp only [List.map_toArray, List.map_cons, List.map_nil]); first | done | rfl | (simp only [List.length_drop, List.length_take]; rfl)) ?_; (with_reducible refine (spec_l23Knots.calls x9_1 x10_2 x11_3 x12_4 t106 _ A27.out).mono ?_); rintro e w55 ⟨rfl, hb⟩; refine ⟨_, rfl, ?_⟩; have n0_ := Aside0.mk (blk_below (g := gb101) (o := .cells #[.int .i64 a0_0, .int .i64 a0_1, .slice A0_2 l0_2.length c0_2] 29 (0, 0)) (by (with_reducible repeat (first | refine blk_drewN ?_ _ | refine blk_drew ?_ | refine blk_alloc ?_ _)); refine blk_far ?_ NB101_105.out _; (with_reducible repeat (first | refine blk_drewN ?_ _ | refine blk_drew ?_ | refine blk_alloc ?_ _)); refine blk_far ?_ NB101_105.out _; (with_reducible repeat (first | refine blk_drewN ?_ _ | refine blk_drew ?_ | refine blk_alloc ?_ _)); refine blk_far ?_ NB101_105.out _; (with_reducible repeat (first | refine blk_drewN ?_ _ | refine blk_drew ?_ | refine blk_alloc ?_ _)); refine blk_far ?_ NB101_105.out _; exact bS BK101.out) hb); have n1_ := Aside0.mk (blk_below (g := gb102) (o := .cells #[.int .i64 0, .int .i64 0, .int .i64 0, .int .i64 0] 39 (0, 0)) (by (with_reducible repeat (first | refine blk_drewN ?_ _ | refine blk_drew ?_ | refine blk_alloc ?_ _)); refine blk_far ?_ NB102_105.out _; (with_reducible repeat (first | refine blk_drewN ?_ _ | refine blk_drew ?_ | refine blk_alloc ?_ _)); refine blk_far ?_ NB102_105.out _; (with_reducible repeat (first | refine blk_drewN ?_ _ | refine blk_drew ?_ | refine blk_alloc ?_ _)); refine blk_far ?_ NB102_105.out _; (with_reducible repeat (first | refine blk_drewN ?_ _ | refine blk_drew ?_ | refine blk_alloc ?_ _)); refine blk_far ?_ NB102_105.out _; exact bS BK102.out) hb); have n2_ := Aside0.mk (blk_below (g := gb103) (o := .cells #[.int .i64 x104000_4, .int .i64 x104001_4, .int .i64 x104002_4, .int .i64 x104003_4] 39 (0, 0)) (by (with_reducible repeat (first | refine blk_drewN ?_ _ | refine blk_drew ?_ | refine blk_alloc ?_ _)); refine blk_far ?_ NB103_105.out _; (with_reducible repeat (first | refine blk_drewN ?_ _ | refine blk_drew ?_ | refine blk_alloc ?_ _)); refine blk_far ?_ NB103_105.out _; (with_reducible repeat (first | refine blk_drewN ?_ _ | refine blk_drew ?_ | refine blk_alloc ?_ _)); refine blk_far ?_ NB103_105.out _; (with_reducible repeat (first | refine blk_drewN ?_ _ | refine blk_drew ?_ | refine blk_alloc ?_ _)); refine blk_far ?_ NB103_105.out _; exact bS BK103.out) hb); have n3_ := Aside0.mk (blk_below (g := gb105) (o := .cells #[.int .i64 x9_1, .int .i64 x10_2, .int .i64 x11_3, .int .i64 x12_4] 39 (0, 0)) (by (with_reducible repeat (first | refine blk_drewN ?_ _ | refine blk_drew ?_ | refine blk_alloc ?_ _)); refine blk_put (cs := #[.int .i64 x9_1, .int .i64 x10_2, .int .i64 x11_3, .int .i64 0]) ?_ 3 _ rfl; (with_reducible repeat (first | refine blk_drewN ?_ _ | refine blk_drew ?_ | refine blk_alloc ?_ _)); refine blk_put (cs := #[.int .i64 x9_1, .int .i64 x10_2, .int .i64 0, .int .i64 0]) ?_ 2 _ rfl; (with_reducible repeat (first | refine blk_drewN ?_ _ | refine blk_drew ?_ | refine blk_alloc ?_ _)); refine blk_put (cs := #[.int .i64 x9_1, .int .i64 0, .int .i64 0, .int .i64 0]) ?_ 1 _ rfl; (with_reducible repeat (first | refine blk_drewN ?_ _ | refine blk_drew ?_ | refine blk_alloc ?_ _)); refine blk_put (cs := #[.int .i64 0, .int .i64 0, .int .i64 0, .int .i64 0]) ?_ 0 _ rfl; exact bS BK105.out) hb); have n4_ := Aside0.mk (below_step (by repeat (first | (with_reducible first | exact HB.out | apply below_alloc | apply pw_below_drewN | apply below_drew1 | refine below_set ?_ GE101.out | refine below_set ?_ GE102.out | refine below_set ?_ GE103.out | refine below_set ?_ GE105.out) | exact HB.out)) hb); clear BK101; clear BK102; clear BK103; clear BK105; clear HB; have BK101 := n0_; have BK102 := n1_; have BK103 := n2_; have BK105 := n3_; have HB := n4_; clear n0_ n1_ n2_ n3_ n4_; (try clear hb); (try clear hb2); (try clear hk); (try clear hi); have hcz56_0 : w55.cell? ⟨gb105, 0, none⟩ = some (.int .i64 x9_1) := (blk_cell BK105.out 0).trans rfl; have hcz56_1 : w55.cell? ⟨gb105, 1, none⟩ = some (.int .i64 x10_2) := (blk_cell BK105.out 1).trans rfl; have hcz56_2 : w55.cell? ⟨gb105, 2, none⟩ = some (.int .i64 x11_3) := (blk_cell BK105.out 2).trans rfl; have hcz56_3 : w55.cell? ⟨gb105, 3, none⟩ = some (.int .i64 x12_4) := (blk_cell BK105.out 3).trans rfl; have hfz56_0 := blk_frozen BK105.out 0; have hfz56_1 := blk_frozen BK105.out 1; have hfz56_2 := blk_frozen BK105.out 2; have hfz56_3 := blk_frozen BK105.out 3) | (go_at_call 63; (with_reducible refine (spec_l23Whole.calls k4 _ _ l1 x9_1 x10_2 x11_3 x12_4 false _ ?side1 ?side2 A29.out).mono ?_); (case side1 => repeat (first | exact (Kd.C_below HR1.out HB.out) | (with_reducible refine Kd.C_alloc ?_ _) | (with_reducible refine Kd.C_drewN ?_ _) | (with_reducible refine Kd.C_drew ?_))); (case side2 => exact HC1.out); rintro e w57 ⟨rfl, hb⟩; have n0_ := Aside0.mk (blk_below (bS BK101.out) hb); have n1_ := Aside0.mk (blk_below (bS BK102.out) hb); have n2_ := Aside0.mk (blk_below (bS BK103.out) hb); have n3_ := Aside0.mk (blk_below (bS BK105.out) hb); have n4_ := Aside0.mk (below_step (by exact eS HB.out) hb); clear BK101; clear BK102; clear BK103; clear BK105; clear HB; have BK101 := n0_; have BK102 := n1_; have BK103 := n2_; have BK105 := n3_; have HB := n4_; clear n0_ n1_ n2_ n3_ n4_; (try clear hb); (try clear hb2); (try clear hk); (try clear hi)))
                go_roundg k4
                case measure => have := HK1.out; have := HK2.out; have := HK3.out; have := HK4.out; omega
                case rel => exact ⟨(x8_4), (wrap64 (x12_4 + 1)), (x104000_4), (x104001_4), (x104002_4), (x104003_4), (by first | rfl | (simp; done) | (simp [*]; done)), (by first | rfl | (simp; done) | (simp [*]; done)), H', ⟨by have := HK1.out; have := HK2.out; have := HK3.out; have := HK4.out; omega⟩, ⟨by exact bS BK101.out⟩, ⟨by exact bS BK102.out⟩, ⟨by exact bS BK103.out⟩, ⟨by exact eS HB.out⟩⟩
              ·rw [if_neg c28] at H
               have c28b0 : decide (x8_4 < t106) = false := decide_eq_false c28
               clear c28
               have H' := Aside0.mk H
               clear H
               have hnb58 := NB101_102.out
               have hnc58 := NB102_101.out
               have hnb59 := NB101_103.out
               have hnc59 := NB103_101.out
               have hcz60_0 : wr.cell? ⟨gb101, 0, none⟩ = some (.int .i64 a0_0) := (blk_cell BK101.out 0).trans rfl
               have hcz60_1 : wr.cell? ⟨gb101, 1, none⟩ = some (.int .i64 a0_1) := (blk_cell BK101.out 1).trans rfl
               have hcz60_2 : wr.cell? ⟨gb101, 2, none⟩ = some (.slice A0_2 l0_2.length c0_2) := (blk_cell BK101.out 2).trans rfl
               have hfz60_0 := blk_frozen BK101.out 0
               have hfz60_1 := blk_frozen BK101.out 1
               have hfz60_2 := blk_frozen BK101.out 2
               go_wp2_with (first | ((with_reducible refine gate_dst (N := 13) rfl ?_); refine box_event ?hg (N := 13) ?hd (cs := #[.int .i64 0, .int .i64 0, .int .i64 0, .int .i64 0]) (t := 39) ?hr ?_; (case hd => rfl); (case hg => rfl); (case hr => first | (go_simp; done) | (go_simp; rfl)); intro gb105 hg w61 hbox hb; have n0_ := Aside0.mk (blk_below (bS BK101.out) hb); have n1_ := Aside0.mk (blk_below (bS BK102.out) hb); have n2_ := Aside0.mk (blk_below (bS BK103.out) hb); have n3_ := Aside0.mk (below_step (by exact eS HB.out) hb); have n4_ := Aside0.mk (hbox); have n5_ := Aside0.mk ((by rw [hg]; exact (below_size (by exact eS HB.out)) : w.heap.size ≤ gb105)); have n6_ := Aside0.mk ((by rw [hg]; exact (below_size (by exact eS HB.out)) : w.heap.size ≤ gb105)); have n7_ := Aside0.mk ((by rw [hg]; exact Nat.ne_of_lt (blk_lt (bS BK101.out)) : gb101 ≠ gb105)); have n8_ := Aside0.mk ((by rw [hg]; exact Nat.ne_of_gt (blk_lt (bS BK101.out)) : gb105 ≠ gb101)); have n9_ := Aside0.mk ((by rw [hg]; exact Nat.ne_of_lt (blk_lt (bS BK102.out)) : gb102 ≠ gb105)); have n10_ := Aside0.mk ((by rw [hg]; exact Nat.ne_of_gt (blk_lt (bS BK102.out)) : gb105 ≠ gb102)); have n11_ := Aside0.mk ((by rw [hg]; exact Nat.ne_of_lt (blk_lt (bS BK103.out)) : gb103 ≠ gb105)); have n12_ := Aside0.mk ((by rw [hg]; exact Nat.ne_of_gt (blk_lt (bS BK103.out)) : gb105 ≠ gb103)); clear BK101; clear BK102; clear BK103; clear HB; have BK101 := n0_; have BK102 := n1_; have BK103 := n2_; have HB := n3_; have BK105 := n4_; have GW105 := n5_; have GE105 := n6_; have NB101_105 := n7_; have NB105_101 := n8_; have NB102_105 := n9_; have NB105_102 := n10_; have NB103_105 := n11_; have NB105_103 := n12_; clear n0_ n1_ n2_ n3_ n4_ n5_ n6_ n7_ n8_ n9_ n10_ n11_ n12_; clear hb hbox hg; have hnb62 := NB105_101.out; have hnc62 := NB101_105.out; have hnb63 := NB105_102.out; have hnc63 := NB102_105.out; have hnb64 := NB105_103.out; have hnc64 := NB103_105.out; have hcz65_0 : w61.cell? ⟨gb105, 0, none⟩ = some (.int .i64 0) := (blk_cell BK105.out 0).trans rfl; have hcz65_1 : w61.cell? ⟨gb105, 1, none⟩ = some (.int .i64 0) := (blk_cell BK105.out 1).trans rfl; have hcz65_2 : w61.cell? ⟨gb105, 2, none⟩ = some (.int .i64 0) := (blk_cell BK105.out 2).trans rfl; have hcz65_3 : w61.cell? ⟨gb105, 3, none⟩ = some (.int .i64 0) := (blk_cell BK105.out 3).trans rfl; have hfz65_0 := blk_frozen BK105.out 0; have hfz65_1 := blk_frozen BK105.out 1; have hfz65_2 := blk_frozen BK105.out 2; have hfz65_3 := blk_frozen BK105.out 3) | ((with_reducible refine gate_callee (f := 57) rfl ?_); refine goesL_ (some 52) rfl rfl Try.func57 (by kernel_rfl) rfl #[.agg #[.int .i64 x9_1, .int .i64 x10_2, .int .i64 x11_3, .int .i64 x12_4]] rfl (by (try simp only [List.map_toArray, List.map_cons, List.map_nil]); first | done | rfl | (simp only [List.length_drop, List.length_take]; rfl)) ?_; (with_reducible refine (spec_l23Knots.calls x9_1 x10_2 x11_3 x12_4 t106 _ A27.out).mono ?_); rintro e w66 ⟨rfl, hb⟩; refine ⟨_, rfl, ?_⟩; have n0_ := Aside0.mk (blk_below (g := gb101) (o := .cells #[.int .i64 a0_0, .int .i64 a0_1, .slice A0_2 l0_2.length c0_2] 29 (0, 0)) (by (with_reducible repeat (first | refine blk_drewN ?_ _ | refine blk_drew ?_ | refine blk_alloc ?_ _)); refine blk_far ?_ NB101_105.out _; (with_reducible repeat (first | refine blk_drewN ?_ _ | refine blk_drew ?_ | refine blk_alloc ?_ _)); refine blk_far ?_ NB101_105.out _; (with_reducible repeat (first | refine blk_drewN ?_ _ | refine blk_drew ?_ | refine blk_alloc ?_ _)); refine blk_far ?_ NB101_105.out _; (with_reducible repeat (first | refine blk_drewN ?_ _ | refine blk_drew ?_ | refine blk_alloc ?_ _)); refine blk_far ?_ NB101_105.out _; exact bS BK101.out) hb); have n1_ := Aside0.mk (blk_below (g := gb102) (o := .cells #[.int .i64 0, .int .i64 0, .int .i64 0, .int .i64 0] 39 (0, 0)) (by (with_reducible repeat (first | refine blk_drewN ?_ _ | refine blk_drew ?_ | refine blk_alloc ?_ _)); refine blk_far ?_ NB102_105.out _; (with_reducible repeat (first | refine blk_drewN ?_ _ | refine blk_drew ?_ | refine blk_alloc ?_ _)); refine blk_far ?_ NB102_105.out _; (with_reducible repeat (first | refine blk_drewN ?_ _ | refine blk_drew ?_ | refine blk_alloc ?_ _)); refine blk_far ?_ NB102_105.out _; (with_reducible repeat (first | refine blk_drewN ?_ _ | refine blk_drew ?_ | refine blk_alloc ?_ _)); refine blk_far ?_ NB102_105.out _; exact bS BK102.out) hb); have n2_ := Aside0.mk (blk_below (g := gb103) (o := .cells #[.int .i64 x104000_4, .int .i64 x104001_4, .int .i64 x104002_4, .int .i64 x104003_4] 39 (0, 0)) (by (with_reducible repeat (first | refine blk_drewN ?_ _ | refine blk_drew ?_ | refine blk_alloc ?_ _)); refine blk_far ?_ NB103_105.out _; (with_reducible repeat (first | refine blk_drewN ?_ _ | refine blk_drew ?_ | refine blk_alloc ?_ _)); refine blk_far ?_ NB103_105.out _; (with_reducible repeat (first | refine blk_drewN ?_ _ | refine blk_drew ?_ | refine blk_alloc ?_ _)); refine blk_far ?_ NB103_105.out _; (with_reducible repeat (first | refine blk_drewN ?_ _ | refine blk_drew ?_ | refine blk_alloc ?_ _)); refine blk_far ?_ NB103_105.out _; exact bS BK103.out) hb); have n3_ := Aside0.mk (blk_below (g := gb105) (o := .cells #[.int .i64 x9_1, .int .i64 x10_2, .int .i64 x11_3, .int .i64 x12_4] 39 (0, 0)) (by (with_reducible repeat (first | refine blk_drewN ?_ _ | refine blk_drew ?_ | refine blk_alloc ?_ _)); refine blk_put (cs := #[.int .i64 x9_1, .int .i64 x10_2, .int .i64 x11_3, .int .i64 0]) ?_ 3 _ rfl; (with_reducible repeat (first | refine blk_drewN ?_ _ | refine blk_drew ?_ | refine blk_alloc ?_ _)); refine blk_put (cs := #[.int .i64 x9_1, .int .i64 x10_2, .int .i64 0, .int .i64 0]) ?_ 2 _ rfl; (with_reducible repeat (first | refine blk_drewN ?_ _ | refine blk_drew ?_ | refine blk_alloc ?_ _)); refine blk_put (cs := #[.int .i64 x9_1, .int .i64 0, .int .i64 0, .int .i64 0]) ?_ 1 _ rfl; (with_reducible repeat (first | refine blk_drewN ?_ _ | refine blk_drew ?_ | refine blk_alloc ?_ _)); refine blk_put (cs := #[.int .i64 0, .int .i64 0, .int .i64 0, .int .i64 0]) ?_ 0 _ rfl; exact bS BK105.out) hb); have n4_ := Aside0.mk (below_step (by repeat (first | (with_reducible first | exact HB.out | apply below_alloc | apply pw_below_drewN | apply below_drew1 | refine below_set ?_ GE101.out | refine below_set ?_ GE102.out | refine below_set ?_ GE103.out | refine below_set ?_ GE105.out) | exact HB.out)) hb); clear BK101; clear BK102; clear BK103; clear BK105; clear HB; have BK101 := n0_; have BK102 := n1_; have BK103 := n2_; have BK105 := n3_; have HB := n4_; clear n0_ n1_ n2_ n3_ n4_; (try clear hb); (try clear hb2); (try clear hk); (try clear hi)))
               go_roundg k4
               case measure => have := HK1.out; have := HK2.out; have := HK3.out; have := HK4.out; omega
               case rel => exact ⟨(x8_4), (wrap64 (x12_4 + 1)), (x104000_4), (x104001_4), (x104002_4), (x104003_4), (by first | rfl | (simp; done) | (simp [*]; done)), (by first | rfl | (simp; done) | (simp [*]; done)), H', ⟨by have := HK1.out; have := HK2.out; have := HK3.out; have := HK4.out; omega⟩, ⟨by exact bS BK101.out⟩, ⟨by exact bS BK102.out⟩, ⟨by exact bS BK103.out⟩, ⟨by exact eS HB.out⟩⟩
             ·rw [if_neg c26] at H
              have c26b0 : decide (x12_4 < a0_0) = false := decide_eq_false c26
              clear c26
              have H' := Aside0.mk H
              clear H
              have hnb67 := NB101_102.out
              have hnc67 := NB102_101.out
              have hnb68 := NB101_103.out
              have hnc68 := NB103_101.out
              have hcz69_0 : wr.cell? ⟨gb101, 0, none⟩ = some (.int .i64 a0_0) := (blk_cell BK101.out 0).trans rfl
              have hcz69_1 : wr.cell? ⟨gb101, 1, none⟩ = some (.int .i64 a0_1) := (blk_cell BK101.out 1).trans rfl
              have hcz69_2 : wr.cell? ⟨gb101, 2, none⟩ = some (.slice A0_2 l0_2.length c0_2) := (blk_cell BK101.out 2).trans rfl
              have hfz69_0 := blk_frozen BK101.out 0
              have hfz69_1 := blk_frozen BK101.out 1
              have hfz69_2 := blk_frozen BK101.out 2
              go_wp2
              go_roundg k4
              case measure => have := HK1.out; have := HK2.out; have := HK3.out; have := HK4.out; omega
              case rel => exact ⟨(x8_4), (wrap64 (x11_3 + 1)), (x104000_4), (x104001_4), (x104002_4), (x104003_4), (by first | rfl | (simp; done) | (simp [*]; done)), (by first | rfl | (simp; done) | (simp [*]; done)), H', ⟨by have := HK1.out; have := HK2.out; have := HK3.out; have := HK4.out; omega⟩, ⟨by exact bS BK101.out⟩, ⟨by exact bS BK102.out⟩, ⟨by exact bS BK103.out⟩, ⟨by exact eS HB.out⟩⟩
          ·rw [if_neg c22] at H
           have c22b0 : decide (x11_3 < a0_1) = false := decide_eq_false c22
           clear c22
           have H' := Aside0.mk H
           clear H
           have hnb70 := NB101_102.out
           have hnc70 := NB102_101.out
           have hnb71 := NB101_103.out
           have hnc71 := NB103_101.out
           have hcz72_0 : wr.cell? ⟨gb101, 0, none⟩ = some (.int .i64 a0_0) := (blk_cell BK101.out 0).trans rfl
           have hcz72_1 : wr.cell? ⟨gb101, 1, none⟩ = some (.int .i64 a0_1) := (blk_cell BK101.out 1).trans rfl
           have hcz72_2 : wr.cell? ⟨gb101, 2, none⟩ = some (.slice A0_2 l0_2.length c0_2) := (blk_cell BK101.out 2).trans rfl
           have hfz72_0 := blk_frozen BK101.out 0
           have hfz72_1 := blk_frozen BK101.out 1
           have hfz72_2 := blk_frozen BK101.out 2
           go_wp2
           go_roundg k3
           case measure => have := HK1.out; have := HK2.out; have := HK3.out; omega
           case rel => exact ⟨(x8_3), (wrap64 (x10_2 + 1)), (x104000_3), (x104001_3), (x104002_3), (x104003_3), (by first | rfl | (simp; done) | (simp [*]; done)), (by first | rfl | (simp; done) | (simp [*]; done)), H', ⟨by have := HK1.out; have := HK2.out; have := HK3.out; omega⟩, ⟨by exact bS BK101.out⟩, ⟨by exact bS BK102.out⟩, ⟨by exact bS BK103.out⟩, ⟨by exact eS HB.out⟩⟩
       ·rw [if_neg c18] at H
        have c18b0 : decide (x10_2 < a0_0) = false := decide_eq_false c18
        clear c18
        have H' := Aside0.mk H
        clear H
        have hnb73 := NB101_102.out
        have hnc73 := NB102_101.out
        have hnb74 := NB101_103.out
        have hnc74 := NB103_101.out
        have hcz75_0 : wr.cell? ⟨gb101, 0, none⟩ = some (.int .i64 a0_0) := (blk_cell BK101.out 0).trans rfl
        have hcz75_1 : wr.cell? ⟨gb101, 1, none⟩ = some (.int .i64 a0_1) := (blk_cell BK101.out 1).trans rfl
        have hcz75_2 : wr.cell? ⟨gb101, 2, none⟩ = some (.slice A0_2 l0_2.length c0_2) := (blk_cell BK101.out 2).trans rfl
        have hfz75_0 := blk_frozen BK101.out 0
        have hfz75_1 := blk_frozen BK101.out 1
        have hfz75_2 := blk_frozen BK101.out 2
        go_wp2
        go_roundg k2
        case measure => have := HK1.out; have := HK2.out; omega
        case rel => exact ⟨(x8_2), (wrap64 (x9_1 + 1)), (x104000_2), (x104001_2), (x104002_2), (x104003_2), (by first | rfl | (simp; done) | (simp [*]; done)), (by first | rfl | (simp; done) | (simp [*]; done)), H', ⟨by have := HK1.out; have := HK2.out; omega⟩, ⟨by exact bS BK101.out⟩, ⟨by exact bS BK102.out⟩, ⟨by exact bS BK103.out⟩, ⟨by exact eS HB.out⟩⟩
    ·rw [if_neg c14] at H
     have c14b0 : decide (x9_1 < a0_1) = false := decide_eq_false c14
     clear c14
     simp only [Option.some.injEq, Prod.mk.injEq] at H
     obtain ⟨rfl, rfl, rfl, rfl, rfl, rfl⟩ := H
     have hnb76 := NB101_102.out
     have hnc76 := NB102_101.out
     have hnb77 := NB101_103.out
     have hnc77 := NB103_101.out
     have hcz78_0 : wr.cell? ⟨gb101, 0, none⟩ = some (.int .i64 a0_0) := (blk_cell BK101.out 0).trans rfl
     have hcz78_1 : wr.cell? ⟨gb101, 1, none⟩ = some (.int .i64 a0_1) := (blk_cell BK101.out 1).trans rfl
     have hcz78_2 : wr.cell? ⟨gb101, 2, none⟩ = some (.slice A0_2 l0_2.length c0_2) := (blk_cell BK101.out 2).trans rfl
     have hfz78_0 := blk_frozen BK101.out 0
     have hfz78_1 := blk_frozen BK101.out 1
     have hfz78_2 := blk_frozen BK101.out 2
     have hnb79 := NB103_102.out
     have hnc79 := NB102_103.out
     have hcz80_0 : wr.cell? ⟨gb103, 0, none⟩ = some (.int .i64 x104000_1) := (blk_cell BK103.out 0).trans rfl
     have hcz80_1 : wr.cell? ⟨gb103, 1, none⟩ = some (.int .i64 x104001_1) := (blk_cell BK103.out 1).trans rfl
     have hcz80_2 : wr.cell? ⟨gb103, 2, none⟩ = some (.int .i64 x104002_1) := (blk_cell BK103.out 2).trans rfl
     have hcz80_3 : wr.cell? ⟨gb103, 3, none⟩ = some (.int .i64 x104003_1) := (blk_cell BK103.out 3).trans rfl
     have hfz80_0 := blk_frozen BK103.out 0
     have hfz80_1 := blk_frozen BK103.out 1
     have hfz80_2 := blk_frozen BK103.out 2
     have hfz80_3 := blk_frozen BK103.out 3
     have hcz81_0 : wr.cell? ⟨gb102, 0, none⟩ = some (.int .i64 0) := (blk_cell BK102.out 0).trans rfl
     have hcz81_1 : wr.cell? ⟨gb102, 1, none⟩ = some (.int .i64 0) := (blk_cell BK102.out 1).trans rfl
     have hcz81_2 : wr.cell? ⟨gb102, 2, none⟩ = some (.int .i64 0) := (blk_cell BK102.out 2).trans rfl
     have hcz81_3 : wr.cell? ⟨gb102, 3, none⟩ = some (.int .i64 0) := (blk_cell BK102.out 3).trans rfl
     have hfz81_0 := blk_frozen BK102.out 0
     have hfz81_1 := blk_frozen BK102.out 1
     have hfz81_2 := blk_frozen BK102.out 2
     have hfz81_3 := blk_frozen BK102.out 3
     go_wp2
     refine bodyPost_ret (results_ctt rfl _ _ gb102 39 #[.int .i64 x104000_1, .int .i64 x104001_1, .int .i64 x104002_1, .int .i64 x104003_1] (0, 0) _ rfl (by (with_reducible repeat (first | refine blk_drewN ?_ _ | refine blk_drew ?_ | refine blk_alloc ?_ _)); refine blk_put (cs := #[.int .i64 x104000_1, .int .i64 x104001_1, .int .i64 x104002_1, .int .i64 0]) ?_ 3 _ rfl; (with_reducible repeat (first | refine blk_drewN ?_ _ | refine blk_drew ?_ | refine blk_alloc ?_ _)); refine blk_put (cs := #[.int .i64 x104000_1, .int .i64 x104001_1, .int .i64 0, .int .i64 0]) ?_ 2 _ rfl; (with_reducible repeat (first | refine blk_drewN ?_ _ | refine blk_drew ?_ | refine blk_alloc ?_ _)); refine blk_put (cs := #[.int .i64 x104000_1, .int .i64 0, .int .i64 0, .int .i64 0]) ?_ 1 _ rfl; (with_reducible repeat (first | refine blk_drewN ?_ _ | refine blk_drew ?_ | refine blk_alloc ?_ _)); refine blk_put (cs := #[.int .i64 0, .int .i64 0, .int .i64 0, .int .i64 0]) ?_ 0 _ rfl; exact bS BK102.out) Try.underlying39 rfl (by kernel_rfl)) rfl ?_
     exact ⟨by first | rfl | (simp [errW_none, errW_some] <;> rfl) | (simp [*, errW_none, errW_some] <;> rfl), by repeat (first | (with_reducible first | exact HB.out | apply below_alloc | apply pw_below_drewN | apply below_drew1 | refine below_set ?_ GE101.out | refine below_set ?_ GE102.out | refine below_set ?_ GE103.out) | exact HB.out)⟩
 ·replace c4 := Bool.eq_false_iff.mpr c4
  subst c4
  have H1 : (some (0, 0, 0, 0, 0, false)) = some (r1, r2, r3, r4, r5, r6) := by rw [if_neg (show ¬ (false = true) by decide)] at H; exact H
  clear H
  have H := H1
  clear H1
  simp only [Option.some.injEq, Prod.mk.injEq] at H
  obtain ⟨rfl, rfl, rfl, rfl, rfl, rfl⟩ := H
  go_enter Try.func23, Try.ntmps23
  go_wp2_with (first | ((with_reducible refine gate_dst (N := 2) rfl ?_); refine box_event ?hg (N := 2) ?hd (cs := #[.int .i64 a0_0, .int .i64 a0_1, .slice A0_2 l0_2.length c0_2]) (t := 29) ?hr ?_; (case hd => rfl); (case hg => rfl); (case hr => first | (go_simp; done) | (go_simp; rfl)); intro gb101 hg w82 hbox hb; have n0_ := Aside0.mk (below_step (by exact eS HB.out) hb); have n1_ := Aside0.mk (hbox); have n2_ := Aside0.mk ((by rw [hg]; exact (below_size (by exact eS HB.out)) : w.heap.size ≤ gb101)); have n3_ := Aside0.mk ((by rw [hg]; exact (below_size (by exact eS HB.out)) : w.heap.size ≤ gb101)); clear HB; have HB := n0_; have BK101 := n1_; have GW101 := n2_; have GE101 := n3_; clear n0_ n1_ n2_ n3_; clear hb hbox hg) | ((with_reducible refine gate_dst (N := 4) rfl ?_); refine box_event ?hg (N := 4) ?hd (cs := #[.int .i64 0, .int .i64 0, .int .i64 0, .int .i64 0]) (t := 39) ?hr ?_; (case hd => rfl); (case hg => rfl); (case hr => first | (go_simp; done) | (go_simp; rfl)); intro gb102 hg w83 hbox hb; have n0_ := Aside0.mk (blk_below (bS BK101.out) hb); have n1_ := Aside0.mk (below_step (by exact eS HB.out) hb); have n2_ := Aside0.mk (hbox); have n3_ := Aside0.mk ((by rw [hg]; exact (below_size (by exact eS HB.out)) : w.heap.size ≤ gb102)); have n4_ := Aside0.mk ((by rw [hg]; exact (below_size (by exact eS HB.out)) : w.heap.size ≤ gb102)); have n5_ := Aside0.mk ((by rw [hg]; exact Nat.ne_of_lt (blk_lt (bS BK101.out)) : gb101 ≠ gb102)); have n6_ := Aside0.mk ((by rw [hg]; exact Nat.ne_of_gt (blk_lt (bS BK101.out)) : gb102 ≠ gb101)); clear BK101; clear HB; have BK101 := n0_; have HB := n1_; have BK102 := n2_; have GW102 := n3_; have GE102 := n4_; have NB101_102 := n5_; have NB102_101 := n6_; clear n0_ n1_ n2_ n3_ n4_ n5_ n6_; clear hb hbox hg) | ((with_reducible refine gate_dst (N := 7) rfl ?_); refine box_event ?hg (N := 7) ?hd (cs := #[.int .i64 0, .int .i64 0, .int .i64 0, .int .i64 0]) (t := 39) ?hr ?_; (case hd => rfl); (case hg => rfl); (case hr => first | (go_simp; done) | (go_simp; rfl)); intro gb103 hg w84 hbox hb; have n0_ := Aside0.mk (blk_below (bS BK101.out) hb); have n1_ := Aside0.mk (blk_below (bS BK102.out) hb); have n2_ := Aside0.mk (below_step (by exact eS HB.out) hb); have n3_ := Aside0.mk (hbox); have n4_ := Aside0.mk ((by rw [hg]; exact (below_size (by exact eS HB.out)) : w.heap.size ≤ gb103)); have n5_ := Aside0.mk ((by rw [hg]; exact (below_size (by exact eS HB.out)) : w.heap.size ≤ gb103)); have n6_ := Aside0.mk ((by rw [hg]; exact Nat.ne_of_lt (blk_lt (bS BK101.out)) : gb101 ≠ gb103)); have n7_ := Aside0.mk ((by rw [hg]; exact Nat.ne_of_gt (blk_lt (bS BK101.out)) : gb103 ≠ gb101)); have n8_ := Aside0.mk ((by rw [hg]; exact Nat.ne_of_lt (blk_lt (bS BK102.out)) : gb102 ≠ gb103)); have n9_ := Aside0.mk ((by rw [hg]; exact Nat.ne_of_gt (blk_lt (bS BK102.out)) : gb103 ≠ gb102)); clear BK101; clear BK102; clear HB; have BK101 := n0_; have BK102 := n1_; have HB := n2_; have BK103 := n3_; have GW103 := n4_; have GE103 := n5_; have NB101_103 := n6_; have NB103_101 := n7_; have NB102_103 := n8_; have NB103_102 := n9_; clear n0_ n1_ n2_ n3_ n4_ n5_ n6_ n7_ n8_ n9_; clear hb hbox hg; have hnb85 := NB103_101.out; have hnc85 := NB101_103.out; have hnb86 := NB103_102.out; have hnc86 := NB102_103.out; have hcz87_0 : w84.cell? ⟨gb103, 0, none⟩ = some (.int .i64 0) := (blk_cell BK103.out 0).trans rfl; have hcz87_1 : w84.cell? ⟨gb103, 1, none⟩ = some (.int .i64 0) := (blk_cell BK103.out 1).trans rfl; have hcz87_2 : w84.cell? ⟨gb103, 2, none⟩ = some (.int .i64 0) := (blk_cell BK103.out 2).trans rfl; have hcz87_3 : w84.cell? ⟨gb103, 3, none⟩ = some (.int .i64 0) := (blk_cell BK103.out 3).trans rfl; have hfz87_0 := blk_frozen BK103.out 0; have hfz87_1 := blk_frozen BK103.out 1; have hfz87_2 := blk_frozen BK103.out 2; have hfz87_3 := blk_frozen BK103.out 3; have hnb88 := NB101_102.out; have hnc88 := NB102_101.out; have hcz89_0 : w84.cell? ⟨gb101, 0, none⟩ = some (.int .i64 a0_0) := (blk_cell BK101.out 0).trans rfl; have hcz89_1 : w84.cell? ⟨gb101, 1, none⟩ = some (.int .i64 a0_1) := (blk_cell BK101.out 1).trans rfl; have hcz89_2 : w84.cell? ⟨gb101, 2, none⟩ = some (.slice A0_2 l0_2.length c0_2) := (blk_cell BK101.out 2).trans rfl; have hfz89_0 := blk_frozen BK101.out 0; have hfz89_1 := blk_frozen BK101.out 1; have hfz89_2 := blk_frozen BK101.out 2) | ((with_reducible refine gate_callee (f := 48) rfl ?_); refine goesL_ (some 17) rfl rfl Try.func48 (by kernel_rfl) rfl #[.agg #[.int .i64 a0_0, .int .i64 a0_1, .slice A0_2 l0_2.length c0_2], .slice A1 l1.length c1] rfl (by (try simp only [List.map_toArray, List.map_cons, List.map_nil]); first | done | rfl | (simp only [List.length_drop, List.length_take]; rfl)) ?_; (with_reducible refine (spec_l23Good.calls k a0_0 a0_1 _ _ l0_2 _ _ l1 false _ ?side1 ?side2 ?side3 ?side4 A3.out).mono ?_); (case side1 => exact Kd.C_below HR0_2.out (by repeat (first | (with_reducible first | exact HB.out | apply below_alloc | apply pw_below_drewN | apply below_drew1 | refine below_set ?_ GE101.out | refine below_set ?_ GE102.out | refine below_set ?_ GE103.out) | exact HB.out))); (case side2 => exact HC0_2.out); (case side3 => exact Kd.C_below HR1.out (by repeat (first | (with_reducible first | exact HB.out | apply below_alloc | apply pw_below_drewN | apply below_drew1 | refine below_set ?_ GE101.out | refine below_set ?_ GE102.out | refine below_set ?_ GE103.out) | exact HB.out))); (case side4 => exact HC1.out); rintro e w90 ⟨rfl, hb⟩; refine ⟨_, rfl, ?_⟩; have n0_ := Aside0.mk (blk_below (g := gb101) (o := .cells #[.int .i64 a0_0, .int .i64 a0_1, .slice A0_2 l0_2.length c0_2] 29 (0, 0)) (by (with_reducible repeat (first | refine blk_drewN ?_ _ | refine blk_drew ?_ | refine blk_alloc ?_ _)); refine blk_far ?_ NB101_103.out _; (with_reducible repeat (first | refine blk_drewN ?_ _ | refine blk_drew ?_ | refine blk_alloc ?_ _)); refine blk_far ?_ NB101_103.out _; (with_reducible repeat (first | refine blk_drewN ?_ _ | refine blk_drew ?_ | refine blk_alloc ?_ _)); refine blk_far ?_ NB101_103.out _; (with_reducible repeat (first | refine blk_drewN ?_ _ | refine blk_drew ?_ | refine blk_alloc ?_ _)); refine blk_far ?_ NB101_103.out _; exact bS BK101.out) hb); have n1_ := Aside0.mk (blk_below (g := gb102) (o := .cells #[.int .i64 0, .int .i64 0, .int .i64 0, .int .i64 0] 39 (0, 0)) (by (with_reducible repeat (first | refine blk_drewN ?_ _ | refine blk_drew ?_ | refine blk_alloc ?_ _)); refine blk_far ?_ NB102_103.out _; (with_reducible repeat (first | refine blk_drewN ?_ _ | refine blk_drew ?_ | refine blk_alloc ?_ _)); refine blk_far ?_ NB102_103.out _; (with_reducible repeat (first | refine blk_drewN ?_ _ | refine blk_drew ?_ | refine blk_alloc ?_ _)); refine blk_far ?_ NB102_103.out _; (with_reducible repeat (first | refine blk_drewN ?_ _ | refine blk_drew ?_ | refine blk_alloc ?_ _)); refine blk_far ?_ NB102_103.out _; exact bS BK102.out) hb); have n2_ := Aside0.mk (blk_below (g := gb103) (o := .cells #[.int .i64 0, .int .i64 0, .int .i64 0, .int .i64 0] 39 (0, 0)) (by (with_reducible repeat (first | refine blk_drewN ?_ _ | refine blk_drew ?_ | refine blk_alloc ?_ _)); refine blk_put (cs := #[.int .i64 0, .int .i64 0, .int .i64 0, .int .i64 0]) ?_ 3 _ rfl; (with_reducible repeat (first | refine blk_drewN ?_ _ | refine blk_drew ?_ | refine blk_alloc ?_ _)); refine blk_put (cs := #[.int .i64 0, .int .i64 0, .int .i64 0, .int .i64 0]) ?_ 2 _ rfl; (with_reducible repeat (first | refine blk_drewN ?_ _ | refine blk_drew ?_ | refine blk_alloc ?_ _)); refine blk_put (cs := #[.int .i64 0, .int .i64 0, .int .i64 0, .int .i64 0]) ?_ 1 _ rfl; (with_reducible repeat (first | refine blk_drewN ?_ _ | refine blk_drew ?_ | refine blk_alloc ?_ _)); refine blk_put (cs := #[.int .i64 0, .int .i64 0, .int .i64 0, .int .i64 0]) ?_ 0 _ rfl; exact bS BK103.out) hb); have n3_ := Aside0.mk (below_step (by repeat (first | (with_reducible first | exact HB.out | apply below_alloc | apply pw_below_drewN | apply below_drew1 | refine below_set ?_ GE101.out | refine below_set ?_ GE102.out | refine below_set ?_ GE103.out) | exact HB.out)) hb); clear BK101; clear BK102; clear BK103; clear HB; have BK101 := n0_; have BK102 := n1_; have BK103 := n2_; have HB := n3_; clear n0_ n1_ n2_ n3_; (try clear hb); (try clear hb2); (try clear hk); (try clear hi); have hcz91_0 : w90.cell? ⟨gb103, 0, none⟩ = some (.int .i64 0) := (blk_cell BK103.out 0).trans rfl; have hcz91_1 : w90.cell? ⟨gb103, 1, none⟩ = some (.int .i64 0) := (blk_cell BK103.out 1).trans rfl; have hcz91_2 : w90.cell? ⟨gb103, 2, none⟩ = some (.int .i64 0) := (blk_cell BK103.out 2).trans rfl; have hcz91_3 : w90.cell? ⟨gb103, 3, none⟩ = some (.int .i64 0) := (blk_cell BK103.out 3).trans rfl; have hfz91_0 := blk_frozen BK103.out 0; have hfz91_1 := blk_frozen BK103.out 1; have hfz91_2 := blk_frozen BK103.out 2; have hfz91_3 := blk_frozen BK103.out 3; have hcz92_0 : w90.cell? ⟨gb102, 0, none⟩ = some (.int .i64 0) := (blk_cell BK102.out 0).trans rfl; have hcz92_1 : w90.cell? ⟨gb102, 1, none⟩ = some (.int .i64 0) := (blk_cell BK102.out 1).trans rfl; have hcz92_2 : w90.cell? ⟨gb102, 2, none⟩ = some (.int .i64 0) := (blk_cell BK102.out 2).trans rfl; have hcz92_3 : w90.cell? ⟨gb102, 3, none⟩ = some (.int .i64 0) := (blk_cell BK102.out 3).trans rfl; have hfz92_0 := blk_frozen BK102.out 0; have hfz92_1 := blk_frozen BK102.out 1; have hfz92_2 := blk_frozen BK102.out 2; have hfz92_3 := blk_frozen BK102.out 3))
  refine bodyPost_ret (results_ctt rfl _ _ gb102 39 #[.int .i64 0, .int .i64 0, .int .i64 0, .int .i64 0] (0, 0) _ rfl (by (with_reducible repeat (first | refine blk_drewN ?_ _ | refine blk_drew ?_ | refine blk_alloc ?_ _)); refine blk_put (cs := #[.int .i64 0, .int .i64 0, .int .i64 0, .int .i64 0]) ?_ 3 _ rfl; (with_reducible repeat (first | refine blk_drewN ?_ _ | refine blk_drew ?_ | refine blk_alloc ?_ _)); refine blk_put (cs := #[.int .i64 0, .int .i64 0, .int .i64 0, .int .i64 0]) ?_ 2 _ rfl; (with_reducible repeat (first | refine blk_drewN ?_ _ | refine blk_drew ?_ | refine blk_alloc ?_ _)); refine blk_put (cs := #[.int .i64 0, .int .i64 0, .int .i64 0, .int .i64 0]) ?_ 1 _ rfl; (with_reducible repeat (first | refine blk_drewN ?_ _ | refine blk_drew ?_ | refine blk_alloc ?_ _)); refine blk_put (cs := #[.int .i64 0, .int .i64 0, .int .i64 0, .int .i64 0]) ?_ 0 _ rfl; exact bS BK102.out) Try.underlying39 rfl (by kernel_rfl)) rfl ?_
  exact ⟨by first | rfl | (simp [errW_none, errW_some] <;> rfl) | (simp [*, errW_none, errW_some] <;> rfl), by repeat (first | (with_reducible first | exact HB.out | apply below_alloc | apply pw_below_drewN | apply below_drew1 | refine below_set ?_ GE101.out | refine below_set ?_ GE102.out | refine below_set ?_ GE103.out) | exact HB.out)⟩

end Go.Proofs.Ytbfhphobnngeaaa.X

-- XlawsFnExactLargestWholeF6
namespace Go.Proofs.Ytbfhphobnngeaaa.X
open Ho (bS eS)
open Go.RowKit Go.Proofs.YtbfhphobnngeaaaW.PrintWords Go.Proofs.YtbfhphobnngeaaaW.PrintLast Go.Proofs.YtbfhphobnngeaaaW.PrintMore
attribute [local go_sem] max2_int min2_int max_two min_two max_three min_three max_four min_four   -- for this text's walks alone
set_option linter.unusedVariables false
set_option linter.unusedSimpArgs false

open Sq (I O Z)
attribute [local go_sem ↓] Ho.isSome_setCell_   -- a store leaves all places there
/-! ### laws_FnExactLargestWhole: function 6 -/
def laws_FnExactLargestWhole.j0 : Nat → List (S67) → List (S39) → Bool → Int → Int → List Int → Int → Int → List Int → Option (Bool)
  | 0, _, _, _, _, _, _, _, _, _ => none
  | k + 1, x1, x10, x57, x102000, x102001, x102002, x125000, x125001, x125002 => if x57 = true then (some false) else ((laws_toChart.f k x102000 x102001 x102002).bind fun bt136 => ((laws_eqChart.f k x125000 x125001 x125002 bt136.1 bt136.2.1 bt136.2.2).bind fun t141 => (if t141 = true then ((laws_toHoleS.f k x1).bind fun t142 => ((laws_eqHoleS.f k x10 t142).bind fun t145 => (if t145 = true then (some true) else (some false)))) else (some false))))
def laws_FnExactLargestWhole.f (k : Nat) (a0_0 : Int) (a0_1 : Int) (l0_2 : List Int) (l1 : List (S67)) : Option (Bool) := (laws_szChart.f a0_0 a0_1 l0_2 1048576).bind fun t102 => (if t102 < 0 then (some true) else ((laws_szHoleS.f l1 t102).bind fun t103 => (if t103 < 0 then (some true) else ((laws_toChart.f k a0_0 a0_1 l0_2).bind fun bt104 => ((laws_toHoleS.f k l1).bind fun t109 => ((spec_LargestWhole.f k bt104.1 bt104.2.1 bt104.2.2 t109).bind fun bt112 => ((laws_toChart.f k a0_0 a0_1 l0_2).bind fun bt119 => ((laws_toHoleS.f k l1).bind fun t125 => ((impl_LargestWhole.f k bt119.1 bt119.2.1 bt119.2.2 t125).bind fun bt128 => ((laws_eqHole.f bt128.1 bt128.2.1 bt128.2.2.1 bt128.2.2.2.1 bt112.1 bt112.2.1 bt112.2.2.1 bt112.2.2.2.1).bind fun t135 => (if t135 = true then (if bt128.2.2.2.2.1 = bt112.2.2.2.2.1 then (laws_FnExactLargestWhole.j0 k l1 t125 (bt128.2.2.2.2.2 != bt112.2.2.2.2.2) a0_0 a0_1 l0_2 bt119.1 bt119.2.1 bt119.2.2) else (laws_FnExactLargestWhole.j0 k l1 t125 true a0_0 a0_1 l0_2 bt119.1 bt119.2.1 bt119.2.2)) else (laws_FnExactLargestWhole.j0 k l1 t125 true a0_0 a0_1 l0_2 bt119.1 bt119.2.1 bt119.2.2))))))))))))
theorem laws_FnExactLargestWhole.mono_l : ∀ k, (∀ y0 y1 y2 y3 y4 y5 y6 y7 y8, LeO (laws_FnExactLargestWhole.j0 k y0 y1 y2 y3 y4 y5 y6 y7 y8) (laws_FnExactLargestWhole.j0 (k + 1) y0 y1 y2 y3 y4 y5 y6 y7 y8))
  | 0 => fun _ _ _ _ _ _ _ _ _ r h => by simp [laws_FnExactLargestWhole.j0] at h
  | k + 1 => by
    have ih0 := laws_FnExactLargestWhole.mono_l k
    · intro y0 y1 y2 y3 y4 y5 y6 y7 y8
      unfold laws_FnExactLargestWhole.j0
      repeat' first
      | (with_reducible exact ih0 _ _ _ _ _ _ _ _ _)
      | (with_reducible exact impl_LargestWhole.mono _ _ _ _ _)
      | (with_reducible exact laws_eqChart.mono _ _ _ _ _ _ _)
      | (with_reducible exact laws_eqHoleS.mono _ _ _)
      | (with_reducible exact laws_toChart.mono _ _ _ _)
      | (with_reducible exact laws_toHoleS.mono _ _)
      | (with_reducible exact spec_LargestWhole.mono _ _ _ _ _)
      | (with_reducible exact LeO.refl _)
      | (with_reducible exact LeO.none _)
      | (with_reducible refine LeO.ite ?_ ?_)
      | (with_reducible refine LeO.bind ?_ (fun _ => ?_))
      | exact ih0 _ _ _ _ _ _ _ _ _
      | exact impl_LargestWhole.mono _ _ _ _ _
      | exact laws_eqChart.mono _ _ _ _ _ _ _
      | exact laws_eqHoleS.mono _ _ _
      | exact laws_toChart.mono _ _ _ _
      | exact laws_toHoleS.mono _ _
      | exact spec_LargestWhole.mono _ _ _ _ _
      | exact LeO.none _
      | refine LeO.ite ?_ ?_
      | refine LeO.bind ?_ (fun _ => ?_)
theorem laws_FnExactLargestWhole.mono : ∀ a0 a1 a2 a3 k, LeO (laws_FnExactLargestWhole.f k a0 a1 a2 a3) (laws_FnExactLargestWhole.f (k + 1) a0 a1 a2 a3) := by
  intro a0 a1 a2 a3 k
  have ih0 := laws_FnExactLargestWhole.mono_l k
  unfold laws_FnExactLargestWhole.f
  repeat' first
      | (with_reducible exact ih0 _ _ _ _ _ _ _ _ _)
      | (with_reducible exact impl_LargestWhole.mono _ _ _ _ _)
      | (with_reducible exact laws_eqChart.mono _ _ _ _ _ _ _)
      | (with_reducible exact laws_eqHoleS.mono _ _ _)
      | (with_reducible exact laws_toChart.mono _ _ _ _)
      | (with_reducible exact laws_toHoleS.mono _ _)
      | (with_reducible exact spec_LargestWhole.mono _ _ _ _ _)
      | (with_reducible exact LeO.refl _)
      | (with_reducible exact LeO.none _)
      | (with_reducible refine LeO.ite ?_ ?_)
      | (with_reducible refine LeO.bind ?_ (fun _ => ?_))
      | exact ih0 _ _ _ _ _ _ _ _ _
      | exact impl_LargestWhole.mono _ _ _ _ _
      | exact laws_eqChart.mono _ _ _ _ _ _ _
      | exact laws_eqHoleS.mono _ _ _
      | exact laws_toChart.mono _ _ _ _
      | exact laws_toHoleS.mono _ _
      | exact spec_LargestWhole.mono _ _ _ _ _
      | exact LeO.none _
      | refine LeO.ite ?_ ?_
      | refine LeO.bind ?_ (fun _ => ?_)
set_option maxHeartbeats 8000000 in
set_option maxRecDepth 100000 in
theorem laws_FnExactLargestWhole.calls (k : Nat) (a0_0 : Int) (a0_1 : Int) (A0_2 : Option Addr) (c0_2 : Nat) (l0_2 : List Int) (A1 : Option Addr) (c1 : Nat) (l1 : List (S67)) (r : Bool) (w : World) (hr0_2 : Kd.C (Kd.int .i64) w A0_2 l0_2.length l0_2) (hc0_2 : l0_2.length ≤ c0_2) (hr1 : Kd.C k67 w A1 l1.length l1) (hc1 : l1.length ≤ c1) (ht : r = true) (h : laws_FnExactLargestWhole.f k a0_0 a0_1 l0_2 l1 = some r) :
  Calls Try.prog 6 #[.agg #[.int .i64 a0_0, .int .i64 a0_1, .slice A0_2 l0_2.length c0_2], .slice A1 l1.length c1] w fun e w' => e = .returned (.bool r) ∧ Below w.heap.size w w' := by
 have hu24 := Try.underlying24
 have hu39 := Try.underlying39
 have hu29 := Try.underlying29
 have HR0_2 := Aside0.mk hr0_2
 have HC0_2 := Aside0.mk hc0_2
 clear hr0_2 hc0_2
 have HR1 := Aside0.mk hr1
 have HC1 := Aside0.mk hc1
 clear hr1 hc1
 have HB := Aside0.mk (Below.refl w.heap.size w)
 have HT := Aside0.mk ht
 clear ht
 have H : ((laws_szChart.f a0_0 a0_1 l0_2 1048576).bind fun t102 => (if t102 < 0 then (some true) else ((laws_szHoleS.f l1 t102).bind fun t103 => (if t103 < 0 then (some true) else ((laws_toChart.f k a0_0 a0_1 l0_2).bind fun bt104 => ((laws_toHoleS.f k l1).bind fun t109 => ((spec_LargestWhole.f k bt104.1 bt104.2.1 bt104.2.2 t109).bind fun bt112 => ((laws_toChart.f k a0_0 a0_1 l0_2).bind fun bt119 => ((laws_toHoleS.f k l1).bind fun t125 => ((impl_LargestWhole.f k bt119.1 bt119.2.1 bt119.2.2 t125).bind fun bt128 => ((laws_eqHole.f bt128.1 bt128.2.1 bt128.2.2.1 bt128.2.2.2.1 bt112.1 bt112.2.1 bt112.2.2.1 bt112.2.2.2.1).bind fun t135 => (if t135 = true then (if bt128.2.2.2.2.1 = bt112.2.2.2.2.1 then (laws_FnExactLargestWhole.j0 k l1 t125 (bt128.2.2.2.2.2 != bt112.2.2.2.2.2) a0_0 a0_1 l0_2 bt119.1 bt119.2.1 bt119.2.2) else (laws_FnExactLargestWhole.j0 k l1 t125 true a0_0 a0_1 l0_2 bt119.1 bt119.2.1 bt119.2.2)) else (laws_FnExactLargestWhole.j0 k l1 t125 true a0_0 a0_1 l0_2 bt119.1 bt119.2.1 bt119.2.2))))))))))))) = some r := h
 clear h
 replace H := Option.bind_eq_some_iff.mp H
 obtain ⟨t102, A30, H⟩ := H
 replace H : (if t102 < 0 then (some true) else ((laws_szHoleS.f l1 t102).bind fun t103 => (if t103 < 0 then (some true) else ((laws_toChart.f k a0_0 a0_1 l0_2).bind fun bt104 => ((laws_toHoleS.f k l1).bind fun t109 => ((spec_LargestWhole.f k bt104.1 bt104.2.1 bt104.2.2 t109).bind fun bt112 => ((laws_toChart.f k a0_0 a0_1 l0_2).bind fun bt119 => ((laws_toHoleS.f k l1).bind fun t125 => ((impl_LargestWhole.f k bt119.1 bt119.2.1 bt119.2.2 t125).bind fun bt128 => ((laws_eqHole.f bt128.1 bt128.2.1 bt128.2.2.1 bt128.2.2.2.1 bt112.1 bt112.2.1 bt112.2.2.1 bt112.2.2.2.1).bind fun t135 => (if t135 = true then (if bt128.2.2.2.2.1 = bt112.2.2.2.2.1 then (laws_FnExactLargestWhole.j0 k l1 t125 (bt128.2.2.2.2.2 != bt112.2.2.2.2.2) a0_0 a0_1 l0_2 bt119.1 bt119.2.1 bt119.2.2) else (laws_FnExactLargestWhole.j0 k l1 t125 true a0_0 a0_1 l0_2 bt119.1 bt119.2.1 bt119.2.2)) else (laws_FnExactLargestWhole.j0 k l1 t125 true a0_0 a0_1 l0_2 bt119.1 bt119.2.1 bt119.2.2)))))))))))) = some r := H
 have A3 := Aside0.mk A30
 clear A30
 by_cases c4 : t102 < 0
 ·rw [if_pos c4] at H
  have c4b0 : decide (t102 < 0) = true := decide_eq_true c4
  clear c4
  obtain rfl := Option.some.inj H
  go_enter Try.func6, Try.ntmps6
  go_wp2_with (first | ((with_reducible refine gate_dst (N := 2) rfl ?_); refine box_event ?hg (N := 2) ?hd (cs := #[.int .i64 a0_0, .int .i64 a0_1, .slice A0_2 l0_2.length c0_2]) (t := 24) ?hr ?_; (case hd => rfl); (case hg => rfl); (case hr => first | (go_simp; done) | (go_simp; rfl)); intro gb101 hg w5 hbox hb; have n0_ := Aside0.mk (below_step (by exact eS HB.out) hb); have n1_ := Aside0.mk (hbox); have n2_ := Aside0.mk ((by rw [hg]; exact (below_size (by exact eS HB.out)) : w.heap.size ≤ gb101)); have n3_ := Aside0.mk ((by rw [hg]; exact (below_size (by exact eS HB.out)) : w.heap.size ≤ gb101)); clear HB; have HB := n0_; have BK101 := n1_; have GW101 := n2_; have GE101 := n3_; clear n0_ n1_ n2_ n3_; clear hb hbox hg; have hcz6_0 : w5.cell? ⟨gb101, 0, none⟩ = some (.int .i64 a0_0) := (blk_cell BK101.out 0).trans rfl; have hcz6_1 : w5.cell? ⟨gb101, 1, none⟩ = some (.int .i64 a0_1) := (blk_cell BK101.out 1).trans rfl; have hcz6_2 : w5.cell? ⟨gb101, 2, none⟩ = some (.slice A0_2 l0_2.length c0_2) := (blk_cell BK101.out 2).trans rfl; have hfz6_0 := blk_frozen BK101.out 0; have hfz6_1 := blk_frozen BK101.out 1; have hfz6_2 := blk_frozen BK101.out 2) | ((with_reducible refine gate_callee (f := 10) rfl ?_); refine goesL_ (some 16) rfl rfl Try.func10 (by kernel_rfl) rfl #[.agg #[.int .i64 a0_0, .int .i64 a0_1, .slice A0_2 l0_2.length c0_2], .int .i64 1048576] rfl (by (try simp only [List.map_toArray, List.map_cons, List.map_nil]); first | done | rfl | (simp only [List.length_drop, List.length_take]; rfl)) ?_; (with_reducible refine (laws_szChart.calls a0_0 a0_1 _ _ l0_2 1048576 t102 _ ?side1 ?side2 A3.out).mono ?_); (case side1 => repeat (first | exact (Kd.C_below HR0_2.out HB.out) | (with_reducible refine Kd.C_alloc ?_ _) | (with_reducible refine Kd.C_drewN ?_ _) | (with_reducible refine Kd.C_drew ?_))); (case side2 => exact HC0_2.out); rintro e w7 ⟨rfl, hb⟩; refine ⟨_, rfl, ?_⟩; have n0_ := Aside0.mk (blk_below (bS BK101.out) hb); have n1_ := Aside0.mk (below_step (by exact eS HB.out) hb); clear BK101; clear HB; have BK101 := n0_; have HB := n1_; clear n0_ n1_; (try clear hb); (try clear hb2); (try clear hk); (try clear hi)))
  go_ret
  exact ⟨by first | rfl | (simp [errW_none, errW_some] <;> rfl) | (simp [*, errW_none, errW_some] <;> rfl), by exact eS HB.out⟩
 ·rw [if_neg c4] at H
  have c4b0 : decide (t102 < 0) = false := decide_eq_false c4
  clear c4
  replace H := Option.bind_eq_some_iff.mp H
  obtain ⟨t103, A80, H⟩ := H
  replace H : (if t103 < 0 then (some true) else ((laws_toChart.f k a0_0 a0_1 l0_2).bind fun bt104 => ((laws_toHoleS.f k l1).bind fun t109 => ((spec_LargestWhole.f k bt104.1 bt104.2.1 bt104.2.2 t109).bind fun bt112 => ((laws_toChart.f k a0_0 a0_1 l0_2).bind fun bt119 => ((laws_toHoleS.f k l1).bind fun t125 => ((impl_LargestWhole.f k bt119.1 bt119.2.1 bt119.2.2 t125).bind fun bt128 => ((laws_eqHole.f bt128.1 bt128.2.1 bt128.2.2.1 bt128.2.2.2.1 bt112.1 bt112.2.1 bt112.2.2.1 bt112.2.2.2.1).bind fun t135 => (if t135 = true then (if bt128.2.2.2.2.1 = bt112.2.2.2.2.1 then (laws_FnExactLargestWhole.j0 k l1 t125 (bt128.2.2.2.2.2 != bt112.2.2.2.2.2) a0_0 a0_1 l0_2 bt119.1 bt119.2.1 bt119.2.2) else (laws_FnExactLargestWhole.j0 k l1 t125 true a0_0 a0_1 l0_2 bt119.1 bt119.2.1 bt119.2.2)) else (laws_FnExactLargestWhole.j0 k l1 t125 true a0_0 a0_1 l0_2 bt119.1 bt119.2.1 bt119.2.2)))))))))) = some r := H
  have A8 := Aside0.mk A80
  clear A80
  by_cases c9 : t103 < 0
  ·rw [if_pos c9] at H
   have c9b0 : decide (t103 < 0) = true := decide_eq_true c9
   clear c9
   obtain rfl := Option.some.inj H
   go_enter Try.func6, Try.ntmps6
   go_wp2_with (first | ((with_reducible refine gate_dst (N := 2) rfl ?_); refine box_event ?hg (N := 2) ?hd (cs := #[.int .i64 a0_0, .int .i64 a0_1, .slice A0_2 l0_2.length c0_2]) (t := 24) ?hr ?_; (case hd => rfl); (case hg => rfl); (case hr => first | (go_simp; done) | (go_simp; rfl)); intro gb101 hg w10 hbox hb; have n0_ := Aside0.mk (below_step (by exact eS HB.out) hb); have n1_ := Aside0.mk (hbox); have n2_ := Aside0.mk ((by rw [hg]; exact (below_size (by exact eS HB.out)) : w.heap.size ≤ gb101)); have n3_ := Aside0.mk ((by rw [hg]; exact (below_size (by exact eS HB.out)) : w.heap.size ≤ gb101)); clear HB; have HB := n0_; have BK101 := n1_; have GW101 := n2_; have GE101 := n3_; clear n0_ n1_ n2_ n3_; clear hb hbox hg; have hcz11_0 : w10.cell? ⟨gb101, 0, none⟩ = some (.int .i64 a0_0) := (blk_cell BK101.out 0).trans rfl; have hcz11_1 : w10.cell? ⟨gb101, 1, none⟩ = some (.int .i64 a0_1) := (blk_cell BK101.out 1).trans rfl; have hcz11_2 : w10.cell? ⟨gb101, 2, none⟩ = some (.slice A0_2 l0_2.length c0_2) := (blk_cell BK101.out 2).trans rfl; have hfz11_0 := blk_frozen BK101.out 0; have hfz11_1 := blk_frozen BK101.out 1; have hfz11_2 := blk_frozen BK101.out 2) | ((with_reducible refine gate_callee (f := 10) rfl ?_); refine goesL_ (some 16) rfl rfl Try.func10 (by kernel_rfl) rfl #[.agg #[.int .i64 a0_0, .int .i64 a0_1, .slice A0_2 l0_2.length c0_2], .int .i64 1048576] rfl (by (try simp only [List.map_toArray, List.map_cons, List.map_nil]); first | done | rfl | (simp only [List.length_drop, List.length_take]; rfl)) ?_; (with_reducible refine (laws_szChart.calls a0_0 a0_1 _ _ l0_2 1048576 t102 _ ?side1 ?side2 A3.out).mono ?_); (case side1 => repeat (first | exact (Kd.C_below HR0_2.out HB.out) | (with_reducible refine Kd.C_alloc ?_ _) | (with_reducible refine Kd.C_drewN ?_ _) | (with_reducible refine Kd.C_drew ?_))); (case side2 => exact HC0_2.out); rintro e w12 ⟨rfl, hb⟩; refine ⟨_, rfl, ?_⟩; have n0_ := Aside0.mk (blk_below (bS BK101.out) hb); have n1_ := Aside0.mk (below_step (by exact eS HB.out) hb); clear BK101; clear HB; have BK101 := n0_; have HB := n1_; clear n0_ n1_; (try clear hb); (try clear hb2); (try clear hk); (try clear hi)) | ((with_reducible refine gate_callee (f := 11) rfl ?_); refine goesL_ (some 21) rfl rfl Try.func11 (by kernel_rfl) rfl #[.slice A1 l1.length c1, .int .i64 t102] rfl (by (try simp only [List.map_toArray, List.map_cons, List.map_nil]); first | done | rfl | (simp only [List.length_drop, List.length_take]; rfl)) ?_; (with_reducible refine (laws_szHoleS.calls _ _ l1 t102 t103 _ ?side1 ?side2 A8.out).mono ?_); (case side1 => repeat (first | exact (Kd.C_below HR1.out HB.out) | (with_reducible refine Kd.C_alloc ?_ _) | (with_reducible refine Kd.C_drewN ?_ _) | (with_reducible refine Kd.C_drew ?_))); (case side2 => exact HC1.out); rintro e w' ⟨rfl, ⟨nd, rfl⟩⟩; refine ⟨_, rfl, ?_⟩))
   go_ret
   exact ⟨by first | rfl | (simp [errW_none, errW_some] <;> rfl) | (simp [*, errW_none, errW_some] <;> rfl), by exact eS HB.out⟩
  ·rw [if_neg c9] at H
   have c9b0 : decide (t103 < 0) = false := decide_eq_false c9
   clear c9
   replace H := Option.bind_eq_some_iff.mp H
   obtain ⟨⟨t104, t105, t106⟩, A130, H⟩ := H
   replace H : ((laws_toHoleS.f k l1).bind fun t109 => ((spec_LargestWhole.f k t104 t105 t106 t109).bind fun bt112 => ((laws_toChart.f k a0_0 a0_1 l0_2).bind fun bt119 => ((laws_toHoleS.f k l1).bind fun t125 => ((impl_LargestWhole.f k bt119.1 bt119.2.1 bt119.2.2 t125).bind fun bt128 => ((laws_eqHole.f bt128.1 bt128.2.1 bt128.2.2.1 bt128.2.2.2.1 bt112.1 bt112.2.1 bt112.2.2.1 bt112.2.2.2.1).bind fun t135 => (if t135 = true then (if bt128.2.2.2.2.1 = bt112.2.2.2.2.1 then (laws_FnExactLargestWhole.j0 k l1 t125 (bt128.2.2.2.2.2 != bt112.2.2.2.2.2) a0_0 a0_1 l0_2 bt119.1 bt119.2.1 bt119.2.2) else (laws_FnExactLargestWhole.j0 k l1 t125 true a0_0 a0_1 l0_2 bt119.1 bt119.2.1 bt119.2.2)) else (laws_FnExactLargestWhole.j0 k l1 t125 true a0_0 a0_1 l0_2 bt119.1 bt119.2.1 bt119.2.2)))))))) = some r := H
   have A13 := Aside0.mk A130
   clear A130
   replace H := Option.bind_eq_some_iff.mp H
   obtain ⟨t109, A140, H⟩ := H
   replace H : ((spec_LargestWhole.f k t104 t105 t106 t109).bind fun bt112 => ((laws_toChart.f k a0_0 a0_1 l0_2).bind fun bt119 => ((laws_toHoleS.f k l1).bind fun t125 => ((impl_LargestWhole.f k bt119.1 bt119.2.1 bt119.2.2 t125).bind fun bt128 => ((laws_eqHole.f bt128.1 bt128.2.1 bt128.2.2.1 bt128.2.2.2.1 bt112.1 bt112.2.1 bt112.2.2.1 bt112.2.2.2.1).bind fun t135 => (if t135 = true then (if bt128.2.2.2.2.1 = bt112.2.2.2.2.1 then (laws_FnExactLargestWhole.j0 k l1 t125 (bt128.2.2.2.2.2 != bt112.2.2.2.2.2) a0_0 a0_1 l0_2 bt119.1 bt119.2.1 bt119.2.2) else (laws_FnExactLargestWhole.j0 k l1 t125 true a0_0 a0_1 l0_2 bt119.1 bt119.2.1 bt119.2.2)) else (laws_FnExactLargestWhole.j0 k l1 t125 true a0_0 a0_1 l0_2 bt119.1 bt119.2.1 bt119.2.2))))))) = some r := H
   have A14 := Aside0.mk A140
   clear A140
   replace H := Option.bind_eq_some_iff.mp H
   obtain ⟨⟨t112, t113, t114, t115, t116, t117⟩, A150, H⟩ := H
   replace H : ((laws_toChart.f k a0_0 a0_1 l0_2).bind fun bt119 => ((laws_toHoleS.f k l1).bind fun t125 => ((impl_LargestWhole.f k bt119.1 bt119.2.1 bt119.2.2 t125).bind fun bt128 => ((laws_eqHole.f bt128.1 bt128.2.1 bt128.2.2.1 bt128.2.2.2.1 t112 t113 t114 t115).bind fun t135 => (if t135 = true then (if bt128.2.2.2.2.1 = t116 then (laws_FnExactLargestWhole.j0 k l1 t125 (bt128.2.2.2.2.2 != t117) a0_0 a0_1 l0_2 bt119.1 bt119.2.1 bt119.2.2) else (laws_FnExactLargestWhole.j0 k l1 t125 true a0_0 a0_1 l0_2 bt119.1 bt119.2.1 bt119.2.2)) else (laws_FnExactLargestWhole.j0 k l1 t125 true a0_0 a0_1 l0_2 bt119.1 bt119.2.1 bt119.2.2)))))) = some r := H
   have A15 := Aside0.mk A150
   clear A150
   replace H := Option.bind_eq_some_iff.mp H
   obtain ⟨⟨t119, t120, t121⟩, A160, H⟩ := H
   replace H : ((laws_toHoleS.f k l1).bind fun t125 => ((impl_LargestWhole.f k t119 t120 t121 t125).bind fun bt128 => ((laws_eqHole.f bt128.1 bt128.2.1 bt128.2.2.1 bt128.2.2.2.1 t112 t113 t114 t115).bind fun t135 => (if t135 = true then (if bt128.2.2.2.2.1 = t116 then (laws_FnExactLargestWhole.j0 k l1 t125 (bt128.2.2.2.2.2 != t117) a0_0 a0_1 l0_2 t119 t120 t121) else (laws_FnExactLargestWhole.j0 k l1 t125 true a0_0 a0_1 l0_2 t119 t120 t121)) else (laws_FnExactLargestWhole.j0 k l1 t125 true a0_0 a0_1 l0_2 t119 t120 t121))))) = some r := H
   have A16 := Aside0.mk A160
   clear A160
   replace H := Option.bind_eq_some_iff.mp H
   obtain ⟨t125, A170, H⟩ := H
   replace H : ((impl_LargestWhole.f k t119 t120 t121 t125).bind fun bt128 => ((laws_eqHole.f bt128.1 bt128.2.1 bt128.2.2.1 bt128.2.2.2.1 t112 t113 t114 t115).bind fun t135 => (if t135 = true then (if bt128.2.2.2.2.1 = t116 then (laws_FnExactLargestWhole.j0 k l1 t125 (bt128.2.2.2.2.2 != t117) a0_0 a0_1 l0_2 t119 t120 t121) else (laws_FnExactLargestWhole.j0 k l1 t125 true a0_0 a0_1 l0_2 t119 t120 t121)) else (laws_FnExactLargestWhole.j0 k l1 t125 true a0_0 a0_1 l0_2 t119 t120 t121)))) = some r := H
   have A17 := Aside0.mk A170
   clear A170
   replace H := Option.bind_eq_some_iff.mp H
   obtain ⟨⟨t128, t129, t130, t131, t132, t133⟩, A180, H⟩ := H
   replace H : ((laws_eqHole.f t128 t129 t130 t131 t112 t113 t114 t115).bind fun t135 => (if t135 = true then (if t132 = t116 then (laws_FnExactLargestWhole.j0 k l1 t125 (t133 != t117) a0_0 a0_1 l0_2 t119 t120 t121) else (laws_FnExactLargestWhole.j0 k l1 t125 true a0_0 a0_1 l0_2 t119 t120 t121)) else (laws_FnExactLargestWhole.j0 k l1 t125 true a0_0 a0_1 l0_2 t119 t120 t121))) = some r := H
   have A18 := Aside0.mk A180
   clear A180
   have HC19 := Aside0.mk H
   clear H
   go_enter Try.func6, Try.ntmps6
   go_upto_region 12 with (first | ((with_reducible refine gate_dst (N := 2) rfl ?_); refine box_event ?hg (N := 2) ?hd (cs := #[.int .i64 a0_0, .int .i64 a0_1, .slice A0_2 l0_2.length c0_2]) (t := 24) ?hr ?_; (case hd => rfl); (case hg => rfl); (case hr => first | (go_simp; done) | (go_simp; rfl)); intro gb101 hg w20 hbox hb; have n0_ := Aside0.mk (below_step (by exact eS HB.out) hb); have n1_ := Aside0.mk (hbox); have n2_ := Aside0.mk ((by rw [hg]; exact (below_size (by exact eS HB.out)) : w.heap.size ≤ gb101)); have n3_ := Aside0.mk ((by rw [hg]; exact (below_size (by exact eS HB.out)) : w.heap.size ≤ gb101)); clear HB; have HB := n0_; have BK101 := n1_; have GW101 := n2_; have GE101 := n3_; clear n0_ n1_ n2_ n3_; clear hb hbox hg; have hcz21_0 : w20.cell? ⟨gb101, 0, none⟩ = some (.int .i64 a0_0) := (blk_cell BK101.out 0).trans rfl; have hcz21_1 : w20.cell? ⟨gb101, 1, none⟩ = some (.int .i64 a0_1) := (blk_cell BK101.out 1).trans rfl; have hcz21_2 : w20.cell? ⟨gb101, 2, none⟩ = some (.slice A0_2 l0_2.length c0_2) := (blk_cell BK101.out 2).trans rfl; have hfz21_0 := blk_frozen BK101.out 0; have hfz21_1 := blk_frozen BK101.out 1; have hfz21_2 := blk_frozen BK101.out 2) | ((with_reducible refine gate_callee (f := 10) rfl ?_); refine goesL_ (some 16) rfl rfl Try.func10 (by kernel_rfl) rfl #[.agg #[.int .i64 a0_0, .int .i64 a0_1, .slice A0_2 l0_2.length c0_2], .int .i64 1048576] rfl (by (try simp only [List.map_toArray, List.map_cons, List.map_nil]); first | done | rfl | (simp only [List.length_drop, List.length_take]; rfl)) ?_; (with_reducible refine (laws_szChart.calls a0_0 a0_1 _ _ l0_2 1048576 t102 _ ?side1 ?side2 A3.out).mono ?_); (case side1 => repeat (first | exact (Kd.C_below HR0_2.out HB.out) | (with_reducible refine Kd.C_alloc ?_ _) | (with_reducible refine Kd.C_drewN ?_ _) | (with_reducible refine Kd.C_drew ?_))); (case side2 => exact HC0_2.out); rintro e w22 ⟨rfl, hb⟩; refine ⟨_, rfl, ?_⟩; have n0_ := Aside0.mk (blk_below (bS BK101.out) hb); have n1_ := Aside0.mk (below_step (by exact eS HB.out) hb); clear BK101; clear HB; have BK101 := n0_; have HB := n1_; clear n0_ n1_; (try clear hb); (try clear hb2); (try clear hk); (try clear hi)) | ((with_reducible refine gate_callee (f := 11) rfl ?_); refine goesL_ (some 21) rfl rfl Try.func11 (by kernel_rfl) rfl #[.slice A1 l1.length c1, .int .i64 t102] rfl (by (try simp only [List.map_toArray, List.map_cons, List.map_nil]); first | done | rfl | (simp only [List.length_drop, List.length_take]; rfl)) ?_; (with_reducible refine (laws_szHoleS.calls _ _ l1 t102 t103 _ ?side1 ?side2 A8.out).mono ?_); (case side1 => repeat (first | exact (Kd.C_below HR1.out HB.out) | (with_reducible refine Kd.C_alloc ?_ _) | (with_reducible refine Kd.C_drewN ?_ _) | (with_reducible refine Kd.C_drew ?_))); (case side2 => exact HC1.out); rintro e w' ⟨rfl, ⟨nd, rfl⟩⟩; refine ⟨_, rfl, ?_⟩; (try (rw [drewN_self w22]; generalize hq_ : World.drewN w22 _ = w22; have n0_ : Aside0 (w22.heap[gb101]? = some (.cells #[.int .i64 a0_0, .int .i64 a0_1, .slice A0_2 l0_2.length c0_2] 24 (0, 0))) := ⟨by rw [← hq_]; exact (by exact bS BK101.out)⟩; have n1_ : Aside0 (Below w.heap.size w w22) := ⟨by rw [← hq_]; exact (by exact eS HB.out)⟩; clear BK101 HB hq_; have BK101 := n0_; have HB := n1_; clear n0_ n1_)); have hcz23_0 : w22.cell? ⟨gb101, 0, none⟩ = some (.int .i64 a0_0) := (blk_cell BK101.out 0).trans rfl; have hcz23_1 : w22.cell? ⟨gb101, 1, none⟩ = some (.int .i64 a0_1) := (blk_cell BK101.out 1).trans rfl; have hcz23_2 : w22.cell? ⟨gb101, 2, none⟩ = some (.slice A0_2 l0_2.length c0_2) := (blk_cell BK101.out 2).trans rfl; have hfz23_0 := blk_frozen BK101.out 0; have hfz23_1 := blk_frozen BK101.out 1; have hfz23_2 := blk_frozen BK101.out 2) | ((with_reducible refine gate_callee (f := 13) rfl ?_); refine goesL_ (some 26) rfl rfl Try.func13 (by kernel_rfl) rfl #[.agg #[.int .i64 a0_0, .int .i64 a0_1, .slice A0_2 l0_2.length c0_2]] rfl (by (try simp only [List.map_toArray, List.map_cons, List.map_nil]); first | done | rfl | (simp only [List.length_drop, List.length_take]; rfl)) ?_; (with_reducible refine (laws_toChart.calls k a0_0 a0_1 _ _ l0_2 t104 t105 t106 _ ?side1 ?side2 A13.out).mono ?_); (case side1 => repeat (first | exact (Kd.C_below HR0_2.out HB.out) | (with_reducible refine Kd.C_alloc ?_ _) | (with_reducible refine Kd.C_drewN ?_ _) | (with_reducible refine Kd.C_drew ?_))); (case side2 => exact HC0_2.out); rintro e w24 ⟨v107, rfl, ho0, hb⟩; refine ⟨_, rfl, ?_⟩; have n0_ := Aside0.mk (Kd.R_lower ho0 (below_size (by exact eS HB.out))); have n1_ := Aside0.mk (blk_below (bS BK101.out) hb); have n2_ := Aside0.mk (below_step (by exact eS HB.out) hb); clear BK101; clear HB; have HO108 := n0_; have BK101 := n1_; have HB := n2_; clear n0_ n1_ n2_; (try clear hb); (try clear hb2); (try clear hk); (try clear hi); (try clear ho0)) | ((with_reducible refine gate_callee (f := 14) rfl ?_); refine goesL_ (some 28) rfl rfl Try.func14 (by kernel_rfl) rfl #[.slice A1 l1.length c1] rfl (by (try simp only [List.map_toArray, List.map_cons, List.map_nil]); first | done | rfl | (simp only [List.length_drop, List.length_take]; rfl)) ?_; (with_reducible refine (laws_toHoleS.calls k _ _ l1 t109 _ ?side1 ?side2 A14.out).mono ?_); (case side1 => repeat (first | exact (Kd.C_below HR1.out HB.out) | (with_reducible refine Kd.C_alloc ?_ _) | (with_reducible refine Kd.C_drewN ?_ _) | (with_reducible refine Kd.C_drew ?_))); (case side2 => exact HC1.out); rintro e w25 ⟨v110, rfl, ho0, hb⟩; refine ⟨_, rfl, ?_⟩; have n0_ := Aside0.mk (Kd.R_below (by exact Ho.RS <| HO108.out) hb); have n1_ := Aside0.mk (Kd.R_lower ho0 (below_size (by exact eS HB.out))); have n2_ := Aside0.mk (blk_below (bS BK101.out) hb); have n3_ := Aside0.mk (below_step (by exact eS HB.out) hb); clear HO108; clear BK101; clear HB; have HO108 := n0_; have HO111 := n1_; have BK101 := n2_; have HB := n3_; clear n0_ n1_ n2_ n3_; (try clear hb); (try clear hb2); (try clear hk); (try clear hi); (try clear ho0); obtain ⟨Ao26, co26, eo26⟩ := Kd.R_slice HO108.out; subst eo26; obtain ⟨Ao27, co27, eo27⟩ := Kd.R_slice HO111.out; subst eo27) | ((with_reducible refine gate_callee (f := 23) rfl ?_); refine goesL_ (some 29) rfl rfl Try.func23 (by kernel_rfl) rfl #[.agg #[.int .i64 t104, .int .i64 t105, .slice Ao26 t106.length co26], .slice Ao27 t109.length co27] rfl (by (try simp only [List.map_toArray, List.map_cons, List.map_nil]); first | done | rfl | (simp only [List.length_drop, List.length_take]; rfl)) ?_; (with_reducible refine (spec_LargestWhole.calls k t104 t105 _ _ t106 _ _ t109 t112 t113 t114 t115 t116 t117 _ ?side1 ?side2 ?side3 ?side4 A15.out).mono ?_); (case side1 => repeat (first | exact (Kd.R_reads' HO108.out).2.2 | (with_reducible refine Kd.C_alloc ?_ _) | (with_reducible refine Kd.C_drewN ?_ _) | (with_reducible refine Kd.C_drew ?_))); (case side2 => exact (Kd.R_reads' HO108.out).2.1); (case side3 => repeat (first | exact (Kd.R_reads' HO111.out).2.2 | (with_reducible refine Kd.C_alloc ?_ _) | (with_reducible refine Kd.C_drewN ?_ _) | (with_reducible refine Kd.C_drew ?_))); (case side4 => exact (Kd.R_reads' HO111.out).2.1); rintro e w28 ⟨rfl, hb⟩; refine ⟨_, rfl, ?_⟩; have n0_ := Aside0.mk (Kd.R_below (by exact Ho.RS <| HO108.out) hb); have n1_ := Aside0.mk (Kd.R_below (by exact Ho.RS <| HO111.out) hb); have n2_ := Aside0.mk (blk_below (bS BK101.out) hb); have n3_ := Aside0.mk (below_step (by exact eS HB.out) hb); clear HO108; clear HO111; clear BK101; clear HB; have HO108 := n0_; have HO111 := n1_; have BK101 := n2_; have HB := n3_; clear n0_ n1_ n2_ n3_; (try clear hb); (try clear hb2); (try clear hk); (try clear hi)) | ((with_reducible refine gate_dst (N := 6) rfl ?_); refine box_event ?hg (N := 6) ?hd (cs := #[.int .i64 0, .int .i64 0, .int .i64 0, .int .i64 0]) (t := 39) ?hr ?_; (case hd => rfl); (case hg => rfl); (case hr => first | (go_simp; done) | (go_simp; rfl)); intro gb118 hg w29 hbox hb; have n0_ := Aside0.mk (Kd.R_below (by exact Ho.RS <| HO108.out) hb); have n1_ := Aside0.mk (Kd.R_below (Kd.R_elderB (by exact Ho.RS <| HO111.out) gb118 (Nat.le_of_eq hg.symm)) hb); have n2_ := Aside0.mk (blk_below (bS BK101.out) hb); have n3_ := Aside0.mk (below_step (by exact eS HB.out) hb); have n4_ := Aside0.mk (hbox); have n5_ := Aside0.mk ((by rw [hg]; exact (below_size (by exact eS HB.out)) : w.heap.size ≤ gb118)); have n6_ := Aside0.mk ((by rw [hg]; exact (below_size (by exact eS HB.out)) : w.heap.size ≤ gb118)); have n7_ := Aside0.mk ((by rw [hg]; exact Nat.ne_of_lt (blk_lt (bS BK101.out)) : gb101 ≠ gb118)); have n8_ := Aside0.mk ((by rw [hg]; exact Nat.ne_of_gt (blk_lt (bS BK101.out)) : gb118 ≠ gb101)); clear HO108; clear HO111; clear BK101; clear HB; have HO108 := n0_; have HO111 := n1_; have BK101 := n2_; have HB := n3_; have BK118 := n4_; have GW118 := n5_; have GE118 := n6_; have NB101_118 := n7_; have NB118_101 := n8_; clear n0_ n1_ n2_ n3_ n4_ n5_ n6_ n7_ n8_; clear hb hbox hg; have hnb30 := NB118_101.out; have hnc30 := NB101_118.out; have hcz31_0 : w29.cell? ⟨gb118, 0, none⟩ = some (.int .i64 0) := (blk_cell BK118.out 0).trans rfl; have hcz31_1 : w29.cell? ⟨gb118, 1, none⟩ = some (.int .i64 0) := (blk_cell BK118.out 1).trans rfl; have hcz31_2 : w29.cell? ⟨gb118, 2, none⟩ = some (.int .i64 0) := (blk_cell BK118.out 2).trans rfl; have hcz31_3 : w29.cell? ⟨gb118, 3, none⟩ = some (.int .i64 0) := (blk_cell BK118.out 3).trans rfl; have hfz31_0 := blk_frozen BK118.out 0; have hfz31_1 := blk_frozen BK118.out 1; have hfz31_2 := blk_frozen BK118.out 2; have hfz31_3 := blk_frozen BK118.out 3; have hcz32_0 : w29.cell? ⟨gb101, 0, none⟩ = some (.int .i64 a0_0) := (blk_cell BK101.out 0).trans rfl; have hcz32_1 : w29.cell? ⟨gb101, 1, none⟩ = some (.int .i64 a0_1) := (blk_cell BK101.out 1).trans rfl; have hcz32_2 : w29.cell? ⟨gb101, 2, none⟩ = some (.slice A0_2 l0_2.length c0_2) := (blk_cell BK101.out 2).trans rfl; have hfz32_0 := blk_frozen BK101.out 0; have hfz32_1 := blk_frozen BK101.out 1; have hfz32_2 := blk_frozen BK101.out 2) | ((with_reducible refine gate_callee (f := 13) rfl ?_); refine goesL_ (some 34) rfl rfl Try.func13 (by kernel_rfl) rfl #[.agg #[.int .i64 a0_0, .int .i64 a0_1, .slice A0_2 l0_2.length c0_2]] rfl (by (try simp only [List.map_toArray, List.map_cons, List.map_nil]); first | done | rfl | (simp only [List.length_drop, List.length_take]; rfl)) ?_; (with_reducible refine (laws_toChart.calls k a0_0 a0_1 _ _ l0_2 t119 t120 t121 _ ?side1 ?side2 A16.out).mono ?_); (case side1 => exact Kd.C_below HR0_2.out (by repeat (first | (with_reducible first | exact HB.out | apply below_alloc | apply pw_below_drewN | apply below_drew1 | refine below_set ?_ GE101.out | refine below_set ?_ GE118.out) | exact HB.out))); (case side2 => exact HC0_2.out); rintro e w33 ⟨v122, rfl, ho0, hb⟩; refine ⟨_, rfl, ?_⟩; have n0_ := Aside0.mk (Kd.R_elder' (by exact Ho.RS <| (Kd.R_mono (Kd.R_far (p := ⟨gb118, 3, none⟩) (Kd.R_far (p := ⟨gb118, 2, none⟩) (Kd.R_far (p := ⟨gb118, 1, none⟩) (Kd.R_far (p := ⟨gb118, 0, none⟩) (Kd.R_types HO108.out BK118.out (by decide)) (fun _ hk => hk.2) (.int .i64 t112)) (fun _ hk => hk.2) (.int .i64 t113)) (fun _ hk => hk.2) (.int .i64 t114)) (fun _ hk => hk.2) (.int .i64 t115)) (fun _ h_ => h_.1))) (Kd.R_base ho0) hb); have n1_ := Aside0.mk (Kd.R_below (by exact Ho.RS <| (Kd.R_mono (Kd.R_far (p := ⟨gb118, 3, none⟩) (Kd.R_far (p := ⟨gb118, 2, none⟩) (Kd.R_far (p := ⟨gb118, 1, none⟩) (Kd.R_far (p := ⟨gb118, 0, none⟩) (Kd.R_mono HO111.out (fun k_ hk => (⟨hk, hk.2⟩ : _ ∧ k_ ≠ gb118))) (fun _ hk => hk.2) (.int .i64 t112)) (fun _ hk => hk.2) (.int .i64 t113)) (fun _ hk => hk.2) (.int .i64 t114)) (fun _ hk => hk.2) (.int .i64 t115)) (fun _ h_ => h_.1))) hb); have n2_ := Aside0.mk (Kd.R_lower (Kd.R_new' ho0 (Kd.R_lt (by exact Ho.RS <| (Kd.R_mono (Kd.R_far (p := ⟨gb118, 3, none⟩) (Kd.R_far (p := ⟨gb118, 2, none⟩) (Kd.R_far (p := ⟨gb118, 1, none⟩) (Kd.R_far (p := ⟨gb118, 0, none⟩) (Kd.R_types HO108.out BK118.out (by decide)) (fun _ hk => hk.2) (.int .i64 t112)) (fun _ hk => hk.2) (.int .i64 t113)) (fun _ hk => hk.2) (.int .i64 t114)) (fun _ hk => hk.2) (.int .i64 t115)) (fun _ h_ => h_.1))))) (below_size (by repeat (first | (with_reducible first | exact HB.out | apply below_alloc | apply pw_below_drewN | apply below_drew1 | refine below_set ?_ GE101.out | refine below_set ?_ GE118.out) | exact HB.out)))); have n3_ := Aside0.mk (blk_below (g := gb101) (o := .cells #[.int .i64 a0_0, .int .i64 a0_1, .slice A0_2 l0_2.length c0_2] 24 (0, 0)) (by (with_reducible repeat (first | refine blk_drewN ?_ _ | refine blk_drew ?_ | refine blk_alloc ?_ _)); refine blk_far ?_ NB101_118.out _; (with_reducible repeat (first | refine blk_drewN ?_ _ | refine blk_drew ?_ | refine blk_alloc ?_ _)); refine blk_far ?_ NB101_118.out _; (with_reducible repeat (first | refine blk_drewN ?_ _ | refine blk_drew ?_ | refine blk_alloc ?_ _)); refine blk_far ?_ NB101_118.out _; (with_reducible repeat (first | refine blk_drewN ?_ _ | refine blk_drew ?_ | refine blk_alloc ?_ _)); refine blk_far ?_ NB101_118.out _; exact bS BK101.out) hb); have n4_ := Aside0.mk (blk_below (g := gb118) (o := .cells #[.int .i64 t112, .int .i64 t113, .int .i64 t114, .int .i64 t115] 39 (0, 0)) (by (with_reducible repeat (first | refine blk_drewN ?_ _ | refine blk_drew ?_ | refine blk_alloc ?_ _)); refine blk_put (cs := #[.int .i64 t112, .int .i64 t113, .int .i64 t114, .int .i64 0]) ?_ 3 _ rfl; (with_reducible repeat (first | refine blk_drewN ?_ _ | refine blk_drew ?_ | refine blk_alloc ?_ _)); refine blk_put (cs := #[.int .i64 t112, .int .i64 t113, .int .i64 0, .int .i64 0]) ?_ 2 _ rfl; (with_reducible repeat (first | refine blk_drewN ?_ _ | refine blk_drew ?_ | refine blk_alloc ?_ _)); refine blk_put (cs := #[.int .i64 t112, .int .i64 0, .int .i64 0, .int .i64 0]) ?_ 1 _ rfl; (with_reducible repeat (first | refine blk_drewN ?_ _ | refine blk_drew ?_ | refine blk_alloc ?_ _)); refine blk_put (cs := #[.int .i64 0, .int .i64 0, .int .i64 0, .int .i64 0]) ?_ 0 _ rfl; exact bS BK118.out) hb); have n5_ := Aside0.mk (below_step (by repeat (first | (with_reducible first | exact HB.out | apply below_alloc | apply pw_below_drewN | apply below_drew1 | refine below_set ?_ GE101.out | refine below_set ?_ GE118.out) | exact HB.out)) hb); clear HO108; clear HO111; clear BK101; clear BK118; clear HB; have HO108 := n0_; have HO111 := n1_; have HO123 := n2_; have BK101 := n3_; have BK118 := n4_; have HB := n5_; clear n0_ n1_ n2_ n3_ n4_ n5_; (try clear hb); (try clear hb2); (try clear hk); (try clear hi); (try clear ho0)) | ((with_reducible refine gate_dst (N := 9) rfl ?_); refine box_event ?hg (N := 9) ?hd (cs := #[.int .i64 0, .int .i64 0, .slice none 0 0]) (t := 29) ?hr ?_; (case hd => rfl); (case hg => rfl); (case hr => first | (go_simp; done) | (go_simp; rfl)); intro gb124 hg w34 hbox hb; have n0_ := Aside0.mk (Kd.R_below (by exact Ho.RS <| HO108.out) hb); have n1_ := Aside0.mk (Kd.R_below (by exact Ho.RS <| HO111.out) hb); have n2_ := Aside0.mk (Kd.R_below (by exact Ho.RS <| HO123.out) hb); have n3_ := Aside0.mk (blk_below (bS BK101.out) hb); have n4_ := Aside0.mk (blk_below (bS BK118.out) hb); have n5_ := Aside0.mk (below_step (by exact eS HB.out) hb); have n6_ := Aside0.mk (hbox); have n7_ := Aside0.mk ((by rw [hg]; exact (below_size (by exact eS HB.out)) : w.heap.size ≤ gb124)); have n8_ := Aside0.mk ((by rw [hg]; exact (below_size (by exact eS HB.out)) : w.heap.size ≤ gb124)); have n9_ := Aside0.mk ((by rw [hg]; exact Nat.ne_of_lt (blk_lt (bS BK101.out)) : gb101 ≠ gb124)); have n10_ := Aside0.mk ((by rw [hg]; exact Nat.ne_of_gt (blk_lt (bS BK101.out)) : gb124 ≠ gb101)); have n11_ := Aside0.mk ((by rw [hg]; exact Nat.ne_of_lt (blk_lt (bS BK118.out)) : gb118 ≠ gb124)); have n12_ := Aside0.mk ((by rw [hg]; exact Nat.ne_of_gt (blk_lt (bS BK118.out)) : gb124 ≠ gb118)); clear HO108; clear HO111; clear HO123; clear BK101; clear BK118; clear HB; have HO108 := n0_; have HO111 := n1_; have HO123 := n2_; have BK101 := n3_; have BK118 := n4_; have HB := n5_; have BK124 := n6_; have GW124 := n7_; have GE124 := n8_; have NB101_124 := n9_; have NB124_101 := n10_; have NB118_124 := n11_; have NB124_118 := n12_; clear n0_ n1_ n2_ n3_ n4_ n5_ n6_ n7_ n8_ n9_ n10_ n11_ n12_; clear hb hbox hg; have hnb35 := NB124_101.out; have hnc35 := NB101_124.out; have hnb36 := NB124_118.out; have hnc36 := NB118_124.out; have hcz37_0 : w34.cell? ⟨gb124, 0, none⟩ = some (.int .i64 0) := (blk_cell BK124.out 0).trans rfl; have hcz37_1 : w34.cell? ⟨gb124, 1, none⟩ = some (.int .i64 0) := (blk_cell BK124.out 1).trans rfl; have hcz37_2 : w34.cell? ⟨gb124, 2, none⟩ = some (.slice none 0 0) := (blk_cell BK124.out 2).trans rfl; have hfz37_0 := blk_frozen BK124.out 0; have hfz37_1 := blk_frozen BK124.out 1; have hfz37_2 := blk_frozen BK124.out 2; obtain ⟨Ao38, co38, eo38⟩ := Kd.R_slice HO123.out; subst eo38) | ((with_reducible refine gate_callee (f := 14) rfl ?_); refine goesL_ (some 36) rfl rfl Try.func14 (by kernel_rfl) rfl #[.slice A1 l1.length c1] rfl (by (try simp only [List.map_toArray, List.map_cons, List.map_nil]); first | done | rfl | (simp only [List.length_drop, List.length_take]; rfl)) ?_; (with_reducible refine (laws_toHoleS.calls k _ _ l1 t125 _ ?side1 ?side2 A17.out).mono ?_); (case side1 => exact Kd.C_below HR1.out (by repeat (first | (with_reducible first | exact HB.out | apply below_alloc | apply pw_below_drewN | apply below_drew1 | refine below_set ?_ GE101.out | refine below_set ?_ GE118.out | refine below_set ?_ GE124.out) | exact HB.out))); (case side2 => exact HC1.out); rintro e w39 ⟨v126, rfl, ho0, hb⟩; refine ⟨_, rfl, ?_⟩; have n0_ := Aside0.mk (Kd.R_below (by exact Ho.RS <| (Kd.R_mono (Kd.R_far (p := ⟨gb124, 2, none⟩) (Kd.R_far (p := ⟨gb124, 1, none⟩) (Kd.R_far (p := ⟨gb124, 0, none⟩) (Kd.R_types HO108.out BK124.out (by decide)) (fun _ hk => hk.2) (.int .i64 t119)) (fun _ hk => hk.2) (.int .i64 t120)) (fun _ hk => hk.2) (.slice Ao38 t121.length co38)) (fun _ h_ => h_.1))) hb); have n1_ := Aside0.mk (Kd.R_elder' (by exact Ho.RS <| (Kd.R_mono (Kd.R_far (p := ⟨gb124, 2, none⟩) (Kd.R_far (p := ⟨gb124, 1, none⟩) (Kd.R_far (p := ⟨gb124, 0, none⟩) (Kd.R_types HO111.out BK124.out (by decide)) (fun _ hk => hk.2) (.int .i64 t119)) (fun _ hk => hk.2) (.int .i64 t120)) (fun _ hk => hk.2) (.slice Ao38 t121.length co38)) (fun _ h_ => h_.1))) (Kd.R_base ho0) hb); have n2_ := Aside0.mk (Kd.R_below (by exact Ho.RS <| (Kd.R_mono (Kd.R_far (p := ⟨gb124, 2, none⟩) (Kd.R_far (p := ⟨gb124, 1, none⟩) (Kd.R_far (p := ⟨gb124, 0, none⟩) (Kd.R_types HO123.out BK124.out (by decide)) (fun _ hk => hk.2) (.int .i64 t119)) (fun _ hk => hk.2) (.int .i64 t120)) (fun _ hk => hk.2) (.slice Ao38 t121.length co38)) (fun _ h_ => h_.1))) hb); have n3_ := Aside0.mk (Kd.R_lower (Kd.R_newB (Kd.R_new' ho0 (Kd.R_lt (by exact Ho.RS <| (Kd.R_mono (Kd.R_far (p := ⟨gb124, 2, none⟩) (Kd.R_far (p := ⟨gb124, 1, none⟩) (Kd.R_far (p := ⟨gb124, 0, none⟩) (Kd.R_types HO111.out BK124.out (by decide)) (fun _ hk => hk.2) (.int .i64 t119)) (fun _ hk => hk.2) (.int .i64 t120)) (fun _ hk => hk.2) (.slice Ao38 t121.length co38)) (fun _ h_ => h_.1))))) (g := gb118) (o := .cells #[.int .i64 t112, .int .i64 t113, .int .i64 t114, .int .i64 t115] 39 (0, 0)) (by (with_reducible repeat (first | refine blk_drewN ?_ _ | refine blk_drew ?_ | refine blk_alloc ?_ _)); refine blk_far ?_ NB118_124.out _; (with_reducible repeat (first | refine blk_drewN ?_ _ | refine blk_drew ?_ | refine blk_alloc ?_ _)); refine blk_far ?_ NB118_124.out _; (with_reducible repeat (first | refine blk_drewN ?_ _ | refine blk_drew ?_ | refine blk_alloc ?_ _)); refine blk_far ?_ NB118_124.out _; exact bS BK118.out)) (below_size (by repeat (first | (with_reducible first | exact HB.out | apply below_alloc | apply pw_below_drewN | apply below_drew1 | refine below_set ?_ GE101.out | refine below_set ?_ GE118.out | refine below_set ?_ GE124.out) | exact HB.out)))); have n4_ := Aside0.mk (blk_below (g := gb101) (o := .cells #[.int .i64 a0_0, .int .i64 a0_1, .slice A0_2 l0_2.length c0_2] 24 (0, 0)) (by (with_reducible repeat (first | refine blk_drewN ?_ _ | refine blk_drew ?_ | refine blk_alloc ?_ _)); refine blk_far ?_ NB101_124.out _; (with_reducible repeat (first | refine blk_drewN ?_ _ | refine blk_drew ?_ | refine blk_alloc ?_ _)); refine blk_far ?_ NB101_124.out _; (with_reducible repeat (first | refine blk_drewN ?_ _ | refine blk_drew ?_ | refine blk_alloc ?_ _)); refine blk_far ?_ NB101_124.out _; exact bS BK101.out) hb); have n5_ := Aside0.mk (blk_below (g := gb118) (o := .cells #[.int .i64 t112, .int .i64 t113, .int .i64 t114, .int .i64 t115] 39 (0, 0)) (by (with_reducible repeat (first | refine blk_drewN ?_ _ | refine blk_drew ?_ | refine blk_alloc ?_ _)); refine blk_far ?_ NB118_124.out _; (with_reducible repeat (first | refine blk_drewN ?_ _ | refine blk_drew ?_ | refine blk_alloc ?_ _)); refine blk_far ?_ NB118_124.out _; (with_reducible repeat (first | refine blk_drewN ?_ _ | refine blk_drew ?_ | refine blk_alloc ?_ _)); refine blk_far ?_ NB118_124.out _; exact bS BK118.out) hb); have n6_ := Aside0.mk (blk_below (g := gb124) (o := .cells #[.int .i64 t119, .int .i64 t120, .slice Ao38 t121.length co38] 29 (0, 0)) (by (with_reducible repeat (first | refine blk_drewN ?_ _ | refine blk_drew ?_ | refine blk_alloc ?_ _)); refine blk_put (cs := #[.int .i64 t119, .int .i64 t120, .slice none 0 0]) ?_ 2 _ rfl; (with_reducible repeat (first | refine blk_drewN ?_ _ | refine blk_drew ?_ | refine blk_alloc ?_ _)); refine blk_put (cs := #[.int .i64 t119, .int .i64 0, .slice none 0 0]) ?_ 1 _ rfl; (with_reducible repeat (first | refine blk_drewN ?_ _ | refine blk_drew ?_ | refine blk_alloc ?_ _)); refine blk_put (cs := #[.int .i64 0, .int .i64 0, .slice none 0 0]) ?_ 0 _ rfl; exact bS BK124.out) hb); have n7_ := Aside0.mk (below_step (by repeat (first | (with_reducible first | exact HB.out | apply below_alloc | apply pw_below_drewN | apply below_drew1 | refine below_set ?_ GE101.out | refine below_set ?_ GE118.out | refine below_set ?_ GE124.out) | exact HB.out)) hb); clear HO108; clear HO111; clear HO123; clear BK101; clear BK118; clear BK124; clear HB; have HO108 := n0_; have HO111 := n1_; have HO123 := n2_; have HO127 := n3_; have BK101 := n4_; have BK118 := n5_; have BK124 := n6_; have HB := n7_; clear n0_ n1_ n2_ n3_ n4_ n5_ n6_ n7_; (try clear hb); (try clear hb2); (try clear hk); (try clear hi); (try clear ho0); have hcz40_0 : w39.cell? ⟨gb124, 0, none⟩ = some (.int .i64 t119) := (blk_cell BK124.out 0).trans rfl; have hcz40_1 : w39.cell? ⟨gb124, 1, none⟩ = some (.int .i64 t120) := (blk_cell BK124.out 1).trans rfl; have hcz40_2 : w39.cell? ⟨gb124, 2, none⟩ = some (.slice Ao38 t121.length co38) := (blk_cell BK124.out 2).trans rfl; have hfz40_0 := blk_frozen BK124.out 0; have hfz40_1 := blk_frozen BK124.out 1; have hfz40_2 := blk_frozen BK124.out 2; obtain ⟨Ao41, co41, eo41⟩ := Kd.R_slice HO127.out; subst eo41) | ((with_reducible refine gate_callee (f := 24) rfl ?_); refine goesL_ (some 40) rfl rfl Try.func24 (by kernel_rfl) rfl #[.agg #[.int .i64 t119, .int .i64 t120, .slice Ao38 t121.length co38], .slice Ao41 t125.length co41] rfl (by (try simp only [List.map_toArray, List.map_cons, List.map_nil]); first | done | rfl | (simp only [List.length_drop, List.length_take]; rfl)) ?_; (with_reducible refine (impl_LargestWhole.calls k t119 t120 _ _ t121 _ _ t125 t128 t129 t130 t131 t132 t133 _ ?side1 ?side2 ?side3 ?side4 A18.out).mono ?_); (case side1 => repeat (first | exact (Kd.R_reads' HO123.out).2.2 | (with_reducible refine Kd.C_alloc ?_ _) | (with_reducible refine Kd.C_drewN ?_ _) | (with_reducible refine Kd.C_drew ?_))); (case side2 => exact (Kd.R_reads' HO123.out).2.1); (case side3 => repeat (first | exact (Kd.R_reads' HO127.out).2.2 | (with_reducible refine Kd.C_alloc ?_ _) | (with_reducible refine Kd.C_drewN ?_ _) | (with_reducible refine Kd.C_drew ?_))); (case side4 => exact (Kd.R_reads' HO127.out).2.1); rintro e w42 ⟨rfl, hb⟩; refine ⟨_, rfl, ?_⟩; have n0_ := Aside0.mk (Kd.R_below (by exact Ho.RS <| HO108.out) hb); have n1_ := Aside0.mk (Kd.R_below (by exact Ho.RS <| HO111.out) hb); have n2_ := Aside0.mk (Kd.R_below (by exact Ho.RS <| HO123.out) hb); have n3_ := Aside0.mk (Kd.R_below (by exact Ho.RS <| HO127.out) hb); have n4_ := Aside0.mk (blk_below (bS BK101.out) hb); have n5_ := Aside0.mk (blk_below (bS BK118.out) hb); have n6_ := Aside0.mk (blk_below (bS BK124.out) hb); have n7_ := Aside0.mk (below_step (by exact eS HB.out) hb); clear HO108; clear HO111; clear HO123; clear HO127; clear BK101; clear BK118; clear BK124; clear HB; have HO108 := n0_; have HO111 := n1_; have HO123 := n2_; have HO127 := n3_; have BK101 := n4_; have BK118 := n5_; have BK124 := n6_; have HB := n7_; clear n0_ n1_ n2_ n3_ n4_ n5_ n6_ n7_; (try clear hb); (try clear hb2); (try clear hk); (try clear hi)) | ((with_reducible refine gate_dst (N := 11) rfl ?_); refine box_event ?hg (N := 11) ?hd (cs := #[.int .i64 0, .int .i64 0, .int .i64 0, .int .i64 0]) (t := 39) ?hr ?_; (case hd => rfl); (case hg => rfl); (case hr => first | (go_simp; done) | (go_simp; rfl)); intro gb134 hg w43 hbox hb; have n0_ := Aside0.mk (Kd.R_below (by exact Ho.RS <| HO108.out) hb); have n1_ := Aside0.mk (Kd.R_below (Kd.R_elderB (by exact Ho.RS <| HO111.out) gb134 (Nat.le_of_eq hg.symm)) hb); have n2_ := Aside0.mk (Kd.R_below (by exact Ho.RS <| HO123.out) hb); have n3_ := Aside0.mk (Kd.R_below (Kd.R_elderB (by exact Ho.RS <| HO127.out) gb134 (Nat.le_of_eq hg.symm)) hb); have n4_ := Aside0.mk (blk_below (bS BK101.out) hb); have n5_ := Aside0.mk (blk_below (bS BK118.out) hb); have n6_ := Aside0.mk (blk_below (bS BK124.out) hb); have n7_ := Aside0.mk (below_step (by exact eS HB.out) hb); have n8_ := Aside0.mk (hbox); have n9_ := Aside0.mk ((by rw [hg]; exact (below_size (by exact eS HB.out)) : w.heap.size ≤ gb134)); have n10_ := Aside0.mk ((by rw [hg]; exact (below_size (by exact eS HB.out)) : w.heap.size ≤ gb134)); have n11_ := Aside0.mk ((by rw [hg]; exact Nat.ne_of_lt (blk_lt (bS BK101.out)) : gb101 ≠ gb134)); have n12_ := Aside0.mk ((by rw [hg]; exact Nat.ne_of_gt (blk_lt (bS BK101.out)) : gb134 ≠ gb101)); have n13_ := Aside0.mk ((by rw [hg]; exact Nat.ne_of_lt (blk_lt (bS BK118.out)) : gb118 ≠ gb134)); have n14_ := Aside0.mk ((by rw [hg]; exact Nat.ne_of_gt (blk_lt (bS BK118.out)) : gb134 ≠ gb118)); have n15_ := Aside0.mk ((by rw [hg]; exact Nat.ne_of_lt (blk_lt (bS BK124.out)) : gb124 ≠ gb134)); have n16_ := Aside0.mk ((by rw [hg]; exact Nat.ne_of_gt (blk_lt (bS BK124.out)) : gb134 ≠ gb124)); clear HO108; clear HO111; clear HO123; clear HO127; clear BK101; clear BK118; clear BK124; clear HB; have HO108 := n0_; have HO111 := n1_; have HO123 := n2_; have HO127 := n3_; have BK101 := n4_; have BK118 := n5_; have BK124 := n6_; have HB := n7_; have BK134 := n8_; have GW134 := n9_; have GE134 := n10_; have NB101_134 := n11_; have NB134_101 := n12_; have NB118_134 := n13_; have NB134_118 := n14_; have NB124_134 := n15_; have NB134_124 := n16_; clear n0_ n1_ n2_ n3_ n4_ n5_ n6_ n7_ n8_ n9_ n10_ n11_ n12_ n13_ n14_ n15_ n16_; clear hb hbox hg; have hnb44 := NB134_101.out; have hnc44 := NB101_134.out; have hnb45 := NB134_118.out; have hnc45 := NB118_134.out; have hnb46 := NB134_124.out; have hnc46 := NB124_134.out; have hcz47_0 : w43.cell? ⟨gb134, 0, none⟩ = some (.int .i64 0) := (blk_cell BK134.out 0).trans rfl; have hcz47_1 : w43.cell? ⟨gb134, 1, none⟩ = some (.int .i64 0) := (blk_cell BK134.out 1).trans rfl; have hcz47_2 : w43.cell? ⟨gb134, 2, none⟩ = some (.int .i64 0) := (blk_cell BK134.out 2).trans rfl; have hcz47_3 : w43.cell? ⟨gb134, 3, none⟩ = some (.int .i64 0) := (blk_cell BK134.out 3).trans rfl; have hfz47_0 := blk_frozen BK134.out 0; have hfz47_1 := blk_frozen BK134.out 1; have hfz47_2 := blk_frozen BK134.out 2; have hfz47_3 := blk_frozen BK134.out 3))
   (try simp only [Act.put, List.setIfInBounds_toArray, List.set_cons_zero, List.set_cons_succ])
   go_cut [57] (fun v57 wc => ∃ (kq : Nat) (x57_18 : Bool), v57 = .bool x57_18 ∧ Aside0 (laws_FnExactLargestWhole.j0 kq l1 t125 x57_18 a0_0 a0_1 l0_2 t119 t120 t121 = some r) ∧ Aside0 (kq ≤ k) ∧ Aside0 (Kd.R k39 39 wc w.heap.size (fun k_ => k_ ≠ gb118 ∧ k_ ≠ gb134) (.slice Ao41 t125.length co41) t125) ∧ Aside0 (Kd.R (Kd.int .i64) 3 wc w.heap.size (fun _ => True) (.slice Ao38 t121.length co38) t121) ∧ Aside0 (wc.heap[gb101]? = some (.cells #[.int .i64 a0_0, .int .i64 a0_1, (.slice A0_2 l0_2.length c0_2)] 24 (0, 0))) ∧ Aside0 (wc.heap[gb118]? = some (.cells #[.int .i64 t112, .int .i64 t113, .int .i64 t114, .int .i64 t115] 39 (0, 0))) ∧ Aside0 (wc.heap[gb124]? = some (.cells #[.int .i64 t119, .int .i64 t120, (.slice Ao38 t121.length co38)] 29 (0, 0))) ∧ Aside0 (wc.heap[gb134]? = some (.cells #[.int .i64 t128, .int .i64 t129, .int .i64 t130, .int .i64 t131] 39 (0, 0))) ∧ Aside0 (Below w.heap.size w wc))
   case first =>
    have H := HC19.out
    clear HC19
    replace H := Option.bind_eq_some_iff.mp H
    obtain ⟨t135, A480, H⟩ := H
    replace H : (if t135 = true then (if t132 = t116 then (laws_FnExactLargestWhole.j0 k l1 t125 (t133 != t117) a0_0 a0_1 l0_2 t119 t120 t121) else (laws_FnExactLargestWhole.j0 k l1 t125 true a0_0 a0_1 l0_2 t119 t120 t121)) else (laws_FnExactLargestWhole.j0 k l1 t125 true a0_0 a0_1 l0_2 t119 t120 t121)) = some r := H
    have A48 := Aside0.mk A480
    clear A480
    by_cases c49 : t135 = true
    ·subst c49
     have H1 : (if t132 = t116 then (laws_FnExactLargestWhole.j0 k l1 t125 (t133 != t117) a0_0 a0_1 l0_2 t119 t120 t121) else (laws_FnExactLargestWhole.j0 k l1 t125 true a0_0 a0_1 l0_2 t119 t120 t121)) = some r := by rw [if_pos rfl] at H; exact H
     clear H
     have H := H1
     clear H1
     by_cases c50 : t132 = t116
     ·rw [if_pos c50] at H
      have c50b0 : (t132 == t116) = true := beq_iff_eq.mpr c50
      have c50b1 : (t132 != t116) = false := bne_eq_false_iff_eq.mpr c50
      clear c50
      (first | rw [c50b0] | (simp only [i64_w, i32_w]; rw [c50b0]) | skip)
      have H' := Aside0.mk H
      clear H
      have hnb51 := NB134_101.out
      have hnc51 := NB101_134.out
      have hnb52 := NB134_118.out
      have hnc52 := NB118_134.out
      have hnb53 := NB134_124.out
      have hnc53 := NB124_134.out
      have hcz54_0 : w43.cell? ⟨gb134, 0, none⟩ = some (.int .i64 0) := (blk_cell BK134.out 0).trans rfl
      have hcz54_1 : w43.cell? ⟨gb134, 1, none⟩ = some (.int .i64 0) := (blk_cell BK134.out 1).trans rfl
      have hcz54_2 : w43.cell? ⟨gb134, 2, none⟩ = some (.int .i64 0) := (blk_cell BK134.out 2).trans rfl
      have hcz54_3 : w43.cell? ⟨gb134, 3, none⟩ = some (.int .i64 0) := (blk_cell BK134.out 3).trans rfl
      have hfz54_0 := blk_frozen BK134.out 0
      have hfz54_1 := blk_frozen BK134.out 1
      have hfz54_2 := blk_frozen BK134.out 2
      have hfz54_3 := blk_frozen BK134.out 3
      have hnb55 := NB118_101.out
      have hnc55 := NB101_118.out
      have hnb56 := NB118_124.out
      have hnc56 := NB124_118.out
      have hcz57_0 : w43.cell? ⟨gb118, 0, none⟩ = some (.int .i64 t112) := (blk_cell BK118.out 0).trans rfl
      have hcz57_1 : w43.cell? ⟨gb118, 1, none⟩ = some (.int .i64 t113) := (blk_cell BK118.out 1).trans rfl
      have hcz57_2 : w43.cell? ⟨gb118, 2, none⟩ = some (.int .i64 t114) := (blk_cell BK118.out 2).trans rfl
      have hcz57_3 : w43.cell? ⟨gb118, 3, none⟩ = some (.int .i64 t115) := (blk_cell BK118.out 3).trans rfl
      have hfz57_0 := blk_frozen BK118.out 0
      have hfz57_1 := blk_frozen BK118.out 1
      have hfz57_2 := blk_frozen BK118.out 2
      have hfz57_3 := blk_frozen BK118.out 3
      go_wp2_with (first | ((with_reducible refine gate_callee (f := 22) rfl ?_); refine goesL_ (some 46) rfl rfl Try.func22 (by kernel_rfl) rfl #[.agg #[.int .i64 t128, .int .i64 t129, .int .i64 t130, .int .i64 t131], .agg #[.int .i64 t112, .int .i64 t113, .int .i64 t114, .int .i64 t115]] rfl (by (try simp only [List.map_toArray, List.map_cons, List.map_nil]); first | done | rfl | (simp only [List.length_drop, List.length_take]; rfl)) ?_; (with_reducible refine (laws_eqHole.calls t128 t129 t130 t131 t112 t113 t114 t115 true _ A48.out).mono ?_); rintro e w58 ⟨rfl, hb⟩; refine ⟨_, rfl, ?_⟩; have n0_ := Aside0.mk (Kd.R_below (by exact Ho.RS <| (Kd.R_mono (Kd.R_far (p := ⟨gb134, 3, none⟩) (Kd.R_far (p := ⟨gb134, 2, none⟩) (Kd.R_far (p := ⟨gb134, 1, none⟩) (Kd.R_far (p := ⟨gb134, 0, none⟩) (Kd.R_types HO108.out BK134.out (by decide)) (fun _ hk => hk.2) (.int .i64 t128)) (fun _ hk => hk.2) (.int .i64 t129)) (fun _ hk => hk.2) (.int .i64 t130)) (fun _ hk => hk.2) (.int .i64 t131)) (fun _ h_ => h_.1))) hb); have n1_ := Aside0.mk (Kd.R_below (by exact Ho.RS <| (Kd.R_mono (Kd.R_far (p := ⟨gb134, 3, none⟩) (Kd.R_far (p := ⟨gb134, 2, none⟩) (Kd.R_far (p := ⟨gb134, 1, none⟩) (Kd.R_far (p := ⟨gb134, 0, none⟩) (Kd.R_mono HO111.out (fun k_ hk => (⟨hk, hk.2⟩ : _ ∧ k_ ≠ gb134))) (fun _ hk => hk.2) (.int .i64 t128)) (fun _ hk => hk.2) (.int .i64 t129)) (fun _ hk => hk.2) (.int .i64 t130)) (fun _ hk => hk.2) (.int .i64 t131)) (fun _ h_ => h_.1))) hb); have n2_ := Aside0.mk (Kd.R_below (by exact Ho.RS <| (Kd.R_mono (Kd.R_far (p := ⟨gb134, 3, none⟩) (Kd.R_far (p := ⟨gb134, 2, none⟩) (Kd.R_far (p := ⟨gb134, 1, none⟩) (Kd.R_far (p := ⟨gb134, 0, none⟩) (Kd.R_types HO123.out BK134.out (by decide)) (fun _ hk => hk.2) (.int .i64 t128)) (fun _ hk => hk.2) (.int .i64 t129)) (fun _ hk => hk.2) (.int .i64 t130)) (fun _ hk => hk.2) (.int .i64 t131)) (fun _ h_ => h_.1))) hb); have n3_ := Aside0.mk (Kd.R_below (by exact Ho.RS <| (Kd.R_mono (Kd.R_far (p := ⟨gb134, 3, none⟩) (Kd.R_far (p := ⟨gb134, 2, none⟩) (Kd.R_far (p := ⟨gb134, 1, none⟩) (Kd.R_far (p := ⟨gb134, 0, none⟩) (Kd.R_mono HO127.out (fun k_ hk => (⟨hk, hk.2⟩ : _ ∧ k_ ≠ gb134))) (fun _ hk => hk.2) (.int .i64 t128)) (fun _ hk => hk.2) (.int .i64 t129)) (fun _ hk => hk.2) (.int .i64 t130)) (fun _ hk => hk.2) (.int .i64 t131)) (fun _ h_ => h_.1))) hb); have n4_ := Aside0.mk (blk_below (g := gb101) (o := .cells #[.int .i64 a0_0, .int .i64 a0_1, .slice A0_2 l0_2.length c0_2] 24 (0, 0)) (by (with_reducible repeat (first | refine blk_drewN ?_ _ | refine blk_drew ?_ | refine blk_alloc ?_ _)); refine blk_far ?_ NB101_134.out _; (with_reducible repeat (first | refine blk_drewN ?_ _ | refine blk_drew ?_ | refine blk_alloc ?_ _)); refine blk_far ?_ NB101_134.out _; (with_reducible repeat (first | refine blk_drewN ?_ _ | refine blk_drew ?_ | refine blk_alloc ?_ _)); refine blk_far ?_ NB101_134.out _; (with_reducible repeat (first | refine blk_drewN ?_ _ | refine blk_drew ?_ | refine blk_alloc ?_ _)); refine blk_far ?_ NB101_134.out _; exact bS BK101.out) hb); have n5_ := Aside0.mk (blk_below (g := gb118) (o := .cells #[.int .i64 t112, .int .i64 t113, .int .i64 t114, .int .i64 t115] 39 (0, 0)) (by (with_reducible repeat (first | refine blk_drewN ?_ _ | refine blk_drew ?_ | refine blk_alloc ?_ _)); refine blk_far ?_ NB118_134.out _; (with_reducible repeat (first | refine blk_drewN ?_ _ | refine blk_drew ?_ | refine blk_alloc ?_ _)); refine blk_far ?_ NB118_134.out _; (with_reducible repeat (first | refine blk_drewN ?_ _ | refine blk_drew ?_ | refine blk_alloc ?_ _)); refine blk_far ?_ NB118_134.out _; (with_reducible repeat (first | refine blk_drewN ?_ _ | refine blk_drew ?_ | refine blk_alloc ?_ _)); refine blk_far ?_ NB118_134.out _; exact bS BK118.out) hb); have n6_ := Aside0.mk (blk_below (g := gb124) (o := .cells #[.int .i64 t119, .int .i64 t120, .slice Ao38 t121.length co38] 29 (0, 0)) (by (with_reducible repeat (first | refine blk_drewN ?_ _ | refine blk_drew ?_ | refine blk_alloc ?_ _)); refine blk_far ?_ NB124_134.out _; (with_reducible repeat (first | refine blk_drewN ?_ _ | refine blk_drew ?_ | refine blk_alloc ?_ _)); refine blk_far ?_ NB124_134.out _; (with_reducible repeat (first | refine blk_drewN ?_ _ | refine blk_drew ?_ | refine blk_alloc ?_ _)); refine blk_far ?_ NB124_134.out _; (with_reducible repeat (first | refine blk_drewN ?_ _ | refine blk_drew ?_ | refine blk_alloc ?_ _)); refine blk_far ?_ NB124_134.out _; exact bS BK124.out) hb); have n7_ := Aside0.mk (blk_below (g := gb134) (o := .cells #[.int .i64 t128, .int .i64 t129, .int .i64 t130, .int .i64 t131] 39 (0, 0)) (by (with_reducible repeat (first | refine blk_drewN ?_ _ | refine blk_drew ?_ | refine blk_alloc ?_ _)); refine blk_put (cs := #[.int .i64 t128, .int .i64 t129, .int .i64 t130, .int .i64 0]) ?_ 3 _ rfl; (with_reducible repeat (first | refine blk_drewN ?_ _ | refine blk_drew ?_ | refine blk_alloc ?_ _)); refine blk_put (cs := #[.int .i64 t128, .int .i64 t129, .int .i64 0, .int .i64 0]) ?_ 2 _ rfl; (with_reducible repeat (first | refine blk_drewN ?_ _ | refine blk_drew ?_ | refine blk_alloc ?_ _)); refine blk_put (cs := #[.int .i64 t128, .int .i64 0, .int .i64 0, .int .i64 0]) ?_ 1 _ rfl; (with_reducible repeat (first | refine blk_drewN ?_ _ | refine blk_drew ?_ | refine blk_alloc ?_ _)); refine blk_put (cs := #[.int .i64 0, .int .i64 0, .int .i64 0, .int .i64 0]) ?_ 0 _ rfl; exact bS BK134.out) hb); have n8_ := Aside0.mk (below_step (by repeat (first | (with_reducible first | exact HB.out | apply below_alloc | apply pw_below_drewN | apply below_drew1 | refine below_set ?_ GE101.out | refine below_set ?_ GE118.out | refine below_set ?_ GE124.out | refine below_set ?_ GE134.out) | exact HB.out)) hb); clear HO108; clear HO111; clear HO123; clear HO127; clear BK101; clear BK118; clear BK124; clear BK134; clear HB; have HO108 := n0_; have HO111 := n1_; have HO123 := n2_; have HO127 := n3_; have BK101 := n4_; have BK118 := n5_; have BK124 := n6_; have BK134 := n7_; have HB := n8_; clear n0_ n1_ n2_ n3_ n4_ n5_ n6_ n7_ n8_; (try clear hb); (try clear hb2); (try clear hk); (try clear hi)))
      go_meet
      case rel => exact ⟨_, ((t133 != t117)), (by first | rfl | (simp; done) | (simp [*]; done)), H', ⟨by first | omega | exact Nat.le_refl _⟩, ⟨by exact Ho.RS <| Kd.R_mono HO127.out (fun _ hk => ⟨hk.1.2, hk.2⟩)⟩, ⟨by exact Ho.RS <| Kd.R_mono HO123.out (fun _ hk => trivial)⟩, ⟨by exact bS BK101.out⟩, ⟨by exact bS BK118.out⟩, ⟨by exact bS BK124.out⟩, ⟨by exact bS BK134.out⟩, ⟨by exact eS HB.out⟩⟩
     ·rw [if_neg c50] at H
      have c50b0 : (t132 == t116) = false := beq_eq_false_iff_ne.mpr c50
      have c50b1 : (t132 != t116) = true := bne_iff_ne.mpr c50
      (first | rw [c50b0] | (simp only [i64_w, i32_w]; rw [c50b0]) | skip)
      have H' := Aside0.mk H
      clear H
      have hnb59 := NB134_101.out
      have hnc59 := NB101_134.out
      have hnb60 := NB134_118.out
      have hnc60 := NB118_134.out
      have hnb61 := NB134_124.out
      have hnc61 := NB124_134.out
      have hcz62_0 : w43.cell? ⟨gb134, 0, none⟩ = some (.int .i64 0) := (blk_cell BK134.out 0).trans rfl
      have hcz62_1 : w43.cell? ⟨gb134, 1, none⟩ = some (.int .i64 0) := (blk_cell BK134.out 1).trans rfl
      have hcz62_2 : w43.cell? ⟨gb134, 2, none⟩ = some (.int .i64 0) := (blk_cell BK134.out 2).trans rfl
      have hcz62_3 : w43.cell? ⟨gb134, 3, none⟩ = some (.int .i64 0) := (blk_cell BK134.out 3).trans rfl
      have hfz62_0 := blk_frozen BK134.out 0
      have hfz62_1 := blk_frozen BK134.out 1
      have hfz62_2 := blk_frozen BK134.out 2
      have hfz62_3 := blk_frozen BK134.out 3
      have hnb63 := NB118_101.out
      have hnc63 := NB101_118.out
      have hnb64 := NB118_124.out
      have hnc64 := NB124_118.out
      have hcz65_0 : w43.cell? ⟨gb118, 0, none⟩ = some (.int .i64 t112) := (blk_cell BK118.out 0).trans rfl
      have hcz65_1 : w43.cell? ⟨gb118, 1, none⟩ = some (.int .i64 t113) := (blk_cell BK118.out 1).trans rfl
      have hcz65_2 : w43.cell? ⟨gb118, 2, none⟩ = some (.int .i64 t114) := (blk_cell BK118.out 2).trans rfl
      have hcz65_3 : w43.cell? ⟨gb118, 3, none⟩ = some (.int .i64 t115) := (blk_cell BK118.out 3).trans rfl
      have hfz65_0 := blk_frozen BK118.out 0
      have hfz65_1 := blk_frozen BK118.out 1
      have hfz65_2 := blk_frozen BK118.out 2
      have hfz65_3 := blk_frozen BK118.out 3
      go_wp2_with (first | ((with_reducible refine gate_callee (f := 22) rfl ?_); refine goesL_ (some 46) rfl rfl Try.func22 (by kernel_rfl) rfl #[.agg #[.int .i64 t128, .int .i64 t129, .int .i64 t130, .int .i64 t131], .agg #[.int .i64 t112, .int .i64 t113, .int .i64 t114, .int .i64 t115]] rfl (by (try simp only [List.map_toArray, List.map_cons, List.map_nil]); first | done | rfl | (simp only [List.length_drop, List.length_take]; rfl)) ?_; (with_reducible refine (laws_eqHole.calls t128 t129 t130 t131 t112 t113 t114 t115 true _ A48.out).mono ?_); rintro e w66 ⟨rfl, hb⟩; refine ⟨_, rfl, ?_⟩; have n0_ := Aside0.mk (Kd.R_below (by exact Ho.RS <| (Kd.R_mono (Kd.R_far (p := ⟨gb134, 3, none⟩) (Kd.R_far (p := ⟨gb134, 2, none⟩) (Kd.R_far (p := ⟨gb134, 1, none⟩) (Kd.R_far (p := ⟨gb134, 0, none⟩) (Kd.R_types HO108.out BK134.out (by decide)) (fun _ hk => hk.2) (.int .i64 t128)) (fun _ hk => hk.2) (.int .i64 t129)) (fun _ hk => hk.2) (.int .i64 t130)) (fun _ hk => hk.2) (.int .i64 t131)) (fun _ h_ => h_.1))) hb); have n1_ := Aside0.mk (Kd.R_below (by exact Ho.RS <| (Kd.R_mono (Kd.R_far (p := ⟨gb134, 3, none⟩) (Kd.R_far (p := ⟨gb134, 2, none⟩) (Kd.R_far (p := ⟨gb134, 1, none⟩) (Kd.R_far (p := ⟨gb134, 0, none⟩) (Kd.R_mono HO111.out (fun k_ hk => (⟨hk, hk.2⟩ : _ ∧ k_ ≠ gb134))) (fun _ hk => hk.2) (.int .i64 t128)) (fun _ hk => hk.2) (.int .i64 t129)) (fun _ hk => hk.2) (.int .i64 t130)) (fun _ hk => hk.2) (.int .i64 t131)) (fun _ h_ => h_.1))) hb); have n2_ := Aside0.mk (Kd.R_below (by exact Ho.RS <| (Kd.R_mono (Kd.R_far (p := ⟨gb134, 3, none⟩) (Kd.R_far (p := ⟨gb134, 2, none⟩) (Kd.R_far (p := ⟨gb134, 1, none⟩) (Kd.R_far (p := ⟨gb134, 0, none⟩) (Kd.R_types HO123.out BK134.out (by decide)) (fun _ hk => hk.2) (.int .i64 t128)) (fun _ hk => hk.2) (.int .i64 t129)) (fun _ hk => hk.2) (.int .i64 t130)) (fun _ hk => hk.2) (.int .i64 t131)) (fun _ h_ => h_.1))) hb); have n3_ := Aside0.mk (Kd.R_below (by exact Ho.RS <| (Kd.R_mono (Kd.R_far (p := ⟨gb134, 3, none⟩) (Kd.R_far (p := ⟨gb134, 2, none⟩) (Kd.R_far (p := ⟨gb134, 1, none⟩) (Kd.R_far (p := ⟨gb134, 0, none⟩) (Kd.R_mono HO127.out (fun k_ hk => (⟨hk, hk.2⟩ : _ ∧ k_ ≠ gb134))) (fun _ hk => hk.2) (.int .i64 t128)) (fun _ hk => hk.2) (.int .i64 t129)) (fun _ hk => hk.2) (.int .i64 t130)) (fun _ hk => hk.2) (.int .i64 t131)) (fun _ h_ => h_.1))) hb); have n4_ := Aside0.mk (blk_below (g := gb101) (o := .cells #[.int .i64 a0_0, .int .i64 a0_1, .slice A0_2 l0_2.length c0_2] 24 (0, 0)) (by (with_reducible repeat (first | refine blk_drewN ?_ _ | refine blk_drew ?_ | refine blk_alloc ?_ _)); refine blk_far ?_ NB101_134.out _; (with_reducible repeat (first | refine blk_drewN ?_ _ | refine blk_drew ?_ | refine blk_alloc ?_ _)); refine blk_far ?_ NB101_134.out _; (with_reducible repeat (first | refine blk_drewN ?_ _ | refine blk_drew ?_ | refine blk_alloc ?_ _)); refine blk_far ?_ NB101_134.out _; (with_reducible repeat (first | refine blk_drewN ?_ _ | refine blk_drew ?_ | refine blk_alloc ?_ _)); refine blk_far ?_ NB101_134.out _; exact bS BK101.out) hb); have n5_ := Aside0.mk (blk_below (g := gb118) (o := .cells #[.int .i64 t112, .int .i64 t113, .int .i64 t114, .int .i64 t115] 39 (0, 0)) (by (with_reducible repeat (first | refine blk_drewN ?_ _ | refine blk_drew ?_ | refine blk_alloc ?_ _)); refine blk_far ?_ NB118_134.out _; (with_reducible repeat (first | refine blk_drewN ?_ _ | refine blk_drew ?_ | refine blk_alloc ?_ _)); refine blk_far ?_ NB118_134.out _; (with_reducible repeat (first | refine blk_drewN ?_ _ | refine blk_drew ?_ | refine blk_alloc ?_ _)); refine blk_far ?_ NB118_134.out _; (with_reducible repeat (first | refine blk_drewN ?_ _ | refine blk_drew ?_ | refine blk_alloc ?_ _)); refine blk_far ?_ NB118_134.out _; exact bS BK118.out) hb); have n6_ := Aside0.mk (blk_below (g := gb124) (o := .cells #[.int .i64 t119, .int .i64 t120, .slice Ao38 t121.length co38] 29 (0, 0)) (by (with_reducible repeat (first | refine blk_drewN ?_ _ | refine blk_drew ?_ | refine blk_alloc ?_ _)); refine blk_far ?_ NB124_134.out _; (with_reducible repeat (first | refine blk_drewN ?_ _ | refine blk_drew ?_ | refine blk_alloc ?_ _)); refine blk_far ?_ NB124_134.out _; (with_reducible repeat (first | refine blk_drewN ?_ _ | refine blk_drew ?_ | refine blk_alloc ?_ _)); refine blk_far ?_ NB124_134.out _; (with_reducible repeat (first | refine blk_drewN ?_ _ | refine blk_drew ?_ | refine blk_alloc ?_ _)); refine blk_far ?_ NB124_134.out _; exact bS BK124.out) hb); have n7_ := Aside0.mk (blk_below (g := gb134) (o := .cells #[.int .i64 t128, .int .i64 t129, .int .i64 t130, .int .i64 t131] 39 (0, 0)) (by (with_reducible repeat (first | refine blk_drewN ?_ _ | refine blk_drew ?_ | refine blk_alloc ?_ _)); refine blk_put (cs := #[.int .i64 t128, .int .i64 t129, .int .i64 t130, .int .i64 0]) ?_ 3 _ rfl; (with_reducible repeat (first | refine blk_drewN ?_ _ | refine blk_drew ?_ | refine blk_alloc ?_ _)); refine blk_put (cs := #[.int .i64 t128, .int .i64 t129, .int .i64 0, .int .i64 0]) ?_ 2 _ rfl; (with_reducible repeat (first | refine blk_drewN ?_ _ | refine blk_drew ?_ | refine blk_alloc ?_ _)); refine blk_put (cs := #[.int .i64 t128, .int .i64 0, .int .i64 0, .int .i64 0]) ?_ 1 _ rfl; (with_reducible repeat (first | refine blk_drewN ?_ _ | refine blk_drew ?_ | refine blk_alloc ?_ _)); refine blk_put (cs := #[.int .i64 0, .int .i64 0, .int .i64 0, .int .i64 0]) ?_ 0 _ rfl; exact bS BK134.out) hb); have n8_ := Aside0.mk (below_step (by repeat (first | (with_reducible first | exact HB.out | apply below_alloc | apply pw_below_drewN | apply below_drew1 | refine below_set ?_ GE101.out | refine below_set ?_ GE118.out | refine below_set ?_ GE124.out | refine below_set ?_ GE134.out) | exact HB.out)) hb); clear HO108; clear HO111; clear HO123; clear HO127; clear BK101; clear BK118; clear BK124; clear BK134; clear HB; have HO108 := n0_; have HO111 := n1_; have HO123 := n2_; have HO127 := n3_; have BK101 := n4_; have BK118 := n5_; have BK124 := n6_; have BK134 := n7_; have HB := n8_; clear n0_ n1_ n2_ n3_ n4_ n5_ n6_ n7_ n8_; (try clear hb); (try clear hb2); (try clear hk); (try clear hi)))
      go_meet
      case rel => exact ⟨_, (true), (by first | rfl | (simp; done) | (simp [*]; done)), H', ⟨by first | omega | exact Nat.le_refl _⟩, ⟨by exact Ho.RS <| Kd.R_mono HO127.out (fun _ hk => ⟨hk.1.2, hk.2⟩)⟩, ⟨by exact Ho.RS <| Kd.R_mono HO123.out (fun _ hk => trivial)⟩, ⟨by exact bS BK101.out⟩, ⟨by exact bS BK118.out⟩, ⟨by exact bS BK124.out⟩, ⟨by exact bS BK134.out⟩, ⟨by exact eS HB.out⟩⟩
    ·replace c49 := Bool.eq_false_iff.mpr c49
     subst c49
     have H1 : (laws_FnExactLargestWhole.j0 k l1 t125 true a0_0 a0_1 l0_2 t119 t120 t121) = some r := by rw [if_neg (show ¬ (false = true) by decide)] at H; exact H
     clear H
     have H := H1
     clear H1
     have H' := Aside0.mk H
     clear H
     have hnb67 := NB134_101.out
     have hnc67 := NB101_134.out
     have hnb68 := NB134_118.out
     have hnc68 := NB118_134.out
     have hnb69 := NB134_124.out
     have hnc69 := NB124_134.out
     have hcz70_0 : w43.cell? ⟨gb134, 0, none⟩ = some (.int .i64 0) := (blk_cell BK134.out 0).trans rfl
     have hcz70_1 : w43.cell? ⟨gb134, 1, none⟩ = some (.int .i64 0) := (blk_cell BK134.out 1).trans rfl
     have hcz70_2 : w43.cell? ⟨gb134, 2, none⟩ = some (.int .i64 0) := (blk_cell BK134.out 2).trans rfl
     have hcz70_3 : w43.cell? ⟨gb134, 3, none⟩ = some (.int .i64 0) := (blk_cell BK134.out 3).trans rfl
     have hfz70_0 := blk_frozen BK134.out 0
     have hfz70_1 := blk_frozen BK134.out 1
     have hfz70_2 := blk_frozen BK134.out 2
     have hfz70_3 := blk_frozen BK134.out 3
     have hnb71 := NB118_101.out
     have hnc71 := NB101_118.out
     have hnb72 := NB118_124.out
     have hnc72 := NB124_118.out
     have hcz73_0 : w43.cell? ⟨gb118, 0, none⟩ = some (.int .i64 t112) := (blk_cell BK118.out 0).trans rfl
     have hcz73_1 : w43.cell? ⟨gb118, 1, none⟩ = some (.int .i64 t113) := (blk_cell BK118.out 1).trans rfl
     have hcz73_2 : w43.cell? ⟨gb118, 2, none⟩ = some (.int .i64 t114) := (blk_cell BK118.out 2).trans rfl
     have hcz73_3 : w43.cell? ⟨gb118, 3, none⟩ = some (.int .i64 t115) := (blk_cell BK118.out 3).trans rfl
     have hfz73_0 := blk_frozen BK118.out 0
     have hfz73_1 := blk_frozen BK118.out 1
     have hfz73_2 := blk_frozen BK118.out 2
     have hfz73_3 := blk_frozen BK118.out 3
     go_wp2_with (first | ((with_reducible refine gate_callee (f := 22) rfl ?_); refine goesL_ (some 46) rfl rfl Try.func22 (by kernel_rfl) rfl #[.agg #[.int .i64 t128, .int .i64 t129, .int .i64 t130, .int .i64 t131], .agg #[.int .i64 t112, .int .i64 t113, .int .i64 t114, .int .i64 t115]] rfl (by (try simp only [List.map_toArray, List.map_cons, List.map_nil]); first | done | rfl | (simp only [List.length_drop, List.length_take]; rfl)) ?_; (with_reducible refine (laws_eqHole.calls t128 t129 t130 t131 t112 t113 t114 t115 false _ A48.out).mono ?_); rintro e w74 ⟨rfl, hb⟩; refine ⟨_, rfl, ?_⟩; have n0_ := Aside0.mk (Kd.R_below (by exact Ho.RS <| (Kd.R_mono (Kd.R_far (p := ⟨gb134, 3, none⟩) (Kd.R_far (p := ⟨gb134, 2, none⟩) (Kd.R_far (p := ⟨gb134, 1, none⟩) (Kd.R_far (p := ⟨gb134, 0, none⟩) (Kd.R_types HO108.out BK134.out (by decide)) (fun _ hk => hk.2) (.int .i64 t128)) (fun _ hk => hk.2) (.int .i64 t129)) (fun _ hk => hk.2) (.int .i64 t130)) (fun _ hk => hk.2) (.int .i64 t131)) (fun _ h_ => h_.1))) hb); have n1_ := Aside0.mk (Kd.R_below (by exact Ho.RS <| (Kd.R_mono (Kd.R_far (p := ⟨gb134, 3, none⟩) (Kd.R_far (p := ⟨gb134, 2, none⟩) (Kd.R_far (p := ⟨gb134, 1, none⟩) (Kd.R_far (p := ⟨gb134, 0, none⟩) (Kd.R_mono HO111.out (fun k_ hk => (⟨hk, hk.2⟩ : _ ∧ k_ ≠ gb134))) (fun _ hk => hk.2) (.int .i64 t128)) (fun _ hk => hk.2) (.int .i64 t129)) (fun _ hk => hk.2) (.int .i64 t130)) (fun _ hk => hk.2) (.int .i64 t131)) (fun _ h_ => h_.1))) hb); have n2_ := Aside0.mk (Kd.R_below (by exact Ho.RS <| (Kd.R_mono (Kd.R_far (p := ⟨gb134, 3, none⟩) (Kd.R_far (p := ⟨gb134, 2, none⟩) (Kd.R_far (p := ⟨gb134, 1, none⟩) (Kd.R_far (p := ⟨gb134, 0, none⟩) (Kd.R_types HO123.out BK134.out (by decide)) (fun _ hk => hk.2) (.int .i64 t128)) (fun _ hk => hk.2) (.int .i64 t129)) (fun _ hk => hk.2) (.int .i64 t130)) (fun _ hk => hk.2) (.int .i64 t131)) (fun _ h_ => h_.1))) hb); have n3_ := Aside0.mk (Kd.R_below (by exact Ho.RS <| (Kd.R_mono (Kd.R_far (p := ⟨gb134, 3, none⟩) (Kd.R_far (p := ⟨gb134, 2, none⟩) (Kd.R_far (p := ⟨gb134, 1, none⟩) (Kd.R_far (p := ⟨gb134, 0, none⟩) (Kd.R_mono HO127.out (fun k_ hk => (⟨hk, hk.2⟩ : _ ∧ k_ ≠ gb134))) (fun _ hk => hk.2) (.int .i64 t128)) (fun _ hk => hk.2) (.int .i64 t129)) (fun _ hk => hk.2) (.int .i64 t130)) (fun _ hk => hk.2) (.int .i64 t131)) (fun _ h_ => h_.1))) hb); have n4_ := Aside0.mk (blk_below (g := gb101) (o := .cells #[.int .i64 a0_0, .int .i64 a0_1, .slice A0_2 l0_2.length c0_2] 24 (0, 0)) (by (with_reducible repeat (first | refine blk_drewN ?_ _ | refine blk_drew ?_ | refine blk_alloc ?_ _)); refine blk_far ?_ NB101_134.out _; (with_reducible repeat (first | refine blk_drewN ?_ _ | refine blk_drew ?_ | refine blk_alloc ?_ _)); refine blk_far ?_ NB101_134.out _; (with_reducible repeat (first | refine blk_drewN ?_ _ | refine blk_drew ?_ | refine blk_alloc ?_ _)); refine blk_far ?_ NB101_134.out _; (with_reducible repeat (first | refine blk_drewN ?_ _ | refine blk_drew ?_ | refine blk_alloc ?_ _)); refine blk_far ?_ NB101_134.out _; exact bS BK101.out) hb); have n5_ := Aside0.mk (blk_below (g := gb118) (o := .cells #[.int .i64 t112, .int .i64 t113, .int .i64 t114, .int .i64 t115] 39 (0, 0)) (by (with_reducible repeat (first | refine blk_drewN ?_ _ | refine blk_drew ?_ | refine blk_alloc ?_ _)); refine blk_far ?_ NB118_134.out _; (with_reducible repeat (first | refine blk_drewN ?_ _ | refine blk_drew ?_ | refine blk_alloc ?_ _)); refine blk_far ?_ NB118_134.out _; (with_reducible repeat (first | refine blk_drewN ?_ _ | refine blk_drew ?_ | refine blk_alloc ?_ _)); refine blk_far ?_ NB118_134.out _; (with_reducible repeat (first | refine blk_drewN ?_ _ | refine blk_drew ?_ | refine blk_alloc ?_ _)); refine blk_far ?_ NB118_134.out _; exact bS BK118.out) hb); have n6_ := Aside0.mk (blk_below (g := gb124) (o := .cells #[.int .i64 t119, .int .i64 t120, .slice Ao38 t121.length co38] 29 (0, 0)) (by (with_reducible repeat (first | refine blk_drewN ?_ _ | refine blk_drew ?_ | refine blk_alloc ?_ _)); refine blk_far ?_ NB124_134.out _; (with_reducible repeat (first | refine blk_drewN ?_ _ | refine blk_drew ?_ | refine blk_alloc ?_ _)); refine blk_far ?_ NB124_134.out _; (with_reducible repeat (first | refine blk_drewN ?_ _ | refine blk_drew ?_ | refine blk_alloc ?_ _)); refine blk_far ?_ NB124_134.out _; (with_reducible repeat (first | refine blk_drewN ?_ _ | refine blk_drew ?_ | refine blk_alloc ?_ _)); refine blk_far ?_ NB124_134.out _; exact bS BK124.out) hb); have n7_ := Aside0.mk (blk_below (g := gb134) (o := .cells #[.int .i64 t128, .int .i64 t129, .int .i64 t130, .int .i64 t131] 39 (0, 0)) (by (with_reducible repeat (first | refine blk_drewN ?_ _ | refine blk_drew ?_ | refine blk_alloc ?_ _)); refine blk_put (cs := #[.int .i64 t128, .int .i64 t129, .int .i64 t130, .int .i64 0]) ?_ 3 _ rfl; (with_reducible repeat (first | refine blk_drewN ?_ _ | refine blk_drew ?_ | refine blk_alloc ?_ _)); refine blk_put (cs := #[.int .i64 t128, .int .i64 t129, .int .i64 0, .int .i64 0]) ?_ 2 _ rfl; (with_reducible repeat (first | refine blk_drewN ?_ _ | refine blk_drew ?_ | refine blk_alloc ?_ _)); refine blk_put (cs := #[.int .i64 t128, .int .i64 0, .int .i64 0, .int .i64 0]) ?_ 1 _ rfl; (with_reducible repeat (first | refine blk_drewN ?_ _ | refine blk_drew ?_ | refine blk_alloc ?_ _)); refine blk_put (cs := #[.int .i64 0, .int .i64 0, .int .i64 0, .int .i64 0]) ?_ 0 _ rfl; exact bS BK134.out) hb); have n8_ := Aside0.mk (below_step (by repeat (first | (with_reducible first | exact HB.out | apply below_alloc | apply pw_below_drewN | apply below_drew1 | refine below_set ?_ GE101.out | refine below_set ?_ GE118.out | refine below_set ?_ GE124.out | refine below_set ?_ GE134.out) | exact HB.out)) hb); clear HO108; clear HO111; clear HO123; clear HO127; clear BK101; clear BK118; clear BK124; clear BK134; clear HB; have HO108 := n0_; have HO111 := n1_; have HO123 := n2_; have HO127 := n3_; have BK101 := n4_; have BK118 := n5_; have BK124 := n6_; have BK134 := n7_; have HB := n8_; clear n0_ n1_ n2_ n3_ n4_ n5_ n6_ n7_ n8_; (try clear hb); (try clear hb2); (try clear hk); (try clear hi)))
     go_meet
     case rel => exact ⟨_, (true), (by first | rfl | (simp; done) | (simp [*]; done)), H', ⟨by first | omega | exact Nat.le_refl _⟩, ⟨by exact Ho.RS <| Kd.R_mono HO127.out (fun _ hk => ⟨hk.1.2, hk.2⟩)⟩, ⟨by exact Ho.RS <| Kd.R_mono HO123.out (fun _ hk => trivial)⟩, ⟨by exact bS BK101.out⟩, ⟨by exact bS BK118.out⟩, ⟨by exact bS BK124.out⟩, ⟨by exact bS BK134.out⟩, ⟨by exact eS HB.out⟩⟩
   case rest =>
    clear HC19
    try clear c1
    try clear c2
    try clear p2
    try clear c3
    try clear c4
    try clear c4b0
    try clear c5
    try clear c6
    try clear c7
    try clear c9
    try clear c9b0
    try clear c10
    try clear c11
    try clear c13
    try clear c14
    try clear c22
    try clear c23
    try clear c24
    try clear c30
    try clear c35
    try clear c36
    try clear c44
    try clear c45
    try clear c46
    try clear c49
    try clear c50
    try clear c50b0
    try clear c50b1
    try clear c51
    try clear c52
    try clear c53
    try clear c55
    try clear c56
    try clear c59
    try clear c60
    try clear c61
    try clear c63
    try clear c64
    try clear c67
    try clear c68
    try clear c69
    try clear c71
    try clear c72
    try clear hcz11_0
    try clear hcz11_1
    try clear hcz11_2
    try clear hcz21_0
    try clear hcz21_1
    try clear hcz21_2
    try clear hcz23_0
    try clear hcz23_1
    try clear hcz23_2
    try clear hcz31_0
    try clear hcz31_1
    try clear hcz31_2
    try clear hcz31_3
    try clear hcz32_0
    try clear hcz32_1
    try clear hcz32_2
    try clear hcz37_0
    try clear hcz37_1
    try clear hcz37_2
    try clear hcz40_0
    try clear hcz40_1
    try clear hcz40_2
    try clear hcz47_0
    try clear hcz47_1
    try clear hcz47_2
    try clear hcz47_3
    try clear hcz54_0
    try clear hcz54_1
    try clear hcz54_2
    try clear hcz54_3
    try clear hcz57_0
    try clear hcz57_1
    try clear hcz57_2
    try clear hcz57_3
    try clear hcz62_0
    try clear hcz62_1
    try clear hcz62_2
    try clear hcz62_3
    try clear hcz65_0
    try clear hcz65_1
    try clear hcz65_2
    try clear hcz65_3
    try clear hcz6_0
    try clear hcz6_1
    try clear hcz6_2
    try clear hcz70_0
    try clear hcz70_1
    try clear hcz70_2
    try clear hcz70_3
    try clear hcz73_0
    try clear hcz73_1
    try clear hcz73_2
    try clear hcz73_3
    try clear hfz11_0
    try clear hfz11_1
    try clear hfz11_2
    try clear hfz21_0
    try clear hfz21_1
    try clear hfz21_2
    try clear hfz23_0
    try clear hfz23_1
    try clear hfz23_2
    try clear hfz31_0
    try clear hfz31_1
    try clear hfz31_2
    try clear hfz31_3
    try clear hfz32_0
    try clear hfz32_1
    try clear hfz32_2
    try clear hfz37_0
    try clear hfz37_1
    try clear hfz37_2
    try clear hfz40_0
    try clear hfz40_1
    try clear hfz40_2
    try clear hfz47_0
    try clear hfz47_1
    try clear hfz47_2
    try clear hfz47_3
    try clear hfz54_0
    try clear hfz54_1
    try clear hfz54_2
    try clear hfz54_3
    try clear hfz57_0
    try clear hfz57_1
    try clear hfz57_2
    try clear hfz57_3
    try clear hfz62_0
    try clear hfz62_1
    try clear hfz62_2
    try clear hfz62_3
    try clear hfz65_0
    try clear hfz65_1
    try clear hfz65_2
    try clear hfz65_3
    try clear hfz6_0
    try clear hfz6_1
    try clear hfz6_2
    try clear hfz70_0
    try clear hfz70_1
    try clear hfz70_2
    try clear hfz70_3
    try clear hfz73_0
    try clear hfz73_1
    try clear hfz73_2
    try clear hfz73_3
    obtain ⟨kq, x57_18, rfl, HA, HJ18, HO_10, HO_125002, BK101, BK118, BK124, BK134, HB⟩ := hcut
    cases kq with
    | zero => exact absurd HA.out (by simp [laws_FnExactLargestWhole.j0])
    | succ kj18 =>
     have H := HA.out
     clear HA
     simp only [laws_FnExactLargestWhole.j0] at H
     by_cases c75 : x57_18 = true
     ·subst c75
      have H1 : (some false) = some r := by rw [if_pos rfl] at H; exact H
      clear H
      have H := H1
      clear H1
      exact absurd ((Option.some.inj H).trans HT.out) (by decide)
     ·replace c75 := Bool.eq_false_iff.mpr c75
      subst c75
      have H1 : ((laws_toChart.f kj18 a0_0 a0_1 l0_2).bind fun bt136 => ((laws_eqChart.f kj18 t119 t120 t121 bt136.1 bt136.2.1 bt136.2.2).bind fun t141 => (if t141 = true then ((laws_toHoleS.f kj18 l1).bind fun t142 => ((laws_eqHoleS.f kj18 t125 t142).bind fun t145 => (if t145 = true then (some true) else (some false)))) else (some false)))) = some r := by rw [if_neg (show ¬ (false = true) by decide)] at H; exact H
      clear H
      have H := H1
      clear H1
      replace H := Option.bind_eq_some_iff.mp H
      obtain ⟨⟨t136, t137, t138⟩, A760, H⟩ := H
      replace H : ((laws_eqChart.f kj18 t119 t120 t121 t136 t137 t138).bind fun t141 => (if t141 = true then ((laws_toHoleS.f kj18 l1).bind fun t142 => ((laws_eqHoleS.f kj18 t125 t142).bind fun t145 => (if t145 = true then (some true) else (some false)))) else (some false))) = some r := H
      have A76 := Aside0.mk A760
      clear A760
      replace H := Option.bind_eq_some_iff.mp H
      obtain ⟨t141, A770, H⟩ := H
      replace H : (if t141 = true then ((laws_toHoleS.f kj18 l1).bind fun t142 => ((laws_eqHoleS.f kj18 t125 t142).bind fun t145 => (if t145 = true then (some true) else (some false)))) else (some false)) = some r := H
      have A77 := Aside0.mk A770
      clear A770
      by_cases c78 : t141 = true
      ·subst c78
       have H1 : ((laws_toHoleS.f kj18 l1).bind fun t142 => ((laws_eqHoleS.f kj18 t125 t142).bind fun t145 => (if t145 = true then (some true) else (some false)))) = some r := by rw [if_pos rfl] at H; exact H
       clear H
       have H := H1
       clear H1
       replace H := Option.bind_eq_some_iff.mp H
       obtain ⟨t142, A790, H⟩ := H
       replace H : ((laws_eqHoleS.f kj18 t125 t142).bind fun t145 => (if t145 = true then (some true) else (some false))) = some r := H
       have A79 := Aside0.mk A790
       clear A790
       replace H := Option.bind_eq_some_iff.mp H
       obtain ⟨t145, A800, H⟩ := H
       replace H : (if t145 = true then (some true) else (some false)) = some r := H
       have A80 := Aside0.mk A800
       clear A800
       by_cases c81 : t145 = true
       ·subst c81
        have H1 : (some true) = some r := by rw [if_pos rfl] at H; exact H
        clear H
        have H := H1
        clear H1
        obtain rfl := Option.some.inj H
        try go_wp2
        have n0_ := Aside0.mk (Kd.R_drew HO_10.out)
        have n1_ := Aside0.mk (Kd.R_drew HO_125002.out)
        have n2_ := Aside0.mk (blk_drew BK101.out)
        have n3_ := Aside0.mk (blk_drew BK118.out)
        have n4_ := Aside0.mk (blk_drew BK124.out)
        have n5_ := Aside0.mk (blk_drew BK134.out)
        have n6_ := Aside0.mk (below_drew1 HB.out)
        clear HO_10
        clear HO_125002
        clear BK101
        clear BK118
        clear BK124
        clear BK134
        clear HB
        have HO_10 := n0_
        have HO_125002 := n1_
        have BK101 := n2_
        have BK118 := n3_
        have BK124 := n4_
        have BK134 := n5_
        have HB := n6_
        clear n0_ n1_ n2_ n3_ n4_ n5_ n6_
        refine start_ (n := 5) (S := fun w' => w'.cell? ⟨gb124, 0, none⟩ = some (.int .i64 t119) ∧ w'.cell? ⟨gb124, 1, none⟩ = some (.int .i64 t120) ∧ w'.cell? ⟨gb124, 2, none⟩ = some (.slice Ao38 t121.length co38) ∧ w'.cell? ⟨gb101, 0, none⟩ = some (.int .i64 a0_0) ∧ w'.cell? ⟨gb101, 1, none⟩ = some (.int .i64 a0_1) ∧ w'.cell? ⟨gb101, 2, none⟩ = some (.slice A0_2 l0_2.length c0_2)) (ds := []) #[O,O,O,O,O] (by kernel_rfl) rfl rfl ⟨(blk_cell BK124.out 0).trans rfl, (blk_cell BK124.out 1).trans rfl, (blk_cell BK124.out 2).trans rfl, (blk_cell BK101.out 0).trans rfl, (blk_cell BK101.out 1).trans rfl, (blk_cell BK101.out 2).trans rfl⟩ (fun hHeld => ?_)
        generalize wc.drew = w82 at HO_10 HO_125002 BK101 BK118 BK124 BK134 HB hHeld ⊢
        refine take_ (i := 0) (N := some 58) (v := ?_) (a' := ?_) #[I,O,O,O,O] rfl rfl (by kernel_rfl) (fun _ _ _ h => h) (Or.inl ⟨by rfl, ?_⟩) hHeld ?_ ?_
        rotate_left; (rintro w' ⟨s0, s1, s2, s3, s4, s5⟩; go_simp; with_reducible rfl); rotate_left; (simp only [Z]; rfl)
        refine take_ (i := 1) (N := some 59) (v := ?_) (a' := ?_) #[I,I,O,O,O] rfl rfl (by kernel_rfl) (fun _ _ _ h => h) (Or.inl ⟨by rfl, ?_⟩) hHeld ?_ ?_
        rotate_left; (rintro w' ⟨s0, s1, s2, s3, s4, s5⟩; go_simp; with_reducible rfl); rotate_left; (simp only [Z]; rfl)
        refine one_ (i := 2) (N := some 60) #[I,I,I,O,O] rfl rfl (by kernel_rfl) (by decide) (fun K hK => ?_)
        refine goes_ Try.func13 (by kernel_rfl) rfl #[.agg #[.int .i64 a0_0, .int .i64 a0_1, .slice A0_2 l0_2.length c0_2]] (by rfl) rfl rfl (by (try simp only [List.map_toArray, List.map_cons, List.map_nil]); first | done | rfl | (simp only [List.length_drop, List.length_take]; rfl)) ?_
        with_reducible refine (laws_toChart.calls kj18 a0_0 a0_1 _ _ l0_2 t136 t137 t138 _ ?side1 ?side2 A76.out).mono ?_
        (case side1 => repeat (first | exact (Kd.C_below HR0_2.out HB.out) | (with_reducible refine Kd.C_alloc ?_ _) | (with_reducible refine Kd.C_drewN ?_ _) | (with_reducible refine Kd.C_drew ?_)))
        (case side2 => exact HC0_2.out)
        rintro e w83 ⟨v139, rfl, ho0, hb⟩
        refine ⟨_, rfl, ?_⟩
        have n0_ := Aside0.mk (Kd.R_below (by exact Ho.RS <| HO_10.out) hb)
        have n1_ := Aside0.mk (Kd.R_elder' (by exact Ho.RS <| HO_125002.out) (Kd.R_base ho0) hb)
        have n2_ := Aside0.mk (Kd.R_lower (Kd.R_new' ho0 (Kd.R_lt (by exact Ho.RS <| HO_125002.out))) (below_size (by exact eS HB.out)))
        have n3_ := Aside0.mk (blk_below (bS BK101.out) hb)
        have n4_ := Aside0.mk (blk_below (bS BK118.out) hb)
        have n5_ := Aside0.mk (blk_below (bS BK124.out) hb)
        have n6_ := Aside0.mk (blk_below (bS BK134.out) hb)
        have n7_ := Aside0.mk (below_step (by exact eS HB.out) hb)
        clear HO_10
        clear HO_125002
        clear BK101
        clear BK118
        clear BK124
        clear BK134
        clear HB
        have HO_10 := n0_
        have HO_125002 := n1_
        have HO140 := n2_
        have BK101 := n3_
        have BK118 := n4_
        have BK124 := n5_
        have BK134 := n6_
        have HB := n7_
        clear n0_ n1_ n2_ n3_ n4_ n5_ n6_ n7_
        (try clear hb)
        (try clear hb2)
        (try clear hk)
        (try clear hi)
        (try clear ho0)
        obtain ⟨Ao84, co84, eo84⟩ := Kd.R_slice HO140.out
        (first | subst eo84 | (injection eo84 with f1_ f2_ f3_; have f4_ := f1_.symm; have f5_ := f3_.symm; clear f1_ f2_ f3_; subst f4_; subst f5_))
        refine hK.out _ _ ⟨(blk_cell BK124.out 0).trans rfl, (blk_cell BK124.out 1).trans rfl, (blk_cell BK124.out 2).trans rfl, (blk_cell BK101.out 0).trans rfl, (blk_cell BK101.out 1).trans rfl, (blk_cell BK101.out 2).trans rfl⟩ (fun hHeld => ?_)
        clear hK K
        refine norm_ (a' := ?_) ?_ ?_
        rotate_left
        ·show Act.put _ (some 60) _ = _
         simp only [Z]
         rfl
        refine one_ (i := 3) (N := some 61) #[I,I,I,I,O] rfl rfl (by kernel_rfl) (by decide) (fun K hK => ?_)
        refine goes_ Try.func16 (by kernel_rfl) rfl #[.agg #[.int .i64 t119, .int .i64 t120, .slice Ao38 t121.length co38], .agg #[.int .i64 t136, .int .i64 t137, .slice Ao84 t138.length co84]] (by rfl) rfl rfl (by (try simp only [List.map_toArray, List.map_cons, List.map_nil]); first | done | rfl | (simp only [List.length_drop, List.length_take]; rfl)) ?_
        with_reducible refine (laws_eqChart.calls kj18 t119 t120 _ _ t121 t136 t137 _ _ t138 true _ ?side1 ?side2 ?side3 ?side4 A77.out).mono ?_
        (case side1 => repeat (first | exact (Kd.R_reads' HO_125002.out).2.2 | (with_reducible refine Kd.C_alloc ?_ _) | (with_reducible refine Kd.C_drewN ?_ _) | (with_reducible refine Kd.C_drew ?_)))
        (case side2 => exact (Kd.R_reads' HO_125002.out).2.1)
        (case side3 => repeat (first | exact (Kd.R_reads' HO140.out).2.2 | (with_reducible refine Kd.C_alloc ?_ _) | (with_reducible refine Kd.C_drewN ?_ _) | (with_reducible refine Kd.C_drew ?_)))
        (case side4 => exact (Kd.R_reads' HO140.out).2.1)
        rintro e w85 ⟨rfl, hb⟩
        refine ⟨_, rfl, ?_⟩
        have n0_ := Aside0.mk (Kd.R_below (by exact Ho.RS <| HO_10.out) hb)
        have n1_ := Aside0.mk (Kd.R_below (by exact Ho.RS <| HO_125002.out) hb)
        have n2_ := Aside0.mk (Kd.R_below (by exact Ho.RS <| HO140.out) hb)
        have n3_ := Aside0.mk (blk_below (bS BK101.out) hb)
        have n4_ := Aside0.mk (blk_below (bS BK118.out) hb)
        have n5_ := Aside0.mk (blk_below (bS BK124.out) hb)
        have n6_ := Aside0.mk (blk_below (bS BK134.out) hb)
        have n7_ := Aside0.mk (below_step (by exact eS HB.out) hb)
        clear HO_10
        clear HO_125002
        clear HO140
        clear BK101
        clear BK118
        clear BK124
        clear BK134
        clear HB
        have HO_10 := n0_
        have HO_125002 := n1_
        have HO140 := n2_
        have BK101 := n3_
        have BK118 := n4_
        have BK124 := n5_
        have BK134 := n6_
        have HB := n7_
        clear n0_ n1_ n2_ n3_ n4_ n5_ n6_ n7_
        (try clear hb)
        (try clear hb2)
        (try clear hk)
        (try clear hi)
        refine hK.out _ _ ⟨(blk_cell BK124.out 0).trans rfl, (blk_cell BK124.out 1).trans rfl, (blk_cell BK124.out 2).trans rfl, (blk_cell BK101.out 0).trans rfl, (blk_cell BK101.out 1).trans rfl, (blk_cell BK101.out 2).trans rfl⟩ (fun hHeld => ?_)
        clear hK K
        refine norm_ (a' := ?_) ?_ ?_
        rotate_left
        ·show Act.put _ (some 61) _ = _
         simp only [Z]
         rfl
        refine pure_ (i := 4) (N := some 62) (v := ?_) (a' := ?_) #[I,I,I,I,I] rfl rfl (by kernel_rfl) (fun _ _ _ h => h) (Or.inl ⟨by rfl, ?_⟩) ?_ ?_
        rotate_left; (intro w'; go_simp; with_reducible rfl); rotate_left; (simp only [Z]; rfl)
        refine done_ (by kernel_rfl) ?_
        try go_wp2_with (first | ((with_reducible refine gate_callee (f := 14) rfl ?_); refine goesL_ (some 65) rfl rfl Try.func14 (by kernel_rfl) rfl #[.slice A1 l1.length c1] rfl (by (try simp only [List.map_toArray, List.map_cons, List.map_nil]); first | done | rfl | (simp only [List.length_drop, List.length_take]; rfl)) ?_; (with_reducible refine (laws_toHoleS.calls kj18 _ _ l1 t142 _ ?side1 ?side2 A79.out).mono ?_); (case side1 => repeat (first | exact (Kd.C_below HR1.out HB.out) | (with_reducible refine Kd.C_alloc ?_ _) | (with_reducible refine Kd.C_drewN ?_ _) | (with_reducible refine Kd.C_drew ?_))); (case side2 => exact HC1.out); rintro e w86 ⟨v143, rfl, ho0, hb⟩; refine ⟨_, rfl, ?_⟩; have n0_ := Aside0.mk (Kd.R_elder' (by exact Ho.RS <| HO_10.out) (Kd.R_base ho0) hb); have n1_ := Aside0.mk (Kd.R_below (by exact Ho.RS <| HO_125002.out) hb); have n2_ := Aside0.mk (Kd.R_below (by exact Ho.RS <| HO140.out) hb); have n3_ := Aside0.mk (Kd.R_lower (Kd.R_newB (Kd.R_newB (Kd.R_new' ho0 (Kd.R_lt (by exact Ho.RS <| HO_10.out))) (bS BK118.out)) (bS BK134.out)) (below_size (by exact eS HB.out))); have n4_ := Aside0.mk (blk_below (bS BK101.out) hb); have n5_ := Aside0.mk (blk_below (bS BK118.out) hb); have n6_ := Aside0.mk (blk_below (bS BK124.out) hb); have n7_ := Aside0.mk (blk_below (bS BK134.out) hb); have n8_ := Aside0.mk (below_step (by exact eS HB.out) hb); clear HO_10; clear HO_125002; clear HO140; clear BK101; clear BK118; clear BK124; clear BK134; clear HB; have HO_10 := n0_; have HO_125002 := n1_; have HO140 := n2_; have HO144 := n3_; have BK101 := n4_; have BK118 := n5_; have BK124 := n6_; have BK134 := n7_; have HB := n8_; clear n0_ n1_ n2_ n3_ n4_ n5_ n6_ n7_ n8_; (try clear hb); (try clear hb2); (try clear hk); (try clear hi); (try clear ho0); obtain ⟨Ao87, co87, eo87⟩ := Kd.R_slice HO144.out; subst eo87) | ((with_reducible refine gate_callee (f := 17) rfl ?_); refine goesL_ (some 66) rfl rfl Try.func17 (by kernel_rfl) rfl #[.slice Ao41 t125.length co41, .slice Ao87 t142.length co87] rfl (by (try simp only [List.map_toArray, List.map_cons, List.map_nil]); first | done | rfl | (simp only [List.length_drop, List.length_take]; rfl)) ?_; (with_reducible refine (laws_eqHoleS.calls kj18 _ _ t125 _ _ t142 true _ ?side1 ?side2 ?side3 ?side4 A80.out).mono ?_); (case side1 => repeat (first | exact (Kd.R_reads' HO_10.out).2.2 | (with_reducible refine Kd.C_alloc ?_ _) | (with_reducible refine Kd.C_drewN ?_ _) | (with_reducible refine Kd.C_drew ?_))); (case side2 => exact (Kd.R_reads' HO_10.out).2.1); (case side3 => repeat (first | exact (Kd.R_reads' HO144.out).2.2 | (with_reducible refine Kd.C_alloc ?_ _) | (with_reducible refine Kd.C_drewN ?_ _) | (with_reducible refine Kd.C_drew ?_))); (case side4 => exact (Kd.R_reads' HO144.out).2.1); rintro e w88 ⟨rfl, hb⟩; refine ⟨_, rfl, ?_⟩; have n0_ := Aside0.mk (Kd.R_below (by exact Ho.RS <| HO_10.out) hb); have n1_ := Aside0.mk (Kd.R_below (by exact Ho.RS <| HO_125002.out) hb); have n2_ := Aside0.mk (Kd.R_below (by exact Ho.RS <| HO140.out) hb); have n3_ := Aside0.mk (Kd.R_below (by exact Ho.RS <| HO144.out) hb); have n4_ := Aside0.mk (blk_below (bS BK101.out) hb); have n5_ := Aside0.mk (blk_below (bS BK118.out) hb); have n6_ := Aside0.mk (blk_below (bS BK124.out) hb); have n7_ := Aside0.mk (blk_below (bS BK134.out) hb); have n8_ := Aside0.mk (below_step (by exact eS HB.out) hb); clear HO_10; clear HO_125002; clear HO140; clear HO144; clear BK101; clear BK118; clear BK124; clear BK134; clear HB; have HO_10 := n0_; have HO_125002 := n1_; have HO140 := n2_; have HO144 := n3_; have BK101 := n4_; have BK118 := n5_; have BK124 := n6_; have BK134 := n7_; have HB := n8_; clear n0_ n1_ n2_ n3_ n4_ n5_ n6_ n7_ n8_; (try clear hb); (try clear hb2); (try clear hk); (try clear hi)))
        go_ret
        exact ⟨by first | rfl | (simp [errW_none, errW_some] <;> rfl) | (simp [*, errW_none, errW_some] <;> rfl), by exact eS HB.out⟩
       ·replace c81 := Bool.eq_false_iff.mpr c81
        subst c81
        have H1 : (some false) = some r := by rw [if_neg (show ¬ (false = true) by decide)] at H; exact H
        clear H
        have H := H1
        clear H1
        exact absurd ((Option.some.inj H).trans HT.out) (by decide)
      ·replace c78 := Bool.eq_false_iff.mpr c78
       subst c78
       have H1 : (some false) = some r := by rw [if_neg (show ¬ (false = true) by decide)] at H; exact H
       clear H
       have H := H1
       clear H1
       exact absurd ((Option.some.inj H).trans HT.out) (by decide)

/-- THE ONE PURE STATEMENT of laws_FnExactLargestWhole: yours. -/
def laws_FnExactLargestWhole.Pure : Prop := ∀ (a0_0 : Int) (a0_1 : Int) (l0_2 : List Int) (l1 : List (S67)), (Lit.int .i64 a0_0).wf = true → (Lit.int .i64 a0_1).wf = true → (l0_2.length ≤ 9223372036854775807 ∧ ∀ y_ ∈ l0_2, (Lit.int .i64 y_).wf = true) → (l1.length ≤ 9223372036854775807 ∧ ∀ y_ ∈ l1, ok67 y_) → ∃ k, laws_FnExactLargestWhole.f k a0_0 a0_1 l0_2 l1 = some true

end Go.Proofs.Ytbfhphobnngeaaa.X

-- Qbase
namespace Go.Proofs.Ytbfhphobnngeaaa.Pure
open Go Go.RowKit Go.Proofs Go.Proofs.YtbfhphobnngeaaaW.PrintWords Go.Proofs.YtbfhphobnngeaaaW.PrintLast
set_option linter.unusedVariables false
set_option linter.unusedSimpArgs false

theorem w64 {x : Int} (h1 : -9223372036854775808 ≤ x) (h2 : x ≤ 9223372036854775807) : wrap64 x = x := by unfold wrap64; omega
theorem w64b {x : Int} (h : -9223372036854775808 ≤ x ∧ x ≤ 9223372036854775807) : wrap64 x = x := w64 h.1 h.2
theorem ite_sf (a b : Bool) : (if a = true then some b else some false) = some (a && b) := by cases a <;> rfl
theorem ite_sf2 (a b : Bool) : (if a = true then some false else some b) = some (!a && b) := by cases a <;> rfl
theorem wf_bd {x : Int} (h : (Lit.int .i64 x).wf = true) : -9223372036854775808 ≤ x ∧ x ≤ 9223372036854775807 := by
  have h1 := h
  simp [Lit.wf] at h1
  exact ⟨h1.1, h1.2⟩
/-- a product of two numbers within bounds -/
theorem mul_bd {a b A B : Int} (ha : 0 ≤ a) (hA : a ≤ A) (hb : 0 ≤ b) (hB : b ≤ B) : 0 ≤ a * b ∧ a * b ≤ A * B :=
  ⟨Int.mul_nonneg ha hb, Int.mul_le_mul hA hB hb (Int.le_trans ha hA)⟩
theorem drop_step {α : Type} {l : List α} {i : Nat} (h : i < l.length) (d : α) : l.drop i = l.getD i d :: l.drop (i + 1) := by
  rw [List.drop_eq_getElem_cons h]; congr 1; simp [List.getD_eq_getElem?_getD, List.getElem?_eq_getElem h]
theorem wstep {i : Nat} {n : Nat} (h : i < n) (hn : n ≤ 9223372036854775807) : wrap64 ((i : Int) + 1) = ((i + 1 : Nat) : Int) := by unfold wrap64; omega
theorem nat_of {i : Int} (h : 0 ≤ i) : ∃ n : Nat, i = n := ⟨i.toNat, by omega⟩
theorem succ_of {k d : Nat} (h : d < k) : ∃ m, k = m + 1 ∧ d ≤ m := ⟨k - 1, by omega, by omega⟩

end Go.Proofs.Ytbfhphobnngeaaa.Pure

-- Qloops
namespace Go.Proofs.Ytbfhphobnngeaaa.Pure
open Go Go.RowKit Go.Proofs Go.Proofs.YtbfhphobnngeaaaW.PrintWords Go.Proofs.YtbfhphobnngeaaaW.PrintLast
set_option linter.unusedVariables false
set_option linter.unusedSimpArgs false

/-- A loop that copies element by element into a new row. -/
theorem copy_loop {α β : Type} (L : Nat → List α → List β → Int → Option (List β)) (f : α → β) (d : α) (l : List α) (hb : l.length ≤ 9223372036854775806)
    (hs : ∀ k x3 (i : Nat), i < l.length → x3.length = l.length → L (k + 1) l x3 i = L k l (x3.set i (f (l.getD i d))) (wrap64 ((i : Int) + 1)))
    (he : ∀ k x3 (i : Nat), l.length ≤ i → L (k + 1) l x3 i = some x3) :
    ∀ n k (i : Nat) (x3 : List β), i + n = l.length → n < k → x3.length = l.length → x3.take i = (l.take i).map f → L k l x3 i = some (l.map f) := by
  intro n
  induction n with
  | zero =>
    intro k i x3 hi hk hl ht
    obtain ⟨k, rfl, _⟩ := succ_of hk
    rw [he k x3 i (by omega)]
    rw [List.take_of_length_le (by omega), List.take_of_length_le (by omega)] at ht
    rw [ht]
  | succ n ih =>
    intro k i x3 hi hk hl ht
    obtain ⟨k, rfl, hk⟩ := succ_of hk
    rw [hs k x3 i (by omega) hl, wstep (show i < l.length by omega) (by omega)]
    refine ih k (i + 1) _ (by omega) (by omega) (by rw [List.length_set]; exact hl) ?_
    rw [List.take_succ_eq_append_getElem (by rw [List.length_set]; omega), List.take_succ_eq_append_getElem (by omega), List.map_append, ← ht]
    congr 1
    · rw [List.take_set_of_le (Nat.le_refl _)]
    · simp [List.getD_eq_getElem?_getD, List.getElem?_eq_getElem (show i < l.length by omega)]
/-- A loop that compares a row with itself. -/
theorem refl_loop {α : Type} (L : Nat → List α → List α → Int → Option Bool) (l : List α) (hb : l.length ≤ 9223372036854775806)
    (hs : ∀ k (i : Nat), i < l.length → L (k + 1) l l i = L k l l (wrap64 ((i : Int) + 1))) (he : ∀ k (i : Nat), l.length ≤ i → L (k + 1) l l i = some true) :
    ∀ n k (i : Nat), i + n = l.length → n < k → L k l l i = some true := by
  intro n
  induction n with
  | zero =>
    intro k i hi hk
    obtain ⟨k, rfl, _⟩ := succ_of hk
    exact he k i (by omega)
  | succ n ih =>
    intro k i hi hk
    obtain ⟨k, rfl, hk⟩ := succ_of hk
    rw [hs k i (by omega), wstep (show i < l.length by omega) (by omega)]
    exact ih k (i + 1) (by omega) (by omega)
/-- A loop that asks of all elements, from i on. -/
theorem all_loop {α : Type} (L : Nat → Int → Option Bool) (q : α → Bool) (d : α) (l : List α) (e : Bool) (hb : l.length ≤ 9223372036854775806)
    (hs : ∀ k (i : Nat), i < l.length → L (k + 1) i = if q (l.getD i d) = true then L k (wrap64 ((i : Int) + 1)) else some false) (he : ∀ k (i : Nat), l.length ≤ i → L (k + 1) i = some e) :
    ∀ n k (i : Nat), i + n = l.length → n < k → L k i = some ((l.drop i).all q && e) := by
  intro n
  induction n with
  | zero =>
    intro k i hi hk
    obtain ⟨k, rfl, _⟩ := succ_of hk
    rw [he k i (by omega), List.drop_eq_nil_of_le (by omega)]; rfl
  | succ n ih =>
    intro k i hi hk
    obtain ⟨k, rfl, hk⟩ := succ_of hk
    rw [hs k i (by omega), wstep (show i < l.length by omega) (by omega), drop_step (by omega) d, List.all_cons, ih k (i + 1) (by omega) (by omega)]
    cases q (l.getD i d) <;> simp
/-- What marks leave: each element tells its own number. -/
def markM {α : Type} (g : Int → α) (c : Int) (n : Nat) (s : Int) : List α := (List.range n).map fun (j : Nat) => g (s + c * (j : Int))
theorem markM_length {α : Type} (g : Int → α) (c : Int) (n : Nat) (s : Int) : (markM g c n s).length = n := by simp [markM]
theorem markM_getD {α : Type} (g : Int → α) (c : Int) (n : Nat) (s : Int) (d : α) {i : Nat} (h : i < n) : (markM g c n s).getD i d = g (s + c * i) := by
  simp [markM, List.getD_eq_getElem?_getD, List.getElem?_map, List.getElem?_range h]
/-- A loop that marks. -/
theorem mark_loop {α : Type} (L : Nat → List α → Int → Int → Option (Int × List α)) (g : Int → α) (c : Int) (n0 : Nat) (s : Int) (hb : n0 ≤ 9223372036854775806) 
    (hs : ∀ k x (i : Nat), i < n0 → x.length = n0 → L (k + 1) x (s + c * i) i = L k (x.set i (g (s + c * i))) (s + c * ((i + 1 : Nat) : Int)) (wrap64 ((i : Int) + 1)))
    (he : ∀ k x m (i : Nat), n0 ≤ i → x.length = n0 → L (k + 1) x m i = some (m, x)) :
    ∀ n k (i : Nat) (x : List α), i + n = n0 → n < k → x.length = n0 → x.take i = (markM g c n0 s).take i → L k x (s + c * i) i = some (s + c * n0, markM g c n0 s) := by
  intro n
  induction n with
  | zero =>
    intro k i x hi hk hl ht
    obtain ⟨k, rfl, _⟩ := succ_of hk
    rw [he k x _ i (by omega) hl]
    rw [List.take_of_length_le (by omega), List.take_of_length_le (by rw [markM_length]; omega)] at ht
    rw [ht]; simp [show i = n0 by omega]
  | succ n ih =>
    intro k i x hi hk hl ht
    obtain ⟨k, rfl, hk⟩ := succ_of hk
    rw [hs k x i (by omega) hl, wstep (show i < n0 by omega) (by omega)]
    refine ih k (i + 1) _ (by omega) (by omega) (by rw [List.length_set]; exact hl) ?_
    rw [List.take_succ_eq_append_getElem (by rw [List.length_set]; omega), List.take_succ_eq_append_getElem (by rw [markM_length]; omega), ← ht]
    congr 1
    · rw [List.take_set_of_le (Nat.le_refl _)]
    · simp [markM]
/-- A loop that asks for the marks. -/
theorem held_loop {α : Type} (L : Nat → List α → Int → Int → Option Int) (g : Int → α) (c : Int) (n0 : Nat) (s : Int) (hb : n0 ≤ 9223372036854775806)
    (hs : ∀ k (i : Nat), i < n0 → L (k + 1) (markM g c n0 s) (s + c * i) i = L k (markM g c n0 s) (s + c * ((i + 1 : Nat) : Int)) (wrap64 ((i : Int) + 1)))
    (he : ∀ k m (i : Nat), n0 ≤ i → L (k + 1) (markM g c n0 s) m i = some m) :
    ∀ n k (i : Nat), i + n = n0 → n < k → L k (markM g c n0 s) (s + c * i) i = some (s + c * n0) := by
  intro n
  induction n with
  | zero =>
    intro k i hi hk
    obtain ⟨k, rfl, _⟩ := succ_of hk
    rw [he k _ i (by omega), show i = n0 by omega]
  | succ n ih =>
    intro k i hi hk
    obtain ⟨k, rfl, hk⟩ := succ_of hk
    rw [hs k i (by omega), wstep (show i < n0 by omega) (by omega)]
    exact ih k (i + 1) (by omega) (by omega)
theorem rd_nat (l : List Int) (i : Nat) : rd l (i : Int) = l.getD i 0 := by simp [rd]

end Go.Proofs.Ytbfhphobnngeaaa.Pure

-- QeqInts
namespace Go.Proofs.Ytbfhphobnngeaaa.Pure
open Go Go.RowKit Go.Proofs Go.Proofs.Ytbfhphobnngeaaa.X Go.Proofs.YtbfhphobnngeaaaW.PrintWords Go.Proofs.YtbfhphobnngeaaaW.PrintLast
set_option linter.unusedVariables false
set_option linter.unusedSimpArgs false

theorem eqIntS_refl {k : Nat} {l : List Int} (hk : l.length < k) (hl : l.length ≤ 9223372036854775806) : laws_eqIntS.f k l l = some true := by
  unfold laws_eqIntS.f
  rw [if_pos rfl]
  exact refl_loop laws_eqIntS.l0 l hl
    (fun k i h => by simp only [laws_eqIntS.l0]; rw [if_pos (by omega), if_pos (by omega), if_pos (by omega)]; simp)
    (fun k i h => by simp only [laws_eqIntS.l0]; rw [if_neg (by omega)])
    l.length k 0 (by omega) hk

end Go.Proofs.Ytbfhphobnngeaaa.Pure

-- Qinrange
namespace Go.Proofs.Ytbfhphobnngeaaa.Pure
open Go Go.RowKit Go.Proofs Go.Proofs.Ytbfhphobnngeaaa.X Go.Proofs.YtbfhphobnngeaaaW.PrintWords Go.Proofs.YtbfhphobnngeaaaW.PrintLast
set_option linter.unusedVariables false
set_option linter.unusedSimpArgs false

theorem in_eq (x a b : Int) : impl_in.f x a b = some (decide (a ≤ x ∧ x ≤ b)) := by
  unfold impl_in.f
  by_cases h1 : a ≤ x <;> simp [h1]

end Go.Proofs.Ytbfhphobnngeaaa.Pure

-- Qspecin
namespace Go.Proofs.Ytbfhphobnngeaaa.Pure
open Go Go.RowKit Go.Proofs Go.Proofs.Ytbfhphobnngeaaa.X Go.Proofs.YtbfhphobnngeaaaW.PrintWords Go.Proofs.YtbfhphobnngeaaaW.PrintLast
set_option linter.unusedVariables false
set_option linter.unusedSimpArgs false

theorem l1In_eq (x a b : Int) : spec_l1In.f x a b = some (decide (a ≤ x ∧ x ≤ b)) := by
  unfold spec_l1In.f
  by_cases h1 : a ≤ x <;> simp [h1]

end Go.Proofs.Ytbfhphobnngeaaa.Pure

-- QtoInts
namespace Go.Proofs.Ytbfhphobnngeaaa.Pure
open Go Go.RowKit Go.Proofs Go.Proofs.Ytbfhphobnngeaaa.X Go.Proofs.YtbfhphobnngeaaaW.PrintWords Go.Proofs.YtbfhphobnngeaaaW.PrintLast
set_option linter.unusedVariables false
set_option linter.unusedSimpArgs false

theorem toIntS_eq {k : Nat} {l : List Int} (hk : l.length < k) (hl : l.length ≤ 1048576) : laws_toIntS.f k l = some l := by
  unfold laws_toIntS.f
  rw [if_pos (by omega), if_pos (by simp; omega)]
  have h := copy_loop laws_toIntS.l0 (fun x => x) 0 l (by omega)
    (fun k x3 i h1 h2 => by
      simp only [laws_toIntS.l0]
      rw [if_pos (by omega), if_pos (by omega), if_pos (by omega), rd_nat]; simp)
    (fun k x3 i h1 => by simp only [laws_toIntS.l0]; rw [if_neg (by omega)])
    l.length k 0 (List.replicate l.length 0) (by omega) hk (by simp) (by simp)
  simpa using h

end Go.Proofs.Ytbfhphobnngeaaa.Pure

-- Qchart
namespace Go.Proofs.Ytbfhphobnngeaaa.Pure
open Go Go.RowKit Go.Proofs Go.Proofs.Ytbfhphobnngeaaa.X Go.Proofs.YtbfhphobnngeaaaW.PrintWords Go.Proofs.YtbfhphobnngeaaaW.PrintLast
set_option linter.unusedVariables false
set_option linter.unusedSimpArgs false

def colorB (x : Int) : Bool := decide (0 ≤ x ∧ x ≤ 5)
def sideB (x : Int) : Bool := decide (1 ≤ x ∧ x ≤ 8)
def chartB (w h : Int) (l : List Int) : Bool := sideB w && (sideB h && (decide ((l.length : Int) = w * h) && l.all colorB))
theorem side_of {x : Int} (h : sideB x = true) : 1 ≤ x ∧ x ≤ 8 := by simpa [sideB] using h
theorem side_w {w h : Int} (hw : sideB w = true) (hh : sideB h = true) : 0 ≤ w * h ∧ w * h ≤ 64 := by
  have := side_of hw; have := side_of hh
  exact mul_bd (A := 8) (B := 8) (by omega) (by omega) (by omega) (by omega)
theorem chart_of {w h : Int} {l : List Int} (hc : chartB w h l = true) : (1 ≤ w ∧ w ≤ 8) ∧ (1 ≤ h ∧ h ≤ 8) ∧ (l.length : Int) = w * h ∧ l.length ≤ 64 ∧ ∀ x ∈ l, 0 ≤ x ∧ x ≤ 5 := by
  simp only [chartB, Bool.and_eq_true, decide_eq_true_eq, List.all_eq_true] at hc
  obtain ⟨h1, h2, h3, h4⟩ := hc
  have := side_w h1 h2
  exact ⟨side_of h1, side_of h2, h3, by omega, fun x hx => by simpa [colorB] using h4 x hx⟩
theorem szIntS_eq {l : List Int} {a : Int} (hl : l.length ≤ 9223372036854775807) (ha : 0 ≤ a ∧ a ≤ 9223372036854775807) : laws_szIntS.f l a = some (if a < l.length then -1 else a - l.length) := by
  unfold laws_szIntS.f
  rw [w64 (by omega) (by omega)]
  by_cases h : a < l.length
  · rw [if_pos (by omega), if_pos h]
  · rw [if_neg (by omega), if_neg h]
theorem szChart_eq {w h a : Int} {l : List Int} (hl : l.length ≤ 9223372036854775807) (ha : 0 ≤ a ∧ a ≤ 9223372036854775807) : laws_szChart.f w h l a = some (if a < l.length then -1 else a - l.length) := by
  unfold laws_szChart.f
  rw [szIntS_eq hl ha]
  by_cases h : a < l.length
  · simp [h]
  · simp only [if_neg h, Option.bind_some]; rw [if_neg (by omega)]
theorem toChart_eq {k : Nat} {w h : Int} {l : List Int} (hk : l.length < k) (hl : l.length ≤ 1048576) : laws_toChart.f k w h l = some (w, h, l) := by
  simp only [laws_toChart.f, toIntS_eq hk hl, Option.bind_some]
theorem eqChart_refl {k : Nat} {w h : Int} {l : List Int} (hk : l.length < k) (hl : l.length ≤ 1048576) : laws_eqChart.f k w h l w h l = some true := by
  simp only [laws_eqChart.f, eqIntS_refl hk (by omega), Option.bind_some, if_true]
theorem isColor_eq (x : Int) : impl_isColor.f x = some (colorB x) := by simp only [impl_isColor.f, in_eq, Option.bind_some, colorB]
theorem isSide_eq (x : Int) : impl_isSide.f x = some (sideB x) := by simp only [impl_isSide.f, in_eq, Option.bind_some, sideB]
theorem l2Color_eq (x : Int) : spec_l2Color.f x = some (colorB x) := by simp only [spec_l2Color.f, l1In_eq, Option.bind_some, colorB]
theorem l2Side_eq (x : Int) : spec_l2Side.f x = some (sideB x) := by simp only [spec_l2Side.f, l1In_eq, Option.bind_some, sideB]
theorem IsChart_eq (w h : Int) (l : List Int) : impl_IsChart.f w h l = some (chartB w h l) := by
  simp only [impl_IsChart.f, isSide_eq, impl_areAll_int__impl_isColor.f, Ho.allO_eq (q := colorB) (fun x _ => isColor_eq x), Option.bind_some, chartB]
  cases hw : sideB w
  · simp
  · cases hh : sideB h
    · simp
    · have := side_w hw hh
      rw [w64 (by omega) (by omega)]
      by_cases he : (l.length : Int) = w * h <;> simp [he]
theorem l2Good_eq {k : Nat} {w h : Int} {l : List Int} (hk : l.length < k) (hl : l.length ≤ 1048576) : spec_l2Good.f k w h l = some (chartB w h l) := by
  unfold spec_l2Good.f
  have hx := all_loop (fun k i => spec_l2Good.l0 k i w h l) colorB 0 l (sideB w && (sideB h && decide ((l.length : Int) = w * h))) (by omega)
    (fun k i h1 => by
      simp only [spec_l2Good.l0]
      rw [if_pos (by omega), if_pos (by omega), rd_nat, l2Color_eq]
      simp only [Option.bind_some])
    (fun k i h1 => by
      simp only [spec_l2Good.l0]
      rw [if_neg (by omega)]
      simp only [l2Side_eq, Option.bind_some]
      cases hw : sideB w
      · simp
      · cases hh : sideB h
        · simp
        · have := side_w hw hh
          rw [w64 (by omega) (by omega)]
          simp [BEq.beq, instBEqOfDecidableEq])
    l.length k 0 (by omega) hk
  refine hx.trans ?_
  simp only [List.drop_zero, chartB]
  cases sideB w <;> cases sideB h <;> cases l.all colorB <;> simp

end Go.Proofs.Ytbfhphobnngeaaa.Pure

-- QlistHole
namespace Go.Proofs.Ytbfhphobnngeaaa.Pure
open Go Go.RowKit Go.Proofs Go.Proofs.Ytbfhphobnngeaaa.X Go.Proofs.YtbfhphobnngeaaaW.PrintWords Go.Proofs.YtbfhphobnngeaaaW.PrintLast
set_option linter.unusedVariables false
set_option linter.unusedSimpArgs false

def toHole (x : S67) : S39 := ⟨x.f0, x.f1, x.f2, x.f3⟩
theorem rdVHole_nat (l : List S67) (i : Nat) : rd_T67 l (i : Int) = l.getD i z67 := by simp [rd_T67]
theorem rdIHole_nat (l : List S39) (i : Nat) : rd_T39 l (i : Int) = l.getD i z39 := by simp [rd_T39]
theorem szHoleS_eq {l : List S67} {a : Int} (hl : l.length ≤ 9223372036854775807) (ha : 0 ≤ a ∧ a ≤ 9223372036854775807) : laws_szHoleS.f l a = some (if a < l.length then -1 else a - l.length) := by
  unfold laws_szHoleS.f
  rw [w64 (by omega) (by omega)]
  by_cases h : a < l.length
  · rw [if_pos (by omega), if_pos h]
  · rw [if_neg (by omega), if_neg h]
theorem toHoleS_eq {k : Nat} {l : List S67} (hk : l.length < k) (hl : l.length ≤ 1048576) : laws_toHoleS.f k l = some (l.map toHole) := by
  unfold laws_toHoleS.f
  rw [if_pos (by omega), if_pos (by simp; omega)]
  exact copy_loop laws_toHoleS.l0 toHole z67 l (by omega)
    (fun k x3 i h1 h2 => by
      simp only [laws_toHoleS.l0, laws_toHole.f, Option.bind_some]
      rw [if_pos (by omega), if_pos (by omega), if_pos (by omega), rdVHole_nat]
      simp [toHole])
    (fun k x3 i h1 => by simp only [laws_toHoleS.l0]; rw [if_neg (by omega)])
    l.length k 0 _ (by omega) hk (by simp) (by simp)
theorem eqHole_refl (a0 a1 a2 a3 : Int) : laws_eqHole.f a0 a1 a2 a3 a0 a1 a2 a3 = some true := by simp [laws_eqHole.f]
theorem eqHoleS_refl {k : Nat} {l : List S39} (hk : l.length < k) (hl : l.length ≤ 9223372036854775806) : laws_eqHoleS.f k l l = some true := by
  unfold laws_eqHoleS.f
  rw [if_pos rfl]
  exact refl_loop laws_eqHoleS.l0 l hl
    (fun k i h => by simp only [laws_eqHoleS.l0, eqHole_refl, Option.bind_some]; rw [if_pos (by omega), if_pos (by omega), if_pos (by omega)]; simp)
    (fun k i h => by simp only [laws_eqHoleS.l0]; rw [if_neg (by omega)])
    l.length k 0 (by omega) hk

end Go.Proofs.Ytbfhphobnngeaaa.Pure

-- Qcmpint
namespace Go.Proofs.Ytbfhphobnngeaaa.Pure
open Go Go.RowKit Go.Proofs Go.Proofs.Ytbfhphobnngeaaa.X Go.Proofs.YtbfhphobnngeaaaW.PrintWords Go.Proofs.YtbfhphobnngeaaaW.PrintLast
set_option linter.unusedVariables false
set_option linter.unusedSimpArgs false

def cmpI (a b : Int) : Int := if a < b then -1 else if a > b then 1 else 0
theorem cmpI_eq (a b : Int) : cmp_Compare_int.f a b = some (cmpI a b) := by
  simp only [cmp_Compare_int.f, cmp_isNaN_int.f, bne_self_eq_false, Option.bind_some, Bool.false_eq_true, if_false, cmpI]
  (repeat' split) <;> rfl

end Go.Proofs.Ytbfhphobnngeaaa.Pure

-- Qidxall
namespace Go.Proofs.Ytbfhphobnngeaaa.Pure
open Go Go.RowKit Go.Proofs Go.Proofs.YtbfhphobnngeaaaW.PrintWords Go.Proofs.YtbfhphobnngeaaaW.PrintLast
set_option linter.unusedVariables false
set_option linter.unusedSimpArgs false

/-- q at all numbers from i on, n of them -/
def allR (q : Nat → Bool) (i n : Nat) : Bool := (List.range' i n).all q
theorem allR_iff {q : Nat → Bool} {i n : Nat} : allR q i n = true ↔ ∀ j, i ≤ j → j < i + n → q j = true := by
  unfold allR
  rw [List.all_eq_true]
  exact ⟨fun h j h1 h2 => h j (List.mem_range'_1.mpr ⟨h1, h2⟩), fun h j hj => h j (List.mem_range'_1.mp hj).1 (List.mem_range'_1.mp hj).2⟩
theorem allR_succ (q : Nat → Bool) (i n : Nat) : allR q i (n + 1) = (q i && allR q (i + 1) n) := by
  unfold allR; rw [List.range'_succ, List.all_cons]
/-- A loop that asks of all numbers, from i on. -/
theorem idx_loop (L : Nat → Int → Option Bool) (q : Nat → Bool) (i0 n0 : Nat) (e : Bool) (hb : n0 ≤ 9223372036854775806)
    (hs : ∀ k (i : Nat), i0 ≤ i → i < n0 → L (k + 1) i = if q i = true then L k (wrap64 ((i : Int) + 1)) else some false) (he : ∀ k (i : Nat), n0 ≤ i → L (k + 1) i = some e) :
    ∀ n k (i : Nat), i0 ≤ i → i + n = n0 → n < k → L k i = some (allR q i n && e) := by
  intro n
  induction n with
  | zero =>
    intro k i h0 hi hk
    obtain ⟨k, rfl, _⟩ := succ_of hk
    rw [he k i (by omega)]; simp [allR]
  | succ n ih =>
    intro k i h0 hi hk
    obtain ⟨k, rfl, hk⟩ := succ_of hk
    rw [hs k i h0 (by omega), wstep (show i < n0 by omega) (by omega), allR_succ, ih k (i + 1) (by omega) (by omega) (by omega)]
    cases q i <;> simp
theorem all_getD {α : Type} {p : α → Bool} {l : List α} (d : α) : l.all p = true ↔ ∀ j, j < l.length → p (l.getD j d) = true := by
  rw [List.all_eq_true]
  constructor
  · intro h j hj
    rw [List.getD_eq_getElem?_getD, List.getElem?_eq_getElem hj]
    exact h _ (List.getElem_mem hj)
  · intro h x hx
    obtain ⟨j, hj, rfl⟩ := List.mem_iff_getElem.mp hx
    have := h j hj
    rwa [List.getD_eq_getElem?_getD, List.getElem?_eq_getElem hj] at this
/-- A loop that adds up. -/
theorem sum_loop {α β : Type} (L : Nat → Int → Int → Option β) (v : α → Int) (r : Int → Option β) (d : α) (B : Int) (l : List α) (hb : l.length ≤ 9223372036854775806) (hv : ∀ x ∈ l, 0 ≤ v x ∧ v x ≤ B)
    (hs : ∀ k (acc : Int) (i : Nat), i < l.length → 0 ≤ acc → acc ≤ B * i → L (k + 1) acc i = L k (acc + v (l.getD i d)) (wrap64 ((i : Int) + 1)))
    (he : ∀ k (acc : Int) (i : Nat), l.length ≤ i → L (k + 1) acc i = r acc) :
    ∀ n k (acc : Int) (i : Nat), i + n = l.length → n < k → 0 ≤ acc → acc ≤ B * i → L k acc i = r (acc + ((l.drop i).map v).sum) := by
  intro n
  induction n with
  | zero =>
    intro k acc i hi hk h0 h1
    obtain ⟨k, rfl, _⟩ := succ_of hk
    rw [he k acc i (by omega), List.drop_eq_nil_of_le (by omega)]; simp
  | succ n ih =>
    intro k acc i hi hk h0 h1
    obtain ⟨k, rfl, hk⟩ := succ_of hk
    have hlt : i < l.length := by omega
    have hm : l.getD i d ∈ l := by rw [List.getD_eq_getElem?_getD, List.getElem?_eq_getElem hlt]; exact List.getElem_mem hlt
    have := hv _ hm
    rw [hs k acc i hlt h0 h1, wstep hlt (by omega), drop_step hlt d, List.map_cons, List.sum_cons]
    have hB : B * ((i + 1 : Nat) : Int) = B * i + B := by push_cast; rw [Int.mul_add, Int.mul_one]
    rw [ih k _ (i + 1) (by omega) (by omega) (by omega) (by omega), Int.add_assoc]
/-- The same, where the end leans on all that was asked, and needs fuel of its own. -/
theorem idx_loop2 (L : Nat → Int → Option Bool) (q : Nat → Bool) (i0 n0 m0 : Nat) (e : Bool) (hb : n0 ≤ 9223372036854775806)
    (hs : ∀ k (i : Nat), i0 ≤ i → i < n0 → m0 ≤ k → L (k + 1) i = if q i = true then L k (wrap64 ((i : Int) + 1)) else some false) (he : (∀ j, i0 ≤ j → j < n0 → q j = true) → ∀ k, m0 ≤ k → L (k + 1) (n0 : Int) = some e) :
    ∀ n k (i : Nat), i0 ≤ i → i + n = n0 → n + m0 < k → (∀ j, i0 ≤ j → j < i → q j = true) → L k i = some (allR q i n && e) := by
  intro n
  induction n with
  | zero =>
    intro k i h0 hi hk hq
    obtain ⟨k, rfl, _⟩ := succ_of (show 0 < k by omega)
    obtain rfl : i = n0 := by omega
    rw [he hq k (by omega)]; simp [allR]
  | succ n ih =>
    intro k i h0 hi hk hq
    obtain ⟨k, rfl, hk'⟩ := succ_of (show 0 < k by omega)
    rw [hs k i h0 (by omega) (by omega), wstep (show i < n0 by omega) (by omega), allR_succ]
    cases hc : q i
    · simp
    · rw [if_pos rfl, ih k (i + 1) (by omega) (by omega) (by omega) (fun j h1 h2 => by
        by_cases hj : j = i
        · rw [hj]; exact hc
        · exact hq j h1 (by omega)), Bool.true_and]

end Go.Proofs.Ytbfhphobnngeaaa.Pure

-- Qholes
namespace Go.Proofs.Ytbfhphobnngeaaa.Pure
open Go Go.RowKit Go.Proofs Go.Proofs.Ytbfhphobnngeaaa.X Go.Proofs.YtbfhphobnngeaaaW.PrintWords Go.Proofs.YtbfhphobnngeaaaW.PrintLast
set_option linter.unusedVariables false
set_option linter.unusedSimpArgs false

def meetsB (x y : S39) : Bool := decide (x.f0 ≤ y.f2) && (decide (y.f0 ≤ x.f2) && (decide (x.f1 ≤ y.f3) && decide (y.f1 ≤ x.f3)))
theorem meetsB_comm (x y : S39) : meetsB x y = meetsB y x := by
  unfold meetsB
  rw [Bool.eq_iff_iff]; simp only [Bool.and_eq_true, decide_eq_true_eq]; omega
/-- hm, wm: the last row and column -/
def holeB (hm wm : Int) (x : S39) : Bool := decide (0 ≤ x.f2 ∧ x.f2 ≤ hm) && (decide (0 ≤ x.f0 ∧ x.f0 ≤ x.f2) && (decide (0 ≤ x.f3 ∧ x.f3 ≤ wm) && decide (0 ≤ x.f1 ∧ x.f1 ≤ x.f3)))
def ordB (x y : S39) : Bool := decide (x.f0 < y.f0) || (decide (x.f0 = y.f0) && decide (x.f1 < y.f1))
def freeB (l : List S39) (j : Nat) : Bool := allR (fun i => !meetsB (l.getD i z39) (l.getD j z39)) 0 j
def ordAt (l : List S39) (j : Nat) : Bool := decide (j = 0) || ordB (l.getD (j - 1) z39) (l.getD j z39)
def holeQ (hm wm : Int) (l : List S39) (j : Nat) : Bool := holeB hm wm (l.getD j z39) && (ordAt l j && freeB l j)
def holesB (w h : Int) (l : List Int) (hl : List S39) : Bool := chartB w h l && (decide (hl.length ≤ 8) && allR (holeQ (h - 1) (w - 1) hl) 0 hl.length)
theorem meetS_eq (x y : S39) : spec_l23Meet.f x.f0 x.f1 x.f2 x.f3 y.f0 y.f1 y.f2 y.f3 = some (meetsB x y) := by
  unfold spec_l23Meet.f meetsB
  by_cases h1 : x.f0 ≤ y.f2 <;> by_cases h2 : y.f0 ≤ x.f2 <;> by_cases h3 : x.f1 ≤ y.f3 <;> simp [h1, h2, h3]
theorem meetI_eq (x y : S39) : impl_Hole_meets.f x.f0 x.f1 x.f2 x.f3 y.f0 y.f1 y.f2 y.f3 = some (meetsB x y) := by
  unfold impl_Hole_meets.f meetsB
  by_cases h1 : x.f0 ≤ y.f2 <;> by_cases h2 : y.f0 ≤ x.f2 <;> by_cases h3 : x.f1 ≤ y.f3 <;> simp [h1, h2, h3]
theorem freeS_loop {w h : Int} {l : List Int} {hl : List S39} {i : Nat} (hi : i < hl.length) (hb : hl.length ≤ 1048576) (c : S39) :
    ∀ (m k j : Nat), j + m = i → spec_l23Good.l1 (k + m + 1) hl (i : Int) (j : Int) w h l c.f0 c.f1 c.f2 c.f3 = if allR (fun j => !meetsB (hl.getD j z39) c) j m = true then spec_l23Good.l0 k hl (wrap64 ((i : Int) + 1)) w h l else some false := by
  intro m
  induction m with
  | zero =>
    intro k j hj
    rw [spec_l23Good.l1, if_neg (by omega)]
    simp [allR]
  | succ m ih =>
    intro k j hj
    show spec_l23Good.l1 ((k + m + 1) + 1) hl (i : Int) (j : Int) w h l c.f0 c.f1 c.f2 c.f3 = _
    rw [spec_l23Good.l1, if_pos (by omega), if_pos (by omega), if_pos (by omega), rdIHole_nat, meetS_eq]
    simp only [Option.bind_some]
    rw [allR_succ, wstep (n := hl.length) (by omega) (by omega), ih k (j + 1) (by omega)]
    cases meetsB (hl.getD j z39) c <;> simp
theorem holesS_loop {w h : Int} {l : List Int} {hl : List S39} (hl0 : l.length ≤ 1048576) (hb : hl.length ≤ 1048576) :
    ∀ (n k i : Nat), i + n = hl.length → (n + 1) * (hl.length + l.length + 10) < k → spec_l23Good.l0 k hl (i : Int) w h l = some (allR (holeQ (wrap64 (h - 1)) (wrap64 (w - 1)) hl) i n && (chartB w h l && decide (hl.length ≤ 8))) := by
  intro n
  induction n with
  | zero =>
    intro k i hi hk
    obtain ⟨k, rfl, hk'⟩ := succ_of (show 0 < k by omega)
    rw [spec_l23Good.l0, if_neg (by omega), l2Good_eq (by omega) hl0]
    simp only [Option.bind_some]
    have e1 : decide ((hl.length : Int) ≤ 8) = decide (hl.length ≤ 8) := by
      congr 1; exact propext ⟨fun h => by omega, fun h => by omega⟩
    rw [e1]
    cases chartB w h l <;> simp [allR]
  | succ n ih =>
    intro k i hi hk
    have hc : (n + 1 + 1) * (hl.length + l.length + 10) = (n + 1) * (hl.length + l.length + 10) + (hl.length + l.length + 10) := Nat.succ_mul _ _
    obtain ⟨k, rfl⟩ : ∃ k2, k = k2 + i + 1 + 1 + 1 + 1 := ⟨k - i - 4, by omega⟩
    have hlt : i < hl.length := by omega
    rw [spec_l23Good.l0, if_pos (by omega), if_pos (by omega)]
    simp only [l1In_eq, Option.bind_some, rdIHole_nat]
    rw [allR_succ]
    have hq : holeQ (wrap64 (h - 1)) (wrap64 (w - 1)) hl i = (decide (0 ≤ (hl.getD i z39).f2 ∧ (hl.getD i z39).f2 ≤ wrap64 (h - 1)) && (decide (0 ≤ (hl.getD i z39).f0 ∧ (hl.getD i z39).f0 ≤ (hl.getD i z39).f2) && (decide (0 ≤ (hl.getD i z39).f3 ∧ (hl.getD i z39).f3 ≤ wrap64 (w - 1)) && decide (0 ≤ (hl.getD i z39).f1 ∧ (hl.getD i z39).f1 ≤ (hl.getD i z39).f3))) && (ordAt hl i && freeB hl i)) := rfl
    obtain ⟨p1, e1⟩ : ∃ p, decide (0 ≤ (hl.getD i z39).f2 ∧ (hl.getD i z39).f2 ≤ wrap64 (h - 1)) = p := ⟨_, rfl⟩
    obtain ⟨p2, e2⟩ : ∃ p, decide (0 ≤ (hl.getD i z39).f0 ∧ (hl.getD i z39).f0 ≤ (hl.getD i z39).f2) = p := ⟨_, rfl⟩
    obtain ⟨p3, e3⟩ : ∃ p, decide (0 ≤ (hl.getD i z39).f3 ∧ (hl.getD i z39).f3 ≤ wrap64 (w - 1)) = p := ⟨_, rfl⟩
    obtain ⟨p4, e4⟩ : ∃ p, decide (0 ≤ (hl.getD i z39).f1 ∧ (hl.getD i z39).f1 ≤ (hl.getD i z39).f3) = p := ⟨_, rfl⟩
    rw [hq, e1, e2, e3, e4]
    clear hq e1 e2 e3 e4
    have dead : ∀ k, spec_l23Good.j1 (k + 1) hl (i : Int) true w h l (hl.getD i z39).f0 (hl.getD i z39).f1 (hl.getD i z39).f2 (hl.getD i z39).f3 = some false := fun k => by rw [spec_l23Good.j1]; simp
    cases p1
    · simp only [Bool.false_eq_true, if_false, if_true, Bool.not_false, dead, Bool.false_and, Bool.true_and]
    cases p2
    · simp only [Bool.false_eq_true, if_false, if_true, Bool.not_false, dead, Bool.false_and, Bool.true_and]
    cases p3
    · simp only [Bool.false_eq_true, if_false, if_true, Bool.not_false, dead, Bool.false_and, Bool.true_and]
    cases p4
    · simp only [Bool.false_eq_true, if_false, if_true, Bool.not_false, dead, Bool.false_and, Bool.true_and]
    simp only [if_true, Bool.not_true, Bool.true_and]
    rw [spec_l23Good.j1, if_neg (by simp)]
    have live : spec_l23Good.j2 (k + i + 1 + 1) hl (i : Int) false w h l (hl.getD i z39).f0 (hl.getD i z39).f1 (hl.getD i z39).f2 (hl.getD i z39).f3 = some (freeB hl i && (allR (holeQ (wrap64 (h - 1)) (wrap64 (w - 1)) hl) (i + 1) n && (chartB w h l && decide (hl.length ≤ 8)))) := by
      rw [spec_l23Good.j2, if_neg (by simp)]
      have := freeS_loop (w := w) (h := h) (l := l) hlt hb (hl.getD i z39) i k 0 (by omega)
      rw [show ((0 : Nat) : Int) = 0 from rfl] at this
      rw [this]
      show (if freeB hl i = true then _ else _) = _
      rw [wstep hlt (by omega), ih k (i + 1) (by omega) (by omega)]
      cases freeB hl i <;> simp
    have gone : spec_l23Good.j2 (k + i + 1 + 1) hl (i : Int) true w h l (hl.getD i z39).f0 (hl.getD i z39).f1 (hl.getD i z39).f2 (hl.getD i z39).f3 = some false := by rw [spec_l23Good.j2]; simp
    by_cases hi0 : i = 0
    · rw [if_neg (by omega), live]
      have ho : ordAt hl i = true := by unfold ordAt; rw [decide_eq_true hi0, Bool.true_or]
      rw [ho]
      cases freeB hl i <;> simp
    · rw [if_pos (by omega), w64 (x := (i : Int) - 1) (by omega) (by omega), if_pos (by omega), if_pos (by omega), show (i : Int) - 1 = ((i - 1 : Nat) : Int) by omega, rdIHole_nat]
      have ho : ordAt hl i = ordB (hl.getD (i - 1) z39) (hl.getD i z39) := by unfold ordAt; rw [decide_eq_false hi0, Bool.false_or]
      rw [ho]
      unfold ordB
      by_cases g1 : (hl.getD (i - 1) z39).f0 > (hl.getD i z39).f0
      · rw [if_pos g1, gone, decide_eq_false (show ¬ (hl.getD (i - 1) z39).f0 < (hl.getD i z39).f0 by omega), decide_eq_false (show ¬ (hl.getD (i - 1) z39).f0 = (hl.getD i z39).f0 by omega)]; simp
      · rw [if_neg g1]
        by_cases g2 : (hl.getD (i - 1) z39).f0 = (hl.getD i z39).f0
        · rw [if_pos g2, decide_eq_true g2, decide_eq_false (show ¬ (hl.getD (i - 1) z39).f0 < (hl.getD i z39).f0 by omega)]
          by_cases g3 : (hl.getD (i - 1) z39).f1 ≥ (hl.getD i z39).f1
          · rw [decide_eq_true g3, gone, decide_eq_false (show ¬ (hl.getD (i - 1) z39).f1 < (hl.getD i z39).f1 by omega)]; simp
          · rw [decide_eq_false g3, live, decide_eq_true (show (hl.getD (i - 1) z39).f1 < (hl.getD i z39).f1 by omega)]; simp [Bool.and_assoc]
        · rw [if_neg g2, live, decide_eq_true (show (hl.getD (i - 1) z39).f0 < (hl.getD i z39).f0 by omega)]; simp [Bool.and_assoc]
theorem holesS_eq {k : Nat} {w h : Int} {l : List Int} {hl : List S39} (hk : (hl.length + 1) * (hl.length + l.length + 10) < k) (hl0 : l.length ≤ 1048576) (hb : hl.length ≤ 1048576) : spec_l23Good.f k w h l hl = some (holesB w h l hl) := by
  unfold spec_l23Good.f
  have := holesS_loop (w := w) (h := h) (l := l) (hl := hl) hl0 hb hl.length k 0 (by omega) hk
  refine (this.trans (congrArg some ?_))
  unfold holesB
  cases hc : chartB w h l
  · simp
  have hx := chart_of hc
  rw [w64 (x := h - 1) (by omega) (by omega), w64 (x := w - 1) (by omega) (by omega), Bool.true_and, Bool.true_and, Bool.and_comm]
theorem isHole_eq {w h : Int} {l : List Int} (hc : chartB w h l = true) (x : S39) : impl_Chart_isHole.f w h l x.f0 x.f1 x.f2 x.f3 = some (holeB (h - 1) (w - 1) x) := by
  have := chart_of hc
  simp only [impl_Chart_isHole.f, impl_Chart_hasPlace.f, in_eq, Option.bind_some]
  rw [w64 (x := h - 1) (by omega) (by omega), w64 (x := w - 1) (by omega) (by omega)]
  unfold holeB
  by_cases g1 : 0 ≤ x.f0 ∧ x.f0 ≤ h - 1 <;> by_cases g2 : 0 ≤ x.f1 ∧ x.f1 ≤ w - 1 <;> by_cases g3 : 0 ≤ x.f2 ∧ x.f2 ≤ h - 1 <;> by_cases g4 : 0 ≤ x.f3 ∧ x.f3 ≤ w - 1 <;> by_cases g5 : x.f0 ≤ x.f2 <;> by_cases g6 : x.f1 ≤ x.f3 <;> simp [g1, g2, g3, g4, g5, g6] <;> omega
theorem or2_eq (k : Nat) (a b : Int) : cmp_Or_int.f (k + 3) [a, b] = some (if a = 0 then b else a) := by
  have e1 : wrap64 (0 + 1) = 1 := w64 (by omega) (by omega)
  have e2 : wrap64 (1 + 1) = 2 := w64 (by omega) (by omega)
  have r0 : rd [a, b] 0 = a := rfl
  have r1 : rd [a, b] 1 = b := rfl
  have hl : (([a, b] : List Int).length : Int) = 2 := rfl
  simp only [cmp_Or_int.f, cmp_Or_int.l0, hl, e1, e2, r0, r1]
  by_cases h1 : a = 0 <;> by_cases h2 : b = 0 <;> simp [h1, h2]
theorem compareH_eq {k : Nat} (hk : 3 ≤ k) (x y : S39) : ∃ c, impl_Hole_compare.f k x.f0 x.f1 x.f2 x.f3 y.f0 y.f1 y.f2 y.f3 = some c ∧ (c ≥ 0 ↔ ordB x y = false) := by
  obtain ⟨k, rfl⟩ : ∃ m, k = m + 3 := ⟨k - 3, by omega⟩
  simp only [impl_Hole_compare.f, cmpI_eq, Option.bind_some, or2_eq]
  refine ⟨_, rfl, ?_⟩
  unfold ordB cmpI
  (repeat' split) <;> simp at * <;> omega
theorem freeI_eq {l : List S39} {i : Nat} (hi : i < l.length) : impl_Hole__impl_Hole_meets.f (l.take i) (l.getD i z39).f0 (l.getD i z39).f1 (l.getD i z39).f2 (l.getD i z39).f3 = some (!freeB l i) := by
  unfold impl_Hole__impl_Hole_meets.f
  rw [Ho.hasO_eq (q := fun x => meetsB (l.getD i z39) x) (fun x _ => meetI_eq _ _)]
  congr 1
  have hlen : (l.take i).length = i := by rw [List.length_take]; omega
  have e : freeB l i = (l.take i).all (fun x => !meetsB (l.getD i z39) x) := by
    unfold freeB
    rw [Bool.eq_iff_iff, allR_iff, all_getD z39]
    have hg : ∀ j, j < i → (l.take i).getD j z39 = l.getD j z39 := by
      intro j hj
      rw [List.getD_eq_getElem?_getD, List.getElem?_take_of_lt hj, ← List.getD_eq_getElem?_getD]
    constructor
    · intro h j hj
      rw [hg j (by omega), meetsB_comm]; exact h j (by omega) (by omega)
    · intro h j _ hj
      have := h j (by omega)
      rw [hg j (by omega), meetsB_comm] at this; exact this
  rw [e, List.not_all_eq_any_not]
  simp

end Go.Proofs.Ytbfhphobnngeaaa.Pure

-- QholesI
namespace Go.Proofs.Ytbfhphobnngeaaa.Pure
open Go Go.RowKit Go.Proofs Go.Proofs.Ytbfhphobnngeaaa.X Go.Proofs.YtbfhphobnngeaaaW.PrintWords Go.Proofs.YtbfhphobnngeaaaW.PrintLast
set_option linter.unusedVariables false
set_option linter.unusedSimpArgs false

theorem AreHoles_eq {k : Nat} {w h : Int} {l : List Int} {hl : List S39} (hk : hl.length + 10 < k) (hb : hl.length ≤ 1048576) : impl_AreHoles.f k w h l hl = some (holesB w h l hl) := by
  obtain ⟨k, rfl, hk2⟩ := succ_of hk
  simp only [impl_AreHoles.f, impl_AreHoles.j0, IsChart_eq, Option.bind_some, holesB]
  cases hc : chartB w h l
  · simp
  by_cases h8 : (8 : Int) < hl.length
  · simp [show ¬ hl.length ≤ 8 by omega, h8]
  rw [if_pos rfl, if_neg (by omega)]
  simp only [impl_Hole__impl_Chart_isHole.f]
  rw [Ho.allO_eq (q := holeB (h - 1) (w - 1)) (fun x _ => isHole_eq hc x)]
  simp only [Option.bind_some, show decide (hl.length ≤ 8) = true by simp; omega, Bool.true_and]
  have hsplit : allR (holeQ (h - 1) (w - 1) hl) 0 hl.length = (hl.all (holeB (h - 1) (w - 1)) && allR (fun j => ordAt hl j && freeB hl j) 0 hl.length) := by
    rw [Bool.eq_iff_iff, Bool.and_eq_true, allR_iff, allR_iff, all_getD z39]
    constructor
    · intro hq
      refine ⟨fun j hj => ?_, fun j _ hj => ?_⟩
      · have := hq j (by omega) (by omega)
        unfold holeQ at this; rw [Bool.and_eq_true] at this; exact this.1
      · have := hq j (by omega) hj
        unfold holeQ at this; rw [Bool.and_eq_true] at this; exact this.2
    · intro hq j h1 h2
      unfold holeQ; rw [Bool.and_eq_true]
      exact ⟨hq.1 j (by omega), hq.2 j h1 h2⟩
  rw [hsplit]
  cases hl.all (holeB (h - 1) (w - 1))
  · simp
  simp only [Bool.not_true, Bool.false_eq_true, if_false, Bool.true_and]
  have hx := idx_loop2 (fun k i => impl_AreHoles.l0 k hl hl (hl.length : Int) i) (fun j => ordAt hl j && freeB hl j) 0 hl.length 4 true (by omega)
    (fun k i _ h1 h2 => by
      simp only [impl_AreHoles.l0, Int.toNat_natCast, rdIHole_nat]
      rw [if_pos (by omega), if_pos (by omega), if_pos (by omega)]
      by_cases hi : i = 0
      · rw [if_neg (by omega), if_pos (by omega), freeI_eq h1]
        simp only [Option.bind_some]
        have ho : ordAt hl i = true := by unfold ordAt; rw [decide_eq_true hi, Bool.true_or]
        rw [ho]
        cases freeB hl i <;> simp
      · have ho : ordAt hl i = ordB (hl.getD (i - 1) z39) (hl.getD i z39) := by unfold ordAt; rw [decide_eq_false hi, Bool.false_or]
        rw [if_pos (by omega), w64 (x := (i : Int) - 1) (by omega) (by omega), if_pos (by omega), if_pos (by omega), show (i : Int) - 1 = ((i - 1 : Nat) : Int) by omega, rdIHole_nat]
        obtain ⟨c, e, hcmp⟩ := compareH_eq (k := k) (by omega) (hl.getD (i - 1) z39) (hl.getD i z39)
        rw [e]
        simp only [Option.bind_some]
        rw [ho]
        cases hb2 : ordB (hl.getD (i - 1) z39) (hl.getD i z39)
        · rw [if_pos (hcmp.mpr hb2)]; simp
        · rw [if_neg (fun g => by have := hcmp.mp g; rw [hb2] at this; simp at this), if_pos (by omega), freeI_eq h1]
          simp only [Option.bind_some]
          cases freeB hl i <;> simp)
    (fun hq k hk => by simp only [impl_AreHoles.l0]; rw [if_neg (by omega)])
    hl.length k 0 (by omega) (by omega) (by omega) (fun j h1 h2 => by omega)
  simpa using hx

end Go.Proofs.Ytbfhphobnngeaaa.Pure

-- XspecKnotsLostF18
namespace Go.Proofs.Ytbfhphobnngeaaa.X
open Ho (bS eS)
open Go.RowKit Go.Proofs.YtbfhphobnngeaaaW.PrintWords Go.Proofs.YtbfhphobnngeaaaW.PrintLast Go.Proofs.YtbfhphobnngeaaaW.PrintMore
attribute [local go_sem] max2_int min2_int max_two min_two max_three min_three max_four min_four   -- for this text's walks alone
set_option linter.unusedVariables false
set_option linter.unusedSimpArgs false

attribute [local go_sem ↓] Ho.isSome_setCell_   -- a store leaves all places there
/-! ### spec_KnotsLost: function 18 -/
def spec_KnotsLost.l0 : Nat → List (S39) → Int → Int → Option (Int × Bool)
  | 0, _, _, _ => none
  | k + 1, x1, x6, x7 => if x7 < (x1.length : Int) then (if 0 ≤ x7 then ((spec_l23Knots.f ((rd_T39 x1 x7).f0) ((rd_T39 x1 x7).f1) ((rd_T39 x1 x7).f2) ((rd_T39 x1 x7).f3)).bind fun t104 => (spec_KnotsLost.l0 k x1 (wrap64 (x6 + t104)) (wrap64 (x7 + 1)))) else (none)) else (some (x6, true))
def spec_KnotsLost.f (k : Nat) (a0_0 : Int) (a0_1 : Int) (l0_2 : List Int) (l1 : List (S39)) : Option (Int × Bool) := (spec_l23Good.f k a0_0 a0_1 l0_2 l1).bind fun t102 => (if t102 = true then (spec_KnotsLost.l0 k l1 0 0) else (some (0, false)))
theorem spec_KnotsLost.mono_l : ∀ k, (∀ y0 y1 y2, LeO (spec_KnotsLost.l0 k y0 y1 y2) (spec_KnotsLost.l0 (k + 1) y0 y1 y2))
  | 0 => fun _ _ _ r h => by simp [spec_KnotsLost.l0] at h
  | k + 1 => by
    have ih0 := spec_KnotsLost.mono_l k
    · intro y0 y1 y2
      unfold spec_KnotsLost.l0
      repeat' first
      | (with_reducible exact ih0 _ _ _)
      | (with_reducible exact spec_l23Good.mono _ _ _ _ _)
      | (with_reducible exact LeO.refl _)
      | (with_reducible exact LeO.none _)
      | (with_reducible refine LeO.ite ?_ ?_)
      | (with_reducible refine LeO.bind ?_ (fun _ => ?_))
      | exact ih0 _ _ _
      | exact spec_l23Good.mono _ _ _ _ _
      | exact LeO.none _
      | refine LeO.ite ?_ ?_
      | refine LeO.bind ?_ (fun _ => ?_)
theorem spec_KnotsLost.mono : ∀ a0 a1 a2 a3 k, LeO (spec_KnotsLost.f k a0 a1 a2 a3) (spec_KnotsLost.f (k + 1) a0 a1 a2 a3) := by
  intro a0 a1 a2 a3 k
  have ih0 := spec_KnotsLost.mono_l k
  unfold spec_KnotsLost.f
  repeat' first
      | (with_reducible exact ih0 _ _ _)
      | (with_reducible exact spec_l23Good.mono _ _ _ _ _)
      | (with_reducible exact LeO.refl _)
      | (with_reducible exact LeO.none _)
      | (with_reducible refine LeO.ite ?_ ?_)
      | (with_reducible refine LeO.bind ?_ (fun _ => ?_))
      | exact ih0 _ _ _
      | exact spec_l23Good.mono _ _ _ _ _
      | exact LeO.none _
      | refine LeO.ite ?_ ?_
      | refine LeO.bind ?_ (fun _ => ?_)
set_option maxHeartbeats 8000000 in
set_option maxRecDepth 100000 in
theorem spec_KnotsLost.calls (k : Nat) (a0_0 : Int) (a0_1 : Int) (A0_2 : Option Addr) (c0_2 : Nat) (l0_2 : List Int) (A1 : Option Addr) (c1 : Nat) (l1 : List (S39)) (r1 : Int) (r2 : Bool) (w : World) (hr0_2 : Kd.C (Kd.int .i64) w A0_2 l0_2.length l0_2) (hc0_2 : l0_2.length ≤ c0_2) (hr1 : Kd.C k39 w A1 l1.length l1) (hc1 : l1.length ≤ c1) (h : spec_KnotsLost.f k a0_0 a0_1 l0_2 l1 = some (r1, r2)) :
    Calls Try.prog 18 #[.agg #[.int .i64 a0_0, .int .i64 a0_1, .slice A0_2 l0_2.length c0_2], .slice A1 l1.length c1] w fun e w' => e = .returned (.tuple #[.int .i64 r1, .bool r2]) ∧ Below w.heap.size w w' := by
  have hu29 := Try.underlying29
  have hu39 := Try.underlying39
  have HR0_2 := Aside0.mk hr0_2
  have HC0_2 := Aside0.mk hc0_2
  clear hr0_2 hc0_2
  have HR1 := Aside0.mk hr1
  have HC1 := Aside0.mk hc1
  clear hr1 hc1
  have HB := Aside0.mk (Below.refl w.heap.size w)
  have H : ((spec_l23Good.f k a0_0 a0_1 l0_2 l1).bind fun t102 => (if t102 = true then (spec_KnotsLost.l0 k l1 0 0) else (some (0, false)))) = some (r1, r2) := h
  clear h
  replace H := Option.bind_eq_some_iff.mp H
  obtain ⟨t102, A30, H⟩ := H
  replace H : (if t102 = true then (spec_KnotsLost.l0 k l1 0 0) else (some (0, false))) = some (r1, r2) := H
  have A3 := Aside0.mk A30
  clear A30
  by_cases c4 : t102 = true
  · subst c4
    have H1 : (spec_KnotsLost.l0 k l1 0 0) = some (r1, r2) := by rw [if_pos rfl] at H; exact H
    clear H
    have H := H1
    clear H1
    have H' := Aside0.mk H
    clear H
    go_enter Try.func18, Try.ntmps18
    go_wp2_with (first | ((with_reducible refine gate_dst (N := 2) rfl ?_); refine box_event ?hg (N := 2) ?hd (cs := #[.int .i64 a0_0, .int .i64 a0_1, .slice A0_2 l0_2.length c0_2]) (t := 29) ?hr ?_; (case hd => rfl); (case hg => rfl); (case hr => first | (go_simp; done) | (go_simp; rfl)); intro gb101 hg w5 hbox hb; have n0_ := Aside0.mk (below_step (by exact eS HB.out) hb); have n1_ := Aside0.mk (hbox); have n2_ := Aside0.mk ((by rw [hg]; exact (below_size (by exact eS HB.out)) : w.heap.size ≤ gb101)); have n3_ := Aside0.mk ((by rw [hg]; exact (below_size (by exact eS HB.out)) : w.heap.size ≤ gb101)); clear HB; have HB := n0_; have BK101 := n1_; have GW101 := n2_; have GE101 := n3_; clear n0_ n1_ n2_ n3_; clear hb hbox hg; have hcz6_0 : w5.cell? ⟨gb101, 0, none⟩ = some (.int .i64 a0_0) := (blk_cell BK101.out 0).trans rfl; have hcz6_1 : w5.cell? ⟨gb101, 1, none⟩ = some (.int .i64 a0_1) := (blk_cell BK101.out 1).trans rfl; have hcz6_2 : w5.cell? ⟨gb101, 2, none⟩ = some (.slice A0_2 l0_2.length c0_2) := (blk_cell BK101.out 2).trans rfl; have hfz6_0 := blk_frozen BK101.out 0; have hfz6_1 := blk_frozen BK101.out 1; have hfz6_2 := blk_frozen BK101.out 2) | ((with_reducible refine gate_callee (f := 48) rfl ?_); refine goesL_ (some 10) rfl rfl Try.func48 (by kernel_rfl) rfl #[.agg #[.int .i64 a0_0, .int .i64 a0_1, .slice A0_2 l0_2.length c0_2], .slice A1 l1.length c1] rfl (by (try simp only [List.map_toArray, List.map_cons, List.map_nil]); first | done | rfl | (simp only [List.length_drop, List.length_take]; rfl)) ?_; (with_reducible refine (spec_l23Good.calls k a0_0 a0_1 _ _ l0_2 _ _ l1 true _ ?side1 ?side2 ?side3 ?side4 A3.out).mono ?_); (case side1 => repeat (first | exact (Kd.C_below HR0_2.out HB.out) | (with_reducible refine Kd.C_alloc ?_ _) | (with_reducible refine Kd.C_drewN ?_ _) | (with_reducible refine Kd.C_drew ?_))); (case side2 => exact HC0_2.out); (case side3 => repeat (first | exact (Kd.C_below HR1.out HB.out) | (with_reducible refine Kd.C_alloc ?_ _) | (with_reducible refine Kd.C_drewN ?_ _) | (with_reducible refine Kd.C_drew ?_))); (case side4 => exact HC1.out); rintro e w7 ⟨rfl, hb⟩; refine ⟨_, rfl, ?_⟩; have n0_ := Aside0.mk (blk_below (bS BK101.out) hb); have n1_ := Aside0.mk (below_step (by exact eS HB.out) hb); clear BK101; clear HB; have BK101 := n0_; have HB := n1_; clear n0_ n1_; (try clear hb); (try clear hb2); (try clear hk); (try clear hi)))
    go_loopg [6, 7] k (fun kq v6 v7 w' => ∃ (x6_1 : Int) (x7_1 : Int), v6 = .int .i64 x6_1 ∧ v7 = .int .i64 x7_1 ∧ Aside0 (spec_KnotsLost.l0 kq l1 x6_1 x7_1 = some (r1, r2)) ∧ Aside0 (kq ≤ k) ∧ Aside0 (w'.heap[gb101]? = some (.cells #[.int .i64 a0_0, .int .i64 a0_1, (.slice A0_2 l0_2.length c0_2)] 29 (0, 0))) ∧ Aside0 (Below w.heap.size w w'))
    case atStart => exact ⟨(0), (0), (by first | rfl | (simp; done) | (simp [*]; done)), (by first | rfl | (simp; done) | (simp [*]; done)), H', ⟨Nat.le_refl _⟩, ⟨by exact bS BK101.out⟩, ⟨by exact eS HB.out⟩⟩
    case round =>
      clear H'
      try clear c1
      try clear p2
      try clear c4
      try clear hcz6_0
      try clear hcz6_1
      try clear hcz6_2
      try clear hfz6_0
      try clear hfz6_1
      try clear hfz6_2
      obtain ⟨x6_1, x7_1, rfl, rfl, HA, HK1, BK101, HB⟩ := hrel
      cases gk with
      | zero => exact absurd HA.out (by simp [spec_KnotsLost.l0])
      | succ k1 =>
        have H := HA.out
        clear HA
        simp only [spec_KnotsLost.l0] at H
        by_cases c8 : x7_1 < (l1.length : Int)
        · rw [if_pos c8] at H
          have c8b0 : decide (x7_1 < (l1.length : Int)) = true := decide_eq_true c8
          clear c8
          by_cases c9 : 0 ≤ x7_1
          · rw [if_pos c9] at H
            have c9b0 : decide (0 ≤ x7_1) = true := decide_eq_true c9
            clear c9
            replace H := Option.bind_eq_some_iff.mp H
            obtain ⟨t104, A100, H⟩ := H
            replace H : (spec_KnotsLost.l0 k1 l1 (wrap64 (x6_1 + t104)) (wrap64 (x7_1 + 1))) = some (r1, r2) := H
            have A10 := Aside0.mk A100
            clear A100
            have H' := Aside0.mk H
            clear H
            have p103 : 0 ≤ (x7_1 : Int) := of_decide_eq_true (by first | (with_reducible assumption) | assumption)
            have q103 : x7_1 < (l1.length : Int) := of_decide_eq_true (by first | (with_reducible assumption) | assumption)
            obtain ⟨ad103, e103, hx103_0, hx103_1, hx103_2, hx103_3⟩ := at_T39 HR1.out x7_1 p103 q103
            cases e103
            replace hx103_0 := (HB.out.cell (World.block_lt_of_cell? w _ hx103_0)).trans hx103_0
            replace hx103_1 := (HB.out.cell (World.block_lt_of_cell? w _ hx103_1)).trans hx103_1
            replace hx103_2 := (HB.out.cell (World.block_lt_of_cell? w _ hx103_2)).trans hx103_2
            replace hx103_3 := (HB.out.cell (World.block_lt_of_cell? w _ hx103_3)).trans hx103_3
            replace p103 := eq_true p103
            replace q103 := eq_true q103
            go_wp2_with (first | ((with_reducible refine gate_callee (f := 57) rfl ?_); refine goesL_ (some 23) rfl rfl Try.func57 (by kernel_rfl) rfl #[.agg #[.int .i64 ((rd_T39 l1 x7_1).f0), .int .i64 ((rd_T39 l1 x7_1).f1), .int .i64 ((rd_T39 l1 x7_1).f2), .int .i64 ((rd_T39 l1 x7_1).f3)]] rfl (by (try simp only [List.map_toArray, List.map_cons, List.map_nil]); first | done | rfl | (simp only [List.length_drop, List.length_take]; rfl)) ?_; (with_reducible refine (spec_l23Knots.calls ((rd_T39 l1 x7_1).f0) ((rd_T39 l1 x7_1).f1) ((rd_T39 l1 x7_1).f2) ((rd_T39 l1 x7_1).f3) t104 _ A10.out).mono ?_); rintro e w11 ⟨rfl, hb⟩; refine ⟨_, rfl, ?_⟩; have n0_ := Aside0.mk (blk_below (bS BK101.out) hb); have n1_ := Aside0.mk (below_step (by exact eS HB.out) hb); clear BK101; clear HB; have BK101 := n0_; have HB := n1_; clear n0_ n1_; (try clear hb); (try clear hb2); (try clear hk); (try clear hi)))
            go_roundg k1
            case measure => have := HK1.out; omega
            case rel => exact ⟨(wrap64 (x6_1 + t104)), (wrap64 (x7_1 + 1)), (by first | rfl | (simp; done) | (simp [*]; done)), (by first | rfl | (simp; done) | (simp [*]; done)), H', ⟨by have := HK1.out; omega⟩, ⟨by exact bS BK101.out⟩, ⟨by exact eS HB.out⟩⟩
          · rw [if_neg c9] at H
            exact absurd H (by simp)
        · rw [if_neg c8] at H
          have c8b0 : decide (x7_1 < (l1.length : Int)) = false := decide_eq_false c8
          clear c8
          simp only [Option.some.injEq, Prod.mk.injEq] at H
          obtain ⟨rfl, rfl⟩ := H
          go_wp2
          go_ret2
          exact ⟨by first | rfl | (simp [errW_none, errW_some] <;> rfl) | (simp [*, errW_none, errW_some] <;> rfl), by exact eS HB.out⟩
  · replace c4 := Bool.eq_false_iff.mpr c4
    subst c4
    have H1 : (some (0, false)) = some (r1, r2) := by rw [if_neg (show ¬ (false = true) by decide)] at H; exact H
    clear H
    have H := H1
    clear H1
    simp only [Option.some.injEq, Prod.mk.injEq] at H
    obtain ⟨rfl, rfl⟩ := H
    go_enter Try.func18, Try.ntmps18
    go_wp2_with (first | ((with_reducible refine gate_dst (N := 2) rfl ?_); refine box_event ?hg (N := 2) ?hd (cs := #[.int .i64 a0_0, .int .i64 a0_1, .slice A0_2 l0_2.length c0_2]) (t := 29) ?hr ?_; (case hd => rfl); (case hg => rfl); (case hr => first | (go_simp; done) | (go_simp; rfl)); intro gb101 hg w12 hbox hb; have n0_ := Aside0.mk (below_step (by exact eS HB.out) hb); have n1_ := Aside0.mk (hbox); have n2_ := Aside0.mk ((by rw [hg]; exact (below_size (by exact eS HB.out)) : w.heap.size ≤ gb101)); have n3_ := Aside0.mk ((by rw [hg]; exact (below_size (by exact eS HB.out)) : w.heap.size ≤ gb101)); clear HB; have HB := n0_; have BK101 := n1_; have GW101 := n2_; have GE101 := n3_; clear n0_ n1_ n2_ n3_; clear hb hbox hg; have hcz13_0 : w12.cell? ⟨gb101, 0, none⟩ = some (.int .i64 a0_0) := (blk_cell BK101.out 0).trans rfl; have hcz13_1 : w12.cell? ⟨gb101, 1, none⟩ = some (.int .i64 a0_1) := (blk_cell BK101.out 1).trans rfl; have hcz13_2 : w12.cell? ⟨gb101, 2, none⟩ = some (.slice A0_2 l0_2.length c0_2) := (blk_cell BK101.out 2).trans rfl; have hfz13_0 := blk_frozen BK101.out 0; have hfz13_1 := blk_frozen BK101.out 1; have hfz13_2 := blk_frozen BK101.out 2) | ((with_reducible refine gate_callee (f := 48) rfl ?_); refine goesL_ (some 10) rfl rfl Try.func48 (by kernel_rfl) rfl #[.agg #[.int .i64 a0_0, .int .i64 a0_1, .slice A0_2 l0_2.length c0_2], .slice A1 l1.length c1] rfl (by (try simp only [List.map_toArray, List.map_cons, List.map_nil]); first | done | rfl | (simp only [List.length_drop, List.length_take]; rfl)) ?_; (with_reducible refine (spec_l23Good.calls k a0_0 a0_1 _ _ l0_2 _ _ l1 false _ ?side1 ?side2 ?side3 ?side4 A3.out).mono ?_); (case side1 => repeat (first | exact (Kd.C_below HR0_2.out HB.out) | (with_reducible refine Kd.C_alloc ?_ _) | (with_reducible refine Kd.C_drewN ?_ _) | (with_reducible refine Kd.C_drew ?_))); (case side2 => exact HC0_2.out); (case side3 => repeat (first | exact (Kd.C_below HR1.out HB.out) | (with_reducible refine Kd.C_alloc ?_ _) | (with_reducible refine Kd.C_drewN ?_ _) | (with_reducible refine Kd.C_drew ?_))); (case side4 => exact HC1.out); rintro e w14 ⟨rfl, hb⟩; refine ⟨_, rfl, ?_⟩; have n0_ := Aside0.mk (blk_below (bS BK101.out) hb); have n1_ := Aside0.mk (below_step (by exact eS HB.out) hb); clear BK101; clear HB; have BK101 := n0_; have HB := n1_; clear n0_ n1_; (try clear hb); (try clear hb2); (try clear hk); (try clear hi)))
    go_ret2
    exact ⟨by first | rfl | (simp [errW_none, errW_some] <;> rfl) | (simp [*, errW_none, errW_some] <;> rfl), by exact eS HB.out⟩

end Go.Proofs.Ytbfhphobnngeaaa.X

-- Qknotslost
namespace Go.Proofs.Ytbfhphobnngeaaa.Pure
open Go Go.RowKit Go.Proofs Go.Proofs.Ytbfhphobnngeaaa.X Go.Proofs.YtbfhphobnngeaaaW.PrintWords Go.Proofs.YtbfhphobnngeaaaW.PrintLast
set_option linter.unusedVariables false
set_option linter.unusedSimpArgs false

def knotsH (x : S39) : Int := (x.f2 - x.f0 + 1) * (x.f3 - x.f1 + 1)
theorem holes_of {w h : Int} {l : List Int} {hl : List S39} (hb : holesB w h l hl = true) : chartB w h l = true ∧ hl.length ≤ 8 ∧ ∀ x ∈ hl, holeB (h - 1) (w - 1) x = true := by
  simp only [holesB, Bool.and_eq_true, decide_eq_true_eq] at hb
  refine ⟨hb.1, hb.2.1, fun x hx => ?_⟩
  have h2 := allR_iff.mp hb.2.2
  obtain ⟨j, hj, rfl⟩ := List.mem_iff_getElem.mp hx
  have := h2 j (by omega) (by omega)
  unfold holeQ at this
  rw [Bool.and_eq_true] at this
  have e : hl.getD j z39 = hl[j] := by simp [List.getD_eq_getElem?_getD, List.getElem?_eq_getElem hj]
  rw [← e]; exact this.1
theorem hole_of {a b : Int} {x : S39} (hb : holeB a b x = true) : (0 ≤ x.f2 ∧ x.f2 ≤ a) ∧ (0 ≤ x.f0 ∧ x.f0 ≤ x.f2) ∧ (0 ≤ x.f3 ∧ x.f3 ≤ b) ∧ (0 ≤ x.f1 ∧ x.f1 ≤ x.f3) := by
  simpa only [holeB, Bool.and_eq_true, decide_eq_true_eq] using hb
theorem knots_bd {w h : Int} {l : List Int} (hc : chartB w h l = true) {x : S39} (hx : holeB (h - 1) (w - 1) x = true) : 1 ≤ knotsH x ∧ knotsH x ≤ 64 := by
  have := chart_of hc; have hx := hole_of hx
  unfold knotsH
  have h1 := mul_bd (a := x.f2 - x.f0 + 1) (b := x.f3 - x.f1 + 1) (A := 8) (B := 8) (by omega) (by omega) (by omega) (by omega)
  have h2 : 0 < (x.f2 - x.f0 + 1) * (x.f3 - x.f1 + 1) := Int.mul_pos (by omega) (by omega)
  omega
theorem knots_wr {w h : Int} {l : List Int} (hc : chartB w h l = true) {x : S39} (hx : holeB (h - 1) (w - 1) x = true) : wrap64 ((wrap64 ((wrap64 (x.f2 - x.f0)) + 1)) * (wrap64 ((wrap64 (x.f3 - x.f1)) + 1))) = knotsH x := by
  have hb := knots_bd hc hx
  have := chart_of hc; have hx := hole_of hx
  rw [w64 (x := x.f2 - x.f0) (by omega) (by omega), w64 (x := x.f2 - x.f0 + 1) (by omega) (by omega), w64 (x := x.f3 - x.f1) (by omega) (by omega), w64 (x := x.f3 - x.f1 + 1) (by omega) (by omega)]
  unfold knotsH at hb ⊢
  exact w64 (by omega) (by omega)
def knotsLostM (w h : Int) (l : List Int) (hl : List S39) : Int × Bool := if holesB w h l hl then ((hl.map knotsH).sum, true) else (0, false)
theorem knotsLostS_eq {k : Nat} {w h : Int} {l : List Int} {hl : List S39} (hk : (hl.length + 1) * (hl.length + l.length + 10) < k) (hl0 : l.length ≤ 1048576) (hb : hl.length ≤ 1048576) : spec_KnotsLost.f k w h l hl = some (knotsLostM w h l hl) := by
  simp only [spec_KnotsLost.f, holesS_eq hk hl0 hb, Option.bind_some, knotsLostM]
  cases hg : holesB w h l hl
  · simp
  obtain ⟨hc, h8, hx⟩ := holes_of hg
  simp only [if_true]
  have hk2 : hl.length < k := by have := Nat.le_mul_of_pos_right (hl.length + 1) (show 0 < hl.length + l.length + 10 by omega); omega
  have := sum_loop (fun k a i => spec_KnotsLost.l0 k hl a i) knotsH (fun a => some (a, true)) z39 64 hl (by omega) (fun x hm => by have := knots_bd hc (hx x hm); omega)
    (fun k acc i h1 h2 h3 => by
      have hm : hl.getD i z39 ∈ hl := by rw [List.getD_eq_getElem?_getD, List.getElem?_eq_getElem h1]; exact List.getElem_mem h1
      have hb := knots_bd hc (hx _ hm)
      simp only [spec_KnotsLost.l0, rdIHole_nat, spec_l23Knots.f, Option.bind_some]
      rw [if_pos (by omega), if_pos (by omega), knots_wr hc (hx _ hm), w64 (by omega) (by omega)])
    (fun k acc i h1 => by simp only [spec_KnotsLost.l0]; rw [if_neg (by omega)])
    hl.length k 0 0 (by omega) hk2 (by omega) (by omega)
  simpa using this

end Go.Proofs.Ytbfhphobnngeaaa.Pure

-- Qnest
namespace Go.Proofs.Ytbfhphobnngeaaa.Pure
open Go Go.RowKit Go.Proofs Go.Proofs.YtbfhphobnngeaaaW.PrintWords Go.Proofs.YtbfhphobnngeaaaW.PrintLast
set_option linter.unusedVariables false
set_option linter.unusedSimpArgs false

/-- A loop whose rounds each take some fuel, and which goes over into what follows it. -/
theorem nest_loop {σ β : Type} (Lin : Nat → σ → Int → Option β) (Lout : Nat → σ → Option β) (step : σ → Nat → σ) (n0 m0 : Nat)
    (hs : ∀ (i : Nat) (s : σ), i < n0 → ∃ c, ∀ k, m0 ≤ k → Lin (k + c) s (i : Int) = Lin k (step s i) ((i + 1 : Nat) : Int)) (he : ∀ k s, Lin (k + 1) s (n0 : Int) = Lout k s) :
    ∀ (n i : Nat) (s : σ), i + n = n0 → ∃ c, ∀ k, m0 ≤ k → Lin (k + c) s (i : Int) = Lout k ((List.range' i n).foldl step s) := by
  intro n
  induction n with
  | zero =>
    intro i s hi
    obtain rfl : i = n0 := by omega
    exact ⟨1, fun k _ => by rw [he]; rfl⟩
  | succ n ih =>
    intro i s hi
    obtain ⟨c1, h1⟩ := hs i s (by omega)
    obtain ⟨c2, h2⟩ := ih (i + 1) (step s i) (by omega)
    refine ⟨c2 + c1, fun k hk => ?_⟩
    rw [show k + (c2 + c1) = (k + c2) + c1 by omega, h1 (k + c2) (by omega), h2 k hk, List.range'_succ, List.foldl_cons]

end Go.Proofs.Ytbfhphobnngeaaa.Pure

-- Qwhole
namespace Go.Proofs.Ytbfhphobnngeaaa.Pure
open Go Go.RowKit Go.Proofs Go.Proofs.Ytbfhphobnngeaaa.X Go.Proofs.YtbfhphobnngeaaaW.PrintWords Go.Proofs.YtbfhphobnngeaaaW.PrintLast
set_option linter.unusedVariables false
set_option linter.unusedSimpArgs false

abbrev WSt := Int × Int × Int × Int × Int
def wholeB (hl : List S39) (c : S39) : Bool := hl.all fun x => !meetsB x c
def knotsW (a b c d : Int) : Int := wrap64 ((wrap64 ((wrap64 (c - a)) + 1)) * (wrap64 ((wrap64 (d - b)) + 1)))
def step3 (hl : List S39) (a b c : Nat) (s : WSt) (d : Nat) : WSt :=
  if knotsW a b c d > s.1 then (if wholeB hl ⟨a, b, c, d⟩ = true then (knotsW a b c d, (a : Int), (b : Int), (c : Int), (d : Int)) else s) else s
def step2 (hl : List S39) (w a b : Nat) (s : WSt) (c : Nat) : WSt := (List.range' b (w - b)).foldl (step3 hl a b c) s
def step1 (hl : List S39) (w h a : Nat) (s : WSt) (b : Nat) : WSt := (List.range' a (h - a)).foldl (step2 hl w a b) s
def step0 (hl : List S39) (w h : Nat) (s : WSt) (a : Nat) : WSt := (List.range' 0 w).foldl (step1 hl w h a) s
theorem wholeS_eq {k : Nat} {hl : List S39} (hk : hl.length < k) (hb : hl.length ≤ 1048576) (c : S39) : spec_l23Whole.f k hl c.f0 c.f1 c.f2 c.f3 = some (wholeB hl c) := by
  unfold spec_l23Whole.f
  have h := all_loop (fun k i => spec_l23Whole.l0 k hl i c.f0 c.f1 c.f2 c.f3) (fun x => !meetsB x c) z39 hl true (by omega)
    (fun k i h1 => by
      simp only [spec_l23Whole.l0, rdIHole_nat]
      rw [if_pos (by omega), if_pos (by omega), meetS_eq]
      simp only [Option.bind_some]
      cases meetsB (hl.getD i z39) c <;> simp)
    (fun k i h1 => by simp only [spec_l23Whole.l0]; rw [if_neg (by omega)])
    hl.length k 0 (by omega) hk
  simpa [wholeB] using h
theorem wholeI_eq (hl : List S39) (c : S39) : impl_Hole__impl_Hole_meets.f hl c.f0 c.f1 c.f2 c.f3 = some (!wholeB hl c) := by
  unfold impl_Hole__impl_Hole_meets.f
  rw [Ho.hasO_eq (q := fun x => meetsB c x) (fun x _ => meetI_eq _ _)]
  congr 1
  unfold wholeB
  rw [List.not_all_eq_any_not]
  simp only [Bool.not_not]
  congr 1; funext x; exact meetsB_comm _ _

end Go.Proofs.Ytbfhphobnngeaaa.Pure

-- QwholeS
namespace Go.Proofs.Ytbfhphobnngeaaa.Pure
open Go Go.RowKit Go.Proofs Go.Proofs.Ytbfhphobnngeaaa.X Go.Proofs.YtbfhphobnngeaaaW.PrintWords Go.Proofs.YtbfhphobnngeaaaW.PrintLast
set_option linter.unusedVariables false
set_option linter.unusedSimpArgs false

theorem wl3S {hl : List S39} (hb : hl.length ≤ 1048576) {w h : Nat} (hw : w ≤ 8) (l : List Int) (a b c : Nat) (s : WSt) (hbw : b ≤ w) (hc : c ≤ 8) :
    ∃ q, ∀ k, hl.length + 1 ≤ k → spec_LargestWhole.l3 (k + q) hl s.1 a b c b w h l s.2.1 s.2.2.1 s.2.2.2.1 s.2.2.2.2 = (fun (k : Nat) (s : WSt) => spec_LargestWhole.l2 k hl s.1 a b ((c + 1 : Nat) : Int) w h l s.2.1 s.2.2.1 s.2.2.2.1 s.2.2.2.2) k (step2 hl w a b s c) := by
  refine nest_loop (fun k (s : WSt) d => spec_LargestWhole.l3 k hl s.1 a b c d w h l s.2.1 s.2.2.1 s.2.2.2.1 s.2.2.2.2) (fun k (s : WSt) => spec_LargestWhole.l2 k hl s.1 a b ((c + 1 : Nat) : Int) w h l s.2.1 s.2.2.1 s.2.2.2.1 s.2.2.2.2) (step3 hl a b c) w (hl.length + 1) (fun d s hd => ⟨1, fun k hk => ?_⟩) (fun k s => ?_) (w - b) b s (by omega)
  · simp only [spec_LargestWhole.l3, spec_l23Knots.f, Option.bind_some]
    have hwh := wholeS_eq (k := k) (hl := hl) (by omega) hb ⟨(a : Int), (b : Int), (c : Int), (d : Int)⟩
    simp only at hwh
    rw [if_pos (by omega), wstep hd (by omega), hwh]
    simp only [Option.bind_some]
    unfold step3 knotsW
    split
    · cases wholeB hl ⟨(a : Int), (b : Int), (c : Int), (d : Int)⟩ <;> simp
    · rfl
  · simp only [spec_LargestWhole.l3]
    rw [if_neg (by omega), wstep (n := 9) (by omega) (by omega)]
theorem wl2S {hl : List S39} (hb : hl.length ≤ 1048576) {w h : Nat} (hw : w ≤ 8) (hh : h ≤ 8) (l : List Int) (a b : Nat) (s : WSt) (hah : a ≤ h) (hbw : b < w) :
    ∃ q, ∀ k, hl.length + 1 ≤ k → spec_LargestWhole.l2 (k + q) hl s.1 a b a w h l s.2.1 s.2.2.1 s.2.2.2.1 s.2.2.2.2 = (fun (k : Nat) (s : WSt) => spec_LargestWhole.l1 k hl s.1 a ((b + 1 : Nat) : Int) w h l s.2.1 s.2.2.1 s.2.2.2.1 s.2.2.2.2) k (step1 hl w h a s b) := by
  refine nest_loop (fun k (s : WSt) c => spec_LargestWhole.l2 k hl s.1 a b c w h l s.2.1 s.2.2.1 s.2.2.2.1 s.2.2.2.2) (fun k (s : WSt) => spec_LargestWhole.l1 k hl s.1 a ((b + 1 : Nat) : Int) w h l s.2.1 s.2.2.1 s.2.2.2.1 s.2.2.2.2) (step2 hl w a b) h (hl.length + 1) (fun c s hc => ?_) (fun k s => ?_) (h - a) a s (by omega)
  · obtain ⟨q, hq⟩ := wl3S hb (h := h) hw l a b c s (by omega) (by omega)
    refine ⟨q + 1, fun k hk => ?_⟩
    show spec_LargestWhole.l2 (k + q + 1) hl s.1 a b c w h l s.2.1 s.2.2.1 s.2.2.2.1 s.2.2.2.2 = _
    simp only [spec_LargestWhole.l2]
    rw [if_pos (by omega), hq k hk]
  · simp only [spec_LargestWhole.l2]
    rw [if_neg (by omega), wstep (n := 9) (by omega) (by omega)]
theorem wl1S {hl : List S39} (hb : hl.length ≤ 1048576) {w h : Nat} (hw : w ≤ 8) (hh : h ≤ 8) (l : List Int) (a : Nat) (s : WSt) (hah : a < h) :
    ∃ q, ∀ k, hl.length + 1 ≤ k → spec_LargestWhole.l1 (k + q) hl s.1 a 0 w h l s.2.1 s.2.2.1 s.2.2.2.1 s.2.2.2.2 = (fun (k : Nat) (s : WSt) => spec_LargestWhole.l0 k hl s.1 ((a + 1 : Nat) : Int) w h l s.2.1 s.2.2.1 s.2.2.2.1 s.2.2.2.2) k (step0 hl w h s a) := by
  refine nest_loop (fun k (s : WSt) b => spec_LargestWhole.l1 k hl s.1 a b w h l s.2.1 s.2.2.1 s.2.2.2.1 s.2.2.2.2) (fun k (s : WSt) => spec_LargestWhole.l0 k hl s.1 ((a + 1 : Nat) : Int) w h l s.2.1 s.2.2.1 s.2.2.2.1 s.2.2.2.2) (step1 hl w h a) w (hl.length + 1) (fun b s hb2 => ?_) (fun k s => ?_) w 0 s (by omega)
  · obtain ⟨q, hq⟩ := wl2S hb (h := h) hw hh l a b s (by omega) hb2
    refine ⟨q + 1, fun k hk => ?_⟩
    show spec_LargestWhole.l1 (k + q + 1) hl s.1 a b w h l s.2.1 s.2.2.1 s.2.2.2.1 s.2.2.2.2 = _
    simp only [spec_LargestWhole.l1]
    rw [if_pos (by omega), hq k hk]
  · simp only [spec_LargestWhole.l1]
    rw [if_neg (by omega), wstep (n := 9) (by omega) (by omega)]
def largestF (hl : List S39) (w h : Nat) : WSt := (List.range' 0 h).foldl (step0 hl w h) (0, 0, 0, 0, 0)
def largestM (w h : Int) (l : List Int) (hl : List S39) : Int × Int × Int × Int × Int × Bool :=
  if holesB w h l hl then (let s := largestF hl w.toNat h.toNat; (s.2.1, s.2.2.1, s.2.2.2.1, s.2.2.2.2, s.1, decide (s.1 > 0))) else (0, 0, 0, 0, 0, false)
theorem largestS_ex {w h : Int} {l : List Int} {hl : List S39} (hl0 : l.length ≤ 1048576) (hb : hl.length ≤ 1048576) : ∃ k0, ∀ k, k0 ≤ k → spec_LargestWhole.f k w h l hl = some (largestM w h l hl) := by
  cases hg : holesB w h l hl
  · refine ⟨(hl.length + 1) * (hl.length + l.length + 10) + 1, fun k hk => ?_⟩
    simp only [spec_LargestWhole.f, holesS_eq (k := k) (w := w) (h := h) (l := l) (hl := hl) (by omega) hl0 hb, hg, Option.bind_some, largestM]
    simp
  obtain ⟨hc, h8, hx⟩ := holes_of hg
  have hcw := chart_of hc
  obtain ⟨w', rfl⟩ := nat_of (show 0 ≤ w by omega)
  obtain ⟨h', rfl⟩ := nat_of (show 0 ≤ h by omega)
  obtain ⟨q, hq⟩ := nest_loop (fun k (s : WSt) a => spec_LargestWhole.l0 k hl s.1 a (w' : Int) (h' : Int) l s.2.1 s.2.2.1 s.2.2.2.1 s.2.2.2.2) (fun k (s : WSt) => some (s.2.1, s.2.2.1, s.2.2.2.1, s.2.2.2.2, s.1, decide (s.1 > 0))) (step0 hl w' h') h' (hl.length + 1)
    (fun a s ha => by
      obtain ⟨q, hq⟩ := wl1S hb (w := w') (h := h') (by omega) (by omega) l a s ha
      refine ⟨q + 1, fun k hk => ?_⟩
      show spec_LargestWhole.l0 (k + q + 1) hl s.1 a (w' : Int) (h' : Int) l s.2.1 s.2.2.1 s.2.2.2.1 s.2.2.2.2 = _
      simp only [spec_LargestWhole.l0]
      rw [if_pos (by omega), hq k hk])
    (fun k s => by
      simp only [spec_LargestWhole.l0]
      rw [if_neg (by omega)])
    h' 0 (0, 0, 0, 0, 0) (by omega)
  refine ⟨(hl.length + 1) * (hl.length + l.length + 10) + 1 + (hl.length + 1 + q), fun k hk => ?_⟩
  simp only [spec_LargestWhole.f, holesS_eq (k := k) (w := (w' : Int)) (h := (h' : Int)) (l := l) (hl := hl) (by omega) hl0 hb, hg, Option.bind_some, largestM, if_true]
  obtain ⟨k2, rfl, hk2⟩ : ∃ k2, k = k2 + q ∧ hl.length + 1 ≤ k2 := ⟨k - q, by omega, by omega⟩
  have := hq k2 hk2
  simpa [largestF] using this

end Go.Proofs.Ytbfhphobnngeaaa.Pure

-- QwholeI
namespace Go.Proofs.Ytbfhphobnngeaaa.Pure
open Go Go.RowKit Go.Proofs Go.Proofs.Ytbfhphobnngeaaa.X Go.Proofs.YtbfhphobnngeaaaW.PrintWords Go.Proofs.YtbfhphobnngeaaaW.PrintLast
set_option linter.unusedVariables false
set_option linter.unusedSimpArgs false

theorem wl3I {hl : List S39} (hb : hl.length ≤ 1048576) {w h : Nat} (hw : w ≤ 8) (l : List Int) (a b c : Nat) (s : WSt) (hbw : b ≤ w) (hc : c ≤ 8) :
    ∃ q, ∀ k, hl.length + 1 ≤ k → impl_LargestWhole.l3 (k + q) hl s.1 a b c b h a w b w h l s.2.1 s.2.2.1 s.2.2.2.1 s.2.2.2.2 = (fun (k : Nat) (s : WSt) => impl_LargestWhole.l2 k hl s.1 a b ((c + 1 : Nat) : Int) h a w b w h l s.2.1 s.2.2.1 s.2.2.2.1 s.2.2.2.2) k (step2 hl w a b s c) := by
  refine nest_loop (fun k (s : WSt) d => impl_LargestWhole.l3 k hl s.1 a b c d h a w b w h l s.2.1 s.2.2.1 s.2.2.2.1 s.2.2.2.2) (fun k (s : WSt) => impl_LargestWhole.l2 k hl s.1 a b ((c + 1 : Nat) : Int) h a w b w h l s.2.1 s.2.2.1 s.2.2.2.1 s.2.2.2.2) (step3 hl a b c) w (hl.length + 1) (fun d s hd => ⟨1, fun k hk => ?_⟩) (fun k s => ?_) (w - b) b s (by omega)
  · simp only [impl_LargestWhole.l3, impl_Hole_knots.f, Option.bind_some]
    have hwh := wholeI_eq hl ⟨(a : Int), (b : Int), (c : Int), (d : Int)⟩
    simp only at hwh
    rw [if_pos (by omega), wstep hd (by omega), hwh]
    simp only [Option.bind_some]
    unfold step3 knotsW
    split
    · cases wholeB hl ⟨(a : Int), (b : Int), (c : Int), (d : Int)⟩ <;> simp
    · rfl
  · simp only [impl_LargestWhole.l3]
    rw [if_neg (by omega), wstep (n := 9) (by omega) (by omega)]
theorem wl2I {hl : List S39} (hb : hl.length ≤ 1048576) {w h : Nat} (hw : w ≤ 8) (hh : h ≤ 8) (l : List Int) (a b : Nat) (s : WSt) (hah : a ≤ h) (hbw : b < w) :
    ∃ q, ∀ k, hl.length + 1 ≤ k → impl_LargestWhole.l2 (k + q) hl s.1 a b a h a w b w h l s.2.1 s.2.2.1 s.2.2.2.1 s.2.2.2.2 = (fun (k : Nat) (s : WSt) => impl_LargestWhole.l1 k hl s.1 a h a w ((b + 1 : Nat) : Int) w h l s.2.1 s.2.2.1 s.2.2.2.1 s.2.2.2.2) k (step1 hl w h a s b) := by
  refine nest_loop (fun k (s : WSt) c => impl_LargestWhole.l2 k hl s.1 a b c h a w b w h l s.2.1 s.2.2.1 s.2.2.2.1 s.2.2.2.2) (fun k (s : WSt) => impl_LargestWhole.l1 k hl s.1 a h a w ((b + 1 : Nat) : Int) w h l s.2.1 s.2.2.1 s.2.2.2.1 s.2.2.2.2) (step2 hl w a b) h (hl.length + 1) (fun c s hc => ?_) (fun k s => ?_) (h - a) a s (by omega)
  · obtain ⟨q, hq⟩ := wl3I hb (h := h) hw l a b c s (by omega) (by omega)
    refine ⟨q + 1, fun k hk => ?_⟩
    show impl_LargestWhole.l2 (k + q + 1) hl s.1 a b c h a w b w h l s.2.1 s.2.2.1 s.2.2.2.1 s.2.2.2.2 = _
    simp only [impl_LargestWhole.l2]
    rw [if_pos (by omega), hq k hk]
  · simp only [impl_LargestWhole.l2]
    rw [if_neg (by omega), wstep (n := 9) (by omega) (by omega)]
theorem wl1I {hl : List S39} (hb : hl.length ≤ 1048576) {w h : Nat} (hw : w ≤ 8) (hh : h ≤ 8) (l : List Int) (a : Nat) (s : WSt) (hah : a < h) :
    ∃ q, ∀ k, hl.length + 1 ≤ k → impl_LargestWhole.l1 (k + q) hl s.1 a h a w 0 w h l s.2.1 s.2.2.1 s.2.2.2.1 s.2.2.2.2 = (fun (k : Nat) (s : WSt) => impl_LargestWhole.l0 k hl s.1 h ((a + 1 : Nat) : Int) w h l s.2.1 s.2.2.1 s.2.2.2.1 s.2.2.2.2) k (step0 hl w h s a) := by
  refine nest_loop (fun k (s : WSt) b => impl_LargestWhole.l1 k hl s.1 a h a w b w h l s.2.1 s.2.2.1 s.2.2.2.1 s.2.2.2.2) (fun k (s : WSt) => impl_LargestWhole.l0 k hl s.1 h ((a + 1 : Nat) : Int) w h l s.2.1 s.2.2.1 s.2.2.2.1 s.2.2.2.2) (step1 hl w h a) w (hl.length + 1) (fun b s hb2 => ?_) (fun k s => ?_) w 0 s (by omega)
  · obtain ⟨q, hq⟩ := wl2I hb (h := h) hw hh l a b s (by omega) hb2
    refine ⟨q + 1, fun k hk => ?_⟩
    show impl_LargestWhole.l1 (k + q + 1) hl s.1 a h a w b w h l s.2.1 s.2.2.1 s.2.2.2.1 s.2.2.2.2 = _
    simp only [impl_LargestWhole.l1]
    rw [if_pos (by omega), hq k hk]
  · simp only [impl_LargestWhole.l1]
    rw [if_neg (by omega), wstep (n := 9) (by omega) (by omega)]
theorem largestI_ex {w h : Int} {l : List Int} {hl : List S39} (hb : hl.length ≤ 1048576) : ∃ k0, ∀ k, k0 ≤ k → impl_LargestWhole.f k w h l hl = some (largestM w h l hl) := by
  cases hg : holesB w h l hl
  · refine ⟨hl.length + 20, fun k hk => ?_⟩
    simp only [impl_LargestWhole.f, AreHoles_eq (k := k) (w := w) (h := h) (l := l) (hl := hl) (by omega) hb, hg, Option.bind_some, largestM]
    simp
  obtain ⟨hc, h8, hx⟩ := holes_of hg
  have hcw := chart_of hc
  obtain ⟨w', rfl⟩ := nat_of (show 0 ≤ w by omega)
  obtain ⟨h', rfl⟩ := nat_of (show 0 ≤ h by omega)
  obtain ⟨q, hq⟩ := nest_loop (fun k (s : WSt) a => impl_LargestWhole.l0 k hl s.1 (h' : Int) a (w' : Int) (h' : Int) l s.2.1 s.2.2.1 s.2.2.2.1 s.2.2.2.2) (fun k (s : WSt) => some (s.2.1, s.2.2.1, s.2.2.2.1, s.2.2.2.2, s.1, decide (s.1 > 0))) (step0 hl w' h') h' (hl.length + 1)
    (fun a s ha => by
      obtain ⟨q, hq⟩ := wl1I hb (w := w') (h := h') (by omega) (by omega) l a s ha
      refine ⟨q + 1, fun k hk => ?_⟩
      show impl_LargestWhole.l0 (k + q + 1) hl s.1 (h' : Int) a (w' : Int) (h' : Int) l s.2.1 s.2.2.1 s.2.2.2.1 s.2.2.2.2 = _
      simp only [impl_LargestWhole.l0]
      rw [if_pos (by omega), hq k hk])
    (fun k s => by
      simp only [impl_LargestWhole.l0]
      rw [if_neg (by omega)])
    h' 0 (0, 0, 0, 0, 0) (by omega)
  refine ⟨hl.length + 20 + (hl.length + 1 + q), fun k hk => ?_⟩
  simp only [impl_LargestWhole.f, AreHoles_eq (k := k) (w := (w' : Int)) (h := (h' : Int)) (l := l) (hl := hl) (by omega) hb, hg, Option.bind_some, largestM, if_true]
  obtain ⟨k2, rfl, hk2⟩ : ∃ k2, k = k2 + q ∧ hl.length + 1 ≤ k2 := ⟨k - q, by omega, by omega⟩
  have := hq k2 hk2
  simpa [largestF] using this

end Go.Proofs.Ytbfhphobnngeaaa.Pure

-- PureFnExactLargestWhole
namespace Go.Proofs.Ytbfhphobnngeaaa.Pure
open Go Go.RowKit Go.Proofs Go.Proofs.Ytbfhphobnngeaaa.X Go.Proofs.YtbfhphobnngeaaaW.PrintWords Go.Proofs.YtbfhphobnngeaaaW.PrintLast
set_option linter.unusedVariables false
set_option linter.unusedSimpArgs false

theorem FnExactLargestWhole : laws_FnExactLargestWhole.Pure := by
  intro w h l fl _ _ hl hf
  obtain ⟨k1, e1⟩ : ∃ k0, ∀ k, k0 ≤ k → l.length ≤ 1048576 → (fl.map toHole).length ≤ 1048576 → spec_LargestWhole.f k w h l (fl.map toHole) = some (largestM w h l (fl.map toHole)) := by
    by_cases g : l.length ≤ 1048576 ∧ (fl.map toHole).length ≤ 1048576
    · obtain ⟨k0, hk⟩ := largestS_ex (w := w) (h := h) (l := l) (hl := fl.map toHole) g.1 g.2
      exact ⟨k0, fun k h1 _ _ => hk k h1⟩
    · exact ⟨0, fun k _ a b => absurd ⟨a, b⟩ g⟩
  obtain ⟨k2, e2⟩ : ∃ k0, ∀ k, k0 ≤ k → (fl.map toHole).length ≤ 1048576 → impl_LargestWhole.f k w h l (fl.map toHole) = some (largestM w h l (fl.map toHole)) := by
    by_cases g : (fl.map toHole).length ≤ 1048576
    · obtain ⟨k0, hk⟩ := largestI_ex (w := w) (h := h) (l := l) (hl := fl.map toHole) g
      exact ⟨k0, fun k h1 _ => hk k h1⟩
    · exact ⟨0, fun k _ b => absurd b g⟩
  obtain ⟨k, hk, hk1, hk2⟩ : ∃ k, 4000000 < k ∧ k1 ≤ k ∧ k2 ≤ k := ⟨k1 + k2 + 4000001, by omega, by omega, by omega⟩
  refine ⟨k + 1, ?_⟩
  simp only [laws_FnExactLargestWhole.f, szChart_eq hl.1 (show (0 : Int) ≤ 1048576 ∧ (1048576 : Int) ≤ 9223372036854775807 by omega), Option.bind_some]
  by_cases hs : (1048576 : Int) < l.length
  · simp [hs]
  rw [if_neg hs, if_neg (by omega), szHoleS_eq hf.1 (by omega)]
  simp only [Option.bind_some]
  by_cases hs2 : (1048576 : Int) - l.length < fl.length
  · simp [hs2]
  rw [if_neg hs2, if_neg (by omega)]
  have h1 : l.length ≤ 1048576 := by omega
  have h2 : fl.length ≤ 1048576 := by omega
  have h3 : (fl.map toHole).length ≤ 1048576 := by rw [List.length_map]; exact h2
  simp only [toChart_eq (k := k + 1) (w := w) (h := h) (l := l) (by omega) h1, toHoleS_eq (k := k + 1) (l := fl) (by omega) h2, Option.bind_some, e1 (k + 1) (by omega) h1 h3, e2 (k + 1) (by omega) h3, eqHole_refl, if_true, bne_self_eq_false, laws_FnExactLargestWhole.j0, Bool.false_eq_true, if_false, toChart_eq (k := k) (w := w) (h := h) (l := l) (by omega) h1, toHoleS_eq (k := k) (l := fl) (by omega) h2, eqChart_refl (k := k) (w := w) (h := h) (l := l) (by omega) h1, eqHoleS_refl (k := k) (l := fl.map toHole) (by omega) (by omega)]

end Go.Proofs.Ytbfhphobnngeaaa.Pure
