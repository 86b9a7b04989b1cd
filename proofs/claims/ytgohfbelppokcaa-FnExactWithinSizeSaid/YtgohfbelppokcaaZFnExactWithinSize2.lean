/- What the law FnExactWithinSize needs, part 3 of 3: what each function of the program that it reaches returns (printed by this session's own program, checked by Lean), and plain mathematics about it. Conditions: those of each theorem. -/
import Derived.Test.YtgohfbelppokcaaZFnExactWithinSize1
import Derived.Test.YtgohfbelppokcaaWWords
import Derived.ProofKit
import Derived.WideShapes
-- XspecSkewOfF27
namespace Go.Proofs.Ytgohfbelppokcaa.X
open Ho (bS eS)
open Go.RowKit Go.Proofs.YtgohfbelppokcaaW.PrintWords Go.Proofs.YtgohfbelppokcaaW.PrintLast Go.Proofs.YtgohfbelppokcaaW.PrintMore
attribute [local go_sem] max2_int min2_int max_two min_two max_three min_three max_four min_four   -- for this text's walks alone
set_option linter.unusedVariables false
set_option linter.unusedSimpArgs false

/-! ### spec_SkewOf: function 27 -/
def spec_SkewOf.f (k : Nat) (a0_0 : Int) (a0_1 : Int) (a0_2 : Int) (a0_3 : Int) : Option (Int × Int × Bool) := (spec_l15Measure.f a0_0 a0_1 a0_2 a0_3).bind fun t102 => (if t102 = true then ((spec_l1Most.f (wrap64 (a0_0 - a0_1)) (wrap64 (a0_1 - a0_0))).bind fun t103 => ((spec_l1Most.f (wrap64 (a0_2 - a0_3)) (wrap64 (a0_3 - a0_2))).bind fun t104 => (if (wrap64 (t104 * (wrap64 (a0_0 + a0_1)))) > (wrap64 (t103 * (wrap64 (a0_2 + a0_3)))) then ((spec_l2Reduce.f k t104 (wrap64 (a0_2 + a0_3))).bind fun bt105 => (some (bt105.1, bt105.2, true))) else ((spec_l2Reduce.f k t103 (wrap64 (a0_0 + a0_1))).bind fun bt107 => (some (bt107.1, bt107.2, true)))))) else (some (0, 0, false)))
theorem spec_SkewOf.mono : ∀ a0 a1 a2 a3 k, LeO (spec_SkewOf.f k a0 a1 a2 a3) (spec_SkewOf.f (k + 1) a0 a1 a2 a3) := by
  intro a0 a1 a2 a3 k
  unfold spec_SkewOf.f
  repeat' first
      | (with_reducible exact spec_l2Reduce.mono _ _ _)
      | (with_reducible exact LeO.refl _)
      | (with_reducible exact LeO.none _)
      | (with_reducible refine LeO.ite ?_ ?_)
      | (with_reducible refine LeO.bind ?_ (fun _ => ?_))
      | exact spec_l2Reduce.mono _ _ _
      | exact LeO.none _
      | refine LeO.ite ?_ ?_
      | refine LeO.bind ?_ (fun _ => ?_)
set_option maxHeartbeats 8000000 in
set_option maxRecDepth 100000 in
theorem spec_SkewOf.calls (k : Nat) (a0_0 : Int) (a0_1 : Int) (a0_2 : Int) (a0_3 : Int) (r1 : Int) (r2 : Int) (r3 : Bool) (w : World) (h : spec_SkewOf.f k a0_0 a0_1 a0_2 a0_3 = some (r1, r2, r3)) :
    Calls Try.prog 27 #[.agg #[.int .i64 a0_0, .int .i64 a0_1, .int .i64 a0_2, .int .i64 a0_3]] w fun e w' => e = .returned (.tuple #[.int .i64 r1, .int .i64 r2, .bool r3]) ∧ Below w.heap.size w w' := by
  have hu36 := Try.underlying36
  have HB := Aside0.mk (Below.refl w.heap.size w)
  have H : ((spec_l15Measure.f a0_0 a0_1 a0_2 a0_3).bind fun t102 => (if t102 = true then ((spec_l1Most.f (wrap64 (a0_0 - a0_1)) (wrap64 (a0_1 - a0_0))).bind fun t103 => ((spec_l1Most.f (wrap64 (a0_2 - a0_3)) (wrap64 (a0_3 - a0_2))).bind fun t104 => (if (wrap64 (t104 * (wrap64 (a0_0 + a0_1)))) > (wrap64 (t103 * (wrap64 (a0_2 + a0_3)))) then ((spec_l2Reduce.f k t104 (wrap64 (a0_2 + a0_3))).bind fun bt105 => (some (bt105.1, bt105.2, true))) else ((spec_l2Reduce.f k t103 (wrap64 (a0_0 + a0_1))).bind fun bt107 => (some (bt107.1, bt107.2, true)))))) else (some (0, 0, false)))) = some (r1, r2, r3) := h
  clear h
  replace H := Option.bind_eq_some_iff.mp H
  obtain ⟨t102, A20, H⟩ := H
  replace H : (if t102 = true then ((spec_l1Most.f (wrap64 (a0_0 - a0_1)) (wrap64 (a0_1 - a0_0))).bind fun t103 => ((spec_l1Most.f (wrap64 (a0_2 - a0_3)) (wrap64 (a0_3 - a0_2))).bind fun t104 => (if (wrap64 (t104 * (wrap64 (a0_0 + a0_1)))) > (wrap64 (t103 * (wrap64 (a0_2 + a0_3)))) then ((spec_l2Reduce.f k t104 (wrap64 (a0_2 + a0_3))).bind fun bt105 => (some (bt105.1, bt105.2, true))) else ((spec_l2Reduce.f k t103 (wrap64 (a0_0 + a0_1))).bind fun bt107 => (some (bt107.1, bt107.2, true)))))) else (some (0, 0, false))) = some (r1, r2, r3) := H
  have A2 := Aside0.mk A20
  clear A20
  by_cases c3 : t102 = true
  · subst c3
    have H1 : ((spec_l1Most.f (wrap64 (a0_0 - a0_1)) (wrap64 (a0_1 - a0_0))).bind fun t103 => ((spec_l1Most.f (wrap64 (a0_2 - a0_3)) (wrap64 (a0_3 - a0_2))).bind fun t104 => (if (wrap64 (t104 * (wrap64 (a0_0 + a0_1)))) > (wrap64 (t103 * (wrap64 (a0_2 + a0_3)))) then ((spec_l2Reduce.f k t104 (wrap64 (a0_2 + a0_3))).bind fun bt105 => (some (bt105.1, bt105.2, true))) else ((spec_l2Reduce.f k t103 (wrap64 (a0_0 + a0_1))).bind fun bt107 => (some (bt107.1, bt107.2, true)))))) = some (r1, r2, r3) := by rw [if_pos rfl] at H; exact H
    clear H
    have H := H1
    clear H1
    replace H := Option.bind_eq_some_iff.mp H
    obtain ⟨t103, A40, H⟩ := H
    replace H : ((spec_l1Most.f (wrap64 (a0_2 - a0_3)) (wrap64 (a0_3 - a0_2))).bind fun t104 => (if (wrap64 (t104 * (wrap64 (a0_0 + a0_1)))) > (wrap64 (t103 * (wrap64 (a0_2 + a0_3)))) then ((spec_l2Reduce.f k t104 (wrap64 (a0_2 + a0_3))).bind fun bt105 => (some (bt105.1, bt105.2, true))) else ((spec_l2Reduce.f k t103 (wrap64 (a0_0 + a0_1))).bind fun bt107 => (some (bt107.1, bt107.2, true))))) = some (r1, r2, r3) := H
    have A4 := Aside0.mk A40
    clear A40
    replace H := Option.bind_eq_some_iff.mp H
    obtain ⟨t104, A50, H⟩ := H
    replace H : (if (wrap64 (t104 * (wrap64 (a0_0 + a0_1)))) > (wrap64 (t103 * (wrap64 (a0_2 + a0_3)))) then ((spec_l2Reduce.f k t104 (wrap64 (a0_2 + a0_3))).bind fun bt105 => (some (bt105.1, bt105.2, true))) else ((spec_l2Reduce.f k t103 (wrap64 (a0_0 + a0_1))).bind fun bt107 => (some (bt107.1, bt107.2, true)))) = some (r1, r2, r3) := H
    have A5 := Aside0.mk A50
    clear A50
    by_cases c6 : (wrap64 (t104 * (wrap64 (a0_0 + a0_1)))) > (wrap64 (t103 * (wrap64 (a0_2 + a0_3))))
    · rw [if_pos c6] at H
      have c6b0 : decide ((wrap64 (t103 * (wrap64 (a0_2 + a0_3)))) < (wrap64 (t104 * (wrap64 (a0_0 + a0_1))))) = true := decide_eq_true c6
      clear c6
      replace H := Option.bind_eq_some_iff.mp H
      obtain ⟨⟨t105, t106⟩, A70, H⟩ := H
      replace H : (some (t105, t106, true)) = some (r1, r2, r3) := H
      have A7 := Aside0.mk A70
      clear A70
      simp only [Option.some.injEq, Prod.mk.injEq] at H
      obtain ⟨rfl, rfl, rfl⟩ := H
      go_enter Try.func27, Try.ntmps27
      go_wp2_with (first | ((with_reducible refine gate_dst (N := 1) rfl ?_); refine box_event ?hg (N := 1) ?hd (cs := #[.int .i64 a0_0, .int .i64 a0_1, .int .i64 a0_2, .int .i64 a0_3]) (t := 36) ?hr ?_; (case hd => rfl); (case hg => rfl); (case hr => first | (go_simp; done) | (go_simp; rfl)); intro gb101 hg w8 hbox hb; have n0_ := Aside0.mk (below_step (by exact eS HB.out) hb); have n1_ := Aside0.mk (hbox); have n2_ := Aside0.mk ((by rw [hg]; exact (below_size (by exact eS HB.out)) : w.heap.size ≤ gb101)); have n3_ := Aside0.mk ((by rw [hg]; exact (below_size (by exact eS HB.out)) : w.heap.size ≤ gb101)); clear HB; have HB := n0_; have BK101 := n1_; have GW101 := n2_; have GE101 := n3_; clear n0_ n1_ n2_ n3_; clear hb hbox hg; have hcz9_0 : w8.cell? ⟨gb101, 0, none⟩ = some (.int .i64 a0_0) := (blk_cell BK101.out 0).trans rfl; have hcz9_1 : w8.cell? ⟨gb101, 1, none⟩ = some (.int .i64 a0_1) := (blk_cell BK101.out 1).trans rfl; have hcz9_2 : w8.cell? ⟨gb101, 2, none⟩ = some (.int .i64 a0_2) := (blk_cell BK101.out 2).trans rfl; have hcz9_3 : w8.cell? ⟨gb101, 3, none⟩ = some (.int .i64 a0_3) := (blk_cell BK101.out 3).trans rfl; have hfz9_0 := blk_frozen BK101.out 0; have hfz9_1 := blk_frozen BK101.out 1; have hfz9_2 := blk_frozen BK101.out 2; have hfz9_3 := blk_frozen BK101.out 3) | (go_at_call 51; (with_reducible refine (spec_l15Measure.calls a0_0 a0_1 a0_2 a0_3 true _ A2.out).mono ?_); rintro e w10 ⟨rfl, hb⟩; have n0_ := Aside0.mk (blk_below (bS BK101.out) hb); have n1_ := Aside0.mk (below_step (by exact eS HB.out) hb); clear BK101; clear HB; have BK101 := n0_; have HB := n1_; clear n0_ n1_; (try clear hb); (try clear hb2); (try clear hk); (try clear hi); have hcz11_0 : w10.cell? ⟨gb101, 0, none⟩ = some (.int .i64 a0_0) := (blk_cell BK101.out 0).trans rfl; have hcz11_1 : w10.cell? ⟨gb101, 1, none⟩ = some (.int .i64 a0_1) := (blk_cell BK101.out 1).trans rfl; have hcz11_2 : w10.cell? ⟨gb101, 2, none⟩ = some (.int .i64 a0_2) := (blk_cell BK101.out 2).trans rfl; have hcz11_3 : w10.cell? ⟨gb101, 3, none⟩ = some (.int .i64 a0_3) := (blk_cell BK101.out 3).trans rfl; have hfz11_0 := blk_frozen BK101.out 0; have hfz11_1 := blk_frozen BK101.out 1; have hfz11_2 := blk_frozen BK101.out 2; have hfz11_3 := blk_frozen BK101.out 3) | (go_at_call 53; (with_reducible refine (spec_l1Most.calls (wrap64 (a0_0 - a0_1)) (wrap64 (a0_1 - a0_0)) t103 _ A4.out).mono ?_); rintro e w' ⟨rfl, ⟨nd, rfl⟩⟩; (try first | exact ⟨rfl, _, World.drewN_drewN _ _ _⟩ | exact ⟨rfl, _, Eq.trans (World.drewN_drewN _ _ _) (congrArg (World.drewN _) (Nat.add_assoc _ _ _))⟩)) | (go_at_call 53; (with_reducible refine (spec_l1Most.calls (wrap64 (a0_2 - a0_3)) (wrap64 (a0_3 - a0_2)) t104 _ A5.out).mono ?_); rintro e w' ⟨rfl, ⟨nd, rfl⟩⟩; (try first | exact ⟨rfl, _, World.drewN_drewN _ _ _⟩ | exact ⟨rfl, _, Eq.trans (World.drewN_drewN _ _ _) (congrArg (World.drewN _) (Nat.add_assoc _ _ _))⟩)) | (go_at_call 55; (with_reducible refine (spec_l2Reduce.calls k t104 (wrap64 (a0_2 + a0_3)) t105 t106 _ A7.out).mono ?_); rintro e w' ⟨rfl, ⟨nd, rfl⟩⟩; (try first | exact ⟨rfl, _, World.drewN_drewN _ _ _⟩ | exact ⟨rfl, _, Eq.trans (World.drewN_drewN _ _ _) (congrArg (World.drewN _) (Nat.add_assoc _ _ _))⟩)))
      repeat (go_quiet (first | ((with_reducible refine gate_dst (N := 1) rfl ?_); refine box_event ?hg (N := 1) ?hd (cs := #[.int .i64 a0_0, .int .i64 a0_1, .int .i64 a0_2, .int .i64 a0_3]) (t := 36) ?hr ?_; (case hd => rfl); (case hg => rfl); (case hr => first | (go_simp; done) | (go_simp; rfl)); intro gb101 hg w8 hbox hb; have n0_ := Aside0.mk (below_step (by exact eS HB.out) hb); have n1_ := Aside0.mk (hbox); have n2_ := Aside0.mk ((by rw [hg]; exact (below_size (by exact eS HB.out)) : w.heap.size ≤ gb101)); have n3_ := Aside0.mk ((by rw [hg]; exact (below_size (by exact eS HB.out)) : w.heap.size ≤ gb101)); clear HB; have HB := n0_; have BK101 := n1_; have GW101 := n2_; have GE101 := n3_; clear n0_ n1_ n2_ n3_; clear hb hbox hg; have hcz9_0 : w8.cell? ⟨gb101, 0, none⟩ = some (.int .i64 a0_0) := (blk_cell BK101.out 0).trans rfl; have hcz9_1 : w8.cell? ⟨gb101, 1, none⟩ = some (.int .i64 a0_1) := (blk_cell BK101.out 1).trans rfl; have hcz9_2 : w8.cell? ⟨gb101, 2, none⟩ = some (.int .i64 a0_2) := (blk_cell BK101.out 2).trans rfl; have hcz9_3 : w8.cell? ⟨gb101, 3, none⟩ = some (.int .i64 a0_3) := (blk_cell BK101.out 3).trans rfl; have hfz9_0 := blk_frozen BK101.out 0; have hfz9_1 := blk_frozen BK101.out 1; have hfz9_2 := blk_frozen BK101.out 2; have hfz9_3 := blk_frozen BK101.out 3) | (go_at_call 51; (with_reducible refine (spec_l15Measure.calls a0_0 a0_1 a0_2 a0_3 true _ A2.out).mono ?_); rintro e w10 ⟨rfl, hb⟩; have n0_ := Aside0.mk (blk_below (bS BK101.out) hb); have n1_ := Aside0.mk (below_step (by exact eS HB.out) hb); clear BK101; clear HB; have BK101 := n0_; have HB := n1_; clear n0_ n1_; (try clear hb); (try clear hb2); (try clear hk); (try clear hi); have hcz11_0 : w10.cell? ⟨gb101, 0, none⟩ = some (.int .i64 a0_0) := (blk_cell BK101.out 0).trans rfl; have hcz11_1 : w10.cell? ⟨gb101, 1, none⟩ = some (.int .i64 a0_1) := (blk_cell BK101.out 1).trans rfl; have hcz11_2 : w10.cell? ⟨gb101, 2, none⟩ = some (.int .i64 a0_2) := (blk_cell BK101.out 2).trans rfl; have hcz11_3 : w10.cell? ⟨gb101, 3, none⟩ = some (.int .i64 a0_3) := (blk_cell BK101.out 3).trans rfl; have hfz11_0 := blk_frozen BK101.out 0; have hfz11_1 := blk_frozen BK101.out 1; have hfz11_2 := blk_frozen BK101.out 2; have hfz11_3 := blk_frozen BK101.out 3) | (go_at_call 53; (with_reducible refine (spec_l1Most.calls (wrap64 (a0_0 - a0_1)) (wrap64 (a0_1 - a0_0)) t103 _ A4.out).mono ?_); rintro e w' ⟨rfl, ⟨nd, rfl⟩⟩; (try first | exact ⟨rfl, _, World.drewN_drewN _ _ _⟩ | exact ⟨rfl, _, Eq.trans (World.drewN_drewN _ _ _) (congrArg (World.drewN _) (Nat.add_assoc _ _ _))⟩)) | (go_at_call 53; (with_reducible refine (spec_l1Most.calls (wrap64 (a0_2 - a0_3)) (wrap64 (a0_3 - a0_2)) t104 _ A5.out).mono ?_); rintro e w' ⟨rfl, ⟨nd, rfl⟩⟩; (try first | exact ⟨rfl, _, World.drewN_drewN _ _ _⟩ | exact ⟨rfl, _, Eq.trans (World.drewN_drewN _ _ _) (congrArg (World.drewN _) (Nat.add_assoc _ _ _))⟩)) | (go_at_call 55; (with_reducible refine (spec_l2Reduce.calls k t104 (wrap64 (a0_2 + a0_3)) t105 t106 _ A7.out).mono ?_); rintro e w' ⟨rfl, ⟨nd, rfl⟩⟩; (try first | exact ⟨rfl, _, World.drewN_drewN _ _ _⟩ | exact ⟨rfl, _, Eq.trans (World.drewN_drewN _ _ _) (congrArg (World.drewN _) (Nat.add_assoc _ _ _))⟩))); try go_wp2_with (first | ((with_reducible refine gate_dst (N := 1) rfl ?_); refine box_event ?hg (N := 1) ?hd (cs := #[.int .i64 a0_0, .int .i64 a0_1, .int .i64 a0_2, .int .i64 a0_3]) (t := 36) ?hr ?_; (case hd => rfl); (case hg => rfl); (case hr => first | (go_simp; done) | (go_simp; rfl)); intro gb101 hg w8 hbox hb; have n0_ := Aside0.mk (below_step (by exact eS HB.out) hb); have n1_ := Aside0.mk (hbox); have n2_ := Aside0.mk ((by rw [hg]; exact (below_size (by exact eS HB.out)) : w.heap.size ≤ gb101)); have n3_ := Aside0.mk ((by rw [hg]; exact (below_size (by exact eS HB.out)) : w.heap.size ≤ gb101)); clear HB; have HB := n0_; have BK101 := n1_; have GW101 := n2_; have GE101 := n3_; clear n0_ n1_ n2_ n3_; clear hb hbox hg; have hcz9_0 : w8.cell? ⟨gb101, 0, none⟩ = some (.int .i64 a0_0) := (blk_cell BK101.out 0).trans rfl; have hcz9_1 : w8.cell? ⟨gb101, 1, none⟩ = some (.int .i64 a0_1) := (blk_cell BK101.out 1).trans rfl; have hcz9_2 : w8.cell? ⟨gb101, 2, none⟩ = some (.int .i64 a0_2) := (blk_cell BK101.out 2).trans rfl; have hcz9_3 : w8.cell? ⟨gb101, 3, none⟩ = some (.int .i64 a0_3) := (blk_cell BK101.out 3).trans rfl; have hfz9_0 := blk_frozen BK101.out 0; have hfz9_1 := blk_frozen BK101.out 1; have hfz9_2 := blk_frozen BK101.out 2; have hfz9_3 := blk_frozen BK101.out 3) | (go_at_call 51; (with_reducible refine (spec_l15Measure.calls a0_0 a0_1 a0_2 a0_3 true _ A2.out).mono ?_); rintro e w10 ⟨rfl, hb⟩; have n0_ := Aside0.mk (blk_below (bS BK101.out) hb); have n1_ := Aside0.mk (below_step (by exact eS HB.out) hb); clear BK101; clear HB; have BK101 := n0_; have HB := n1_; clear n0_ n1_; (try clear hb); (try clear hb2); (try clear hk); (try clear hi); have hcz11_0 : w10.cell? ⟨gb101, 0, none⟩ = some (.int .i64 a0_0) := (blk_cell BK101.out 0).trans rfl; have hcz11_1 : w10.cell? ⟨gb101, 1, none⟩ = some (.int .i64 a0_1) := (blk_cell BK101.out 1).trans rfl; have hcz11_2 : w10.cell? ⟨gb101, 2, none⟩ = some (.int .i64 a0_2) := (blk_cell BK101.out 2).trans rfl; have hcz11_3 : w10.cell? ⟨gb101, 3, none⟩ = some (.int .i64 a0_3) := (blk_cell BK101.out 3).trans rfl; have hfz11_0 := blk_frozen BK101.out 0; have hfz11_1 := blk_frozen BK101.out 1; have hfz11_2 := blk_frozen BK101.out 2; have hfz11_3 := blk_frozen BK101.out 3) | (go_at_call 53; (with_reducible refine (spec_l1Most.calls (wrap64 (a0_0 - a0_1)) (wrap64 (a0_1 - a0_0)) t103 _ A4.out).mono ?_); rintro e w' ⟨rfl, ⟨nd, rfl⟩⟩; (try first | exact ⟨rfl, _, World.drewN_drewN _ _ _⟩ | exact ⟨rfl, _, Eq.trans (World.drewN_drewN _ _ _) (congrArg (World.drewN _) (Nat.add_assoc _ _ _))⟩)) | (go_at_call 53; (with_reducible refine (spec_l1Most.calls (wrap64 (a0_2 - a0_3)) (wrap64 (a0_3 - a0_2)) t104 _ A5.out).mono ?_); rintro e w' ⟨rfl, ⟨nd, rfl⟩⟩; (try first | exact ⟨rfl, _, World.drewN_drewN _ _ _⟩ | exact ⟨rfl, _, Eq.trans (World.drewN_drewN _ _ _) (congrArg (World.drewN _) (Nat.add_assoc _ _ _))⟩)) | (go_at_call 55; (with_reducible refine (spec_l2Reduce.calls k t104 (wrap64 (a0_2 + a0_3)) t105 t106 _ A7.out).mono ?_); rintro e w' ⟨rfl, ⟨nd, rfl⟩⟩; (try first | exact ⟨rfl, _, World.drewN_drewN _ _ _⟩ | exact ⟨rfl, _, Eq.trans (World.drewN_drewN _ _ _) (congrArg (World.drewN _) (Nat.add_assoc _ _ _))⟩))))
      go_ret3
      exact ⟨by first | rfl | (simp [errW_none, errW_some] <;> rfl) | (simp [*, errW_none, errW_some] <;> rfl), by exact eS HB.out⟩
    · rw [if_neg c6] at H
      have c6b0 : decide ((wrap64 (t103 * (wrap64 (a0_2 + a0_3)))) < (wrap64 (t104 * (wrap64 (a0_0 + a0_1))))) = false := decide_eq_false c6
      clear c6
      replace H := Option.bind_eq_some_iff.mp H
      obtain ⟨⟨t107, t108⟩, A120, H⟩ := H
      replace H : (some (t107, t108, true)) = some (r1, r2, r3) := H
      have A12 := Aside0.mk A120
      clear A120
      simp only [Option.some.injEq, Prod.mk.injEq] at H
      obtain ⟨rfl, rfl, rfl⟩ := H
      go_enter Try.func27, Try.ntmps27
      go_wp2_with (first | ((with_reducible refine gate_dst (N := 1) rfl ?_); refine box_event ?hg (N := 1) ?hd (cs := #[.int .i64 a0_0, .int .i64 a0_1, .int .i64 a0_2, .int .i64 a0_3]) (t := 36) ?hr ?_; (case hd => rfl); (case hg => rfl); (case hr => first | (go_simp; done) | (go_simp; rfl)); intro gb101 hg w13 hbox hb; have n0_ := Aside0.mk (below_step (by exact eS HB.out) hb); have n1_ := Aside0.mk (hbox); have n2_ := Aside0.mk ((by rw [hg]; exact (below_size (by exact eS HB.out)) : w.heap.size ≤ gb101)); have n3_ := Aside0.mk ((by rw [hg]; exact (below_size (by exact eS HB.out)) : w.heap.size ≤ gb101)); clear HB; have HB := n0_; have BK101 := n1_; have GW101 := n2_; have GE101 := n3_; clear n0_ n1_ n2_ n3_; clear hb hbox hg; have hcz14_0 : w13.cell? ⟨gb101, 0, none⟩ = some (.int .i64 a0_0) := (blk_cell BK101.out 0).trans rfl; have hcz14_1 : w13.cell? ⟨gb101, 1, none⟩ = some (.int .i64 a0_1) := (blk_cell BK101.out 1).trans rfl; have hcz14_2 : w13.cell? ⟨gb101, 2, none⟩ = some (.int .i64 a0_2) := (blk_cell BK101.out 2).trans rfl; have hcz14_3 : w13.cell? ⟨gb101, 3, none⟩ = some (.int .i64 a0_3) := (blk_cell BK101.out 3).trans rfl; have hfz14_0 := blk_frozen BK101.out 0; have hfz14_1 := blk_frozen BK101.out 1; have hfz14_2 := blk_frozen BK101.out 2; have hfz14_3 := blk_frozen BK101.out 3) | (go_at_call 51; (with_reducible refine (spec_l15Measure.calls a0_0 a0_1 a0_2 a0_3 true _ A2.out).mono ?_); rintro e w15 ⟨rfl, hb⟩; have n0_ := Aside0.mk (blk_below (bS BK101.out) hb); have n1_ := Aside0.mk (below_step (by exact eS HB.out) hb); clear BK101; clear HB; have BK101 := n0_; have HB := n1_; clear n0_ n1_; (try clear hb); (try clear hb2); (try clear hk); (try clear hi); have hcz16_0 : w15.cell? ⟨gb101, 0, none⟩ = some (.int .i64 a0_0) := (blk_cell BK101.out 0).trans rfl; have hcz16_1 : w15.cell? ⟨gb101, 1, none⟩ = some (.int .i64 a0_1) := (blk_cell BK101.out 1).trans rfl; have hcz16_2 : w15.cell? ⟨gb101, 2, none⟩ = some (.int .i64 a0_2) := (blk_cell BK101.out 2).trans rfl; have hcz16_3 : w15.cell? ⟨gb101, 3, none⟩ = some (.int .i64 a0_3) := (blk_cell BK101.out 3).trans rfl; have hfz16_0 := blk_frozen BK101.out 0; have hfz16_1 := blk_frozen BK101.out 1; have hfz16_2 := blk_frozen BK101.out 2; have hfz16_3 := blk_frozen BK101.out 3) | (go_at_call 53; (with_reducible refine (spec_l1Most.calls (wrap64 (a0_0 - a0_1)) (wrap64 (a0_1 - a0_0)) t103 _ A4.out).mono ?_); rintro e w' ⟨rfl, ⟨nd, rfl⟩⟩; (try first | exact ⟨rfl, _, World.drewN_drewN _ _ _⟩ | exact ⟨rfl, _, Eq.trans (World.drewN_drewN _ _ _) (congrArg (World.drewN _) (Nat.add_assoc _ _ _))⟩)) | (go_at_call 53; (with_reducible refine (spec_l1Most.calls (wrap64 (a0_2 - a0_3)) (wrap64 (a0_3 - a0_2)) t104 _ A5.out).mono ?_); rintro e w' ⟨rfl, ⟨nd, rfl⟩⟩; (try first | exact ⟨rfl, _, World.drewN_drewN _ _ _⟩ | exact ⟨rfl, _, Eq.trans (World.drewN_drewN _ _ _) (congrArg (World.drewN _) (Nat.add_assoc _ _ _))⟩)) | (go_at_call 55; (with_reducible refine (spec_l2Reduce.calls k t103 (wrap64 (a0_0 + a0_1)) t107 t108 _ A12.out).mono ?_); rintro e w' ⟨rfl, ⟨nd, rfl⟩⟩; (try first | exact ⟨rfl, _, World.drewN_drewN _ _ _⟩ | exact ⟨rfl, _, Eq.trans (World.drewN_drewN _ _ _) (congrArg (World.drewN _) (Nat.add_assoc _ _ _))⟩)))
      repeat (go_quiet (first | ((with_reducible refine gate_dst (N := 1) rfl ?_); refine box_event ?hg (N := 1) ?hd (cs := #[.int .i64 a0_0, .int .i64 a0_1, .int .i64 a0_2, .int .i64 a0_3]) (t := 36) ?hr ?_; (case hd => rfl); (case hg => rfl); (case hr => first | (go_simp; done) | (go_simp; rfl)); intro gb101 hg w13 hbox hb; have n0_ := Aside0.mk (below_step (by exact eS HB.out) hb); have n1_ := Aside0.mk (hbox); have n2_ := Aside0.mk ((by rw [hg]; exact (below_size (by exact eS HB.out)) : w.heap.size ≤ gb101)); have n3_ := Aside0.mk ((by rw [hg]; exact (below_size (by exact eS HB.out)) : w.heap.size ≤ gb101)); clear HB; have HB := n0_; have BK101 := n1_; have GW101 := n2_; have GE101 := n3_; clear n0_ n1_ n2_ n3_; clear hb hbox hg; have hcz14_0 : w13.cell? ⟨gb101, 0, none⟩ = some (.int .i64 a0_0) := (blk_cell BK101.out 0).trans rfl; have hcz14_1 : w13.cell? ⟨gb101, 1, none⟩ = some (.int .i64 a0_1) := (blk_cell BK101.out 1).trans rfl; have hcz14_2 : w13.cell? ⟨gb101, 2, none⟩ = some (.int .i64 a0_2) := (blk_cell BK101.out 2).trans rfl; have hcz14_3 : w13.cell? ⟨gb101, 3, none⟩ = some (.int .i64 a0_3) := (blk_cell BK101.out 3).trans rfl; have hfz14_0 := blk_frozen BK101.out 0; have hfz14_1 := blk_frozen BK101.out 1; have hfz14_2 := blk_frozen BK101.out 2; have hfz14_3 := blk_frozen BK101.out 3) | (go_at_call 51; (with_reducible refine (spec_l15Measure.calls a0_0 a0_1 a0_2 a0_3 true _ A2.out).mono ?_); rintro e w15 ⟨rfl, hb⟩; have n0_ := Aside0.mk (blk_below (bS BK101.out) hb); have n1_ := Aside0.mk (below_step (by exact eS HB.out) hb); clear BK101; clear HB; have BK101 := n0_; have HB := n1_; clear n0_ n1_; (try clear hb); (try clear hb2); (try clear hk); (try clear hi); have hcz16_0 : w15.cell? ⟨gb101, 0, none⟩ = some (.int .i64 a0_0) := (blk_cell BK101.out 0).trans rfl; have hcz16_1 : w15.cell? ⟨gb101, 1, none⟩ = some (.int .i64 a0_1) := (blk_cell BK101.out 1).trans rfl; have hcz16_2 : w15.cell? ⟨gb101, 2, none⟩ = some (.int .i64 a0_2) := (blk_cell BK101.out 2).trans rfl; have hcz16_3 : w15.cell? ⟨gb101, 3, none⟩ = some (.int .i64 a0_3) := (blk_cell BK101.out 3).trans rfl; have hfz16_0 := blk_frozen BK101.out 0; have hfz16_1 := blk_frozen BK101.out 1; have hfz16_2 := blk_frozen BK101.out 2; have hfz16_3 := blk_frozen BK101.out 3) | (go_at_call 53; (with_reducible refine (spec_l1Most.calls (wrap64 (a0_0 - a0_1)) (wrap64 (a0_1 - a0_0)) t103 _ A4.out).mono ?_); rintro e w' ⟨rfl, ⟨nd, rfl⟩⟩; (try first | exact ⟨rfl, _, World.drewN_drewN _ _ _⟩ | exact ⟨rfl, _, Eq.trans (World.drewN_drewN _ _ _) (congrArg (World.drewN _) (Nat.add_assoc _ _ _))⟩)) | (go_at_call 53; (with_reducible refine (spec_l1Most.calls (wrap64 (a0_2 - a0_3)) (wrap64 (a0_3 - a0_2)) t104 _ A5.out).mono ?_); rintro e w' ⟨rfl, ⟨nd, rfl⟩⟩; (try first | exact ⟨rfl, _, World.drewN_drewN _ _ _⟩ | exact ⟨rfl, _, Eq.trans (World.drewN_drewN _ _ _) (congrArg (World.drewN _) (Nat.add_assoc _ _ _))⟩)) | (go_at_call 55; (with_reducible refine (spec_l2Reduce.calls k t103 (wrap64 (a0_0 + a0_1)) t107 t108 _ A12.out).mono ?_); rintro e w' ⟨rfl, ⟨nd, rfl⟩⟩; (try first | exact ⟨rfl, _, World.drewN_drewN _ _ _⟩ | exact ⟨rfl, _, Eq.trans (World.drewN_drewN _ _ _) (congrArg (World.drewN _) (Nat.add_assoc _ _ _))⟩))); try go_wp2_with (first | ((with_reducible refine gate_dst (N := 1) rfl ?_); refine box_event ?hg (N := 1) ?hd (cs := #[.int .i64 a0_0, .int .i64 a0_1, .int .i64 a0_2, .int .i64 a0_3]) (t := 36) ?hr ?_; (case hd => rfl); (case hg => rfl); (case hr => first | (go_simp; done) | (go_simp; rfl)); intro gb101 hg w13 hbox hb; have n0_ := Aside0.mk (below_step (by exact eS HB.out) hb); have n1_ := Aside0.mk (hbox); have n2_ := Aside0.mk ((by rw [hg]; exact (below_size (by exact eS HB.out)) : w.heap.size ≤ gb101)); have n3_ := Aside0.mk ((by rw [hg]; exact (below_size (by exact eS HB.out)) : w.heap.size ≤ gb101)); clear HB; have HB := n0_; have BK101 := n1_; have GW101 := n2_; have GE101 := n3_; clear n0_ n1_ n2_ n3_; clear hb hbox hg; have hcz14_0 : w13.cell? ⟨gb101, 0, none⟩ = some (.int .i64 a0_0) := (blk_cell BK101.out 0).trans rfl; have hcz14_1 : w13.cell? ⟨gb101, 1, none⟩ = some (.int .i64 a0_1) := (blk_cell BK101.out 1).trans rfl; have hcz14_2 : w13.cell? ⟨gb101, 2, none⟩ = some (.int .i64 a0_2) := (blk_cell BK101.out 2).trans rfl; have hcz14_3 : w13.cell? ⟨gb101, 3, none⟩ = some (.int .i64 a0_3) := (blk_cell BK101.out 3).trans rfl; have hfz14_0 := blk_frozen BK101.out 0; have hfz14_1 := blk_frozen BK101.out 1; have hfz14_2 := blk_frozen BK101.out 2; have hfz14_3 := blk_frozen BK101.out 3) | (go_at_call 51; (with_reducible refine (spec_l15Measure.calls a0_0 a0_1 a0_2 a0_3 true _ A2.out).mono ?_); rintro e w15 ⟨rfl, hb⟩; have n0_ := Aside0.mk (blk_below (bS BK101.out) hb); have n1_ := Aside0.mk (below_step (by exact eS HB.out) hb); clear BK101; clear HB; have BK101 := n0_; have HB := n1_; clear n0_ n1_; (try clear hb); (try clear hb2); (try clear hk); (try clear hi); have hcz16_0 : w15.cell? ⟨gb101, 0, none⟩ = some (.int .i64 a0_0) := (blk_cell BK101.out 0).trans rfl; have hcz16_1 : w15.cell? ⟨gb101, 1, none⟩ = some (.int .i64 a0_1) := (blk_cell BK101.out 1).trans rfl; have hcz16_2 : w15.cell? ⟨gb101, 2, none⟩ = some (.int .i64 a0_2) := (blk_cell BK101.out 2).trans rfl; have hcz16_3 : w15.cell? ⟨gb101, 3, none⟩ = some (.int .i64 a0_3) := (blk_cell BK101.out 3).trans rfl; have hfz16_0 := blk_frozen BK101.out 0; have hfz16_1 := blk_frozen BK101.out 1; have hfz16_2 := blk_frozen BK101.out 2; have hfz16_3 := blk_frozen BK101.out 3) | (go_at_call 53; (with_reducible refine (spec_l1Most.calls (wrap64 (a0_0 - a0_1)) (wrap64 (a0_1 - a0_0)) t103 _ A4.out).mono ?_); rintro e w' ⟨rfl, ⟨nd, rfl⟩⟩; (try first | exact ⟨rfl, _, World.drewN_drewN _ _ _⟩ | exact ⟨rfl, _, Eq.trans (World.drewN_drewN _ _ _) (congrArg (World.drewN _) (Nat.add_assoc _ _ _))⟩)) | (go_at_call 53; (with_reducible refine (spec_l1Most.calls (wrap64 (a0_2 - a0_3)) (wrap64 (a0_3 - a0_2)) t104 _ A5.out).mono ?_); rintro e w' ⟨rfl, ⟨nd, rfl⟩⟩; (try first | exact ⟨rfl, _, World.drewN_drewN _ _ _⟩ | exact ⟨rfl, _, Eq.trans (World.drewN_drewN _ _ _) (congrArg (World.drewN _) (Nat.add_assoc _ _ _))⟩)) | (go_at_call 55; (with_reducible refine (spec_l2Reduce.calls k t103 (wrap64 (a0_0 + a0_1)) t107 t108 _ A12.out).mono ?_); rintro e w' ⟨rfl, ⟨nd, rfl⟩⟩; (try first | exact ⟨rfl, _, World.drewN_drewN _ _ _⟩ | exact ⟨rfl, _, Eq.trans (World.drewN_drewN _ _ _) (congrArg (World.drewN _) (Nat.add_assoc _ _ _))⟩))))
      go_ret3
      exact ⟨by first | rfl | (simp [errW_none, errW_some] <;> rfl) | (simp [*, errW_none, errW_some] <;> rfl), by exact eS HB.out⟩
  · replace c3 := Bool.eq_false_iff.mpr c3
    subst c3
    have H1 : (some (0, 0, false)) = some (r1, r2, r3) := by rw [if_neg (show ¬ (false = true) by decide)] at H; exact H
    clear H
    have H := H1
    clear H1
    simp only [Option.some.injEq, Prod.mk.injEq] at H
    obtain ⟨rfl, rfl, rfl⟩ := H
    go_enter Try.func27, Try.ntmps27
    go_wp2_with (first | ((with_reducible refine gate_dst (N := 1) rfl ?_); refine box_event ?hg (N := 1) ?hd (cs := #[.int .i64 a0_0, .int .i64 a0_1, .int .i64 a0_2, .int .i64 a0_3]) (t := 36) ?hr ?_; (case hd => rfl); (case hg => rfl); (case hr => first | (go_simp; done) | (go_simp; rfl)); intro gb101 hg w17 hbox hb; have n0_ := Aside0.mk (below_step (by exact eS HB.out) hb); have n1_ := Aside0.mk (hbox); have n2_ := Aside0.mk ((by rw [hg]; exact (below_size (by exact eS HB.out)) : w.heap.size ≤ gb101)); have n3_ := Aside0.mk ((by rw [hg]; exact (below_size (by exact eS HB.out)) : w.heap.size ≤ gb101)); clear HB; have HB := n0_; have BK101 := n1_; have GW101 := n2_; have GE101 := n3_; clear n0_ n1_ n2_ n3_; clear hb hbox hg; have hcz18_0 : w17.cell? ⟨gb101, 0, none⟩ = some (.int .i64 a0_0) := (blk_cell BK101.out 0).trans rfl; have hcz18_1 : w17.cell? ⟨gb101, 1, none⟩ = some (.int .i64 a0_1) := (blk_cell BK101.out 1).trans rfl; have hcz18_2 : w17.cell? ⟨gb101, 2, none⟩ = some (.int .i64 a0_2) := (blk_cell BK101.out 2).trans rfl; have hcz18_3 : w17.cell? ⟨gb101, 3, none⟩ = some (.int .i64 a0_3) := (blk_cell BK101.out 3).trans rfl; have hfz18_0 := blk_frozen BK101.out 0; have hfz18_1 := blk_frozen BK101.out 1; have hfz18_2 := blk_frozen BK101.out 2; have hfz18_3 := blk_frozen BK101.out 3) | (go_at_call 51; (with_reducible refine (spec_l15Measure.calls a0_0 a0_1 a0_2 a0_3 false _ A2.out).mono ?_); rintro e w19 ⟨rfl, hb⟩; have n0_ := Aside0.mk (blk_below (bS BK101.out) hb); have n1_ := Aside0.mk (below_step (by exact eS HB.out) hb); clear BK101; clear HB; have BK101 := n0_; have HB := n1_; clear n0_ n1_; (try clear hb); (try clear hb2); (try clear hk); (try clear hi)))
    repeat (go_quiet (first | ((with_reducible refine gate_dst (N := 1) rfl ?_); refine box_event ?hg (N := 1) ?hd (cs := #[.int .i64 a0_0, .int .i64 a0_1, .int .i64 a0_2, .int .i64 a0_3]) (t := 36) ?hr ?_; (case hd => rfl); (case hg => rfl); (case hr => first | (go_simp; done) | (go_simp; rfl)); intro gb101 hg w17 hbox hb; have n0_ := Aside0.mk (below_step (by exact eS HB.out) hb); have n1_ := Aside0.mk (hbox); have n2_ := Aside0.mk ((by rw [hg]; exact (below_size (by exact eS HB.out)) : w.heap.size ≤ gb101)); have n3_ := Aside0.mk ((by rw [hg]; exact (below_size (by exact eS HB.out)) : w.heap.size ≤ gb101)); clear HB; have HB := n0_; have BK101 := n1_; have GW101 := n2_; have GE101 := n3_; clear n0_ n1_ n2_ n3_; clear hb hbox hg; have hcz18_0 : w17.cell? ⟨gb101, 0, none⟩ = some (.int .i64 a0_0) := (blk_cell BK101.out 0).trans rfl; have hcz18_1 : w17.cell? ⟨gb101, 1, none⟩ = some (.int .i64 a0_1) := (blk_cell BK101.out 1).trans rfl; have hcz18_2 : w17.cell? ⟨gb101, 2, none⟩ = some (.int .i64 a0_2) := (blk_cell BK101.out 2).trans rfl; have hcz18_3 : w17.cell? ⟨gb101, 3, none⟩ = some (.int .i64 a0_3) := (blk_cell BK101.out 3).trans rfl; have hfz18_0 := blk_frozen BK101.out 0; have hfz18_1 := blk_frozen BK101.out 1; have hfz18_2 := blk_frozen BK101.out 2; have hfz18_3 := blk_frozen BK101.out 3) | (go_at_call 51; (with_reducible refine (spec_l15Measure.calls a0_0 a0_1 a0_2 a0_3 false _ A2.out).mono ?_); rintro e w19 ⟨rfl, hb⟩; have n0_ := Aside0.mk (blk_below (bS BK101.out) hb); have n1_ := Aside0.mk (below_step (by exact eS HB.out) hb); clear BK101; clear HB; have BK101 := n0_; have HB := n1_; clear n0_ n1_; (try clear hb); (try clear hb2); (try clear hk); (try clear hi))); try go_wp2_with (first | ((with_reducible refine gate_dst (N := 1) rfl ?_); refine box_event ?hg (N := 1) ?hd (cs := #[.int .i64 a0_0, .int .i64 a0_1, .int .i64 a0_2, .int .i64 a0_3]) (t := 36) ?hr ?_; (case hd => rfl); (case hg => rfl); (case hr => first | (go_simp; done) | (go_simp; rfl)); intro gb101 hg w17 hbox hb; have n0_ := Aside0.mk (below_step (by exact eS HB.out) hb); have n1_ := Aside0.mk (hbox); have n2_ := Aside0.mk ((by rw [hg]; exact (below_size (by exact eS HB.out)) : w.heap.size ≤ gb101)); have n3_ := Aside0.mk ((by rw [hg]; exact (below_size (by exact eS HB.out)) : w.heap.size ≤ gb101)); clear HB; have HB := n0_; have BK101 := n1_; have GW101 := n2_; have GE101 := n3_; clear n0_ n1_ n2_ n3_; clear hb hbox hg; have hcz18_0 : w17.cell? ⟨gb101, 0, none⟩ = some (.int .i64 a0_0) := (blk_cell BK101.out 0).trans rfl; have hcz18_1 : w17.cell? ⟨gb101, 1, none⟩ = some (.int .i64 a0_1) := (blk_cell BK101.out 1).trans rfl; have hcz18_2 : w17.cell? ⟨gb101, 2, none⟩ = some (.int .i64 a0_2) := (blk_cell BK101.out 2).trans rfl; have hcz18_3 : w17.cell? ⟨gb101, 3, none⟩ = some (.int .i64 a0_3) := (blk_cell BK101.out 3).trans rfl; have hfz18_0 := blk_frozen BK101.out 0; have hfz18_1 := blk_frozen BK101.out 1; have hfz18_2 := blk_frozen BK101.out 2; have hfz18_3 := blk_frozen BK101.out 3) | (go_at_call 51; (with_reducible refine (spec_l15Measure.calls a0_0 a0_1 a0_2 a0_3 false _ A2.out).mono ?_); rintro e w19 ⟨rfl, hb⟩; have n0_ := Aside0.mk (blk_below (bS BK101.out) hb); have n1_ := Aside0.mk (below_step (by exact eS HB.out) hb); clear BK101; clear HB; have BK101 := n0_; have HB := n1_; clear n0_ n1_; (try clear hb); (try clear hb2); (try clear hk); (try clear hi))))
    go_ret3
    exact ⟨by first | rfl | (simp [errW_none, errW_some] <;> rfl) | (simp [*, errW_none, errW_some] <;> rfl), by exact eS HB.out⟩

end Go.Proofs.Ytgohfbelppokcaa.X

-- Qskew
namespace Go.Proofs.Ytgohfbelppokcaa.Pure
open Go Go.RowKit Go.Proofs Go.Proofs.Ytgohfbelppokcaa.X Go.Proofs.YtgohfbelppokcaaW.PrintWords Go.Proofs.YtgohfbelppokcaaW.PrintLast
set_option linter.unusedVariables false
set_option linter.unusedSimpArgs false

def skewM (a b c d : Int) : Int × Int × Bool :=
  if measureB a b c d then
    (if absI (c - d) * (a + b) > absI (a - b) * (c + d) then ((fracM (absI (c - d)) (c + d)).1, (fracM (absI (c - d)) (c + d)).2, true) else ((fracM (absI (a - b)) (a + b)).1, (fracM (absI (a - b)) (a + b)).2, true))
  else (0, 0, false)
theorem absI_bd {x B : Int} (h1 : -B ≤ x) (h2 : x ≤ B) : 0 ≤ absI x ∧ absI x ≤ B := by unfold absI; split <;> omega
theorem skew_w {a b c d : Int} (h : (1 ≤ a ∧ a ≤ 20000) ∧ (1 ≤ b ∧ b ≤ 20000) ∧ (1 ≤ c ∧ c ≤ 20000) ∧ (1 ≤ d ∧ d ≤ 20000)) :
    wrap64 (absI (c - d) * (a + b)) = absI (c - d) * (a + b) ∧ wrap64 (absI (a - b) * (c + d)) = absI (a - b) * (c + d) ∧ wrap64 (a + b) = a + b ∧ wrap64 (c + d) = c + d := by
  have h1 := absI_bd (x := c - d) (B := 20000) (by omega) (by omega)
  have h2 := absI_bd (x := a - b) (B := 20000) (by omega) (by omega)
  have e1 : wrap64 (a + b) = a + b := w64 (by omega) (by omega)
  have e2 : wrap64 (c + d) = c + d := w64 (by omega) (by omega)
  have m1 := mul_bd (b := a + b) (B := 40000) h1.1 h1.2 (by omega) (by omega)
  have m2 := mul_bd (b := c + d) (B := 40000) h2.1 h2.2 (by omega) (by omega)
  exact ⟨w64 (by omega) (by omega), w64 (by omega) (by omega), e1, e2⟩
theorem skewS_eq {k : Nat} (hk : 40001 < k) (a b c d : Int) : spec_SkewOf.f k a b c d = some (skewM a b c d) := by
  simp only [spec_SkewOf.f, l15Measure_eq, Option.bind_some, skewM]
  cases h : measureB a b c d
  · simp
  have hm := measure_of h
  obtain ⟨w1, w2, w3, w4⟩ := skew_w hm
  have h1 := absI_bd (x := c - d) (B := 20000) (by omega) (by omega)
  have h2 := absI_bd (x := a - b) (B := 20000) (by omega) (by omega)
  simp only [if_true]
  rw [mostd_eq a b (by omega) (by omega), mostd_eq c d (by omega) (by omega)]
  simp only [Option.bind_some, w1, w2, w3, w4]
  rw [l2Reduce_eq (n := absI (c - d)) (d := c + d) (by omega) (by omega) (by omega), l2Reduce_eq (n := absI (a - b)) (d := a + b) (by omega) (by omega) (by omega)]
  simp only [Option.bind_some]
  split <;> rfl
theorem skewI_eq {k : Nat} (hk : 40001 < k) (a b c d : Int) : impl_SkewOf.f k a b c d = some (skewM a b c d) := by
  simp only [impl_SkewOf.f, IsMeasure_eq, Option.bind_some, skewM]
  cases h : measureB a b c d
  · simp
  have hm := measure_of h
  obtain ⟨w1, w2, w3, w4⟩ := skew_w hm
  have h1 := absI_bd (x := c - d) (B := 20000) (by omega) (by omega)
  have h2 := absI_bd (x := a - b) (B := 20000) (by omega) (by omega)
  simp only [if_true]
  rw [w64 (x := a - b) (by omega) (by omega), w64 (x := c - d) (by omega) (by omega), abs_eq (by omega) (by omega), abs_eq (by omega) (by omega)]
  simp only [Option.bind_some, w1, w2, w3, w4]
  rw [fraction_eq (n := absI (c - d)) (d := c + d) (by omega) (by omega) (by omega), fraction_eq (n := absI (a - b)) (d := a + b) (by omega) (by omega) (by omega)]
  simp only [Option.bind_some]
  split <;> rfl

end Go.Proofs.Ytgohfbelppokcaa.Pure

-- Qnear
namespace Go.Proofs.Ytgohfbelppokcaa.Pure
open Go Go.RowKit Go.Proofs Go.Proofs.Ytgohfbelppokcaa.X Go.Proofs.YtgohfbelppokcaaW.PrintWords Go.Proofs.YtgohfbelppokcaaW.PrintLast
set_option linter.unusedVariables false
set_option linter.unusedSimpArgs false

def nearB (x n d p : Int) : Bool := decide (100 * absI (x * d - n) ≤ p * n)
theorem near_w {x n d p : Int} (hx : 1 ≤ x ∧ x ≤ 20000) (hn : 0 ≤ n ∧ n ≤ 80800) (hd : 1 ≤ d ∧ d ≤ 200) (hp : 0 ≤ p ∧ p ≤ 101) :
    (0 ≤ x * d ∧ x * d ≤ 4000000) ∧ (0 ≤ absI (x * d - n) ∧ absI (x * d - n) ≤ 4080800) ∧ (0 ≤ p * n ∧ p * n ≤ 8160800) := by
  have h1 := mul_bd (a := x) (b := d) (A := 20000) (B := 200) (by omega) (by omega) (by omega) (by omega)
  have h2 := mul_bd (a := p) (b := n) (A := 101) (B := 80800) (by omega) (by omega) (by omega) (by omega)
  exact ⟨by omega, absI_bd (by omega) (by omega), by omega⟩
theorem l15Near_eq {x n d p : Int} (hx : 1 ≤ x ∧ x ≤ 20000) (hn : 0 ≤ n ∧ n ≤ 80800) (hd : 1 ≤ d ∧ d ≤ 200) (hp : 0 ≤ p ∧ p ≤ 101) : spec_l15Near.f x n d p = some (nearB x n d p) := by
  obtain ⟨h1, h2, h3⟩ := near_w hx hn hd hp
  unfold spec_l15Near.f
  rw [w64 (x := x * d) (by omega) (by omega), w64 (x := x * d - n) (by omega) (by omega), w64 (x := -(x * d - n)) (by omega) (by omega), most2_eq _ (by omega) (by omega)]
  simp only [Option.bind_some]
  rw [w64 (x := 100 * absI (x * d - n)) (by omega) (by omega), w64 (x := p * n) (by omega) (by omega)]
  rfl
theorem nearI_eq {x n d p : Int} (hx : 1 ≤ x ∧ x ≤ 20000) (hn : 0 ≤ n ∧ n ≤ 80800) (hd : 1 ≤ d ∧ d ≤ 200) (hp : 0 ≤ p ∧ p ≤ 101) : impl_WithinSize_1.f x n d p = some (nearB x n d p) := by
  obtain ⟨h1, h2, h3⟩ := near_w hx hn hd hp
  unfold impl_WithinSize_1.f
  rw [w64 (x := x * d) (by omega) (by omega), w64 (x := x * d - n) (by omega) (by omega), abs_eq (by omega) (by omega)]
  simp only [Option.bind_some]
  rw [w64 (x := 100 * absI (x * d - n)) (by omega) (by omega), w64 (x := p * n) (by omega) (by omega)]
  rfl
theorem absI_mul {g z : Int} (hg : 0 < g) : absI (g * z) = g * absI z := by
  unfold absI
  rcases Int.lt_or_le z 0 with h | h
  · rw [if_pos (Int.mul_neg_of_pos_of_neg hg h), if_pos h, Int.mul_neg]
  · have := Int.mul_nonneg (Int.le_of_lt hg) h
    rw [if_neg (by omega), if_neg (by omega)]
theorem near_scale {x n d p : Int} (hd : 0 < d) : nearB x (fracM n d).1 (fracM n d).2 p = nearB x n d p := by
  have m1 := fracM_mul (n := n) hd
  have g1 := gcdM_pos (a := n) hd
  generalize (fracM n d).1 = n1 at *
  generalize (fracM n d).2 = d1 at *
  generalize gcdM n d = g at *
  obtain ⟨rfl, rfl⟩ := m1
  unfold nearB
  have e1 : x * (g * d1) - g * n1 = g * (x * d1 - n1) := by rw [Int.mul_sub, Int.mul_left_comm]
  have e2 : p * (g * n1) = g * (p * n1) := Int.mul_left_comm _ _ _
  have e3 : 100 * (g * absI (x * d1 - n1)) = g * (100 * absI (x * d1 - n1)) := Int.mul_left_comm _ _ _
  rw [e1, e2, absI_mul g1, e3]
  congr 1
  exact propext ⟨fun h => Int.mul_le_mul_of_nonneg_left h (by omega), fun h => Int.le_of_mul_le_mul_left h g1⟩
def withinM (w h : Int) (l : List Int) (a b e x1 x2 y1 y2 p : Int) : Bool × Bool :=
  if (chartB w h l && gaugeB a b e) && (measureB x1 x2 y1 y2 && decide (0 ≤ p ∧ p ≤ 100)) then
    (nearB x1 (wideM w a e) a p && (nearB x2 (wideM w a e) a p && (nearB y1 (wideM h b e) b p && nearB y2 (wideM h b e) b p)), true)
  else (false, false)
theorem withinS_eq {k : Nat} {w h : Int} {l : List Int} (a b e x1 x2 y1 y2 p : Int) (hk : l.length < k) (hl : l.length ≤ 1048576) : spec_WithinSize.f k w h l a b e x1 x2 y1 y2 p = some (withinM w h l a b e x1 x2 y1 y2 p) := by
  obtain ⟨k, rfl, hk2⟩ := succ_of hk
  simp only [spec_WithinSize.f, asked_eq a b e hk hl, l15Measure_eq, l1In_eq, Option.bind_some, withinM, spec_WithinSize.j0]
  cases hc : (chartB w h l && gaugeB a b e)
  · simp
  cases hm : measureB x1 x2 y1 y2
  · simp
  cases hp : decide (0 ≤ p ∧ p ≤ 100)
  · simp
  obtain ⟨h1, h2, h3, h4⟩ := size_of hc
  have hm := measure_of hm
  have hp := of_decide_eq_true hp
  simp only [if_true, spec_l15Wide.f, h1.2.2, h2.2.2, Option.bind_some, Bool.not_true, Bool.false_eq_true, if_false, Bool.and_self]
  rw [l15Near_eq (x := x1) (by omega) (by omega) h3 (by omega), l15Near_eq (x := x2) (by omega) (by omega) h3 (by omega), l15Near_eq (x := y1) (by omega) (by omega) h4 (by omega), l15Near_eq (x := y2) (by omega) (by omega) h4 (by omega)]
  simp only [Option.bind_some]
  cases nearB x1 (wideM w a e) a p <;> cases nearB x2 (wideM w a e) a p <;> cases nearB y1 (wideM h b e) b p <;> rfl
theorem withinI_eq {k : Nat} {w h : Int} {l : List Int} (a b e x1 x2 y1 y2 p : Int) (hk : 301 < k) : impl_WithinSize.f k w h l a b e x1 x2 y1 y2 p = some (withinM w h l a b e x1 x2 y1 y2 p) := by
  obtain ⟨k, rfl, hk2⟩ := succ_of hk
  simp only [impl_WithinSize.f, sizeI_eq (k := k + 1) (w := w) (h := h) (l := l) a b e (by omega), IsMeasure_eq, in_eq, Option.bind_some, withinM, impl_WithinSize.j0, sizeM]
  cases hc : (chartB w h l && gaugeB a b e)
  · simp
  cases hm : measureB x1 x2 y1 y2
  · simp
  cases hp : decide (0 ≤ p ∧ p ≤ 100)
  · simp
  obtain ⟨h1, h2, h3, h4⟩ := size_of hc
  have hm := measure_of hm
  have hp := of_decide_eq_true hp
  simp only [if_true, Bool.not_true, Bool.false_eq_true, if_false, Bool.and_self]
  have f1 := fracM_bd (n := wideM w a e) (d := a) (by omega) (by omega)
  have f2 := fracM_bd (n := wideM h b e) (d := b) (by omega) (by omega)
  rw [nearI_eq (x := x1) (by omega) (by omega) (by omega) (by omega), nearI_eq (x := x2) (by omega) (by omega) (by omega) (by omega), nearI_eq (x := y1) (by omega) (by omega) (by omega) (by omega), nearI_eq (x := y2) (by omega) (by omega) (by omega) (by omega)]
  simp only [Option.bind_some, near_scale (show 0 < a by omega), near_scale (show 0 < b by omega)]
  cases nearB x1 (wideM w a e) a p <;> cases nearB x2 (wideM w a e) a p <;> cases nearB y1 (wideM h b e) b p <;> rfl

end Go.Proofs.Ytgohfbelppokcaa.Pure

-- PureFnExactWithinSize
namespace Go.Proofs.Ytgohfbelppokcaa.Pure
open Go Go.RowKit Go.Proofs Go.Proofs.Ytgohfbelppokcaa.X Go.Proofs.YtgohfbelppokcaaW.PrintWords Go.Proofs.YtgohfbelppokcaaW.PrintLast
set_option linter.unusedVariables false
set_option linter.unusedSimpArgs false

theorem FnExactWithinSize : laws_FnExactWithinSize.Pure := by
  intro w h l a b e x1 x2 y1 y2 p _ _ hl _ _ _ _ _ _ _ _
  refine ⟨2000001, ?_⟩
  simp only [laws_FnExactWithinSize.f, szChart_eq hl.1 (show (0 : Int) ≤ 1048576 ∧ (1048576 : Int) ≤ 9223372036854775807 by omega), Option.bind_some]
  by_cases hs : (1048576 : Int) < l.length
  · simp [hs]
  rw [if_neg hs, if_neg (by omega)]
  have h1 : l.length ≤ 1048576 := by omega
  simp only [laws_toGauge.f, laws_toMeasure.f, toChart_eq (k := 2000001) (w := w) (h := h) (l := l) (by omega) h1, Option.bind_some, withinS_eq (k := 2000001) (w := w) (h := h) (l := l) a b e x1 x2 y1 y2 p (by omega) h1, withinI_eq (k := 2000001) (w := w) (h := h) (l := l) a b e x1 x2 y1 y2 p (by omega), if_true, laws_FnExactWithinSize.j0, toChart_eq (k := 2000000) (w := w) (h := h) (l := l) (by omega) h1, eqChart_refl (k := 2000000) (w := w) (h := h) (l := l) (by omega) h1]
  simp

end Go.Proofs.Ytgohfbelppokcaa.Pure

-- Open
namespace Go.Proofs.Open
open Go.RowKit Go.WideShapes Go.Proofs.YtgohfbelppokcaaW.PrintWords
set_option linter.unusedVariables false

theorem mapM_cons_some {α β : Type} {f : α → Option β} {a : α} {l : List α} {ys : List β} (h : (a :: l).mapM f = some ys) : ∃ y ys', f a = some y ∧ l.mapM f = some ys' ∧ ys = y :: ys' := by
  rw [List.mapM_cons] at h
  obtain ⟨y, hy, h⟩ := Option.bind_eq_some_iff.mp h
  obtain ⟨ys', hys, h⟩ := Option.bind_eq_some_iff.mp h
  exact ⟨y, ys', hy, hys, (Option.some.inj h).symm⟩
theorem mapM_some_get {α β : Type} {f : α → Option β} : ∀ {l : List α} {ys : List β}, l.mapM f = some ys → ys.length = l.length ∧ ∀ (i : Nat) (a : α), l[i]? = some a → ∃ y, f a = some y ∧ ys[i]? = some y
  | [], ys, h => by
    obtain rfl : ys = [] := by simpa using h
    exact ⟨rfl, fun i a h => by simp at h⟩
  | a :: l, ys, h => by
    obtain ⟨y, ys', hy, hys, rfl⟩ := mapM_cons_some h
    obtain ⟨hl, hg⟩ := mapM_some_get hys
    refine ⟨by simp [hl], fun i b hb => ?_⟩
    cases i with
    | zero => obtain rfl : a = b := by simpa using hb
              exact ⟨y, hy, rfl⟩
    | succ i => exact hg i b (by simpa using hb)
theorem cells_get {w : World} {base n : Nat} {a : Addr} {cs : List Value} (h : w.cells? base a n = some cs) : cs.length = n ∧ ∀ i u, cs[i]? = some u → w.cell? (a.add i) = some u := by
  unfold World.cells? at h
  split at h
  · obtain ⟨hl, hg⟩ := mapM_some_get h
    rw [List.length_range] at hl
    refine ⟨hl, fun i u hu => ?_⟩
    have hi : i < n := by have := (List.getElem?_eq_some_iff.1 hu).1; omega
    obtain ⟨y, hy, hy2⟩ := hg i i (by simp [List.getElem?_range hi])
    rw [hu] at hy2
    injection hy2 with hy2
    rw [hy2]; exact hy
  · cases h
theorem add_add (a : Addr) (i j : Nat) : (a.add i).add j = a.add (i + j) := by
  by_cases hi : i = 0
  · subst hi
    rw [Nat.zero_add, show a.add 0 = a by unfold Addr.add; simp]
  · by_cases hj : j = 0
    · subst hj
      rw [Nat.add_zero, show (a.add i).add 0 = a.add i by unfold Addr.add; simp]
    · unfold Addr.add
      simp [hi, hj, Nat.add_assoc]
/-- Whatever reads as a datum of type t is an x of kind d, within ok. -/
structure Opens {α : Type} (P : Program) (W : World) (t : TypeId) (d : Kd α) (ok : α → Prop) : Prop where
  get : ∀ {H : Type} (enc : TypeId × Value → H) (base : Nat) (spare : Nat → Bool) (held : Bool) (fuel : Nat) (cs : List Value) (y : DataW H × List MemPlace), DataW.trod enc P W base spare held fuel t cs = some y → ∃ x, d.K W x cs ∧ ok x
theorem Opens.int {P : Program} {W : World} {t : TypeId} {k : IntKind} (hu : P.underlying t = some (.int k)) : Opens P W t (Kd.int k) (fun x => (Lit.int k x).wf = true) := ⟨by
  intro H enc base spare held fuel cs y h
  cases fuel with
  | zero => simp [DataW.trod] at h
  | succ fuel =>
    simp only [DataW.trod, hu] at h
    split at h <;> first | (cases h; done) | skip
    all_goals rename_i heq
    all_goals first | (cases heq; done) | skip
    rename_i k0 k' n
    injection heq with heq
    injection heq with heq
    subst heq
    split at h
    · rename_i hk
      obtain ⟨rfl, hw⟩ := hk
      exact ⟨n, rfl, hw⟩
    · cases h⟩
theorem Opens.bool {P : Program} {W : World} {t : TypeId} (hu : P.underlying t = some .bool) : Opens P W t Kd.bool (fun _ => True) := ⟨by
  intro H enc base spare held fuel cs y h
  cases fuel with
  | zero => simp [DataW.trod] at h
  | succ fuel =>
    simp only [DataW.trod, hu] at h
    split at h <;> first | (cases h; done) | skip
    all_goals rename_i heq
    all_goals first | (cases heq; done) | skip
    rename_i b
    exact ⟨b, rfl, trivial⟩⟩
theorem Opens.string {P : Program} {W : World} {t : TypeId} (hu : P.underlying t = some .string) : Opens P W t Kd.string (fun s => s.size ≤ 9223372036854775807) := ⟨by
  intro H enc base spare held fuel cs y h
  cases fuel with
  | zero => simp [DataW.trod] at h
  | succ fuel =>
    simp only [DataW.trod, hu] at h
    split at h <;> first | (cases h; done) | skip
    all_goals rename_i heq
    all_goals first | (cases heq; done) | skip
    rename_i s
    split at h
    · rename_i hs
      exact ⟨s, rfl, by simpa [maxLen] using hs⟩
    · cases h⟩
theorem pick {α : Type} {n : Nat} {Q : Nat → α → Prop} (h : ∀ i, i < n → ∃ x, Q i x) : ∃ xs : List α, xs.length = n ∧ ∀ i x, xs[i]? = some x → Q i x := by
  induction n with
  | zero => exact ⟨[], rfl, fun i x h => by simp at h⟩
  | succ n ih =>
    obtain ⟨xs, hl, hq⟩ := ih (fun i hi => h i (by omega))
    obtain ⟨x, hx⟩ := h n (by omega)
    refine ⟨xs ++ [x], by simp [hl], fun i z hz => ?_⟩
    by_cases hi : i < n
    · rw [List.getElem?_append_left (by omega)] at hz
      exact hq i z hz
    · have hlt := (List.getElem?_eq_some_iff.1 hz).1
      simp [hl] at hlt
      obtain rfl : i = n := by omega
      rw [List.getElem?_append_right (by omega), hl, Nat.sub_self] at hz
      obtain rfl : x = z := by simpa using hz
      exact hx
theorem Opens.slice {α : Type} {P : Program} {W : World} {t e : TypeId} {d : Kd α} {ok : α → Prop} (hu : P.underlying t = some (.slice e)) (hc : P.cellsOf e = d.sz) (h : Opens P W e d ok) :
    Opens P W t (Kd.slice e d) (fun l => l.length ≤ 9223372036854775807 ∧ ∀ x ∈ l, ok x) := ⟨by
  intro H enc base spare held fuel cs y hd
  cases fuel with
  | zero => simp [DataW.trod] at hd
  | succ fuel =>
    simp only [DataW.trod, hu] at hd
    split at hd <;> first | (cases hd; done) | skip
    all_goals rename_i heq
    all_goals first | (cases heq; done) | skip
    · exact ⟨[], ⟨none, 0, rfl, Nat.le_refl _, rfl, by simp, fun hp => absurd hp (by simp)⟩, by simp, fun x hx => by simp at hx⟩
    · rename_i e' a len cap
      injection heq with heq
      injection heq with heq
      subst heq
      split at hd
      · rename_i hb
        obtain ⟨hb1, hb2, hb3⟩ := hb
        obtain ⟨elems, hel, _⟩ := Option.bind_eq_some_iff.mp hd
        obtain ⟨hl, hg⟩ := mapM_some_get hel
        rw [List.length_range] at hl
        have hm : len ≤ 9223372036854775807 := by have : cap ≤ 9223372036854775807 := by simpa [maxLen] using hb3
                                                  omega
        obtain ⟨xs, hxl, hxs⟩ := pick (n := len) (Q := fun i x => ∃ c, c.length = d.sz ∧ d.K W x c ∧ ok x ∧ ∀ j u, c[j]? = some u → W.cell? (a.add (i * d.sz + j)) = some u) (fun i hi => by
          obtain ⟨z, hz, _⟩ := hg i i (by simp [List.getElem?_range hi])
          obtain ⟨c, hcc, hct⟩ := Option.bind_eq_some_iff.mp hz
          obtain ⟨x, hK, hok⟩ := h.get enc base spare held fuel c z hct
          obtain ⟨hcl, hcell⟩ := cells_get hcc
          refine ⟨x, c, by rw [hcl, hc], hK, hok, fun j u hu => ?_⟩
          have := hcell j u hu
          rw [add_add, hc] at this
          exact this)
        refine ⟨xs, ⟨some a, cap, by rw [hxl], by omega, rfl, by omega, fun _ => ⟨a, rfl, fun j p hj => ?_⟩⟩, by omega, fun x hx => ?_⟩
        · obtain ⟨c, h1, h2, h3, h4⟩ := hxs j p hj
          exact ⟨c, h1, h2, h4⟩
        · obtain ⟨j, hj, rfl⟩ := List.mem_iff_getElem.mp hx
          obtain ⟨c, h1, h2, h3, h4⟩ := hxs j _ (List.getElem?_eq_getElem hj)
          exact h3
      · cases hd⟩
/-- The fields from an offset on. -/
structure OpensAt {α : Type} (P : Program) (W : World) (fs : List Field) (off : Nat) (d : Kd α) (ok : α → Prop) : Prop where
  get : ∀ {H : Type} (enc : TypeId × Value → H) (base : Nat) (spare : Nat → Bool) (held : Bool) (fuel : Nat) (cs : List Value) (ys : List (DataW H × List MemPlace)), cs.length = off + d.sz →
    (fs.mapM fun f => DataW.trod enc P W base spare held fuel f.type ((cs.drop f.offset).take (P.cellsOf f.type))) = some ys → ∃ x, d.K W x (cs.drop off) ∧ ok x
theorem OpensAt.one {α : Type} {P : Program} {W : World} {f : Field} {off : Nat} {d : Kd α} {ok : α → Prop} (ho : f.offset = off) (hc : P.cellsOf f.type = d.sz) (h : Opens P W f.type d ok) : OpensAt P W [f] off d ok := ⟨by
  intro H enc base spare held fuel cs ys hl hm
  obtain ⟨y, _, hy, _, _⟩ := mapM_cons_some hm
  rw [ho, hc, List.take_of_length_le (by rw [List.length_drop]; omega)] at hy
  exact h.get enc base spare held fuel _ y hy⟩
theorem OpensAt.cons {α β : Type} {P : Program} {W : World} {f : Field} {fs : List Field} {off : Nat} {d : Kd α} {d2 : Kd β} {ok : α → Prop} {ok2 : β → Prop} (ho : f.offset = off) (hc : P.cellsOf f.type = d.sz) (h : Opens P W f.type d ok) (h2 : OpensAt P W fs (off + d.sz) d2 ok2) :
    OpensAt P W (f :: fs) off (Kd.pair d d2) (fun x => ok x.1 ∧ ok2 x.2) := ⟨by
  intro H enc base spare held fuel cs ys hl hm
  have hl2 : cs.length = off + (d.sz + d2.sz) := hl
  obtain ⟨y, ys', hy, hys, _⟩ := mapM_cons_some hm
  rw [ho, hc] at hy
  obtain ⟨x, hK, hok⟩ := h.get enc base spare held fuel _ y hy
  obtain ⟨x2, hK2, hok2⟩ := h2.get enc base spare held fuel cs ys' (by omega) hys
  refine ⟨(x, x2), ⟨(cs.drop off).take d.sz, cs.drop (off + d.sz), ?_, hK, hK2⟩, hok, hok2⟩
  rw [← List.drop_drop, List.take_append_drop]⟩
theorem Opens.struct {α : Type} {P : Program} {W : World} {t : TypeId} {fs : Array Field} {d : Kd α} {ok : α → Prop} (hu : P.underlying t = some (.struct fs)) (hc : P.cellsOf t = d.sz) (h : OpensAt P W fs.toList 0 d ok) : Opens P W t d ok := ⟨by
  intro H enc base spare held fuel cs y hd
  cases fuel with
  | zero => simp [DataW.trod] at hd
  | succ fuel =>
    simp only [DataW.trod, hu] at hd
    split at hd
    · rename_i hl
      obtain ⟨ys, hys, _⟩ := Option.map_eq_some_iff.mp hd
      exact h.get enc base spare held fuel cs ys (by omega) hys
    · cases hd⟩
theorem Opens.iso {α β : Type} {P : Program} {W : World} {t : TypeId} {d : Kd α} {f : β → α} {ok : α → Prop} (h : Opens P W t d ok) (g : α → β) (hg : ∀ x, f (g x) = x) : Opens P W t (Kd.iso d f) (fun y => ok (f y)) := ⟨by
  intro H enc base spare held fuel cs y hd
  obtain ⟨x, hK, hok⟩ := h.get enc base spare held fuel cs y hd
  refine ⟨g x, ?_, ?_⟩
  · show d.K W (f (g x)) cs
    rw [hg]; exact hK
  · rw [hg]; exact hok⟩
theorem wf_i64 {x : Int} (h : (Lit.int .i64 x).wf = true) : -9223372036854775808 ≤ x ∧ x ≤ 9223372036854775807 := by
  have h1 := h
  simp [Lit.wf] at h1
  exact ⟨h1.1, h1.2⟩
end Go.Proofs.Open

-- XOpens
namespace Go.Proofs.Ytgohfbelppokcaa.X
open Ho (bS eS)
open Go.RowKit Go.Proofs.YtgohfbelppokcaaW.PrintWords Go.Proofs.YtgohfbelppokcaaW.PrintLast Go.Proofs.YtgohfbelppokcaaW.PrintMore
attribute [local go_sem] max2_int min2_int max_two min_two max_three min_three max_four min_four   -- for this text's walks alone
set_option linter.unusedVariables false
set_option linter.unusedSimpArgs false

def ok23 (x : S23) : Prop := (Lit.int .i64 x.f0).wf = true ∧ (Lit.int .i64 x.f1).wf = true ∧ (Lit.int .i64 x.f2).wf = true
theorem opens23 (W : World) : Open.Opens Try.prog W 23 k23 ok23 := ⟨fun enc base spare held fuel cs y h => by
  obtain ⟨x, hK, hok⟩ := (Open.Opens.iso (f := fun x : S23 => (x.f0, x.f1, x.f2)) (Open.Opens.struct Try.underlying23 (by kernel_rfl) (Open.OpensAt.cons rfl (by kernel_rfl) (Open.Opens.int Try.underlying3) (Open.OpensAt.cons rfl (by kernel_rfl) (Open.Opens.int Try.underlying3) (Open.OpensAt.one rfl (by kernel_rfl) (Open.Opens.int Try.underlying3))))) (fun x => ⟨x.1, x.2.1, x.2.2⟩) (fun x => rfl)).get enc base spare held fuel cs y h
  exact ⟨x, hK, hok⟩⟩
def ok34 (x : S34) : Prop := (Lit.int .i64 x.f0).wf = true ∧ (Lit.int .i64 x.f1).wf = true ∧ (Lit.int .i64 x.f2).wf = true ∧ (Lit.int .i64 x.f3).wf = true
theorem opens34 (W : World) : Open.Opens Try.prog W 34 k34 ok34 := ⟨fun enc base spare held fuel cs y h => by
  obtain ⟨x, hK, hok⟩ := (Open.Opens.iso (f := fun x : S34 => (x.f0, x.f1, x.f2, x.f3)) (Open.Opens.struct Try.underlying34 (by kernel_rfl) (Open.OpensAt.cons rfl (by kernel_rfl) (Open.Opens.int Try.underlying3) (Open.OpensAt.cons rfl (by kernel_rfl) (Open.Opens.int Try.underlying3) (Open.OpensAt.cons rfl (by kernel_rfl) (Open.Opens.int Try.underlying3) (Open.OpensAt.one rfl (by kernel_rfl) (Open.Opens.int Try.underlying3)))))) (fun x => ⟨x.1, x.2.1, x.2.2.1, x.2.2.2⟩) (fun x => rfl)).get enc base spare held fuel cs y h
  exact ⟨x, hK, hok⟩⟩
def ok42 (x : S42) : Prop := (Lit.int .i64 x.f0).wf = true ∧ (Lit.int .i64 x.f1).wf = true ∧ (x.f2.length ≤ 9223372036854775807 ∧ ∀ y_ ∈ x.f2, (Lit.int .i64 y_).wf = true)
theorem opens42 (W : World) : Open.Opens Try.prog W 42 k42 ok42 := ⟨fun enc base spare held fuel cs y h => by
  obtain ⟨x, hK, hok⟩ := (Open.Opens.iso (f := fun x : S42 => (x.f0, x.f1, x.f2)) (Open.Opens.struct Try.underlying42 (by kernel_rfl) (Open.OpensAt.cons rfl (by kernel_rfl) (Open.Opens.int Try.underlying3) (Open.OpensAt.cons rfl (by kernel_rfl) (Open.Opens.int Try.underlying3) (Open.OpensAt.one rfl (by kernel_rfl) (Open.Opens.slice Try.underlying40 (by kernel_rfl) (Open.Opens.int Try.underlying3)))))) (fun x => ⟨x.1, x.2.1, x.2.2⟩) (fun x => rfl)).get enc base spare held fuel cs y h
  exact ⟨x, hK, hok⟩⟩
end Go.Proofs.Ytgohfbelppokcaa.X
