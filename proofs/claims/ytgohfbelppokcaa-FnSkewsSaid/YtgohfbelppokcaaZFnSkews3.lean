/- What the law FnSkews needs, part 4 of 5: what each function of the program that it reaches returns (printed by this session's own program, checked by Lean), and plain mathematics about it. Conditions: those of each theorem. -/
import Derived.Test.YtgohfbelppokcaaZFnSkews2
import Derived.Test.YtgohfbelppokcaaYG
-- XspecSkewOfF27
namespace Go.Proofs.Ytgohfbelppokcaa.X
open Ho (bS eS)
open Go.RowKit Go.Proofs.YtgohfbelppokcaaW.PrintWords Go.Proofs.YtgohfbelppokcaaW.PrintLast Go.Proofs.YtgohfbelppokcaaW.PrintMore
attribute [local go_sem] max2_int min2_int max_two min_two max_three min_three max_four min_four   -- for this text's walks alone
set_option linter.unusedVariables false
set_option linter.unusedSimpArgs false

attribute [local go_sem ↓] Ho.isSome_setCell_   -- a store leaves all places there
/-! ### spec_SkewOf: function 27 -/
def spec_SkewOf.f (k : Nat) (a0_0 : Int) (a0_1 : Int) (a0_2 : Int) (a0_3 : Int) : Option (Int × Int × Bool) := (spec_l15Measure.f a0_0 a0_1 a0_2 a0_3).bind fun t102 => (if t102 = true then ((spec_l1Most.f (wrap64 (a0_0 - a0_1)) (wrap64 (a0_1 - a0_0))).bind fun t103 => ((spec_l1Most.f (wrap64 (a0_2 - a0_3)) (wrap64 (a0_3 - a0_2))).bind fun t104 => (if (wrap64 (t104 * (wrap64 (a0_0 + a0_1)))) > (wrap64 (t103 * (wrap64 (a0_2 + a0_3)))) then ((spec_l2Reduce.f k t104 (wrap64 (a0_2 + a0_3))).bind fun bt105 => (some (bt105.1, bt105.2, true))) else ((spec_l2Reduce.f k t103 (wrap64 (a0_0 + a0_1))).bind fun bt107 => (some (bt107.1, bt107.2, true)))))) else (some (0, 0, false)))
theorem spec_SkewOf.mono : ∀ a0 a1 a2 a3 k, LeO (spec_SkewOf.f k a0 a1 a2 a3) (spec_SkewOf.f (k + 1) a0 a1 a2 a3) := by
  intro a0 a1 a2 a3 k
  unfold spec_SkewOf.f
  repeat' first
      | (with_reducible exact spec_l2Reduce.mono _ _ _)
      | (with_reducible exact LeO.refl _)
      | (with_reducible exact LeO.none _)
      | (with_reducible refine LeO.ite ?_ ?_)
      | (with_reducible refine LeO.bind ?_ (fun _ => ?_))
      | exact spec_l2Reduce.mono _ _ _
      | exact LeO.none _
      | refine LeO.ite ?_ ?_
      | refine LeO.bind ?_ (fun _ => ?_)
set_option maxHeartbeats 8000000 in
set_option maxRecDepth 100000 in
theorem spec_SkewOf.calls (k : Nat) (a0_0 : Int) (a0_1 : Int) (a0_2 : Int) (a0_3 : Int) (r1 : Int) (r2 : Int) (r3 : Bool) (w : World) (h : spec_SkewOf.f k a0_0 a0_1 a0_2 a0_3 = some (r1, r2, r3)) :
  Calls Try.prog 27 #[.agg #[.int .i64 a0_0, .int .i64 a0_1, .int .i64 a0_2, .int .i64 a0_3]] w fun e w' => e = .returned (.tuple #[.int .i64 r1, .int .i64 r2, .bool r3]) ∧ Below w.heap.size w w' := by
 have hu36 := Try.underlying36
 have HB := Aside0.mk (Below.refl w.heap.size w)
 have H : ((spec_l15Measure.f a0_0 a0_1 a0_2 a0_3).bind fun t102 => (if t102 = true then ((spec_l1Most.f (wrap64 (a0_0 - a0_1)) (wrap64 (a0_1 - a0_0))).bind fun t103 => ((spec_l1Most.f (wrap64 (a0_2 - a0_3)) (wrap64 (a0_3 - a0_2))).bind fun t104 => (if (wrap64 (t104 * (wrap64 (a0_0 + a0_1)))) > (wrap64 (t103 * (wrap64 (a0_2 + a0_3)))) then ((spec_l2Reduce.f k t104 (wrap64 (a0_2 + a0_3))).bind fun bt105 => (some (bt105.1, bt105.2, true))) else ((spec_l2Reduce.f k t103 (wrap64 (a0_0 + a0_1))).bind fun bt107 => (some (bt107.1, bt107.2, true)))))) else (some (0, 0, false)))) = some (r1, r2, r3) := h
 clear h
 replace H := Option.bind_eq_some_iff.mp H
 obtain ⟨t102, A20, H⟩ := H
 (try dsimp only at H)
 have A2 := Aside0.mk A20
 clear A20
 by_cases c3 : t102 = true
 subst c3
 have H1 : ((spec_l1Most.f (wrap64 (a0_0 - a0_1)) (wrap64 (a0_1 - a0_0))).bind fun t103 => ((spec_l1Most.f (wrap64 (a0_2 - a0_3)) (wrap64 (a0_3 - a0_2))).bind fun t104 => (if (wrap64 (t104 * (wrap64 (a0_0 + a0_1)))) > (wrap64 (t103 * (wrap64 (a0_2 + a0_3)))) then ((spec_l2Reduce.f k t104 (wrap64 (a0_2 + a0_3))).bind fun bt105 => (some (bt105.1, bt105.2, true))) else ((spec_l2Reduce.f k t103 (wrap64 (a0_0 + a0_1))).bind fun bt107 => (some (bt107.1, bt107.2, true)))))) = some (r1, r2, r3) := by rw [if_pos rfl] at H; exact H
 clear H
 have H := H1
 clear H1
 replace H := Option.bind_eq_some_iff.mp H
 obtain ⟨t103, A40, H⟩ := H
 (try dsimp only at H)
 have A4 := Aside0.mk A40
 clear A40
 replace H := Option.bind_eq_some_iff.mp H
 obtain ⟨t104, A50, H⟩ := H
 (try dsimp only at H)
 have A5 := Aside0.mk A50
 clear A50
 by_cases c6 : (wrap64 (t104 * (wrap64 (a0_0 + a0_1)))) > (wrap64 (t103 * (wrap64 (a0_2 + a0_3))))
 rw [if_pos c6] at H
 have c6b0 : decide ((wrap64 (t103 * (wrap64 (a0_2 + a0_3)))) < (wrap64 (t104 * (wrap64 (a0_0 + a0_1))))) = true := decide_eq_true c6
 clear c6
 replace H := Option.bind_eq_some_iff.mp H
 obtain ⟨⟨t105, t106⟩, A70, H⟩ := H
 (try dsimp only at H)
 have A7 := Aside0.mk A70
 clear A70
 simp only [Option.some.injEq, Prod.mk.injEq] at H
 obtain ⟨rfl, rfl, rfl⟩ := H
 have WAY0 := True.intro
 rotate_left
 rw [if_neg c6] at H
 have c6b0 : decide ((wrap64 (t103 * (wrap64 (a0_2 + a0_3)))) < (wrap64 (t104 * (wrap64 (a0_0 + a0_1))))) = false := decide_eq_false c6
 clear c6
 replace H := Option.bind_eq_some_iff.mp H
 obtain ⟨⟨t107, t108⟩, A120, H⟩ := H
 (try dsimp only at H)
 have A12 := Aside0.mk A120
 clear A120
 simp only [Option.some.injEq, Prod.mk.injEq] at H
 obtain ⟨rfl, rfl, rfl⟩ := H
 have WAY1 := True.intro
 rotate_left
 replace c3 := Bool.eq_false_iff.mpr c3
 subst c3
 have H1 : (some (0, 0, false)) = some (r1, r2, r3) := by rw [if_neg (show ¬ (false = true) by decide)] at H; exact H
 clear H
 have H := H1
 clear H1
 simp only [Option.some.injEq, Prod.mk.injEq] at H
 obtain ⟨rfl, rfl, rfl⟩ := H
 have WAY2 := True.intro
 rotate_left
 all_goals
  go_enter Try.func27, Try.ntmps27
  go_wp2_with (first | ((with_reducible refine gate_dst (N := 1) rfl ?_); refine box_event ?hg (N := 1) ?hd (cs := #[.int .i64 a0_0, .int .i64 a0_1, .int .i64 a0_2, .int .i64 a0_3]) (t := 36) ?hr ?_; (case hd => rfl); (case hg => rfl); (case hr => first | (go_simp; done) | (go_simp; rfl)); intro gb101 hg w8 hbox hb; have n0_ := Aside0.mk (below_step (by exact eS HB.out) hb); have n1_ := Aside0.mk (hbox); have n2_ := Aside0.mk ((by rw [hg]; exact (below_size (by exact eS HB.out)) : w.heap.size ≤ gb101)); have n3_ := Aside0.mk ((by rw [hg]; exact (below_size (by exact eS HB.out)) : w.heap.size ≤ gb101)); clear HB; have HB := n0_; have BK101 := n1_; have GW101 := n2_; have GE101 := n3_; clear n0_ n1_ n2_ n3_; clear hb hbox hg; obtain ⟨hcz9_0, hcz9_1, hcz9_2, hcz9_3, hfz9_0, hfz9_1, hfz9_2, hfz9_3⟩ := Sq.c4 BK101.out) | ((first | guard_hyp WAY0 : True | guard_hyp WAY1 : True); (go_at_call 51; (with_reducible refine (spec_l15Measure.calls a0_0 a0_1 a0_2 a0_3 true _ A2.out).mono ?_); rintro e w10 ⟨rfl, hb⟩; have n0_ := Aside0.mk (blk_below (bS BK101.out) hb); have n1_ := Aside0.mk (below_step (by exact eS HB.out) hb); clear BK101; clear HB; have BK101 := n0_; have HB := n1_; clear n0_ n1_; (try clear hb); (try clear hb2); (try clear hk); (try clear hi); obtain ⟨hcz11_0, hcz11_1, hcz11_2, hcz11_3, hfz11_0, hfz11_1, hfz11_2, hfz11_3⟩ := Sq.c4 BK101.out)) | ((first | guard_hyp WAY0 : True | guard_hyp WAY1 : True); (go_at_call 53; (with_reducible refine (spec_l1Most.calls (wrap64 (a0_0 - a0_1)) (wrap64 (a0_1 - a0_0)) t103 _ A4.out).mono ?_); rintro e w' ⟨rfl, ⟨nd, rfl⟩⟩; (try first | exact ⟨rfl, _, World.drewN_drewN _ _ _⟩ | exact ⟨rfl, _, Eq.trans (World.drewN_drewN _ _ _) (congrArg (World.drewN _) (Nat.add_assoc _ _ _))⟩))) | ((first | guard_hyp WAY0 : True | guard_hyp WAY1 : True); (go_at_call 53; (with_reducible refine (spec_l1Most.calls (wrap64 (a0_2 - a0_3)) (wrap64 (a0_3 - a0_2)) t104 _ A5.out).mono ?_); rintro e w' ⟨rfl, ⟨nd, rfl⟩⟩; (try first | exact ⟨rfl, _, World.drewN_drewN _ _ _⟩ | exact ⟨rfl, _, Eq.trans (World.drewN_drewN _ _ _) (congrArg (World.drewN _) (Nat.add_assoc _ _ _))⟩))) | ((guard_hyp WAY0 : True); (go_at_call 55; (with_reducible refine (spec_l2Reduce.calls k t104 (wrap64 (a0_2 + a0_3)) t105 t106 _ A7.out).mono ?_); rintro e w' ⟨rfl, ⟨nd, rfl⟩⟩; (try first | exact ⟨rfl, _, World.drewN_drewN _ _ _⟩ | exact ⟨rfl, _, Eq.trans (World.drewN_drewN _ _ _) (congrArg (World.drewN _) (Nat.add_assoc _ _ _))⟩))) | ((guard_hyp WAY1 : True); (go_at_call 55; (with_reducible refine (spec_l2Reduce.calls k t103 (wrap64 (a0_0 + a0_1)) t107 t108 _ A12.out).mono ?_); rintro e w' ⟨rfl, ⟨nd, rfl⟩⟩; (try first | exact ⟨rfl, _, World.drewN_drewN _ _ _⟩ | exact ⟨rfl, _, Eq.trans (World.drewN_drewN _ _ _) (congrArg (World.drewN _) (Nat.add_assoc _ _ _))⟩))) | ((guard_hyp WAY2 : True); (go_at_call 51; (with_reducible refine (spec_l15Measure.calls a0_0 a0_1 a0_2 a0_3 false _ A2.out).mono ?_); rintro e w19 ⟨rfl, hb⟩; have n0_ := Aside0.mk (blk_below (bS BK101.out) hb); have n1_ := Aside0.mk (below_step (by exact eS HB.out) hb); clear BK101; clear HB; have BK101 := n0_; have HB := n1_; clear n0_ n1_; (try clear hb); (try clear hb2); (try clear hk); (try clear hi))))
 ·repeat (go_quiet (first | ((with_reducible refine gate_dst (N := 1) rfl ?_); refine box_event ?hg (N := 1) ?hd (cs := #[.int .i64 a0_0, .int .i64 a0_1, .int .i64 a0_2, .int .i64 a0_3]) (t := 36) ?hr ?_; (case hd => rfl); (case hg => rfl); (case hr => first | (go_simp; done) | (go_simp; rfl)); intro gb101 hg w8 hbox hb; have n0_ := Aside0.mk (below_step (by exact eS HB.out) hb); have n1_ := Aside0.mk (hbox); have n2_ := Aside0.mk ((by rw [hg]; exact (below_size (by exact eS HB.out)) : w.heap.size ≤ gb101)); have n3_ := Aside0.mk ((by rw [hg]; exact (below_size (by exact eS HB.out)) : w.heap.size ≤ gb101)); clear HB; have HB := n0_; have BK101 := n1_; have GW101 := n2_; have GE101 := n3_; clear n0_ n1_ n2_ n3_; clear hb hbox hg; obtain ⟨hcz9_0, hcz9_1, hcz9_2, hcz9_3, hfz9_0, hfz9_1, hfz9_2, hfz9_3⟩ := Sq.c4 BK101.out) | (go_at_call 51; (with_reducible refine (spec_l15Measure.calls a0_0 a0_1 a0_2 a0_3 true _ A2.out).mono ?_); rintro e w10 ⟨rfl, hb⟩; have n0_ := Aside0.mk (blk_below (bS BK101.out) hb); have n1_ := Aside0.mk (below_step (by exact eS HB.out) hb); clear BK101; clear HB; have BK101 := n0_; have HB := n1_; clear n0_ n1_; (try clear hb); (try clear hb2); (try clear hk); (try clear hi); obtain ⟨hcz11_0, hcz11_1, hcz11_2, hcz11_3, hfz11_0, hfz11_1, hfz11_2, hfz11_3⟩ := Sq.c4 BK101.out) | (go_at_call 53; (with_reducible refine (spec_l1Most.calls (wrap64 (a0_0 - a0_1)) (wrap64 (a0_1 - a0_0)) t103 _ A4.out).mono ?_); rintro e w' ⟨rfl, ⟨nd, rfl⟩⟩; (try first | exact ⟨rfl, _, World.drewN_drewN _ _ _⟩ | exact ⟨rfl, _, Eq.trans (World.drewN_drewN _ _ _) (congrArg (World.drewN _) (Nat.add_assoc _ _ _))⟩)) | (go_at_call 53; (with_reducible refine (spec_l1Most.calls (wrap64 (a0_2 - a0_3)) (wrap64 (a0_3 - a0_2)) t104 _ A5.out).mono ?_); rintro e w' ⟨rfl, ⟨nd, rfl⟩⟩; (try first | exact ⟨rfl, _, World.drewN_drewN _ _ _⟩ | exact ⟨rfl, _, Eq.trans (World.drewN_drewN _ _ _) (congrArg (World.drewN _) (Nat.add_assoc _ _ _))⟩)) | (go_at_call 55; (with_reducible refine (spec_l2Reduce.calls k t104 (wrap64 (a0_2 + a0_3)) t105 t106 _ A7.out).mono ?_); rintro e w' ⟨rfl, ⟨nd, rfl⟩⟩; (try first | exact ⟨rfl, _, World.drewN_drewN _ _ _⟩ | exact ⟨rfl, _, Eq.trans (World.drewN_drewN _ _ _) (congrArg (World.drewN _) (Nat.add_assoc _ _ _))⟩))); try go_wp2_with (first | ((with_reducible refine gate_dst (N := 1) rfl ?_); refine box_event ?hg (N := 1) ?hd (cs := #[.int .i64 a0_0, .int .i64 a0_1, .int .i64 a0_2, .int .i64 a0_3]) (t := 36) ?hr ?_; (case hd => rfl); (case hg => rfl); (case hr => first | (go_simp; done) | (go_simp; rfl)); intro gb101 hg w8 hbox hb; have n0_ := Aside0.mk (below_step (by exact eS HB.out) hb); have n1_ := Aside0.mk (hbox); have n2_ := Aside0.mk ((by rw [hg]; exact (below_size (by exact eS HB.out)) : w.heap.size ≤ gb101)); have n3_ := Aside0.mk ((by rw [hg]; exact (below_size (by exact eS HB.out)) : w.heap.size ≤ gb101)); clear HB; have HB := n0_; have BK101 := n1_; have GW101 := n2_; have GE101 := n3_; clear n0_ n1_ n2_ n3_; clear hb hbox hg; obtain ⟨hcz9_0, hcz9_1, hcz9_2, hcz9_3, hfz9_0, hfz9_1, hfz9_2, hfz9_3⟩ := Sq.c4 BK101.out) | (go_at_call 51; (with_reducible refine (spec_l15Measure.calls a0_0 a0_1 a0_2 a0_3 true _ A2.out).mono ?_); rintro e w10 ⟨rfl, hb⟩; have n0_ := Aside0.mk (blk_below (bS BK101.out) hb); have n1_ := Aside0.mk (below_step (by exact eS HB.out) hb); clear BK101; clear HB; have BK101 := n0_; have HB := n1_; clear n0_ n1_; (try clear hb); (try clear hb2); (try clear hk); (try clear hi); obtain ⟨hcz11_0, hcz11_1, hcz11_2, hcz11_3, hfz11_0, hfz11_1, hfz11_2, hfz11_3⟩ := Sq.c4 BK101.out) | (go_at_call 53; (with_reducible refine (spec_l1Most.calls (wrap64 (a0_0 - a0_1)) (wrap64 (a0_1 - a0_0)) t103 _ A4.out).mono ?_); rintro e w' ⟨rfl, ⟨nd, rfl⟩⟩; (try first | exact ⟨rfl, _, World.drewN_drewN _ _ _⟩ | exact ⟨rfl, _, Eq.trans (World.drewN_drewN _ _ _) (congrArg (World.drewN _) (Nat.add_assoc _ _ _))⟩)) | (go_at_call 53; (with_reducible refine (spec_l1Most.calls (wrap64 (a0_2 - a0_3)) (wrap64 (a0_3 - a0_2)) t104 _ A5.out).mono ?_); rintro e w' ⟨rfl, ⟨nd, rfl⟩⟩; (try first | exact ⟨rfl, _, World.drewN_drewN _ _ _⟩ | exact ⟨rfl, _, Eq.trans (World.drewN_drewN _ _ _) (congrArg (World.drewN _) (Nat.add_assoc _ _ _))⟩)) | (go_at_call 55; (with_reducible refine (spec_l2Reduce.calls k t104 (wrap64 (a0_2 + a0_3)) t105 t106 _ A7.out).mono ?_); rintro e w' ⟨rfl, ⟨nd, rfl⟩⟩; (try first | exact ⟨rfl, _, World.drewN_drewN _ _ _⟩ | exact ⟨rfl, _, Eq.trans (World.drewN_drewN _ _ _) (congrArg (World.drewN _) (Nat.add_assoc _ _ _))⟩))))
  go_ret3
  exact ⟨by first | rfl | (simp [errW_none, errW_some] <;> rfl) | (simp [*, errW_none, errW_some] <;> rfl), by exact eS HB.out⟩
 ·repeat (go_quiet (first | ((with_reducible refine gate_dst (N := 1) rfl ?_); refine box_event ?hg (N := 1) ?hd (cs := #[.int .i64 a0_0, .int .i64 a0_1, .int .i64 a0_2, .int .i64 a0_3]) (t := 36) ?hr ?_; (case hd => rfl); (case hg => rfl); (case hr => first | (go_simp; done) | (go_simp; rfl)); intro gb101 hg w8 hbox hb; have n0_ := Aside0.mk (below_step (by exact eS HB.out) hb); have n1_ := Aside0.mk (hbox); have n2_ := Aside0.mk ((by rw [hg]; exact (below_size (by exact eS HB.out)) : w.heap.size ≤ gb101)); have n3_ := Aside0.mk ((by rw [hg]; exact (below_size (by exact eS HB.out)) : w.heap.size ≤ gb101)); clear HB; have HB := n0_; have BK101 := n1_; have GW101 := n2_; have GE101 := n3_; clear n0_ n1_ n2_ n3_; clear hb hbox hg; obtain ⟨hcz9_0, hcz9_1, hcz9_2, hcz9_3, hfz9_0, hfz9_1, hfz9_2, hfz9_3⟩ := Sq.c4 BK101.out) | (go_at_call 51; (with_reducible refine (spec_l15Measure.calls a0_0 a0_1 a0_2 a0_3 true _ A2.out).mono ?_); rintro e w10 ⟨rfl, hb⟩; have n0_ := Aside0.mk (blk_below (bS BK101.out) hb); have n1_ := Aside0.mk (below_step (by exact eS HB.out) hb); clear BK101; clear HB; have BK101 := n0_; have HB := n1_; clear n0_ n1_; (try clear hb); (try clear hb2); (try clear hk); (try clear hi); obtain ⟨hcz11_0, hcz11_1, hcz11_2, hcz11_3, hfz11_0, hfz11_1, hfz11_2, hfz11_3⟩ := Sq.c4 BK101.out) | (go_at_call 53; (with_reducible refine (spec_l1Most.calls (wrap64 (a0_0 - a0_1)) (wrap64 (a0_1 - a0_0)) t103 _ A4.out).mono ?_); rintro e w' ⟨rfl, ⟨nd, rfl⟩⟩; (try first | exact ⟨rfl, _, World.drewN_drewN _ _ _⟩ | exact ⟨rfl, _, Eq.trans (World.drewN_drewN _ _ _) (congrArg (World.drewN _) (Nat.add_assoc _ _ _))⟩)) | (go_at_call 53; (with_reducible refine (spec_l1Most.calls (wrap64 (a0_2 - a0_3)) (wrap64 (a0_3 - a0_2)) t104 _ A5.out).mono ?_); rintro e w' ⟨rfl, ⟨nd, rfl⟩⟩; (try first | exact ⟨rfl, _, World.drewN_drewN _ _ _⟩ | exact ⟨rfl, _, Eq.trans (World.drewN_drewN _ _ _) (congrArg (World.drewN _) (Nat.add_assoc _ _ _))⟩)) | (go_at_call 55; (with_reducible refine (spec_l2Reduce.calls k t103 (wrap64 (a0_0 + a0_1)) t107 t108 _ A12.out).mono ?_); rintro e w' ⟨rfl, ⟨nd, rfl⟩⟩; (try first | exact ⟨rfl, _, World.drewN_drewN _ _ _⟩ | exact ⟨rfl, _, Eq.trans (World.drewN_drewN _ _ _) (congrArg (World.drewN _) (Nat.add_assoc _ _ _))⟩))); try go_wp2_with (first | ((with_reducible refine gate_dst (N := 1) rfl ?_); refine box_event ?hg (N := 1) ?hd (cs := #[.int .i64 a0_0, .int .i64 a0_1, .int .i64 a0_2, .int .i64 a0_3]) (t := 36) ?hr ?_; (case hd => rfl); (case hg => rfl); (case hr => first | (go_simp; done) | (go_simp; rfl)); intro gb101 hg w8 hbox hb; have n0_ := Aside0.mk (below_step (by exact eS HB.out) hb); have n1_ := Aside0.mk (hbox); have n2_ := Aside0.mk ((by rw [hg]; exact (below_size (by exact eS HB.out)) : w.heap.size ≤ gb101)); have n3_ := Aside0.mk ((by rw [hg]; exact (below_size (by exact eS HB.out)) : w.heap.size ≤ gb101)); clear HB; have HB := n0_; have BK101 := n1_; have GW101 := n2_; have GE101 := n3_; clear n0_ n1_ n2_ n3_; clear hb hbox hg; obtain ⟨hcz9_0, hcz9_1, hcz9_2, hcz9_3, hfz9_0, hfz9_1, hfz9_2, hfz9_3⟩ := Sq.c4 BK101.out) | (go_at_call 51; (with_reducible refine (spec_l15Measure.calls a0_0 a0_1 a0_2 a0_3 true _ A2.out).mono ?_); rintro e w10 ⟨rfl, hb⟩; have n0_ := Aside0.mk (blk_below (bS BK101.out) hb); have n1_ := Aside0.mk (below_step (by exact eS HB.out) hb); clear BK101; clear HB; have BK101 := n0_; have HB := n1_; clear n0_ n1_; (try clear hb); (try clear hb2); (try clear hk); (try clear hi); obtain ⟨hcz11_0, hcz11_1, hcz11_2, hcz11_3, hfz11_0, hfz11_1, hfz11_2, hfz11_3⟩ := Sq.c4 BK101.out) | (go_at_call 53; (with_reducible refine (spec_l1Most.calls (wrap64 (a0_0 - a0_1)) (wrap64 (a0_1 - a0_0)) t103 _ A4.out).mono ?_); rintro e w' ⟨rfl, ⟨nd, rfl⟩⟩; (try first | exact ⟨rfl, _, World.drewN_drewN _ _ _⟩ | exact ⟨rfl, _, Eq.trans (World.drewN_drewN _ _ _) (congrArg (World.drewN _) (Nat.add_assoc _ _ _))⟩)) | (go_at_call 53; (with_reducible refine (spec_l1Most.calls (wrap64 (a0_2 - a0_3)) (wrap64 (a0_3 - a0_2)) t104 _ A5.out).mono ?_); rintro e w' ⟨rfl, ⟨nd, rfl⟩⟩; (try first | exact ⟨rfl, _, World.drewN_drewN _ _ _⟩ | exact ⟨rfl, _, Eq.trans (World.drewN_drewN _ _ _) (congrArg (World.drewN _) (Nat.add_assoc _ _ _))⟩)) | (go_at_call 55; (with_reducible refine (spec_l2Reduce.calls k t103 (wrap64 (a0_0 + a0_1)) t107 t108 _ A12.out).mono ?_); rintro e w' ⟨rfl, ⟨nd, rfl⟩⟩; (try first | exact ⟨rfl, _, World.drewN_drewN _ _ _⟩ | exact ⟨rfl, _, Eq.trans (World.drewN_drewN _ _ _) (congrArg (World.drewN _) (Nat.add_assoc _ _ _))⟩))))
  go_ret3
  exact ⟨by first | rfl | (simp [errW_none, errW_some] <;> rfl) | (simp [*, errW_none, errW_some] <;> rfl), by exact eS HB.out⟩
 ·repeat (go_quiet (first | ((with_reducible refine gate_dst (N := 1) rfl ?_); refine box_event ?hg (N := 1) ?hd (cs := #[.int .i64 a0_0, .int .i64 a0_1, .int .i64 a0_2, .int .i64 a0_3]) (t := 36) ?hr ?_; (case hd => rfl); (case hg => rfl); (case hr => first | (go_simp; done) | (go_simp; rfl)); intro gb101 hg w8 hbox hb; have n0_ := Aside0.mk (below_step (by exact eS HB.out) hb); have n1_ := Aside0.mk (hbox); have n2_ := Aside0.mk ((by rw [hg]; exact (below_size (by exact eS HB.out)) : w.heap.size ≤ gb101)); have n3_ := Aside0.mk ((by rw [hg]; exact (below_size (by exact eS HB.out)) : w.heap.size ≤ gb101)); clear HB; have HB := n0_; have BK101 := n1_; have GW101 := n2_; have GE101 := n3_; clear n0_ n1_ n2_ n3_; clear hb hbox hg; obtain ⟨hcz9_0, hcz9_1, hcz9_2, hcz9_3, hfz9_0, hfz9_1, hfz9_2, hfz9_3⟩ := Sq.c4 BK101.out) | (go_at_call 51; (with_reducible refine (spec_l15Measure.calls a0_0 a0_1 a0_2 a0_3 false _ A2.out).mono ?_); rintro e w19 ⟨rfl, hb⟩; have n0_ := Aside0.mk (blk_below (bS BK101.out) hb); have n1_ := Aside0.mk (below_step (by exact eS HB.out) hb); clear BK101; clear HB; have BK101 := n0_; have HB := n1_; clear n0_ n1_; (try clear hb); (try clear hb2); (try clear hk); (try clear hi))); try go_wp2_with (first | ((with_reducible refine gate_dst (N := 1) rfl ?_); refine box_event ?hg (N := 1) ?hd (cs := #[.int .i64 a0_0, .int .i64 a0_1, .int .i64 a0_2, .int .i64 a0_3]) (t := 36) ?hr ?_; (case hd => rfl); (case hg => rfl); (case hr => first | (go_simp; done) | (go_simp; rfl)); intro gb101 hg w8 hbox hb; have n0_ := Aside0.mk (below_step (by exact eS HB.out) hb); have n1_ := Aside0.mk (hbox); have n2_ := Aside0.mk ((by rw [hg]; exact (below_size (by exact eS HB.out)) : w.heap.size ≤ gb101)); have n3_ := Aside0.mk ((by rw [hg]; exact (below_size (by exact eS HB.out)) : w.heap.size ≤ gb101)); clear HB; have HB := n0_; have BK101 := n1_; have GW101 := n2_; have GE101 := n3_; clear n0_ n1_ n2_ n3_; clear hb hbox hg; obtain ⟨hcz9_0, hcz9_1, hcz9_2, hcz9_3, hfz9_0, hfz9_1, hfz9_2, hfz9_3⟩ := Sq.c4 BK101.out) | (go_at_call 51; (with_reducible refine (spec_l15Measure.calls a0_0 a0_1 a0_2 a0_3 false _ A2.out).mono ?_); rintro e w19 ⟨rfl, hb⟩; have n0_ := Aside0.mk (blk_below (bS BK101.out) hb); have n1_ := Aside0.mk (below_step (by exact eS HB.out) hb); clear BK101; clear HB; have BK101 := n0_; have HB := n1_; clear n0_ n1_; (try clear hb); (try clear hb2); (try clear hk); (try clear hi))))
  go_ret3
  exact ⟨by first | rfl | (simp [errW_none, errW_some] <;> rfl) | (simp [*, errW_none, errW_some] <;> rfl), by exact eS HB.out⟩

end Go.Proofs.Ytgohfbelppokcaa.X

-- XspecStraightenByF25
namespace Go.Proofs.Ytgohfbelppokcaa.X
open Ho (bS eS)
open Go.RowKit Go.Proofs.YtgohfbelppokcaaW.PrintWords Go.Proofs.YtgohfbelppokcaaW.PrintLast Go.Proofs.YtgohfbelppokcaaW.PrintMore
attribute [local go_sem] max2_int min2_int max_two min_two max_three min_three max_four min_four   -- for this text's walks alone
set_option linter.unusedVariables false
set_option linter.unusedSimpArgs false

attribute [local go_sem ↓] Ho.isSome_setCell_   -- a store leaves all places there
/-! ### spec_StraightenBy: function 25 -/
def spec_StraightenBy.f (a0_0 : Int) (a0_1 : Int) (a0_2 : Int) (a0_3 : Int) : Option (Int × Int × Bool) := (spec_l15Measure.f a0_0 a0_1 a0_2 a0_3).bind fun t102 => (if t102 = true then ((spec_l1Most.f (wrap64 (a0_0 - a0_1)) (wrap64 (a0_1 - a0_0))).bind fun t103 => ((spec_l1Most.f (wrap64 (a0_2 - a0_3)) (wrap64 (a0_3 - a0_2))).bind fun t104 => (some (t103, t104, true)))) else (some (0, 0, false)))
set_option maxHeartbeats 8000000 in
set_option maxRecDepth 100000 in
theorem spec_StraightenBy.calls (a0_0 : Int) (a0_1 : Int) (a0_2 : Int) (a0_3 : Int) (r1 : Int) (r2 : Int) (r3 : Bool) (w : World) (h : spec_StraightenBy.f a0_0 a0_1 a0_2 a0_3 = some (r1, r2, r3)) :
  Calls Try.prog 25 #[.agg #[.int .i64 a0_0, .int .i64 a0_1, .int .i64 a0_2, .int .i64 a0_3]] w fun e w' => e = .returned (.tuple #[.int .i64 r1, .int .i64 r2, .bool r3]) ∧ Below w.heap.size w w' := by
 have hu36 := Try.underlying36
 have HB := Aside0.mk (Below.refl w.heap.size w)
 have H : ((spec_l15Measure.f a0_0 a0_1 a0_2 a0_3).bind fun t102 => (if t102 = true then ((spec_l1Most.f (wrap64 (a0_0 - a0_1)) (wrap64 (a0_1 - a0_0))).bind fun t103 => ((spec_l1Most.f (wrap64 (a0_2 - a0_3)) (wrap64 (a0_3 - a0_2))).bind fun t104 => (some (t103, t104, true)))) else (some (0, 0, false)))) = some (r1, r2, r3) := h
 clear h
 replace H := Option.bind_eq_some_iff.mp H
 obtain ⟨t102, A20, H⟩ := H
 (try dsimp only at H)
 have A2 := Aside0.mk A20
 clear A20
 by_cases c3 : t102 = true
 subst c3
 have H1 : ((spec_l1Most.f (wrap64 (a0_0 - a0_1)) (wrap64 (a0_1 - a0_0))).bind fun t103 => ((spec_l1Most.f (wrap64 (a0_2 - a0_3)) (wrap64 (a0_3 - a0_2))).bind fun t104 => (some (t103, t104, true)))) = some (r1, r2, r3) := by rw [if_pos rfl] at H; exact H
 clear H
 have H := H1
 clear H1
 replace H := Option.bind_eq_some_iff.mp H
 obtain ⟨t103, A40, H⟩ := H
 (try dsimp only at H)
 have A4 := Aside0.mk A40
 clear A40
 replace H := Option.bind_eq_some_iff.mp H
 obtain ⟨t104, A50, H⟩ := H
 (try dsimp only at H)
 have A5 := Aside0.mk A50
 clear A50
 simp only [Option.some.injEq, Prod.mk.injEq] at H
 obtain ⟨rfl, rfl, rfl⟩ := H
 have WAY0 := True.intro
 rotate_left
 replace c3 := Bool.eq_false_iff.mpr c3
 subst c3
 have H1 : (some (0, 0, false)) = some (r1, r2, r3) := by rw [if_neg (show ¬ (false = true) by decide)] at H; exact H
 clear H
 have H := H1
 clear H1
 simp only [Option.some.injEq, Prod.mk.injEq] at H
 obtain ⟨rfl, rfl, rfl⟩ := H
 have WAY1 := True.intro
 rotate_left
 all_goals
  go_enter Try.func25, Try.ntmps25
  go_wp2_with (first | ((with_reducible refine gate_dst (N := 1) rfl ?_); refine box_event ?hg (N := 1) ?hd (cs := #[.int .i64 a0_0, .int .i64 a0_1, .int .i64 a0_2, .int .i64 a0_3]) (t := 36) ?hr ?_; (case hd => rfl); (case hg => rfl); (case hr => first | (go_simp; done) | (go_simp; rfl)); intro gb101 hg w6 hbox hb; have n0_ := Aside0.mk (below_step (by exact eS HB.out) hb); have n1_ := Aside0.mk (hbox); have n2_ := Aside0.mk ((by rw [hg]; exact (below_size (by exact eS HB.out)) : w.heap.size ≤ gb101)); have n3_ := Aside0.mk ((by rw [hg]; exact (below_size (by exact eS HB.out)) : w.heap.size ≤ gb101)); clear HB; have HB := n0_; have BK101 := n1_; have GW101 := n2_; have GE101 := n3_; clear n0_ n1_ n2_ n3_; clear hb hbox hg; obtain ⟨hcz7_0, hcz7_1, hcz7_2, hcz7_3, hfz7_0, hfz7_1, hfz7_2, hfz7_3⟩ := Sq.c4 BK101.out) | ((guard_hyp WAY0 : True); (go_at_call 51; (with_reducible refine (spec_l15Measure.calls a0_0 a0_1 a0_2 a0_3 true _ A2.out).mono ?_); rintro e w8 ⟨rfl, hb⟩; have n0_ := Aside0.mk (blk_below (bS BK101.out) hb); have n1_ := Aside0.mk (below_step (by exact eS HB.out) hb); clear BK101; clear HB; have BK101 := n0_; have HB := n1_; clear n0_ n1_; (try clear hb); (try clear hb2); (try clear hk); (try clear hi); obtain ⟨hcz9_0, hcz9_1, hcz9_2, hcz9_3, hfz9_0, hfz9_1, hfz9_2, hfz9_3⟩ := Sq.c4 BK101.out)) | ((guard_hyp WAY0 : True); (go_at_call 53; (with_reducible refine (spec_l1Most.calls (wrap64 (a0_0 - a0_1)) (wrap64 (a0_1 - a0_0)) t103 _ A4.out).mono ?_); rintro e w' ⟨rfl, ⟨nd, rfl⟩⟩; (try first | exact ⟨rfl, _, World.drewN_drewN _ _ _⟩ | exact ⟨rfl, _, Eq.trans (World.drewN_drewN _ _ _) (congrArg (World.drewN _) (Nat.add_assoc _ _ _))⟩))) | ((guard_hyp WAY0 : True); (go_at_call 53; (with_reducible refine (spec_l1Most.calls (wrap64 (a0_2 - a0_3)) (wrap64 (a0_3 - a0_2)) t104 _ A5.out).mono ?_); rintro e w' ⟨rfl, ⟨nd, rfl⟩⟩; (try first | exact ⟨rfl, _, World.drewN_drewN _ _ _⟩ | exact ⟨rfl, _, Eq.trans (World.drewN_drewN _ _ _) (congrArg (World.drewN _) (Nat.add_assoc _ _ _))⟩))) | ((guard_hyp WAY1 : True); (go_at_call 51; (with_reducible refine (spec_l15Measure.calls a0_0 a0_1 a0_2 a0_3 false _ A2.out).mono ?_); rintro e w12 ⟨rfl, hb⟩; have n0_ := Aside0.mk (blk_below (bS BK101.out) hb); have n1_ := Aside0.mk (below_step (by exact eS HB.out) hb); clear BK101; clear HB; have BK101 := n0_; have HB := n1_; clear n0_ n1_; (try clear hb); (try clear hb2); (try clear hk); (try clear hi))))
 ·repeat (go_quiet (first | ((with_reducible refine gate_dst (N := 1) rfl ?_); refine box_event ?hg (N := 1) ?hd (cs := #[.int .i64 a0_0, .int .i64 a0_1, .int .i64 a0_2, .int .i64 a0_3]) (t := 36) ?hr ?_; (case hd => rfl); (case hg => rfl); (case hr => first | (go_simp; done) | (go_simp; rfl)); intro gb101 hg w6 hbox hb; have n0_ := Aside0.mk (below_step (by exact eS HB.out) hb); have n1_ := Aside0.mk (hbox); have n2_ := Aside0.mk ((by rw [hg]; exact (below_size (by exact eS HB.out)) : w.heap.size ≤ gb101)); have n3_ := Aside0.mk ((by rw [hg]; exact (below_size (by exact eS HB.out)) : w.heap.size ≤ gb101)); clear HB; have HB := n0_; have BK101 := n1_; have GW101 := n2_; have GE101 := n3_; clear n0_ n1_ n2_ n3_; clear hb hbox hg; obtain ⟨hcz7_0, hcz7_1, hcz7_2, hcz7_3, hfz7_0, hfz7_1, hfz7_2, hfz7_3⟩ := Sq.c4 BK101.out) | (go_at_call 51; (with_reducible refine (spec_l15Measure.calls a0_0 a0_1 a0_2 a0_3 true _ A2.out).mono ?_); rintro e w8 ⟨rfl, hb⟩; have n0_ := Aside0.mk (blk_below (bS BK101.out) hb); have n1_ := Aside0.mk (below_step (by exact eS HB.out) hb); clear BK101; clear HB; have BK101 := n0_; have HB := n1_; clear n0_ n1_; (try clear hb); (try clear hb2); (try clear hk); (try clear hi); obtain ⟨hcz9_0, hcz9_1, hcz9_2, hcz9_3, hfz9_0, hfz9_1, hfz9_2, hfz9_3⟩ := Sq.c4 BK101.out) | (go_at_call 53; (with_reducible refine (spec_l1Most.calls (wrap64 (a0_0 - a0_1)) (wrap64 (a0_1 - a0_0)) t103 _ A4.out).mono ?_); rintro e w' ⟨rfl, ⟨nd, rfl⟩⟩; (try first | exact ⟨rfl, _, World.drewN_drewN _ _ _⟩ | exact ⟨rfl, _, Eq.trans (World.drewN_drewN _ _ _) (congrArg (World.drewN _) (Nat.add_assoc _ _ _))⟩)) | (go_at_call 53; (with_reducible refine (spec_l1Most.calls (wrap64 (a0_2 - a0_3)) (wrap64 (a0_3 - a0_2)) t104 _ A5.out).mono ?_); rintro e w' ⟨rfl, ⟨nd, rfl⟩⟩; (try first | exact ⟨rfl, _, World.drewN_drewN _ _ _⟩ | exact ⟨rfl, _, Eq.trans (World.drewN_drewN _ _ _) (congrArg (World.drewN _) (Nat.add_assoc _ _ _))⟩))); try go_wp2_with (first | ((with_reducible refine gate_dst (N := 1) rfl ?_); refine box_event ?hg (N := 1) ?hd (cs := #[.int .i64 a0_0, .int .i64 a0_1, .int .i64 a0_2, .int .i64 a0_3]) (t := 36) ?hr ?_; (case hd => rfl); (case hg => rfl); (case hr => first | (go_simp; done) | (go_simp; rfl)); intro gb101 hg w6 hbox hb; have n0_ := Aside0.mk (below_step (by exact eS HB.out) hb); have n1_ := Aside0.mk (hbox); have n2_ := Aside0.mk ((by rw [hg]; exact (below_size (by exact eS HB.out)) : w.heap.size ≤ gb101)); have n3_ := Aside0.mk ((by rw [hg]; exact (below_size (by exact eS HB.out)) : w.heap.size ≤ gb101)); clear HB; have HB := n0_; have BK101 := n1_; have GW101 := n2_; have GE101 := n3_; clear n0_ n1_ n2_ n3_; clear hb hbox hg; obtain ⟨hcz7_0, hcz7_1, hcz7_2, hcz7_3, hfz7_0, hfz7_1, hfz7_2, hfz7_3⟩ := Sq.c4 BK101.out) | (go_at_call 51; (with_reducible refine (spec_l15Measure.calls a0_0 a0_1 a0_2 a0_3 true _ A2.out).mono ?_); rintro e w8 ⟨rfl, hb⟩; have n0_ := Aside0.mk (blk_below (bS BK101.out) hb); have n1_ := Aside0.mk (below_step (by exact eS HB.out) hb); clear BK101; clear HB; have BK101 := n0_; have HB := n1_; clear n0_ n1_; (try clear hb); (try clear hb2); (try clear hk); (try clear hi); obtain ⟨hcz9_0, hcz9_1, hcz9_2, hcz9_3, hfz9_0, hfz9_1, hfz9_2, hfz9_3⟩ := Sq.c4 BK101.out) | (go_at_call 53; (with_reducible refine (spec_l1Most.calls (wrap64 (a0_0 - a0_1)) (wrap64 (a0_1 - a0_0)) t103 _ A4.out).mono ?_); rintro e w' ⟨rfl, ⟨nd, rfl⟩⟩; (try first | exact ⟨rfl, _, World.drewN_drewN _ _ _⟩ | exact ⟨rfl, _, Eq.trans (World.drewN_drewN _ _ _) (congrArg (World.drewN _) (Nat.add_assoc _ _ _))⟩)) | (go_at_call 53; (with_reducible refine (spec_l1Most.calls (wrap64 (a0_2 - a0_3)) (wrap64 (a0_3 - a0_2)) t104 _ A5.out).mono ?_); rintro e w' ⟨rfl, ⟨nd, rfl⟩⟩; (try first | exact ⟨rfl, _, World.drewN_drewN _ _ _⟩ | exact ⟨rfl, _, Eq.trans (World.drewN_drewN _ _ _) (congrArg (World.drewN _) (Nat.add_assoc _ _ _))⟩))))
  go_ret3
  exact ⟨by first | rfl | (simp [errW_none, errW_some] <;> rfl) | (simp [*, errW_none, errW_some] <;> rfl), by exact eS HB.out⟩
 ·repeat (go_quiet (first | ((with_reducible refine gate_dst (N := 1) rfl ?_); refine box_event ?hg (N := 1) ?hd (cs := #[.int .i64 a0_0, .int .i64 a0_1, .int .i64 a0_2, .int .i64 a0_3]) (t := 36) ?hr ?_; (case hd => rfl); (case hg => rfl); (case hr => first | (go_simp; done) | (go_simp; rfl)); intro gb101 hg w6 hbox hb; have n0_ := Aside0.mk (below_step (by exact eS HB.out) hb); have n1_ := Aside0.mk (hbox); have n2_ := Aside0.mk ((by rw [hg]; exact (below_size (by exact eS HB.out)) : w.heap.size ≤ gb101)); have n3_ := Aside0.mk ((by rw [hg]; exact (below_size (by exact eS HB.out)) : w.heap.size ≤ gb101)); clear HB; have HB := n0_; have BK101 := n1_; have GW101 := n2_; have GE101 := n3_; clear n0_ n1_ n2_ n3_; clear hb hbox hg; obtain ⟨hcz7_0, hcz7_1, hcz7_2, hcz7_3, hfz7_0, hfz7_1, hfz7_2, hfz7_3⟩ := Sq.c4 BK101.out) | (go_at_call 51; (with_reducible refine (spec_l15Measure.calls a0_0 a0_1 a0_2 a0_3 false _ A2.out).mono ?_); rintro e w12 ⟨rfl, hb⟩; have n0_ := Aside0.mk (blk_below (bS BK101.out) hb); have n1_ := Aside0.mk (below_step (by exact eS HB.out) hb); clear BK101; clear HB; have BK101 := n0_; have HB := n1_; clear n0_ n1_; (try clear hb); (try clear hb2); (try clear hk); (try clear hi))); try go_wp2_with (first | ((with_reducible refine gate_dst (N := 1) rfl ?_); refine box_event ?hg (N := 1) ?hd (cs := #[.int .i64 a0_0, .int .i64 a0_1, .int .i64 a0_2, .int .i64 a0_3]) (t := 36) ?hr ?_; (case hd => rfl); (case hg => rfl); (case hr => first | (go_simp; done) | (go_simp; rfl)); intro gb101 hg w6 hbox hb; have n0_ := Aside0.mk (below_step (by exact eS HB.out) hb); have n1_ := Aside0.mk (hbox); have n2_ := Aside0.mk ((by rw [hg]; exact (below_size (by exact eS HB.out)) : w.heap.size ≤ gb101)); have n3_ := Aside0.mk ((by rw [hg]; exact (below_size (by exact eS HB.out)) : w.heap.size ≤ gb101)); clear HB; have HB := n0_; have BK101 := n1_; have GW101 := n2_; have GE101 := n3_; clear n0_ n1_ n2_ n3_; clear hb hbox hg; obtain ⟨hcz7_0, hcz7_1, hcz7_2, hcz7_3, hfz7_0, hfz7_1, hfz7_2, hfz7_3⟩ := Sq.c4 BK101.out) | (go_at_call 51; (with_reducible refine (spec_l15Measure.calls a0_0 a0_1 a0_2 a0_3 false _ A2.out).mono ?_); rintro e w12 ⟨rfl, hb⟩; have n0_ := Aside0.mk (blk_below (bS BK101.out) hb); have n1_ := Aside0.mk (below_step (by exact eS HB.out) hb); clear BK101; clear HB; have BK101 := n0_; have HB := n1_; clear n0_ n1_; (try clear hb); (try clear hb2); (try clear hk); (try clear hi))))
  go_ret3
  exact ⟨by first | rfl | (simp [errW_none, errW_some] <;> rfl) | (simp [*, errW_none, errW_some] <;> rfl), by exact eS HB.out⟩

end Go.Proofs.Ytgohfbelppokcaa.X

-- Xspecl15NearF66
namespace Go.Proofs.Ytgohfbelppokcaa.X
open Ho (bS eS)
open Go.RowKit Go.Proofs.YtgohfbelppokcaaW.PrintWords Go.Proofs.YtgohfbelppokcaaW.PrintLast Go.Proofs.YtgohfbelppokcaaW.PrintMore
attribute [local go_sem] max2_int min2_int max_two min_two max_three min_three max_four min_four   -- for this text's walks alone
set_option linter.unusedVariables false
set_option linter.unusedSimpArgs false

/-! ### spec_l15Near: function 66 -/
def spec_l15Near.f (a0 : Int) (a1 : Int) (a2 : Int) (a3 : Int) : Option (Bool) := (spec_l1Most.f (wrap64 ((wrap64 (a0 * a2)) - a1)) (wrap64 (-(wrap64 ((wrap64 (a0 * a2)) - a1))))).bind fun t101 => (some (decide ((wrap64 (100 * t101)) ≤ (wrap64 (a3 * a1)))))
set_option maxHeartbeats 8000000 in
set_option maxRecDepth 100000 in
theorem spec_l15Near.calls (a0 : Int) (a1 : Int) (a2 : Int) (a3 : Int) (r : Bool) (w : World) (h : spec_l15Near.f a0 a1 a2 a3 = some r) :
    Calls Try.prog 66 #[.int .i64 a0, .int .i64 a1, .int .i64 a2, .int .i64 a3] w fun e w' => e = .returned (.bool r) ∧ Drawn0 w w' := by
  have H : ((spec_l1Most.f (wrap64 ((wrap64 (a0 * a2)) - a1)) (wrap64 (-(wrap64 ((wrap64 (a0 * a2)) - a1))))).bind fun t101 => (some (decide ((wrap64 (100 * t101)) ≤ (wrap64 (a3 * a1)))))) = some r := h
  clear h
  replace H := Option.bind_eq_some_iff.mp H
  obtain ⟨t101, A50, H⟩ := H
  replace H : (some (decide ((wrap64 (100 * t101)) ≤ (wrap64 (a3 * a1))))) = some r := H
  have A5 := Aside0.mk A50
  clear A50
  obtain rfl := Option.some.inj H
  go_enter Try.func66, Try.ntmps66
  go_wp2_with (first | ((with_reducible refine gate_callee (f := 53) rfl ?_); refine goesL_ (some 18) rfl rfl Try.func53 (by kernel_rfl) rfl #[.int .i64 (wrap64 ((wrap64 (a0 * a2)) - a1)), .int .i64 (wrap64 (-(wrap64 ((wrap64 (a0 * a2)) - a1))))] rfl (by (try simp only [List.map_toArray, List.map_cons, List.map_nil]); first | done | rfl | (simp only [List.length_drop, List.length_take]; rfl)) ?_; (with_reducible refine (spec_l1Most.calls (wrap64 ((wrap64 (a0 * a2)) - a1)) (wrap64 (-(wrap64 ((wrap64 (a0 * a2)) - a1)))) t101 _ A5.out).mono ?_); rintro e w' ⟨rfl, ⟨nd, rfl⟩⟩; refine ⟨_, rfl, ?_⟩))
  go_ret
  exact ⟨by first | rfl | (simp; done) | (simp [*]; done), by repeat (first | exact Drawn0.refl _ | apply Drawn0.step)⟩

end Go.Proofs.Ytgohfbelppokcaa.X

-- XspecWithinSizeF36
namespace Go.Proofs.Ytgohfbelppokcaa.X
open Ho (bS eS)
open Go.RowKit Go.Proofs.YtgohfbelppokcaaW.PrintWords Go.Proofs.YtgohfbelppokcaaW.PrintLast Go.Proofs.YtgohfbelppokcaaW.PrintMore
attribute [local go_sem] max2_int min2_int max_two min_two max_three min_three max_four min_four   -- for this text's walks alone
set_option linter.unusedVariables false
set_option linter.unusedSimpArgs false

attribute [local go_sem ↓] Ho.isSome_setCell_   -- a store leaves all places there
/-! ### spec_WithinSize: function 36 -/
def spec_WithinSize.j0 : Nat → Int → Bool → Int → Int → List Int → Int → Int → Int → Int → Int → Int → Int → Option (Bool × Bool)
  | 0, _, _, _, _, _, _, _, _, _, _, _, _ => none
  | k + 1, x3, x27, x102000, x102001, x102002, x103000, x103001, x103002, x104000, x104001, x104002, x104003 => if x27 = true then (some (false, false)) else ((spec_l15Wide.f x102000 x103000 x103002).bind fun bt107 => ((spec_l15Wide.f x102001 x103001 x103002).bind fun bt109 => ((spec_l15Near.f x104000 bt107.1 bt107.2 x3).bind fun t111 => (if t111 = true then ((spec_l15Near.f x104001 bt107.1 bt107.2 x3).bind fun t112 => (if t112 = true then ((spec_l15Near.f x104002 bt109.1 bt109.2 x3).bind fun t113 => (if t113 = true then ((spec_l15Near.f x104003 bt109.1 bt109.2 x3).bind fun t114 => (some (t114, true))) else (some (false, true)))) else (some (false, true)))) else (some (false, true))))))
def spec_WithinSize.f (k : Nat) (a0_0 : Int) (a0_1 : Int) (l0_2 : List Int) (a1_0 : Int) (a1_1 : Int) (a1_2 : Int) (a2_0 : Int) (a2_1 : Int) (a2_2 : Int) (a2_3 : Int) (a3 : Int) : Option (Bool × Bool) := (spec_l15Asked.f k a0_0 a0_1 l0_2 a1_0 a1_1 a1_2).bind fun t104 => (if t104 = true then ((spec_l15Measure.f a2_0 a2_1 a2_2 a2_3).bind fun t105 => (if t105 = true then ((spec_l1In.f a3 0 100).bind fun t106 => (spec_WithinSize.j0 k a3 (!t106) a0_0 a0_1 l0_2 a1_0 a1_1 a1_2 a2_0 a2_1 a2_2 a2_3)) else (spec_WithinSize.j0 k a3 true a0_0 a0_1 l0_2 a1_0 a1_1 a1_2 a2_0 a2_1 a2_2 a2_3))) else (spec_WithinSize.j0 k a3 true a0_0 a0_1 l0_2 a1_0 a1_1 a1_2 a2_0 a2_1 a2_2 a2_3))
theorem spec_WithinSize.mono_l : ∀ k, (∀ y0 y1 y2 y3 y4 y5 y6 y7 y8 y9 y10 y11, LeO (spec_WithinSize.j0 k y0 y1 y2 y3 y4 y5 y6 y7 y8 y9 y10 y11) (spec_WithinSize.j0 (k + 1) y0 y1 y2 y3 y4 y5 y6 y7 y8 y9 y10 y11))
  | 0 => fun _ _ _ _ _ _ _ _ _ _ _ _ r h => by simp [spec_WithinSize.j0] at h
  | k + 1 => by
    have ih0 := spec_WithinSize.mono_l k
    · intro y0 y1 y2 y3 y4 y5 y6 y7 y8 y9 y10 y11
      unfold spec_WithinSize.j0
      repeat' first
      | (with_reducible exact ih0 _ _ _ _ _ _ _ _ _ _ _ _)
      | (with_reducible exact spec_l15Asked.mono _ _ _ _ _ _ _)
      | (with_reducible exact LeO.refl _)
      | (with_reducible exact LeO.none _)
      | (with_reducible refine LeO.ite ?_ ?_)
      | (with_reducible refine LeO.bind ?_ (fun _ => ?_))
      | exact ih0 _ _ _ _ _ _ _ _ _ _ _ _
      | exact spec_l15Asked.mono _ _ _ _ _ _ _
      | exact LeO.none _
      | refine LeO.ite ?_ ?_
      | refine LeO.bind ?_ (fun _ => ?_)
theorem spec_WithinSize.mono : ∀ a0 a1 a2 a3 a4 a5 a6 a7 a8 a9 a10 k, LeO (spec_WithinSize.f k a0 a1 a2 a3 a4 a5 a6 a7 a8 a9 a10) (spec_WithinSize.f (k + 1) a0 a1 a2 a3 a4 a5 a6 a7 a8 a9 a10) := by
  intro a0 a1 a2 a3 a4 a5 a6 a7 a8 a9 a10 k
  have ih0 := spec_WithinSize.mono_l k
  unfold spec_WithinSize.f
  repeat' first
      | (with_reducible exact ih0 _ _ _ _ _ _ _ _ _ _ _ _)
      | (with_reducible exact spec_l15Asked.mono _ _ _ _ _ _ _)
      | (with_reducible exact LeO.refl _)
      | (with_reducible exact LeO.none _)
      | (with_reducible refine LeO.ite ?_ ?_)
      | (with_reducible refine LeO.bind ?_ (fun _ => ?_))
      | exact ih0 _ _ _ _ _ _ _ _ _ _ _ _
      | exact spec_l15Asked.mono _ _ _ _ _ _ _
      | exact LeO.none _
      | refine LeO.ite ?_ ?_
      | refine LeO.bind ?_ (fun _ => ?_)
set_option maxHeartbeats 8000000 in
set_option maxRecDepth 100000 in
theorem spec_WithinSize.calls (k : Nat) (a0_0 : Int) (a0_1 : Int) (A0_2 : Option Addr) (c0_2 : Nat) (l0_2 : List Int) (a1_0 : Int) (a1_1 : Int) (a1_2 : Int) (a2_0 : Int) (a2_1 : Int) (a2_2 : Int) (a2_3 : Int) (a3 : Int) (r1 : Bool) (r2 : Bool) (w : World) (hr0_2 : Kd.C (Kd.int .i64) w A0_2 l0_2.length l0_2) (hc0_2 : l0_2.length ≤ c0_2) (h : spec_WithinSize.f k a0_0 a0_1 l0_2 a1_0 a1_1 a1_2 a2_0 a2_1 a2_2 a2_3 a3 = some (r1, r2)) :
  Calls Try.prog 36 #[.agg #[.int .i64 a0_0, .int .i64 a0_1, .slice A0_2 l0_2.length c0_2], .agg #[.int .i64 a1_0, .int .i64 a1_1, .int .i64 a1_2], .agg #[.int .i64 a2_0, .int .i64 a2_1, .int .i64 a2_2, .int .i64 a2_3], .int .i64 a3] w fun e w' => e = .returned (.tuple #[.bool r1, .bool r2]) ∧ Below w.heap.size w w' := by
 have hu46 := Try.underlying46
 have hu25 := Try.underlying25
 have hu36 := Try.underlying36
 have HR0_2 := Aside0.mk hr0_2
 have HC0_2 := Aside0.mk hc0_2
 clear hr0_2 hc0_2
 have HB := Aside0.mk (Below.refl w.heap.size w)
 have H : ((spec_l15Asked.f k a0_0 a0_1 l0_2 a1_0 a1_1 a1_2).bind fun t104 => (if t104 = true then ((spec_l15Measure.f a2_0 a2_1 a2_2 a2_3).bind fun t105 => (if t105 = true then ((spec_l1In.f a3 0 100).bind fun t106 => (spec_WithinSize.j0 k a3 (!t106) a0_0 a0_1 l0_2 a1_0 a1_1 a1_2 a2_0 a2_1 a2_2 a2_3)) else (spec_WithinSize.j0 k a3 true a0_0 a0_1 l0_2 a1_0 a1_1 a1_2 a2_0 a2_1 a2_2 a2_3))) else (spec_WithinSize.j0 k a3 true a0_0 a0_1 l0_2 a1_0 a1_1 a1_2 a2_0 a2_1 a2_2 a2_3))) = some (r1, r2) := h
 clear h
 have HC5 := Aside0.mk H
 clear H
 go_enter Try.func36, Try.ntmps36
 go_upto_region 1 with (first | ((with_reducible refine gate_dst (N := 4) rfl ?_); refine box_event ?hg (N := 4) ?hd (cs := #[.int .i64 a0_0, .int .i64 a0_1, .slice A0_2 l0_2.length c0_2]) (t := 46) ?hr ?_; (case hd => rfl); (case hg => rfl); (case hr => first | (go_simp; done) | (go_simp; rfl)); intro gb101 hg w6 hbox hb; have n0_ := Aside0.mk (below_step (by exact eS HB.out) hb); have n1_ := Aside0.mk (hbox); have n2_ := Aside0.mk ((by rw [hg]; exact (below_size (by exact eS HB.out)) : w.heap.size ≤ gb101)); have n3_ := Aside0.mk ((by rw [hg]; exact (below_size (by exact eS HB.out)) : w.heap.size ≤ gb101)); clear HB; have HB := n0_; have BK101 := n1_; have GW101 := n2_; have GE101 := n3_; clear n0_ n1_ n2_ n3_; clear hb hbox hg) | ((with_reducible refine gate_dst (N := 5) rfl ?_); refine box_event ?hg (N := 5) ?hd (cs := #[.int .i64 a1_0, .int .i64 a1_1, .int .i64 a1_2]) (t := 25) ?hr ?_; (case hd => rfl); (case hg => rfl); (case hr => first | (go_simp; done) | (go_simp; rfl)); intro gb102 hg w7 hbox hb; have n0_ := Aside0.mk (blk_below (bS BK101.out) hb); have n1_ := Aside0.mk (below_step (by exact eS HB.out) hb); have n2_ := Aside0.mk (hbox); have n3_ := Aside0.mk ((by rw [hg]; exact (below_size (by exact eS HB.out)) : w.heap.size ≤ gb102)); have n4_ := Aside0.mk ((by rw [hg]; exact (below_size (by exact eS HB.out)) : w.heap.size ≤ gb102)); have n5_ := Aside0.mk ((by rw [hg]; exact Nat.ne_of_lt (blk_lt (bS BK101.out)) : gb101 ≠ gb102)); have n6_ := Aside0.mk ((by rw [hg]; exact Nat.ne_of_gt (blk_lt (bS BK101.out)) : gb102 ≠ gb101)); clear BK101; clear HB; have BK101 := n0_; have HB := n1_; have BK102 := n2_; have GW102 := n3_; have GE102 := n4_; have NB101_102 := n5_; have NB102_101 := n6_; clear n0_ n1_ n2_ n3_ n4_ n5_ n6_; clear hb hbox hg) | ((with_reducible refine gate_dst (N := 6) rfl ?_); refine box_event ?hg (N := 6) ?hd (cs := #[.int .i64 a2_0, .int .i64 a2_1, .int .i64 a2_2, .int .i64 a2_3]) (t := 36) ?hr ?_; (case hd => rfl); (case hg => rfl); (case hr => first | (go_simp; done) | (go_simp; rfl)); intro gb103 hg w8 hbox hb; have n0_ := Aside0.mk (blk_below (bS BK101.out) hb); have n1_ := Aside0.mk (blk_below (bS BK102.out) hb); have n2_ := Aside0.mk (below_step (by exact eS HB.out) hb); have n3_ := Aside0.mk (hbox); have n4_ := Aside0.mk ((by rw [hg]; exact (below_size (by exact eS HB.out)) : w.heap.size ≤ gb103)); have n5_ := Aside0.mk ((by rw [hg]; exact (below_size (by exact eS HB.out)) : w.heap.size ≤ gb103)); have n6_ := Aside0.mk ((by rw [hg]; exact Nat.ne_of_lt (blk_lt (bS BK101.out)) : gb101 ≠ gb103)); have n7_ := Aside0.mk ((by rw [hg]; exact Nat.ne_of_gt (blk_lt (bS BK101.out)) : gb103 ≠ gb101)); have n8_ := Aside0.mk ((by rw [hg]; exact Nat.ne_of_lt (blk_lt (bS BK102.out)) : gb102 ≠ gb103)); have n9_ := Aside0.mk ((by rw [hg]; exact Nat.ne_of_gt (blk_lt (bS BK102.out)) : gb103 ≠ gb102)); clear BK101; clear BK102; clear HB; have BK101 := n0_; have BK102 := n1_; have HB := n2_; have BK103 := n3_; have GW103 := n4_; have GE103 := n5_; have NB101_103 := n6_; have NB103_101 := n7_; have NB102_103 := n8_; have NB103_102 := n9_; clear n0_ n1_ n2_ n3_ n4_ n5_ n6_ n7_ n8_ n9_; clear hb hbox hg))
 (try simp only [Act.put, List.setIfInBounds_toArray, List.set_cons_zero, List.set_cons_succ])
 go_cut [27] (fun v27 wc => ∃ (kq : Nat) (x27_4 : Bool), v27 = .bool x27_4 ∧ Aside0 (spec_WithinSize.j0 kq a3 x27_4 a0_0 a0_1 l0_2 a1_0 a1_1 a1_2 a2_0 a2_1 a2_2 a2_3 = some (r1, r2)) ∧ Aside0 (kq ≤ k) ∧ Aside0 (wc.heap[gb101]? = some (.cells #[.int .i64 a0_0, .int .i64 a0_1, (.slice A0_2 l0_2.length c0_2)] 46 (0, 0))) ∧ Aside0 (wc.heap[gb102]? = some (.cells #[.int .i64 a1_0, .int .i64 a1_1, .int .i64 a1_2] 25 (0, 0))) ∧ Aside0 (wc.heap[gb103]? = some (.cells #[.int .i64 a2_0, .int .i64 a2_1, .int .i64 a2_2, .int .i64 a2_3] 36 (0, 0))) ∧ Aside0 (Below w.heap.size w wc))
 case first =>
  have H := HC5.out
  clear HC5
  replace H := Option.bind_eq_some_iff.mp H
  obtain ⟨t104, A90, H⟩ := H
  (try dsimp only at H)
  have A9 := Aside0.mk A90
  clear A90
  by_cases c10 : t104 = true
  rotate_left
  ·replace c10 := Bool.eq_false_iff.mpr c10
   subst c10
   have H1 : (spec_WithinSize.j0 k a3 true a0_0 a0_1 l0_2 a1_0 a1_1 a1_2 a2_0 a2_1 a2_2 a2_3) = some (r1, r2) := by rw [if_neg (show ¬ (false = true) by decide)] at H; exact H
   clear H
   have H := H1
   clear H1
   have H' := Aside0.mk H
   clear H
   have hnb30 := NB101_102.out
   have hnc30 := NB102_101.out
   have hnb31 := NB101_103.out
   have hnc31 := NB103_101.out
   obtain ⟨hcz32_0, hcz32_1, hcz32_2, hfz32_0, hfz32_1, hfz32_2⟩ := Sq.c3 BK101.out
   have hnb33 := NB102_103.out
   have hnc33 := NB103_102.out
   obtain ⟨hcz34_0, hcz34_1, hcz34_2, hfz34_0, hfz34_1, hfz34_2⟩ := Sq.c3 BK102.out
   go_wp2_with (first | ((with_reducible refine gate_callee (f := 58) rfl ?_); refine goesL_ (some 16) rfl rfl Try.func58 (by kernel_rfl) rfl #[.agg #[.int .i64 a0_0, .int .i64 a0_1, .slice A0_2 l0_2.length c0_2], .agg #[.int .i64 a1_0, .int .i64 a1_1, .int .i64 a1_2]] rfl (by (try simp only [List.map_toArray, List.map_cons, List.map_nil]); first | done | rfl | (simp only [List.length_drop, List.length_take]; rfl)) ?_; (with_reducible refine (spec_l15Asked.calls k a0_0 a0_1 _ _ l0_2 a1_0 a1_1 a1_2 false _ ?side1 ?side2 A9.out).mono ?_); (case side1 => repeat (first | exact (Kd.C_below HR0_2.out HB.out) | (with_reducible refine Kd.C_alloc ?_ _) | (with_reducible refine Kd.C_drewN ?_ _) | (with_reducible refine Kd.C_drew ?_))); (case side2 => exact HC0_2.out); rintro e w35 ⟨rfl, hb⟩; refine ⟨_, rfl, ?_⟩; have n0_ := Aside0.mk (blk_below (bS BK101.out) hb); have n1_ := Aside0.mk (blk_below (bS BK102.out) hb); have n2_ := Aside0.mk (blk_below (bS BK103.out) hb); have n3_ := Aside0.mk (below_step (by exact eS HB.out) hb); clear BK101; clear BK102; clear BK103; clear HB; have BK101 := n0_; have BK102 := n1_; have BK103 := n2_; have HB := n3_; clear n0_ n1_ n2_ n3_; (try clear hb); (try clear hb2); (try clear hk); (try clear hi)))
   go_meet
   case rel => exact ⟨_, (true), (by first | rfl | (simp; done) | (simp [*]; done)), H', ⟨by first | omega | exact Nat.le_refl _⟩, ⟨by exact bS BK101.out⟩, ⟨by exact bS BK102.out⟩, ⟨by exact bS BK103.out⟩, ⟨by exact eS HB.out⟩⟩
  subst c10
  have H1 : ((spec_l15Measure.f a2_0 a2_1 a2_2 a2_3).bind fun t105 => (if t105 = true then ((spec_l1In.f a3 0 100).bind fun t106 => (spec_WithinSize.j0 k a3 (!t106) a0_0 a0_1 l0_2 a1_0 a1_1 a1_2 a2_0 a2_1 a2_2 a2_3)) else (spec_WithinSize.j0 k a3 true a0_0 a0_1 l0_2 a1_0 a1_1 a1_2 a2_0 a2_1 a2_2 a2_3))) = some (r1, r2) := by rw [if_pos rfl] at H; exact H
  clear H
  have H := H1
  clear H1
  replace H := Option.bind_eq_some_iff.mp H
  obtain ⟨t105, A110, H⟩ := H
  (try dsimp only at H)
  have A11 := Aside0.mk A110
  clear A110
  by_cases c12 : t105 = true
  rotate_left
  ·replace c12 := Bool.eq_false_iff.mpr c12
   subst c12
   have H1 : (spec_WithinSize.j0 k a3 true a0_0 a0_1 l0_2 a1_0 a1_1 a1_2 a2_0 a2_1 a2_2 a2_3) = some (r1, r2) := by rw [if_neg (show ¬ (false = true) by decide)] at H; exact H
   clear H
   have H := H1
   clear H1
   have H' := Aside0.mk H
   clear H
   have hnb22 := NB101_102.out
   have hnc22 := NB102_101.out
   have hnb23 := NB101_103.out
   have hnc23 := NB103_101.out
   obtain ⟨hcz24_0, hcz24_1, hcz24_2, hfz24_0, hfz24_1, hfz24_2⟩ := Sq.c3 BK101.out
   have hnb25 := NB102_103.out
   have hnc25 := NB103_102.out
   obtain ⟨hcz26_0, hcz26_1, hcz26_2, hfz26_0, hfz26_1, hfz26_2⟩ := Sq.c3 BK102.out
   go_wp2_with (first | ((with_reducible refine gate_callee (f := 58) rfl ?_); refine goesL_ (some 16) rfl rfl Try.func58 (by kernel_rfl) rfl #[.agg #[.int .i64 a0_0, .int .i64 a0_1, .slice A0_2 l0_2.length c0_2], .agg #[.int .i64 a1_0, .int .i64 a1_1, .int .i64 a1_2]] rfl (by (try simp only [List.map_toArray, List.map_cons, List.map_nil]); first | done | rfl | (simp only [List.length_drop, List.length_take]; rfl)) ?_; (with_reducible refine (spec_l15Asked.calls k a0_0 a0_1 _ _ l0_2 a1_0 a1_1 a1_2 true _ ?side1 ?side2 A9.out).mono ?_); (case side1 => repeat (first | exact (Kd.C_below HR0_2.out HB.out) | (with_reducible refine Kd.C_alloc ?_ _) | (with_reducible refine Kd.C_drewN ?_ _) | (with_reducible refine Kd.C_drew ?_))); (case side2 => exact HC0_2.out); rintro e w27 ⟨rfl, hb⟩; refine ⟨_, rfl, ?_⟩; have n0_ := Aside0.mk (blk_below (bS BK101.out) hb); have n1_ := Aside0.mk (blk_below (bS BK102.out) hb); have n2_ := Aside0.mk (blk_below (bS BK103.out) hb); have n3_ := Aside0.mk (below_step (by exact eS HB.out) hb); clear BK101; clear BK102; clear BK103; clear HB; have BK101 := n0_; have BK102 := n1_; have BK103 := n2_; have HB := n3_; clear n0_ n1_ n2_ n3_; (try clear hb); (try clear hb2); (try clear hk); (try clear hi); obtain ⟨hcz28_0, hcz28_1, hcz28_2, hcz28_3, hfz28_0, hfz28_1, hfz28_2, hfz28_3⟩ := Sq.c4 BK103.out) | (go_at_call 51; (with_reducible refine (spec_l15Measure.calls a2_0 a2_1 a2_2 a2_3 false _ A11.out).mono ?_); rintro e w29 ⟨rfl, hb⟩; have n0_ := Aside0.mk (blk_below (bS BK101.out) hb); have n1_ := Aside0.mk (blk_below (bS BK102.out) hb); have n2_ := Aside0.mk (blk_below (bS BK103.out) hb); have n3_ := Aside0.mk (below_step (by exact eS HB.out) hb); clear BK101; clear BK102; clear BK103; clear HB; have BK101 := n0_; have BK102 := n1_; have BK103 := n2_; have HB := n3_; clear n0_ n1_ n2_ n3_; (try clear hb); (try clear hb2); (try clear hk); (try clear hi)))
   go_meet
   case rel => exact ⟨_, (true), (by first | rfl | (simp; done) | (simp [*]; done)), H', ⟨by first | omega | exact Nat.le_refl _⟩, ⟨by exact bS BK101.out⟩, ⟨by exact bS BK102.out⟩, ⟨by exact bS BK103.out⟩, ⟨by exact eS HB.out⟩⟩
  subst c12
  have H1 : ((spec_l1In.f a3 0 100).bind fun t106 => (spec_WithinSize.j0 k a3 (!t106) a0_0 a0_1 l0_2 a1_0 a1_1 a1_2 a2_0 a2_1 a2_2 a2_3)) = some (r1, r2) := by rw [if_pos rfl] at H; exact H
  clear H
  have H := H1
  clear H1
  replace H := Option.bind_eq_some_iff.mp H
  obtain ⟨t106, A130, H⟩ := H
  (try dsimp only at H)
  have A13 := Aside0.mk A130
  clear A130
  have H' := Aside0.mk H
  clear H
  have hnb14 := NB101_102.out
  have hnc14 := NB102_101.out
  have hnb15 := NB101_103.out
  have hnc15 := NB103_101.out
  obtain ⟨hcz16_0, hcz16_1, hcz16_2, hfz16_0, hfz16_1, hfz16_2⟩ := Sq.c3 BK101.out
  have hnb17 := NB102_103.out
  have hnc17 := NB103_102.out
  obtain ⟨hcz18_0, hcz18_1, hcz18_2, hfz18_0, hfz18_1, hfz18_2⟩ := Sq.c3 BK102.out
  go_wp2_with (first | ((with_reducible refine gate_callee (f := 58) rfl ?_); refine goesL_ (some 16) rfl rfl Try.func58 (by kernel_rfl) rfl #[.agg #[.int .i64 a0_0, .int .i64 a0_1, .slice A0_2 l0_2.length c0_2], .agg #[.int .i64 a1_0, .int .i64 a1_1, .int .i64 a1_2]] rfl (by (try simp only [List.map_toArray, List.map_cons, List.map_nil]); first | done | rfl | (simp only [List.length_drop, List.length_take]; rfl)) ?_; (with_reducible refine (spec_l15Asked.calls k a0_0 a0_1 _ _ l0_2 a1_0 a1_1 a1_2 true _ ?side1 ?side2 A9.out).mono ?_); (case side1 => repeat (first | exact (Kd.C_below HR0_2.out HB.out) | (with_reducible refine Kd.C_alloc ?_ _) | (with_reducible refine Kd.C_drewN ?_ _) | (with_reducible refine Kd.C_drew ?_))); (case side2 => exact HC0_2.out); rintro e w19 ⟨rfl, hb⟩; refine ⟨_, rfl, ?_⟩; have n0_ := Aside0.mk (blk_below (bS BK101.out) hb); have n1_ := Aside0.mk (blk_below (bS BK102.out) hb); have n2_ := Aside0.mk (blk_below (bS BK103.out) hb); have n3_ := Aside0.mk (below_step (by exact eS HB.out) hb); clear BK101; clear BK102; clear BK103; clear HB; have BK101 := n0_; have BK102 := n1_; have BK103 := n2_; have HB := n3_; clear n0_ n1_ n2_ n3_; (try clear hb); (try clear hb2); (try clear hk); (try clear hi); obtain ⟨hcz20_0, hcz20_1, hcz20_2, hcz20_3, hfz20_0, hfz20_1, hfz20_2, hfz20_3⟩ := Sq.c4 BK103.out) | (go_at_call 51; (with_reducible refine (spec_l15Measure.calls a2_0 a2_1 a2_2 a2_3 true _ A11.out).mono ?_); rintro e w21 ⟨rfl, hb⟩; have n0_ := Aside0.mk (blk_below (bS BK101.out) hb); have n1_ := Aside0.mk (blk_below (bS BK102.out) hb); have n2_ := Aside0.mk (blk_below (bS BK103.out) hb); have n3_ := Aside0.mk (below_step (by exact eS HB.out) hb); clear BK101; clear BK102; clear BK103; clear HB; have BK101 := n0_; have BK102 := n1_; have BK103 := n2_; have HB := n3_; clear n0_ n1_ n2_ n3_; (try clear hb); (try clear hb2); (try clear hk); (try clear hi)) | (go_at_call 65; (with_reducible refine (spec_l1In.calls a3 0 100 t106 _ A13.out).mono ?_); rintro e w' ⟨rfl, ⟨nd, rfl⟩⟩))
  go_meet
  case rel => exact ⟨_, (!t106), (by first | rfl | (simp; done) | (simp [*]; done)), H', ⟨by first | omega | exact Nat.le_refl _⟩, ⟨by exact bS BK101.out⟩, ⟨by exact bS BK102.out⟩, ⟨by exact bS BK103.out⟩, ⟨by exact eS HB.out⟩⟩
 case rest =>
  clear HC5
  try clear c1
  try clear c2
  try clear p2
  try clear c3
  try clear c5
  try clear c10
  try clear c12
  try clear c14
  try clear c15
  try clear c17
  try clear c22
  try clear c23
  try clear c25
  try clear c30
  try clear c31
  try clear c33
  try clear hcz16_0
  try clear hcz16_1
  try clear hcz16_2
  try clear hcz18_0
  try clear hcz18_1
  try clear hcz18_2
  try clear hcz20_0
  try clear hcz20_1
  try clear hcz20_2
  try clear hcz20_3
  try clear hcz24_0
  try clear hcz24_1
  try clear hcz24_2
  try clear hcz26_0
  try clear hcz26_1
  try clear hcz26_2
  try clear hcz28_0
  try clear hcz28_1
  try clear hcz28_2
  try clear hcz28_3
  try clear hcz32_0
  try clear hcz32_1
  try clear hcz32_2
  try clear hcz34_0
  try clear hcz34_1
  try clear hcz34_2
  try clear hfz16_0
  try clear hfz16_1
  try clear hfz16_2
  try clear hfz18_0
  try clear hfz18_1
  try clear hfz18_2
  try clear hfz20_0
  try clear hfz20_1
  try clear hfz20_2
  try clear hfz20_3
  try clear hfz24_0
  try clear hfz24_1
  try clear hfz24_2
  try clear hfz26_0
  try clear hfz26_1
  try clear hfz26_2
  try clear hfz28_0
  try clear hfz28_1
  try clear hfz28_2
  try clear hfz28_3
  try clear hfz32_0
  try clear hfz32_1
  try clear hfz32_2
  try clear hfz34_0
  try clear hfz34_1
  try clear hfz34_2
  obtain ⟨kq, x27_4, rfl, HA, HJ4, BK101, BK102, BK103, HB⟩ := hcut
  cases kq with
  | zero => exact absurd HA.out (by simp [spec_WithinSize.j0])
  | succ kj4 =>
   have H := HA.out
   clear HA
   simp only [spec_WithinSize.j0] at H
   by_cases c36 : x27_4 = true
   ·subst c36
    have H1 : (some (false, false)) = some (r1, r2) := by rw [if_pos rfl] at H; exact H
    clear H
    have H := H1
    clear H1
    simp only [Option.some.injEq, Prod.mk.injEq] at H
    obtain ⟨rfl, rfl⟩ := H
    go_wp2
    go_ret2
    exact ⟨by first | rfl | (simp [errW_none, errW_some] <;> rfl) | (simp [*, errW_none, errW_some] <;> rfl), by exact eS HB.out⟩
   replace c36 := Bool.eq_false_iff.mpr c36
   subst c36
   have H1 : ((spec_l15Wide.f a0_0 a1_0 a1_2).bind fun bt107 => ((spec_l15Wide.f a0_1 a1_1 a1_2).bind fun bt109 => ((spec_l15Near.f a2_0 bt107.1 bt107.2 a3).bind fun t111 => (if t111 = true then ((spec_l15Near.f a2_1 bt107.1 bt107.2 a3).bind fun t112 => (if t112 = true then ((spec_l15Near.f a2_2 bt109.1 bt109.2 a3).bind fun t113 => (if t113 = true then ((spec_l15Near.f a2_3 bt109.1 bt109.2 a3).bind fun t114 => (some (t114, true))) else (some (false, true)))) else (some (false, true)))) else (some (false, true)))))) = some (r1, r2) := by rw [if_neg (show ¬ (false = true) by decide)] at H; exact H
   clear H
   have H := H1
   clear H1
   replace H := Option.bind_eq_some_iff.mp H
   obtain ⟨⟨t107, t108⟩, A370, H⟩ := H
   (try dsimp only at H)
   have A37 := Aside0.mk A370
   clear A370
   replace H := Option.bind_eq_some_iff.mp H
   obtain ⟨⟨t109, t110⟩, A380, H⟩ := H
   (try dsimp only at H)
   have A38 := Aside0.mk A380
   clear A380
   replace H := Option.bind_eq_some_iff.mp H
   obtain ⟨t111, A390, H⟩ := H
   (try dsimp only at H)
   have A39 := Aside0.mk A390
   clear A390
   by_cases c40 : t111 = true
   rotate_left
   ·replace c40 := Bool.eq_false_iff.mpr c40
    subst c40
    have H1 : (some (false, true)) = some (r1, r2) := by rw [if_neg (show ¬ (false = true) by decide)] at H; exact H
    clear H
    have H := H1
    clear H1
    simp only [Option.some.injEq, Prod.mk.injEq] at H
    obtain ⟨rfl, rfl⟩ := H
    have hnb64 := NB101_102.out
    have hnc64 := NB102_101.out
    have hnb65 := NB101_103.out
    have hnc65 := NB103_101.out
    obtain ⟨hcz66_0, hcz66_1, hcz66_2, hfz66_0, hfz66_1, hfz66_2⟩ := Sq.c3 BK101.out
    have hnb67 := NB102_103.out
    have hnc67 := NB103_102.out
    obtain ⟨hcz68_0, hcz68_1, hcz68_2, hfz68_0, hfz68_1, hfz68_2⟩ := Sq.c3 BK102.out
    go_wp2_with (first | ((with_reducible refine gate_callee (f := 59) rfl ?_); refine goesL_ (some 35) rfl rfl Try.func59 (by kernel_rfl) rfl #[.int .i64 a0_0, .int .i64 a1_0, .int .i64 a1_2] rfl (by (try simp only [List.map_toArray, List.map_cons, List.map_nil]); first | done | rfl | (simp only [List.length_drop, List.length_take]; rfl)) ?_; (with_reducible refine (spec_l15Wide.calls a0_0 a1_0 a1_2 t107 t108 _ A37.out).mono ?_); rintro e w' ⟨rfl, ⟨nd, rfl⟩⟩; refine ⟨_, rfl, ?_⟩) | ((with_reducible refine gate_callee (f := 59) rfl ?_); refine goesL_ (some 45) rfl rfl Try.func59 (by kernel_rfl) rfl #[.int .i64 a0_1, .int .i64 a1_1, .int .i64 a1_2] rfl (by (try simp only [List.map_toArray, List.map_cons, List.map_nil]); first | done | rfl | (simp only [List.length_drop, List.length_take]; rfl)) ?_; (with_reducible refine (spec_l15Wide.calls a0_1 a1_1 a1_2 t109 t110 _ A38.out).mono ?_); rintro e w' ⟨rfl, ⟨nd, rfl⟩⟩; refine ⟨_, rfl, ?_⟩; obtain ⟨hcz69_0, hcz69_1, hcz69_2, hcz69_3, hfz69_0, hfz69_1, hfz69_2, hfz69_3⟩ := Sq.c4 BK103.out) | ((with_reducible refine gate_callee (f := 66) rfl ?_); refine goesL_ (some 53) rfl rfl Try.func66 (by kernel_rfl) rfl #[.int .i64 a2_0, .int .i64 t107, .int .i64 t108, .int .i64 a3] rfl (by (try simp only [List.map_toArray, List.map_cons, List.map_nil]); first | done | rfl | (simp only [List.length_drop, List.length_take]; rfl)) ?_; (with_reducible refine (spec_l15Near.calls a2_0 t107 t108 a3 false _ A39.out).mono ?_); rintro e w' ⟨rfl, ⟨nd, rfl⟩⟩; refine ⟨_, rfl, ?_⟩))
    go_ret2
    exact ⟨by first | rfl | (simp [errW_none, errW_some] <;> rfl) | (simp [*, errW_none, errW_some] <;> rfl), by exact eS HB.out⟩
   subst c40
   have H1 : ((spec_l15Near.f a2_1 t107 t108 a3).bind fun t112 => (if t112 = true then ((spec_l15Near.f a2_2 t109 t110 a3).bind fun t113 => (if t113 = true then ((spec_l15Near.f a2_3 t109 t110 a3).bind fun t114 => (some (t114, true))) else (some (false, true)))) else (some (false, true)))) = some (r1, r2) := by rw [if_pos rfl] at H; exact H
   clear H
   have H := H1
   clear H1
   replace H := Option.bind_eq_some_iff.mp H
   obtain ⟨t112, A410, H⟩ := H
   (try dsimp only at H)
   have A41 := Aside0.mk A410
   clear A410
   by_cases c42 : t112 = true
   rotate_left
   ·replace c42 := Bool.eq_false_iff.mpr c42
    subst c42
    have H1 : (some (false, true)) = some (r1, r2) := by rw [if_neg (show ¬ (false = true) by decide)] at H; exact H
    clear H
    have H := H1
    clear H1
    simp only [Option.some.injEq, Prod.mk.injEq] at H
    obtain ⟨rfl, rfl⟩ := H
    have hnb58 := NB101_102.out
    have hnc58 := NB102_101.out
    have hnb59 := NB101_103.out
    have hnc59 := NB103_101.out
    obtain ⟨hcz60_0, hcz60_1, hcz60_2, hfz60_0, hfz60_1, hfz60_2⟩ := Sq.c3 BK101.out
    have hnb61 := NB102_103.out
    have hnc61 := NB103_102.out
    obtain ⟨hcz62_0, hcz62_1, hcz62_2, hfz62_0, hfz62_1, hfz62_2⟩ := Sq.c3 BK102.out
    go_wp2_with (first | ((with_reducible refine gate_callee (f := 59) rfl ?_); refine goesL_ (some 35) rfl rfl Try.func59 (by kernel_rfl) rfl #[.int .i64 a0_0, .int .i64 a1_0, .int .i64 a1_2] rfl (by (try simp only [List.map_toArray, List.map_cons, List.map_nil]); first | done | rfl | (simp only [List.length_drop, List.length_take]; rfl)) ?_; (with_reducible refine (spec_l15Wide.calls a0_0 a1_0 a1_2 t107 t108 _ A37.out).mono ?_); rintro e w' ⟨rfl, ⟨nd, rfl⟩⟩; refine ⟨_, rfl, ?_⟩) | ((with_reducible refine gate_callee (f := 59) rfl ?_); refine goesL_ (some 45) rfl rfl Try.func59 (by kernel_rfl) rfl #[.int .i64 a0_1, .int .i64 a1_1, .int .i64 a1_2] rfl (by (try simp only [List.map_toArray, List.map_cons, List.map_nil]); first | done | rfl | (simp only [List.length_drop, List.length_take]; rfl)) ?_; (with_reducible refine (spec_l15Wide.calls a0_1 a1_1 a1_2 t109 t110 _ A38.out).mono ?_); rintro e w' ⟨rfl, ⟨nd, rfl⟩⟩; refine ⟨_, rfl, ?_⟩; obtain ⟨hcz63_0, hcz63_1, hcz63_2, hcz63_3, hfz63_0, hfz63_1, hfz63_2, hfz63_3⟩ := Sq.c4 BK103.out) | ((with_reducible refine gate_callee (f := 66) rfl ?_); refine goesL_ (some 53) rfl rfl Try.func66 (by kernel_rfl) rfl #[.int .i64 a2_0, .int .i64 t107, .int .i64 t108, .int .i64 a3] rfl (by (try simp only [List.map_toArray, List.map_cons, List.map_nil]); first | done | rfl | (simp only [List.length_drop, List.length_take]; rfl)) ?_; (with_reducible refine (spec_l15Near.calls a2_0 t107 t108 a3 true _ A39.out).mono ?_); rintro e w' ⟨rfl, ⟨nd, rfl⟩⟩; refine ⟨_, rfl, ?_⟩) | (go_at_call 66; (with_reducible refine (spec_l15Near.calls a2_1 t107 t108 a3 false _ A41.out).mono ?_); rintro e w' ⟨rfl, ⟨nd, rfl⟩⟩))
    go_ret2
    exact ⟨by first | rfl | (simp [errW_none, errW_some] <;> rfl) | (simp [*, errW_none, errW_some] <;> rfl), by exact eS HB.out⟩
   subst c42
   have H1 : ((spec_l15Near.f a2_2 t109 t110 a3).bind fun t113 => (if t113 = true then ((spec_l15Near.f a2_3 t109 t110 a3).bind fun t114 => (some (t114, true))) else (some (false, true)))) = some (r1, r2) := by rw [if_pos rfl] at H; exact H
   clear H
   have H := H1
   clear H1
   replace H := Option.bind_eq_some_iff.mp H
   obtain ⟨t113, A430, H⟩ := H
   (try dsimp only at H)
   have A43 := Aside0.mk A430
   clear A430
   by_cases c44 : t113 = true
   rotate_left
   ·replace c44 := Bool.eq_false_iff.mpr c44
    subst c44
    have H1 : (some (false, true)) = some (r1, r2) := by rw [if_neg (show ¬ (false = true) by decide)] at H; exact H
    clear H
    have H := H1
    clear H1
    simp only [Option.some.injEq, Prod.mk.injEq] at H
    obtain ⟨rfl, rfl⟩ := H
    have hnb52 := NB101_102.out
    have hnc52 := NB102_101.out
    have hnb53 := NB101_103.out
    have hnc53 := NB103_101.out
    obtain ⟨hcz54_0, hcz54_1, hcz54_2, hfz54_0, hfz54_1, hfz54_2⟩ := Sq.c3 BK101.out
    have hnb55 := NB102_103.out
    have hnc55 := NB103_102.out
    obtain ⟨hcz56_0, hcz56_1, hcz56_2, hfz56_0, hfz56_1, hfz56_2⟩ := Sq.c3 BK102.out
    go_wp2_with (first | ((with_reducible refine gate_callee (f := 59) rfl ?_); refine goesL_ (some 35) rfl rfl Try.func59 (by kernel_rfl) rfl #[.int .i64 a0_0, .int .i64 a1_0, .int .i64 a1_2] rfl (by (try simp only [List.map_toArray, List.map_cons, List.map_nil]); first | done | rfl | (simp only [List.length_drop, List.length_take]; rfl)) ?_; (with_reducible refine (spec_l15Wide.calls a0_0 a1_0 a1_2 t107 t108 _ A37.out).mono ?_); rintro e w' ⟨rfl, ⟨nd, rfl⟩⟩; refine ⟨_, rfl, ?_⟩) | ((with_reducible refine gate_callee (f := 59) rfl ?_); refine goesL_ (some 45) rfl rfl Try.func59 (by kernel_rfl) rfl #[.int .i64 a0_1, .int .i64 a1_1, .int .i64 a1_2] rfl (by (try simp only [List.map_toArray, List.map_cons, List.map_nil]); first | done | rfl | (simp only [List.length_drop, List.length_take]; rfl)) ?_; (with_reducible refine (spec_l15Wide.calls a0_1 a1_1 a1_2 t109 t110 _ A38.out).mono ?_); rintro e w' ⟨rfl, ⟨nd, rfl⟩⟩; refine ⟨_, rfl, ?_⟩; obtain ⟨hcz57_0, hcz57_1, hcz57_2, hcz57_3, hfz57_0, hfz57_1, hfz57_2, hfz57_3⟩ := Sq.c4 BK103.out) | ((with_reducible refine gate_callee (f := 66) rfl ?_); refine goesL_ (some 53) rfl rfl Try.func66 (by kernel_rfl) rfl #[.int .i64 a2_0, .int .i64 t107, .int .i64 t108, .int .i64 a3] rfl (by (try simp only [List.map_toArray, List.map_cons, List.map_nil]); first | done | rfl | (simp only [List.length_drop, List.length_take]; rfl)) ?_; (with_reducible refine (spec_l15Near.calls a2_0 t107 t108 a3 true _ A39.out).mono ?_); rintro e w' ⟨rfl, ⟨nd, rfl⟩⟩; refine ⟨_, rfl, ?_⟩) | (go_at_call 66; (with_reducible refine (spec_l15Near.calls a2_1 t107 t108 a3 true _ A41.out).mono ?_); rintro e w' ⟨rfl, ⟨nd, rfl⟩⟩) | (go_at_call 66; (with_reducible refine (spec_l15Near.calls a2_2 t109 t110 a3 false _ A43.out).mono ?_); rintro e w' ⟨rfl, ⟨nd, rfl⟩⟩))
    go_ret2
    exact ⟨by first | rfl | (simp [errW_none, errW_some] <;> rfl) | (simp [*, errW_none, errW_some] <;> rfl), by exact eS HB.out⟩
   subst c44
   have H1 : ((spec_l15Near.f a2_3 t109 t110 a3).bind fun t114 => (some (t114, true))) = some (r1, r2) := by rw [if_pos rfl] at H; exact H
   clear H
   have H := H1
   clear H1
   replace H := Option.bind_eq_some_iff.mp H
   obtain ⟨t114, A450, H⟩ := H
   (try dsimp only at H)
   have A45 := Aside0.mk A450
   clear A450
   simp only [Option.some.injEq, Prod.mk.injEq] at H
   obtain ⟨rfl, rfl⟩ := H
   have hnb46 := NB101_102.out
   have hnc46 := NB102_101.out
   have hnb47 := NB101_103.out
   have hnc47 := NB103_101.out
   obtain ⟨hcz48_0, hcz48_1, hcz48_2, hfz48_0, hfz48_1, hfz48_2⟩ := Sq.c3 BK101.out
   have hnb49 := NB102_103.out
   have hnc49 := NB103_102.out
   obtain ⟨hcz50_0, hcz50_1, hcz50_2, hfz50_0, hfz50_1, hfz50_2⟩ := Sq.c3 BK102.out
   go_wp2_with (first | ((with_reducible refine gate_callee (f := 59) rfl ?_); refine goesL_ (some 35) rfl rfl Try.func59 (by kernel_rfl) rfl #[.int .i64 a0_0, .int .i64 a1_0, .int .i64 a1_2] rfl (by (try simp only [List.map_toArray, List.map_cons, List.map_nil]); first | done | rfl | (simp only [List.length_drop, List.length_take]; rfl)) ?_; (with_reducible refine (spec_l15Wide.calls a0_0 a1_0 a1_2 t107 t108 _ A37.out).mono ?_); rintro e w' ⟨rfl, ⟨nd, rfl⟩⟩; refine ⟨_, rfl, ?_⟩) | ((with_reducible refine gate_callee (f := 59) rfl ?_); refine goesL_ (some 45) rfl rfl Try.func59 (by kernel_rfl) rfl #[.int .i64 a0_1, .int .i64 a1_1, .int .i64 a1_2] rfl (by (try simp only [List.map_toArray, List.map_cons, List.map_nil]); first | done | rfl | (simp only [List.length_drop, List.length_take]; rfl)) ?_; (with_reducible refine (spec_l15Wide.calls a0_1 a1_1 a1_2 t109 t110 _ A38.out).mono ?_); rintro e w' ⟨rfl, ⟨nd, rfl⟩⟩; refine ⟨_, rfl, ?_⟩; obtain ⟨hcz51_0, hcz51_1, hcz51_2, hcz51_3, hfz51_0, hfz51_1, hfz51_2, hfz51_3⟩ := Sq.c4 BK103.out) | ((with_reducible refine gate_callee (f := 66) rfl ?_); refine goesL_ (some 53) rfl rfl Try.func66 (by kernel_rfl) rfl #[.int .i64 a2_0, .int .i64 t107, .int .i64 t108, .int .i64 a3] rfl (by (try simp only [List.map_toArray, List.map_cons, List.map_nil]); first | done | rfl | (simp only [List.length_drop, List.length_take]; rfl)) ?_; (with_reducible refine (spec_l15Near.calls a2_0 t107 t108 a3 true _ A39.out).mono ?_); rintro e w' ⟨rfl, ⟨nd, rfl⟩⟩; refine ⟨_, rfl, ?_⟩) | (go_at_call 66; (with_reducible refine (spec_l15Near.calls a2_1 t107 t108 a3 true _ A41.out).mono ?_); rintro e w' ⟨rfl, ⟨nd, rfl⟩⟩) | (go_at_call 66; (with_reducible refine (spec_l15Near.calls a2_2 t109 t110 a3 true _ A43.out).mono ?_); rintro e w' ⟨rfl, ⟨nd, rfl⟩⟩) | (go_at_call 66; (with_reducible refine (spec_l15Near.calls a2_3 t109 t110 a3 t114 _ A45.out).mono ?_); rintro e w' ⟨rfl, ⟨nd, rfl⟩⟩))
   go_ret2
   exact ⟨by first | rfl | (simp [errW_none, errW_some] <;> rfl) | (simp [*, errW_none, errW_some] <;> rfl), by exact eS HB.out⟩

end Go.Proofs.Ytgohfbelppokcaa.X

-- XlawsFnSkewsF14
namespace Go.Proofs.Ytgohfbelppokcaa.X
open Ho (bS eS)
open Go.RowKit Go.Proofs.YtgohfbelppokcaaW.PrintWords Go.Proofs.YtgohfbelppokcaaW.PrintLast Go.Proofs.YtgohfbelppokcaaW.PrintMore
attribute [local go_sem] max2_int min2_int max_two min_two max_three min_three max_four min_four   -- for this text's walks alone
set_option linter.unusedVariables false
set_option linter.unusedSimpArgs false

attribute [local go_sem ↓] Ho.isSome_setCell_   -- a store leaves all places there
/-! ### laws_FnSkews: function 14 -/
mutual
def laws_FnSkews.j0 : Nat → List Int → Int → Bool → Bool → Int → Int → Int → Int → Option (Bool)
  | 0, _, _, _, _, _, _, _, _ => none
  | k + 1, x0, x4, x6, x72, x107000, x107001, x107002, x107003 => if x72 = true then (some false) else ((impl_StraightenBy.f x107000 x107001 x107002 x107003).bind fun bt114 => ((spec_StraightenBy.f x107000 x107001 x107002 x107003).bind fun bt117 => (if bt114.1 = bt117.1 then (if bt114.2.1 = bt117.2.1 then (if (bt114.2.2 != bt117.2.2) = true then (laws_FnSkews.j1 k x0 true) else (if (bt114.2.2 != x6) = true then (laws_FnSkews.j1 k x0 true) else (if x6 = true then (if bt114.1 = 0 then (laws_FnSkews.j1 k x0 ((x4 == 0) != (bt114.2.1 == 0))) else (laws_FnSkews.j1 k x0 ((x4 == 0) != false))) else (laws_FnSkews.j1 k x0 false)))) else (laws_FnSkews.j1 k x0 true)) else (laws_FnSkews.j1 k x0 true))))
def laws_FnSkews.j1 : Nat → List Int → Bool → Option (Bool)
  | 0, _, _ => none
  | k + 1, x0, x116 => if x116 = true then (some false) else ((spec_DrawWithinSize.f k x0).bind fun bt120 => ((impl_WithinSize.f k bt120.1 bt120.2.1 bt120.2.2.1 bt120.2.2.2.1 bt120.2.2.2.2.1 bt120.2.2.2.2.2.1 bt120.2.2.2.2.2.2.1 bt120.2.2.2.2.2.2.2.1 bt120.2.2.2.2.2.2.2.2.1 bt120.2.2.2.2.2.2.2.2.2.1 bt120.2.2.2.2.2.2.2.2.2.2).bind fun bt136 => ((spec_WithinSize.f k bt120.1 bt120.2.1 bt120.2.2.1 bt120.2.2.2.1 bt120.2.2.2.2.1 bt120.2.2.2.2.2.1 bt120.2.2.2.2.2.2.1 bt120.2.2.2.2.2.2.2.1 bt120.2.2.2.2.2.2.2.2.1 bt120.2.2.2.2.2.2.2.2.2.1 bt120.2.2.2.2.2.2.2.2.2.2).bind fun bt138 => (if (bt136.1 != bt138.1) = true then (laws_FnSkews.j2 k x0 bt120.2.2.2.2.2.2.2.2.2.2 bt136.1 true bt120.1 bt120.2.1 bt120.2.2.1 bt120.2.2.2.1 bt120.2.2.2.2.1 bt120.2.2.2.2.2.1 bt120.2.2.2.2.2.2.1 bt120.2.2.2.2.2.2.2.1 bt120.2.2.2.2.2.2.2.2.1 bt120.2.2.2.2.2.2.2.2.2.1) else (laws_FnSkews.j2 k x0 bt120.2.2.2.2.2.2.2.2.2.2 bt136.1 (bt136.2 != bt138.2) bt120.1 bt120.2.1 bt120.2.2.1 bt120.2.2.2.1 bt120.2.2.2.2.1 bt120.2.2.2.2.2.1 bt120.2.2.2.2.2.2.1 bt120.2.2.2.2.2.2.2.1 bt120.2.2.2.2.2.2.2.2.1 bt120.2.2.2.2.2.2.2.2.2.1)))))
def laws_FnSkews.j2 : Nat → List Int → Int → Bool → Bool → Int → Int → List Int → Int → Int → Int → Int → Int → Int → Int → Option (Bool)
  | 0, _, _, _, _, _, _, _, _, _, _, _, _, _, _ => none
  | k + 1, x0, x19, x20, x147, x134000, x134001, x134002, x135000, x135001, x135002, x136000, x136001, x136002, x136003 => if x147 = true then (some false) else (if x20 = true then (laws_FnSkews.j3 k x0 x19 x20 (decide (x19 < 100)) x134000 x134001 x134002 x135000 x135001 x135002 x136000 x136001 x136002 x136003) else (laws_FnSkews.j3 k x0 x19 x20 false x134000 x134001 x134002 x135000 x135001 x135002 x136000 x136001 x136002 x136003))
def laws_FnSkews.j3 : Nat → List Int → Int → Bool → Bool → Int → Int → List Int → Int → Int → Int → Int → Int → Int → Int → Option (Bool)
  | 0, _, _, _, _, _, _, _, _, _, _, _, _, _, _ => none
  | k + 1, x0, x19, x20, x152, x134000, x134001, x134002, x135000, x135001, x135002, x136000, x136001, x136002, x136003 => if x152 = true then ((impl_WithinSize.f k x134000 x134001 x134002 x135000 x135001 x135002 x136000 x136001 x136002 x136003 (wrap64 (x19 + 1))).bind fun bt140 => (if bt140.2 = true then (if bt140.1 = true then (laws_FnSkews.j4 k x0 x19 x20 x134000 x134001 x134002 x135000 x135001 x135002 x136000 x136001 x136002 x136003) else (some false)) else (some false))) else (laws_FnSkews.j4 k x0 x19 x20 x134000 x134001 x134002 x135000 x135001 x135002 x136000 x136001 x136002 x136003)
def laws_FnSkews.j4 : Nat → List Int → Int → Bool → Int → Int → List Int → Int → Int → Int → Int → Int → Int → Int → Option (Bool)
  | 0, _, _, _, _, _, _, _, _, _, _, _, _, _ => none
  | k + 1, x0, x19, x20, x134000, x134001, x134002, x135000, x135001, x135002, x136000, x136001, x136002, x136003 => if x20 = true then (laws_FnSkews.j5 k x0 (x19 == 0) x134000 x134001 x134002 x135000 x135001 x135002 x136000 x136001 x136002 x136003) else (laws_FnSkews.j5 k x0 false x134000 x134001 x134002 x135000 x135001 x135002 x136000 x136001 x136002 x136003)
def laws_FnSkews.j5 : Nat → List Int → Bool → Int → Int → List Int → Int → Int → Int → Int → Int → Int → Int → Option (Bool)
  | 0, _, _, _, _, _, _, _, _, _, _, _, _ => none
  | k + 1, x0, x172, x134000, x134001, x134002, x135000, x135001, x135002, x136000, x136001, x136002, x136003 => if x172 = true then ((impl_OffSize.f k x134000 x134001 x134002 x135000 x135001 x135002 x136000 x136001 x136002 x136003).bind fun bt142 => (if bt142.2.2 = true then (if bt142.1 = 0 then (laws_FnSkews.j6 k x0 (bt142.2.1 != 0)) else (laws_FnSkews.j6 k x0 true)) else (laws_FnSkews.j6 k x0 true))) else ((spec_DrawOffSize.f k x0).bind fun bt166 => ((impl_OffSize.f k bt166.1 bt166.2.1 bt166.2.2.1 bt166.2.2.2.1 bt166.2.2.2.2.1 bt166.2.2.2.2.2.1 bt166.2.2.2.2.2.2.1 bt166.2.2.2.2.2.2.2.1 bt166.2.2.2.2.2.2.2.2.1 bt166.2.2.2.2.2.2.2.2.2).bind fun bt181 => ((spec_OffSize.f k bt166.1 bt166.2.1 bt166.2.2.1 bt166.2.2.2.1 bt166.2.2.2.2.1 bt166.2.2.2.2.2.1 bt166.2.2.2.2.2.2.1 bt166.2.2.2.2.2.2.2.1 bt166.2.2.2.2.2.2.2.2.1 bt166.2.2.2.2.2.2.2.2.2).bind fun bt184 => (if bt181.1 = bt184.1 then (if bt181.2.1 = bt184.2.1 then (some (bt181.2.2 == bt184.2.2)) else (some false)) else (some false)))))
def laws_FnSkews.j6 : Nat → List Int → Bool → Option (Bool)
  | 0, _, _ => none
  | k + 1, x0, x190 => if x190 = true then (some false) else ((spec_DrawOffSize.f k x0).bind fun bt145 => ((impl_OffSize.f k bt145.1 bt145.2.1 bt145.2.2.1 bt145.2.2.2.1 bt145.2.2.2.2.1 bt145.2.2.2.2.2.1 bt145.2.2.2.2.2.2.1 bt145.2.2.2.2.2.2.2.1 bt145.2.2.2.2.2.2.2.2.1 bt145.2.2.2.2.2.2.2.2.2).bind fun bt160 => ((spec_OffSize.f k bt145.1 bt145.2.1 bt145.2.2.1 bt145.2.2.2.1 bt145.2.2.2.2.1 bt145.2.2.2.2.2.1 bt145.2.2.2.2.2.2.1 bt145.2.2.2.2.2.2.2.1 bt145.2.2.2.2.2.2.2.2.1 bt145.2.2.2.2.2.2.2.2.2).bind fun bt163 => (if bt160.1 = bt163.1 then (if bt160.2.1 = bt163.2.1 then (some (bt160.2.2 == bt163.2.2)) else (some false)) else (some false)))))
end
def laws_FnSkews.f (k : Nat) (l0 : List Int) : Option (Bool) := (laws_vBig.f l0).bind fun t101 => (if t101 = true then (some true) else ((spec_DrawSkewOf.f k l0).bind fun bt102 => ((impl_SkewOf.f k bt102.1 bt102.2.1 bt102.2.2.1 bt102.2.2.2).bind fun bt107 => ((spec_SkewOf.f k bt102.1 bt102.2.1 bt102.2.2.1 bt102.2.2.2).bind fun bt110 => (if bt107.1 = bt110.1 then (if bt107.2.1 = bt110.2.1 then (if (bt107.2.2 != bt110.2.2) = true then (laws_FnSkews.j0 k l0 bt107.1 bt107.2.2 true bt102.1 bt102.2.1 bt102.2.2.1 bt102.2.2.2) else ((impl_IsMeasure.f bt102.1 bt102.2.1 bt102.2.2.1 bt102.2.2.2).bind fun t113 => (laws_FnSkews.j0 k l0 bt107.1 bt107.2.2 (bt107.2.2 != t113) bt102.1 bt102.2.1 bt102.2.2.1 bt102.2.2.2))) else (laws_FnSkews.j0 k l0 bt107.1 bt107.2.2 true bt102.1 bt102.2.1 bt102.2.2.1 bt102.2.2.2)) else (laws_FnSkews.j0 k l0 bt107.1 bt107.2.2 true bt102.1 bt102.2.1 bt102.2.2.1 bt102.2.2.2))))))
theorem laws_FnSkews.mono_l : ∀ k, (∀ y0 y1 y2 y3 y4 y5 y6 y7, LeO (laws_FnSkews.j0 k y0 y1 y2 y3 y4 y5 y6 y7) (laws_FnSkews.j0 (k + 1) y0 y1 y2 y3 y4 y5 y6 y7)) ∧ (∀ y0 y1, LeO (laws_FnSkews.j1 k y0 y1) (laws_FnSkews.j1 (k + 1) y0 y1)) ∧ (∀ y0 y1 y2 y3 y4 y5 y6 y7 y8 y9 y10 y11 y12 y13, LeO (laws_FnSkews.j2 k y0 y1 y2 y3 y4 y5 y6 y7 y8 y9 y10 y11 y12 y13) (laws_FnSkews.j2 (k + 1) y0 y1 y2 y3 y4 y5 y6 y7 y8 y9 y10 y11 y12 y13)) ∧ (∀ y0 y1 y2 y3 y4 y5 y6 y7 y8 y9 y10 y11 y12 y13, LeO (laws_FnSkews.j3 k y0 y1 y2 y3 y4 y5 y6 y7 y8 y9 y10 y11 y12 y13) (laws_FnSkews.j3 (k + 1) y0 y1 y2 y3 y4 y5 y6 y7 y8 y9 y10 y11 y12 y13)) ∧ (∀ y0 y1 y2 y3 y4 y5 y6 y7 y8 y9 y10 y11 y12, LeO (laws_FnSkews.j4 k y0 y1 y2 y3 y4 y5 y6 y7 y8 y9 y10 y11 y12) (laws_FnSkews.j4 (k + 1) y0 y1 y2 y3 y4 y5 y6 y7 y8 y9 y10 y11 y12)) ∧ (∀ y0 y1 y2 y3 y4 y5 y6 y7 y8 y9 y10 y11, LeO (laws_FnSkews.j5 k y0 y1 y2 y3 y4 y5 y6 y7 y8 y9 y10 y11) (laws_FnSkews.j5 (k + 1) y0 y1 y2 y3 y4 y5 y6 y7 y8 y9 y10 y11)) ∧ (∀ y0 y1, LeO (laws_FnSkews.j6 k y0 y1) (laws_FnSkews.j6 (k + 1) y0 y1))
  | 0 => ⟨fun _ _ _ _ _ _ _ _ r h => by simp [laws_FnSkews.j0] at h, fun _ _ r h => by simp [laws_FnSkews.j1] at h, fun _ _ _ _ _ _ _ _ _ _ _ _ _ _ r h => by simp [laws_FnSkews.j2] at h, fun _ _ _ _ _ _ _ _ _ _ _ _ _ _ r h => by simp [laws_FnSkews.j3] at h, fun _ _ _ _ _ _ _ _ _ _ _ _ _ r h => by simp [laws_FnSkews.j4] at h, fun _ _ _ _ _ _ _ _ _ _ _ _ r h => by simp [laws_FnSkews.j5] at h, fun _ _ r h => by simp [laws_FnSkews.j6] at h⟩
  | k + 1 => by
    obtain ⟨ih0, ih1, ih2, ih3, ih4, ih5, ih6⟩ := laws_FnSkews.mono_l k
    refine ⟨?_, ?_, ?_, ?_, ?_, ?_, ?_⟩
    · intro y0 y1 y2 y3 y4 y5 y6 y7
      unfold laws_FnSkews.j0
      repeat' first
      | (with_reducible exact ih0 _ _ _ _ _ _ _ _)
      | (with_reducible exact ih1 _ _)
      | (with_reducible exact ih2 _ _ _ _ _ _ _ _ _ _ _ _ _ _)
      | (with_reducible exact ih3 _ _ _ _ _ _ _ _ _ _ _ _ _ _)
      | (with_reducible exact ih4 _ _ _ _ _ _ _ _ _ _ _ _ _)
      | (with_reducible exact ih5 _ _ _ _ _ _ _ _ _ _ _ _)
      | (with_reducible exact ih6 _ _)
      | (with_reducible exact impl_OffSize.mono _ _ _ _ _ _ _ _ _ _ _)
      | (with_reducible exact impl_SkewOf.mono _ _ _ _ _)
      | (with_reducible exact impl_WithinSize.mono _ _ _ _ _ _ _ _ _ _ _ _)
      | (with_reducible exact spec_DrawOffSize.mono _ _)
      | (with_reducible exact spec_DrawSkewOf.mono _ _)
      | (with_reducible exact spec_DrawWithinSize.mono _ _)
      | (with_reducible exact spec_OffSize.mono _ _ _ _ _ _ _ _ _ _ _)
      | (with_reducible exact spec_SkewOf.mono _ _ _ _ _)
      | (with_reducible exact spec_WithinSize.mono _ _ _ _ _ _ _ _ _ _ _ _)
      | (with_reducible exact LeO.refl _)
      | (with_reducible exact LeO.none _)
      | (with_reducible refine LeO.ite ?_ ?_)
      | (with_reducible refine LeO.bind ?_ (fun _ => ?_))
      | exact ih0 _ _ _ _ _ _ _ _
      | exact ih1 _ _
      | exact ih2 _ _ _ _ _ _ _ _ _ _ _ _ _ _
      | exact ih3 _ _ _ _ _ _ _ _ _ _ _ _ _ _
      | exact ih4 _ _ _ _ _ _ _ _ _ _ _ _ _
      | exact ih5 _ _ _ _ _ _ _ _ _ _ _ _
      | exact ih6 _ _
      | exact impl_OffSize.mono _ _ _ _ _ _ _ _ _ _ _
      | exact impl_SkewOf.mono _ _ _ _ _
      | exact impl_WithinSize.mono _ _ _ _ _ _ _ _ _ _ _ _
      | exact spec_DrawOffSize.mono _ _
      | exact spec_DrawSkewOf.mono _ _
      | exact spec_DrawWithinSize.mono _ _
      | exact spec_OffSize.mono _ _ _ _ _ _ _ _ _ _ _
      | exact spec_SkewOf.mono _ _ _ _ _
      | exact spec_WithinSize.mono _ _ _ _ _ _ _ _ _ _ _ _
      | exact LeO.none _
      | refine LeO.ite ?_ ?_
      | refine LeO.bind ?_ (fun _ => ?_)
    · intro y0 y1
      unfold laws_FnSkews.j1
      repeat' first
      | (with_reducible exact ih0 _ _ _ _ _ _ _ _)
      | (with_reducible exact ih1 _ _)
      | (with_reducible exact ih2 _ _ _ _ _ _ _ _ _ _ _ _ _ _)
      | (with_reducible exact ih3 _ _ _ _ _ _ _ _ _ _ _ _ _ _)
      | (with_reducible exact ih4 _ _ _ _ _ _ _ _ _ _ _ _ _)
      | (with_reducible exact ih5 _ _ _ _ _ _ _ _ _ _ _ _)
      | (with_reducible exact ih6 _ _)
      | (with_reducible exact impl_OffSize.mono _ _ _ _ _ _ _ _ _ _ _)
      | (with_reducible exact impl_SkewOf.mono _ _ _ _ _)
      | (with_reducible exact impl_WithinSize.mono _ _ _ _ _ _ _ _ _ _ _ _)
      | (with_reducible exact spec_DrawOffSize.mono _ _)
      | (with_reducible exact spec_DrawSkewOf.mono _ _)
      | (with_reducible exact spec_DrawWithinSize.mono _ _)
      | (with_reducible exact spec_OffSize.mono _ _ _ _ _ _ _ _ _ _ _)
      | (with_reducible exact spec_SkewOf.mono _ _ _ _ _)
      | (with_reducible exact spec_WithinSize.mono _ _ _ _ _ _ _ _ _ _ _ _)
      | (with_reducible exact LeO.refl _)
      | (with_reducible exact LeO.none _)
      | (with_reducible refine LeO.ite ?_ ?_)
      | (with_reducible refine LeO.bind ?_ (fun _ => ?_))
      | exact ih0 _ _ _ _ _ _ _ _
      | exact ih1 _ _
      | exact ih2 _ _ _ _ _ _ _ _ _ _ _ _ _ _
      | exact ih3 _ _ _ _ _ _ _ _ _ _ _ _ _ _
      | exact ih4 _ _ _ _ _ _ _ _ _ _ _ _ _
      | exact ih5 _ _ _ _ _ _ _ _ _ _ _ _
      | exact ih6 _ _
      | exact impl_OffSize.mono _ _ _ _ _ _ _ _ _ _ _
      | exact impl_SkewOf.mono _ _ _ _ _
      | exact impl_WithinSize.mono _ _ _ _ _ _ _ _ _ _ _ _
      | exact spec_DrawOffSize.mono _ _
      | exact spec_DrawSkewOf.mono _ _
      | exact spec_DrawWithinSize.mono _ _
      | exact spec_OffSize.mono _ _ _ _ _ _ _ _ _ _ _
      | exact spec_SkewOf.mono _ _ _ _ _
      | exact spec_WithinSize.mono _ _ _ _ _ _ _ _ _ _ _ _
      | exact LeO.none _
      | refine LeO.ite ?_ ?_
      | refine LeO.bind ?_ (fun _ => ?_)
    · intro y0 y1 y2 y3 y4 y5 y6 y7 y8 y9 y10 y11 y12 y13
      unfold laws_FnSkews.j2
      repeat' first
      | (with_reducible exact ih0 _ _ _ _ _ _ _ _)
      | (with_reducible exact ih1 _ _)
      | (with_reducible exact ih2 _ _ _ _ _ _ _ _ _ _ _ _ _ _)
      | (with_reducible exact ih3 _ _ _ _ _ _ _ _ _ _ _ _ _ _)
      | (with_reducible exact ih4 _ _ _ _ _ _ _ _ _ _ _ _ _)
      | (with_reducible exact ih5 _ _ _ _ _ _ _ _ _ _ _ _)
      | (with_reducible exact ih6 _ _)
      | (with_reducible exact impl_OffSize.mono _ _ _ _ _ _ _ _ _ _ _)
      | (with_reducible exact impl_SkewOf.mono _ _ _ _ _)
      | (with_reducible exact impl_WithinSize.mono _ _ _ _ _ _ _ _ _ _ _ _)
      | (with_reducible exact spec_DrawOffSize.mono _ _)
      | (with_reducible exact spec_DrawSkewOf.mono _ _)
      | (with_reducible exact spec_DrawWithinSize.mono _ _)
      | (with_reducible exact spec_OffSize.mono _ _ _ _ _ _ _ _ _ _ _)
      | (with_reducible exact spec_SkewOf.mono _ _ _ _ _)
      | (with_reducible exact spec_WithinSize.mono _ _ _ _ _ _ _ _ _ _ _ _)
      | (with_reducible exact LeO.refl _)
      | (with_reducible exact LeO.none _)
      | (with_reducible refine LeO.ite ?_ ?_)
      | (with_reducible refine LeO.bind ?_ (fun _ => ?_))
      | exact ih0 _ _ _ _ _ _ _ _
      | exact ih1 _ _
      | exact ih2 _ _ _ _ _ _ _ _ _ _ _ _ _ _
      | exact ih3 _ _ _ _ _ _ _ _ _ _ _ _ _ _
      | exact ih4 _ _ _ _ _ _ _ _ _ _ _ _ _
      | exact ih5 _ _ _ _ _ _ _ _ _ _ _ _
      | exact ih6 _ _
      | exact impl_OffSize.mono _ _ _ _ _ _ _ _ _ _ _
      | exact impl_SkewOf.mono _ _ _ _ _
      | exact impl_WithinSize.mono _ _ _ _ _ _ _ _ _ _ _ _
      | exact spec_DrawOffSize.mono _ _
      | exact spec_DrawSkewOf.mono _ _
      | exact spec_DrawWithinSize.mono _ _
      | exact spec_OffSize.mono _ _ _ _ _ _ _ _ _ _ _
      | exact spec_SkewOf.mono _ _ _ _ _
      | exact spec_WithinSize.mono _ _ _ _ _ _ _ _ _ _ _ _
      | exact LeO.none _
      | refine LeO.ite ?_ ?_
      | refine LeO.bind ?_ (fun _ => ?_)
    · intro y0 y1 y2 y3 y4 y5 y6 y7 y8 y9 y10 y11 y12 y13
      unfold laws_FnSkews.j3
      repeat' first
      | (with_reducible exact ih0 _ _ _ _ _ _ _ _)
      | (with_reducible exact ih1 _ _)
      | (with_reducible exact ih2 _ _ _ _ _ _ _ _ _ _ _ _ _ _)
      | (with_reducible exact ih3 _ _ _ _ _ _ _ _ _ _ _ _ _ _)
      | (with_reducible exact ih4 _ _ _ _ _ _ _ _ _ _ _ _ _)
      | (with_reducible exact ih5 _ _ _ _ _ _ _ _ _ _ _ _)
      | (with_reducible exact ih6 _ _)
      | (with_reducible exact impl_OffSize.mono _ _ _ _ _ _ _ _ _ _ _)
      | (with_reducible exact impl_SkewOf.mono _ _ _ _ _)
      | (with_reducible exact impl_WithinSize.mono _ _ _ _ _ _ _ _ _ _ _ _)
      | (with_reducible exact spec_DrawOffSize.mono _ _)
      | (with_reducible exact spec_DrawSkewOf.mono _ _)
      | (with_reducible exact spec_DrawWithinSize.mono _ _)
      | (with_reducible exact spec_OffSize.mono _ _ _ _ _ _ _ _ _ _ _)
      | (with_reducible exact spec_SkewOf.mono _ _ _ _ _)
      | (with_reducible exact spec_WithinSize.mono _ _ _ _ _ _ _ _ _ _ _ _)
      | (with_reducible exact LeO.refl _)
      | (with_reducible exact LeO.none _)
      | (with_reducible refine LeO.ite ?_ ?_)
      | (with_reducible refine LeO.bind ?_ (fun _ => ?_))
      | exact ih0 _ _ _ _ _ _ _ _
      | exact ih1 _ _
      | exact ih2 _ _ _ _ _ _ _ _ _ _ _ _ _ _
      | exact ih3 _ _ _ _ _ _ _ _ _ _ _ _ _ _
      | exact ih4 _ _ _ _ _ _ _ _ _ _ _ _ _
      | exact ih5 _ _ _ _ _ _ _ _ _ _ _ _
      | exact ih6 _ _
      | exact impl_OffSize.mono _ _ _ _ _ _ _ _ _ _ _
      | exact impl_SkewOf.mono _ _ _ _ _
      | exact impl_WithinSize.mono _ _ _ _ _ _ _ _ _ _ _ _
      | exact spec_DrawOffSize.mono _ _
      | exact spec_DrawSkewOf.mono _ _
      | exact spec_DrawWithinSize.mono _ _
      | exact spec_OffSize.mono _ _ _ _ _ _ _ _ _ _ _
      | exact spec_SkewOf.mono _ _ _ _ _
      | exact spec_WithinSize.mono _ _ _ _ _ _ _ _ _ _ _ _
      | exact LeO.none _
      | refine LeO.ite ?_ ?_
      | refine LeO.bind ?_ (fun _ => ?_)
    · intro y0 y1 y2 y3 y4 y5 y6 y7 y8 y9 y10 y11 y12
      unfold laws_FnSkews.j4
      repeat' first
      | (with_reducible exact ih0 _ _ _ _ _ _ _ _)
      | (with_reducible exact ih1 _ _)
      | (with_reducible exact ih2 _ _ _ _ _ _ _ _ _ _ _ _ _ _)
      | (with_reducible exact ih3 _ _ _ _ _ _ _ _ _ _ _ _ _ _)
      | (with_reducible exact ih4 _ _ _ _ _ _ _ _ _ _ _ _ _)
      | (with_reducible exact ih5 _ _ _ _ _ _ _ _ _ _ _ _)
      | (with_reducible exact ih6 _ _)
      | (with_reducible exact impl_OffSize.mono _ _ _ _ _ _ _ _ _ _ _)
      | (with_reducible exact impl_SkewOf.mono _ _ _ _ _)
      | (with_reducible exact impl_WithinSize.mono _ _ _ _ _ _ _ _ _ _ _ _)
      | (with_reducible exact spec_DrawOffSize.mono _ _)
      | (with_reducible exact spec_DrawSkewOf.mono _ _)
      | (with_reducible exact spec_DrawWithinSize.mono _ _)
      | (with_reducible exact spec_OffSize.mono _ _ _ _ _ _ _ _ _ _ _)
      | (with_reducible exact spec_SkewOf.mono _ _ _ _ _)
      | (with_reducible exact spec_WithinSize.mono _ _ _ _ _ _ _ _ _ _ _ _)
      | (with_reducible exact LeO.refl _)
      | (with_reducible exact LeO.none _)
      | (with_reducible refine LeO.ite ?_ ?_)
      | (with_reducible refine LeO.bind ?_ (fun _ => ?_))
      | exact ih0 _ _ _ _ _ _ _ _
      | exact ih1 _ _
      | exact ih2 _ _ _ _ _ _ _ _ _ _ _ _ _ _
      | exact ih3 _ _ _ _ _ _ _ _ _ _ _ _ _ _
      | exact ih4 _ _ _ _ _ _ _ _ _ _ _ _ _
      | exact ih5 _ _ _ _ _ _ _ _ _ _ _ _
      | exact ih6 _ _
      | exact impl_OffSize.mono _ _ _ _ _ _ _ _ _ _ _
      | exact impl_SkewOf.mono _ _ _ _ _
      | exact impl_WithinSize.mono _ _ _ _ _ _ _ _ _ _ _ _
      | exact spec_DrawOffSize.mono _ _
      | exact spec_DrawSkewOf.mono _ _
      | exact spec_DrawWithinSize.mono _ _
      | exact spec_OffSize.mono _ _ _ _ _ _ _ _ _ _ _
      | exact spec_SkewOf.mono _ _ _ _ _
      | exact spec_WithinSize.mono _ _ _ _ _ _ _ _ _ _ _ _
      | exact LeO.none _
      | refine LeO.ite ?_ ?_
      | refine LeO.bind ?_ (fun _ => ?_)
    · intro y0 y1 y2 y3 y4 y5 y6 y7 y8 y9 y10 y11
      unfold laws_FnSkews.j5
      repeat' first
      | (with_reducible exact ih0 _ _ _ _ _ _ _ _)
      | (with_reducible exact ih1 _ _)
      | (with_reducible exact ih2 _ _ _ _ _ _ _ _ _ _ _ _ _ _)
      | (with_reducible exact ih3 _ _ _ _ _ _ _ _ _ _ _ _ _ _)
      | (with_reducible exact ih4 _ _ _ _ _ _ _ _ _ _ _ _ _)
      | (with_reducible exact ih5 _ _ _ _ _ _ _ _ _ _ _ _)
      | (with_reducible exact ih6 _ _)
      | (with_reducible exact impl_OffSize.mono _ _ _ _ _ _ _ _ _ _ _)
      | (with_reducible exact impl_SkewOf.mono _ _ _ _ _)
      | (with_reducible exact impl_WithinSize.mono _ _ _ _ _ _ _ _ _ _ _ _)
      | (with_reducible exact spec_DrawOffSize.mono _ _)
      | (with_reducible exact spec_DrawSkewOf.mono _ _)
      | (with_reducible exact spec_DrawWithinSize.mono _ _)
      | (with_reducible exact spec_OffSize.mono _ _ _ _ _ _ _ _ _ _ _)
      | (with_reducible exact spec_SkewOf.mono _ _ _ _ _)
      | (with_reducible exact spec_WithinSize.mono _ _ _ _ _ _ _ _ _ _ _ _)
      | (with_reducible exact LeO.refl _)
      | (with_reducible exact LeO.none _)
      | (with_reducible refine LeO.ite ?_ ?_)
      | (with_reducible refine LeO.bind ?_ (fun _ => ?_))
      | exact ih0 _ _ _ _ _ _ _ _
      | exact ih1 _ _
      | exact ih2 _ _ _ _ _ _ _ _ _ _ _ _ _ _
      | exact ih3 _ _ _ _ _ _ _ _ _ _ _ _ _ _
      | exact ih4 _ _ _ _ _ _ _ _ _ _ _ _ _
      | exact ih5 _ _ _ _ _ _ _ _ _ _ _ _
      | exact ih6 _ _
      | exact impl_OffSize.mono _ _ _ _ _ _ _ _ _ _ _
      | exact impl_SkewOf.mono _ _ _ _ _
      | exact impl_WithinSize.mono _ _ _ _ _ _ _ _ _ _ _ _
      | exact spec_DrawOffSize.mono _ _
      | exact spec_DrawSkewOf.mono _ _
      | exact spec_DrawWithinSize.mono _ _
      | exact spec_OffSize.mono _ _ _ _ _ _ _ _ _ _ _
      | exact spec_SkewOf.mono _ _ _ _ _
      | exact spec_WithinSize.mono _ _ _ _ _ _ _ _ _ _ _ _
      | exact LeO.none _
      | refine LeO.ite ?_ ?_
      | refine LeO.bind ?_ (fun _ => ?_)
    · intro y0 y1
      unfold laws_FnSkews.j6
      repeat' first
      | (with_reducible exact ih0 _ _ _ _ _ _ _ _)
      | (with_reducible exact ih1 _ _)
      | (with_reducible exact ih2 _ _ _ _ _ _ _ _ _ _ _ _ _ _)
      | (with_reducible exact ih3 _ _ _ _ _ _ _ _ _ _ _ _ _ _)
      | (with_reducible exact ih4 _ _ _ _ _ _ _ _ _ _ _ _ _)
      | (with_reducible exact ih5 _ _ _ _ _ _ _ _ _ _ _ _)
      | (with_reducible exact ih6 _ _)
      | (with_reducible exact impl_OffSize.mono _ _ _ _ _ _ _ _ _ _ _)
      | (with_reducible exact impl_SkewOf.mono _ _ _ _ _)
      | (with_reducible exact impl_WithinSize.mono _ _ _ _ _ _ _ _ _ _ _ _)
      | (with_reducible exact spec_DrawOffSize.mono _ _)
      | (with_reducible exact spec_DrawSkewOf.mono _ _)
      | (with_reducible exact spec_DrawWithinSize.mono _ _)
      | (with_reducible exact spec_OffSize.mono _ _ _ _ _ _ _ _ _ _ _)
      | (with_reducible exact spec_SkewOf.mono _ _ _ _ _)
      | (with_reducible exact spec_WithinSize.mono _ _ _ _ _ _ _ _ _ _ _ _)
      | (with_reducible exact LeO.refl _)
      | (with_reducible exact LeO.none _)
      | (with_reducible refine LeO.ite ?_ ?_)
      | (with_reducible refine LeO.bind ?_ (fun _ => ?_))
      | exact ih0 _ _ _ _ _ _ _ _
      | exact ih1 _ _
      | exact ih2 _ _ _ _ _ _ _ _ _ _ _ _ _ _
      | exact ih3 _ _ _ _ _ _ _ _ _ _ _ _ _ _
      | exact ih4 _ _ _ _ _ _ _ _ _ _ _ _ _
      | exact ih5 _ _ _ _ _ _ _ _ _ _ _ _
      | exact ih6 _ _
      | exact impl_OffSize.mono _ _ _ _ _ _ _ _ _ _ _
      | exact impl_SkewOf.mono _ _ _ _ _
      | exact impl_WithinSize.mono _ _ _ _ _ _ _ _ _ _ _ _
      | exact spec_DrawOffSize.mono _ _
      | exact spec_DrawSkewOf.mono _ _
      | exact spec_DrawWithinSize.mono _ _
      | exact spec_OffSize.mono _ _ _ _ _ _ _ _ _ _ _
      | exact spec_SkewOf.mono _ _ _ _ _
      | exact spec_WithinSize.mono _ _ _ _ _ _ _ _ _ _ _ _
      | exact LeO.none _
      | refine LeO.ite ?_ ?_
      | refine LeO.bind ?_ (fun _ => ?_)
theorem laws_FnSkews.mono : ∀ a0 k, LeO (laws_FnSkews.f k a0) (laws_FnSkews.f (k + 1) a0) := by
  intro a0 k
  obtain ⟨ih0, ih1, ih2, ih3, ih4, ih5, ih6⟩ := laws_FnSkews.mono_l k
  unfold laws_FnSkews.f
  repeat' first
      | (with_reducible exact ih0 _ _ _ _ _ _ _ _)
      | (with_reducible exact ih1 _ _)
      | (with_reducible exact ih2 _ _ _ _ _ _ _ _ _ _ _ _ _ _)
      | (with_reducible exact ih3 _ _ _ _ _ _ _ _ _ _ _ _ _ _)
      | (with_reducible exact ih4 _ _ _ _ _ _ _ _ _ _ _ _ _)
      | (with_reducible exact ih5 _ _ _ _ _ _ _ _ _ _ _ _)
      | (with_reducible exact ih6 _ _)
      | (with_reducible exact impl_OffSize.mono _ _ _ _ _ _ _ _ _ _ _)
      | (with_reducible exact impl_SkewOf.mono _ _ _ _ _)
      | (with_reducible exact impl_WithinSize.mono _ _ _ _ _ _ _ _ _ _ _ _)
      | (with_reducible exact spec_DrawOffSize.mono _ _)
      | (with_reducible exact spec_DrawSkewOf.mono _ _)
      | (with_reducible exact spec_DrawWithinSize.mono _ _)
      | (with_reducible exact spec_OffSize.mono _ _ _ _ _ _ _ _ _ _ _)
      | (with_reducible exact spec_SkewOf.mono _ _ _ _ _)
      | (with_reducible exact spec_WithinSize.mono _ _ _ _ _ _ _ _ _ _ _ _)
      | (with_reducible exact LeO.refl _)
      | (with_reducible exact LeO.none _)
      | (with_reducible refine LeO.ite ?_ ?_)
      | (with_reducible refine LeO.bind ?_ (fun _ => ?_))
      | exact ih0 _ _ _ _ _ _ _ _
      | exact ih1 _ _
      | exact ih2 _ _ _ _ _ _ _ _ _ _ _ _ _ _
      | exact ih3 _ _ _ _ _ _ _ _ _ _ _ _ _ _
      | exact ih4 _ _ _ _ _ _ _ _ _ _ _ _ _
      | exact ih5 _ _ _ _ _ _ _ _ _ _ _ _
      | exact ih6 _ _
      | exact impl_OffSize.mono _ _ _ _ _ _ _ _ _ _ _
      | exact impl_SkewOf.mono _ _ _ _ _
      | exact impl_WithinSize.mono _ _ _ _ _ _ _ _ _ _ _ _
      | exact spec_DrawOffSize.mono _ _
      | exact spec_DrawSkewOf.mono _ _
      | exact spec_DrawWithinSize.mono _ _
      | exact spec_OffSize.mono _ _ _ _ _ _ _ _ _ _ _
      | exact spec_SkewOf.mono _ _ _ _ _
      | exact spec_WithinSize.mono _ _ _ _ _ _ _ _ _ _ _ _
      | exact LeO.none _
      | refine LeO.ite ?_ ?_
      | refine LeO.bind ?_ (fun _ => ?_)
theorem laws_FnSkews.gen_ {P : Program} {ops : Array Oper} {Q : Exit → Act → World → Prop} {rest : List Oper} {a : Act} {W : World} {R : World → Prop} (h : R W) (k : ∀ w1, R w1 → wpList P ops Q rest a w1) : wpList P ops Q rest a W := k W h
set_option maxHeartbeats 64000000 in
set_option maxRecDepth 100000 in
theorem laws_FnSkews.calls (k : Nat) (A0 : Option Addr) (c0 : Nat) (l0 : List Int) (r : Bool) (w : World) (hr0 : Kd.C (Kd.int .u8) w A0 l0.length l0) (hc0 : l0.length ≤ c0) (ht : r = true) (h : laws_FnSkews.f k l0 = some r) :
  Calls Try.prog 14 #[.slice A0 l0.length c0] w fun e w' => e = .returned (.bool r) ∧ Below w.heap.size w w' := by
 have hu36 := Try.underlying36
 have hu46 := Try.underlying46
 have hu25 := Try.underlying25
 have HR0 := Aside0.mk hr0
 have HC0 := Aside0.mk hc0
 clear hr0 hc0
 have HB := Aside0.mk (Below.refl w.heap.size w)
 have HT := Aside0.mk ht
 clear ht
 have H : ((laws_vBig.f l0).bind fun t101 => (if t101 = true then (some true) else ((spec_DrawSkewOf.f k l0).bind fun bt102 => ((impl_SkewOf.f k bt102.1 bt102.2.1 bt102.2.2.1 bt102.2.2.2).bind fun bt107 => ((spec_SkewOf.f k bt102.1 bt102.2.1 bt102.2.2.1 bt102.2.2.2).bind fun bt110 => (if bt107.1 = bt110.1 then (if bt107.2.1 = bt110.2.1 then (if (bt107.2.2 != bt110.2.2) = true then (laws_FnSkews.j0 k l0 bt107.1 bt107.2.2 true bt102.1 bt102.2.1 bt102.2.2.1 bt102.2.2.2) else ((impl_IsMeasure.f bt102.1 bt102.2.1 bt102.2.2.1 bt102.2.2.2).bind fun t113 => (laws_FnSkews.j0 k l0 bt107.1 bt107.2.2 (bt107.2.2 != t113) bt102.1 bt102.2.1 bt102.2.2.1 bt102.2.2.2))) else (laws_FnSkews.j0 k l0 bt107.1 bt107.2.2 true bt102.1 bt102.2.1 bt102.2.2.1 bt102.2.2.2)) else (laws_FnSkews.j0 k l0 bt107.1 bt107.2.2 true bt102.1 bt102.2.1 bt102.2.2.1 bt102.2.2.2))))))) = some r := h
 clear h
 replace H := Option.bind_eq_some_iff.mp H
 obtain ⟨t101, A20, H⟩ := H
 (try dsimp only at H)
 have A2 := Aside0.mk A20
 clear A20
 by_cases c3 : t101 = true
 ·subst c3
  have H1 : (some true) = some r := by rw [if_pos rfl] at H; exact H
  clear H
  have H := H1
  clear H1
  as_aux_lemma =>
   obtain rfl := Option.some.inj H
   go_enter Try.func14, Try.ntmps14
   go_wp2_with (first | ((with_reducible refine gate_callee (f := 40) rfl ?_); refine goesL_ (some 39) rfl rfl Try.func40 (by kernel_rfl) rfl #[.slice A0 l0.length c0] rfl (by (try simp only [List.map_toArray, List.map_cons, List.map_nil]); first | done | rfl | (simp only [List.length_drop, List.length_take]; rfl)) ?_; (with_reducible refine (laws_vBig.calls _ _ l0 true _ ?side1 ?side2 A2.out).mono ?_); (case side1 => repeat (first | exact HR0.out | (with_reducible refine Kd.C_alloc ?_ _) | (with_reducible refine Kd.C_drewN ?_ _) | (with_reducible refine Kd.C_drew ?_))); (case side2 => exact HC0.out); rintro e w' ⟨rfl, ⟨nd, rfl⟩⟩; refine ⟨_, rfl, ?_⟩))
   go_ret
   exact ⟨by first | rfl | (simp [errW_none, errW_some] <;> rfl) | (simp [*, errW_none, errW_some] <;> rfl), by exact eS HB.out⟩
 replace c3 := Bool.eq_false_iff.mpr c3
 subst c3
 have H1 : ((spec_DrawSkewOf.f k l0).bind fun bt102 => ((impl_SkewOf.f k bt102.1 bt102.2.1 bt102.2.2.1 bt102.2.2.2).bind fun bt107 => ((spec_SkewOf.f k bt102.1 bt102.2.1 bt102.2.2.1 bt102.2.2.2).bind fun bt110 => (if bt107.1 = bt110.1 then (if bt107.2.1 = bt110.2.1 then (if (bt107.2.2 != bt110.2.2) = true then (laws_FnSkews.j0 k l0 bt107.1 bt107.2.2 true bt102.1 bt102.2.1 bt102.2.2.1 bt102.2.2.2) else ((impl_IsMeasure.f bt102.1 bt102.2.1 bt102.2.2.1 bt102.2.2.2).bind fun t113 => (laws_FnSkews.j0 k l0 bt107.1 bt107.2.2 (bt107.2.2 != t113) bt102.1 bt102.2.1 bt102.2.2.1 bt102.2.2.2))) else (laws_FnSkews.j0 k l0 bt107.1 bt107.2.2 true bt102.1 bt102.2.1 bt102.2.2.1 bt102.2.2.2)) else (laws_FnSkews.j0 k l0 bt107.1 bt107.2.2 true bt102.1 bt102.2.1 bt102.2.2.1 bt102.2.2.2))))) = some r := by rw [if_neg (show ¬ (false = true) by decide)] at H; exact H
 clear H
 have H := H1
 clear H1
 replace H := Option.bind_eq_some_iff.mp H
 obtain ⟨⟨t102, t103, t104, t105⟩, A40, H⟩ := H
 (try dsimp only at H)
 have A4 := Aside0.mk A40
 clear A40
 replace H := Option.bind_eq_some_iff.mp H
 obtain ⟨⟨t107, t108, t109⟩, A50, H⟩ := H
 (try dsimp only at H)
 have A5 := Aside0.mk A50
 clear A50
 replace H := Option.bind_eq_some_iff.mp H
 obtain ⟨⟨t110, t111, t112⟩, A60, H⟩ := H
 (try dsimp only at H)
 have A6 := Aside0.mk A60
 clear A60
 have HC7 := Aside0.mk H
 clear H
 go_enter Try.func14, Try.ntmps14
 go_upto_region 6 with (first | ((with_reducible refine gate_callee (f := 40) rfl ?_); refine goesL_ (some 39) rfl rfl Try.func40 (by kernel_rfl) rfl #[.slice A0 l0.length c0] rfl (by (try simp only [List.map_toArray, List.map_cons, List.map_nil]); first | done | rfl | (simp only [List.length_drop, List.length_take]; rfl)) ?_; (with_reducible refine (laws_vBig.calls _ _ l0 false _ ?side1 ?side2 A2.out).mono ?_); (case side1 => repeat (first | exact HR0.out | (with_reducible refine Kd.C_alloc ?_ _) | (with_reducible refine Kd.C_drewN ?_ _) | (with_reducible refine Kd.C_drew ?_))); (case side2 => exact HC0.out); rintro e w' ⟨rfl, ⟨nd, rfl⟩⟩; refine ⟨_, rfl, ?_⟩) | ((with_reducible refine gate_callee (f := 44) rfl ?_); refine goesL_ (some 41) rfl rfl Try.func44 (by kernel_rfl) rfl #[.slice A0 l0.length c0] rfl (by (try simp only [List.map_toArray, List.map_cons, List.map_nil]); first | done | rfl | (simp only [List.length_drop, List.length_take]; rfl)) ?_; (with_reducible refine (spec_DrawSkewOf.calls k _ _ l0 t102 t103 t104 t105 _ ?side1 ?side2 A4.out).mono ?_); (case side1 => repeat (first | exact HR0.out | (with_reducible refine Kd.C_alloc ?_ _) | (with_reducible refine Kd.C_drewN ?_ _) | (with_reducible refine Kd.C_drew ?_))); (case side2 => exact HC0.out); rintro e w8 ⟨rfl, hb⟩; refine ⟨_, rfl, ?_⟩; have n0_ := Aside0.mk (below_step (by exact eS HB.out) hb); clear HB; have HB := n0_; clear n0_; (try clear hb); (try clear hb2); (try clear hk); (try clear hi)) | ((with_reducible refine gate_dst (N := 3) rfl ?_); refine box_event ?hg (N := 3) ?hd (cs := #[.int .i64 0, .int .i64 0, .int .i64 0, .int .i64 0]) (t := 36) ?hr ?_; (case hd => rfl); (case hg => rfl); (case hr => first | (go_simp; done) | (go_simp; rfl)); intro gb106 hg w9 hbox hb; have n0_ := Aside0.mk (below_step (by exact eS HB.out) hb); have n1_ := Aside0.mk (hbox); have n2_ := Aside0.mk ((by rw [hg]; exact (below_size (by exact eS HB.out)) : w.heap.size ≤ gb106)); have n3_ := Aside0.mk ((by rw [hg]; exact (below_size (by exact eS HB.out)) : w.heap.size ≤ gb106)); clear HB; have HB := n0_; have BK106 := n1_; have GW106 := n2_; have GE106 := n3_; clear n0_ n1_ n2_ n3_; clear hb hbox hg; obtain ⟨hcz10_0, hcz10_1, hcz10_2, hcz10_3, hfz10_0, hfz10_1, hfz10_2, hfz10_3⟩ := Sq.c4 BK106.out) | ((with_reducible refine gate_callee (f := 28) rfl ?_); refine goesL_ (some 44) rfl rfl Try.func28 (by kernel_rfl) rfl #[.agg #[.int .i64 t102, .int .i64 t103, .int .i64 t104, .int .i64 t105]] rfl (by (try simp only [List.map_toArray, List.map_cons, List.map_nil]); first | done | rfl | (simp only [List.length_drop, List.length_take]; rfl)) ?_; (with_reducible refine (impl_SkewOf.calls k t102 t103 t104 t105 t107 t108 t109 _ A5.out).mono ?_); rintro e w11 ⟨rfl, hb⟩; refine ⟨_, rfl, ?_⟩; have n0_ := Aside0.mk (blk_below (g := gb106) (o := .cells #[.int .i64 t102, .int .i64 t103, .int .i64 t104, .int .i64 t105] 36 (0, 0)) (by (with_reducible repeat (first | refine blk_drewN ?_ _ | refine blk_drew ?_ | refine blk_alloc ?_ _)); apply Sq.put4; exact bS BK106.out) hb); have n1_ := Aside0.mk (below_step (by repeat (first | (with_reducible first | exact HB.out | apply below_alloc | apply pw_below_drewN | apply below_drew1 | refine below_set ?_ GE106.out) | exact HB.out)) hb); clear BK106; clear HB; have BK106 := n0_; have HB := n1_; clear n0_ n1_; (try clear hb); (try clear hb2); (try clear hk); (try clear hi); obtain ⟨hcz12_0, hcz12_1, hcz12_2, hcz12_3, hfz12_0, hfz12_1, hfz12_2, hfz12_3⟩ := Sq.c4 BK106.out) | ((with_reducible refine gate_callee (f := 27) rfl ?_); refine goesL_ (some 50) rfl rfl Try.func27 (by kernel_rfl) rfl #[.agg #[.int .i64 t102, .int .i64 t103, .int .i64 t104, .int .i64 t105]] rfl (by (try simp only [List.map_toArray, List.map_cons, List.map_nil]); first | done | rfl | (simp only [List.length_drop, List.length_take]; rfl)) ?_; (with_reducible refine (spec_SkewOf.calls k t102 t103 t104 t105 t110 t111 t112 _ A6.out).mono ?_); rintro e w13 ⟨rfl, hb⟩; refine ⟨_, rfl, ?_⟩; have n0_ := Aside0.mk (blk_below (bS BK106.out) hb); have n1_ := Aside0.mk (below_step (by exact eS HB.out) hb); clear BK106; clear HB; have BK106 := n0_; have HB := n1_; clear n0_ n1_; (try clear hb); (try clear hb2); (try clear hk); (try clear hi)))
 (try simp only [Act.put, List.setIfInBounds_toArray, List.set_cons_zero, List.set_cons_succ])
 go_cut [72] (fun v72 wc => ∃ (kq : Nat) (x72_6 : Bool), v72 = .bool x72_6 ∧ Aside0 (laws_FnSkews.j0 kq l0 t107 t109 x72_6 t102 t103 t104 t105 = some r) ∧ Aside0 (kq ≤ k) ∧ Aside0 (wc.heap[gb106]? = some (.cells #[.int .i64 t102, .int .i64 t103, .int .i64 t104, .int .i64 t105] 36 (0, 0))) ∧ Aside0 (Below w.heap.size w wc))
 case first =>
  have H := HC7.out
  clear HC7
  by_cases c14 : t107 = t110
  rotate_left
  ·rw [if_neg c14] at H
   have c14b0 : (t107 == t110) = false := beq_eq_false_iff_ne.mpr c14
   have c14b1 : (t107 != t110) = true := bne_iff_ne.mpr c14
   (first | rw [c14b0] | (simp only [i64_w, i32_w]; rw [c14b0]) | skip)
   as_aux_lemma =>
    have H' := Aside0.mk H
    clear H
    go_wp2
    go_meet
    case rel => exact ⟨_, (true), (by first | rfl | (simp; done) | (simp [*]; done)), H', ⟨by first | omega | exact Nat.le_refl _⟩, ⟨by exact bS BK106.out⟩, ⟨by exact eS HB.out⟩⟩
  rw [if_pos c14] at H
  have c14b0 : (t107 == t110) = true := beq_iff_eq.mpr c14
  have c14b1 : (t107 != t110) = false := bne_eq_false_iff_eq.mpr c14
  clear c14
  (first | rw [c14b0] | (simp only [i64_w, i32_w]; rw [c14b0]) | skip)
  by_cases c15 : t108 = t111
  rotate_left
  ·rw [if_neg c15] at H
   have c15b0 : (t108 == t111) = false := beq_eq_false_iff_ne.mpr c15
   have c15b1 : (t108 != t111) = true := bne_iff_ne.mpr c15
   as_aux_lemma =>
    have H' := Aside0.mk H
    clear H
    go_wp2
    go_meet
    case rel => exact ⟨_, (true), (by first | rfl | (simp; done) | (simp [*]; done)), H', ⟨by first | omega | exact Nat.le_refl _⟩, ⟨by exact bS BK106.out⟩, ⟨by exact eS HB.out⟩⟩
  rw [if_pos c15] at H
  have c15b0 : (t108 == t111) = true := beq_iff_eq.mpr c15
  have c15b1 : (t108 != t111) = false := bne_eq_false_iff_eq.mpr c15
  clear c15
  by_cases c16 : (t109 != t112) = true
  ·rw [if_pos c16] at H
   have c16b0 : (t109 != t112) = true := c16
   (try (have c16b1 : decide (t109 = t112) = false := by simpa using c16))
   (try (have c16b2 : (t109 == t112) = false := by simpa using c16))
   (try (have c16b3 : ¬ (t109 = t112) := by simpa using c16))
   clear c16
   as_aux_lemma =>
    have H' := Aside0.mk H
    clear H
    go_wp2
    go_meet
    case rel => exact ⟨_, (true), (by first | rfl | (simp; done) | (simp [*]; done)), H', ⟨by first | omega | exact Nat.le_refl _⟩, ⟨by exact bS BK106.out⟩, ⟨by exact eS HB.out⟩⟩
  rw [if_neg c16] at H
  have c16b0 : (t109 != t112) = false := by simpa using c16
  (try (have c16b1 : decide (t109 = t112) = true := by simpa using c16))
  (try (have c16b2 : (t109 == t112) = true := by simpa using c16))
  clear c16
  replace H := Option.bind_eq_some_iff.mp H
  obtain ⟨t113, A170, H⟩ := H
  (try dsimp only at H)
  have A17 := Aside0.mk A170
  clear A170
  as_aux_lemma =>
   have H' := Aside0.mk H
   clear H
   obtain ⟨hcz18_0, hcz18_1, hcz18_2, hcz18_3, hfz18_0, hfz18_1, hfz18_2, hfz18_3⟩ := Sq.c4 BK106.out
   go_wp2_with (first | (go_at_call 24; (with_reducible refine (impl_IsMeasure.calls t102 t103 t104 t105 t113 _ A17.out).mono ?_); rintro e w19 ⟨rfl, hb⟩; have n0_ := Aside0.mk (blk_below (bS BK106.out) hb); have n1_ := Aside0.mk (below_step (by exact eS HB.out) hb); clear BK106; clear HB; have BK106 := n0_; have HB := n1_; clear n0_ n1_; (try clear hb); (try clear hb2); (try clear hk); (try clear hi)))
   go_meet
   case rel => exact ⟨_, ((t109 != t113)), (by first | rfl | (simp; done) | (simp [*]; done)), H', ⟨by first | omega | exact Nat.le_refl _⟩, ⟨by exact bS BK106.out⟩, ⟨by exact eS HB.out⟩⟩
 case rest =>
  clear HC7
  try clear c1
  try clear c2
  try clear p2
  try clear c3
  try clear c4
  try clear c14
  try clear c14b0
  try clear c14b1
  try clear c15
  try clear c15b0
  try clear c15b1
  try clear c16
  try clear c16b0
  try clear c16b1
  try clear c16b2
  try clear hcz10_0
  try clear hcz10_1
  try clear hcz10_2
  try clear hcz10_3
  try clear hcz12_0
  try clear hcz12_1
  try clear hcz12_2
  try clear hcz12_3
  try clear hcz18_0
  try clear hcz18_1
  try clear hcz18_2
  try clear hcz18_3
  try clear hfz10_0
  try clear hfz10_1
  try clear hfz10_2
  try clear hfz10_3
  try clear hfz12_0
  try clear hfz12_1
  try clear hfz12_2
  try clear hfz12_3
  try clear hfz18_0
  try clear hfz18_1
  try clear hfz18_2
  try clear hfz18_3
  as_aux_lemma =>
   obtain ⟨kq, x72_6, rfl, HA, HJ6, BK106, HB⟩ := hcut
   cases kq with
   | zero => exact absurd HA.out (by simp [laws_FnSkews.j0])
   | succ kj6 =>
    have H := HA.out
    clear HA
    simp only [laws_FnSkews.j0] at H
    by_cases c20 : x72_6 = true
    ·subst c20
     have H1 : (some false) = some r := by rw [if_pos rfl] at H; exact H
     clear H
     have H := H1
     clear H1
     as_aux_lemma =>
      exact absurd ((Option.some.inj H).trans HT.out) (by decide)
    replace c20 := Bool.eq_false_iff.mpr c20
    subst c20
    have H1 : ((impl_StraightenBy.f t102 t103 t104 t105).bind fun bt114 => ((spec_StraightenBy.f t102 t103 t104 t105).bind fun bt117 => (if bt114.1 = bt117.1 then (if bt114.2.1 = bt117.2.1 then (if (bt114.2.2 != bt117.2.2) = true then (laws_FnSkews.j1 kj6 l0 true) else (if (bt114.2.2 != t109) = true then (laws_FnSkews.j1 kj6 l0 true) else (if t109 = true then (if bt114.1 = 0 then (laws_FnSkews.j1 kj6 l0 ((t107 == 0) != (bt114.2.1 == 0))) else (laws_FnSkews.j1 kj6 l0 ((t107 == 0) != false))) else (laws_FnSkews.j1 kj6 l0 false)))) else (laws_FnSkews.j1 kj6 l0 true)) else (laws_FnSkews.j1 kj6 l0 true)))) = some r := by rw [if_neg (show ¬ (false = true) by decide)] at H; exact H
    clear H
    have H := H1
    clear H1
    replace H := Option.bind_eq_some_iff.mp H
    obtain ⟨⟨t114, t115, t116⟩, A210, H⟩ := H
    (try dsimp only at H)
    have A21 := Aside0.mk A210
    clear A210
    replace H := Option.bind_eq_some_iff.mp H
    obtain ⟨⟨t117, t118, t119⟩, A220, H⟩ := H
    (try dsimp only at H)
    have A22 := Aside0.mk A220
    clear A220
    have HC23 := Aside0.mk H
    clear H
    obtain ⟨hcz24_0, hcz24_1, hcz24_2, hcz24_3, hfz24_0, hfz24_1, hfz24_2, hfz24_3⟩ := Sq.c4 BK106.out
    go_upto_region 10 with (first | ((with_reducible refine gate_callee (f := 26) rfl ?_); refine goesL_ (some 75) rfl rfl Try.func26 (by kernel_rfl) rfl #[.agg #[.int .i64 t102, .int .i64 t103, .int .i64 t104, .int .i64 t105]] rfl (by (try simp only [List.map_toArray, List.map_cons, List.map_nil]); first | done | rfl | (simp only [List.length_drop, List.length_take]; rfl)) ?_; (with_reducible refine (impl_StraightenBy.calls t102 t103 t104 t105 t114 t115 t116 _ A21.out).mono ?_); rintro e w25 ⟨rfl, hb⟩; refine ⟨_, rfl, ?_⟩; have n0_ := Aside0.mk (blk_below (bS BK106.out) hb); have n1_ := Aside0.mk (below_step (by exact eS HB.out) hb); clear BK106; clear HB; have BK106 := n0_; have HB := n1_; clear n0_ n1_; (try clear hb); (try clear hb2); (try clear hk); (try clear hi); obtain ⟨hcz26_0, hcz26_1, hcz26_2, hcz26_3, hfz26_0, hfz26_1, hfz26_2, hfz26_3⟩ := Sq.c4 BK106.out) | ((with_reducible refine gate_callee (f := 25) rfl ?_); refine goesL_ (some 81) rfl rfl Try.func25 (by kernel_rfl) rfl #[.agg #[.int .i64 t102, .int .i64 t103, .int .i64 t104, .int .i64 t105]] rfl (by (try simp only [List.map_toArray, List.map_cons, List.map_nil]); first | done | rfl | (simp only [List.length_drop, List.length_take]; rfl)) ?_; (with_reducible refine (spec_StraightenBy.calls t102 t103 t104 t105 t117 t118 t119 _ A22.out).mono ?_); rintro e w27 ⟨rfl, hb⟩; refine ⟨_, rfl, ?_⟩; have n0_ := Aside0.mk (blk_below (bS BK106.out) hb); have n1_ := Aside0.mk (below_step (by exact eS HB.out) hb); clear BK106; clear HB; have BK106 := n0_; have HB := n1_; clear n0_ n1_; (try clear hb); (try clear hb2); (try clear hk); (try clear hi)))
    (try simp only [Act.put, List.setIfInBounds_toArray, List.set_cons_zero, List.set_cons_succ])
    go_cut [116] (fun v116 wc => ∃ (kq : Nat) (x116_22 : Bool), v116 = .bool x116_22 ∧ Aside0 (laws_FnSkews.j1 kq l0 x116_22 = some r) ∧ Aside0 (kq ≤ kj6) ∧ Aside0 (wc.heap[gb106]? = some (.cells #[.int .i64 t102, .int .i64 t103, .int .i64 t104, .int .i64 t105] 36 (0, 0))) ∧ Aside0 (Below w.heap.size w wc))
    case first =>
     have H := HC23.out
     clear HC23
     by_cases c28 : t114 = t117
     rotate_left
     ·rw [if_neg c28] at H
      have c28b0 : (t114 == t117) = false := beq_eq_false_iff_ne.mpr c28
      have c28b1 : (t114 != t117) = true := bne_iff_ne.mpr c28
      (first | rw [c28b0] | (simp only [i64_w, i32_w]; rw [c28b0]) | skip)
      as_aux_lemma =>
       have H' := Aside0.mk H
       clear H
       go_wp2
       go_meet
       case rel => exact ⟨_, (true), (by first | rfl | (simp; done) | (simp [*]; done)), H', ⟨by have := HJ6.out; first | omega | exact Nat.le_refl _⟩, ⟨by exact bS BK106.out⟩, ⟨by exact eS HB.out⟩⟩
     rw [if_pos c28] at H
     have c28b0 : (t114 == t117) = true := beq_iff_eq.mpr c28
     have c28b1 : (t114 != t117) = false := bne_eq_false_iff_eq.mpr c28
     clear c28
     (first | rw [c28b0] | (simp only [i64_w, i32_w]; rw [c28b0]) | skip)
     by_cases c29 : t115 = t118
     rotate_left
     ·rw [if_neg c29] at H
      have c29b0 : (t115 == t118) = false := beq_eq_false_iff_ne.mpr c29
      have c29b1 : (t115 != t118) = true := bne_iff_ne.mpr c29
      as_aux_lemma =>
       have H' := Aside0.mk H
       clear H
       go_wp2
       go_meet
       case rel => exact ⟨_, (true), (by first | rfl | (simp; done) | (simp [*]; done)), H', ⟨by have := HJ6.out; first | omega | exact Nat.le_refl _⟩, ⟨by exact bS BK106.out⟩, ⟨by exact eS HB.out⟩⟩
     rw [if_pos c29] at H
     have c29b0 : (t115 == t118) = true := beq_iff_eq.mpr c29
     have c29b1 : (t115 != t118) = false := bne_eq_false_iff_eq.mpr c29
     clear c29
     by_cases c30 : (t116 != t119) = true
     ·rw [if_pos c30] at H
      have c30b0 : (t116 != t119) = true := c30
      (try (have c30b1 : decide (t116 = t119) = false := by simpa using c30))
      (try (have c30b2 : (t116 == t119) = false := by simpa using c30))
      (try (have c30b3 : ¬ (t116 = t119) := by simpa using c30))
      clear c30
      as_aux_lemma =>
       have H' := Aside0.mk H
       clear H
       go_wp2
       go_meet
       case rel => exact ⟨_, (true), (by first | rfl | (simp; done) | (simp [*]; done)), H', ⟨by have := HJ6.out; first | omega | exact Nat.le_refl _⟩, ⟨by exact bS BK106.out⟩, ⟨by exact eS HB.out⟩⟩
     rw [if_neg c30] at H
     have c30b0 : (t116 != t119) = false := by simpa using c30
     (try (have c30b1 : decide (t116 = t119) = true := by simpa using c30))
     (try (have c30b2 : (t116 == t119) = true := by simpa using c30))
     clear c30
     by_cases c31 : (t116 != t109) = true
     ·rw [if_pos c31] at H
      have c31b0 : (t116 != t109) = true := c31
      (try (have c31b1 : decide (t116 = t109) = false := by simpa using c31))
      (try (have c31b2 : (t116 == t109) = false := by simpa using c31))
      (try (have c31b3 : ¬ (t116 = t109) := by simpa using c31))
      clear c31
      as_aux_lemma =>
       have H' := Aside0.mk H
       clear H
       go_wp2
       go_meet
       case rel => exact ⟨_, (true), (by first | rfl | (simp; done) | (simp [*]; done)), H', ⟨by have := HJ6.out; first | omega | exact Nat.le_refl _⟩, ⟨by exact bS BK106.out⟩, ⟨by exact eS HB.out⟩⟩
     rw [if_neg c31] at H
     have c31b0 : (t116 != t109) = false := by simpa using c31
     (try (have c31b1 : decide (t116 = t109) = true := by simpa using c31))
     (try (have c31b2 : (t116 == t109) = true := by simpa using c31))
     clear c31
     by_cases c32 : t109 = true
     rotate_left
     ·replace c32 := Bool.eq_false_iff.mpr c32
      subst c32
      have H1 : (laws_FnSkews.j1 kj6 l0 false) = some r := by rw [if_neg (show ¬ (false = true) by decide)] at H; exact H
      clear H
      have H := H1
      clear H1
      as_aux_lemma =>
       have H' := Aside0.mk H
       clear H
       go_wp2
       go_meet
       case rel => exact ⟨_, (false), (by first | rfl | (simp; done) | (simp [*]; done)), H', ⟨by have := HJ6.out; first | omega | exact Nat.le_refl _⟩, ⟨by exact bS BK106.out⟩, ⟨by exact eS HB.out⟩⟩
     subst c32
     have H1 : (if t114 = 0 then (laws_FnSkews.j1 kj6 l0 ((t107 == 0) != (t115 == 0))) else (laws_FnSkews.j1 kj6 l0 ((t107 == 0) != false))) = some r := by rw [if_pos rfl] at H; exact H
     clear H
     have H := H1
     clear H1
     by_cases c33 : t114 = 0
     rotate_left
     ·rw [if_neg c33] at H
      have c33b0 : (t114 == 0) = false := beq_eq_false_iff_ne.mpr c33
      have c33b1 : (t114 != 0) = true := bne_iff_ne.mpr c33
      as_aux_lemma =>
       have H' := Aside0.mk H
       clear H
       go_wp2
       go_meet
       case rel => exact ⟨_, (((t107 == 0) != false)), (by first | rfl | (simp; done) | (simp [*]; done)), H', ⟨by have := HJ6.out; first | omega | exact Nat.le_refl _⟩, ⟨by exact bS BK106.out⟩, ⟨by exact eS HB.out⟩⟩
     rw [if_pos c33] at H
     have c33b0 : (t114 == 0) = true := beq_iff_eq.mpr c33
     have c33b1 : (t114 != 0) = false := bne_eq_false_iff_eq.mpr c33
     clear c33
     as_aux_lemma =>
      have H' := Aside0.mk H
      clear H
      go_wp2
      go_meet
      case rel => exact ⟨_, (((t107 == 0) != (t115 == 0))), (by first | rfl | (simp; done) | (simp [*]; done)), H', ⟨by have := HJ6.out; first | omega | exact Nat.le_refl _⟩, ⟨by exact bS BK106.out⟩, ⟨by exact eS HB.out⟩⟩
    case rest =>
     clear HC23
     try clear c1
     try clear c2
     try clear p2
     try clear c3
     try clear c4
     try clear c14
     try clear c14b0
     try clear c14b1
     try clear c15
     try clear c15b0
     try clear c15b1
     try clear c16
     try clear c16b0
     try clear c16b1
     try clear c16b2
     try clear c20
     try clear c25
     try clear c26
     try clear c27
     try clear c28
     try clear c28b0
     try clear c28b1
     try clear c29
     try clear c29b0
     try clear c29b1
     try clear c30
     try clear c30b0
     try clear c30b1
     try clear c30b2
     try clear c31
     try clear c31b0
     try clear c31b1
     try clear c31b2
     try clear c32
     try clear c33
     try clear c33b0
     try clear c33b1
     try clear hcz10_0
     try clear hcz10_1
     try clear hcz10_2
     try clear hcz10_3
     try clear hcz12_0
     try clear hcz12_1
     try clear hcz12_2
     try clear hcz12_3
     try clear hcz18_0
     try clear hcz18_1
     try clear hcz18_2
     try clear hcz18_3
     try clear hcz24_0
     try clear hcz24_1
     try clear hcz24_2
     try clear hcz24_3
     try clear hcz26_0
     try clear hcz26_1
     try clear hcz26_2
     try clear hcz26_3
     try clear hfz10_0
     try clear hfz10_1
     try clear hfz10_2
     try clear hfz10_3
     try clear hfz12_0
     try clear hfz12_1
     try clear hfz12_2
     try clear hfz12_3
     try clear hfz18_0
     try clear hfz18_1
     try clear hfz18_2
     try clear hfz18_3
     try clear hfz24_0
     try clear hfz24_1
     try clear hfz24_2
     try clear hfz24_3
     try clear hfz26_0
     try clear hfz26_1
     try clear hfz26_2
     try clear hfz26_3
     try clear p2
     as_aux_lemma =>
      obtain ⟨kq, x116_22, rfl, HA, HJ22, BK106, HB⟩ := hcut
      cases kq with
      | zero => exact absurd HA.out (by simp [laws_FnSkews.j1])
      | succ kj22 =>
       have H := HA.out
       clear HA
       simp only [laws_FnSkews.j1] at H
       by_cases c34 : x116_22 = true
       ·subst c34
        have H1 : (some false) = some r := by rw [if_pos rfl] at H; exact H
        clear H
        have H := H1
        clear H1
        as_aux_lemma =>
         exact absurd ((Option.some.inj H).trans HT.out) (by decide)
       replace c34 := Bool.eq_false_iff.mpr c34
       subst c34
       have H1 : ((spec_DrawWithinSize.f kj22 l0).bind fun bt120 => ((impl_WithinSize.f kj22 bt120.1 bt120.2.1 bt120.2.2.1 bt120.2.2.2.1 bt120.2.2.2.2.1 bt120.2.2.2.2.2.1 bt120.2.2.2.2.2.2.1 bt120.2.2.2.2.2.2.2.1 bt120.2.2.2.2.2.2.2.2.1 bt120.2.2.2.2.2.2.2.2.2.1 bt120.2.2.2.2.2.2.2.2.2.2).bind fun bt136 => ((spec_WithinSize.f kj22 bt120.1 bt120.2.1 bt120.2.2.1 bt120.2.2.2.1 bt120.2.2.2.2.1 bt120.2.2.2.2.2.1 bt120.2.2.2.2.2.2.1 bt120.2.2.2.2.2.2.2.1 bt120.2.2.2.2.2.2.2.2.1 bt120.2.2.2.2.2.2.2.2.2.1 bt120.2.2.2.2.2.2.2.2.2.2).bind fun bt138 => (if (bt136.1 != bt138.1) = true then (laws_FnSkews.j2 kj22 l0 bt120.2.2.2.2.2.2.2.2.2.2 bt136.1 true bt120.1 bt120.2.1 bt120.2.2.1 bt120.2.2.2.1 bt120.2.2.2.2.1 bt120.2.2.2.2.2.1 bt120.2.2.2.2.2.2.1 bt120.2.2.2.2.2.2.2.1 bt120.2.2.2.2.2.2.2.2.1 bt120.2.2.2.2.2.2.2.2.2.1) else (laws_FnSkews.j2 kj22 l0 bt120.2.2.2.2.2.2.2.2.2.2 bt136.1 (bt136.2 != bt138.2) bt120.1 bt120.2.1 bt120.2.2.1 bt120.2.2.2.1 bt120.2.2.2.2.1 bt120.2.2.2.2.2.1 bt120.2.2.2.2.2.2.1 bt120.2.2.2.2.2.2.2.1 bt120.2.2.2.2.2.2.2.2.1 bt120.2.2.2.2.2.2.2.2.2.1))))) = some r := by rw [if_neg (show ¬ (false = true) by decide)] at H; exact H
       clear H
       have H := H1
       clear H1
       replace H := Option.bind_eq_some_iff.mp H
       obtain ⟨⟨t120, t121, t122, t125, t126, t127, t128, t129, t130, t131, t132⟩, A350, H⟩ := H
       (try dsimp only at H)
       have A35 := Aside0.mk A350
       clear A350
       replace H := Option.bind_eq_some_iff.mp H
       obtain ⟨⟨t136, t137⟩, A360, H⟩ := H
       (try dsimp only at H)
       have A36 := Aside0.mk A360
       clear A360
       replace H := Option.bind_eq_some_iff.mp H
       obtain ⟨⟨t138, t139⟩, A370, H⟩ := H
       (try dsimp only at H)
       have A37 := Aside0.mk A370
       clear A370
       have HC38 := Aside0.mk H
       clear H
       go_upto_region 15 with (first | ((with_reducible refine gate_callee (f := 45) rfl ?_); refine goesL_ (some 119) rfl rfl Try.func45 (by kernel_rfl) rfl #[.slice A0 l0.length c0] rfl (by (try simp only [List.map_toArray, List.map_cons, List.map_nil]); first | done | rfl | (simp only [List.length_drop, List.length_take]; rfl)) ?_; (with_reducible refine (spec_DrawWithinSize.calls kj22 _ _ l0 t120 t121 t122 t125 t126 t127 t128 t129 t130 t131 t132 _ ?side1 ?side2 A35.out).mono ?_); (case side1 => repeat (first | exact (Kd.C_below HR0.out HB.out) | (with_reducible refine Kd.C_alloc ?_ _) | (with_reducible refine Kd.C_drewN ?_ _) | (with_reducible refine Kd.C_drew ?_))); (case side2 => exact HC0.out); rintro e w39 ⟨v123, rfl, ho0, hb⟩; refine ⟨_, rfl, ?_⟩; have n0_ := Aside0.mk (Kd.R_lower ho0 (below_size (by exact eS HB.out))); have n1_ := Aside0.mk (blk_below (bS BK106.out) hb); have n2_ := Aside0.mk (below_step (by exact eS HB.out) hb); clear BK106; clear HB; have HO124 := n0_; have BK106 := n1_; have HB := n2_; clear n0_ n1_ n2_; (try clear hb); (try clear hb2); (try clear hk); (try clear hi); (try clear ho0)) | ((with_reducible refine gate_dst (N := 16) rfl ?_); refine box_event ?hg (N := 16) ?hd (cs := #[.int .i64 0, .int .i64 0, .slice none 0 0]) (t := 46) ?hr ?_; (case hd => rfl); (case hg => rfl); (case hr => first | (go_simp; done) | (go_simp; rfl)); intro gb133 hg w40 hbox hb; have n0_ := Aside0.mk (Kd.R_below (by exact Ho.RS <| HO124.out) hb); have n1_ := Aside0.mk (blk_below (bS BK106.out) hb); have n2_ := Aside0.mk (below_step (by exact eS HB.out) hb); have n3_ := Aside0.mk (hbox); have n4_ := Aside0.mk ((by rw [hg]; exact (below_size (by exact eS HB.out)) : w.heap.size ≤ gb133)); have n5_ := Aside0.mk ((by rw [hg]; exact (below_size (by exact eS HB.out)) : w.heap.size ≤ gb133)); have n6_ := Aside0.mk ((by rw [hg]; exact Nat.ne_of_lt (blk_lt (bS BK106.out)) : gb106 ≠ gb133)); have n7_ := Aside0.mk ((by rw [hg]; exact Nat.ne_of_gt (blk_lt (bS BK106.out)) : gb133 ≠ gb106)); clear HO124; clear BK106; clear HB; have HO124 := n0_; have BK106 := n1_; have HB := n2_; have BK133 := n3_; have GW133 := n4_; have GE133 := n5_; have NB106_133 := n6_; have NB133_106 := n7_; clear n0_ n1_ n2_ n3_ n4_ n5_ n6_ n7_; clear hb hbox hg) | ((with_reducible refine gate_dst (N := 17) rfl ?_); refine box_event ?hg (N := 17) ?hd (cs := #[.int .i64 0, .int .i64 0, .int .i64 0]) (t := 25) ?hr ?_; (case hd => rfl); (case hg => rfl); (case hr => first | (go_simp; done) | (go_simp; rfl)); intro gb134 hg w41 hbox hb; have n0_ := Aside0.mk (Kd.R_below (by exact Ho.RS <| HO124.out) hb); have n1_ := Aside0.mk (blk_below (bS BK106.out) hb); have n2_ := Aside0.mk (blk_below (bS BK133.out) hb); have n3_ := Aside0.mk (below_step (by exact eS HB.out) hb); have n4_ := Aside0.mk (hbox); have n5_ := Aside0.mk ((by rw [hg]; exact (below_size (by exact eS HB.out)) : w.heap.size ≤ gb134)); have n6_ := Aside0.mk ((by rw [hg]; exact (below_size (by exact eS HB.out)) : w.heap.size ≤ gb134)); have n7_ := Aside0.mk ((by rw [hg]; exact Nat.ne_of_lt (blk_lt (bS BK106.out)) : gb106 ≠ gb134)); have n8_ := Aside0.mk ((by rw [hg]; exact Nat.ne_of_gt (blk_lt (bS BK106.out)) : gb134 ≠ gb106)); have n9_ := Aside0.mk ((by rw [hg]; exact Nat.ne_of_lt (blk_lt (bS BK133.out)) : gb133 ≠ gb134)); have n10_ := Aside0.mk ((by rw [hg]; exact Nat.ne_of_gt (blk_lt (bS BK133.out)) : gb134 ≠ gb133)); clear HO124; clear BK106; clear BK133; clear HB; have HO124 := n0_; have BK106 := n1_; have BK133 := n2_; have HB := n3_; have BK134 := n4_; have GW134 := n5_; have GE134 := n6_; have NB106_134 := n7_; have NB134_106 := n8_; have NB133_134 := n9_; have NB134_133 := n10_; clear n0_ n1_ n2_ n3_ n4_ n5_ n6_ n7_ n8_ n9_ n10_; clear hb hbox hg) | ((with_reducible refine gate_dst (N := 18) rfl ?_); refine box_event ?hg (N := 18) ?hd (cs := #[.int .i64 0, .int .i64 0, .int .i64 0, .int .i64 0]) (t := 36) ?hr ?_; (case hd => rfl); (case hg => rfl); (case hr => first | (go_simp; done) | (go_simp; rfl)); intro gb135 hg w42 hbox hb; have n0_ := Aside0.mk (Kd.R_below (by exact Ho.RS <| HO124.out) hb); have n1_ := Aside0.mk (blk_below (bS BK106.out) hb); have n2_ := Aside0.mk (blk_below (bS BK133.out) hb); have n3_ := Aside0.mk (blk_below (bS BK134.out) hb); have n4_ := Aside0.mk (below_step (by exact eS HB.out) hb); have n5_ := Aside0.mk (hbox); have n6_ := Aside0.mk ((by rw [hg]; exact (below_size (by exact eS HB.out)) : w.heap.size ≤ gb135)); have n7_ := Aside0.mk ((by rw [hg]; exact (below_size (by exact eS HB.out)) : w.heap.size ≤ gb135)); have n8_ := Aside0.mk ((by rw [hg]; exact Nat.ne_of_lt (blk_lt (bS BK106.out)) : gb106 ≠ gb135)); have n9_ := Aside0.mk ((by rw [hg]; exact Nat.ne_of_gt (blk_lt (bS BK106.out)) : gb135 ≠ gb106)); have n10_ := Aside0.mk ((by rw [hg]; exact Nat.ne_of_lt (blk_lt (bS BK133.out)) : gb133 ≠ gb135)); have n11_ := Aside0.mk ((by rw [hg]; exact Nat.ne_of_gt (blk_lt (bS BK133.out)) : gb135 ≠ gb133)); have n12_ := Aside0.mk ((by rw [hg]; exact Nat.ne_of_lt (blk_lt (bS BK134.out)) : gb134 ≠ gb135)); have n13_ := Aside0.mk ((by rw [hg]; exact Nat.ne_of_gt (blk_lt (bS BK134.out)) : gb135 ≠ gb134)); clear HO124; clear BK106; clear BK133; clear BK134; clear HB; have HO124 := n0_; have BK106 := n1_; have BK133 := n2_; have BK134 := n3_; have HB := n4_; have BK135 := n5_; have GW135 := n6_; have GE135 := n7_; have NB106_135 := n8_; have NB135_106 := n9_; have NB133_135 := n10_; have NB135_133 := n11_; have NB134_135 := n12_; have NB135_134 := n13_; clear n0_ n1_ n2_ n3_ n4_ n5_ n6_ n7_ n8_ n9_ n10_ n11_ n12_ n13_; clear hb hbox hg; have hnb43 := NB133_106.out; have hnc43 := NB106_133.out; have hnb44 := NB133_134.out; have hnc44 := NB134_133.out; have hnb45 := NB133_135.out; have hnc45 := NB135_133.out; obtain ⟨hcz46_0, hcz46_1, hcz46_2, hfz46_0, hfz46_1, hfz46_2⟩ := Sq.c3 BK133.out; obtain ⟨Ao47, co47, eo47⟩ := Kd.R_slice HO124.out; subst eo47; have hnb48 := NB134_106.out; have hnc48 := NB106_134.out; have hnb49 := NB134_135.out; have hnc49 := NB135_134.out; obtain ⟨hcz50_0, hcz50_1, hcz50_2, hfz50_0, hfz50_1, hfz50_2⟩ := Sq.c3 BK134.out; have hnb51 := NB135_106.out; have hnc51 := NB106_135.out; obtain ⟨hcz52_0, hcz52_1, hcz52_2, hcz52_3, hfz52_0, hfz52_1, hfz52_2, hfz52_3⟩ := Sq.c4 BK135.out) | ((with_reducible refine gate_store (t := 25) (p := 17) rfl ?_); (fail_if_success guard_hyp GEN1_ : True); refine laws_FnSkews.gen_ (R := fun w1_ => Kd.R (Kd.int .i64) 3 w1_ w.heap.size (fun k_ => True) (.slice Ao47 t122.length co47) t122 ∧ w1_.heap[gb106]? = some (.cells #[.int .i64 t102, .int .i64 t103, .int .i64 t104, .int .i64 t105] 36 (0, 0)) ∧ w1_.heap[gb133]? = some (.cells #[.int .i64 t120, .int .i64 t121, .slice Ao47 t122.length co47] 46 (0, 0)) ∧ w1_.heap[gb134]? = some (.cells #[.int .i64 0, .int .i64 0, .int .i64 0] 25 (0, 0)) ∧ w1_.heap[gb135]? = some (.cells #[.int .i64 0, .int .i64 0, .int .i64 0, .int .i64 0] 36 (0, 0)) ∧ Below w.heap.size w w1_) ⟨Kd.R_mono (Kd.R_far (p := ⟨gb133, 2, none⟩) (Kd.R_far (p := ⟨gb133, 1, none⟩) (Kd.R_far (p := ⟨gb133, 0, none⟩) (Kd.R_types (by exact Ho.RS <| HO124.out) (by exact bS BK133.out) (by decide)) (fun _ hk => hk.2) (.int .i64 t120)) (fun _ hk => hk.2) (.int .i64 t121)) (fun _ hk => hk.2) (.slice Ao47 t122.length co47)) (fun _ _ => trivial), (by repeat (first | exact bS BK106.out | refine blk_far ?_ NB106_133.out _)), (by apply Sq.put3; exact bS BK133.out), (by repeat (first | exact bS BK134.out | refine blk_far ?_ NB134_133.out _)), (by repeat (first | exact bS BK135.out | refine blk_far ?_ NB135_133.out _)), (by repeat (first | (with_reducible exact HB.out) | refine below_set ?_ GE133.out | exact eS HB.out))⟩ ?_; intro wg1_ hR_; have GEN1_ := True.intro; obtain ⟨g1_, g2_, g3_, g4_, g5_, g6_⟩ := hR_; clear HO124 BK106 BK133 BK134 BK135 HB; (try clear hcz46_0); (try clear hcz46_1); (try clear hcz46_2); (try clear hfz46_0); (try clear hfz46_1); (try clear hfz46_2); (try clear hcz50_0); (try clear hcz50_1); (try clear hcz50_2); (try clear hfz50_0); (try clear hfz50_1); (try clear hfz50_2); (try clear hcz52_0); (try clear hcz52_1); (try clear hcz52_2); (try clear hcz52_3); (try clear hfz52_0); (try clear hfz52_1); (try clear hfz52_2); (try clear hfz52_3); have HO124 := Aside0.mk g1_; have BK106 := Aside0.mk g2_; have BK133 := Aside0.mk g3_; have BK134 := Aside0.mk g4_; have BK135 := Aside0.mk g5_; have HB := Aside0.mk g6_; clear g1_ g2_ g3_ g4_ g5_ g6_; obtain ⟨hcz109_0, hcz109_1, hcz109_2, hfz109_0, hfz109_1, hfz109_2⟩ := Sq.c3 BK133.out; obtain ⟨hcz119_0, hcz119_1, hcz119_2, hfz119_0, hfz119_1, hfz119_2⟩ := Sq.c3 BK134.out; obtain ⟨hcz129_0, hcz129_1, hcz129_2, hcz129_3, hfz129_0, hfz129_1, hfz129_2, hfz129_3⟩ := Sq.c4 BK135.out) | ((with_reducible refine gate_store (t := 36) (p := 18) rfl ?_); (fail_if_success guard_hyp GEN2_ : True); refine laws_FnSkews.gen_ (R := fun w1_ => Kd.R (Kd.int .i64) 3 w1_ w.heap.size (fun k_ => True) (.slice Ao47 t122.length co47) t122 ∧ w1_.heap[gb106]? = some (.cells #[.int .i64 t102, .int .i64 t103, .int .i64 t104, .int .i64 t105] 36 (0, 0)) ∧ w1_.heap[gb133]? = some (.cells #[.int .i64 t120, .int .i64 t121, .slice Ao47 t122.length co47] 46 (0, 0)) ∧ w1_.heap[gb134]? = some (.cells #[.int .i64 t125, .int .i64 t126, .int .i64 t127] 25 (0, 0)) ∧ w1_.heap[gb135]? = some (.cells #[.int .i64 0, .int .i64 0, .int .i64 0, .int .i64 0] 36 (0, 0)) ∧ Below w.heap.size w w1_) ⟨Kd.R_mono (Kd.R_far (p := ⟨gb134, 2, none⟩) (Kd.R_far (p := ⟨gb134, 1, none⟩) (Kd.R_far (p := ⟨gb134, 0, none⟩) (Kd.R_types (by exact Ho.RS <| HO124.out) (by exact bS BK134.out) (by decide)) (fun _ hk => hk.2) (.int .i64 t125)) (fun _ hk => hk.2) (.int .i64 t126)) (fun _ hk => hk.2) (.int .i64 t127)) (fun _ _ => trivial), (by repeat (first | exact bS BK106.out | refine blk_far ?_ NB106_134.out _)), (by repeat (first | exact bS BK133.out | refine blk_far ?_ NB133_134.out _)), (by apply Sq.put3; exact bS BK134.out), (by repeat (first | exact bS BK135.out | refine blk_far ?_ NB135_134.out _)), (by repeat (first | (with_reducible exact HB.out) | refine below_set ?_ GE134.out | exact eS HB.out))⟩ ?_; intro wg2_ hR_; have GEN2_ := True.intro; obtain ⟨g1_, g2_, g3_, g4_, g5_, g6_⟩ := hR_; clear HO124 BK106 BK133 BK134 BK135 HB; (try clear hcz109_0); (try clear hcz109_1); (try clear hcz109_2); (try clear hfz109_0); (try clear hfz109_1); (try clear hfz109_2); (try clear hcz119_0); (try clear hcz119_1); (try clear hcz119_2); (try clear hfz119_0); (try clear hfz119_1); (try clear hfz119_2); (try clear hcz129_0); (try clear hcz129_1); (try clear hcz129_2); (try clear hcz129_3); (try clear hfz129_0); (try clear hfz129_1); (try clear hfz129_2); (try clear hfz129_3); have HO124 := Aside0.mk g1_; have BK106 := Aside0.mk g2_; have BK133 := Aside0.mk g3_; have BK134 := Aside0.mk g4_; have BK135 := Aside0.mk g5_; have HB := Aside0.mk g6_; clear g1_ g2_ g3_ g4_ g5_ g6_; obtain ⟨hcz209_0, hcz209_1, hcz209_2, hfz209_0, hfz209_1, hfz209_2⟩ := Sq.c3 BK133.out; obtain ⟨hcz219_0, hcz219_1, hcz219_2, hfz219_0, hfz219_1, hfz219_2⟩ := Sq.c3 BK134.out; obtain ⟨hcz229_0, hcz229_1, hcz229_2, hcz229_3, hfz229_0, hfz229_1, hfz229_2, hfz229_3⟩ := Sq.c4 BK135.out) | ((with_reducible refine gate_dst (N := 125) rfl ?_); (fail_if_success guard_hyp GEN3_ : True); refine laws_FnSkews.gen_ (R := fun w1_ => Kd.R (Kd.int .i64) 3 w1_ w.heap.size (fun k_ => True) (.slice Ao47 t122.length co47) t122 ∧ w1_.heap[gb106]? = some (.cells #[.int .i64 t102, .int .i64 t103, .int .i64 t104, .int .i64 t105] 36 (0, 0)) ∧ w1_.heap[gb133]? = some (.cells #[.int .i64 t120, .int .i64 t121, .slice Ao47 t122.length co47] 46 (0, 0)) ∧ w1_.heap[gb134]? = some (.cells #[.int .i64 t125, .int .i64 t126, .int .i64 t127] 25 (0, 0)) ∧ w1_.heap[gb135]? = some (.cells #[.int .i64 t128, .int .i64 t129, .int .i64 t130, .int .i64 t131] 36 (0, 0)) ∧ Below w.heap.size w w1_) ⟨Kd.R_mono (Kd.R_far (p := ⟨gb135, 3, none⟩) (Kd.R_far (p := ⟨gb135, 2, none⟩) (Kd.R_far (p := ⟨gb135, 1, none⟩) (Kd.R_far (p := ⟨gb135, 0, none⟩) (Kd.R_types (by exact Ho.RS <| HO124.out) (by exact bS BK135.out) (by decide)) (fun _ hk => hk.2) (.int .i64 t128)) (fun _ hk => hk.2) (.int .i64 t129)) (fun _ hk => hk.2) (.int .i64 t130)) (fun _ hk => hk.2) (.int .i64 t131)) (fun _ _ => trivial), (by repeat (first | exact bS BK106.out | refine blk_far ?_ NB106_135.out _)), (by repeat (first | exact bS BK133.out | refine blk_far ?_ NB133_135.out _)), (by repeat (first | exact bS BK134.out | refine blk_far ?_ NB134_135.out _)), (by apply Sq.put4; exact bS BK135.out), (by repeat (first | (with_reducible exact HB.out) | refine below_set ?_ GE135.out | exact eS HB.out))⟩ ?_; intro wg3_ hR_; have GEN3_ := True.intro; obtain ⟨g1_, g2_, g3_, g4_, g5_, g6_⟩ := hR_; clear HO124 BK106 BK133 BK134 BK135 HB; (try clear hcz209_0); (try clear hcz209_1); (try clear hcz209_2); (try clear hfz209_0); (try clear hfz209_1); (try clear hfz209_2); (try clear hcz219_0); (try clear hcz219_1); (try clear hcz219_2); (try clear hfz219_0); (try clear hfz219_1); (try clear hfz219_2); (try clear hcz229_0); (try clear hcz229_1); (try clear hcz229_2); (try clear hcz229_3); (try clear hfz229_0); (try clear hfz229_1); (try clear hfz229_2); (try clear hfz229_3); have HO124 := Aside0.mk g1_; have BK106 := Aside0.mk g2_; have BK133 := Aside0.mk g3_; have BK134 := Aside0.mk g4_; have BK135 := Aside0.mk g5_; have HB := Aside0.mk g6_; clear g1_ g2_ g3_ g4_ g5_ g6_; obtain ⟨hcz309_0, hcz309_1, hcz309_2, hfz309_0, hfz309_1, hfz309_2⟩ := Sq.c3 BK133.out; obtain ⟨hcz319_0, hcz319_1, hcz319_2, hfz319_0, hfz319_1, hfz319_2⟩ := Sq.c3 BK134.out; obtain ⟨hcz329_0, hcz329_1, hcz329_2, hcz329_3, hfz329_0, hfz329_1, hfz329_2, hfz329_3⟩ := Sq.c4 BK135.out) | ((with_reducible refine gate_callee (f := 37) rfl ?_); refine goesL_ (some 129) rfl rfl Try.func37 (by kernel_rfl) rfl #[.agg #[.int .i64 t120, .int .i64 t121, .slice Ao47 t122.length co47], .agg #[.int .i64 t125, .int .i64 t126, .int .i64 t127], .agg #[.int .i64 t128, .int .i64 t129, .int .i64 t130, .int .i64 t131], .int .i64 t132] rfl (by (try simp only [List.map_toArray, List.map_cons, List.map_nil]); first | done | rfl | (simp only [List.length_drop, List.length_take]; rfl)) ?_; (with_reducible refine (impl_WithinSize.calls kj22 t120 t121 _ _ t122 t125 t126 t127 t128 t129 t130 t131 t132 t136 t137 _ ?side1 ?side2 A36.out).mono ?_); (case side1 => repeat (first | exact (Kd.R_reads' HO124.out).2.2 | (with_reducible refine Kd.C_alloc ?_ _) | (with_reducible refine Kd.C_drewN ?_ _) | (with_reducible refine Kd.C_drew ?_))); (case side2 => exact (Kd.R_reads' HO124.out).2.1); (try clear hcz309_0); (try clear hcz309_1); (try clear hcz309_2); (try clear hfz309_0); (try clear hfz309_1); (try clear hfz309_2); (try clear hcz319_0); (try clear hcz319_1); (try clear hcz319_2); (try clear hfz319_0); (try clear hfz319_1); (try clear hfz319_2); (try clear hcz329_0); (try clear hcz329_1); (try clear hcz329_2); (try clear hcz329_3); (try clear hfz329_0); (try clear hfz329_1); (try clear hfz329_2); (try clear hfz329_3); rintro e w53 ⟨rfl, hb⟩; refine ⟨_, rfl, ?_⟩; have n0_ := Aside0.mk (Kd.R_below (by exact Ho.RS <| HO124.out) hb); have n1_ := Aside0.mk (blk_below (bS BK106.out) hb); have n2_ := Aside0.mk (blk_below (bS BK133.out) hb); have n3_ := Aside0.mk (blk_below (bS BK134.out) hb); have n4_ := Aside0.mk (blk_below (bS BK135.out) hb); have n5_ := Aside0.mk (below_step (by exact eS HB.out) hb); clear HO124; clear BK106; clear BK133; clear BK134; clear BK135; clear HB; have HO124 := n0_; have BK106 := n1_; have BK133 := n2_; have BK134 := n3_; have BK135 := n4_; have HB := n5_; clear n0_ n1_ n2_ n3_ n4_ n5_; (try clear hb); (try clear hb2); (try clear hk); (try clear hi); obtain ⟨hcz54_0, hcz54_1, hcz54_2, hfz54_0, hfz54_1, hfz54_2⟩ := Sq.c3 BK133.out; obtain ⟨hcz55_0, hcz55_1, hcz55_2, hfz55_0, hfz55_1, hfz55_2⟩ := Sq.c3 BK134.out; obtain ⟨hcz56_0, hcz56_1, hcz56_2, hcz56_3, hfz56_0, hfz56_1, hfz56_2, hfz56_3⟩ := Sq.c4 BK135.out) | ((with_reducible refine gate_callee (f := 36) rfl ?_); refine goesL_ (some 137) rfl rfl Try.func36 (by kernel_rfl) rfl #[.agg #[.int .i64 t120, .int .i64 t121, .slice Ao47 t122.length co47], .agg #[.int .i64 t125, .int .i64 t126, .int .i64 t127], .agg #[.int .i64 t128, .int .i64 t129, .int .i64 t130, .int .i64 t131], .int .i64 t132] rfl (by (try simp only [List.map_toArray, List.map_cons, List.map_nil]); first | done | rfl | (simp only [List.length_drop, List.length_take]; rfl)) ?_; (with_reducible refine (spec_WithinSize.calls kj22 t120 t121 _ _ t122 t125 t126 t127 t128 t129 t130 t131 t132 t138 t139 _ ?side1 ?side2 A37.out).mono ?_); (case side1 => repeat (first | exact (Kd.R_reads' HO124.out).2.2 | (with_reducible refine Kd.C_alloc ?_ _) | (with_reducible refine Kd.C_drewN ?_ _) | (with_reducible refine Kd.C_drew ?_))); (case side2 => exact (Kd.R_reads' HO124.out).2.1); rintro e w57 ⟨rfl, hb⟩; refine ⟨_, rfl, ?_⟩; have n0_ := Aside0.mk (Kd.R_below (by exact Ho.RS <| HO124.out) hb); have n1_ := Aside0.mk (blk_below (bS BK106.out) hb); have n2_ := Aside0.mk (blk_below (bS BK133.out) hb); have n3_ := Aside0.mk (blk_below (bS BK134.out) hb); have n4_ := Aside0.mk (blk_below (bS BK135.out) hb); have n5_ := Aside0.mk (below_step (by exact eS HB.out) hb); clear HO124; clear BK106; clear BK133; clear BK134; clear BK135; clear HB; have HO124 := n0_; have BK106 := n1_; have BK133 := n2_; have BK134 := n3_; have BK135 := n4_; have HB := n5_; clear n0_ n1_ n2_ n3_ n4_ n5_; (try clear hb); (try clear hb2); (try clear hk); (try clear hi)))
       (try simp only [Act.put, List.setIfInBounds_toArray, List.set_cons_zero, List.set_cons_succ])
       go_cut [147] (fun v147 wc => ∃ (kq : Nat) (x147_37 : Bool), v147 = .bool x147_37 ∧ Aside0 (laws_FnSkews.j2 kq l0 t132 t136 x147_37 t120 t121 t122 t125 t126 t127 t128 t129 t130 t131 = some r) ∧ Aside0 (kq ≤ kj22) ∧ Aside0 (Kd.R (Kd.int .i64) 3 wc w.heap.size (fun _ => True) (.slice Ao47 t122.length co47) t122) ∧ Aside0 (wc.heap[gb106]? = some (.cells #[.int .i64 t102, .int .i64 t103, .int .i64 t104, .int .i64 t105] 36 (0, 0))) ∧ Aside0 (wc.heap[gb133]? = some (.cells #[.int .i64 t120, .int .i64 t121, (.slice Ao47 t122.length co47)] 46 (0, 0))) ∧ Aside0 (wc.heap[gb134]? = some (.cells #[.int .i64 t125, .int .i64 t126, .int .i64 t127] 25 (0, 0))) ∧ Aside0 (wc.heap[gb135]? = some (.cells #[.int .i64 t128, .int .i64 t129, .int .i64 t130, .int .i64 t131] 36 (0, 0))) ∧ Aside0 (Below w.heap.size w wc))
       case first =>
        have H := HC38.out
        clear HC38
        by_cases c58 : (t136 != t138) = true
        rotate_left
        ·rw [if_neg c58] at H
         have c58b0 : (t136 != t138) = false := by simpa using c58
         (try (have c58b1 : decide (t136 = t138) = true := by simpa using c58))
         (try (have c58b2 : (t136 == t138) = true := by simpa using c58))
         clear c58
         (first | rw [c58b0] | (simp only [i64_w, i32_w]; rw [c58b0]) | skip)
         as_aux_lemma =>
          have H' := Aside0.mk H
          clear H
          go_wp2
          go_meet
          case rel => exact ⟨_, ((t137 != t139)), (by first | rfl | (simp; done) | (simp [*]; done)), H', ⟨by have := HJ6.out; have := HJ22.out; first | omega | exact Nat.le_refl _⟩, ⟨by exact Ho.RS <| HO124.out⟩, ⟨by exact bS BK106.out⟩, ⟨by exact bS BK133.out⟩, ⟨by exact bS BK134.out⟩, ⟨by exact bS BK135.out⟩, ⟨by exact eS HB.out⟩⟩
        rw [if_pos c58] at H
        have c58b0 : (t136 != t138) = true := c58
        (try (have c58b1 : decide (t136 = t138) = false := by simpa using c58))
        (try (have c58b2 : (t136 == t138) = false := by simpa using c58))
        (try (have c58b3 : ¬ (t136 = t138) := by simpa using c58))
        clear c58
        (first | rw [c58b0] | (simp only [i64_w, i32_w]; rw [c58b0]) | skip)
        as_aux_lemma =>
         have H' := Aside0.mk H
         clear H
         go_wp2
         go_meet
         case rel => exact ⟨_, (true), (by first | rfl | (simp; done) | (simp [*]; done)), H', ⟨by have := HJ6.out; have := HJ22.out; first | omega | exact Nat.le_refl _⟩, ⟨by exact Ho.RS <| HO124.out⟩, ⟨by exact bS BK106.out⟩, ⟨by exact bS BK133.out⟩, ⟨by exact bS BK134.out⟩, ⟨by exact bS BK135.out⟩, ⟨by exact eS HB.out⟩⟩
       case rest =>
        clear HC38
        try clear c1
        try clear c2
        try clear p2
        try clear c3
        try clear c4
        try clear c5
        try clear c14
        try clear c14b0
        try clear c14b1
        try clear c15
        try clear c15b0
        try clear c15b1
        try clear c16
        try clear c16b0
        try clear c16b1
        try clear c16b2
        try clear c20
        try clear c25
        try clear c26
        try clear c27
        try clear c28
        try clear c28b0
        try clear c28b1
        try clear c29
        try clear c29b0
        try clear c29b1
        try clear c30
        try clear c30b0
        try clear c30b1
        try clear c30b2
        try clear c31
        try clear c31b0
        try clear c31b1
        try clear c31b2
        try clear c32
        try clear c33
        try clear c33b0
        try clear c33b1
        try clear c34
        try clear c36
        try clear c37
        try clear c40
        try clear c43
        try clear c44
        try clear c45
        try clear c48
        try clear c49
        try clear c51
        try clear c58
        try clear c58b0
        try clear c58b1
        try clear c58b2
        try clear hcz10_0
        try clear hcz10_1
        try clear hcz10_2
        try clear hcz10_3
        try clear hcz12_0
        try clear hcz12_1
        try clear hcz12_2
        try clear hcz12_3
        try clear hcz18_0
        try clear hcz18_1
        try clear hcz18_2
        try clear hcz18_3
        try clear hcz24_0
        try clear hcz24_1
        try clear hcz24_2
        try clear hcz24_3
        try clear hcz26_0
        try clear hcz26_1
        try clear hcz26_2
        try clear hcz26_3
        try clear hcz46_0
        try clear hcz46_1
        try clear hcz46_2
        try clear hcz50_0
        try clear hcz50_1
        try clear hcz50_2
        try clear hcz52_0
        try clear hcz52_1
        try clear hcz52_2
        try clear hcz52_3
        try clear hcz54_0
        try clear hcz54_1
        try clear hcz54_2
        try clear hcz55_0
        try clear hcz55_1
        try clear hcz55_2
        try clear hcz56_0
        try clear hcz56_1
        try clear hcz56_2
        try clear hcz56_3
        try clear hfz10_0
        try clear hfz10_1
        try clear hfz10_2
        try clear hfz10_3
        try clear hfz12_0
        try clear hfz12_1
        try clear hfz12_2
        try clear hfz12_3
        try clear hfz18_0
        try clear hfz18_1
        try clear hfz18_2
        try clear hfz18_3
        try clear hfz24_0
        try clear hfz24_1
        try clear hfz24_2
        try clear hfz24_3
        try clear hfz26_0
        try clear hfz26_1
        try clear hfz26_2
        try clear hfz26_3
        try clear hfz46_0
        try clear hfz46_1
        try clear hfz46_2
        try clear hfz50_0
        try clear hfz50_1
        try clear hfz50_2
        try clear hfz52_0
        try clear hfz52_1
        try clear hfz52_2
        try clear hfz52_3
        try clear hfz54_0
        try clear hfz54_1
        try clear hfz54_2
        try clear hfz55_0
        try clear hfz55_1
        try clear hfz55_2
        try clear hfz56_0
        try clear hfz56_1
        try clear hfz56_2
        try clear hfz56_3
        try clear p2
        as_aux_lemma =>
         obtain ⟨kq, x147_37, rfl, HA, HJ37, HO_134002, BK106, BK133, BK134, BK135, HB⟩ := hcut
         cases kq with
         | zero => exact absurd HA.out (by simp [laws_FnSkews.j2])
         | succ kj37 =>
          have H := HA.out
          clear HA
          simp only [laws_FnSkews.j2] at H
          by_cases c59 : x147_37 = true
          ·subst c59
           have H1 : (some false) = some r := by rw [if_pos rfl] at H; exact H
           clear H
           have H := H1
           clear H1
           as_aux_lemma =>
            exact absurd ((Option.some.inj H).trans HT.out) (by decide)
          replace c59 := Bool.eq_false_iff.mpr c59
          subst c59
          have H1 : (if t136 = true then (laws_FnSkews.j3 kj37 l0 t132 t136 (decide (t132 < 100)) t120 t121 t122 t125 t126 t127 t128 t129 t130 t131) else (laws_FnSkews.j3 kj37 l0 t132 t136 false t120 t121 t122 t125 t126 t127 t128 t129 t130 t131)) = some r := by rw [if_neg (show ¬ (false = true) by decide)] at H; exact H
          clear H
          have H := H1
          clear H1
          have HC60 := Aside0.mk H
          clear H
          go_upto_region 17 with (fail)
          go_cut [152] (fun v152 wc => ∃ (kq : Nat) (x152_59 : Bool), v152 = .bool x152_59 ∧ Aside0 (laws_FnSkews.j3 kq l0 t132 t136 x152_59 t120 t121 t122 t125 t126 t127 t128 t129 t130 t131 = some r) ∧ Aside0 (kq ≤ kj37) ∧ Aside0 (Kd.R (Kd.int .i64) 3 wc w.heap.size (fun _ => True) (.slice Ao47 t122.length co47) t122) ∧ Aside0 (wc.heap[gb106]? = some (.cells #[.int .i64 t102, .int .i64 t103, .int .i64 t104, .int .i64 t105] 36 (0, 0))) ∧ Aside0 (wc.heap[gb133]? = some (.cells #[.int .i64 t120, .int .i64 t121, (.slice Ao47 t122.length co47)] 46 (0, 0))) ∧ Aside0 (wc.heap[gb134]? = some (.cells #[.int .i64 t125, .int .i64 t126, .int .i64 t127] 25 (0, 0))) ∧ Aside0 (wc.heap[gb135]? = some (.cells #[.int .i64 t128, .int .i64 t129, .int .i64 t130, .int .i64 t131] 36 (0, 0))) ∧ Aside0 (Below w.heap.size w wc))
          case first =>
           have H := HC60.out
           clear HC60
           by_cases c61 : t136 = true
           ·subst c61
            have H1 : (laws_FnSkews.j3 kj37 l0 t132 true (decide (t132 < 100)) t120 t121 t122 t125 t126 t127 t128 t129 t130 t131) = some r := by rw [if_pos rfl] at H; exact H
            clear H
            have H := H1
            clear H1
            as_aux_lemma =>
             have H' := Aside0.mk H
             clear H
             go_wp2
             go_meet
             case rel => exact ⟨_, (decide (t132 < 100)), (by first | rfl | (simp; done) | (simp [*]; done)), H', ⟨by have := HJ6.out; have := HJ22.out; have := HJ37.out; first | omega | exact Nat.le_refl _⟩, ⟨by exact Ho.RS <| HO_134002.out⟩, ⟨by exact bS BK106.out⟩, ⟨by exact bS BK133.out⟩, ⟨by exact bS BK134.out⟩, ⟨by exact bS BK135.out⟩, ⟨by exact eS HB.out⟩⟩
           replace c61 := Bool.eq_false_iff.mpr c61
           subst c61
           have H1 : (laws_FnSkews.j3 kj37 l0 t132 false false t120 t121 t122 t125 t126 t127 t128 t129 t130 t131) = some r := by rw [if_neg (show ¬ (false = true) by decide)] at H; exact H
           clear H
           have H := H1
           clear H1
           as_aux_lemma =>
            have H' := Aside0.mk H
            clear H
            go_wp2
            go_meet
            case rel => exact ⟨_, (false), (by first | rfl | (simp; done) | (simp [*]; done)), H', ⟨by have := HJ6.out; have := HJ22.out; have := HJ37.out; first | omega | exact Nat.le_refl _⟩, ⟨by exact Ho.RS <| HO_134002.out⟩, ⟨by exact bS BK106.out⟩, ⟨by exact bS BK133.out⟩, ⟨by exact bS BK134.out⟩, ⟨by exact bS BK135.out⟩, ⟨by exact eS HB.out⟩⟩
          case rest =>
           clear HC60
           try clear c1
           try clear c2
           try clear p2
           try clear c3
           try clear c4
           try clear c5
           try clear c6
           try clear c14
           try clear c14b0
           try clear c14b1
           try clear c15
           try clear c15b0
           try clear c15b1
           try clear c16
           try clear c16b0
           try clear c16b1
           try clear c16b2
           try clear c20
           try clear c25
           try clear c26
           try clear c27
           try clear c28
           try clear c28b0
           try clear c28b1
           try clear c29
           try clear c29b0
           try clear c29b1
           try clear c30
           try clear c30b0
           try clear c30b1
           try clear c30b2
           try clear c31
           try clear c31b0
           try clear c31b1
           try clear c31b2
           try clear c32
           try clear c33
           try clear c33b0
           try clear c33b1
           try clear c34
           try clear c36
           try clear c37
           try clear c40
           try clear c43
           try clear c44
           try clear c45
           try clear c48
           try clear c49
           try clear c51
           try clear c58
           try clear c58b0
           try clear c58b1
           try clear c58b2
           try clear c59
           try clear c61
           try clear hcz10_0
           try clear hcz10_1
           try clear hcz10_2
           try clear hcz10_3
           try clear hcz12_0
           try clear hcz12_1
           try clear hcz12_2
           try clear hcz12_3
           try clear hcz18_0
           try clear hcz18_1
           try clear hcz18_2
           try clear hcz18_3
           try clear hcz24_0
           try clear hcz24_1
           try clear hcz24_2
           try clear hcz24_3
           try clear hcz26_0
           try clear hcz26_1
           try clear hcz26_2
           try clear hcz26_3
           try clear hcz46_0
           try clear hcz46_1
           try clear hcz46_2
           try clear hcz50_0
           try clear hcz50_1
           try clear hcz50_2
           try clear hcz52_0
           try clear hcz52_1
           try clear hcz52_2
           try clear hcz52_3
           try clear hcz54_0
           try clear hcz54_1
           try clear hcz54_2
           try clear hcz55_0
           try clear hcz55_1
           try clear hcz55_2
           try clear hcz56_0
           try clear hcz56_1
           try clear hcz56_2
           try clear hcz56_3
           try clear hfz10_0
           try clear hfz10_1
           try clear hfz10_2
           try clear hfz10_3
           try clear hfz12_0
           try clear hfz12_1
           try clear hfz12_2
           try clear hfz12_3
           try clear hfz18_0
           try clear hfz18_1
           try clear hfz18_2
           try clear hfz18_3
           try clear hfz24_0
           try clear hfz24_1
           try clear hfz24_2
           try clear hfz24_3
           try clear hfz26_0
           try clear hfz26_1
           try clear hfz26_2
           try clear hfz26_3
           try clear hfz46_0
           try clear hfz46_1
           try clear hfz46_2
           try clear hfz50_0
           try clear hfz50_1
           try clear hfz50_2
           try clear hfz52_0
           try clear hfz52_1
           try clear hfz52_2
           try clear hfz52_3
           try clear hfz54_0
           try clear hfz54_1
           try clear hfz54_2
           try clear hfz55_0
           try clear hfz55_1
           try clear hfz55_2
           try clear hfz56_0
           try clear hfz56_1
           try clear hfz56_2
           try clear hfz56_3
           try clear p2
           as_aux_lemma =>
            obtain ⟨kq, x152_59, rfl, HA, HJ59, HO_134002, BK106, BK133, BK134, BK135, HB⟩ := hcut
            cases kq with
            | zero => exact absurd HA.out (by simp [laws_FnSkews.j3])
            | succ kj59 =>
             have H := HA.out
             clear HA
             simp only [laws_FnSkews.j3] at H
             have HC62 := Aside0.mk H
             clear H
             go_upto_if 152 with (fail)
             go_cut [] (fun wc => ∃ (kq : Nat), Aside0 (laws_FnSkews.j4 kq l0 t132 t136 t120 t121 t122 t125 t126 t127 t128 t129 t130 t131 = some r) ∧ Aside0 (kq ≤ kj59) ∧ Aside0 (Kd.R (Kd.int .i64) 3 wc w.heap.size (fun _ => True) (.slice Ao47 t122.length co47) t122) ∧ Aside0 (wc.heap[gb106]? = some (.cells #[.int .i64 t102, .int .i64 t103, .int .i64 t104, .int .i64 t105] 36 (0, 0))) ∧ Aside0 (wc.heap[gb133]? = some (.cells #[.int .i64 t120, .int .i64 t121, (.slice Ao47 t122.length co47)] 46 (0, 0))) ∧ Aside0 (wc.heap[gb134]? = some (.cells #[.int .i64 t125, .int .i64 t126, .int .i64 t127] 25 (0, 0))) ∧ Aside0 (wc.heap[gb135]? = some (.cells #[.int .i64 t128, .int .i64 t129, .int .i64 t130, .int .i64 t131] 36 (0, 0))) ∧ Aside0 (Below w.heap.size w wc))
             case first =>
              have H := HC62.out
              clear HC62
              by_cases c63 : x152_59 = true
              rotate_left
              ·replace c63 := Bool.eq_false_iff.mpr c63
               subst c63
               have H1 : (laws_FnSkews.j4 kj59 l0 t132 t136 t120 t121 t122 t125 t126 t127 t128 t129 t130 t131) = some r := by rw [if_neg (show ¬ (false = true) by decide)] at H; exact H
               clear H
               have H := H1
               clear H1
               as_aux_lemma =>
                have H' := Aside0.mk H
                clear H
                go_wp2
                go_meet
                case rel => exact ⟨_, H', ⟨by have := HJ6.out; have := HJ22.out; have := HJ37.out; have := HJ59.out; first | omega | exact Nat.le_refl _⟩, ⟨by exact Ho.RS <| HO_134002.out⟩, ⟨by exact bS BK106.out⟩, ⟨by exact bS BK133.out⟩, ⟨by exact bS BK134.out⟩, ⟨by exact bS BK135.out⟩, ⟨by exact eS HB.out⟩⟩
              subst c63
              have H1 : ((impl_WithinSize.f kj59 t120 t121 t122 t125 t126 t127 t128 t129 t130 t131 (wrap64 (t132 + 1))).bind fun bt140 => (if bt140.2 = true then (if bt140.1 = true then (laws_FnSkews.j4 kj59 l0 t132 t136 t120 t121 t122 t125 t126 t127 t128 t129 t130 t131) else (some false)) else (some false))) = some r := by rw [if_pos rfl] at H; exact H
              clear H
              have H := H1
              clear H1
              replace H := Option.bind_eq_some_iff.mp H
              obtain ⟨⟨t140, t141⟩, A640, H⟩ := H
              (try dsimp only at H)
              have A64 := Aside0.mk A640
              clear A640
              by_cases c65 : t141 = true
              rotate_left
              ·replace c65 := Bool.eq_false_iff.mpr c65
               subst c65
               have H1 : (some false) = some r := by rw [if_neg (show ¬ (false = true) by decide)] at H; exact H
               clear H
               have H := H1
               clear H1
               as_aux_lemma =>
                exact absurd ((Option.some.inj H).trans HT.out) (by decide)
              subst c65
              have H1 : (if t140 = true then (laws_FnSkews.j4 kj59 l0 t132 t136 t120 t121 t122 t125 t126 t127 t128 t129 t130 t131) else (some false)) = some r := by rw [if_pos rfl] at H; exact H
              clear H
              have H := H1
              clear H1
              by_cases c66 : t140 = true
              rotate_left
              ·replace c66 := Bool.eq_false_iff.mpr c66
               subst c66
               have H1 : (some false) = some r := by rw [if_neg (show ¬ (false = true) by decide)] at H; exact H
               clear H
               have H := H1
               clear H1
               as_aux_lemma =>
                exact absurd ((Option.some.inj H).trans HT.out) (by decide)
              subst c66
              have H1 : (laws_FnSkews.j4 kj59 l0 t132 t136 t120 t121 t122 t125 t126 t127 t128 t129 t130 t131) = some r := by rw [if_pos rfl] at H; exact H
              clear H
              have H := H1
              clear H1
              as_aux_lemma =>
               have H' := Aside0.mk H
               clear H
               have hnb67 := NB133_106.out
               have hnc67 := NB106_133.out
               have hnb68 := NB133_134.out
               have hnc68 := NB134_133.out
               have hnb69 := NB133_135.out
               have hnc69 := NB135_133.out
               obtain ⟨hcz70_0, hcz70_1, hcz70_2, hfz70_0, hfz70_1, hfz70_2⟩ := Sq.c3 BK133.out
               have hnb71 := NB134_106.out
               have hnc71 := NB106_134.out
               have hnb72 := NB134_135.out
               have hnc72 := NB135_134.out
               obtain ⟨hcz73_0, hcz73_1, hcz73_2, hfz73_0, hfz73_1, hfz73_2⟩ := Sq.c3 BK134.out
               have hnb74 := NB135_106.out
               have hnc74 := NB106_135.out
               obtain ⟨hcz75_0, hcz75_1, hcz75_2, hcz75_3, hfz75_0, hfz75_1, hfz75_2, hfz75_3⟩ := Sq.c4 BK135.out
               go_wp2_with (first | ((with_reducible refine gate_callee (f := 37) rfl ?_); refine goesL_ (some 159) rfl rfl Try.func37 (by kernel_rfl) rfl #[.agg #[.int .i64 t120, .int .i64 t121, .slice Ao47 t122.length co47], .agg #[.int .i64 t125, .int .i64 t126, .int .i64 t127], .agg #[.int .i64 t128, .int .i64 t129, .int .i64 t130, .int .i64 t131], .int .i64 (wrap64 (t132 + 1))] rfl (by (try simp only [List.map_toArray, List.map_cons, List.map_nil]); first | done | rfl | (simp only [List.length_drop, List.length_take]; rfl)) ?_; (with_reducible refine (impl_WithinSize.calls kj59 t120 t121 _ _ t122 t125 t126 t127 t128 t129 t130 t131 (wrap64 (t132 + 1)) true true _ ?side1 ?side2 A64.out).mono ?_); (case side1 => repeat (first | exact (Kd.R_reads' HO_134002.out).2.2 | (with_reducible refine Kd.C_alloc ?_ _) | (with_reducible refine Kd.C_drewN ?_ _) | (with_reducible refine Kd.C_drew ?_))); (case side2 => exact (Kd.R_reads' HO_134002.out).2.1); rintro e w76 ⟨rfl, hb⟩; refine ⟨_, rfl, ?_⟩; have n0_ := Aside0.mk (Kd.R_below (by exact Ho.RS <| HO_134002.out) hb); have n1_ := Aside0.mk (blk_below (bS BK106.out) hb); have n2_ := Aside0.mk (blk_below (bS BK133.out) hb); have n3_ := Aside0.mk (blk_below (bS BK134.out) hb); have n4_ := Aside0.mk (blk_below (bS BK135.out) hb); have n5_ := Aside0.mk (below_step (by exact eS HB.out) hb); clear HO_134002; clear BK106; clear BK133; clear BK134; clear BK135; clear HB; have HO_134002 := n0_; have BK106 := n1_; have BK133 := n2_; have BK134 := n3_; have BK135 := n4_; have HB := n5_; clear n0_ n1_ n2_ n3_ n4_ n5_; (try clear hb); (try clear hb2); (try clear hk); (try clear hi)))
               go_meet
               case rel => exact ⟨_, H', ⟨by have := HJ6.out; have := HJ22.out; have := HJ37.out; have := HJ59.out; first | omega | exact Nat.le_refl _⟩, ⟨by exact Ho.RS <| HO_134002.out⟩, ⟨by exact bS BK106.out⟩, ⟨by exact bS BK133.out⟩, ⟨by exact bS BK134.out⟩, ⟨by exact bS BK135.out⟩, ⟨by exact eS HB.out⟩⟩
             case rest =>
              clear HC62
              try clear c1
              try clear c2
              try clear p2
              try clear c3
              try clear c4
              try clear c5
              try clear c6
              try clear p6
              try clear c7
              try clear c14
              try clear c14b0
              try clear c14b1
              try clear c15
              try clear c15b0
              try clear c15b1
              try clear c16
              try clear c16b0
              try clear c16b1
              try clear c16b2
              try clear c20
              try clear c25
              try clear c26
              try clear c27
              try clear c28
              try clear c28b0
              try clear c28b1
              try clear c29
              try clear c29b0
              try clear c29b1
              try clear c30
              try clear c30b0
              try clear c30b1
              try clear c30b2
              try clear c31
              try clear c31b0
              try clear c31b1
              try clear c31b2
              try clear c32
              try clear c33
              try clear c33b0
              try clear c33b1
              try clear c34
              try clear c36
              try clear c37
              try clear c40
              try clear c43
              try clear c44
              try clear c45
              try clear c48
              try clear c49
              try clear c51
              try clear c58
              try clear c58b0
              try clear c58b1
              try clear c58b2
              try clear c59
              try clear c61
              try clear c63
              try clear p64
              try clear c65
              try clear c66
              try clear c67
              try clear c68
              try clear c69
              try clear c71
              try clear c72
              try clear c74
              try clear hcz10_0
              try clear hcz10_1
              try clear hcz10_2
              try clear hcz10_3
              try clear hcz12_0
              try clear hcz12_1
              try clear hcz12_2
              try clear hcz12_3
              try clear hcz18_0
              try clear hcz18_1
              try clear hcz18_2
              try clear hcz18_3
              try clear hcz24_0
              try clear hcz24_1
              try clear hcz24_2
              try clear hcz24_3
              try clear hcz26_0
              try clear hcz26_1
              try clear hcz26_2
              try clear hcz26_3
              try clear hcz46_0
              try clear hcz46_1
              try clear hcz46_2
              try clear hcz50_0
              try clear hcz50_1
              try clear hcz50_2
              try clear hcz52_0
              try clear hcz52_1
              try clear hcz52_2
              try clear hcz52_3
              try clear hcz54_0
              try clear hcz54_1
              try clear hcz54_2
              try clear hcz55_0
              try clear hcz55_1
              try clear hcz55_2
              try clear hcz56_0
              try clear hcz56_1
              try clear hcz56_2
              try clear hcz56_3
              try clear hcz70_0
              try clear hcz70_1
              try clear hcz70_2
              try clear hcz73_0
              try clear hcz73_1
              try clear hcz73_2
              try clear hcz75_0
              try clear hcz75_1
              try clear hcz75_2
              try clear hcz75_3
              try clear hfz10_0
              try clear hfz10_1
              try clear hfz10_2
              try clear hfz10_3
              try clear hfz12_0
              try clear hfz12_1
              try clear hfz12_2
              try clear hfz12_3
              try clear hfz18_0
              try clear hfz18_1
              try clear hfz18_2
              try clear hfz18_3
              try clear hfz24_0
              try clear hfz24_1
              try clear hfz24_2
              try clear hfz24_3
              try clear hfz26_0
              try clear hfz26_1
              try clear hfz26_2
              try clear hfz26_3
              try clear hfz46_0
              try clear hfz46_1
              try clear hfz46_2
              try clear hfz50_0
              try clear hfz50_1
              try clear hfz50_2
              try clear hfz52_0
              try clear hfz52_1
              try clear hfz52_2
              try clear hfz52_3
              try clear hfz54_0
              try clear hfz54_1
              try clear hfz54_2
              try clear hfz55_0
              try clear hfz55_1
              try clear hfz55_2
              try clear hfz56_0
              try clear hfz56_1
              try clear hfz56_2
              try clear hfz56_3
              try clear hfz70_0
              try clear hfz70_1
              try clear hfz70_2
              try clear hfz73_0
              try clear hfz73_1
              try clear hfz73_2
              try clear hfz75_0
              try clear hfz75_1
              try clear hfz75_2
              try clear hfz75_3
              try clear p2
              as_aux_lemma =>
               obtain ⟨kq, HA, HJ61, HO_134002, BK106, BK133, BK134, BK135, HB⟩ := hcut
               cases kq with
               | zero => exact absurd HA.out (by simp [laws_FnSkews.j4])
               | succ kj61 =>
                have H := HA.out
                clear HA
                simp only [laws_FnSkews.j4] at H
                have HC77 := Aside0.mk H
                clear H
                go_upto_region 21 with (fail)
                go_cut [172] (fun v172 wc => ∃ (kq : Nat) (x172_76 : Bool), v172 = .bool x172_76 ∧ Aside0 (laws_FnSkews.j5 kq l0 x172_76 t120 t121 t122 t125 t126 t127 t128 t129 t130 t131 = some r) ∧ Aside0 (kq ≤ kj61) ∧ Aside0 (Kd.R (Kd.int .i64) 3 wc w.heap.size (fun _ => True) (.slice Ao47 t122.length co47) t122) ∧ Aside0 (wc.heap[gb106]? = some (.cells #[.int .i64 t102, .int .i64 t103, .int .i64 t104, .int .i64 t105] 36 (0, 0))) ∧ Aside0 (wc.heap[gb133]? = some (.cells #[.int .i64 t120, .int .i64 t121, (.slice Ao47 t122.length co47)] 46 (0, 0))) ∧ Aside0 (wc.heap[gb134]? = some (.cells #[.int .i64 t125, .int .i64 t126, .int .i64 t127] 25 (0, 0))) ∧ Aside0 (wc.heap[gb135]? = some (.cells #[.int .i64 t128, .int .i64 t129, .int .i64 t130, .int .i64 t131] 36 (0, 0))) ∧ Aside0 (Below w.heap.size w wc))
                case first =>
                 have H := HC77.out
                 clear HC77
                 by_cases c78 : t136 = true
                 ·subst c78
                  have H1 : (laws_FnSkews.j5 kj61 l0 (t132 == 0) t120 t121 t122 t125 t126 t127 t128 t129 t130 t131) = some r := by rw [if_pos rfl] at H; exact H
                  clear H
                  have H := H1
                  clear H1
                  as_aux_lemma =>
                   have H' := Aside0.mk H
                   clear H
                   go_wp2
                   go_meet
                   case rel => exact ⟨_, ((t132 == 0)), (by first | rfl | (simp; done) | (simp [*]; done)), H', ⟨by have := HJ6.out; have := HJ22.out; have := HJ37.out; have := HJ59.out; have := HJ61.out; first | omega | exact Nat.le_refl _⟩, ⟨by exact Ho.RS <| HO_134002.out⟩, ⟨by exact bS BK106.out⟩, ⟨by exact bS BK133.out⟩, ⟨by exact bS BK134.out⟩, ⟨by exact bS BK135.out⟩, ⟨by exact eS HB.out⟩⟩
                 replace c78 := Bool.eq_false_iff.mpr c78
                 subst c78
                 have H1 : (laws_FnSkews.j5 kj61 l0 false t120 t121 t122 t125 t126 t127 t128 t129 t130 t131) = some r := by rw [if_neg (show ¬ (false = true) by decide)] at H; exact H
                 clear H
                 have H := H1
                 clear H1
                 as_aux_lemma =>
                  have H' := Aside0.mk H
                  clear H
                  go_wp2
                  go_meet
                  case rel => exact ⟨_, (false), (by first | rfl | (simp; done) | (simp [*]; done)), H', ⟨by have := HJ6.out; have := HJ22.out; have := HJ37.out; have := HJ59.out; have := HJ61.out; first | omega | exact Nat.le_refl _⟩, ⟨by exact Ho.RS <| HO_134002.out⟩, ⟨by exact bS BK106.out⟩, ⟨by exact bS BK133.out⟩, ⟨by exact bS BK134.out⟩, ⟨by exact bS BK135.out⟩, ⟨by exact eS HB.out⟩⟩
                case rest =>
                 clear HC77
                 try clear c1
                 try clear c2
                 try clear p2
                 try clear c3
                 try clear c4
                 try clear c5
                 try clear c6
                 try clear p6
                 try clear c7
                 try clear c14
                 try clear c14b0
                 try clear c14b1
                 try clear c15
                 try clear c15b0
                 try clear c15b1
                 try clear c16
                 try clear c16b0
                 try clear c16b1
                 try clear c16b2
                 try clear c20
                 try clear c25
                 try clear c26
                 try clear c27
                 try clear c28
                 try clear c28b0
                 try clear c28b1
                 try clear c29
                 try clear c29b0
                 try clear c29b1
                 try clear c30
                 try clear c30b0
                 try clear c30b1
                 try clear c30b2
                 try clear c31
                 try clear c31b0
                 try clear c31b1
                 try clear c31b2
                 try clear c32
                 try clear c33
                 try clear c33b0
                 try clear c33b1
                 try clear c34
                 try clear c36
                 try clear c37
                 try clear c40
                 try clear c43
                 try clear c44
                 try clear c45
                 try clear c48
                 try clear c49
                 try clear c51
                 try clear c58
                 try clear c58b0
                 try clear c58b1
                 try clear c58b2
                 try clear c59
                 try clear c61
                 try clear c63
                 try clear p64
                 try clear c65
                 try clear c66
                 try clear c67
                 try clear c68
                 try clear c69
                 try clear c71
                 try clear c72
                 try clear c74
                 try clear c78
                 try clear hcz10_0
                 try clear hcz10_1
                 try clear hcz10_2
                 try clear hcz10_3
                 try clear hcz12_0
                 try clear hcz12_1
                 try clear hcz12_2
                 try clear hcz12_3
                 try clear hcz18_0
                 try clear hcz18_1
                 try clear hcz18_2
                 try clear hcz18_3
                 try clear hcz24_0
                 try clear hcz24_1
                 try clear hcz24_2
                 try clear hcz24_3
                 try clear hcz26_0
                 try clear hcz26_1
                 try clear hcz26_2
                 try clear hcz26_3
                 try clear hcz46_0
                 try clear hcz46_1
                 try clear hcz46_2
                 try clear hcz50_0
                 try clear hcz50_1
                 try clear hcz50_2
                 try clear hcz52_0
                 try clear hcz52_1
                 try clear hcz52_2
                 try clear hcz52_3
                 try clear hcz54_0
                 try clear hcz54_1
                 try clear hcz54_2
                 try clear hcz55_0
                 try clear hcz55_1
                 try clear hcz55_2
                 try clear hcz56_0
                 try clear hcz56_1
                 try clear hcz56_2
                 try clear hcz56_3
                 try clear hcz70_0
                 try clear hcz70_1
                 try clear hcz70_2
                 try clear hcz73_0
                 try clear hcz73_1
                 try clear hcz73_2
                 try clear hcz75_0
                 try clear hcz75_1
                 try clear hcz75_2
                 try clear hcz75_3
                 try clear hfz10_0
                 try clear hfz10_1
                 try clear hfz10_2
                 try clear hfz10_3
                 try clear hfz12_0
                 try clear hfz12_1
                 try clear hfz12_2
                 try clear hfz12_3
                 try clear hfz18_0
                 try clear hfz18_1
                 try clear hfz18_2
                 try clear hfz18_3
                 try clear hfz24_0
                 try clear hfz24_1
                 try clear hfz24_2
                 try clear hfz24_3
                 try clear hfz26_0
                 try clear hfz26_1
                 try clear hfz26_2
                 try clear hfz26_3
                 try clear hfz46_0
                 try clear hfz46_1
                 try clear hfz46_2
                 try clear hfz50_0
                 try clear hfz50_1
                 try clear hfz50_2
                 try clear hfz52_0
                 try clear hfz52_1
                 try clear hfz52_2
                 try clear hfz52_3
                 try clear hfz54_0
                 try clear hfz54_1
                 try clear hfz54_2
                 try clear hfz55_0
                 try clear hfz55_1
                 try clear hfz55_2
                 try clear hfz56_0
                 try clear hfz56_1
                 try clear hfz56_2
                 try clear hfz56_3
                 try clear hfz70_0
                 try clear hfz70_1
                 try clear hfz70_2
                 try clear hfz73_0
                 try clear hfz73_1
                 try clear hfz73_2
                 try clear hfz75_0
                 try clear hfz75_1
                 try clear hfz75_2
                 try clear hfz75_3
                 try clear p2
                 try clear p6
                 try clear p64
                 as_aux_lemma =>
                  obtain ⟨kq, x172_76, rfl, HA, HJ76, HO_134002, BK106, BK133, BK134, BK135, HB⟩ := hcut
                  cases kq with
                  | zero => exact absurd HA.out (by simp [laws_FnSkews.j5])
                  | succ kj76 =>
                   have H := HA.out
                   clear HA
                   simp only [laws_FnSkews.j5] at H
                   by_cases c79 : x172_76 = true
                   rotate_left
                   ·replace c79 := Bool.eq_false_iff.mpr c79
                    subst c79
                    have H1 : ((spec_DrawOffSize.f kj76 l0).bind fun bt166 => ((impl_OffSize.f kj76 bt166.1 bt166.2.1 bt166.2.2.1 bt166.2.2.2.1 bt166.2.2.2.2.1 bt166.2.2.2.2.2.1 bt166.2.2.2.2.2.2.1 bt166.2.2.2.2.2.2.2.1 bt166.2.2.2.2.2.2.2.2.1 bt166.2.2.2.2.2.2.2.2.2).bind fun bt181 => ((spec_OffSize.f kj76 bt166.1 bt166.2.1 bt166.2.2.1 bt166.2.2.2.1 bt166.2.2.2.2.1 bt166.2.2.2.2.2.1 bt166.2.2.2.2.2.2.1 bt166.2.2.2.2.2.2.2.1 bt166.2.2.2.2.2.2.2.2.1 bt166.2.2.2.2.2.2.2.2.2).bind fun bt184 => (if bt181.1 = bt184.1 then (if bt181.2.1 = bt184.2.1 then (some (bt181.2.2 == bt184.2.2)) else (some false)) else (some false))))) = some r := by rw [if_neg (show ¬ (false = true) by decide)] at H; exact H
                    clear H
                    have H := H1
                    clear H1
                    replace H := Option.bind_eq_some_iff.mp H
                    obtain ⟨⟨t166, t167, t168, t171, t172, t173, t174, t175, t176, t177⟩, A1280, H⟩ := H
                    (try dsimp only at H)
                    have A128 := Aside0.mk A1280
                    clear A1280
                    replace H := Option.bind_eq_some_iff.mp H
                    obtain ⟨⟨t181, t182, t183⟩, A1290, H⟩ := H
                    (try dsimp only at H)
                    have A129 := Aside0.mk A1290
                    clear A1290
                    replace H := Option.bind_eq_some_iff.mp H
                    obtain ⟨⟨t184, t185, t186⟩, A1300, H⟩ := H
                    (try dsimp only at H)
                    have A130 := Aside0.mk A1300
                    clear A1300
                    by_cases c131 : t181 = t184
                    rotate_left
                    ·rw [if_neg c131] at H
                     have c131b0 : (t181 == t184) = false := beq_eq_false_iff_ne.mpr c131
                     have c131b1 : (t181 != t184) = true := bne_iff_ne.mpr c131
                     as_aux_lemma =>
                      exact absurd ((Option.some.inj H).trans HT.out) (by decide)
                    rw [if_pos c131] at H
                    have c131b0 : (t181 == t184) = true := beq_iff_eq.mpr c131
                    have c131b1 : (t181 != t184) = false := bne_eq_false_iff_eq.mpr c131
                    clear c131
                    by_cases c132 : t182 = t185
                    rotate_left
                    ·rw [if_neg c132] at H
                     have c132b0 : (t182 == t185) = false := beq_eq_false_iff_ne.mpr c132
                     have c132b1 : (t182 != t185) = true := bne_iff_ne.mpr c132
                     as_aux_lemma =>
                      exact absurd ((Option.some.inj H).trans HT.out) (by decide)
                    rw [if_pos c132] at H
                    have c132b0 : (t182 == t185) = true := beq_iff_eq.mpr c132
                    have c132b1 : (t182 != t185) = false := bne_eq_false_iff_eq.mpr c132
                    clear c132
                    as_aux_lemma =>
                     obtain rfl := Option.some.inj H
                     go_wp2_with (first | ((with_reducible refine gate_callee (f := 46) rfl ?_); refine goesL_ (some 193) rfl rfl Try.func46 (by kernel_rfl) rfl #[.slice A0 l0.length c0] rfl (by (try simp only [List.map_toArray, List.map_cons, List.map_nil]); first | done | rfl | (simp only [List.length_drop, List.length_take]; rfl)) ?_; (with_reducible refine (spec_DrawOffSize.calls kj76 _ _ l0 t166 t167 t168 t171 t172 t173 t174 t175 t176 t177 _ ?side1 ?side2 A128.out).mono ?_); (case side1 => repeat (first | exact (Kd.C_below HR0.out HB.out) | (with_reducible refine Kd.C_alloc ?_ _) | (with_reducible refine Kd.C_drewN ?_ _) | (with_reducible refine Kd.C_drew ?_))); (case side2 => exact HC0.out); rintro e w133 ⟨v169, rfl, ho0, hb⟩; refine ⟨_, rfl, ?_⟩; have n0_ := Aside0.mk (Kd.R_elder' (by exact Ho.RS <| HO_134002.out) (Kd.R_base ho0) hb); have n1_ := Aside0.mk (Kd.R_lower (Kd.R_new' ho0 (Kd.R_lt (by exact Ho.RS <| HO_134002.out))) (below_size (by exact eS HB.out))); have n2_ := Aside0.mk (blk_below (bS BK106.out) hb); have n3_ := Aside0.mk (blk_below (bS BK133.out) hb); have n4_ := Aside0.mk (blk_below (bS BK134.out) hb); have n5_ := Aside0.mk (blk_below (bS BK135.out) hb); have n6_ := Aside0.mk (below_step (by exact eS HB.out) hb); clear HO_134002; clear BK106; clear BK133; clear BK134; clear BK135; clear HB; have HO_134002 := n0_; have HO170 := n1_; have BK106 := n2_; have BK133 := n3_; have BK134 := n4_; have BK135 := n5_; have HB := n6_; clear n0_ n1_ n2_ n3_ n4_ n5_ n6_; (try clear hb); (try clear hb2); (try clear hk); (try clear hi); (try clear ho0)) | ((with_reducible refine gate_dst (N := 29) rfl ?_); refine box_event ?hg (N := 29) ?hd (cs := #[.int .i64 0, .int .i64 0, .slice none 0 0]) (t := 46) ?hr ?_; (case hd => rfl); (case hg => rfl); (case hr => first | (go_simp; done) | (go_simp; rfl)); intro gb178 hg w134 hbox hb; have n0_ := Aside0.mk (Kd.R_below (by exact Ho.RS <| HO_134002.out) hb); have n1_ := Aside0.mk (Kd.R_below (by exact Ho.RS <| HO170.out) hb); have n2_ := Aside0.mk (blk_below (bS BK106.out) hb); have n3_ := Aside0.mk (blk_below (bS BK133.out) hb); have n4_ := Aside0.mk (blk_below (bS BK134.out) hb); have n5_ := Aside0.mk (blk_below (bS BK135.out) hb); have n6_ := Aside0.mk (below_step (by exact eS HB.out) hb); have n7_ := Aside0.mk (hbox); have n8_ := Aside0.mk ((by rw [hg]; exact (below_size (by exact eS HB.out)) : w.heap.size ≤ gb178)); have n9_ := Aside0.mk ((by rw [hg]; exact (below_size (by exact eS HB.out)) : w.heap.size ≤ gb178)); have n10_ := Aside0.mk ((by rw [hg]; exact Nat.ne_of_lt (blk_lt (bS BK106.out)) : gb106 ≠ gb178)); have n11_ := Aside0.mk ((by rw [hg]; exact Nat.ne_of_gt (blk_lt (bS BK106.out)) : gb178 ≠ gb106)); have n12_ := Aside0.mk ((by rw [hg]; exact Nat.ne_of_lt (blk_lt (bS BK133.out)) : gb133 ≠ gb178)); have n13_ := Aside0.mk ((by rw [hg]; exact Nat.ne_of_gt (blk_lt (bS BK133.out)) : gb178 ≠ gb133)); have n14_ := Aside0.mk ((by rw [hg]; exact Nat.ne_of_lt (blk_lt (bS BK134.out)) : gb134 ≠ gb178)); have n15_ := Aside0.mk ((by rw [hg]; exact Nat.ne_of_gt (blk_lt (bS BK134.out)) : gb178 ≠ gb134)); have n16_ := Aside0.mk ((by rw [hg]; exact Nat.ne_of_lt (blk_lt (bS BK135.out)) : gb135 ≠ gb178)); have n17_ := Aside0.mk ((by rw [hg]; exact Nat.ne_of_gt (blk_lt (bS BK135.out)) : gb178 ≠ gb135)); clear HO_134002; clear HO170; clear BK106; clear BK133; clear BK134; clear BK135; clear HB; have HO_134002 := n0_; have HO170 := n1_; have BK106 := n2_; have BK133 := n3_; have BK134 := n4_; have BK135 := n5_; have HB := n6_; have BK178 := n7_; have GW178 := n8_; have GE178 := n9_; have NB106_178 := n10_; have NB178_106 := n11_; have NB133_178 := n12_; have NB178_133 := n13_; have NB134_178 := n14_; have NB178_134 := n15_; have NB135_178 := n16_; have NB178_135 := n17_; clear n0_ n1_ n2_ n3_ n4_ n5_ n6_ n7_ n8_ n9_ n10_ n11_ n12_ n13_ n14_ n15_ n16_ n17_; clear hb hbox hg) | ((with_reducible refine gate_dst (N := 30) rfl ?_); refine box_event ?hg (N := 30) ?hd (cs := #[.int .i64 0, .int .i64 0, .int .i64 0]) (t := 25) ?hr ?_; (case hd => rfl); (case hg => rfl); (case hr => first | (go_simp; done) | (go_simp; rfl)); intro gb179 hg w135 hbox hb; have n0_ := Aside0.mk (Kd.R_below (by exact Ho.RS <| HO_134002.out) hb); have n1_ := Aside0.mk (Kd.R_below (by exact Ho.RS <| HO170.out) hb); have n2_ := Aside0.mk (blk_below (bS BK106.out) hb); have n3_ := Aside0.mk (blk_below (bS BK133.out) hb); have n4_ := Aside0.mk (blk_below (bS BK134.out) hb); have n5_ := Aside0.mk (blk_below (bS BK135.out) hb); have n6_ := Aside0.mk (blk_below (bS BK178.out) hb); have n7_ := Aside0.mk (below_step (by exact eS HB.out) hb); have n8_ := Aside0.mk (hbox); have n9_ := Aside0.mk ((by rw [hg]; exact (below_size (by exact eS HB.out)) : w.heap.size ≤ gb179)); have n10_ := Aside0.mk ((by rw [hg]; exact (below_size (by exact eS HB.out)) : w.heap.size ≤ gb179)); have n11_ := Aside0.mk ((by rw [hg]; exact Nat.ne_of_lt (blk_lt (bS BK106.out)) : gb106 ≠ gb179)); have n12_ := Aside0.mk ((by rw [hg]; exact Nat.ne_of_gt (blk_lt (bS BK106.out)) : gb179 ≠ gb106)); have n13_ := Aside0.mk ((by rw [hg]; exact Nat.ne_of_lt (blk_lt (bS BK133.out)) : gb133 ≠ gb179)); have n14_ := Aside0.mk ((by rw [hg]; exact Nat.ne_of_gt (blk_lt (bS BK133.out)) : gb179 ≠ gb133)); have n15_ := Aside0.mk ((by rw [hg]; exact Nat.ne_of_lt (blk_lt (bS BK134.out)) : gb134 ≠ gb179)); have n16_ := Aside0.mk ((by rw [hg]; exact Nat.ne_of_gt (blk_lt (bS BK134.out)) : gb179 ≠ gb134)); have n17_ := Aside0.mk ((by rw [hg]; exact Nat.ne_of_lt (blk_lt (bS BK135.out)) : gb135 ≠ gb179)); have n18_ := Aside0.mk ((by rw [hg]; exact Nat.ne_of_gt (blk_lt (bS BK135.out)) : gb179 ≠ gb135)); have n19_ := Aside0.mk ((by rw [hg]; exact Nat.ne_of_lt (blk_lt (bS BK178.out)) : gb178 ≠ gb179)); have n20_ := Aside0.mk ((by rw [hg]; exact Nat.ne_of_gt (blk_lt (bS BK178.out)) : gb179 ≠ gb178)); clear HO_134002; clear HO170; clear BK106; clear BK133; clear BK134; clear BK135; clear BK178; clear HB; have HO_134002 := n0_; have HO170 := n1_; have BK106 := n2_; have BK133 := n3_; have BK134 := n4_; have BK135 := n5_; have BK178 := n6_; have HB := n7_; have BK179 := n8_; have GW179 := n9_; have GE179 := n10_; have NB106_179 := n11_; have NB179_106 := n12_; have NB133_179 := n13_; have NB179_133 := n14_; have NB134_179 := n15_; have NB179_134 := n16_; have NB135_179 := n17_; have NB179_135 := n18_; have NB178_179 := n19_; have NB179_178 := n20_; clear n0_ n1_ n2_ n3_ n4_ n5_ n6_ n7_ n8_ n9_ n10_ n11_ n12_ n13_ n14_ n15_ n16_ n17_ n18_ n19_ n20_; clear hb hbox hg) | ((with_reducible refine gate_dst (N := 31) rfl ?_); refine box_event ?hg (N := 31) ?hd (cs := #[.int .i64 0, .int .i64 0, .int .i64 0, .int .i64 0]) (t := 36) ?hr ?_; (case hd => rfl); (case hg => rfl); (case hr => first | (go_simp; done) | (go_simp; rfl)); intro gb180 hg w136 hbox hb; have n0_ := Aside0.mk (Kd.R_below (by exact Ho.RS <| HO_134002.out) hb); have n1_ := Aside0.mk (Kd.R_below (by exact Ho.RS <| HO170.out) hb); have n2_ := Aside0.mk (blk_below (bS BK106.out) hb); have n3_ := Aside0.mk (blk_below (bS BK133.out) hb); have n4_ := Aside0.mk (blk_below (bS BK134.out) hb); have n5_ := Aside0.mk (blk_below (bS BK135.out) hb); have n6_ := Aside0.mk (blk_below (bS BK178.out) hb); have n7_ := Aside0.mk (blk_below (bS BK179.out) hb); have n8_ := Aside0.mk (below_step (by exact eS HB.out) hb); have n9_ := Aside0.mk (hbox); have n10_ := Aside0.mk ((by rw [hg]; exact (below_size (by exact eS HB.out)) : w.heap.size ≤ gb180)); have n11_ := Aside0.mk ((by rw [hg]; exact (below_size (by exact eS HB.out)) : w.heap.size ≤ gb180)); have n12_ := Aside0.mk ((by rw [hg]; exact Nat.ne_of_lt (blk_lt (bS BK106.out)) : gb106 ≠ gb180)); have n13_ := Aside0.mk ((by rw [hg]; exact Nat.ne_of_gt (blk_lt (bS BK106.out)) : gb180 ≠ gb106)); have n14_ := Aside0.mk ((by rw [hg]; exact Nat.ne_of_lt (blk_lt (bS BK133.out)) : gb133 ≠ gb180)); have n15_ := Aside0.mk ((by rw [hg]; exact Nat.ne_of_gt (blk_lt (bS BK133.out)) : gb180 ≠ gb133)); have n16_ := Aside0.mk ((by rw [hg]; exact Nat.ne_of_lt (blk_lt (bS BK134.out)) : gb134 ≠ gb180)); have n17_ := Aside0.mk ((by rw [hg]; exact Nat.ne_of_gt (blk_lt (bS BK134.out)) : gb180 ≠ gb134)); have n18_ := Aside0.mk ((by rw [hg]; exact Nat.ne_of_lt (blk_lt (bS BK135.out)) : gb135 ≠ gb180)); have n19_ := Aside0.mk ((by rw [hg]; exact Nat.ne_of_gt (blk_lt (bS BK135.out)) : gb180 ≠ gb135)); have n20_ := Aside0.mk ((by rw [hg]; exact Nat.ne_of_lt (blk_lt (bS BK178.out)) : gb178 ≠ gb180)); have n21_ := Aside0.mk ((by rw [hg]; exact Nat.ne_of_gt (blk_lt (bS BK178.out)) : gb180 ≠ gb178)); have n22_ := Aside0.mk ((by rw [hg]; exact Nat.ne_of_lt (blk_lt (bS BK179.out)) : gb179 ≠ gb180)); have n23_ := Aside0.mk ((by rw [hg]; exact Nat.ne_of_gt (blk_lt (bS BK179.out)) : gb180 ≠ gb179)); clear HO_134002; clear HO170; clear BK106; clear BK133; clear BK134; clear BK135; clear BK178; clear BK179; clear HB; have HO_134002 := n0_; have HO170 := n1_; have BK106 := n2_; have BK133 := n3_; have BK134 := n4_; have BK135 := n5_; have BK178 := n6_; have BK179 := n7_; have HB := n8_; have BK180 := n9_; have GW180 := n10_; have GE180 := n11_; have NB106_180 := n12_; have NB180_106 := n13_; have NB133_180 := n14_; have NB180_133 := n15_; have NB134_180 := n16_; have NB180_134 := n17_; have NB135_180 := n18_; have NB180_135 := n19_; have NB178_180 := n20_; have NB180_178 := n21_; have NB179_180 := n22_; have NB180_179 := n23_; clear n0_ n1_ n2_ n3_ n4_ n5_ n6_ n7_ n8_ n9_ n10_ n11_ n12_ n13_ n14_ n15_ n16_ n17_ n18_ n19_ n20_ n21_ n22_ n23_; clear hb hbox hg; have hnb137 := NB178_106.out; have hnc137 := NB106_178.out; have hnb138 := NB178_133.out; have hnc138 := NB133_178.out; have hnb139 := NB178_134.out; have hnc139 := NB134_178.out; have hnb140 := NB178_135.out; have hnc140 := NB135_178.out; have hnb141 := NB178_179.out; have hnc141 := NB179_178.out; have hnb142 := NB178_180.out; have hnc142 := NB180_178.out; obtain ⟨hcz143_0, hcz143_1, hcz143_2, hfz143_0, hfz143_1, hfz143_2⟩ := Sq.c3 BK178.out; obtain ⟨Ao144, co144, eo144⟩ := Kd.R_slice HO170.out; subst eo144; have hnb145 := NB179_106.out; have hnc145 := NB106_179.out; have hnb146 := NB179_133.out; have hnc146 := NB133_179.out; have hnb147 := NB179_134.out; have hnc147 := NB134_179.out; have hnb148 := NB179_135.out; have hnc148 := NB135_179.out; have hnb149 := NB179_180.out; have hnc149 := NB180_179.out; obtain ⟨hcz150_0, hcz150_1, hcz150_2, hfz150_0, hfz150_1, hfz150_2⟩ := Sq.c3 BK179.out; have hnb151 := NB180_106.out; have hnc151 := NB106_180.out; have hnb152 := NB180_133.out; have hnc152 := NB133_180.out; have hnb153 := NB180_134.out; have hnc153 := NB134_180.out; have hnb154 := NB180_135.out; have hnc154 := NB135_180.out; obtain ⟨hcz155_0, hcz155_1, hcz155_2, hcz155_3, hfz155_0, hfz155_1, hfz155_2, hfz155_3⟩ := Sq.c4 BK180.out) | ((with_reducible refine gate_store (t := 25) (p := 30) rfl ?_); (fail_if_success guard_hyp GEN4_ : True); refine laws_FnSkews.gen_ (R := fun w1_ => Kd.R (Kd.int .i64) 3 w1_ w.heap.size (fun k_ => True) (.slice Ao47 t122.length co47) t122 ∧ Kd.R (Kd.int .i64) 3 w1_ w.heap.size (fun k_ => True) (.slice Ao144 t168.length co144) t168 ∧ w1_.heap[gb106]? = some (.cells #[.int .i64 t102, .int .i64 t103, .int .i64 t104, .int .i64 t105] 36 (0, 0)) ∧ w1_.heap[gb133]? = some (.cells #[.int .i64 t120, .int .i64 t121, .slice Ao47 t122.length co47] 46 (0, 0)) ∧ w1_.heap[gb134]? = some (.cells #[.int .i64 t125, .int .i64 t126, .int .i64 t127] 25 (0, 0)) ∧ w1_.heap[gb135]? = some (.cells #[.int .i64 t128, .int .i64 t129, .int .i64 t130, .int .i64 t131] 36 (0, 0)) ∧ w1_.heap[gb178]? = some (.cells #[.int .i64 t166, .int .i64 t167, .slice Ao144 t168.length co144] 46 (0, 0)) ∧ w1_.heap[gb179]? = some (.cells #[.int .i64 0, .int .i64 0, .int .i64 0] 25 (0, 0)) ∧ w1_.heap[gb180]? = some (.cells #[.int .i64 0, .int .i64 0, .int .i64 0, .int .i64 0] 36 (0, 0)) ∧ Below w.heap.size w w1_) ⟨Kd.R_mono (Kd.R_far (p := ⟨gb178, 2, none⟩) (Kd.R_far (p := ⟨gb178, 1, none⟩) (Kd.R_far (p := ⟨gb178, 0, none⟩) (Kd.R_types (by exact Ho.RS <| HO_134002.out) (by exact bS BK178.out) (by decide)) (fun _ hk => hk.2) (.int .i64 t166)) (fun _ hk => hk.2) (.int .i64 t167)) (fun _ hk => hk.2) (.slice Ao144 t168.length co144)) (fun _ _ => trivial), Kd.R_mono (Kd.R_far (p := ⟨gb178, 2, none⟩) (Kd.R_far (p := ⟨gb178, 1, none⟩) (Kd.R_far (p := ⟨gb178, 0, none⟩) (Kd.R_types (by exact Ho.RS <| HO170.out) (by exact bS BK178.out) (by decide)) (fun _ hk => hk.2) (.int .i64 t166)) (fun _ hk => hk.2) (.int .i64 t167)) (fun _ hk => hk.2) (.slice Ao144 t168.length co144)) (fun _ _ => trivial), (by repeat (first | exact bS BK106.out | refine blk_far ?_ NB106_178.out _)), (by repeat (first | exact bS BK133.out | refine blk_far ?_ NB133_178.out _)), (by repeat (first | exact bS BK134.out | refine blk_far ?_ NB134_178.out _)), (by repeat (first | exact bS BK135.out | refine blk_far ?_ NB135_178.out _)), (by apply Sq.put3; exact bS BK178.out), (by repeat (first | exact bS BK179.out | refine blk_far ?_ NB179_178.out _)), (by repeat (first | exact bS BK180.out | refine blk_far ?_ NB180_178.out _)), (by repeat (first | (with_reducible exact HB.out) | refine below_set ?_ GE178.out | exact eS HB.out))⟩ ?_; intro wg4_ hR_; have GEN4_ := True.intro; obtain ⟨g1_, g2_, g3_, g4_, g5_, g6_, g7_, g8_, g9_, g10_⟩ := hR_; clear HO_134002 HO170 BK106 BK133 BK134 BK135 BK178 BK179 BK180 HB; (try clear hcz143_0); (try clear hcz143_1); (try clear hcz143_2); (try clear hfz143_0); (try clear hfz143_1); (try clear hfz143_2); (try clear hcz150_0); (try clear hcz150_1); (try clear hcz150_2); (try clear hfz150_0); (try clear hfz150_1); (try clear hfz150_2); (try clear hcz155_0); (try clear hcz155_1); (try clear hcz155_2); (try clear hcz155_3); (try clear hfz155_0); (try clear hfz155_1); (try clear hfz155_2); (try clear hfz155_3); have HO_134002 := Aside0.mk g1_; have HO170 := Aside0.mk g2_; have BK106 := Aside0.mk g3_; have BK133 := Aside0.mk g4_; have BK134 := Aside0.mk g5_; have BK135 := Aside0.mk g6_; have BK178 := Aside0.mk g7_; have BK179 := Aside0.mk g8_; have BK180 := Aside0.mk g9_; have HB := Aside0.mk g10_; clear g1_ g2_ g3_ g4_ g5_ g6_ g7_ g8_ g9_ g10_; obtain ⟨hcz409_0, hcz409_1, hcz409_2, hfz409_0, hfz409_1, hfz409_2⟩ := Sq.c3 BK178.out; obtain ⟨hcz419_0, hcz419_1, hcz419_2, hfz419_0, hfz419_1, hfz419_2⟩ := Sq.c3 BK179.out; obtain ⟨hcz429_0, hcz429_1, hcz429_2, hcz429_3, hfz429_0, hfz429_1, hfz429_2, hfz429_3⟩ := Sq.c4 BK180.out) | ((with_reducible refine gate_store (t := 36) (p := 31) rfl ?_); (fail_if_success guard_hyp GEN5_ : True); refine laws_FnSkews.gen_ (R := fun w1_ => Kd.R (Kd.int .i64) 3 w1_ w.heap.size (fun k_ => True) (.slice Ao47 t122.length co47) t122 ∧ Kd.R (Kd.int .i64) 3 w1_ w.heap.size (fun k_ => True) (.slice Ao144 t168.length co144) t168 ∧ w1_.heap[gb106]? = some (.cells #[.int .i64 t102, .int .i64 t103, .int .i64 t104, .int .i64 t105] 36 (0, 0)) ∧ w1_.heap[gb133]? = some (.cells #[.int .i64 t120, .int .i64 t121, .slice Ao47 t122.length co47] 46 (0, 0)) ∧ w1_.heap[gb134]? = some (.cells #[.int .i64 t125, .int .i64 t126, .int .i64 t127] 25 (0, 0)) ∧ w1_.heap[gb135]? = some (.cells #[.int .i64 t128, .int .i64 t129, .int .i64 t130, .int .i64 t131] 36 (0, 0)) ∧ w1_.heap[gb178]? = some (.cells #[.int .i64 t166, .int .i64 t167, .slice Ao144 t168.length co144] 46 (0, 0)) ∧ w1_.heap[gb179]? = some (.cells #[.int .i64 t171, .int .i64 t172, .int .i64 t173] 25 (0, 0)) ∧ w1_.heap[gb180]? = some (.cells #[.int .i64 0, .int .i64 0, .int .i64 0, .int .i64 0] 36 (0, 0)) ∧ Below w.heap.size w w1_) ⟨Kd.R_mono (Kd.R_far (p := ⟨gb179, 2, none⟩) (Kd.R_far (p := ⟨gb179, 1, none⟩) (Kd.R_far (p := ⟨gb179, 0, none⟩) (Kd.R_types (by exact Ho.RS <| HO_134002.out) (by exact bS BK179.out) (by decide)) (fun _ hk => hk.2) (.int .i64 t171)) (fun _ hk => hk.2) (.int .i64 t172)) (fun _ hk => hk.2) (.int .i64 t173)) (fun _ _ => trivial), Kd.R_mono (Kd.R_far (p := ⟨gb179, 2, none⟩) (Kd.R_far (p := ⟨gb179, 1, none⟩) (Kd.R_far (p := ⟨gb179, 0, none⟩) (Kd.R_types (by exact Ho.RS <| HO170.out) (by exact bS BK179.out) (by decide)) (fun _ hk => hk.2) (.int .i64 t171)) (fun _ hk => hk.2) (.int .i64 t172)) (fun _ hk => hk.2) (.int .i64 t173)) (fun _ _ => trivial), (by repeat (first | exact bS BK106.out | refine blk_far ?_ NB106_179.out _)), (by repeat (first | exact bS BK133.out | refine blk_far ?_ NB133_179.out _)), (by repeat (first | exact bS BK134.out | refine blk_far ?_ NB134_179.out _)), (by repeat (first | exact bS BK135.out | refine blk_far ?_ NB135_179.out _)), (by repeat (first | exact bS BK178.out | refine blk_far ?_ NB178_179.out _)), (by apply Sq.put3; exact bS BK179.out), (by repeat (first | exact bS BK180.out | refine blk_far ?_ NB180_179.out _)), (by repeat (first | (with_reducible exact HB.out) | refine below_set ?_ GE179.out | exact eS HB.out))⟩ ?_; intro wg5_ hR_; have GEN5_ := True.intro; obtain ⟨g1_, g2_, g3_, g4_, g5_, g6_, g7_, g8_, g9_, g10_⟩ := hR_; clear HO_134002 HO170 BK106 BK133 BK134 BK135 BK178 BK179 BK180 HB; (try clear hcz409_0); (try clear hcz409_1); (try clear hcz409_2); (try clear hfz409_0); (try clear hfz409_1); (try clear hfz409_2); (try clear hcz419_0); (try clear hcz419_1); (try clear hcz419_2); (try clear hfz419_0); (try clear hfz419_1); (try clear hfz419_2); (try clear hcz429_0); (try clear hcz429_1); (try clear hcz429_2); (try clear hcz429_3); (try clear hfz429_0); (try clear hfz429_1); (try clear hfz429_2); (try clear hfz429_3); have HO_134002 := Aside0.mk g1_; have HO170 := Aside0.mk g2_; have BK106 := Aside0.mk g3_; have BK133 := Aside0.mk g4_; have BK134 := Aside0.mk g5_; have BK135 := Aside0.mk g6_; have BK178 := Aside0.mk g7_; have BK179 := Aside0.mk g8_; have BK180 := Aside0.mk g9_; have HB := Aside0.mk g10_; clear g1_ g2_ g3_ g4_ g5_ g6_ g7_ g8_ g9_ g10_; obtain ⟨hcz509_0, hcz509_1, hcz509_2, hfz509_0, hfz509_1, hfz509_2⟩ := Sq.c3 BK178.out; obtain ⟨hcz519_0, hcz519_1, hcz519_2, hfz519_0, hfz519_1, hfz519_2⟩ := Sq.c3 BK179.out; obtain ⟨hcz529_0, hcz529_1, hcz529_2, hcz529_3, hfz529_0, hfz529_1, hfz529_2, hfz529_3⟩ := Sq.c4 BK180.out) | ((with_reducible refine gate_dst (N := 198) rfl ?_); (fail_if_success guard_hyp GEN6_ : True); refine laws_FnSkews.gen_ (R := fun w1_ => Kd.R (Kd.int .i64) 3 w1_ w.heap.size (fun k_ => True) (.slice Ao47 t122.length co47) t122 ∧ Kd.R (Kd.int .i64) 3 w1_ w.heap.size (fun k_ => True) (.slice Ao144 t168.length co144) t168 ∧ w1_.heap[gb106]? = some (.cells #[.int .i64 t102, .int .i64 t103, .int .i64 t104, .int .i64 t105] 36 (0, 0)) ∧ w1_.heap[gb133]? = some (.cells #[.int .i64 t120, .int .i64 t121, .slice Ao47 t122.length co47] 46 (0, 0)) ∧ w1_.heap[gb134]? = some (.cells #[.int .i64 t125, .int .i64 t126, .int .i64 t127] 25 (0, 0)) ∧ w1_.heap[gb135]? = some (.cells #[.int .i64 t128, .int .i64 t129, .int .i64 t130, .int .i64 t131] 36 (0, 0)) ∧ w1_.heap[gb178]? = some (.cells #[.int .i64 t166, .int .i64 t167, .slice Ao144 t168.length co144] 46 (0, 0)) ∧ w1_.heap[gb179]? = some (.cells #[.int .i64 t171, .int .i64 t172, .int .i64 t173] 25 (0, 0)) ∧ w1_.heap[gb180]? = some (.cells #[.int .i64 t174, .int .i64 t175, .int .i64 t176, .int .i64 t177] 36 (0, 0)) ∧ Below w.heap.size w w1_) ⟨Kd.R_mono (Kd.R_far (p := ⟨gb180, 3, none⟩) (Kd.R_far (p := ⟨gb180, 2, none⟩) (Kd.R_far (p := ⟨gb180, 1, none⟩) (Kd.R_far (p := ⟨gb180, 0, none⟩) (Kd.R_types (by exact Ho.RS <| HO_134002.out) (by exact bS BK180.out) (by decide)) (fun _ hk => hk.2) (.int .i64 t174)) (fun _ hk => hk.2) (.int .i64 t175)) (fun _ hk => hk.2) (.int .i64 t176)) (fun _ hk => hk.2) (.int .i64 t177)) (fun _ _ => trivial), Kd.R_mono (Kd.R_far (p := ⟨gb180, 3, none⟩) (Kd.R_far (p := ⟨gb180, 2, none⟩) (Kd.R_far (p := ⟨gb180, 1, none⟩) (Kd.R_far (p := ⟨gb180, 0, none⟩) (Kd.R_types (by exact Ho.RS <| HO170.out) (by exact bS BK180.out) (by decide)) (fun _ hk => hk.2) (.int .i64 t174)) (fun _ hk => hk.2) (.int .i64 t175)) (fun _ hk => hk.2) (.int .i64 t176)) (fun _ hk => hk.2) (.int .i64 t177)) (fun _ _ => trivial), (by repeat (first | exact bS BK106.out | refine blk_far ?_ NB106_180.out _)), (by repeat (first | exact bS BK133.out | refine blk_far ?_ NB133_180.out _)), (by repeat (first | exact bS BK134.out | refine blk_far ?_ NB134_180.out _)), (by repeat (first | exact bS BK135.out | refine blk_far ?_ NB135_180.out _)), (by repeat (first | exact bS BK178.out | refine blk_far ?_ NB178_180.out _)), (by repeat (first | exact bS BK179.out | refine blk_far ?_ NB179_180.out _)), (by apply Sq.put4; exact bS BK180.out), (by repeat (first | (with_reducible exact HB.out) | refine below_set ?_ GE180.out | exact eS HB.out))⟩ ?_; intro wg6_ hR_; have GEN6_ := True.intro; obtain ⟨g1_, g2_, g3_, g4_, g5_, g6_, g7_, g8_, g9_, g10_⟩ := hR_; clear HO_134002 HO170 BK106 BK133 BK134 BK135 BK178 BK179 BK180 HB; (try clear hcz509_0); (try clear hcz509_1); (try clear hcz509_2); (try clear hfz509_0); (try clear hfz509_1); (try clear hfz509_2); (try clear hcz519_0); (try clear hcz519_1); (try clear hcz519_2); (try clear hfz519_0); (try clear hfz519_1); (try clear hfz519_2); (try clear hcz529_0); (try clear hcz529_1); (try clear hcz529_2); (try clear hcz529_3); (try clear hfz529_0); (try clear hfz529_1); (try clear hfz529_2); (try clear hfz529_3); have HO_134002 := Aside0.mk g1_; have HO170 := Aside0.mk g2_; have BK106 := Aside0.mk g3_; have BK133 := Aside0.mk g4_; have BK134 := Aside0.mk g5_; have BK135 := Aside0.mk g6_; have BK178 := Aside0.mk g7_; have BK179 := Aside0.mk g8_; have BK180 := Aside0.mk g9_; have HB := Aside0.mk g10_; clear g1_ g2_ g3_ g4_ g5_ g6_ g7_ g8_ g9_ g10_; obtain ⟨hcz609_0, hcz609_1, hcz609_2, hfz609_0, hfz609_1, hfz609_2⟩ := Sq.c3 BK178.out; obtain ⟨hcz619_0, hcz619_1, hcz619_2, hfz619_0, hfz619_1, hfz619_2⟩ := Sq.c3 BK179.out; obtain ⟨hcz629_0, hcz629_1, hcz629_2, hcz629_3, hfz629_0, hfz629_1, hfz629_2, hfz629_3⟩ := Sq.c4 BK180.out) | ((with_reducible refine gate_callee (f := 39) rfl ?_); refine goesL_ (some 201) rfl rfl Try.func39 (by kernel_rfl) rfl #[.agg #[.int .i64 t166, .int .i64 t167, .slice Ao144 t168.length co144], .agg #[.int .i64 t171, .int .i64 t172, .int .i64 t173], .agg #[.int .i64 t174, .int .i64 t175, .int .i64 t176, .int .i64 t177]] rfl (by (try simp only [List.map_toArray, List.map_cons, List.map_nil]); first | done | rfl | (simp only [List.length_drop, List.length_take]; rfl)) ?_; (with_reducible refine (impl_OffSize.calls kj76 t166 t167 _ _ t168 t171 t172 t173 t174 t175 t176 t177 t181 t182 t183 _ ?side1 ?side2 A129.out).mono ?_); (case side1 => repeat (first | exact (Kd.R_reads' HO170.out).2.2 | (with_reducible refine Kd.C_alloc ?_ _) | (with_reducible refine Kd.C_drewN ?_ _) | (with_reducible refine Kd.C_drew ?_))); (case side2 => exact (Kd.R_reads' HO170.out).2.1); (try clear hcz609_0); (try clear hcz609_1); (try clear hcz609_2); (try clear hfz609_0); (try clear hfz609_1); (try clear hfz609_2); (try clear hcz619_0); (try clear hcz619_1); (try clear hcz619_2); (try clear hfz619_0); (try clear hfz619_1); (try clear hfz619_2); (try clear hcz629_0); (try clear hcz629_1); (try clear hcz629_2); (try clear hcz629_3); (try clear hfz629_0); (try clear hfz629_1); (try clear hfz629_2); (try clear hfz629_3); rintro e w156 ⟨rfl, hb⟩; refine ⟨_, rfl, ?_⟩; have n0_ := Aside0.mk (Kd.R_below (by exact Ho.RS <| HO_134002.out) hb); have n1_ := Aside0.mk (Kd.R_below (by exact Ho.RS <| HO170.out) hb); have n2_ := Aside0.mk (blk_below (bS BK106.out) hb); have n3_ := Aside0.mk (blk_below (bS BK133.out) hb); have n4_ := Aside0.mk (blk_below (bS BK134.out) hb); have n5_ := Aside0.mk (blk_below (bS BK135.out) hb); have n6_ := Aside0.mk (blk_below (bS BK178.out) hb); have n7_ := Aside0.mk (blk_below (bS BK179.out) hb); have n8_ := Aside0.mk (blk_below (bS BK180.out) hb); have n9_ := Aside0.mk (below_step (by exact eS HB.out) hb); clear HO_134002; clear HO170; clear BK106; clear BK133; clear BK134; clear BK135; clear BK178; clear BK179; clear BK180; clear HB; have HO_134002 := n0_; have HO170 := n1_; have BK106 := n2_; have BK133 := n3_; have BK134 := n4_; have BK135 := n5_; have BK178 := n6_; have BK179 := n7_; have BK180 := n8_; have HB := n9_; clear n0_ n1_ n2_ n3_ n4_ n5_ n6_ n7_ n8_ n9_; (try clear hb); (try clear hb2); (try clear hk); (try clear hi); obtain ⟨hcz157_0, hcz157_1, hcz157_2, hfz157_0, hfz157_1, hfz157_2⟩ := Sq.c3 BK178.out; obtain ⟨hcz158_0, hcz158_1, hcz158_2, hfz158_0, hfz158_1, hfz158_2⟩ := Sq.c3 BK179.out; obtain ⟨hcz159_0, hcz159_1, hcz159_2, hcz159_3, hfz159_0, hfz159_1, hfz159_2, hfz159_3⟩ := Sq.c4 BK180.out) | ((with_reducible refine gate_callee (f := 38) rfl ?_); refine goesL_ (some 209) rfl rfl Try.func38 (by kernel_rfl) rfl #[.agg #[.int .i64 t166, .int .i64 t167, .slice Ao144 t168.length co144], .agg #[.int .i64 t171, .int .i64 t172, .int .i64 t173], .agg #[.int .i64 t174, .int .i64 t175, .int .i64 t176, .int .i64 t177]] rfl (by (try simp only [List.map_toArray, List.map_cons, List.map_nil]); first | done | rfl | (simp only [List.length_drop, List.length_take]; rfl)) ?_; (with_reducible refine (spec_OffSize.calls kj76 t166 t167 _ _ t168 t171 t172 t173 t174 t175 t176 t177 t184 t185 t186 _ ?side1 ?side2 A130.out).mono ?_); (case side1 => repeat (first | exact (Kd.R_reads' HO170.out).2.2 | (with_reducible refine Kd.C_alloc ?_ _) | (with_reducible refine Kd.C_drewN ?_ _) | (with_reducible refine Kd.C_drew ?_))); (case side2 => exact (Kd.R_reads' HO170.out).2.1); rintro e w160 ⟨rfl, hb⟩; refine ⟨_, rfl, ?_⟩; have n0_ := Aside0.mk (Kd.R_below (by exact Ho.RS <| HO_134002.out) hb); have n1_ := Aside0.mk (Kd.R_below (by exact Ho.RS <| HO170.out) hb); have n2_ := Aside0.mk (blk_below (bS BK106.out) hb); have n3_ := Aside0.mk (blk_below (bS BK133.out) hb); have n4_ := Aside0.mk (blk_below (bS BK134.out) hb); have n5_ := Aside0.mk (blk_below (bS BK135.out) hb); have n6_ := Aside0.mk (blk_below (bS BK178.out) hb); have n7_ := Aside0.mk (blk_below (bS BK179.out) hb); have n8_ := Aside0.mk (blk_below (bS BK180.out) hb); have n9_ := Aside0.mk (below_step (by exact eS HB.out) hb); clear HO_134002; clear HO170; clear BK106; clear BK133; clear BK134; clear BK135; clear BK178; clear BK179; clear BK180; clear HB; have HO_134002 := n0_; have HO170 := n1_; have BK106 := n2_; have BK133 := n3_; have BK134 := n4_; have BK135 := n5_; have BK178 := n6_; have BK179 := n7_; have BK180 := n8_; have HB := n9_; clear n0_ n1_ n2_ n3_ n4_ n5_ n6_ n7_ n8_ n9_; (try clear hb); (try clear hb2); (try clear hk); (try clear hi)))
                     go_ret
                     exact ⟨by first | rfl | (simp [errW_none, errW_some] <;> rfl) | (simp [*, errW_none, errW_some] <;> rfl), by exact eS HB.out⟩
                   subst c79
                   have H1 : ((impl_OffSize.f kj76 t120 t121 t122 t125 t126 t127 t128 t129 t130 t131).bind fun bt142 => (if bt142.2.2 = true then (if bt142.1 = 0 then (laws_FnSkews.j6 kj76 l0 (bt142.2.1 != 0)) else (laws_FnSkews.j6 kj76 l0 true)) else (laws_FnSkews.j6 kj76 l0 true))) = some r := by rw [if_pos rfl] at H; exact H
                   clear H
                   have H := H1
                   clear H1
                   replace H := Option.bind_eq_some_iff.mp H
                   obtain ⟨⟨t142, t143, t144⟩, A800, H⟩ := H
                   (try dsimp only at H)
                   have A80 := Aside0.mk A800
                   clear A800
                   have HC81 := Aside0.mk H
                   clear H
                   have hnb82 := NB133_106.out
                   have hnc82 := NB106_133.out
                   have hnb83 := NB133_134.out
                   have hnc83 := NB134_133.out
                   have hnb84 := NB133_135.out
                   have hnc84 := NB135_133.out
                   obtain ⟨hcz85_0, hcz85_1, hcz85_2, hfz85_0, hfz85_1, hfz85_2⟩ := Sq.c3 BK133.out
                   have hnb86 := NB134_106.out
                   have hnc86 := NB106_134.out
                   have hnb87 := NB134_135.out
                   have hnc87 := NB135_134.out
                   obtain ⟨hcz88_0, hcz88_1, hcz88_2, hfz88_0, hfz88_1, hfz88_2⟩ := Sq.c3 BK134.out
                   have hnb89 := NB135_106.out
                   have hnc89 := NB106_135.out
                   obtain ⟨hcz90_0, hcz90_1, hcz90_2, hcz90_3, hfz90_0, hfz90_1, hfz90_2, hfz90_3⟩ := Sq.c4 BK135.out
                   go_upto_region 23 with (first | ((with_reducible refine gate_callee (f := 39) rfl ?_); refine goesL_ (some 177) rfl rfl Try.func39 (by kernel_rfl) rfl #[.agg #[.int .i64 t120, .int .i64 t121, .slice Ao47 t122.length co47], .agg #[.int .i64 t125, .int .i64 t126, .int .i64 t127], .agg #[.int .i64 t128, .int .i64 t129, .int .i64 t130, .int .i64 t131]] rfl (by (try simp only [List.map_toArray, List.map_cons, List.map_nil]); first | done | rfl | (simp only [List.length_drop, List.length_take]; rfl)) ?_; (with_reducible refine (impl_OffSize.calls kj76 t120 t121 _ _ t122 t125 t126 t127 t128 t129 t130 t131 t142 t143 t144 _ ?side1 ?side2 A80.out).mono ?_); (case side1 => repeat (first | exact (Kd.R_reads' HO_134002.out).2.2 | (with_reducible refine Kd.C_alloc ?_ _) | (with_reducible refine Kd.C_drewN ?_ _) | (with_reducible refine Kd.C_drew ?_))); (case side2 => exact (Kd.R_reads' HO_134002.out).2.1); rintro e w91 ⟨rfl, hb⟩; refine ⟨_, rfl, ?_⟩; have n0_ := Aside0.mk (Kd.R_below (by exact Ho.RS <| HO_134002.out) hb); have n1_ := Aside0.mk (blk_below (bS BK106.out) hb); have n2_ := Aside0.mk (blk_below (bS BK133.out) hb); have n3_ := Aside0.mk (blk_below (bS BK134.out) hb); have n4_ := Aside0.mk (blk_below (bS BK135.out) hb); have n5_ := Aside0.mk (below_step (by exact eS HB.out) hb); clear HO_134002; clear BK106; clear BK133; clear BK134; clear BK135; clear HB; have HO_134002 := n0_; have BK106 := n1_; have BK133 := n2_; have BK134 := n3_; have BK135 := n4_; have HB := n5_; clear n0_ n1_ n2_ n3_ n4_ n5_; (try clear hb); (try clear hb2); (try clear hk); (try clear hi)))
                   (try simp only [Act.put, List.setIfInBounds_toArray, List.set_cons_zero, List.set_cons_succ])
                   go_cut [190] (fun v190 wc => ∃ (kq : Nat) (x190_80 : Bool), v190 = .bool x190_80 ∧ Aside0 (laws_FnSkews.j6 kq l0 x190_80 = some r) ∧ Aside0 (kq ≤ kj76) ∧ Aside0 (Kd.R (Kd.int .i64) 3 wc w.heap.size (fun _ => True) (.slice Ao47 t122.length co47) t122) ∧ Aside0 (wc.heap[gb106]? = some (.cells #[.int .i64 t102, .int .i64 t103, .int .i64 t104, .int .i64 t105] 36 (0, 0))) ∧ Aside0 (wc.heap[gb133]? = some (.cells #[.int .i64 t120, .int .i64 t121, (.slice Ao47 t122.length co47)] 46 (0, 0))) ∧ Aside0 (wc.heap[gb134]? = some (.cells #[.int .i64 t125, .int .i64 t126, .int .i64 t127] 25 (0, 0))) ∧ Aside0 (wc.heap[gb135]? = some (.cells #[.int .i64 t128, .int .i64 t129, .int .i64 t130, .int .i64 t131] 36 (0, 0))) ∧ Aside0 (Below w.heap.size w wc))
                   case first =>
                    have H := HC81.out
                    clear HC81
                    by_cases c92 : t144 = true
                    rotate_left
                    ·replace c92 := Bool.eq_false_iff.mpr c92
                     subst c92
                     have H1 : (laws_FnSkews.j6 kj76 l0 true) = some r := by rw [if_neg (show ¬ (false = true) by decide)] at H; exact H
                     clear H
                     have H := H1
                     clear H1
                     as_aux_lemma =>
                      have H' := Aside0.mk H
                      clear H
                      go_wp2
                      go_meet
                      case rel => exact ⟨_, (true), (by first | rfl | (simp; done) | (simp [*]; done)), H', ⟨by have := HJ6.out; have := HJ22.out; have := HJ37.out; have := HJ59.out; have := HJ61.out; have := HJ76.out; first | omega | exact Nat.le_refl _⟩, ⟨by exact Ho.RS <| HO_134002.out⟩, ⟨by exact bS BK106.out⟩, ⟨by exact bS BK133.out⟩, ⟨by exact bS BK134.out⟩, ⟨by exact bS BK135.out⟩, ⟨by exact eS HB.out⟩⟩
                    subst c92
                    have H1 : (if t142 = 0 then (laws_FnSkews.j6 kj76 l0 (t143 != 0)) else (laws_FnSkews.j6 kj76 l0 true)) = some r := by rw [if_pos rfl] at H; exact H
                    clear H
                    have H := H1
                    clear H1
                    by_cases c93 : t142 = 0
                    rotate_left
                    ·rw [if_neg c93] at H
                     have c93b0 : (t142 == 0) = false := beq_eq_false_iff_ne.mpr c93
                     have c93b1 : (t142 != 0) = true := bne_iff_ne.mpr c93
                     (first | rw [c93b0] | (simp only [i64_w, i32_w]; rw [c93b0]) | skip)
                     as_aux_lemma =>
                      have H' := Aside0.mk H
                      clear H
                      go_wp2
                      go_meet
                      case rel => exact ⟨_, (true), (by first | rfl | (simp; done) | (simp [*]; done)), H', ⟨by have := HJ6.out; have := HJ22.out; have := HJ37.out; have := HJ59.out; have := HJ61.out; have := HJ76.out; first | omega | exact Nat.le_refl _⟩, ⟨by exact Ho.RS <| HO_134002.out⟩, ⟨by exact bS BK106.out⟩, ⟨by exact bS BK133.out⟩, ⟨by exact bS BK134.out⟩, ⟨by exact bS BK135.out⟩, ⟨by exact eS HB.out⟩⟩
                    rw [if_pos c93] at H
                    have c93b0 : (t142 == 0) = true := beq_iff_eq.mpr c93
                    have c93b1 : (t142 != 0) = false := bne_eq_false_iff_eq.mpr c93
                    clear c93
                    (first | rw [c93b0] | (simp only [i64_w, i32_w]; rw [c93b0]) | skip)
                    as_aux_lemma =>
                     have H' := Aside0.mk H
                     clear H
                     go_wp2
                     go_meet
                     case rel => exact ⟨_, ((t143 != 0)), (by first | rfl | (simp; done) | (simp [*]; done)), H', ⟨by have := HJ6.out; have := HJ22.out; have := HJ37.out; have := HJ59.out; have := HJ61.out; have := HJ76.out; first | omega | exact Nat.le_refl _⟩, ⟨by exact Ho.RS <| HO_134002.out⟩, ⟨by exact bS BK106.out⟩, ⟨by exact bS BK133.out⟩, ⟨by exact bS BK134.out⟩, ⟨by exact bS BK135.out⟩, ⟨by exact eS HB.out⟩⟩
                   case rest =>
                    clear HC81
                    try clear c1
                    try clear c2
                    try clear p2
                    try clear c3
                    try clear c4
                    try clear c5
                    try clear c6
                    try clear p6
                    try clear c7
                    try clear c8
                    try clear c9
                    try clear c14
                    try clear c14b0
                    try clear c14b1
                    try clear c15
                    try clear c15b0
                    try clear c15b1
                    try clear c16
                    try clear c16b0
                    try clear c16b1
                    try clear c16b2
                    try clear c20
                    try clear c25
                    try clear c26
                    try clear c27
                    try clear c28
                    try clear c28b0
                    try clear c28b1
                    try clear c29
                    try clear c29b0
                    try clear c29b1
                    try clear c30
                    try clear c30b0
                    try clear c30b1
                    try clear c30b2
                    try clear c31
                    try clear c31b0
                    try clear c31b1
                    try clear c31b2
                    try clear c32
                    try clear c33
                    try clear c33b0
                    try clear c33b1
                    try clear c34
                    try clear c36
                    try clear c37
                    try clear c39
                    try clear c40
                    try clear c43
                    try clear c44
                    try clear c45
                    try clear c48
                    try clear c49
                    try clear c51
                    try clear c58
                    try clear c58b0
                    try clear c58b1
                    try clear c58b2
                    try clear c59
                    try clear c61
                    try clear c63
                    try clear p64
                    try clear c65
                    try clear c66
                    try clear c67
                    try clear c68
                    try clear c69
                    try clear c71
                    try clear c72
                    try clear c74
                    try clear c78
                    try clear c79
                    try clear c82
                    try clear c83
                    try clear c84
                    try clear c86
                    try clear c87
                    try clear c89
                    try clear c92
                    try clear c93
                    try clear c93b0
                    try clear c93b1
                    try clear hcz10_0
                    try clear hcz10_1
                    try clear hcz10_2
                    try clear hcz10_3
                    try clear hcz12_0
                    try clear hcz12_1
                    try clear hcz12_2
                    try clear hcz12_3
                    try clear hcz18_0
                    try clear hcz18_1
                    try clear hcz18_2
                    try clear hcz18_3
                    try clear hcz24_0
                    try clear hcz24_1
                    try clear hcz24_2
                    try clear hcz24_3
                    try clear hcz26_0
                    try clear hcz26_1
                    try clear hcz26_2
                    try clear hcz26_3
                    try clear hcz46_0
                    try clear hcz46_1
                    try clear hcz46_2
                    try clear hcz50_0
                    try clear hcz50_1
                    try clear hcz50_2
                    try clear hcz52_0
                    try clear hcz52_1
                    try clear hcz52_2
                    try clear hcz52_3
                    try clear hcz54_0
                    try clear hcz54_1
                    try clear hcz54_2
                    try clear hcz55_0
                    try clear hcz55_1
                    try clear hcz55_2
                    try clear hcz56_0
                    try clear hcz56_1
                    try clear hcz56_2
                    try clear hcz56_3
                    try clear hcz70_0
                    try clear hcz70_1
                    try clear hcz70_2
                    try clear hcz73_0
                    try clear hcz73_1
                    try clear hcz73_2
                    try clear hcz75_0
                    try clear hcz75_1
                    try clear hcz75_2
                    try clear hcz75_3
                    try clear hcz85_0
                    try clear hcz85_1
                    try clear hcz85_2
                    try clear hcz88_0
                    try clear hcz88_1
                    try clear hcz88_2
                    try clear hcz90_0
                    try clear hcz90_1
                    try clear hcz90_2
                    try clear hcz90_3
                    try clear hfz10_0
                    try clear hfz10_1
                    try clear hfz10_2
                    try clear hfz10_3
                    try clear hfz12_0
                    try clear hfz12_1
                    try clear hfz12_2
                    try clear hfz12_3
                    try clear hfz18_0
                    try clear hfz18_1
                    try clear hfz18_2
                    try clear hfz18_3
                    try clear hfz24_0
                    try clear hfz24_1
                    try clear hfz24_2
                    try clear hfz24_3
                    try clear hfz26_0
                    try clear hfz26_1
                    try clear hfz26_2
                    try clear hfz26_3
                    try clear hfz46_0
                    try clear hfz46_1
                    try clear hfz46_2
                    try clear hfz50_0
                    try clear hfz50_1
                    try clear hfz50_2
                    try clear hfz52_0
                    try clear hfz52_1
                    try clear hfz52_2
                    try clear hfz52_3
                    try clear hfz54_0
                    try clear hfz54_1
                    try clear hfz54_2
                    try clear hfz55_0
                    try clear hfz55_1
                    try clear hfz55_2
                    try clear hfz56_0
                    try clear hfz56_1
                    try clear hfz56_2
                    try clear hfz56_3
                    try clear hfz70_0
                    try clear hfz70_1
                    try clear hfz70_2
                    try clear hfz73_0
                    try clear hfz73_1
                    try clear hfz73_2
                    try clear hfz75_0
                    try clear hfz75_1
                    try clear hfz75_2
                    try clear hfz75_3
                    try clear hfz85_0
                    try clear hfz85_1
                    try clear hfz85_2
                    try clear hfz88_0
                    try clear hfz88_1
                    try clear hfz88_2
                    try clear hfz90_0
                    try clear hfz90_1
                    try clear hfz90_2
                    try clear hfz90_3
                    try clear p2
                    try clear p6
                    try clear p64
                    as_aux_lemma =>
                     obtain ⟨kq, x190_80, rfl, HA, HJ80, HO_134002, BK106, BK133, BK134, BK135, HB⟩ := hcut
                     cases kq with
                     | zero => exact absurd HA.out (by simp [laws_FnSkews.j6])
                     | succ kj80 =>
                      have H := HA.out
                      clear HA
                      simp only [laws_FnSkews.j6] at H
                      by_cases c94 : x190_80 = true
                      ·subst c94
                       have H1 : (some false) = some r := by rw [if_pos rfl] at H; exact H
                       clear H
                       have H := H1
                       clear H1
                       as_aux_lemma =>
                        exact absurd ((Option.some.inj H).trans HT.out) (by decide)
                      replace c94 := Bool.eq_false_iff.mpr c94
                      subst c94
                      have H1 : ((spec_DrawOffSize.f kj80 l0).bind fun bt145 => ((impl_OffSize.f kj80 bt145.1 bt145.2.1 bt145.2.2.1 bt145.2.2.2.1 bt145.2.2.2.2.1 bt145.2.2.2.2.2.1 bt145.2.2.2.2.2.2.1 bt145.2.2.2.2.2.2.2.1 bt145.2.2.2.2.2.2.2.2.1 bt145.2.2.2.2.2.2.2.2.2).bind fun bt160 => ((spec_OffSize.f kj80 bt145.1 bt145.2.1 bt145.2.2.1 bt145.2.2.2.1 bt145.2.2.2.2.1 bt145.2.2.2.2.2.1 bt145.2.2.2.2.2.2.1 bt145.2.2.2.2.2.2.2.1 bt145.2.2.2.2.2.2.2.2.1 bt145.2.2.2.2.2.2.2.2.2).bind fun bt163 => (if bt160.1 = bt163.1 then (if bt160.2.1 = bt163.2.1 then (some (bt160.2.2 == bt163.2.2)) else (some false)) else (some false))))) = some r := by rw [if_neg (show ¬ (false = true) by decide)] at H; exact H
                      clear H
                      have H := H1
                      clear H1
                      replace H := Option.bind_eq_some_iff.mp H
                      obtain ⟨⟨t145, t146, t147, t150, t151, t152, t153, t154, t155, t156⟩, A950, H⟩ := H
                      (try dsimp only at H)
                      have A95 := Aside0.mk A950
                      clear A950
                      replace H := Option.bind_eq_some_iff.mp H
                      obtain ⟨⟨t160, t161, t162⟩, A960, H⟩ := H
                      (try dsimp only at H)
                      have A96 := Aside0.mk A960
                      clear A960
                      replace H := Option.bind_eq_some_iff.mp H
                      obtain ⟨⟨t163, t164, t165⟩, A970, H⟩ := H
                      (try dsimp only at H)
                      have A97 := Aside0.mk A970
                      clear A970
                      by_cases c98 : t160 = t163
                      rotate_left
                      ·rw [if_neg c98] at H
                       have c98b0 : (t160 == t163) = false := beq_eq_false_iff_ne.mpr c98
                       have c98b1 : (t160 != t163) = true := bne_iff_ne.mpr c98
                       as_aux_lemma =>
                        exact absurd ((Option.some.inj H).trans HT.out) (by decide)
                      rw [if_pos c98] at H
                      have c98b0 : (t160 == t163) = true := beq_iff_eq.mpr c98
                      have c98b1 : (t160 != t163) = false := bne_eq_false_iff_eq.mpr c98
                      clear c98
                      by_cases c99 : t161 = t164
                      rotate_left
                      ·rw [if_neg c99] at H
                       have c99b0 : (t161 == t164) = false := beq_eq_false_iff_ne.mpr c99
                       have c99b1 : (t161 != t164) = true := bne_iff_ne.mpr c99
                       as_aux_lemma =>
                        exact absurd ((Option.some.inj H).trans HT.out) (by decide)
                      rw [if_pos c99] at H
                      have c99b0 : (t161 == t164) = true := beq_iff_eq.mpr c99
                      have c99b1 : (t161 != t164) = false := bne_eq_false_iff_eq.mpr c99
                      clear c99
                      as_aux_lemma =>
                       obtain rfl := Option.some.inj H
                       go_wp2_with (first | ((with_reducible refine gate_callee (f := 46) rfl ?_); refine goesL_ (some 193) rfl rfl Try.func46 (by kernel_rfl) rfl #[.slice A0 l0.length c0] rfl (by (try simp only [List.map_toArray, List.map_cons, List.map_nil]); first | done | rfl | (simp only [List.length_drop, List.length_take]; rfl)) ?_; (with_reducible refine (spec_DrawOffSize.calls kj80 _ _ l0 t145 t146 t147 t150 t151 t152 t153 t154 t155 t156 _ ?side1 ?side2 A95.out).mono ?_); (case side1 => repeat (first | exact (Kd.C_below HR0.out HB.out) | (with_reducible refine Kd.C_alloc ?_ _) | (with_reducible refine Kd.C_drewN ?_ _) | (with_reducible refine Kd.C_drew ?_))); (case side2 => exact HC0.out); rintro e w100 ⟨v148, rfl, ho0, hb⟩; refine ⟨_, rfl, ?_⟩; have n0_ := Aside0.mk (Kd.R_elder' (by exact Ho.RS <| HO_134002.out) (Kd.R_base ho0) hb); have n1_ := Aside0.mk (Kd.R_lower (Kd.R_new' ho0 (Kd.R_lt (by exact Ho.RS <| HO_134002.out))) (below_size (by exact eS HB.out))); have n2_ := Aside0.mk (blk_below (bS BK106.out) hb); have n3_ := Aside0.mk (blk_below (bS BK133.out) hb); have n4_ := Aside0.mk (blk_below (bS BK134.out) hb); have n5_ := Aside0.mk (blk_below (bS BK135.out) hb); have n6_ := Aside0.mk (below_step (by exact eS HB.out) hb); clear HO_134002; clear BK106; clear BK133; clear BK134; clear BK135; clear HB; have HO_134002 := n0_; have HO149 := n1_; have BK106 := n2_; have BK133 := n3_; have BK134 := n4_; have BK135 := n5_; have HB := n6_; clear n0_ n1_ n2_ n3_ n4_ n5_ n6_; (try clear hb); (try clear hb2); (try clear hk); (try clear hi); (try clear ho0)) | ((with_reducible refine gate_dst (N := 29) rfl ?_); refine box_event ?hg (N := 29) ?hd (cs := #[.int .i64 0, .int .i64 0, .slice none 0 0]) (t := 46) ?hr ?_; (case hd => rfl); (case hg => rfl); (case hr => first | (go_simp; done) | (go_simp; rfl)); intro gb157 hg w101 hbox hb; have n0_ := Aside0.mk (Kd.R_below (by exact Ho.RS <| HO_134002.out) hb); have n1_ := Aside0.mk (Kd.R_below (by exact Ho.RS <| HO149.out) hb); have n2_ := Aside0.mk (blk_below (bS BK106.out) hb); have n3_ := Aside0.mk (blk_below (bS BK133.out) hb); have n4_ := Aside0.mk (blk_below (bS BK134.out) hb); have n5_ := Aside0.mk (blk_below (bS BK135.out) hb); have n6_ := Aside0.mk (below_step (by exact eS HB.out) hb); have n7_ := Aside0.mk (hbox); have n8_ := Aside0.mk ((by rw [hg]; exact (below_size (by exact eS HB.out)) : w.heap.size ≤ gb157)); have n9_ := Aside0.mk ((by rw [hg]; exact (below_size (by exact eS HB.out)) : w.heap.size ≤ gb157)); have n10_ := Aside0.mk ((by rw [hg]; exact Nat.ne_of_lt (blk_lt (bS BK106.out)) : gb106 ≠ gb157)); have n11_ := Aside0.mk ((by rw [hg]; exact Nat.ne_of_gt (blk_lt (bS BK106.out)) : gb157 ≠ gb106)); have n12_ := Aside0.mk ((by rw [hg]; exact Nat.ne_of_lt (blk_lt (bS BK133.out)) : gb133 ≠ gb157)); have n13_ := Aside0.mk ((by rw [hg]; exact Nat.ne_of_gt (blk_lt (bS BK133.out)) : gb157 ≠ gb133)); have n14_ := Aside0.mk ((by rw [hg]; exact Nat.ne_of_lt (blk_lt (bS BK134.out)) : gb134 ≠ gb157)); have n15_ := Aside0.mk ((by rw [hg]; exact Nat.ne_of_gt (blk_lt (bS BK134.out)) : gb157 ≠ gb134)); have n16_ := Aside0.mk ((by rw [hg]; exact Nat.ne_of_lt (blk_lt (bS BK135.out)) : gb135 ≠ gb157)); have n17_ := Aside0.mk ((by rw [hg]; exact Nat.ne_of_gt (blk_lt (bS BK135.out)) : gb157 ≠ gb135)); clear HO_134002; clear HO149; clear BK106; clear BK133; clear BK134; clear BK135; clear HB; have HO_134002 := n0_; have HO149 := n1_; have BK106 := n2_; have BK133 := n3_; have BK134 := n4_; have BK135 := n5_; have HB := n6_; have BK157 := n7_; have GW157 := n8_; have GE157 := n9_; have NB106_157 := n10_; have NB157_106 := n11_; have NB133_157 := n12_; have NB157_133 := n13_; have NB134_157 := n14_; have NB157_134 := n15_; have NB135_157 := n16_; have NB157_135 := n17_; clear n0_ n1_ n2_ n3_ n4_ n5_ n6_ n7_ n8_ n9_ n10_ n11_ n12_ n13_ n14_ n15_ n16_ n17_; clear hb hbox hg) | ((with_reducible refine gate_dst (N := 30) rfl ?_); refine box_event ?hg (N := 30) ?hd (cs := #[.int .i64 0, .int .i64 0, .int .i64 0]) (t := 25) ?hr ?_; (case hd => rfl); (case hg => rfl); (case hr => first | (go_simp; done) | (go_simp; rfl)); intro gb158 hg w102 hbox hb; have n0_ := Aside0.mk (Kd.R_below (by exact Ho.RS <| HO_134002.out) hb); have n1_ := Aside0.mk (Kd.R_below (by exact Ho.RS <| HO149.out) hb); have n2_ := Aside0.mk (blk_below (bS BK106.out) hb); have n3_ := Aside0.mk (blk_below (bS BK133.out) hb); have n4_ := Aside0.mk (blk_below (bS BK134.out) hb); have n5_ := Aside0.mk (blk_below (bS BK135.out) hb); have n6_ := Aside0.mk (blk_below (bS BK157.out) hb); have n7_ := Aside0.mk (below_step (by exact eS HB.out) hb); have n8_ := Aside0.mk (hbox); have n9_ := Aside0.mk ((by rw [hg]; exact (below_size (by exact eS HB.out)) : w.heap.size ≤ gb158)); have n10_ := Aside0.mk ((by rw [hg]; exact (below_size (by exact eS HB.out)) : w.heap.size ≤ gb158)); have n11_ := Aside0.mk ((by rw [hg]; exact Nat.ne_of_lt (blk_lt (bS BK106.out)) : gb106 ≠ gb158)); have n12_ := Aside0.mk ((by rw [hg]; exact Nat.ne_of_gt (blk_lt (bS BK106.out)) : gb158 ≠ gb106)); have n13_ := Aside0.mk ((by rw [hg]; exact Nat.ne_of_lt (blk_lt (bS BK133.out)) : gb133 ≠ gb158)); have n14_ := Aside0.mk ((by rw [hg]; exact Nat.ne_of_gt (blk_lt (bS BK133.out)) : gb158 ≠ gb133)); have n15_ := Aside0.mk ((by rw [hg]; exact Nat.ne_of_lt (blk_lt (bS BK134.out)) : gb134 ≠ gb158)); have n16_ := Aside0.mk ((by rw [hg]; exact Nat.ne_of_gt (blk_lt (bS BK134.out)) : gb158 ≠ gb134)); have n17_ := Aside0.mk ((by rw [hg]; exact Nat.ne_of_lt (blk_lt (bS BK135.out)) : gb135 ≠ gb158)); have n18_ := Aside0.mk ((by rw [hg]; exact Nat.ne_of_gt (blk_lt (bS BK135.out)) : gb158 ≠ gb135)); have n19_ := Aside0.mk ((by rw [hg]; exact Nat.ne_of_lt (blk_lt (bS BK157.out)) : gb157 ≠ gb158)); have n20_ := Aside0.mk ((by rw [hg]; exact Nat.ne_of_gt (blk_lt (bS BK157.out)) : gb158 ≠ gb157)); clear HO_134002; clear HO149; clear BK106; clear BK133; clear BK134; clear BK135; clear BK157; clear HB; have HO_134002 := n0_; have HO149 := n1_; have BK106 := n2_; have BK133 := n3_; have BK134 := n4_; have BK135 := n5_; have BK157 := n6_; have HB := n7_; have BK158 := n8_; have GW158 := n9_; have GE158 := n10_; have NB106_158 := n11_; have NB158_106 := n12_; have NB133_158 := n13_; have NB158_133 := n14_; have NB134_158 := n15_; have NB158_134 := n16_; have NB135_158 := n17_; have NB158_135 := n18_; have NB157_158 := n19_; have NB158_157 := n20_; clear n0_ n1_ n2_ n3_ n4_ n5_ n6_ n7_ n8_ n9_ n10_ n11_ n12_ n13_ n14_ n15_ n16_ n17_ n18_ n19_ n20_; clear hb hbox hg) | ((with_reducible refine gate_dst (N := 31) rfl ?_); refine box_event ?hg (N := 31) ?hd (cs := #[.int .i64 0, .int .i64 0, .int .i64 0, .int .i64 0]) (t := 36) ?hr ?_; (case hd => rfl); (case hg => rfl); (case hr => first | (go_simp; done) | (go_simp; rfl)); intro gb159 hg w103 hbox hb; have n0_ := Aside0.mk (Kd.R_below (by exact Ho.RS <| HO_134002.out) hb); have n1_ := Aside0.mk (Kd.R_below (by exact Ho.RS <| HO149.out) hb); have n2_ := Aside0.mk (blk_below (bS BK106.out) hb); have n3_ := Aside0.mk (blk_below (bS BK133.out) hb); have n4_ := Aside0.mk (blk_below (bS BK134.out) hb); have n5_ := Aside0.mk (blk_below (bS BK135.out) hb); have n6_ := Aside0.mk (blk_below (bS BK157.out) hb); have n7_ := Aside0.mk (blk_below (bS BK158.out) hb); have n8_ := Aside0.mk (below_step (by exact eS HB.out) hb); have n9_ := Aside0.mk (hbox); have n10_ := Aside0.mk ((by rw [hg]; exact (below_size (by exact eS HB.out)) : w.heap.size ≤ gb159)); have n11_ := Aside0.mk ((by rw [hg]; exact (below_size (by exact eS HB.out)) : w.heap.size ≤ gb159)); have n12_ := Aside0.mk ((by rw [hg]; exact Nat.ne_of_lt (blk_lt (bS BK106.out)) : gb106 ≠ gb159)); have n13_ := Aside0.mk ((by rw [hg]; exact Nat.ne_of_gt (blk_lt (bS BK106.out)) : gb159 ≠ gb106)); have n14_ := Aside0.mk ((by rw [hg]; exact Nat.ne_of_lt (blk_lt (bS BK133.out)) : gb133 ≠ gb159)); have n15_ := Aside0.mk ((by rw [hg]; exact Nat.ne_of_gt (blk_lt (bS BK133.out)) : gb159 ≠ gb133)); have n16_ := Aside0.mk ((by rw [hg]; exact Nat.ne_of_lt (blk_lt (bS BK134.out)) : gb134 ≠ gb159)); have n17_ := Aside0.mk ((by rw [hg]; exact Nat.ne_of_gt (blk_lt (bS BK134.out)) : gb159 ≠ gb134)); have n18_ := Aside0.mk ((by rw [hg]; exact Nat.ne_of_lt (blk_lt (bS BK135.out)) : gb135 ≠ gb159)); have n19_ := Aside0.mk ((by rw [hg]; exact Nat.ne_of_gt (blk_lt (bS BK135.out)) : gb159 ≠ gb135)); have n20_ := Aside0.mk ((by rw [hg]; exact Nat.ne_of_lt (blk_lt (bS BK157.out)) : gb157 ≠ gb159)); have n21_ := Aside0.mk ((by rw [hg]; exact Nat.ne_of_gt (blk_lt (bS BK157.out)) : gb159 ≠ gb157)); have n22_ := Aside0.mk ((by rw [hg]; exact Nat.ne_of_lt (blk_lt (bS BK158.out)) : gb158 ≠ gb159)); have n23_ := Aside0.mk ((by rw [hg]; exact Nat.ne_of_gt (blk_lt (bS BK158.out)) : gb159 ≠ gb158)); clear HO_134002; clear HO149; clear BK106; clear BK133; clear BK134; clear BK135; clear BK157; clear BK158; clear HB; have HO_134002 := n0_; have HO149 := n1_; have BK106 := n2_; have BK133 := n3_; have BK134 := n4_; have BK135 := n5_; have BK157 := n6_; have BK158 := n7_; have HB := n8_; have BK159 := n9_; have GW159 := n10_; have GE159 := n11_; have NB106_159 := n12_; have NB159_106 := n13_; have NB133_159 := n14_; have NB159_133 := n15_; have NB134_159 := n16_; have NB159_134 := n17_; have NB135_159 := n18_; have NB159_135 := n19_; have NB157_159 := n20_; have NB159_157 := n21_; have NB158_159 := n22_; have NB159_158 := n23_; clear n0_ n1_ n2_ n3_ n4_ n5_ n6_ n7_ n8_ n9_ n10_ n11_ n12_ n13_ n14_ n15_ n16_ n17_ n18_ n19_ n20_ n21_ n22_ n23_; clear hb hbox hg; have hnb104 := NB157_106.out; have hnc104 := NB106_157.out; have hnb105 := NB157_133.out; have hnc105 := NB133_157.out; have hnb106 := NB157_134.out; have hnc106 := NB134_157.out; have hnb107 := NB157_135.out; have hnc107 := NB135_157.out; have hnb108 := NB157_158.out; have hnc108 := NB158_157.out; have hnb109 := NB157_159.out; have hnc109 := NB159_157.out; obtain ⟨hcz110_0, hcz110_1, hcz110_2, hfz110_0, hfz110_1, hfz110_2⟩ := Sq.c3 BK157.out; obtain ⟨Ao111, co111, eo111⟩ := Kd.R_slice HO149.out; subst eo111; have hnb112 := NB158_106.out; have hnc112 := NB106_158.out; have hnb113 := NB158_133.out; have hnc113 := NB133_158.out; have hnb114 := NB158_134.out; have hnc114 := NB134_158.out; have hnb115 := NB158_135.out; have hnc115 := NB135_158.out; have hnb116 := NB158_159.out; have hnc116 := NB159_158.out; obtain ⟨hcz117_0, hcz117_1, hcz117_2, hfz117_0, hfz117_1, hfz117_2⟩ := Sq.c3 BK158.out; have hnb118 := NB159_106.out; have hnc118 := NB106_159.out; have hnb119 := NB159_133.out; have hnc119 := NB133_159.out; have hnb120 := NB159_134.out; have hnc120 := NB134_159.out; have hnb121 := NB159_135.out; have hnc121 := NB135_159.out; obtain ⟨hcz122_0, hcz122_1, hcz122_2, hcz122_3, hfz122_0, hfz122_1, hfz122_2, hfz122_3⟩ := Sq.c4 BK159.out) | ((with_reducible refine gate_store (t := 25) (p := 30) rfl ?_); (fail_if_success guard_hyp GEN7_ : True); refine laws_FnSkews.gen_ (R := fun w1_ => Kd.R (Kd.int .i64) 3 w1_ w.heap.size (fun k_ => True) (.slice Ao47 t122.length co47) t122 ∧ Kd.R (Kd.int .i64) 3 w1_ w.heap.size (fun k_ => True) (.slice Ao111 t147.length co111) t147 ∧ w1_.heap[gb106]? = some (.cells #[.int .i64 t102, .int .i64 t103, .int .i64 t104, .int .i64 t105] 36 (0, 0)) ∧ w1_.heap[gb133]? = some (.cells #[.int .i64 t120, .int .i64 t121, .slice Ao47 t122.length co47] 46 (0, 0)) ∧ w1_.heap[gb134]? = some (.cells #[.int .i64 t125, .int .i64 t126, .int .i64 t127] 25 (0, 0)) ∧ w1_.heap[gb135]? = some (.cells #[.int .i64 t128, .int .i64 t129, .int .i64 t130, .int .i64 t131] 36 (0, 0)) ∧ w1_.heap[gb157]? = some (.cells #[.int .i64 t145, .int .i64 t146, .slice Ao111 t147.length co111] 46 (0, 0)) ∧ w1_.heap[gb158]? = some (.cells #[.int .i64 0, .int .i64 0, .int .i64 0] 25 (0, 0)) ∧ w1_.heap[gb159]? = some (.cells #[.int .i64 0, .int .i64 0, .int .i64 0, .int .i64 0] 36 (0, 0)) ∧ Below w.heap.size w w1_) ⟨Kd.R_mono (Kd.R_far (p := ⟨gb157, 2, none⟩) (Kd.R_far (p := ⟨gb157, 1, none⟩) (Kd.R_far (p := ⟨gb157, 0, none⟩) (Kd.R_types (by exact Ho.RS <| HO_134002.out) (by exact bS BK157.out) (by decide)) (fun _ hk => hk.2) (.int .i64 t145)) (fun _ hk => hk.2) (.int .i64 t146)) (fun _ hk => hk.2) (.slice Ao111 t147.length co111)) (fun _ _ => trivial), Kd.R_mono (Kd.R_far (p := ⟨gb157, 2, none⟩) (Kd.R_far (p := ⟨gb157, 1, none⟩) (Kd.R_far (p := ⟨gb157, 0, none⟩) (Kd.R_types (by exact Ho.RS <| HO149.out) (by exact bS BK157.out) (by decide)) (fun _ hk => hk.2) (.int .i64 t145)) (fun _ hk => hk.2) (.int .i64 t146)) (fun _ hk => hk.2) (.slice Ao111 t147.length co111)) (fun _ _ => trivial), (by repeat (first | exact bS BK106.out | refine blk_far ?_ NB106_157.out _)), (by repeat (first | exact bS BK133.out | refine blk_far ?_ NB133_157.out _)), (by repeat (first | exact bS BK134.out | refine blk_far ?_ NB134_157.out _)), (by repeat (first | exact bS BK135.out | refine blk_far ?_ NB135_157.out _)), (by apply Sq.put3; exact bS BK157.out), (by repeat (first | exact bS BK158.out | refine blk_far ?_ NB158_157.out _)), (by repeat (first | exact bS BK159.out | refine blk_far ?_ NB159_157.out _)), (by repeat (first | (with_reducible exact HB.out) | refine below_set ?_ GE157.out | exact eS HB.out))⟩ ?_; intro wg7_ hR_; have GEN7_ := True.intro; obtain ⟨g1_, g2_, g3_, g4_, g5_, g6_, g7_, g8_, g9_, g10_⟩ := hR_; clear HO_134002 HO149 BK106 BK133 BK134 BK135 BK157 BK158 BK159 HB; (try clear hcz110_0); (try clear hcz110_1); (try clear hcz110_2); (try clear hfz110_0); (try clear hfz110_1); (try clear hfz110_2); (try clear hcz117_0); (try clear hcz117_1); (try clear hcz117_2); (try clear hfz117_0); (try clear hfz117_1); (try clear hfz117_2); (try clear hcz122_0); (try clear hcz122_1); (try clear hcz122_2); (try clear hcz122_3); (try clear hfz122_0); (try clear hfz122_1); (try clear hfz122_2); (try clear hfz122_3); have HO_134002 := Aside0.mk g1_; have HO149 := Aside0.mk g2_; have BK106 := Aside0.mk g3_; have BK133 := Aside0.mk g4_; have BK134 := Aside0.mk g5_; have BK135 := Aside0.mk g6_; have BK157 := Aside0.mk g7_; have BK158 := Aside0.mk g8_; have BK159 := Aside0.mk g9_; have HB := Aside0.mk g10_; clear g1_ g2_ g3_ g4_ g5_ g6_ g7_ g8_ g9_ g10_; obtain ⟨hcz709_0, hcz709_1, hcz709_2, hfz709_0, hfz709_1, hfz709_2⟩ := Sq.c3 BK157.out; obtain ⟨hcz719_0, hcz719_1, hcz719_2, hfz719_0, hfz719_1, hfz719_2⟩ := Sq.c3 BK158.out; obtain ⟨hcz729_0, hcz729_1, hcz729_2, hcz729_3, hfz729_0, hfz729_1, hfz729_2, hfz729_3⟩ := Sq.c4 BK159.out) | ((with_reducible refine gate_store (t := 36) (p := 31) rfl ?_); (fail_if_success guard_hyp GEN8_ : True); refine laws_FnSkews.gen_ (R := fun w1_ => Kd.R (Kd.int .i64) 3 w1_ w.heap.size (fun k_ => True) (.slice Ao47 t122.length co47) t122 ∧ Kd.R (Kd.int .i64) 3 w1_ w.heap.size (fun k_ => True) (.slice Ao111 t147.length co111) t147 ∧ w1_.heap[gb106]? = some (.cells #[.int .i64 t102, .int .i64 t103, .int .i64 t104, .int .i64 t105] 36 (0, 0)) ∧ w1_.heap[gb133]? = some (.cells #[.int .i64 t120, .int .i64 t121, .slice Ao47 t122.length co47] 46 (0, 0)) ∧ w1_.heap[gb134]? = some (.cells #[.int .i64 t125, .int .i64 t126, .int .i64 t127] 25 (0, 0)) ∧ w1_.heap[gb135]? = some (.cells #[.int .i64 t128, .int .i64 t129, .int .i64 t130, .int .i64 t131] 36 (0, 0)) ∧ w1_.heap[gb157]? = some (.cells #[.int .i64 t145, .int .i64 t146, .slice Ao111 t147.length co111] 46 (0, 0)) ∧ w1_.heap[gb158]? = some (.cells #[.int .i64 t150, .int .i64 t151, .int .i64 t152] 25 (0, 0)) ∧ w1_.heap[gb159]? = some (.cells #[.int .i64 0, .int .i64 0, .int .i64 0, .int .i64 0] 36 (0, 0)) ∧ Below w.heap.size w w1_) ⟨Kd.R_mono (Kd.R_far (p := ⟨gb158, 2, none⟩) (Kd.R_far (p := ⟨gb158, 1, none⟩) (Kd.R_far (p := ⟨gb158, 0, none⟩) (Kd.R_types (by exact Ho.RS <| HO_134002.out) (by exact bS BK158.out) (by decide)) (fun _ hk => hk.2) (.int .i64 t150)) (fun _ hk => hk.2) (.int .i64 t151)) (fun _ hk => hk.2) (.int .i64 t152)) (fun _ _ => trivial), Kd.R_mono (Kd.R_far (p := ⟨gb158, 2, none⟩) (Kd.R_far (p := ⟨gb158, 1, none⟩) (Kd.R_far (p := ⟨gb158, 0, none⟩) (Kd.R_types (by exact Ho.RS <| HO149.out) (by exact bS BK158.out) (by decide)) (fun _ hk => hk.2) (.int .i64 t150)) (fun _ hk => hk.2) (.int .i64 t151)) (fun _ hk => hk.2) (.int .i64 t152)) (fun _ _ => trivial), (by repeat (first | exact bS BK106.out | refine blk_far ?_ NB106_158.out _)), (by repeat (first | exact bS BK133.out | refine blk_far ?_ NB133_158.out _)), (by repeat (first | exact bS BK134.out | refine blk_far ?_ NB134_158.out _)), (by repeat (first | exact bS BK135.out | refine blk_far ?_ NB135_158.out _)), (by repeat (first | exact bS BK157.out | refine blk_far ?_ NB157_158.out _)), (by apply Sq.put3; exact bS BK158.out), (by repeat (first | exact bS BK159.out | refine blk_far ?_ NB159_158.out _)), (by repeat (first | (with_reducible exact HB.out) | refine below_set ?_ GE158.out | exact eS HB.out))⟩ ?_; intro wg8_ hR_; have GEN8_ := True.intro; obtain ⟨g1_, g2_, g3_, g4_, g5_, g6_, g7_, g8_, g9_, g10_⟩ := hR_; clear HO_134002 HO149 BK106 BK133 BK134 BK135 BK157 BK158 BK159 HB; (try clear hcz709_0); (try clear hcz709_1); (try clear hcz709_2); (try clear hfz709_0); (try clear hfz709_1); (try clear hfz709_2); (try clear hcz719_0); (try clear hcz719_1); (try clear hcz719_2); (try clear hfz719_0); (try clear hfz719_1); (try clear hfz719_2); (try clear hcz729_0); (try clear hcz729_1); (try clear hcz729_2); (try clear hcz729_3); (try clear hfz729_0); (try clear hfz729_1); (try clear hfz729_2); (try clear hfz729_3); have HO_134002 := Aside0.mk g1_; have HO149 := Aside0.mk g2_; have BK106 := Aside0.mk g3_; have BK133 := Aside0.mk g4_; have BK134 := Aside0.mk g5_; have BK135 := Aside0.mk g6_; have BK157 := Aside0.mk g7_; have BK158 := Aside0.mk g8_; have BK159 := Aside0.mk g9_; have HB := Aside0.mk g10_; clear g1_ g2_ g3_ g4_ g5_ g6_ g7_ g8_ g9_ g10_; obtain ⟨hcz809_0, hcz809_1, hcz809_2, hfz809_0, hfz809_1, hfz809_2⟩ := Sq.c3 BK157.out; obtain ⟨hcz819_0, hcz819_1, hcz819_2, hfz819_0, hfz819_1, hfz819_2⟩ := Sq.c3 BK158.out; obtain ⟨hcz829_0, hcz829_1, hcz829_2, hcz829_3, hfz829_0, hfz829_1, hfz829_2, hfz829_3⟩ := Sq.c4 BK159.out) | ((with_reducible refine gate_dst (N := 198) rfl ?_); (fail_if_success guard_hyp GEN9_ : True); refine laws_FnSkews.gen_ (R := fun w1_ => Kd.R (Kd.int .i64) 3 w1_ w.heap.size (fun k_ => True) (.slice Ao47 t122.length co47) t122 ∧ Kd.R (Kd.int .i64) 3 w1_ w.heap.size (fun k_ => True) (.slice Ao111 t147.length co111) t147 ∧ w1_.heap[gb106]? = some (.cells #[.int .i64 t102, .int .i64 t103, .int .i64 t104, .int .i64 t105] 36 (0, 0)) ∧ w1_.heap[gb133]? = some (.cells #[.int .i64 t120, .int .i64 t121, .slice Ao47 t122.length co47] 46 (0, 0)) ∧ w1_.heap[gb134]? = some (.cells #[.int .i64 t125, .int .i64 t126, .int .i64 t127] 25 (0, 0)) ∧ w1_.heap[gb135]? = some (.cells #[.int .i64 t128, .int .i64 t129, .int .i64 t130, .int .i64 t131] 36 (0, 0)) ∧ w1_.heap[gb157]? = some (.cells #[.int .i64 t145, .int .i64 t146, .slice Ao111 t147.length co111] 46 (0, 0)) ∧ w1_.heap[gb158]? = some (.cells #[.int .i64 t150, .int .i64 t151, .int .i64 t152] 25 (0, 0)) ∧ w1_.heap[gb159]? = some (.cells #[.int .i64 t153, .int .i64 t154, .int .i64 t155, .int .i64 t156] 36 (0, 0)) ∧ Below w.heap.size w w1_) ⟨Kd.R_mono (Kd.R_far (p := ⟨gb159, 3, none⟩) (Kd.R_far (p := ⟨gb159, 2, none⟩) (Kd.R_far (p := ⟨gb159, 1, none⟩) (Kd.R_far (p := ⟨gb159, 0, none⟩) (Kd.R_types (by exact Ho.RS <| HO_134002.out) (by exact bS BK159.out) (by decide)) (fun _ hk => hk.2) (.int .i64 t153)) (fun _ hk => hk.2) (.int .i64 t154)) (fun _ hk => hk.2) (.int .i64 t155)) (fun _ hk => hk.2) (.int .i64 t156)) (fun _ _ => trivial), Kd.R_mono (Kd.R_far (p := ⟨gb159, 3, none⟩) (Kd.R_far (p := ⟨gb159, 2, none⟩) (Kd.R_far (p := ⟨gb159, 1, none⟩) (Kd.R_far (p := ⟨gb159, 0, none⟩) (Kd.R_types (by exact Ho.RS <| HO149.out) (by exact bS BK159.out) (by decide)) (fun _ hk => hk.2) (.int .i64 t153)) (fun _ hk => hk.2) (.int .i64 t154)) (fun _ hk => hk.2) (.int .i64 t155)) (fun _ hk => hk.2) (.int .i64 t156)) (fun _ _ => trivial), (by repeat (first | exact bS BK106.out | refine blk_far ?_ NB106_159.out _)), (by repeat (first | exact bS BK133.out | refine blk_far ?_ NB133_159.out _)), (by repeat (first | exact bS BK134.out | refine blk_far ?_ NB134_159.out _)), (by repeat (first | exact bS BK135.out | refine blk_far ?_ NB135_159.out _)), (by repeat (first | exact bS BK157.out | refine blk_far ?_ NB157_159.out _)), (by repeat (first | exact bS BK158.out | refine blk_far ?_ NB158_159.out _)), (by apply Sq.put4; exact bS BK159.out), (by repeat (first | (with_reducible exact HB.out) | refine below_set ?_ GE159.out | exact eS HB.out))⟩ ?_; intro wg9_ hR_; have GEN9_ := True.intro; obtain ⟨g1_, g2_, g3_, g4_, g5_, g6_, g7_, g8_, g9_, g10_⟩ := hR_; clear HO_134002 HO149 BK106 BK133 BK134 BK135 BK157 BK158 BK159 HB; (try clear hcz809_0); (try clear hcz809_1); (try clear hcz809_2); (try clear hfz809_0); (try clear hfz809_1); (try clear hfz809_2); (try clear hcz819_0); (try clear hcz819_1); (try clear hcz819_2); (try clear hfz819_0); (try clear hfz819_1); (try clear hfz819_2); (try clear hcz829_0); (try clear hcz829_1); (try clear hcz829_2); (try clear hcz829_3); (try clear hfz829_0); (try clear hfz829_1); (try clear hfz829_2); (try clear hfz829_3); have HO_134002 := Aside0.mk g1_; have HO149 := Aside0.mk g2_; have BK106 := Aside0.mk g3_; have BK133 := Aside0.mk g4_; have BK134 := Aside0.mk g5_; have BK135 := Aside0.mk g6_; have BK157 := Aside0.mk g7_; have BK158 := Aside0.mk g8_; have BK159 := Aside0.mk g9_; have HB := Aside0.mk g10_; clear g1_ g2_ g3_ g4_ g5_ g6_ g7_ g8_ g9_ g10_; obtain ⟨hcz909_0, hcz909_1, hcz909_2, hfz909_0, hfz909_1, hfz909_2⟩ := Sq.c3 BK157.out; obtain ⟨hcz919_0, hcz919_1, hcz919_2, hfz919_0, hfz919_1, hfz919_2⟩ := Sq.c3 BK158.out; obtain ⟨hcz929_0, hcz929_1, hcz929_2, hcz929_3, hfz929_0, hfz929_1, hfz929_2, hfz929_3⟩ := Sq.c4 BK159.out) | ((with_reducible refine gate_callee (f := 39) rfl ?_); refine goesL_ (some 201) rfl rfl Try.func39 (by kernel_rfl) rfl #[.agg #[.int .i64 t145, .int .i64 t146, .slice Ao111 t147.length co111], .agg #[.int .i64 t150, .int .i64 t151, .int .i64 t152], .agg #[.int .i64 t153, .int .i64 t154, .int .i64 t155, .int .i64 t156]] rfl (by (try simp only [List.map_toArray, List.map_cons, List.map_nil]); first | done | rfl | (simp only [List.length_drop, List.length_take]; rfl)) ?_; (with_reducible refine (impl_OffSize.calls kj80 t145 t146 _ _ t147 t150 t151 t152 t153 t154 t155 t156 t160 t161 t162 _ ?side1 ?side2 A96.out).mono ?_); (case side1 => repeat (first | exact (Kd.R_reads' HO149.out).2.2 | (with_reducible refine Kd.C_alloc ?_ _) | (with_reducible refine Kd.C_drewN ?_ _) | (with_reducible refine Kd.C_drew ?_))); (case side2 => exact (Kd.R_reads' HO149.out).2.1); (try clear hcz909_0); (try clear hcz909_1); (try clear hcz909_2); (try clear hfz909_0); (try clear hfz909_1); (try clear hfz909_2); (try clear hcz919_0); (try clear hcz919_1); (try clear hcz919_2); (try clear hfz919_0); (try clear hfz919_1); (try clear hfz919_2); (try clear hcz929_0); (try clear hcz929_1); (try clear hcz929_2); (try clear hcz929_3); (try clear hfz929_0); (try clear hfz929_1); (try clear hfz929_2); (try clear hfz929_3); rintro e w123 ⟨rfl, hb⟩; refine ⟨_, rfl, ?_⟩; have n0_ := Aside0.mk (Kd.R_below (by exact Ho.RS <| HO_134002.out) hb); have n1_ := Aside0.mk (Kd.R_below (by exact Ho.RS <| HO149.out) hb); have n2_ := Aside0.mk (blk_below (bS BK106.out) hb); have n3_ := Aside0.mk (blk_below (bS BK133.out) hb); have n4_ := Aside0.mk (blk_below (bS BK134.out) hb); have n5_ := Aside0.mk (blk_below (bS BK135.out) hb); have n6_ := Aside0.mk (blk_below (bS BK157.out) hb); have n7_ := Aside0.mk (blk_below (bS BK158.out) hb); have n8_ := Aside0.mk (blk_below (bS BK159.out) hb); have n9_ := Aside0.mk (below_step (by exact eS HB.out) hb); clear HO_134002; clear HO149; clear BK106; clear BK133; clear BK134; clear BK135; clear BK157; clear BK158; clear BK159; clear HB; have HO_134002 := n0_; have HO149 := n1_; have BK106 := n2_; have BK133 := n3_; have BK134 := n4_; have BK135 := n5_; have BK157 := n6_; have BK158 := n7_; have BK159 := n8_; have HB := n9_; clear n0_ n1_ n2_ n3_ n4_ n5_ n6_ n7_ n8_ n9_; (try clear hb); (try clear hb2); (try clear hk); (try clear hi); obtain ⟨hcz124_0, hcz124_1, hcz124_2, hfz124_0, hfz124_1, hfz124_2⟩ := Sq.c3 BK157.out; obtain ⟨hcz125_0, hcz125_1, hcz125_2, hfz125_0, hfz125_1, hfz125_2⟩ := Sq.c3 BK158.out; obtain ⟨hcz126_0, hcz126_1, hcz126_2, hcz126_3, hfz126_0, hfz126_1, hfz126_2, hfz126_3⟩ := Sq.c4 BK159.out) | ((with_reducible refine gate_callee (f := 38) rfl ?_); refine goesL_ (some 209) rfl rfl Try.func38 (by kernel_rfl) rfl #[.agg #[.int .i64 t145, .int .i64 t146, .slice Ao111 t147.length co111], .agg #[.int .i64 t150, .int .i64 t151, .int .i64 t152], .agg #[.int .i64 t153, .int .i64 t154, .int .i64 t155, .int .i64 t156]] rfl (by (try simp only [List.map_toArray, List.map_cons, List.map_nil]); first | done | rfl | (simp only [List.length_drop, List.length_take]; rfl)) ?_; (with_reducible refine (spec_OffSize.calls kj80 t145 t146 _ _ t147 t150 t151 t152 t153 t154 t155 t156 t163 t164 t165 _ ?side1 ?side2 A97.out).mono ?_); (case side1 => repeat (first | exact (Kd.R_reads' HO149.out).2.2 | (with_reducible refine Kd.C_alloc ?_ _) | (with_reducible refine Kd.C_drewN ?_ _) | (with_reducible refine Kd.C_drew ?_))); (case side2 => exact (Kd.R_reads' HO149.out).2.1); rintro e w127 ⟨rfl, hb⟩; refine ⟨_, rfl, ?_⟩; have n0_ := Aside0.mk (Kd.R_below (by exact Ho.RS <| HO_134002.out) hb); have n1_ := Aside0.mk (Kd.R_below (by exact Ho.RS <| HO149.out) hb); have n2_ := Aside0.mk (blk_below (bS BK106.out) hb); have n3_ := Aside0.mk (blk_below (bS BK133.out) hb); have n4_ := Aside0.mk (blk_below (bS BK134.out) hb); have n5_ := Aside0.mk (blk_below (bS BK135.out) hb); have n6_ := Aside0.mk (blk_below (bS BK157.out) hb); have n7_ := Aside0.mk (blk_below (bS BK158.out) hb); have n8_ := Aside0.mk (blk_below (bS BK159.out) hb); have n9_ := Aside0.mk (below_step (by exact eS HB.out) hb); clear HO_134002; clear HO149; clear BK106; clear BK133; clear BK134; clear BK135; clear BK157; clear BK158; clear BK159; clear HB; have HO_134002 := n0_; have HO149 := n1_; have BK106 := n2_; have BK133 := n3_; have BK134 := n4_; have BK135 := n5_; have BK157 := n6_; have BK158 := n7_; have BK159 := n8_; have HB := n9_; clear n0_ n1_ n2_ n3_ n4_ n5_ n6_ n7_ n8_ n9_; (try clear hb); (try clear hb2); (try clear hk); (try clear hi)))
                       go_ret
                       exact ⟨by first | rfl | (simp [errW_none, errW_some] <;> rfl) | (simp [*, errW_none, errW_some] <;> rfl), by exact eS HB.out⟩
/-- THE ONE PURE STATEMENT of laws_FnSkews: yours. -/
def laws_FnSkews.Pure : Prop := ∀ (l0 : List Int), (l0.length ≤ 9223372036854775807 ∧ ∀ y_ ∈ l0, (Lit.int .u8 y_).wf = true) → ∃ k, laws_FnSkews.f k l0 = some true

end Go.Proofs.Ytgohfbelppokcaa.X

-- Qbase
namespace Go.Proofs.Ytgohfbelppokcaa.Pure
open Go Go.RowKit Go.Proofs Go.Proofs.YtgohfbelppokcaaW.PrintWords Go.Proofs.YtgohfbelppokcaaW.PrintLast
set_option linter.unusedVariables false
set_option linter.unusedSimpArgs false

theorem w64 {x : Int} (h1 : -9223372036854775808 ≤ x) (h2 : x ≤ 9223372036854775807) : wrap64 x = x := by unfold wrap64; omega
theorem ite_sf (a b : Bool) : (if a = true then some b else some false) = some (a && b) := by cases a <;> rfl
/-- a product of two numbers within bounds -/
theorem mul_bd {a b A B : Int} (ha : 0 ≤ a) (hA : a ≤ A) (hb : 0 ≤ b) (hB : b ≤ B) : 0 ≤ a * b ∧ a * b ≤ A * B :=
  ⟨Int.mul_nonneg ha hb, Int.mul_le_mul hA hB hb (Int.le_trans ha hA)⟩
theorem drop_step {α : Type} {l : List α} {i : Nat} (h : i < l.length) (d : α) : l.drop i = l.getD i d :: l.drop (i + 1) := by
  rw [List.drop_eq_getElem_cons h]; congr 1; simp [List.getD_eq_getElem?_getD, List.getElem?_eq_getElem h]
theorem wstep {i : Nat} {n : Nat} (h : i < n) (hn : n ≤ 9223372036854775807) : wrap64 ((i : Int) + 1) = ((i + 1 : Nat) : Int) := by unfold wrap64; omega
theorem nat_of {i : Int} (h : 0 ≤ i) : ∃ n : Nat, i = n := ⟨i.toNat, by omega⟩
theorem succ_of {k d : Nat} (h : d < k) : ∃ m, k = m + 1 ∧ d ≤ m := ⟨k - 1, by omega, by omega⟩

end Go.Proofs.Ytgohfbelppokcaa.Pure

-- Qabsn
namespace Go.Proofs.Ytgohfbelppokcaa.Pure
open Go Go.RowKit Go.Proofs Go.Proofs.Ytgohfbelppokcaa.X Go.Proofs.YtgohfbelppokcaaW.PrintWords Go.Proofs.YtgohfbelppokcaaW.PrintLast
set_option linter.unusedVariables false
set_option linter.unusedSimpArgs false

def absI (x : Int) : Int := if x < 0 then -x else x
theorem abs_eq {x : Int} (h : -9223372036854775807 ≤ x) (h2 : x ≤ 9223372036854775807) : impl_abs.f x = some (absI x) := by
  unfold impl_abs.f mx absI
  rw [w64 (by omega) (by omega)]
  congr 1
  (repeat' split) <;> omega
theorem most2_eq (x : Int) (h : -9223372036854775807 ≤ x) (h2 : x ≤ 9223372036854775807) : spec_l1Most.f x (-x) = some (absI x) := by
  unfold spec_l1Most.f absI
  (repeat' split) <;> simp <;> omega

end Go.Proofs.Ytgohfbelppokcaa.Pure

-- Qloops
namespace Go.Proofs.Ytgohfbelppokcaa.Pure
open Go Go.RowKit Go.Proofs Go.Proofs.YtgohfbelppokcaaW.PrintWords Go.Proofs.YtgohfbelppokcaaW.PrintLast
set_option linter.unusedVariables false
set_option linter.unusedSimpArgs false

/-- A loop that asks of all elements, from i on. -/
theorem all_loop {α : Type} (L : Nat → Int → Option Bool) (q : α → Bool) (d : α) (l : List α) (e : Bool) (hb : l.length ≤ 9223372036854775806)
    (hs : ∀ k (i : Nat), i < l.length → L (k + 1) i = if q (l.getD i d) = true then L k (wrap64 ((i : Int) + 1)) else some false) (he : ∀ k (i : Nat), l.length ≤ i → L (k + 1) i = some e) :
    ∀ n k (i : Nat), i + n = l.length → n < k → L k i = some ((l.drop i).all q && e) := by
  intro n
  induction n with
  | zero =>
    intro k i hi hk
    obtain ⟨k, rfl, _⟩ := succ_of hk
    rw [he k i (by omega), List.drop_eq_nil_of_le (by omega)]; rfl
  | succ n ih =>
    intro k i hi hk
    obtain ⟨k, rfl, hk⟩ := succ_of hk
    rw [hs k i (by omega), wstep (show i < l.length by omega) (by omega), drop_step (by omega) d, List.all_cons, ih k (i + 1) (by omega) (by omega)]
    cases q (l.getD i d) <;> simp
theorem rd_nat (l : List Int) (i : Nat) : rd l (i : Int) = l.getD i 0 := by simp [rd]

end Go.Proofs.Ytgohfbelppokcaa.Pure

-- Qcursor
namespace Go.Proofs.Ytgohfbelppokcaa.Pure
open Go Go.RowKit Go.Proofs Go.Proofs.Ytgohfbelppokcaa.X Go.Proofs.YtgohfbelppokcaaW.PrintWords Go.Proofs.YtgohfbelppokcaaW.PrintLast
set_option linter.unusedVariables false
set_option linter.unusedSimpArgs false

/-- a code that is drawn from: bytes, and not too many -/
def curOk (s : List Int) : Prop := s.length ≤ 65536 ∧ ∀ y ∈ s, 0 ≤ y ∧ y ≤ 255
theorem wf8 {x : Int} (h : (Lit.int .u8 x).wf = true) : 0 ≤ x ∧ x ≤ 255 := by
  have h1 := h
  simp [Lit.wf] at h1
  have h2 := h1.1; have h3 := h1.2
  constructor
  · exact h2
  · exact h3
theorem and255 (n : Int) : 0 ≤ wrap64 (Go.bits .and .u64 (IntKind.u64.wrap n / 1099511627776) 255) ∧ wrap64 (Go.bits .and .u64 (IntKind.u64.wrap n / 1099511627776) 255) ≤ 255 := by
  have hw : IntKind.u64.wrap n = n % 18446744073709551616 := by simp [IntKind.wrap, IntKind.bits, IntKind.signed]
  have h32 : (2 : Int) ^ 32 = 4294967296 := by decide
  have h := bits_mask .u64 32 (by decide) (fun n h0 h1 => by simp [IntKind.wrap, IntKind.bits, IntKind.signed]; omega) 8 (by decide) (IntKind.u64.wrap n / 1099511627776) (by rw [hw]; omega) (by rw [hw]; omega)
  rw [show ((2 : Int) ^ 8 - 1) = 255 by decide, show ((2 : Int) ^ 8) = 256 by decide] at h
  rw [h, w64 (by omega) (by omega)]
  omega
theorem next_ex {s : List Int} {p : Int} (h : Int) (hs : curOk s) (hp : 0 ≤ p ∧ p ≤ 1000000000) : ∃ a h', spec_l1Cur_next.f s p h = some (a, p + 1, h') ∧ 0 ≤ a ∧ a ≤ 255 := by
  have hw : wrap64 (p + 1) = p + 1 := w64 (by omega) (by omega)
  simp only [spec_l1Cur_next.f, hw]
  by_cases g : p < s.length
  · rw [if_pos g, if_pos hp.1, if_pos (by omega)]
    refine ⟨_, _, rfl, ?_⟩
    obtain ⟨n, rfl⟩ := nat_of hp.1
    have hm : s.getD n 0 ∈ s := by rw [List.getD_eq_getElem?_getD, List.getElem?_eq_getElem (by omega)]; exact List.getElem_mem (by omega)
    have := hs.2 _ hm
    rw [rd_nat, w64 (by omega) (by omega)]
    exact this
  · rw [if_neg g, if_neg (by omega)]
    exact ⟨_, _, rfl, and255 _⟩
theorem pick_ex {s : List Int} {p n : Int} (h : Int) (hs : curOk s) (hp : 0 ≤ p ∧ p ≤ 1000000) (hn : n ≤ 50000) : ∃ a p' h', spec_l1Cur_pick.f s p h n = some (a, p', h') ∧ (p ≤ p' ∧ p' ≤ p + 2) ∧ 0 ≤ a ∧ (1 ≤ n → a < n) := by
  unfold spec_l1Cur_pick.f
  by_cases g : n ≤ 1
  · rw [if_pos g]; exact ⟨_, _, _, rfl, by omega, by omega, by omega⟩
  rw [if_neg g]
  obtain ⟨a, h1, e1, b1⟩ := next_ex h hs (p := p) (by omega)
  rw [e1]
  simp only [Option.bind_some]
  by_cases g2 : n > 200
  · rw [if_pos g2]
    obtain ⟨b, h2, e2, b2⟩ := next_ex h1 hs (p := p + 1) (by omega)
    rw [e2]
    simp only [Option.bind_some]
    rw [if_neg (by omega), w64 (x := a * 256) (by omega) (by omega), w64 (x := a * 256 + b) (by omega) (by omega)]
    exact ⟨_, _, _, rfl, by omega, Int.tmod_nonneg _ (by omega), fun _ => Int.tmod_lt_of_pos _ (by omega)⟩
  · rw [if_neg g2, if_neg (by omega)]
    exact ⟨_, _, _, rfl, by omega, Int.tmod_nonneg _ (by omega), fun _ => Int.tmod_lt_of_pos _ (by omega)⟩
theorem one_ex {s : List Int} {p n : Int} (h : Int) (hs : curOk s) (hp : 0 ≤ p ∧ p ≤ 1000000) (hn : n ≤ 50000) : ∃ b p' h', spec_l1Cur_one.f s p h n = some (b, p', h') ∧ (p ≤ p' ∧ p' ≤ p + 2) := by
  obtain ⟨a, p1, h1, e1, b1, _⟩ := pick_ex h hs hp hn
  simp only [spec_l1Cur_one.f, e1, Option.bind_some]
  exact ⟨_, _, _, rfl, b1⟩
theorem among_ex {s : List Int} {p : Int} (h : Int) (xs : List Int) (hs : curOk s) (hp : 0 ≤ p ∧ p ≤ 1000000) (hx : 1 ≤ xs.length ∧ xs.length ≤ 50000) : ∃ v p' h', spec_l1Cur_among.f s p h xs = some (v, p', h') ∧ (p ≤ p' ∧ p' ≤ p + 2) ∧ v ∈ xs := by
  obtain ⟨a, p1, h1, e1, b1, b2, b3⟩ := pick_ex (n := (xs.length : Int)) h hs hp (by omega)
  have b4 := b3 (by omega)
  simp only [spec_l1Cur_among.f, e1, Option.bind_some]
  rw [if_pos b2, if_pos b4]
  refine ⟨_, _, _, rfl, b1, ?_⟩
  obtain ⟨n, rfl⟩ := nat_of b2
  rw [rd_nat, List.getD_eq_getElem?_getD, List.getElem?_eq_getElem (by omega)]
  exact List.getElem_mem (by omega)

end Go.Proofs.Ytgohfbelppokcaa.Pure

-- Qinrange
namespace Go.Proofs.Ytgohfbelppokcaa.Pure
open Go Go.RowKit Go.Proofs Go.Proofs.Ytgohfbelppokcaa.X Go.Proofs.YtgohfbelppokcaaW.PrintWords Go.Proofs.YtgohfbelppokcaaW.PrintLast
set_option linter.unusedVariables false
set_option linter.unusedSimpArgs false

theorem in_eq (x a b : Int) : impl_in.f x a b = some (decide (a ≤ x ∧ x ≤ b)) := by
  unfold impl_in.f
  by_cases h1 : a ≤ x <;> simp [h1]

end Go.Proofs.Ytgohfbelppokcaa.Pure

-- Qspecin
namespace Go.Proofs.Ytgohfbelppokcaa.Pure
open Go Go.RowKit Go.Proofs Go.Proofs.Ytgohfbelppokcaa.X Go.Proofs.YtgohfbelppokcaaW.PrintWords Go.Proofs.YtgohfbelppokcaaW.PrintLast
set_option linter.unusedVariables false
set_option linter.unusedSimpArgs false

theorem l1In_eq (x a b : Int) : spec_l1In.f x a b = some (decide (a ≤ x ∧ x ≤ b)) := by
  unfold spec_l1In.f
  by_cases h1 : a ≤ x <;> simp [h1]

end Go.Proofs.Ytgohfbelppokcaa.Pure

-- Qmeasure
namespace Go.Proofs.Ytgohfbelppokcaa.Pure
open Go Go.RowKit Go.Proofs Go.Proofs.Ytgohfbelppokcaa.X Go.Proofs.YtgohfbelppokcaaW.PrintWords Go.Proofs.YtgohfbelppokcaaW.PrintLast
set_option linter.unusedVariables false
set_option linter.unusedSimpArgs false

def lengthB (a : Int) : Bool := decide (1 ≤ a ∧ a ≤ 20000)
def measureB (a b c d : Int) : Bool := lengthB a && (lengthB b && (lengthB c && lengthB d))
theorem length_of {a : Int} (h : lengthB a = true) : 1 ≤ a ∧ a ≤ 20000 := by simpa [lengthB] using h
theorem measure_of {a b c d : Int} (h : measureB a b c d = true) : (1 ≤ a ∧ a ≤ 20000) ∧ (1 ≤ b ∧ b ≤ 20000) ∧ (1 ≤ c ∧ c ≤ 20000) ∧ (1 ≤ d ∧ d ≤ 20000) := by
  simp only [measureB, Bool.and_eq_true] at h
  exact ⟨length_of h.1, length_of h.2.1, length_of h.2.2.1, length_of h.2.2.2⟩
theorem l15Length_eq (a : Int) : spec_l15Length.f a = some (lengthB a) := by
  simp only [spec_l15Length.f, l1In_eq, Option.bind_some, lengthB]
theorem isLength_eq (a : Int) : impl_isLength.f a = some (lengthB a) := by
  simp only [impl_isLength.f, in_eq, Option.bind_some, lengthB]
theorem l15Measure_eq (a b c d : Int) : spec_l15Measure.f a b c d = some (measureB a b c d) := by
  simp only [spec_l15Measure.f, l15Length_eq, Option.bind_some, ite_sf, measureB]
theorem IsMeasure_eq (a b c d : Int) : impl_IsMeasure.f a b c d = some (measureB a b c d) := by
  simp only [impl_IsMeasure.f, impl_areAll_int__impl_isLength.f, Ho.allO_eq (q := lengthB) (fun x _ => isLength_eq x), Option.bind_some, measureB]
  simp

end Go.Proofs.Ytgohfbelppokcaa.Pure

-- Qchart
namespace Go.Proofs.Ytgohfbelppokcaa.Pure
open Go Go.RowKit Go.Proofs Go.Proofs.Ytgohfbelppokcaa.X Go.Proofs.YtgohfbelppokcaaW.PrintWords Go.Proofs.YtgohfbelppokcaaW.PrintLast
set_option linter.unusedVariables false
set_option linter.unusedSimpArgs false

def colorB (x : Int) : Bool := decide (0 ≤ x ∧ x ≤ 5)
def sideB (x : Int) : Bool := decide (1 ≤ x ∧ x ≤ 8)
def chartB (w h : Int) (l : List Int) : Bool := sideB w && (sideB h && (decide ((l.length : Int) = w * h) && l.all colorB))
theorem side_of {x : Int} (h : sideB x = true) : 1 ≤ x ∧ x ≤ 8 := by simpa [sideB] using h
theorem side_w {w h : Int} (hw : sideB w = true) (hh : sideB h = true) : 0 ≤ w * h ∧ w * h ≤ 64 := by
  have := side_of hw; have := side_of hh
  exact mul_bd (A := 8) (B := 8) (by omega) (by omega) (by omega) (by omega)
theorem chart_of {w h : Int} {l : List Int} (hc : chartB w h l = true) : (1 ≤ w ∧ w ≤ 8) ∧ (1 ≤ h ∧ h ≤ 8) ∧ (l.length : Int) = w * h ∧ l.length ≤ 64 ∧ ∀ x ∈ l, 0 ≤ x ∧ x ≤ 5 := by
  simp only [chartB, Bool.and_eq_true, decide_eq_true_eq, List.all_eq_true] at hc
  obtain ⟨h1, h2, h3, h4⟩ := hc
  have := side_w h1 h2
  exact ⟨side_of h1, side_of h2, h3, by omega, fun x hx => by simpa [colorB] using h4 x hx⟩
theorem isColor_eq (x : Int) : impl_isColor.f x = some (colorB x) := by simp only [impl_isColor.f, in_eq, Option.bind_some, colorB]
theorem isSide_eq (x : Int) : impl_isSide.f x = some (sideB x) := by simp only [impl_isSide.f, in_eq, Option.bind_some, sideB]
theorem l2Color_eq (x : Int) : spec_l2Color.f x = some (colorB x) := by simp only [spec_l2Color.f, l1In_eq, Option.bind_some, colorB]
theorem l2Side_eq (x : Int) : spec_l2Side.f x = some (sideB x) := by simp only [spec_l2Side.f, l1In_eq, Option.bind_some, sideB]
theorem IsChart_eq (w h : Int) (l : List Int) : impl_IsChart.f w h l = some (chartB w h l) := by
  simp only [impl_IsChart.f, isSide_eq, impl_areAll_int__impl_isColor.f, Ho.allO_eq (q := colorB) (fun x _ => isColor_eq x), Option.bind_some, chartB]
  cases hw : sideB w
  · simp
  · cases hh : sideB h
    · simp
    · have := side_w hw hh
      rw [w64 (by omega) (by omega)]
      by_cases he : (l.length : Int) = w * h <;> simp [he]
theorem l2Good_eq {k : Nat} {w h : Int} {l : List Int} (hk : l.length < k) (hl : l.length ≤ 1048576) : spec_l2Good.f k w h l = some (chartB w h l) := by
  unfold spec_l2Good.f
  have hx := all_loop (fun k i => spec_l2Good.l0 k i w h l) colorB 0 l (sideB w && (sideB h && decide ((l.length : Int) = w * h))) (by omega)
    (fun k i h1 => by
      simp only [spec_l2Good.l0]
      rw [if_pos (by omega), if_pos (by omega), rd_nat, l2Color_eq]
      simp only [Option.bind_some])
    (fun k i h1 => by
      simp only [spec_l2Good.l0]
      rw [if_neg (by omega)]
      simp only [l2Side_eq, Option.bind_some]
      cases hw : sideB w
      · simp
      · cases hh : sideB h
        · simp
        · have := side_w hw hh
          rw [w64 (by omega) (by omega)]
          simp [BEq.beq, instBEqOfDecidableEq])
    l.length k 0 (by omega) hk
  refine hx.trans ?_
  simp only [List.drop_zero, chartB]
  cases sideB w <;> cases sideB h <;> cases l.all colorB <;> simp

end Go.Proofs.Ytgohfbelppokcaa.Pure

-- Qfraction
namespace Go.Proofs.Ytgohfbelppokcaa.Pure
open Go Go.RowKit Go.Proofs Go.Proofs.Ytgohfbelppokcaa.X Go.Proofs.YtgohfbelppokcaaW.PrintWords Go.Proofs.YtgohfbelppokcaaW.PrintLast
set_option linter.unusedVariables false
set_option linter.unusedSimpArgs false

theorem ediv_bd {a b : Int} (ha : 0 ≤ a) (hb : 0 < b) : 0 ≤ a / b ∧ a / b ≤ a :=
  ⟨Int.ediv_nonneg ha (by omega), Int.ediv_le_self b ha⟩
/-- the greatest common divisor, as the loops find it -/
def gcdM (a b : Int) : Int := (Int.gcd a b : Int)
theorem gcd_loop {α : Type} (L : Nat → Int → Int → Option α) (r : Int → Option α) (hs : ∀ k a b, b ≠ 0 → L (k + 1) a b = L k b (Int.tmod a b)) (he : ∀ k a, L (k + 1) a 0 = r a) :
    ∀ n (a : Int) (b : Int) k, 0 ≤ a → 0 ≤ b → b.toNat ≤ n → n < k → L k a b = r (gcdM a b) := by
  intro n
  induction n with
  | zero =>
    intro a b k ha hb hn hk
    obtain ⟨k, rfl, _⟩ := succ_of hk
    obtain rfl : b = 0 := by omega
    rw [he]; congr 1
    simp [gcdM]; omega
  | succ n ih =>
    intro a b k ha hb hn hk
    obtain ⟨k, rfl, hk⟩ := succ_of hk
    by_cases hb0 : b = 0
    · subst hb0; rw [he]; congr 1; simp [gcdM]; omega
    · rw [hs k a b hb0]
      have hm : Int.tmod a b = a % b := Int.tmod_eq_emod_of_nonneg ha
      have h1 : 0 ≤ a % b := Int.emod_nonneg a hb0
      have h2 : a % b < b := Int.emod_lt_of_pos a (by omega)
      rw [hm, ih b (a % b) k (by omega) h1 (by omega) (by omega)]
      congr 1
      unfold gcdM
      obtain ⟨m, rfl⟩ := nat_of ha
      obtain ⟨q, rfl⟩ := nat_of hb
      have e : ((m : Int) % (q : Int)) = ((m % q : Nat) : Int) := by simp
      rw [e]
      show ((Nat.gcd q (m % q) : Nat) : Int) = ((Nat.gcd m q : Nat) : Int)
      rw [Nat.gcd_comm q, ← Nat.gcd_rec, Nat.gcd_comm]
theorem gcdM_pos {a b : Int} (hb : 0 < b) : 0 < gcdM a b := by
  unfold gcdM
  have := Int.gcd_pos_of_ne_zero_right a (show b ≠ 0 by omega)
  omega
theorem gcdM_le {a b : Int} (hb : 0 < b) : gcdM a b ≤ b := by
  unfold gcdM
  exact Int.le_of_dvd hb (Int.gcd_dvd_right a b)
/-- a fraction in lowest terms; num is not negative, den positive -/
def fracM (n d : Int) : Int × Int := (n / gcdM n d, d / gcdM n d)
theorem fracM_bd {n d : Int} (hn : 0 ≤ n) (hd : 0 < d) : 0 ≤ (fracM n d).1 ∧ (fracM n d).1 ≤ n ∧ 0 < (fracM n d).2 ∧ (fracM n d).2 ≤ d := by
  have hp := gcdM_pos (a := n) hd
  have hl := gcdM_le (a := n) hd
  have h1 := ediv_bd hn hp
  have h2 := ediv_bd (a := d) (by omega) hp
  refine ⟨h1.1, h1.2, ?_, h2.2⟩
  have : gcdM n d ∣ d := Int.gcd_dvd_right n d
  exact Int.ediv_pos_of_pos_of_dvd hd (by omega) this
/-- n/d is the fraction, scaled -/
theorem fracM_mul {n d : Int} (hd : 0 < d) : n = gcdM n d * (fracM n d).1 ∧ d = gcdM n d * (fracM n d).2 := by
  unfold fracM
  exact ⟨(Int.mul_ediv_cancel' (Int.gcd_dvd_left n d)).symm, (Int.mul_ediv_cancel' (Int.gcd_dvd_right n d)).symm⟩
theorem frac_w {n d : Int} (hn : 0 ≤ n ∧ n ≤ 9223372036854775807) (hd : 0 < d ∧ d ≤ 9223372036854775807) : (wrap64 (Int.tdiv n (gcdM n d)), wrap64 (Int.tdiv d (gcdM n d))) = fracM n d := by
  have hb := fracM_bd hn.1 hd.1
  rw [Int.tdiv_eq_ediv_of_nonneg hn.1, Int.tdiv_eq_ediv_of_nonneg (by omega)]
  unfold fracM at hb ⊢
  simp only at hb
  rw [w64 (by omega) (by omega), w64 (by omega) (by omega)]
theorem fraction_eq {k : Nat} {n d : Int} (hn : 0 ≤ n ∧ n ≤ 9223372036854775807) (hd : 0 < d ∧ d ≤ 9223372036854775807) (hk : d.toNat < k) : impl_fraction.f k n d = some (fracM n d) := by
  unfold impl_fraction.f impl_gcd.f
  rw [abs_eq (by omega) (by omega)]
  have ha : absI n = n := by unfold absI; split <;> omega
  simp only [Option.bind_some, ha]
  rw [gcd_loop impl_gcd.l0 (fun a => some a) (fun k a b hb => by simp only [impl_gcd.l0]; rw [if_neg hb]) (fun k a => by simp only [impl_gcd.l0]; rw [if_pos trivial]) d.toNat n d k hn.1 (by omega) (Nat.le_refl _) hk]
  have hp := gcdM_pos (a := n) hd.1
  simp only [Option.bind_some]
  rw [if_neg (by omega), frac_w hn hd]
theorem l2Reduce_eq {k : Nat} {n d : Int} (hn : 0 ≤ n ∧ n ≤ 9223372036854775807) (hd : 0 < d ∧ d ≤ 9223372036854775807) (hk : d.toNat < k) : spec_l2Reduce.f k n d = some (fracM n d) := by
  unfold spec_l2Reduce.f
  have ha : absI n = n := by unfold absI; split <;> omega
  rw [w64 (x := -n) (by omega) (by omega), most2_eq n (by omega) (by omega), ha]
  simp only [Option.bind_some]
  rw [gcd_loop (fun k a b => spec_l2Reduce.l0 k n d a b) (fun a => if a = 0 then none else some (wrap64 (Int.tdiv n a), wrap64 (Int.tdiv d a))) (fun k a b hb => by simp only [spec_l2Reduce.l0]; rw [if_neg hb]) (fun k a => by simp only [spec_l2Reduce.l0]; rw [if_pos trivial]) d.toNat n d k hn.1 (by omega) (Nat.le_refl _) hk]
  have hp := gcdM_pos (a := n) hd.1
  rw [if_neg (by omega), frac_w hn hd]

end Go.Proofs.Ytgohfbelppokcaa.Pure

-- Qgauge
namespace Go.Proofs.Ytgohfbelppokcaa.Pure
open Go Go.RowKit Go.Proofs Go.Proofs.Ytgohfbelppokcaa.X Go.Proofs.YtgohfbelppokcaaW.PrintWords Go.Proofs.YtgohfbelppokcaaW.PrintLast
set_option linter.unusedVariables false
set_option linter.unusedSimpArgs false

def gaugeB (a b c : Int) : Bool := decide (1 ≤ a ∧ a ≤ 200) && (decide (1 ≤ b ∧ b ≤ 200) && decide (0 ≤ c ∧ c ≤ 200))
theorem gauge_of {a b c : Int} (h : gaugeB a b c = true) : 1 ≤ a ∧ a ≤ 200 ∧ 1 ≤ b ∧ b ≤ 200 ∧ 0 ≤ c ∧ c ≤ 200 := by
  simp [gaugeB] at h
  omega
theorem l15Gauge_eq (a b c : Int) : spec_l15Gauge.f a b c = some (gaugeB a b c) := by
  simp only [spec_l15Gauge.f, l1In_eq, Option.bind_some, ite_sf, gaugeB]
theorem IsGauge_eq (a b c : Int) : impl_IsGauge.f a b c = some (gaugeB a b c) := by
  simp only [impl_IsGauge.f, in_eq, Option.bind_some, ite_sf, gaugeB]

end Go.Proofs.Ytgohfbelppokcaa.Pure

-- Qsize
namespace Go.Proofs.Ytgohfbelppokcaa.Pure
open Go Go.RowKit Go.Proofs Go.Proofs.Ytgohfbelppokcaa.X Go.Proofs.YtgohfbelppokcaaW.PrintWords Go.Proofs.YtgohfbelppokcaaW.PrintLast
set_option linter.unusedVariables false
set_option linter.unusedSimpArgs false

/-- the width, or the length, of a carpet, before it is reduced -/
def wideM (n per edge : Int) : Int := 100 * n + 2 * edge * per
theorem wide_bd {n per edge : Int} (hn : 1 ≤ n ∧ n ≤ 8) (hp : 1 ≤ per ∧ per ≤ 200) (he : 0 ≤ edge ∧ edge ≤ 200) : 100 ≤ wideM n per edge ∧ wideM n per edge ≤ 80800 ∧ wrap64 ((wrap64 (100 * n)) + (wrap64 ((wrap64 (2 * edge)) * per))) = wideM n per edge := by
  have h1 : wrap64 (2 * edge) = 2 * edge := w64 (by omega) (by omega)
  have hm := mul_bd (a := 2 * edge) (b := per) (A := 400) (B := 200) (by omega) (by omega) (by omega) (by omega)
  unfold wideM
  refine ⟨by omega, by omega, ?_⟩
  rw [h1, w64 (x := 100 * n) (by omega) (by omega), w64 (x := 2 * edge * per) (by omega) (by omega), w64 (by omega) (by omega)]
def sizeM (w h : Int) (l : List Int) (a b e : Int) : Int × Int × Int × Int × Bool :=
  if chartB w h l && gaugeB a b e then ((fracM (wideM w a e) a).1, (fracM (wideM w a e) a).2, (fracM (wideM h b e) b).1, (fracM (wideM h b e) b).2, true) else (0, 0, 0, 0, false)
theorem asked_eq {k : Nat} {w h : Int} {l : List Int} (a b e : Int) (hk : l.length < k) (hl : l.length ≤ 1048576) : spec_l15Asked.f k w h l a b e = some (chartB w h l && gaugeB a b e) := by
  simp only [spec_l15Asked.f, l2Good_eq hk hl, l15Gauge_eq, Option.bind_some, ite_sf]
theorem size_of {w h a b e : Int} {l : List Int} (hc : (chartB w h l && gaugeB a b e) = true) : (100 ≤ wideM w a e ∧ wideM w a e ≤ 80800 ∧ wrap64 ((wrap64 (100 * w)) + (wrap64 ((wrap64 (2 * e)) * a))) = wideM w a e) ∧ (100 ≤ wideM h b e ∧ wideM h b e ≤ 80800 ∧ wrap64 ((wrap64 (100 * h)) + (wrap64 ((wrap64 (2 * e)) * b))) = wideM h b e) ∧ (1 ≤ a ∧ a ≤ 200) ∧ (1 ≤ b ∧ b ≤ 200) := by
  rw [Bool.and_eq_true] at hc
  have h1 := chart_of hc.1; have h2 := gauge_of hc.2
  exact ⟨wide_bd h1.1 (by omega) (by omega), wide_bd h1.2.1 (by omega) (by omega), by omega, by omega⟩
theorem sizeS_eq {k : Nat} {w h : Int} {l : List Int} (a b e : Int) (hk : l.length < k) (hk2 : 300 < k) (hl : l.length ≤ 1048576) : spec_SizeOf.f k w h l a b e = some (sizeM w h l a b e) := by
  simp only [spec_SizeOf.f, asked_eq a b e hk hl, Option.bind_some, sizeM, spec_l15Wide.f]
  cases hc : (chartB w h l && gaugeB a b e)
  · simp
  obtain ⟨h1, h2, h3, h4⟩ := size_of hc
  simp only [if_true, h1.2.2, h2.2.2]
  rw [l2Reduce_eq (by omega) (by omega) (by omega), l2Reduce_eq (by omega) (by omega) (by omega)]
  rfl
theorem sizeI_eq {k : Nat} {w h : Int} {l : List Int} (a b e : Int) (hk2 : 300 < k) : impl_SizeOf.f k w h l a b e = some (sizeM w h l a b e) := by
  obtain ⟨k, rfl, hk⟩ := succ_of hk2
  simp only [impl_SizeOf.f, impl_SizeOf.j0, IsChart_eq, IsGauge_eq, Option.bind_some, sizeM, impl_Gauge_width.f, impl_Gauge_length.f]
  cases hc : chartB w h l
  · simp
  cases hg : gaugeB a b e
  · simp
  obtain ⟨h1, h2, h3, h4⟩ := size_of (show (chartB w h l && gaugeB a b e) = true by simp [hc, hg])
  simp only [if_true, h1.2.2, h2.2.2, Bool.not_true, Bool.false_eq_true, if_false, Bool.and_self]
  rw [fraction_eq (by omega) (by omega) (by omega), fraction_eq (by omega) (by omega) (by omega)]
  rfl

end Go.Proofs.Ytgohfbelppokcaa.Pure

-- Qstraighten
namespace Go.Proofs.Ytgohfbelppokcaa.Pure
open Go Go.RowKit Go.Proofs Go.Proofs.Ytgohfbelppokcaa.X Go.Proofs.YtgohfbelppokcaaW.PrintWords Go.Proofs.YtgohfbelppokcaaW.PrintLast
set_option linter.unusedVariables false
set_option linter.unusedSimpArgs false

def straightenM (a b c d : Int) : Int × Int × Bool := if measureB a b c d then (absI (a - b), absI (c - d), true) else (0, 0, false)
theorem mostd_eq (a b : Int) (h : 0 ≤ a ∧ a ≤ 4611686018427387904) (h2 : 0 ≤ b ∧ b ≤ 4611686018427387904) : spec_l1Most.f (wrap64 (a - b)) (wrap64 (b - a)) = some (absI (a - b)) := by
  rw [w64 (by omega) (by omega), w64 (by omega) (by omega)]
  unfold spec_l1Most.f absI
  (repeat' split) <;> simp <;> omega
theorem straightenS_eq (a b c d : Int) : spec_StraightenBy.f a b c d = some (straightenM a b c d) := by
  simp only [spec_StraightenBy.f, l15Measure_eq, Option.bind_some, straightenM]
  cases h : measureB a b c d
  · simp
  · have hm := measure_of h
    simp only [if_true]
    rw [mostd_eq a b (by omega) (by omega), mostd_eq c d (by omega) (by omega)]
    rfl
theorem straightenI_eq (a b c d : Int) : impl_StraightenBy.f a b c d = some (straightenM a b c d) := by
  simp only [impl_StraightenBy.f, IsMeasure_eq, Option.bind_some, straightenM]
  cases h : measureB a b c d
  · simp
  · have hm := measure_of h
    simp only [if_true]
    rw [w64 (x := a - b) (by omega) (by omega), w64 (x := c - d) (by omega) (by omega), abs_eq (by omega) (by omega), abs_eq (by omega) (by omega)]
    rfl

end Go.Proofs.Ytgohfbelppokcaa.Pure

-- Qskew
namespace Go.Proofs.Ytgohfbelppokcaa.Pure
open Go Go.RowKit Go.Proofs Go.Proofs.Ytgohfbelppokcaa.X Go.Proofs.YtgohfbelppokcaaW.PrintWords Go.Proofs.YtgohfbelppokcaaW.PrintLast
set_option linter.unusedVariables false
set_option linter.unusedSimpArgs false

def skewM (a b c d : Int) : Int × Int × Bool :=
  if measureB a b c d then
    (if absI (c - d) * (a + b) > absI (a - b) * (c + d) then ((fracM (absI (c - d)) (c + d)).1, (fracM (absI (c - d)) (c + d)).2, true) else ((fracM (absI (a - b)) (a + b)).1, (fracM (absI (a - b)) (a + b)).2, true))
  else (0, 0, false)
theorem absI_bd {x B : Int} (h1 : -B ≤ x) (h2 : x ≤ B) : 0 ≤ absI x ∧ absI x ≤ B := by unfold absI; split <;> omega
theorem skew_w {a b c d : Int} (h : (1 ≤ a ∧ a ≤ 20000) ∧ (1 ≤ b ∧ b ≤ 20000) ∧ (1 ≤ c ∧ c ≤ 20000) ∧ (1 ≤ d ∧ d ≤ 20000)) :
    wrap64 (absI (c - d) * (a + b)) = absI (c - d) * (a + b) ∧ wrap64 (absI (a - b) * (c + d)) = absI (a - b) * (c + d) ∧ wrap64 (a + b) = a + b ∧ wrap64 (c + d) = c + d := by
  have h1 := absI_bd (x := c - d) (B := 20000) (by omega) (by omega)
  have h2 := absI_bd (x := a - b) (B := 20000) (by omega) (by omega)
  have e1 : wrap64 (a + b) = a + b := w64 (by omega) (by omega)
  have e2 : wrap64 (c + d) = c + d := w64 (by omega) (by omega)
  have m1 := mul_bd (b := a + b) (B := 40000) h1.1 h1.2 (by omega) (by omega)
  have m2 := mul_bd (b := c + d) (B := 40000) h2.1 h2.2 (by omega) (by omega)
  exact ⟨w64 (by omega) (by omega), w64 (by omega) (by omega), e1, e2⟩
theorem skewS_eq {k : Nat} (hk : 40001 < k) (a b c d : Int) : spec_SkewOf.f k a b c d = some (skewM a b c d) := by
  simp only [spec_SkewOf.f, l15Measure_eq, Option.bind_some, skewM]
  cases h : measureB a b c d
  · simp
  have hm := measure_of h
  obtain ⟨w1, w2, w3, w4⟩ := skew_w hm
  have h1 := absI_bd (x := c - d) (B := 20000) (by omega) (by omega)
  have h2 := absI_bd (x := a - b) (B := 20000) (by omega) (by omega)
  simp only [if_true]
  rw [mostd_eq a b (by omega) (by omega), mostd_eq c d (by omega) (by omega)]
  simp only [Option.bind_some, w1, w2, w3, w4]
  rw [l2Reduce_eq (n := absI (c - d)) (d := c + d) (by omega) (by omega) (by omega), l2Reduce_eq (n := absI (a - b)) (d := a + b) (by omega) (by omega) (by omega)]
  simp only [Option.bind_some]
  split <;> rfl
theorem skewI_eq {k : Nat} (hk : 40001 < k) (a b c d : Int) : impl_SkewOf.f k a b c d = some (skewM a b c d) := by
  simp only [impl_SkewOf.f, IsMeasure_eq, Option.bind_some, skewM]
  cases h : measureB a b c d
  · simp
  have hm := measure_of h
  obtain ⟨w1, w2, w3, w4⟩ := skew_w hm
  have h1 := absI_bd (x := c - d) (B := 20000) (by omega) (by omega)
  have h2 := absI_bd (x := a - b) (B := 20000) (by omega) (by omega)
  simp only [if_true]
  rw [w64 (x := a - b) (by omega) (by omega), w64 (x := c - d) (by omega) (by omega), abs_eq (by omega) (by omega), abs_eq (by omega) (by omega)]
  simp only [Option.bind_some, w1, w2, w3, w4]
  rw [fraction_eq (n := absI (c - d)) (d := c + d) (by omega) (by omega) (by omega), fraction_eq (n := absI (a - b)) (d := a + b) (by omega) (by omega) (by omega)]
  simp only [Option.bind_some]
  split <;> rfl

end Go.Proofs.Ytgohfbelppokcaa.Pure
