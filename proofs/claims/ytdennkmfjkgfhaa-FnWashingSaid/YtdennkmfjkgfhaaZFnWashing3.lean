/- What the law FnWashing needs, part 4 of 4: what each function of the program that it reaches returns (printed by this session's own program, checked by Lean), and plain mathematics about it. Conditions: those of each theorem. -/
import Derived.Test.YtdennkmfjkgfhaaZFnWashing2
import Derived.Test.YtdennkmfjkgfhaaYG
import Derived.ProofKit
import Derived.WideShapes
-- XspecWashCarpetF31
namespace Go.Proofs.Ytdennkmfjkgfhaa.X
open Ho (bS eS)
open Go.RowKit Go.Proofs.YtdennkmfjkgfhaaW.PrintWords Go.Proofs.YtdennkmfjkgfhaaW.PrintLast Go.Proofs.YtdennkmfjkgfhaaW.PrintMore
attribute [local go_sem] max2_int min2_int max_two min_two max_three min_three max_four min_four   -- for this text's walks alone
set_option linter.unusedVariables false
set_option linter.unusedSimpArgs false
open Sq (I O Z)

attribute [local go_sem ↓] Ho.isSome_setCell_   -- a store leaves all places there
/-! ### spec_WashCarpet: function 31 -/
def spec_WashCarpet.f (k : Nat) (l0 : List (S25)) (a1 : Int) : Option ((List (S25)) × Int × Bool) := (spec_l18Find.f k l0 a1).bind fun t101 => (if t101 < 0 then (some ((([] : List (S25))), 0, false)) else (if 0 ≤ t101 then (if t101 < (l0.length : Int) then ((spec_l18With.f l0 t101 ((rd_T25 l0 t101).f0) ((rd_T25 l0 t101).f1) ((rd_T25 l0 t101).f2) (wrap64 (2 * ((rd_T25 l0 t101).f2))) ((rd_T25 l0 t101).f4)).bind fun t107 => (some (t107, wrap64 ((wrap64 (2 * ((rd_T25 l0 t101).f2))) - ((rd_T25 l0 t101).f3)), true))) else (none)) else (none)))
theorem spec_WashCarpet.mono : ∀ a0 a1 k, LeO (spec_WashCarpet.f k a0 a1) (spec_WashCarpet.f (k + 1) a0 a1) := by
  intro a0 a1 k
  unfold spec_WashCarpet.f
  repeat' first
      | (with_reducible exact spec_l18Find.mono _ _ _)
      | (with_reducible exact LeO.refl _)
      | (with_reducible exact LeO.none _)
      | (with_reducible refine LeO.ite ?_ ?_)
      | (with_reducible refine LeO.bind ?_ (fun _ => ?_))
      | exact spec_l18Find.mono _ _ _
      | exact LeO.none _
      | refine LeO.ite ?_ ?_
      | refine LeO.bind ?_ (fun _ => ?_)
def spec_WashCarpet.T6 : Bool × List (List Nat × List Nat) := (true, [([], []), ([], []), ([], []), ([0, 1, 2], [0, 1, 2]), ([], []), ([4], [4]), ([], []), ([], []), ([6, 7], [6, 7]), ([8], [8]), ([9], [9]), ([5, 10], [5, 10]), ([3, 3, 0, 1, 2, 3], [3]), ([11, 12, 0, 1, 2, 3, 4, 5, 6, 7, 8, 9, 10, 11, 12], [11]), ([13, 0, 1, 2, 3, 4, 5, 6, 7, 8, 9, 10, 11, 12, 13], [])])
def spec_WashCarpet.B6 : List Nat := [0, 0, 0, 7, 0, 16, 0, 0, 192, 448, 960, 2032, 15, 8191, 16383]
theorem spec_WashCarpet.tab6 : rtab .any (opsOf Try.f31 6) = spec_WashCarpet.T6 := by kernel_rfl
theorem spec_WashCarpet.bits6 : waitsOk spec_WashCarpet.T6.2 spec_WashCarpet.B6 = true := by kernel_rfl
set_option maxHeartbeats 8000000 in
set_option maxRecDepth 100000 in
theorem spec_WashCarpet.calls (k : Nat) (A0 : Option Addr) (c0 : Nat) (l0 : List (S25)) (a1 : Int) (r1 : List (S25)) (r2 : Int) (r3 : Bool) (w : World) (hr0 : Kd.C k25 w A0 l0.length l0) (hc0 : l0.length ≤ c0) (h : spec_WashCarpet.f k l0 a1 = some (r1, r2, r3)) :
  Calls Try.prog 31 #[.slice A0 l0.length c0, .int .i64 a1] w fun e w' => ∃ v0_ : Value, e = .returned (.tuple #[v0_, .int .i64 r2, .bool r3]) ∧ Kd.R k25 25 w' w.heap.size (fun _ => True) v0_ r1 ∧ Below w.heap.size w w' := by
 have hu25 := Try.underlying25
 have HR0 := Aside0.mk hr0
 have HC0 := Aside0.mk hc0
 clear hr0 hc0
 have HB := Aside0.mk (Below.refl w.heap.size w)
 have H : ((spec_l18Find.f k l0 a1).bind fun t101 => (if t101 < 0 then (some ((([] : List (S25))), 0, false)) else (if 0 ≤ t101 then (if t101 < (l0.length : Int) then ((spec_l18With.f l0 t101 ((rd_T25 l0 t101).f0) ((rd_T25 l0 t101).f1) ((rd_T25 l0 t101).f2) (wrap64 (2 * ((rd_T25 l0 t101).f2))) ((rd_T25 l0 t101).f4)).bind fun t107 => (some (t107, wrap64 ((wrap64 (2 * ((rd_T25 l0 t101).f2))) - ((rd_T25 l0 t101).f3)), true))) else (none)) else (none)))) = some (r1, r2, r3) := h
 clear h
 replace H := Option.bind_eq_some_iff.mp H
 obtain ⟨t101, A30, H⟩ := H
 replace H : (if t101 < 0 then (some ((([] : List (S25))), 0, false)) else (if 0 ≤ t101 then (if t101 < (l0.length : Int) then ((spec_l18With.f l0 t101 ((rd_T25 l0 t101).f0) ((rd_T25 l0 t101).f1) ((rd_T25 l0 t101).f2) (wrap64 (2 * ((rd_T25 l0 t101).f2))) ((rd_T25 l0 t101).f4)).bind fun t107 => (some (t107, wrap64 ((wrap64 (2 * ((rd_T25 l0 t101).f2))) - ((rd_T25 l0 t101).f3)), true))) else (none)) else (none))) = some (r1, r2, r3) := H
 have A3 := Aside0.mk A30
 clear A30
 by_cases c4 : t101 < 0
 ·rw [if_pos c4] at H
  have c4b0 : decide (t101 < 0) = true := decide_eq_true c4
  clear c4
  obtain ⟨y102, hy102⟩ : ∃ y_ : List (S25), y_ = (([] : List (S25))) := ⟨_, rfl⟩
  replace H : (some (y102, 0, false)) = some (r1, r2, r3) := by first | (rw [hy102]; with_reducible exact H) | (have H2_ := (Option.bind_some _ _).symm.trans H; rw [hy102]; with_reducible exact H2_) | (have H2_ := (Option.bind_some _ _).symm.trans H; with_reducible exact H2_) | with_reducible exact H | (rw [hy102]; exact H) | exact H
  have Ny102 := Aside0.mk hy102
  clear hy102
  simp only [Option.some.injEq, Prod.mk.injEq] at H
  obtain ⟨rfl, rfl, rfl⟩ := H
  go_enter Try.func31, Try.ntmps31
  go_wp2_with (first | ((with_reducible refine gate_callee (f := 72) rfl ?_); refine goesL_ (some 11) rfl rfl Try.func72 (by kernel_rfl) rfl #[.slice A0 l0.length c0, .int .i64 a1] rfl (by (try simp only [List.map_toArray, List.map_cons, List.map_nil]); first | done | rfl | (simp only [List.length_drop, List.length_take]; rfl)) ?_; (with_reducible refine (spec_l18Find.calls k _ _ l0 a1 t101 _ ?side1 ?side2 A3.out).mono ?_); (case side1 => repeat (first | exact HR0.out | (with_reducible refine Kd.C_alloc ?_ _) | (with_reducible refine Kd.C_drewN ?_ _) | (with_reducible refine Kd.C_drew ?_))); (case side2 => exact HC0.out); rintro e w5 ⟨rfl, hb⟩; refine ⟨_, rfl, ?_⟩; have n0_ := Aside0.mk (below_step (by exact eS HB.out) hb); clear HB; have HB := n0_; clear n0_; (try clear hb); (try clear hb2); (try clear hk); (try clear hi)) | ((with_reducible refine gate_dst (N := 14) rfl ?_); refine Kd.R_lit k25 _ 25 ?hg (N := 14) ?hd (xs := ([] : List (S25))) (inner := []) (ok := fun _ => True) (okp := fun _ => True) ?hr ?hp (fun _ hk => hk) trivial (Below.refl _ _) (Nat.le_refl _) (by simp) ?_; (case hd => rfl); (case hg => rfl); (case hr => first | (go_simp; done) | (go_simp; rfl)); (case hp => exact (Reps.none _ _)); intro v103 w6 ho7 hb hg_ hnew_; clear hg_ hnew_; (first | rw [← Ny102.out] at ho7 | (simp only [Int.reduceToNat] at ho7; rw [← Ny102.out] at ho7)); have n0_ := Aside0.mk (Kd.R_lower ho7 (below_size (by exact eS HB.out))); have n1_ := Aside0.mk (below_step (by exact eS HB.out) hb); clear HB; have HO104 := n0_; have HB := n1_; clear n0_ n1_; clear hb ho7))
  go_ret3
  exact ⟨_, by first | rfl | (simp [errW_none, errW_some] <;> rfl) | (simp [*, errW_none, errW_some] <;> rfl), by exact Ho.RS <| HO104.out, by exact eS HB.out⟩
 ·rw [if_neg c4] at H
  have c4b0 : decide (t101 < 0) = false := decide_eq_false c4
  clear c4
  by_cases c8 : 0 ≤ t101
  ·rw [if_pos c8] at H
   have c8b0 : decide (0 ≤ t101) = true := decide_eq_true c8
   clear c8
   by_cases c9 : t101 < (l0.length : Int)
   ·rw [if_pos c9] at H
    have c9b0 : decide (t101 < (l0.length : Int)) = true := decide_eq_true c9
    clear c9
    replace H := Option.bind_eq_some_iff.mp H
    obtain ⟨t107, A100, H⟩ := H
    replace H : (some (t107, wrap64 ((wrap64 (2 * ((rd_T25 l0 t101).f2))) - ((rd_T25 l0 t101).f3)), true)) = some (r1, r2, r3) := H
    have A10 := Aside0.mk A100
    clear A100
    simp only [Option.some.injEq, Prod.mk.injEq] at H
    obtain ⟨rfl, rfl, rfl⟩ := H
    go_enter Try.func31, Try.ntmps31
    try go_wp2_with (first | ((with_reducible refine gate_callee (f := 72) rfl ?_); refine goesL_ (some 11) rfl rfl Try.func72 (by kernel_rfl) rfl #[.slice A0 l0.length c0, .int .i64 a1] rfl (by (try simp only [List.map_toArray, List.map_cons, List.map_nil]); first | done | rfl | (simp only [List.length_drop, List.length_take]; rfl)) ?_; (with_reducible refine (spec_l18Find.calls k _ _ l0 a1 t101 _ ?side1 ?side2 A3.out).mono ?_); (case side1 => repeat (first | exact HR0.out | (with_reducible refine Kd.C_alloc ?_ _) | (with_reducible refine Kd.C_drewN ?_ _) | (with_reducible refine Kd.C_drew ?_))); (case side2 => exact HC0.out); rintro e w11 ⟨rfl, hb⟩; refine ⟨_, rfl, ?_⟩; have n0_ := Aside0.mk (below_step (by exact eS HB.out) hb); clear HB; have HB := n0_; clear n0_; (try clear hb); (try clear hb2); (try clear hk); (try clear hi); have p105 : 0 ≤ (t101 : Int) := of_decide_eq_true (by first | (with_reducible assumption) | assumption); have q105 : t101 < (l0.length : Int) := of_decide_eq_true (by first | (with_reducible assumption) | assumption); obtain ⟨ad105, e105, hx105_0, hx105_1, hx105_2, hx105_3, hx105_4⟩ := at_T25 HR0.out t101 p105 q105; cases e105; replace hx105_0 := (HB.out.cell (World.block_lt_of_cell? w _ hx105_0)).trans hx105_0; replace hx105_1 := (HB.out.cell (World.block_lt_of_cell? w _ hx105_1)).trans hx105_1; replace hx105_2 := (HB.out.cell (World.block_lt_of_cell? w _ hx105_2)).trans hx105_2; replace hx105_3 := (HB.out.cell (World.block_lt_of_cell? w _ hx105_3)).trans hx105_3; replace hx105_4 := (HB.out.cell (World.block_lt_of_cell? w _ hx105_4)).trans hx105_4; replace p105 := eq_true p105; replace q105 := eq_true q105) | ((with_reducible refine gate_dst (N := 8) rfl ?_); refine box_event ?hg (N := 8) ?hd (cs := #[.int .i64 0, .int .i64 0, .int .i64 0, .int .i64 0, .int .i64 0]) (t := 25) ?hr ?_; (case hd => rfl); (case hg => rfl); (case hr => first | (go_simp; done) | (go_simp; rfl)); intro gb106 hg w12 hbox hb; have n0_ := Aside0.mk (below_step (by exact eS HB.out) hb); have n1_ := Aside0.mk (hbox); have n2_ := Aside0.mk ((by rw [hg]; exact (below_size (by exact eS HB.out)) : w.heap.size ≤ gb106)); have n3_ := Aside0.mk ((by rw [hg]; exact (below_size (by exact eS HB.out)) : w.heap.size ≤ gb106)); clear HB; have HB := n0_; have BK106 := n1_; have GW106 := n2_; have GE106 := n3_; clear n0_ n1_ n2_ n3_; clear hb hbox hg; have hcz13_0 : w12.cell? ⟨gb106, 0, none⟩ = some (.int .i64 0) := (blk_cell BK106.out 0).trans rfl; have hcz13_1 : w12.cell? ⟨gb106, 1, none⟩ = some (.int .i64 0) := (blk_cell BK106.out 1).trans rfl; have hcz13_2 : w12.cell? ⟨gb106, 2, none⟩ = some (.int .i64 0) := (blk_cell BK106.out 2).trans rfl; have hcz13_3 : w12.cell? ⟨gb106, 3, none⟩ = some (.int .i64 0) := (blk_cell BK106.out 3).trans rfl; have hcz13_4 : w12.cell? ⟨gb106, 4, none⟩ = some (.int .i64 0) := (blk_cell BK106.out 4).trans rfl; have hfz13_0 := blk_frozen BK106.out 0; have hfz13_1 := blk_frozen BK106.out 1; have hfz13_2 := blk_frozen BK106.out 2; have hfz13_3 := blk_frozen BK106.out 3; have hfz13_4 := blk_frozen BK106.out 4))
    have n0_ : Aside0 (((((((w12.setCell ⟨gb106, 0, none⟩ (.int .i64 ((rd_T25 l0 t101).f0))).setCell ⟨gb106, 1, none⟩ (.int .i64 ((rd_T25 l0 t101).f1))).setCell ⟨gb106, 2, none⟩ (.int .i64 ((rd_T25 l0 t101).f2))).setCell ⟨gb106, 3, none⟩ (.int .i64 ((rd_T25 l0 t101).f3))).setCell ⟨gb106, 4, none⟩ (.int .i64 ((rd_T25 l0 t101).f4))).setCell ⟨gb106, 3, none⟩ (.int .i64 (wrap64 (2 * ((rd_T25 l0 t101).f2))))).heap[gb106]? = some (.cells #[.int .i64 ((rd_T25 l0 t101).f0), .int .i64 ((rd_T25 l0 t101).f1), .int .i64 ((rd_T25 l0 t101).f2), .int .i64 (wrap64 (2 * ((rd_T25 l0 t101).f2))), .int .i64 ((rd_T25 l0 t101).f4)] 25 (0, 0))) := ⟨by (with_reducible repeat (first | refine blk_drewN ?_ _ | refine blk_drew ?_ | refine blk_alloc ?_ _)); refine blk_put (cs := #[.int .i64 ((rd_T25 l0 t101).f0), .int .i64 ((rd_T25 l0 t101).f1), .int .i64 ((rd_T25 l0 t101).f2), .int .i64 ((rd_T25 l0 t101).f3), .int .i64 ((rd_T25 l0 t101).f4)]) ?_ 3 _ rfl; (with_reducible repeat (first | refine blk_drewN ?_ _ | refine blk_drew ?_ | refine blk_alloc ?_ _)); refine blk_put (cs := #[.int .i64 ((rd_T25 l0 t101).f0), .int .i64 ((rd_T25 l0 t101).f1), .int .i64 ((rd_T25 l0 t101).f2), .int .i64 ((rd_T25 l0 t101).f3), .int .i64 0]) ?_ 4 _ rfl; (with_reducible repeat (first | refine blk_drewN ?_ _ | refine blk_drew ?_ | refine blk_alloc ?_ _)); refine blk_put (cs := #[.int .i64 ((rd_T25 l0 t101).f0), .int .i64 ((rd_T25 l0 t101).f1), .int .i64 ((rd_T25 l0 t101).f2), .int .i64 0, .int .i64 0]) ?_ 3 _ rfl; (with_reducible repeat (first | refine blk_drewN ?_ _ | refine blk_drew ?_ | refine blk_alloc ?_ _)); refine blk_put (cs := #[.int .i64 ((rd_T25 l0 t101).f0), .int .i64 ((rd_T25 l0 t101).f1), .int .i64 0, .int .i64 0, .int .i64 0]) ?_ 2 _ rfl; (with_reducible repeat (first | refine blk_drewN ?_ _ | refine blk_drew ?_ | refine blk_alloc ?_ _)); refine blk_put (cs := #[.int .i64 ((rd_T25 l0 t101).f0), .int .i64 0, .int .i64 0, .int .i64 0, .int .i64 0]) ?_ 1 _ rfl; (with_reducible repeat (first | refine blk_drewN ?_ _ | refine blk_drew ?_ | refine blk_alloc ?_ _)); refine blk_put (cs := #[.int .i64 0, .int .i64 0, .int .i64 0, .int .i64 0, .int .i64 0]) ?_ 0 _ rfl; exact bS BK106.out⟩
    have n1_ : Aside0 (Below w.heap.size w ((((((w12.setCell ⟨gb106, 0, none⟩ (.int .i64 ((rd_T25 l0 t101).f0))).setCell ⟨gb106, 1, none⟩ (.int .i64 ((rd_T25 l0 t101).f1))).setCell ⟨gb106, 2, none⟩ (.int .i64 ((rd_T25 l0 t101).f2))).setCell ⟨gb106, 3, none⟩ (.int .i64 ((rd_T25 l0 t101).f3))).setCell ⟨gb106, 4, none⟩ (.int .i64 ((rd_T25 l0 t101).f4))).setCell ⟨gb106, 3, none⟩ (.int .i64 (wrap64 (2 * ((rd_T25 l0 t101).f2)))))) := ⟨by repeat (first | (with_reducible first | exact HB.out | apply below_alloc | apply pw_below_drewN | apply below_drew1 | refine below_set ?_ GE106.out) | exact HB.out)⟩
    (try clear BK106)
    (try clear HB)
    generalize ((((((w12.setCell ⟨gb106, 0, none⟩ (.int .i64 ((rd_T25 l0 t101).f0))).setCell ⟨gb106, 1, none⟩ (.int .i64 ((rd_T25 l0 t101).f1))).setCell ⟨gb106, 2, none⟩ (.int .i64 ((rd_T25 l0 t101).f2))).setCell ⟨gb106, 3, none⟩ (.int .i64 ((rd_T25 l0 t101).f3))).setCell ⟨gb106, 4, none⟩ (.int .i64 ((rd_T25 l0 t101).f4))).setCell ⟨gb106, 3, none⟩ (.int .i64 (wrap64 (2 * ((rd_T25 l0 t101).f2))))) = w14 at n0_ n1_ ⊢
    have BK106 := n0_
    have HB := n1_
    clear n0_ n1_
    have n0_ := Aside0.mk (blk_drew BK106.out)
    have n1_ := Aside0.mk (below_drew1 HB.out)
    clear BK106
    clear HB
    have BK106 := n0_
    have HB := n1_
    clear n0_ n1_
    have p110 : 0 ≤ (t101 : Int) := of_decide_eq_true (by first | (with_reducible assumption) | assumption)
    have q110 : t101 < (l0.length : Int) := of_decide_eq_true (by first | (with_reducible assumption) | assumption)
    obtain ⟨ad110, e110, hx110_0, hx110_1, hx110_2, hx110_3, hx110_4⟩ := at_T25 HR0.out t101 p110 q110
    have hw110_4 := hx110_4
    have hw110_3 := hx110_3
    have hw110_2 := hx110_2
    have hw110_1 := hx110_1
    have hw110_0 := hx110_0
    obtain rfl : ad105 = ad110 := (by injection e110)
    replace hx110_0 := (HB.out.cell (World.block_lt_of_cell? w _ hx110_0)).trans hx110_0
    replace hx110_1 := (HB.out.cell (World.block_lt_of_cell? w _ hx110_1)).trans hx110_1
    replace hx110_2 := (HB.out.cell (World.block_lt_of_cell? w _ hx110_2)).trans hx110_2
    replace hx110_3 := (HB.out.cell (World.block_lt_of_cell? w _ hx110_3)).trans hx110_3
    replace hx110_4 := (HB.out.cell (World.block_lt_of_cell? w _ hx110_4)).trans hx110_4
    replace p110 := eq_true p110
    replace q110 := eq_true q110
    refine start_ (n := 15) (S := fun w' => w'.cell? ⟨gb106, 0, none⟩ = some (.int .i64 ((rd_T25 l0 t101).f0)) ∧ w'.cell? ⟨gb106, 1, none⟩ = some (.int .i64 ((rd_T25 l0 t101).f1)) ∧ w'.cell? ⟨gb106, 2, none⟩ = some (.int .i64 ((rd_T25 l0 t101).f2)) ∧ w'.cell? ⟨gb106, 3, none⟩ = some (.int .i64 (wrap64 (2 * ((rd_T25 l0 t101).f2)))) ∧ w'.cell? ⟨gb106, 4, none⟩ = some (.int .i64 ((rd_T25 l0 t101).f4)) ∧ w'.cell? (ad105.add ((t101).toNat * 5)) = some (.int .i64 ((rd_T25 l0 t101).f0)) ∧ w'.cell? ⟨(ad105.add ((t101).toNat * 5)).block, (ad105.add ((t101).toNat * 5)).off + 1, none⟩ = some (.int .i64 ((rd_T25 l0 t101).f1)) ∧ w'.cell? ⟨(ad105.add ((t101).toNat * 5)).block, (ad105.add ((t101).toNat * 5)).off + 2, none⟩ = some (.int .i64 ((rd_T25 l0 t101).f2)) ∧ w'.cell? ⟨(ad105.add ((t101).toNat * 5)).block, (ad105.add ((t101).toNat * 5)).off + 3, none⟩ = some (.int .i64 ((rd_T25 l0 t101).f3)) ∧ w'.cell? ⟨(ad105.add ((t101).toNat * 5)).block, (ad105.add ((t101).toNat * 5)).off + 4, none⟩ = some (.int .i64 ((rd_T25 l0 t101).f4))) (ds := []) #[O,O,O,O,O,O,O,O,O,O,O,O,O,O,O] (by kernel_rfl) rfl rfl ⟨(blk_cell BK106.out 0).trans rfl, (blk_cell BK106.out 1).trans rfl, (blk_cell BK106.out 2).trans rfl, (blk_cell BK106.out 3).trans rfl, (blk_cell BK106.out 4).trans rfl, ((HB.out.cell (World.block_lt_of_cell? w _ hw110_0)).trans hw110_0), ((HB.out.cell (World.block_lt_of_cell? w _ hw110_1)).trans hw110_1), ((HB.out.cell (World.block_lt_of_cell? w _ hw110_2)).trans hw110_2), ((HB.out.cell (World.block_lt_of_cell? w _ hw110_3)).trans hw110_3), ((HB.out.cell (World.block_lt_of_cell? w _ hw110_4)).trans hw110_4)⟩ (fun hHeld => ?_); refine with_tabW spec_WashCarpet.tab6 spec_WashCarpet.bits6 (fun HT_ HW_ => ?_)
    generalize w14.drew = w15 at BK106 HB hx110_0 hx110_1 hx110_2 hx110_3 hx110_4 hHeld ⊢
    refine pure_ (i := 0) (N := some 23) (v := ?_) (a' := ?_) #[I,O,O,O,O,O,O,O,O,O,O,O,O,O,O] rfl rfl (any_of HT_.out (by kernel_rfl)) (fun _ _ _ h => h) (Or.inl ⟨by rfl, ?_⟩) ?_ ?_
    rotate_left; (intro w'; go_simp; with_reducible rfl); rotate_left; (simp only [Z]; rfl)
    refine pure_ (i := 1) (N := some 24) (v := ?_) (a' := ?_) #[I,I,O,O,O,O,O,O,O,O,O,O,O,O,O] rfl rfl (any_of HT_.out (by kernel_rfl)) (fun _ _ _ h => h) (Or.inl ⟨by rfl, ?_⟩) ?_ ?_
    rotate_left; (intro w'; go_simp; with_reducible rfl); rotate_left; (simp only [Z]; rfl)
    refine pure_ (i := 4) (N := some 27) (v := ?_) (a' := ?_) #[I,I,O,O,I,O,O,O,O,O,O,O,O,O,O] rfl rfl (any_of HT_.out (by kernel_rfl)) (fun _ _ _ h => h) (Or.inl ⟨by rfl, ?_⟩) ?_ ?_
    rotate_left; (intro w'; go_simp; with_reducible rfl); rotate_left; (simp only [Z]; rfl)
    refine pure_ (i := 6) (N := some 29) (v := ?_) (a' := ?_) #[I,I,O,O,I,O,I,O,O,O,O,O,O,O,O] rfl rfl (any_of HT_.out (by kernel_rfl)) (fun _ _ _ h => h) (Or.inl ⟨by rfl, ?_⟩) ?_ ?_
    rotate_left; (intro w'; go_simp; with_reducible rfl); rotate_left; (simp only [Z]; rfl)
    refine pure_ (i := 7) (N := some 30) (v := ?_) (a' := ?_) #[I,I,O,O,I,O,I,I,O,O,O,O,O,O,O] rfl rfl (any_of HT_.out (by kernel_rfl)) (fun _ _ _ h => h) (Or.inl ⟨by rfl, ?_⟩) ?_ ?_
    rotate_left; (intro w'; go_simp; with_reducible rfl); rotate_left; (simp only [Z]; rfl)
    refine pure_ (i := 8) (N := some 31) (v := ?_) (a' := ?_) #[I,I,O,O,I,O,I,I,I,O,O,O,O,O,O] rfl rfl (any_of HT_.out (by kernel_rfl)) (fun _ _ _ h => h) (Or.inl ⟨by rfl, ?_⟩) ?_ ?_
    rotate_left; (intro w'; go_simp; with_reducible rfl); rotate_left; (simp only [Z]; rfl)
    refine pure_ (i := 9) (N := some 32) (v := ?_) (a' := ?_) #[I,I,O,O,I,O,I,I,I,I,O,O,O,O,O] rfl rfl (any_of HT_.out (by kernel_rfl)) (fun _ _ _ h => h) (Or.inl ⟨by rfl, ?_⟩) ?_ ?_
    rotate_left; (intro w'; go_simp; with_reducible rfl); rotate_left; (simp only [Z]; rfl)
    refine take_ (i := 2) (N := some 25) (v := ?_) (a' := ?_) #[I,I,I,O,I,O,I,I,I,I,O,O,O,O,O] rfl rfl (take_ofW HT_.out HW_.out (by kernel_rfl)) (fun _ _ _ h => h) (Or.inl ⟨by rfl, ?_⟩) hHeld ?_ ?_
    rotate_left; (rintro w' ⟨s0, s1, s2, s3, s4, s5, s6, s7, s8, s9⟩; go_simp; with_reducible rfl); rotate_left; (simp only [Z]; rfl)
    refine take_ (i := 5) (N := some 28) (v := ?_) (a' := ?_) #[I,I,I,O,I,I,I,I,I,I,O,O,O,O,O] rfl rfl (take_ofW HT_.out HW_.out (by kernel_rfl)) (fun _ _ _ h => h) (Or.inl ⟨by rfl, ?_⟩) hHeld ?_ ?_
    rotate_left; (rintro w' ⟨s0, s1, s2, s3, s4, s5, s6, s7, s8, s9⟩; go_simp; with_reducible rfl); rotate_left; (simp only [Z]; rfl)
    refine take_ (i := 10) (N := some 33) (v := ?_) (a' := ?_) #[I,I,I,O,I,I,I,I,I,I,I,O,O,O,O] rfl rfl (take_ofW HT_.out HW_.out (by kernel_rfl)) (fun _ _ _ h => h) (Or.inl ⟨by rfl, ?_⟩) hHeld ?_ ?_
    rotate_left; (rintro w' ⟨s0, s1, s2, s3, s4, s5, s6, s7, s8, s9⟩; go_simp; with_reducible rfl); rotate_left; (simp only [Z]; rfl)
    refine pure_ (i := 11) (N := some 34) (v := ?_) (a' := ?_) #[I,I,I,O,I,I,I,I,I,I,I,I,O,O,O] rfl rfl (any_of HT_.out (by kernel_rfl)) (fun _ _ _ h => h) (Or.inl ⟨by rfl, ?_⟩) ?_ ?_
    rotate_left; (intro w'; go_simp; with_reducible rfl); rotate_left; (simp only [Z]; rfl)
    refine one_ (i := 3) (N := some 26) #[I,I,I,I,I,I,I,I,I,I,I,I,O,O,O] rfl rfl (one_of HT_.out (by kernel_rfl)) (by decide) (fun K hK => ?_)
    refine goes_ Try.func73 (by kernel_rfl) rfl #[.slice (some ad105) l0.length c0, .int .i64 t101, .agg #[.int .i64 ((rd_T25 l0 t101).f0), .int .i64 ((rd_T25 l0 t101).f1), .int .i64 ((rd_T25 l0 t101).f2), .int .i64 (wrap64 (2 * ((rd_T25 l0 t101).f2))), .int .i64 ((rd_T25 l0 t101).f4)]] (by rfl) rfl rfl (by (try simp only [List.map_toArray, List.map_cons, List.map_nil]); first | done | rfl | (simp only [List.length_drop, List.length_take]; rfl)) ?_
    with_reducible refine (spec_l18With.calls _ _ l0 t101 ((rd_T25 l0 t101).f0) ((rd_T25 l0 t101).f1) ((rd_T25 l0 t101).f2) (wrap64 (2 * ((rd_T25 l0 t101).f2))) ((rd_T25 l0 t101).f4) t107 _ ?side1 ?side2 A10.out).mono ?_
    (case side1 => repeat (first | exact (Kd.C_below HR0.out HB.out) | (with_reducible refine Kd.C_alloc ?_ _) | (with_reducible refine Kd.C_drewN ?_ _) | (with_reducible refine Kd.C_drew ?_)))
    (case side2 => exact HC0.out)
    rintro e w16 ⟨v108, rfl, ho0, hb⟩
    refine ⟨_, rfl, ?_⟩
    have n0_ := Aside0.mk (Kd.R_lower (Kd.R_newB ho0 (bS BK106.out)) (below_size (by exact eS HB.out)))
    have n1_ := Aside0.mk (blk_below (bS BK106.out) hb)
    have n2_ := Aside0.mk (below_step (by exact eS HB.out) hb)
    clear BK106
    clear HB
    have HO109 := n0_
    have BK106 := n1_
    have HB := n2_
    clear n0_ n1_ n2_
    (try clear hb)
    (try clear hb2)
    (try clear hk)
    (try clear hi)
    (try clear ho0)
    refine hK.out _ _ ⟨(blk_cell BK106.out 0).trans rfl, (blk_cell BK106.out 1).trans rfl, (blk_cell BK106.out 2).trans rfl, (blk_cell BK106.out 3).trans rfl, (blk_cell BK106.out 4).trans rfl, ((HB.out.cell (World.block_lt_of_cell? w _ hw110_0)).trans hw110_0), ((HB.out.cell (World.block_lt_of_cell? w _ hw110_1)).trans hw110_1), ((HB.out.cell (World.block_lt_of_cell? w _ hw110_2)).trans hw110_2), ((HB.out.cell (World.block_lt_of_cell? w _ hw110_3)).trans hw110_3), ((HB.out.cell (World.block_lt_of_cell? w _ hw110_4)).trans hw110_4)⟩ (fun hHeld => ?_)
    clear hK K
    refine norm_ (a' := ?_) ?_ ?_
    rotate_left
    ·show Act.put _ (some 26) _ = _
     simp only [Z]
     rfl
    refine pure_ (i := 12) (N := some 4) (v := ?_) (a' := ?_) #[I,I,I,I,I,I,I,I,I,I,I,I,I,O,O] rfl rfl (any_of HT_.out (by kernel_rfl)) (fun _ _ _ h => h) (Or.inl ⟨by rfl, ?_⟩) ?_ ?_
    rotate_left; (intro w'; go_simp; with_reducible rfl); rotate_left; (simp only [Z]; rfl)
    refine pure_ (i := 13) (N := some 5) (v := ?_) (a' := ?_) #[I,I,I,I,I,I,I,I,I,I,I,I,I,I,O] rfl rfl (any_of HT_.out (by kernel_rfl)) (fun _ _ _ h => h) (Or.inl ⟨by rfl, ?_⟩) ?_ ?_
    rotate_left; (intro w'; go_simp; with_reducible rfl); rotate_left; (simp only [Z]; rfl)
    refine pure_ (i := 14) (N := some 6) (v := ?_) (a' := ?_) #[I,I,I,I,I,I,I,I,I,I,I,I,I,I,I] rfl rfl (any_of HT_.out (by kernel_rfl)) (fun _ _ _ h => h) (Or.inl ⟨by rfl, ?_⟩) ?_ ?_
    rotate_left; (intro w'; go_simp; with_reducible rfl); rotate_left; (simp only [Z]; rfl)
    refine done_ (done_of HT_.out (by kernel_rfl)) ?_
    try go_wp2
    go_ret3
    exact ⟨_, by first | rfl | (simp [errW_none, errW_some] <;> rfl) | (simp [*, errW_none, errW_some] <;> rfl), by exact Ho.RS <| Kd.R_mono HO109.out (fun _ hk => trivial), by exact eS HB.out⟩
   ·rw [if_neg c9] at H
    exact absurd H (by simp)
  ·rw [if_neg c8] at H
   exact absurd H (by simp)

end Go.Proofs.Ytdennkmfjkgfhaa.X

-- XlawsFnWashingF14
namespace Go.Proofs.Ytdennkmfjkgfhaa.X
open Ho (bS eS)
open Go.RowKit Go.Proofs.YtdennkmfjkgfhaaW.PrintWords Go.Proofs.YtdennkmfjkgfhaaW.PrintLast Go.Proofs.YtdennkmfjkgfhaaW.PrintMore
attribute [local go_sem] max2_int min2_int max_two min_two max_three min_three max_four min_four   -- for this text's walks alone
set_option linter.unusedVariables false
set_option linter.unusedSimpArgs false

attribute [local go_sem ↓] Ho.isSome_setCell_   -- a store leaves all places there
/-! ### laws_FnWashing: function 14 -/
mutual
def laws_FnWashing.j0 : Nat → List Int → List (S25) → Int → List (S25) → Int → Bool → Bool → Option (Bool)
  | 0, _, _, _, _, _, _, _ => none
  | k + 1, x0, x3, x4, x5, x6, x7, x82 => if x82 = true then (some false) else ((impl_WashCarpet.f k x3 x4).bind fun bt117 => ((spec_WashCarpet.f k x3 x4).bind fun bt122 => (if (bt117.2.2 != bt122.2.2) = true then (laws_FnWashing.j1 k x0 x3 x5 x6 x7 bt117.1 bt117.2.1 true) else (if bt117.2.1 = bt122.2.1 then (if (bt117.2.2 != x7) = true then (laws_FnWashing.j1 k x0 x3 x5 x6 x7 bt117.1 bt117.2.1 true) else ((laws_rWet.f k bt117.1 bt122.1).bind fun t127 => (laws_FnWashing.j1 k x0 x3 x5 x6 x7 bt117.1 bt117.2.1 (!t127)))) else (laws_FnWashing.j1 k x0 x3 x5 x6 x7 bt117.1 bt117.2.1 true)))))
def laws_FnWashing.j1 : Nat → List Int → List (S25) → List (S25) → Int → Bool → List (S25) → Int → Bool → Option (Bool)
  | 0, _, _, _, _, _, _, _, _ => none
  | k + 1, x0, x3, x5, x6, x7, x11, x12, x115 => if x115 = true then (some false) else (if x7 = true then ((impl_LineLoad.f k x3).bind fun bt128 => ((impl_LineLoad.f k x5).bind fun bt130 => ((impl_LineLoad.f k x11).bind fun bt132 => (if bt128.2 = true then (if bt130.2 = true then (if bt132.2 = true then (if (wrap64 (bt128.1 - bt130.1)) = x6 then (if (wrap64 (bt132.1 - bt128.1)) = x12 then ((impl_AreWetCarpets.f k x11).bind fun t134 => (if t134 = true then (laws_FnWashing.j2 k x0) else (some false))) else (some false)) else (some false)) else (some false)) else (some false)) else (some false))))) else (laws_FnWashing.j2 k x0))
def laws_FnWashing.j2 : Nat → List Int → Option (Bool)
  | 0, _ => none
  | k + 1, x0 => (spec_DrawHoursFor.f x0).bind fun bt135 => ((impl_HoursFor.f k bt135.1 bt135.2.1 bt135.2.2.1 bt135.2.2.2.1 bt135.2.2.2.2.1 bt135.2.2.2.2.2).bind fun bt142 => ((spec_HoursFor.f k bt135.1 bt135.2.1 bt135.2.2.1 bt135.2.2.2.1 bt135.2.2.2.2.1 bt135.2.2.2.2.2).bind fun bt144 => (if bt142.1 = bt144.1 then (laws_FnWashing.j3 k x0 bt135.2.2.2.2.2 bt142.1 bt142.2 (bt142.2 != bt144.2) bt135.1 bt135.2.1 bt135.2.2.1 bt135.2.2.2.1 bt135.2.2.2.2.1) else (laws_FnWashing.j3 k x0 bt135.2.2.2.2.2 bt142.1 bt142.2 true bt135.1 bt135.2.1 bt135.2.2.1 bt135.2.2.2.1 bt135.2.2.2.2.1))))
def laws_FnWashing.j3 : Nat → List Int → Int → Int → Bool → Bool → Int → Int → Int → Int → Int → Option (Bool)
  | 0, _, _, _, _, _, _, _, _, _, _ => none
  | k + 1, x0, x24, x25, x26, x185, x142000, x142001, x142002, x142003, x142004 => if x185 = true then (some false) else (if x26 = true then (laws_FnWashing.j4 k x0 x24 x25 (decide (x25 ≤ 100)) x142000 x142001 x142002 x142003 x142004) else (laws_FnWashing.j4 k x0 x24 x25 false x142000 x142001 x142002 x142003 x142004))
def laws_FnWashing.j4 : Nat → List Int → Int → Int → Bool → Int → Int → Int → Int → Int → Option (Bool)
  | 0, _, _, _, _, _, _, _, _, _ => none
  | k + 1, x0, x24, x25, x190, x142000, x142001, x142002, x142003, x142004 => if x190 = true then ((impl_DryCarpets.f k (([(⟨x142000, x142001, x142002, x142003, x142004⟩ : S25)] : List (S25))) x24 x25).bind fun bt149 => (if bt149.2.2 = true then ((laws_rHas.f k bt149.2.1 x142000).bind fun t156 => (laws_FnWashing.j5 k x0 x24 x25 (!t156) x142000 x142001 x142002 x142003 x142004)) else (laws_FnWashing.j5 k x0 x24 x25 true x142000 x142001 x142002 x142003 x142004))) else (laws_FnWashing.j6 k x0)
def laws_FnWashing.j6 : Nat → List Int → Option (Bool)
  | 0, _ => none
  | k + 1, x0 => (spec_DrawShearCarpet.f k x0).bind fun bt167 => ((impl_ShearCarpet.f k bt167.1 bt167.2.1 bt167.2.2).bind fun bt172 => ((spec_ShearCarpet.f k bt167.1 bt167.2.1 bt167.2.2).bind fun bt177 => (if (bt172.2.2 != bt177.2.2) = true then (laws_FnWashing.j7 k bt167.1 bt172.1 bt172.2.1 bt172.2.2 true) else (if bt172.2.1 = bt177.2.1 then ((laws_rWet.f k bt172.1 bt177.1).bind fun t182 => (laws_FnWashing.j7 k bt167.1 bt172.1 bt172.2.1 bt172.2.2 (!t182))) else (laws_FnWashing.j7 k bt167.1 bt172.1 bt172.2.1 bt172.2.2 true)))))
def laws_FnWashing.j7 : Nat → List (S25) → List (S25) → Int → Bool → Bool → Option (Bool)
  | 0, _, _, _, _, _ => none
  | k + 1, x35, x38, x39, x40, x260 => if x260 = true then (some false) else (if x40 = true then ((impl_LineLoad.f k x35).bind fun bt183 => ((impl_LineLoad.f k x38).bind fun bt185 => (if bt183.2 = true then (if bt185.2 = true then (some ((wrap64 (bt183.1 - bt185.1)) == x39)) else (some false)) else (some false)))) else (some true))
def laws_FnWashing.j5 : Nat → List Int → Int → Int → Bool → Int → Int → Int → Int → Int → Option (Bool)
  | 0, _, _, _, _, _, _, _, _, _ => none
  | k + 1, x0, x24, x25, x208, x142000, x142001, x142002, x142003, x142004 => if x208 = true then (some false) else ((impl_DryCarpets.f k (([(⟨x142000, x142001, x142002, x142003, x142004⟩ : S25)] : List (S25))) x24 (wrap64 (x25 - 1))).bind fun bt160 => (if bt160.2.2 = true then (if (bt160.2.1.length : Int) = 0 then (laws_FnWashing.j6 k x0) else (some false)) else (laws_FnWashing.j6 k x0)))
end
def laws_FnWashing.f (k : Nat) (l0 : List Int) : Option (Bool) := (laws_rBig.f l0).bind fun t101 => (if t101 = true then (some true) else ((spec_DrawSpinCarpet.f k l0).bind fun bt102 => ((impl_SpinCarpet.f k bt102.1 bt102.2).bind fun bt106 => ((spec_SpinCarpet.f k bt102.1 bt102.2).bind fun bt111 => (if (bt106.2.2 != bt111.2.2) = true then (laws_FnWashing.j0 k l0 bt102.1 bt102.2 bt106.1 bt106.2.1 bt106.2.2 true) else (if bt106.2.1 = bt111.2.1 then ((laws_rWet.f k bt106.1 bt111.1).bind fun t116 => (laws_FnWashing.j0 k l0 bt102.1 bt102.2 bt106.1 bt106.2.1 bt106.2.2 (!t116))) else (laws_FnWashing.j0 k l0 bt102.1 bt102.2 bt106.1 bt106.2.1 bt106.2.2 true)))))))
theorem laws_FnWashing.mono_l : ∀ k, (∀ y0 y1 y2 y3 y4 y5 y6, LeO (laws_FnWashing.j0 k y0 y1 y2 y3 y4 y5 y6) (laws_FnWashing.j0 (k + 1) y0 y1 y2 y3 y4 y5 y6)) ∧ (∀ y0 y1 y2 y3 y4 y5 y6 y7, LeO (laws_FnWashing.j1 k y0 y1 y2 y3 y4 y5 y6 y7) (laws_FnWashing.j1 (k + 1) y0 y1 y2 y3 y4 y5 y6 y7)) ∧ (∀ y0, LeO (laws_FnWashing.j2 k y0) (laws_FnWashing.j2 (k + 1) y0)) ∧ (∀ y0 y1 y2 y3 y4 y5 y6 y7 y8 y9, LeO (laws_FnWashing.j3 k y0 y1 y2 y3 y4 y5 y6 y7 y8 y9) (laws_FnWashing.j3 (k + 1) y0 y1 y2 y3 y4 y5 y6 y7 y8 y9)) ∧ (∀ y0 y1 y2 y3 y4 y5 y6 y7 y8, LeO (laws_FnWashing.j4 k y0 y1 y2 y3 y4 y5 y6 y7 y8) (laws_FnWashing.j4 (k + 1) y0 y1 y2 y3 y4 y5 y6 y7 y8)) ∧ (∀ y0, LeO (laws_FnWashing.j6 k y0) (laws_FnWashing.j6 (k + 1) y0)) ∧ (∀ y0 y1 y2 y3 y4, LeO (laws_FnWashing.j7 k y0 y1 y2 y3 y4) (laws_FnWashing.j7 (k + 1) y0 y1 y2 y3 y4)) ∧ (∀ y0 y1 y2 y3 y4 y5 y6 y7 y8, LeO (laws_FnWashing.j5 k y0 y1 y2 y3 y4 y5 y6 y7 y8) (laws_FnWashing.j5 (k + 1) y0 y1 y2 y3 y4 y5 y6 y7 y8))
  | 0 => ⟨fun _ _ _ _ _ _ _ r h => by simp [laws_FnWashing.j0] at h, fun _ _ _ _ _ _ _ _ r h => by simp [laws_FnWashing.j1] at h, fun _ r h => by simp [laws_FnWashing.j2] at h, fun _ _ _ _ _ _ _ _ _ _ r h => by simp [laws_FnWashing.j3] at h, fun _ _ _ _ _ _ _ _ _ r h => by simp [laws_FnWashing.j4] at h, fun _ r h => by simp [laws_FnWashing.j6] at h, fun _ _ _ _ _ r h => by simp [laws_FnWashing.j7] at h, fun _ _ _ _ _ _ _ _ _ r h => by simp [laws_FnWashing.j5] at h⟩
  | k + 1 => by
    obtain ⟨ih0, ih1, ih2, ih3, ih4, ih5, ih6, ih7⟩ := laws_FnWashing.mono_l k
    refine ⟨?_, ?_, ?_, ?_, ?_, ?_, ?_, ?_⟩
    · intro y0 y1 y2 y3 y4 y5 y6
      unfold laws_FnWashing.j0
      repeat' first
      | (with_reducible exact ih0 _ _ _ _ _ _ _)
      | (with_reducible exact ih1 _ _ _ _ _ _ _ _)
      | (with_reducible exact ih2 _)
      | (with_reducible exact ih3 _ _ _ _ _ _ _ _ _ _)
      | (with_reducible exact ih4 _ _ _ _ _ _ _ _ _)
      | (with_reducible exact ih5 _)
      | (with_reducible exact ih6 _ _ _ _ _)
      | (with_reducible exact ih7 _ _ _ _ _ _ _ _ _)
      | (with_reducible exact impl_AreWetCarpets.mono _ _)
      | (with_reducible exact impl_DryCarpets.mono _ _ _ _)
      | (with_reducible exact impl_HoursFor.mono _ _ _ _ _ _ _)
      | (with_reducible exact impl_LineLoad.mono _ _)
      | (with_reducible exact impl_ShearCarpet.mono _ _ _ _)
      | (with_reducible exact impl_SpinCarpet.mono _ _ _)
      | (with_reducible exact impl_WashCarpet.mono _ _ _)
      | (with_reducible exact laws_rHas.mono _ _ _)
      | (with_reducible exact laws_rWet.mono _ _ _)
      | (with_reducible exact spec_DrawShearCarpet.mono _ _)
      | (with_reducible exact spec_DrawSpinCarpet.mono _ _)
      | (with_reducible exact spec_HoursFor.mono _ _ _ _ _ _ _)
      | (with_reducible exact spec_ShearCarpet.mono _ _ _ _)
      | (with_reducible exact spec_SpinCarpet.mono _ _ _)
      | (with_reducible exact spec_WashCarpet.mono _ _ _)
      | (with_reducible exact LeO.refl _)
      | (with_reducible exact LeO.none _)
      | (with_reducible refine LeO.ite ?_ ?_)
      | (with_reducible refine LeO.bind ?_ (fun _ => ?_))
      | exact ih0 _ _ _ _ _ _ _
      | exact ih1 _ _ _ _ _ _ _ _
      | exact ih2 _
      | exact ih3 _ _ _ _ _ _ _ _ _ _
      | exact ih4 _ _ _ _ _ _ _ _ _
      | exact ih5 _
      | exact ih6 _ _ _ _ _
      | exact ih7 _ _ _ _ _ _ _ _ _
      | exact impl_AreWetCarpets.mono _ _
      | exact impl_DryCarpets.mono _ _ _ _
      | exact impl_HoursFor.mono _ _ _ _ _ _ _
      | exact impl_LineLoad.mono _ _
      | exact impl_ShearCarpet.mono _ _ _ _
      | exact impl_SpinCarpet.mono _ _ _
      | exact impl_WashCarpet.mono _ _ _
      | exact laws_rHas.mono _ _ _
      | exact laws_rWet.mono _ _ _
      | exact spec_DrawShearCarpet.mono _ _
      | exact spec_DrawSpinCarpet.mono _ _
      | exact spec_HoursFor.mono _ _ _ _ _ _ _
      | exact spec_ShearCarpet.mono _ _ _ _
      | exact spec_SpinCarpet.mono _ _ _
      | exact spec_WashCarpet.mono _ _ _
      | exact LeO.none _
      | refine LeO.ite ?_ ?_
      | refine LeO.bind ?_ (fun _ => ?_)
    · intro y0 y1 y2 y3 y4 y5 y6 y7
      unfold laws_FnWashing.j1
      repeat' first
      | (with_reducible exact ih0 _ _ _ _ _ _ _)
      | (with_reducible exact ih1 _ _ _ _ _ _ _ _)
      | (with_reducible exact ih2 _)
      | (with_reducible exact ih3 _ _ _ _ _ _ _ _ _ _)
      | (with_reducible exact ih4 _ _ _ _ _ _ _ _ _)
      | (with_reducible exact ih5 _)
      | (with_reducible exact ih6 _ _ _ _ _)
      | (with_reducible exact ih7 _ _ _ _ _ _ _ _ _)
      | (with_reducible exact impl_AreWetCarpets.mono _ _)
      | (with_reducible exact impl_DryCarpets.mono _ _ _ _)
      | (with_reducible exact impl_HoursFor.mono _ _ _ _ _ _ _)
      | (with_reducible exact impl_LineLoad.mono _ _)
      | (with_reducible exact impl_ShearCarpet.mono _ _ _ _)
      | (with_reducible exact impl_SpinCarpet.mono _ _ _)
      | (with_reducible exact impl_WashCarpet.mono _ _ _)
      | (with_reducible exact laws_rHas.mono _ _ _)
      | (with_reducible exact laws_rWet.mono _ _ _)
      | (with_reducible exact spec_DrawShearCarpet.mono _ _)
      | (with_reducible exact spec_DrawSpinCarpet.mono _ _)
      | (with_reducible exact spec_HoursFor.mono _ _ _ _ _ _ _)
      | (with_reducible exact spec_ShearCarpet.mono _ _ _ _)
      | (with_reducible exact spec_SpinCarpet.mono _ _ _)
      | (with_reducible exact spec_WashCarpet.mono _ _ _)
      | (with_reducible exact LeO.refl _)
      | (with_reducible exact LeO.none _)
      | (with_reducible refine LeO.ite ?_ ?_)
      | (with_reducible refine LeO.bind ?_ (fun _ => ?_))
      | exact ih0 _ _ _ _ _ _ _
      | exact ih1 _ _ _ _ _ _ _ _
      | exact ih2 _
      | exact ih3 _ _ _ _ _ _ _ _ _ _
      | exact ih4 _ _ _ _ _ _ _ _ _
      | exact ih5 _
      | exact ih6 _ _ _ _ _
      | exact ih7 _ _ _ _ _ _ _ _ _
      | exact impl_AreWetCarpets.mono _ _
      | exact impl_DryCarpets.mono _ _ _ _
      | exact impl_HoursFor.mono _ _ _ _ _ _ _
      | exact impl_LineLoad.mono _ _
      | exact impl_ShearCarpet.mono _ _ _ _
      | exact impl_SpinCarpet.mono _ _ _
      | exact impl_WashCarpet.mono _ _ _
      | exact laws_rHas.mono _ _ _
      | exact laws_rWet.mono _ _ _
      | exact spec_DrawShearCarpet.mono _ _
      | exact spec_DrawSpinCarpet.mono _ _
      | exact spec_HoursFor.mono _ _ _ _ _ _ _
      | exact spec_ShearCarpet.mono _ _ _ _
      | exact spec_SpinCarpet.mono _ _ _
      | exact spec_WashCarpet.mono _ _ _
      | exact LeO.none _
      | refine LeO.ite ?_ ?_
      | refine LeO.bind ?_ (fun _ => ?_)
    · intro y0
      unfold laws_FnWashing.j2
      repeat' first
      | (with_reducible exact ih0 _ _ _ _ _ _ _)
      | (with_reducible exact ih1 _ _ _ _ _ _ _ _)
      | (with_reducible exact ih2 _)
      | (with_reducible exact ih3 _ _ _ _ _ _ _ _ _ _)
      | (with_reducible exact ih4 _ _ _ _ _ _ _ _ _)
      | (with_reducible exact ih5 _)
      | (with_reducible exact ih6 _ _ _ _ _)
      | (with_reducible exact ih7 _ _ _ _ _ _ _ _ _)
      | (with_reducible exact impl_AreWetCarpets.mono _ _)
      | (with_reducible exact impl_DryCarpets.mono _ _ _ _)
      | (with_reducible exact impl_HoursFor.mono _ _ _ _ _ _ _)
      | (with_reducible exact impl_LineLoad.mono _ _)
      | (with_reducible exact impl_ShearCarpet.mono _ _ _ _)
      | (with_reducible exact impl_SpinCarpet.mono _ _ _)
      | (with_reducible exact impl_WashCarpet.mono _ _ _)
      | (with_reducible exact laws_rHas.mono _ _ _)
      | (with_reducible exact laws_rWet.mono _ _ _)
      | (with_reducible exact spec_DrawShearCarpet.mono _ _)
      | (with_reducible exact spec_DrawSpinCarpet.mono _ _)
      | (with_reducible exact spec_HoursFor.mono _ _ _ _ _ _ _)
      | (with_reducible exact spec_ShearCarpet.mono _ _ _ _)
      | (with_reducible exact spec_SpinCarpet.mono _ _ _)
      | (with_reducible exact spec_WashCarpet.mono _ _ _)
      | (with_reducible exact LeO.refl _)
      | (with_reducible exact LeO.none _)
      | (with_reducible refine LeO.ite ?_ ?_)
      | (with_reducible refine LeO.bind ?_ (fun _ => ?_))
      | exact ih0 _ _ _ _ _ _ _
      | exact ih1 _ _ _ _ _ _ _ _
      | exact ih2 _
      | exact ih3 _ _ _ _ _ _ _ _ _ _
      | exact ih4 _ _ _ _ _ _ _ _ _
      | exact ih5 _
      | exact ih6 _ _ _ _ _
      | exact ih7 _ _ _ _ _ _ _ _ _
      | exact impl_AreWetCarpets.mono _ _
      | exact impl_DryCarpets.mono _ _ _ _
      | exact impl_HoursFor.mono _ _ _ _ _ _ _
      | exact impl_LineLoad.mono _ _
      | exact impl_ShearCarpet.mono _ _ _ _
      | exact impl_SpinCarpet.mono _ _ _
      | exact impl_WashCarpet.mono _ _ _
      | exact laws_rHas.mono _ _ _
      | exact laws_rWet.mono _ _ _
      | exact spec_DrawShearCarpet.mono _ _
      | exact spec_DrawSpinCarpet.mono _ _
      | exact spec_HoursFor.mono _ _ _ _ _ _ _
      | exact spec_ShearCarpet.mono _ _ _ _
      | exact spec_SpinCarpet.mono _ _ _
      | exact spec_WashCarpet.mono _ _ _
      | exact LeO.none _
      | refine LeO.ite ?_ ?_
      | refine LeO.bind ?_ (fun _ => ?_)
    · intro y0 y1 y2 y3 y4 y5 y6 y7 y8 y9
      unfold laws_FnWashing.j3
      repeat' first
      | (with_reducible exact ih0 _ _ _ _ _ _ _)
      | (with_reducible exact ih1 _ _ _ _ _ _ _ _)
      | (with_reducible exact ih2 _)
      | (with_reducible exact ih3 _ _ _ _ _ _ _ _ _ _)
      | (with_reducible exact ih4 _ _ _ _ _ _ _ _ _)
      | (with_reducible exact ih5 _)
      | (with_reducible exact ih6 _ _ _ _ _)
      | (with_reducible exact ih7 _ _ _ _ _ _ _ _ _)
      | (with_reducible exact impl_AreWetCarpets.mono _ _)
      | (with_reducible exact impl_DryCarpets.mono _ _ _ _)
      | (with_reducible exact impl_HoursFor.mono _ _ _ _ _ _ _)
      | (with_reducible exact impl_LineLoad.mono _ _)
      | (with_reducible exact impl_ShearCarpet.mono _ _ _ _)
      | (with_reducible exact impl_SpinCarpet.mono _ _ _)
      | (with_reducible exact impl_WashCarpet.mono _ _ _)
      | (with_reducible exact laws_rHas.mono _ _ _)
      | (with_reducible exact laws_rWet.mono _ _ _)
      | (with_reducible exact spec_DrawShearCarpet.mono _ _)
      | (with_reducible exact spec_DrawSpinCarpet.mono _ _)
      | (with_reducible exact spec_HoursFor.mono _ _ _ _ _ _ _)
      | (with_reducible exact spec_ShearCarpet.mono _ _ _ _)
      | (with_reducible exact spec_SpinCarpet.mono _ _ _)
      | (with_reducible exact spec_WashCarpet.mono _ _ _)
      | (with_reducible exact LeO.refl _)
      | (with_reducible exact LeO.none _)
      | (with_reducible refine LeO.ite ?_ ?_)
      | (with_reducible refine LeO.bind ?_ (fun _ => ?_))
      | exact ih0 _ _ _ _ _ _ _
      | exact ih1 _ _ _ _ _ _ _ _
      | exact ih2 _
      | exact ih3 _ _ _ _ _ _ _ _ _ _
      | exact ih4 _ _ _ _ _ _ _ _ _
      | exact ih5 _
      | exact ih6 _ _ _ _ _
      | exact ih7 _ _ _ _ _ _ _ _ _
      | exact impl_AreWetCarpets.mono _ _
      | exact impl_DryCarpets.mono _ _ _ _
      | exact impl_HoursFor.mono _ _ _ _ _ _ _
      | exact impl_LineLoad.mono _ _
      | exact impl_ShearCarpet.mono _ _ _ _
      | exact impl_SpinCarpet.mono _ _ _
      | exact impl_WashCarpet.mono _ _ _
      | exact laws_rHas.mono _ _ _
      | exact laws_rWet.mono _ _ _
      | exact spec_DrawShearCarpet.mono _ _
      | exact spec_DrawSpinCarpet.mono _ _
      | exact spec_HoursFor.mono _ _ _ _ _ _ _
      | exact spec_ShearCarpet.mono _ _ _ _
      | exact spec_SpinCarpet.mono _ _ _
      | exact spec_WashCarpet.mono _ _ _
      | exact LeO.none _
      | refine LeO.ite ?_ ?_
      | refine LeO.bind ?_ (fun _ => ?_)
    · intro y0 y1 y2 y3 y4 y5 y6 y7 y8
      unfold laws_FnWashing.j4
      repeat' first
      | (with_reducible exact ih0 _ _ _ _ _ _ _)
      | (with_reducible exact ih1 _ _ _ _ _ _ _ _)
      | (with_reducible exact ih2 _)
      | (with_reducible exact ih3 _ _ _ _ _ _ _ _ _ _)
      | (with_reducible exact ih4 _ _ _ _ _ _ _ _ _)
      | (with_reducible exact ih5 _)
      | (with_reducible exact ih6 _ _ _ _ _)
      | (with_reducible exact ih7 _ _ _ _ _ _ _ _ _)
      | (with_reducible exact impl_AreWetCarpets.mono _ _)
      | (with_reducible exact impl_DryCarpets.mono _ _ _ _)
      | (with_reducible exact impl_HoursFor.mono _ _ _ _ _ _ _)
      | (with_reducible exact impl_LineLoad.mono _ _)
      | (with_reducible exact impl_ShearCarpet.mono _ _ _ _)
      | (with_reducible exact impl_SpinCarpet.mono _ _ _)
      | (with_reducible exact impl_WashCarpet.mono _ _ _)
      | (with_reducible exact laws_rHas.mono _ _ _)
      | (with_reducible exact laws_rWet.mono _ _ _)
      | (with_reducible exact spec_DrawShearCarpet.mono _ _)
      | (with_reducible exact spec_DrawSpinCarpet.mono _ _)
      | (with_reducible exact spec_HoursFor.mono _ _ _ _ _ _ _)
      | (with_reducible exact spec_ShearCarpet.mono _ _ _ _)
      | (with_reducible exact spec_SpinCarpet.mono _ _ _)
      | (with_reducible exact spec_WashCarpet.mono _ _ _)
      | (with_reducible exact LeO.refl _)
      | (with_reducible exact LeO.none _)
      | (with_reducible refine LeO.ite ?_ ?_)
      | (with_reducible refine LeO.bind ?_ (fun _ => ?_))
      | exact ih0 _ _ _ _ _ _ _
      | exact ih1 _ _ _ _ _ _ _ _
      | exact ih2 _
      | exact ih3 _ _ _ _ _ _ _ _ _ _
      | exact ih4 _ _ _ _ _ _ _ _ _
      | exact ih5 _
      | exact ih6 _ _ _ _ _
      | exact ih7 _ _ _ _ _ _ _ _ _
      | exact impl_AreWetCarpets.mono _ _
      | exact impl_DryCarpets.mono _ _ _ _
      | exact impl_HoursFor.mono _ _ _ _ _ _ _
      | exact impl_LineLoad.mono _ _
      | exact impl_ShearCarpet.mono _ _ _ _
      | exact impl_SpinCarpet.mono _ _ _
      | exact impl_WashCarpet.mono _ _ _
      | exact laws_rHas.mono _ _ _
      | exact laws_rWet.mono _ _ _
      | exact spec_DrawShearCarpet.mono _ _
      | exact spec_DrawSpinCarpet.mono _ _
      | exact spec_HoursFor.mono _ _ _ _ _ _ _
      | exact spec_ShearCarpet.mono _ _ _ _
      | exact spec_SpinCarpet.mono _ _ _
      | exact spec_WashCarpet.mono _ _ _
      | exact LeO.none _
      | refine LeO.ite ?_ ?_
      | refine LeO.bind ?_ (fun _ => ?_)
    · intro y0
      unfold laws_FnWashing.j6
      repeat' first
      | (with_reducible exact ih0 _ _ _ _ _ _ _)
      | (with_reducible exact ih1 _ _ _ _ _ _ _ _)
      | (with_reducible exact ih2 _)
      | (with_reducible exact ih3 _ _ _ _ _ _ _ _ _ _)
      | (with_reducible exact ih4 _ _ _ _ _ _ _ _ _)
      | (with_reducible exact ih5 _)
      | (with_reducible exact ih6 _ _ _ _ _)
      | (with_reducible exact ih7 _ _ _ _ _ _ _ _ _)
      | (with_reducible exact impl_AreWetCarpets.mono _ _)
      | (with_reducible exact impl_DryCarpets.mono _ _ _ _)
      | (with_reducible exact impl_HoursFor.mono _ _ _ _ _ _ _)
      | (with_reducible exact impl_LineLoad.mono _ _)
      | (with_reducible exact impl_ShearCarpet.mono _ _ _ _)
      | (with_reducible exact impl_SpinCarpet.mono _ _ _)
      | (with_reducible exact impl_WashCarpet.mono _ _ _)
      | (with_reducible exact laws_rHas.mono _ _ _)
      | (with_reducible exact laws_rWet.mono _ _ _)
      | (with_reducible exact spec_DrawShearCarpet.mono _ _)
      | (with_reducible exact spec_DrawSpinCarpet.mono _ _)
      | (with_reducible exact spec_HoursFor.mono _ _ _ _ _ _ _)
      | (with_reducible exact spec_ShearCarpet.mono _ _ _ _)
      | (with_reducible exact spec_SpinCarpet.mono _ _ _)
      | (with_reducible exact spec_WashCarpet.mono _ _ _)
      | (with_reducible exact LeO.refl _)
      | (with_reducible exact LeO.none _)
      | (with_reducible refine LeO.ite ?_ ?_)
      | (with_reducible refine LeO.bind ?_ (fun _ => ?_))
      | exact ih0 _ _ _ _ _ _ _
      | exact ih1 _ _ _ _ _ _ _ _
      | exact ih2 _
      | exact ih3 _ _ _ _ _ _ _ _ _ _
      | exact ih4 _ _ _ _ _ _ _ _ _
      | exact ih5 _
      | exact ih6 _ _ _ _ _
      | exact ih7 _ _ _ _ _ _ _ _ _
      | exact impl_AreWetCarpets.mono _ _
      | exact impl_DryCarpets.mono _ _ _ _
      | exact impl_HoursFor.mono _ _ _ _ _ _ _
      | exact impl_LineLoad.mono _ _
      | exact impl_ShearCarpet.mono _ _ _ _
      | exact impl_SpinCarpet.mono _ _ _
      | exact impl_WashCarpet.mono _ _ _
      | exact laws_rHas.mono _ _ _
      | exact laws_rWet.mono _ _ _
      | exact spec_DrawShearCarpet.mono _ _
      | exact spec_DrawSpinCarpet.mono _ _
      | exact spec_HoursFor.mono _ _ _ _ _ _ _
      | exact spec_ShearCarpet.mono _ _ _ _
      | exact spec_SpinCarpet.mono _ _ _
      | exact spec_WashCarpet.mono _ _ _
      | exact LeO.none _
      | refine LeO.ite ?_ ?_
      | refine LeO.bind ?_ (fun _ => ?_)
    · intro y0 y1 y2 y3 y4
      unfold laws_FnWashing.j7
      repeat' first
      | (with_reducible exact ih0 _ _ _ _ _ _ _)
      | (with_reducible exact ih1 _ _ _ _ _ _ _ _)
      | (with_reducible exact ih2 _)
      | (with_reducible exact ih3 _ _ _ _ _ _ _ _ _ _)
      | (with_reducible exact ih4 _ _ _ _ _ _ _ _ _)
      | (with_reducible exact ih5 _)
      | (with_reducible exact ih6 _ _ _ _ _)
      | (with_reducible exact ih7 _ _ _ _ _ _ _ _ _)
      | (with_reducible exact impl_AreWetCarpets.mono _ _)
      | (with_reducible exact impl_DryCarpets.mono _ _ _ _)
      | (with_reducible exact impl_HoursFor.mono _ _ _ _ _ _ _)
      | (with_reducible exact impl_LineLoad.mono _ _)
      | (with_reducible exact impl_ShearCarpet.mono _ _ _ _)
      | (with_reducible exact impl_SpinCarpet.mono _ _ _)
      | (with_reducible exact impl_WashCarpet.mono _ _ _)
      | (with_reducible exact laws_rHas.mono _ _ _)
      | (with_reducible exact laws_rWet.mono _ _ _)
      | (with_reducible exact spec_DrawShearCarpet.mono _ _)
      | (with_reducible exact spec_DrawSpinCarpet.mono _ _)
      | (with_reducible exact spec_HoursFor.mono _ _ _ _ _ _ _)
      | (with_reducible exact spec_ShearCarpet.mono _ _ _ _)
      | (with_reducible exact spec_SpinCarpet.mono _ _ _)
      | (with_reducible exact spec_WashCarpet.mono _ _ _)
      | (with_reducible exact LeO.refl _)
      | (with_reducible exact LeO.none _)
      | (with_reducible refine LeO.ite ?_ ?_)
      | (with_reducible refine LeO.bind ?_ (fun _ => ?_))
      | exact ih0 _ _ _ _ _ _ _
      | exact ih1 _ _ _ _ _ _ _ _
      | exact ih2 _
      | exact ih3 _ _ _ _ _ _ _ _ _ _
      | exact ih4 _ _ _ _ _ _ _ _ _
      | exact ih5 _
      | exact ih6 _ _ _ _ _
      | exact ih7 _ _ _ _ _ _ _ _ _
      | exact impl_AreWetCarpets.mono _ _
      | exact impl_DryCarpets.mono _ _ _ _
      | exact impl_HoursFor.mono _ _ _ _ _ _ _
      | exact impl_LineLoad.mono _ _
      | exact impl_ShearCarpet.mono _ _ _ _
      | exact impl_SpinCarpet.mono _ _ _
      | exact impl_WashCarpet.mono _ _ _
      | exact laws_rHas.mono _ _ _
      | exact laws_rWet.mono _ _ _
      | exact spec_DrawShearCarpet.mono _ _
      | exact spec_DrawSpinCarpet.mono _ _
      | exact spec_HoursFor.mono _ _ _ _ _ _ _
      | exact spec_ShearCarpet.mono _ _ _ _
      | exact spec_SpinCarpet.mono _ _ _
      | exact spec_WashCarpet.mono _ _ _
      | exact LeO.none _
      | refine LeO.ite ?_ ?_
      | refine LeO.bind ?_ (fun _ => ?_)
    · intro y0 y1 y2 y3 y4 y5 y6 y7 y8
      unfold laws_FnWashing.j5
      repeat' first
      | (with_reducible exact ih0 _ _ _ _ _ _ _)
      | (with_reducible exact ih1 _ _ _ _ _ _ _ _)
      | (with_reducible exact ih2 _)
      | (with_reducible exact ih3 _ _ _ _ _ _ _ _ _ _)
      | (with_reducible exact ih4 _ _ _ _ _ _ _ _ _)
      | (with_reducible exact ih5 _)
      | (with_reducible exact ih6 _ _ _ _ _)
      | (with_reducible exact ih7 _ _ _ _ _ _ _ _ _)
      | (with_reducible exact impl_AreWetCarpets.mono _ _)
      | (with_reducible exact impl_DryCarpets.mono _ _ _ _)
      | (with_reducible exact impl_HoursFor.mono _ _ _ _ _ _ _)
      | (with_reducible exact impl_LineLoad.mono _ _)
      | (with_reducible exact impl_ShearCarpet.mono _ _ _ _)
      | (with_reducible exact impl_SpinCarpet.mono _ _ _)
      | (with_reducible exact impl_WashCarpet.mono _ _ _)
      | (with_reducible exact laws_rHas.mono _ _ _)
      | (with_reducible exact laws_rWet.mono _ _ _)
      | (with_reducible exact spec_DrawShearCarpet.mono _ _)
      | (with_reducible exact spec_DrawSpinCarpet.mono _ _)
      | (with_reducible exact spec_HoursFor.mono _ _ _ _ _ _ _)
      | (with_reducible exact spec_ShearCarpet.mono _ _ _ _)
      | (with_reducible exact spec_SpinCarpet.mono _ _ _)
      | (with_reducible exact spec_WashCarpet.mono _ _ _)
      | (with_reducible exact LeO.refl _)
      | (with_reducible exact LeO.none _)
      | (with_reducible refine LeO.ite ?_ ?_)
      | (with_reducible refine LeO.bind ?_ (fun _ => ?_))
      | exact ih0 _ _ _ _ _ _ _
      | exact ih1 _ _ _ _ _ _ _ _
      | exact ih2 _
      | exact ih3 _ _ _ _ _ _ _ _ _ _
      | exact ih4 _ _ _ _ _ _ _ _ _
      | exact ih5 _
      | exact ih6 _ _ _ _ _
      | exact ih7 _ _ _ _ _ _ _ _ _
      | exact impl_AreWetCarpets.mono _ _
      | exact impl_DryCarpets.mono _ _ _ _
      | exact impl_HoursFor.mono _ _ _ _ _ _ _
      | exact impl_LineLoad.mono _ _
      | exact impl_ShearCarpet.mono _ _ _ _
      | exact impl_SpinCarpet.mono _ _ _
      | exact impl_WashCarpet.mono _ _ _
      | exact laws_rHas.mono _ _ _
      | exact laws_rWet.mono _ _ _
      | exact spec_DrawShearCarpet.mono _ _
      | exact spec_DrawSpinCarpet.mono _ _
      | exact spec_HoursFor.mono _ _ _ _ _ _ _
      | exact spec_ShearCarpet.mono _ _ _ _
      | exact spec_SpinCarpet.mono _ _ _
      | exact spec_WashCarpet.mono _ _ _
      | exact LeO.none _
      | refine LeO.ite ?_ ?_
      | refine LeO.bind ?_ (fun _ => ?_)
theorem laws_FnWashing.mono : ∀ a0 k, LeO (laws_FnWashing.f k a0) (laws_FnWashing.f (k + 1) a0) := by
  intro a0 k
  obtain ⟨ih0, ih1, ih2, ih3, ih4, ih5, ih6, ih7⟩ := laws_FnWashing.mono_l k
  unfold laws_FnWashing.f
  repeat' first
      | (with_reducible exact ih0 _ _ _ _ _ _ _)
      | (with_reducible exact ih1 _ _ _ _ _ _ _ _)
      | (with_reducible exact ih2 _)
      | (with_reducible exact ih3 _ _ _ _ _ _ _ _ _ _)
      | (with_reducible exact ih4 _ _ _ _ _ _ _ _ _)
      | (with_reducible exact ih5 _)
      | (with_reducible exact ih6 _ _ _ _ _)
      | (with_reducible exact ih7 _ _ _ _ _ _ _ _ _)
      | (with_reducible exact impl_AreWetCarpets.mono _ _)
      | (with_reducible exact impl_DryCarpets.mono _ _ _ _)
      | (with_reducible exact impl_HoursFor.mono _ _ _ _ _ _ _)
      | (with_reducible exact impl_LineLoad.mono _ _)
      | (with_reducible exact impl_ShearCarpet.mono _ _ _ _)
      | (with_reducible exact impl_SpinCarpet.mono _ _ _)
      | (with_reducible exact impl_WashCarpet.mono _ _ _)
      | (with_reducible exact laws_rHas.mono _ _ _)
      | (with_reducible exact laws_rWet.mono _ _ _)
      | (with_reducible exact spec_DrawShearCarpet.mono _ _)
      | (with_reducible exact spec_DrawSpinCarpet.mono _ _)
      | (with_reducible exact spec_HoursFor.mono _ _ _ _ _ _ _)
      | (with_reducible exact spec_ShearCarpet.mono _ _ _ _)
      | (with_reducible exact spec_SpinCarpet.mono _ _ _)
      | (with_reducible exact spec_WashCarpet.mono _ _ _)
      | (with_reducible exact LeO.refl _)
      | (with_reducible exact LeO.none _)
      | (with_reducible refine LeO.ite ?_ ?_)
      | (with_reducible refine LeO.bind ?_ (fun _ => ?_))
      | exact ih0 _ _ _ _ _ _ _
      | exact ih1 _ _ _ _ _ _ _ _
      | exact ih2 _
      | exact ih3 _ _ _ _ _ _ _ _ _ _
      | exact ih4 _ _ _ _ _ _ _ _ _
      | exact ih5 _
      | exact ih6 _ _ _ _ _
      | exact ih7 _ _ _ _ _ _ _ _ _
      | exact impl_AreWetCarpets.mono _ _
      | exact impl_DryCarpets.mono _ _ _ _
      | exact impl_HoursFor.mono _ _ _ _ _ _ _
      | exact impl_LineLoad.mono _ _
      | exact impl_ShearCarpet.mono _ _ _ _
      | exact impl_SpinCarpet.mono _ _ _
      | exact impl_WashCarpet.mono _ _ _
      | exact laws_rHas.mono _ _ _
      | exact laws_rWet.mono _ _ _
      | exact spec_DrawShearCarpet.mono _ _
      | exact spec_DrawSpinCarpet.mono _ _
      | exact spec_HoursFor.mono _ _ _ _ _ _ _
      | exact spec_ShearCarpet.mono _ _ _ _
      | exact spec_SpinCarpet.mono _ _ _
      | exact spec_WashCarpet.mono _ _ _
      | exact LeO.none _
      | refine LeO.ite ?_ ?_
      | refine LeO.bind ?_ (fun _ => ?_)
set_option maxHeartbeats 64000000 in
set_option maxRecDepth 100000 in
theorem laws_FnWashing.calls (k : Nat) (A0 : Option Addr) (c0 : Nat) (l0 : List Int) (r : Bool) (w : World) (hr0 : Kd.C (Kd.int .u8) w A0 l0.length l0) (hc0 : l0.length ≤ c0) (ht : r = true) (h : laws_FnWashing.f k l0 = some r) :
  Calls Try.prog 14 #[.slice A0 l0.length c0] w fun e w' => e = .returned (.bool r) ∧ Below w.heap.size w w' := by
 have hu25 := Try.underlying25
 have HR0 := Aside0.mk hr0
 have HC0 := Aside0.mk hc0
 clear hr0 hc0
 have HB := Aside0.mk (Below.refl w.heap.size w)
 have HT := Aside0.mk ht
 clear ht
 have H : ((laws_rBig.f l0).bind fun t101 => (if t101 = true then (some true) else ((spec_DrawSpinCarpet.f k l0).bind fun bt102 => ((impl_SpinCarpet.f k bt102.1 bt102.2).bind fun bt106 => ((spec_SpinCarpet.f k bt102.1 bt102.2).bind fun bt111 => (if (bt106.2.2 != bt111.2.2) = true then (laws_FnWashing.j0 k l0 bt102.1 bt102.2 bt106.1 bt106.2.1 bt106.2.2 true) else (if bt106.2.1 = bt111.2.1 then ((laws_rWet.f k bt106.1 bt111.1).bind fun t116 => (laws_FnWashing.j0 k l0 bt102.1 bt102.2 bt106.1 bt106.2.1 bt106.2.2 (!t116))) else (laws_FnWashing.j0 k l0 bt102.1 bt102.2 bt106.1 bt106.2.1 bt106.2.2 true)))))))) = some r := h
 clear h
 replace H := Option.bind_eq_some_iff.mp H
 obtain ⟨t101, A20, H⟩ := H
 replace H : (if t101 = true then (some true) else ((spec_DrawSpinCarpet.f k l0).bind fun bt102 => ((impl_SpinCarpet.f k bt102.1 bt102.2).bind fun bt106 => ((spec_SpinCarpet.f k bt102.1 bt102.2).bind fun bt111 => (if (bt106.2.2 != bt111.2.2) = true then (laws_FnWashing.j0 k l0 bt102.1 bt102.2 bt106.1 bt106.2.1 bt106.2.2 true) else (if bt106.2.1 = bt111.2.1 then ((laws_rWet.f k bt106.1 bt111.1).bind fun t116 => (laws_FnWashing.j0 k l0 bt102.1 bt102.2 bt106.1 bt106.2.1 bt106.2.2 (!t116))) else (laws_FnWashing.j0 k l0 bt102.1 bt102.2 bt106.1 bt106.2.1 bt106.2.2 true))))))) = some r := H
 have A2 := Aside0.mk A20
 clear A20
 by_cases c3 : t101 = true
 ·subst c3
  have H1 : (some true) = some r := by rw [if_pos rfl] at H; exact H
  clear H
  have H := H1
  clear H1
  as_aux_lemma =>
   obtain rfl := Option.some.inj H
   go_enter Try.func14, Try.ntmps14
   go_wp2_with (first | ((with_reducible refine gate_callee (f := 44) rfl ?_); refine goesL_ (some 49) rfl rfl Try.func44 (by kernel_rfl) rfl #[.slice A0 l0.length c0] rfl (by (try simp only [List.map_toArray, List.map_cons, List.map_nil]); first | done | rfl | (simp only [List.length_drop, List.length_take]; rfl)) ?_; (with_reducible refine (laws_rBig.calls _ _ l0 true _ ?side1 ?side2 A2.out).mono ?_); (case side1 => repeat (first | exact HR0.out | (with_reducible refine Kd.C_alloc ?_ _) | (with_reducible refine Kd.C_drewN ?_ _) | (with_reducible refine Kd.C_drew ?_))); (case side2 => exact HC0.out); rintro e w' ⟨rfl, ⟨nd, rfl⟩⟩; refine ⟨_, rfl, ?_⟩))
   go_ret
   exact ⟨by first | rfl | (simp [errW_none, errW_some] <;> rfl) | (simp [*, errW_none, errW_some] <;> rfl), by exact eS HB.out⟩
 ·replace c3 := Bool.eq_false_iff.mpr c3
  subst c3
  have H1 : ((spec_DrawSpinCarpet.f k l0).bind fun bt102 => ((impl_SpinCarpet.f k bt102.1 bt102.2).bind fun bt106 => ((spec_SpinCarpet.f k bt102.1 bt102.2).bind fun bt111 => (if (bt106.2.2 != bt111.2.2) = true then (laws_FnWashing.j0 k l0 bt102.1 bt102.2 bt106.1 bt106.2.1 bt106.2.2 true) else (if bt106.2.1 = bt111.2.1 then ((laws_rWet.f k bt106.1 bt111.1).bind fun t116 => (laws_FnWashing.j0 k l0 bt102.1 bt102.2 bt106.1 bt106.2.1 bt106.2.2 (!t116))) else (laws_FnWashing.j0 k l0 bt102.1 bt102.2 bt106.1 bt106.2.1 bt106.2.2 true)))))) = some r := by rw [if_neg (show ¬ (false = true) by decide)] at H; exact H
  clear H
  have H := H1
  clear H1
  replace H := Option.bind_eq_some_iff.mp H
  obtain ⟨⟨t102, t103⟩, A40, H⟩ := H
  replace H : ((impl_SpinCarpet.f k t102 t103).bind fun bt106 => ((spec_SpinCarpet.f k t102 t103).bind fun bt111 => (if (bt106.2.2 != bt111.2.2) = true then (laws_FnWashing.j0 k l0 t102 t103 bt106.1 bt106.2.1 bt106.2.2 true) else (if bt106.2.1 = bt111.2.1 then ((laws_rWet.f k bt106.1 bt111.1).bind fun t116 => (laws_FnWashing.j0 k l0 t102 t103 bt106.1 bt106.2.1 bt106.2.2 (!t116))) else (laws_FnWashing.j0 k l0 t102 t103 bt106.1 bt106.2.1 bt106.2.2 true))))) = some r := H
  have A4 := Aside0.mk A40
  clear A40
  replace H := Option.bind_eq_some_iff.mp H
  obtain ⟨⟨t106, t107, t108⟩, A50, H⟩ := H
  replace H : ((spec_SpinCarpet.f k t102 t103).bind fun bt111 => (if (t108 != bt111.2.2) = true then (laws_FnWashing.j0 k l0 t102 t103 t106 t107 t108 true) else (if t107 = bt111.2.1 then ((laws_rWet.f k t106 bt111.1).bind fun t116 => (laws_FnWashing.j0 k l0 t102 t103 t106 t107 t108 (!t116))) else (laws_FnWashing.j0 k l0 t102 t103 t106 t107 t108 true)))) = some r := H
  have A5 := Aside0.mk A50
  clear A50
  replace H := Option.bind_eq_some_iff.mp H
  obtain ⟨⟨t111, t112, t113⟩, A60, H⟩ := H
  replace H : (if (t108 != t113) = true then (laws_FnWashing.j0 k l0 t102 t103 t106 t107 t108 true) else (if t107 = t112 then ((laws_rWet.f k t106 t111).bind fun t116 => (laws_FnWashing.j0 k l0 t102 t103 t106 t107 t108 (!t116))) else (laws_FnWashing.j0 k l0 t102 t103 t106 t107 t108 true))) = some r := H
  have A6 := Aside0.mk A60
  clear A60
  have HC7 := Aside0.mk H
  clear H
  go_enter Try.func14, Try.ntmps14
  go_upto_region 6 with (first | ((with_reducible refine gate_callee (f := 44) rfl ?_); refine goesL_ (some 49) rfl rfl Try.func44 (by kernel_rfl) rfl #[.slice A0 l0.length c0] rfl (by (try simp only [List.map_toArray, List.map_cons, List.map_nil]); first | done | rfl | (simp only [List.length_drop, List.length_take]; rfl)) ?_; (with_reducible refine (laws_rBig.calls _ _ l0 false _ ?side1 ?side2 A2.out).mono ?_); (case side1 => repeat (first | exact HR0.out | (with_reducible refine Kd.C_alloc ?_ _) | (with_reducible refine Kd.C_drewN ?_ _) | (with_reducible refine Kd.C_drew ?_))); (case side2 => exact HC0.out); rintro e w' ⟨rfl, ⟨nd, rfl⟩⟩; refine ⟨_, rfl, ?_⟩) | ((with_reducible refine gate_callee (f := 51) rfl ?_); refine goesL_ (some 52) rfl rfl Try.func51 (by kernel_rfl) rfl #[.slice A0 l0.length c0] rfl (by (try simp only [List.map_toArray, List.map_cons, List.map_nil]); first | done | rfl | (simp only [List.length_drop, List.length_take]; rfl)) ?_; (with_reducible refine (spec_DrawSpinCarpet.calls k _ _ l0 t102 t103 _ ?side1 ?side2 A4.out).mono ?_); (case side1 => repeat (first | exact HR0.out | (with_reducible refine Kd.C_alloc ?_ _) | (with_reducible refine Kd.C_drewN ?_ _) | (with_reducible refine Kd.C_drew ?_))); (case side2 => exact HC0.out); rintro e w8 ⟨v104, rfl, ho0, hb⟩; refine ⟨_, rfl, ?_⟩; have n0_ := Aside0.mk (Kd.R_lower ho0 (below_size (by exact eS HB.out))); have n1_ := Aside0.mk (below_step (by exact eS HB.out) hb); clear HB; have HO105 := n0_; have HB := n1_; clear n0_ n1_; (try clear hb); (try clear hb2); (try clear hk); (try clear hi); (try clear ho0); obtain ⟨Ao9, co9, eo9⟩ := Kd.R_slice HO105.out; subst eo9) | ((with_reducible refine gate_callee (f := 36) rfl ?_); refine goesL_ (some 58) rfl rfl Try.func36 (by kernel_rfl) rfl #[.slice Ao9 t102.length co9, .int .i64 t103] rfl (by (try simp only [List.map_toArray, List.map_cons, List.map_nil]); first | done | rfl | (simp only [List.length_drop, List.length_take]; rfl)) ?_; (with_reducible refine (impl_SpinCarpet.calls k _ _ t102 t103 t106 t107 t108 _ ?side1 ?side2 A5.out).mono ?_); (case side1 => repeat (first | exact (Kd.R_reads' HO105.out).2.2 | (with_reducible refine Kd.C_alloc ?_ _) | (with_reducible refine Kd.C_drewN ?_ _) | (with_reducible refine Kd.C_drew ?_))); (case side2 => exact (Kd.R_reads' HO105.out).2.1); rintro e w10 ⟨v109, rfl, ho0, hb⟩; refine ⟨_, rfl, ?_⟩; have n0_ := Aside0.mk (Kd.R_elder' (by exact Ho.RS <| HO105.out) (Kd.R_base ho0) hb); have n1_ := Aside0.mk (Kd.R_lower (Kd.R_new' ho0 (Kd.R_lt (by exact Ho.RS <| HO105.out))) (below_size (by exact eS HB.out))); have n2_ := Aside0.mk (below_step (by exact eS HB.out) hb); clear HO105; clear HB; have HO105 := n0_; have HO110 := n1_; have HB := n2_; clear n0_ n1_ n2_; (try clear hb); (try clear hb2); (try clear hk); (try clear hi); (try clear ho0)) | ((with_reducible refine gate_callee (f := 35) rfl ?_); refine goesL_ (some 65) rfl rfl Try.func35 (by kernel_rfl) rfl #[.slice Ao9 t102.length co9, .int .i64 t103] rfl (by (try simp only [List.map_toArray, List.map_cons, List.map_nil]); first | done | rfl | (simp only [List.length_drop, List.length_take]; rfl)) ?_; (with_reducible refine (spec_SpinCarpet.calls k _ _ t102 t103 t111 t112 t113 _ ?side1 ?side2 A6.out).mono ?_); (case side1 => repeat (first | exact (Kd.R_reads' HO105.out).2.2 | (with_reducible refine Kd.C_alloc ?_ _) | (with_reducible refine Kd.C_drewN ?_ _) | (with_reducible refine Kd.C_drew ?_))); (case side2 => exact (Kd.R_reads' HO105.out).2.1); rintro e w11 ⟨v114, rfl, ho0, hb⟩; refine ⟨_, rfl, ?_⟩; have n0_ := Aside0.mk (Kd.R_elder' (by exact Ho.RS <| HO105.out) (Kd.R_base ho0) hb); have n1_ := Aside0.mk (Kd.R_elder' (by exact Ho.RS <| HO110.out) (Kd.R_base ho0) hb); have n2_ := Aside0.mk (Kd.R_lower (Kd.R_new' (Kd.R_new' ho0 (Kd.R_lt (by exact Ho.RS <| HO105.out))) (Kd.R_lt (by exact Ho.RS <| HO110.out))) (below_size (by exact eS HB.out))); have n3_ := Aside0.mk (below_step (by exact eS HB.out) hb); clear HO105; clear HO110; clear HB; have HO105 := n0_; have HO110 := n1_; have HO115 := n2_; have HB := n3_; clear n0_ n1_ n2_ n3_; (try clear hb); (try clear hb2); (try clear hk); (try clear hi); (try clear ho0)))
  (try simp only [Act.put, List.setIfInBounds_toArray, List.set_cons_zero, List.set_cons_succ])
  go_cut [82] (fun v82 wc => ∃ (kq : Nat) (x82_6 : Bool), v82 = .bool x82_6 ∧ Aside0 (laws_FnWashing.j0 kq l0 t102 t103 t106 t107 t108 x82_6 = some r) ∧ Aside0 (kq ≤ k) ∧ Aside0 (Kd.R k25 25 wc w.heap.size (fun k_ => some k_ ≠ (v109 : Value).ownBlock) (.slice Ao9 t102.length co9) t102) ∧ Aside0 (Kd.R k25 25 wc w.heap.size (fun k_ => some k_ ≠ ((.slice Ao9 t102.length co9) : Value).ownBlock) v109 t106) ∧ Aside0 (Below w.heap.size w wc))
  case first =>
   have H := HC7.out
   clear HC7
   by_cases c12 : (t108 != t113) = true
   ·rw [if_pos c12] at H
    have c12b0 : (t108 != t113) = true := c12
    (try (have c12b1 : decide (t108 = t113) = false := by simpa using c12))
    (try (have c12b2 : (t108 == t113) = false := by simpa using c12))
    (try (have c12b3 : ¬ (t108 = t113) := by simpa using c12))
    clear c12
    (first | rw [c12b0] | (simp only [i64_w, i32_w]; rw [c12b0]) | skip)
    as_aux_lemma =>
     have H' := Aside0.mk H
     clear H
     go_wp2
     go_meet
     case rel => exact ⟨_, (true), (by first | rfl | (simp; done) | (simp [*]; done)), H', ⟨by first | omega | exact Nat.le_refl _⟩, ⟨by exact Ho.RS <| Kd.R_mono HO105.out (fun _ hk => hk.1.2)⟩, ⟨by exact Ho.RS <| Kd.R_mono HO110.out (fun _ hk => hk.1.2)⟩, ⟨by exact eS HB.out⟩⟩
   ·rw [if_neg c12] at H
    have c12b0 : (t108 != t113) = false := by simpa using c12
    (try (have c12b1 : decide (t108 = t113) = true := by simpa using c12))
    (try (have c12b2 : (t108 == t113) = true := by simpa using c12))
    clear c12
    (first | rw [c12b0] | (simp only [i64_w, i32_w]; rw [c12b0]) | skip)
    by_cases c13 : t107 = t112
    ·rw [if_pos c13] at H
     have c13b0 : (t107 == t112) = true := beq_iff_eq.mpr c13
     have c13b1 : (t107 != t112) = false := bne_eq_false_iff_eq.mpr c13
     clear c13
     replace H := Option.bind_eq_some_iff.mp H
     obtain ⟨t116, A140, H⟩ := H
     replace H : (laws_FnWashing.j0 k l0 t102 t103 t106 t107 t108 (!t116)) = some r := H
     have A14 := Aside0.mk A140
     clear A140
     as_aux_lemma =>
      have H' := Aside0.mk H
      clear H
      obtain ⟨Ao15, co15, eo15⟩ := Kd.R_slice HO110.out
      subst eo15
      obtain ⟨Ao16, co16, eo16⟩ := Kd.R_slice HO115.out
      subst eo16
      go_wp2_with (first | (go_at_call 46; (with_reducible refine (laws_rWet.calls k _ _ t106 _ _ t111 t116 _ ?side1 ?side2 ?side3 ?side4 A14.out).mono ?_); (case side1 => repeat (first | exact (Kd.R_reads' HO110.out).2.2 | (with_reducible refine Kd.C_alloc ?_ _) | (with_reducible refine Kd.C_drewN ?_ _) | (with_reducible refine Kd.C_drew ?_))); (case side2 => exact (Kd.R_reads' HO110.out).2.1); (case side3 => repeat (first | exact (Kd.R_reads' HO115.out).2.2 | (with_reducible refine Kd.C_alloc ?_ _) | (with_reducible refine Kd.C_drewN ?_ _) | (with_reducible refine Kd.C_drew ?_))); (case side4 => exact (Kd.R_reads' HO115.out).2.1); rintro e w' ⟨rfl, ⟨nd, rfl⟩⟩))
      go_meet
      case rel => exact ⟨_, (!t116), (by first | rfl | (simp; done) | (simp [*]; done)), H', ⟨by first | omega | exact Nat.le_refl _⟩, ⟨by exact Ho.RS <| Kd.R_mono HO105.out (fun _ hk => hk.1.2)⟩, ⟨by exact Ho.RS <| Kd.R_mono HO110.out (fun _ hk => hk.1.2)⟩, ⟨by exact eS HB.out⟩⟩
    ·rw [if_neg c13] at H
     have c13b0 : (t107 == t112) = false := beq_eq_false_iff_ne.mpr c13
     have c13b1 : (t107 != t112) = true := bne_iff_ne.mpr c13
     as_aux_lemma =>
      have H' := Aside0.mk H
      clear H
      go_wp2
      go_meet
      case rel => exact ⟨_, (true), (by first | rfl | (simp; done) | (simp [*]; done)), H', ⟨by first | omega | exact Nat.le_refl _⟩, ⟨by exact Ho.RS <| Kd.R_mono HO105.out (fun _ hk => hk.1.2)⟩, ⟨by exact Ho.RS <| Kd.R_mono HO110.out (fun _ hk => hk.1.2)⟩, ⟨by exact eS HB.out⟩⟩
  case rest =>
   clear HC7
   try clear c1
   try clear p2
   try clear c3
   try clear c4
   try clear c5
   try clear c12
   try clear c12b0
   try clear c12b1
   try clear c12b2
   try clear c13
   try clear c13b0
   try clear c13b1
   try clear c14
   as_aux_lemma =>
    obtain ⟨kq, x82_6, rfl, HA, HJ6, HO_3, HO_5, HB⟩ := hcut
    cases kq with
    | zero => exact absurd HA.out (by simp [laws_FnWashing.j0])
    | succ kj6 =>
     have H := HA.out
     clear HA
     simp only [laws_FnWashing.j0] at H
     by_cases c17 : x82_6 = true
     ·subst c17
      have H1 : (some false) = some r := by rw [if_pos rfl] at H; exact H
      clear H
      have H := H1
      clear H1
      as_aux_lemma =>
       exact absurd ((Option.some.inj H).trans HT.out) (by decide)
     ·replace c17 := Bool.eq_false_iff.mpr c17
      subst c17
      have H1 : ((impl_WashCarpet.f kj6 t102 t103).bind fun bt117 => ((spec_WashCarpet.f kj6 t102 t103).bind fun bt122 => (if (bt117.2.2 != bt122.2.2) = true then (laws_FnWashing.j1 kj6 l0 t102 t106 t107 t108 bt117.1 bt117.2.1 true) else (if bt117.2.1 = bt122.2.1 then (if (bt117.2.2 != t108) = true then (laws_FnWashing.j1 kj6 l0 t102 t106 t107 t108 bt117.1 bt117.2.1 true) else ((laws_rWet.f kj6 bt117.1 bt122.1).bind fun t127 => (laws_FnWashing.j1 kj6 l0 t102 t106 t107 t108 bt117.1 bt117.2.1 (!t127)))) else (laws_FnWashing.j1 kj6 l0 t102 t106 t107 t108 bt117.1 bt117.2.1 true))))) = some r := by rw [if_neg (show ¬ (false = true) by decide)] at H; exact H
      clear H
      have H := H1
      clear H1
      replace H := Option.bind_eq_some_iff.mp H
      obtain ⟨⟨t117, t118, t119⟩, A180, H⟩ := H
      replace H : ((spec_WashCarpet.f kj6 t102 t103).bind fun bt122 => (if (t119 != bt122.2.2) = true then (laws_FnWashing.j1 kj6 l0 t102 t106 t107 t108 t117 t118 true) else (if t118 = bt122.2.1 then (if (t119 != t108) = true then (laws_FnWashing.j1 kj6 l0 t102 t106 t107 t108 t117 t118 true) else ((laws_rWet.f kj6 t117 bt122.1).bind fun t127 => (laws_FnWashing.j1 kj6 l0 t102 t106 t107 t108 t117 t118 (!t127)))) else (laws_FnWashing.j1 kj6 l0 t102 t106 t107 t108 t117 t118 true)))) = some r := H
      have A18 := Aside0.mk A180
      clear A180
      replace H := Option.bind_eq_some_iff.mp H
      obtain ⟨⟨t122, t123, t124⟩, A190, H⟩ := H
      replace H : (if (t119 != t124) = true then (laws_FnWashing.j1 kj6 l0 t102 t106 t107 t108 t117 t118 true) else (if t118 = t123 then (if (t119 != t108) = true then (laws_FnWashing.j1 kj6 l0 t102 t106 t107 t108 t117 t118 true) else ((laws_rWet.f kj6 t117 t122).bind fun t127 => (laws_FnWashing.j1 kj6 l0 t102 t106 t107 t108 t117 t118 (!t127)))) else (laws_FnWashing.j1 kj6 l0 t102 t106 t107 t108 t117 t118 true))) = some r := H
      have A19 := Aside0.mk A190
      clear A190
      have HC20 := Aside0.mk H
      clear H
      go_upto_region 10 with (first | ((with_reducible refine gate_callee (f := 32) rfl ?_); refine goesL_ (some 86) rfl rfl Try.func32 (by kernel_rfl) rfl #[.slice Ao9 t102.length co9, .int .i64 t103] rfl (by (try simp only [List.map_toArray, List.map_cons, List.map_nil]); first | done | rfl | (simp only [List.length_drop, List.length_take]; rfl)) ?_; (with_reducible refine (impl_WashCarpet.calls kj6 _ _ t102 t103 t117 t118 t119 _ ?side1 ?side2 A18.out).mono ?_); (case side1 => repeat (first | exact (Kd.R_reads' HO_3.out).2.2 | (with_reducible refine Kd.C_alloc ?_ _) | (with_reducible refine Kd.C_drewN ?_ _) | (with_reducible refine Kd.C_drew ?_))); (case side2 => exact (Kd.R_reads' HO_3.out).2.1); rintro e w21 ⟨v120, rfl, ho0, hb⟩; refine ⟨_, rfl, ?_⟩; have n0_ := Aside0.mk (Kd.R_elder' (by exact Ho.RS <| HO_3.out) (Kd.R_base ho0) hb); have n1_ := Aside0.mk (Kd.R_elder' (by exact Ho.RS <| HO_5.out) (Kd.R_base ho0) hb); have n2_ := Aside0.mk (Kd.R_lower (Kd.R_new' (Kd.R_new' ho0 (Kd.R_lt (by exact Ho.RS <| HO_3.out))) (Kd.R_lt (by exact Ho.RS <| HO_5.out))) (below_size (by exact eS HB.out))); have n3_ := Aside0.mk (below_step (by exact eS HB.out) hb); clear HO_3; clear HO_5; clear HB; have HO_3 := n0_; have HO_5 := n1_; have HO121 := n2_; have HB := n3_; clear n0_ n1_ n2_ n3_; (try clear hb); (try clear hb2); (try clear hk); (try clear hi); (try clear ho0)) | ((with_reducible refine gate_callee (f := 31) rfl ?_); refine goesL_ (some 93) rfl rfl Try.func31 (by kernel_rfl) rfl #[.slice Ao9 t102.length co9, .int .i64 t103] rfl (by (try simp only [List.map_toArray, List.map_cons, List.map_nil]); first | done | rfl | (simp only [List.length_drop, List.length_take]; rfl)) ?_; (with_reducible refine (spec_WashCarpet.calls kj6 _ _ t102 t103 t122 t123 t124 _ ?side1 ?side2 A19.out).mono ?_); (case side1 => repeat (first | exact (Kd.R_reads' HO_3.out).2.2 | (with_reducible refine Kd.C_alloc ?_ _) | (with_reducible refine Kd.C_drewN ?_ _) | (with_reducible refine Kd.C_drew ?_))); (case side2 => exact (Kd.R_reads' HO_3.out).2.1); rintro e w22 ⟨v125, rfl, ho0, hb⟩; refine ⟨_, rfl, ?_⟩; have n0_ := Aside0.mk (Kd.R_elder' (by exact Ho.RS <| HO_3.out) (Kd.R_base ho0) hb); have n1_ := Aside0.mk (Kd.R_elder' (by exact Ho.RS <| HO_5.out) (Kd.R_base ho0) hb); have n2_ := Aside0.mk (Kd.R_elder' (by exact Ho.RS <| HO121.out) (Kd.R_base ho0) hb); have n3_ := Aside0.mk (Kd.R_lower (Kd.R_new' (Kd.R_new' (Kd.R_new' ho0 (Kd.R_lt (by exact Ho.RS <| HO_3.out))) (Kd.R_lt (by exact Ho.RS <| HO_5.out))) (Kd.R_lt (by exact Ho.RS <| HO121.out))) (below_size (by exact eS HB.out))); have n4_ := Aside0.mk (below_step (by exact eS HB.out) hb); clear HO_3; clear HO_5; clear HO121; clear HB; have HO_3 := n0_; have HO_5 := n1_; have HO121 := n2_; have HO126 := n3_; have HB := n4_; clear n0_ n1_ n2_ n3_ n4_; (try clear hb); (try clear hb2); (try clear hk); (try clear hi); (try clear ho0)))
      (try simp only [Act.put, List.setIfInBounds_toArray, List.set_cons_zero, List.set_cons_succ])
      go_cut [115] (fun v115 wc => ∃ (kq : Nat) (x115_19 : Bool), v115 = .bool x115_19 ∧ Aside0 (laws_FnWashing.j1 kq l0 t102 t106 t107 t108 t117 t118 x115_19 = some r) ∧ Aside0 (kq ≤ kj6) ∧ Aside0 (Kd.R k25 25 wc w.heap.size (fun k_ => some k_ ≠ (v109 : Value).ownBlock ∧ some k_ ≠ (v120 : Value).ownBlock) (.slice Ao9 t102.length co9) t102) ∧ Aside0 (Kd.R k25 25 wc w.heap.size (fun k_ => some k_ ≠ ((.slice Ao9 t102.length co9) : Value).ownBlock ∧ some k_ ≠ (v120 : Value).ownBlock) v109 t106) ∧ Aside0 (Kd.R k25 25 wc w.heap.size (fun k_ => some k_ ≠ ((.slice Ao9 t102.length co9) : Value).ownBlock ∧ some k_ ≠ (v109 : Value).ownBlock) v120 t117) ∧ Aside0 (Below w.heap.size w wc))
      case first =>
       have H := HC20.out
       clear HC20
       by_cases c23 : (t119 != t124) = true
       ·rw [if_pos c23] at H
        have c23b0 : (t119 != t124) = true := c23
        (try (have c23b1 : decide (t119 = t124) = false := by simpa using c23))
        (try (have c23b2 : (t119 == t124) = false := by simpa using c23))
        (try (have c23b3 : ¬ (t119 = t124) := by simpa using c23))
        clear c23
        (first | rw [c23b0] | (simp only [i64_w, i32_w]; rw [c23b0]) | skip)
        as_aux_lemma =>
         have H' := Aside0.mk H
         clear H
         go_wp2
         go_meet
         case rel => exact ⟨_, (true), (by first | rfl | (simp; done) | (simp [*]; done)), H', ⟨by have := HJ6.out; first | omega | exact Nat.le_refl _⟩, ⟨by exact Ho.RS <| Kd.R_mono HO_3.out (fun _ hk => ⟨hk.1.1, hk.1.2⟩)⟩, ⟨by exact Ho.RS <| Kd.R_mono HO_5.out (fun _ hk => ⟨hk.1.1, hk.1.2⟩)⟩, ⟨by exact Ho.RS <| Kd.R_mono HO121.out (fun _ hk => ⟨hk.1.1.2, hk.1.2⟩)⟩, ⟨by exact eS HB.out⟩⟩
       ·rw [if_neg c23] at H
        have c23b0 : (t119 != t124) = false := by simpa using c23
        (try (have c23b1 : decide (t119 = t124) = true := by simpa using c23))
        (try (have c23b2 : (t119 == t124) = true := by simpa using c23))
        clear c23
        (first | rw [c23b0] | (simp only [i64_w, i32_w]; rw [c23b0]) | skip)
        by_cases c24 : t118 = t123
        ·rw [if_pos c24] at H
         have c24b0 : (t118 == t123) = true := beq_iff_eq.mpr c24
         have c24b1 : (t118 != t123) = false := bne_eq_false_iff_eq.mpr c24
         clear c24
         by_cases c25 : (t119 != t108) = true
         ·rw [if_pos c25] at H
          have c25b0 : (t119 != t108) = true := c25
          (try (have c25b1 : decide (t119 = t108) = false := by simpa using c25))
          (try (have c25b2 : (t119 == t108) = false := by simpa using c25))
          (try (have c25b3 : ¬ (t119 = t108) := by simpa using c25))
          clear c25
          as_aux_lemma =>
           have H' := Aside0.mk H
           clear H
           go_wp2
           go_meet
           case rel => exact ⟨_, (true), (by first | rfl | (simp; done) | (simp [*]; done)), H', ⟨by have := HJ6.out; first | omega | exact Nat.le_refl _⟩, ⟨by exact Ho.RS <| Kd.R_mono HO_3.out (fun _ hk => ⟨hk.1.1, hk.1.2⟩)⟩, ⟨by exact Ho.RS <| Kd.R_mono HO_5.out (fun _ hk => ⟨hk.1.1, hk.1.2⟩)⟩, ⟨by exact Ho.RS <| Kd.R_mono HO121.out (fun _ hk => ⟨hk.1.1.2, hk.1.2⟩)⟩, ⟨by exact eS HB.out⟩⟩
         ·rw [if_neg c25] at H
          have c25b0 : (t119 != t108) = false := by simpa using c25
          (try (have c25b1 : decide (t119 = t108) = true := by simpa using c25))
          (try (have c25b2 : (t119 == t108) = true := by simpa using c25))
          clear c25
          replace H := Option.bind_eq_some_iff.mp H
          obtain ⟨t127, A260, H⟩ := H
          replace H : (laws_FnWashing.j1 kj6 l0 t102 t106 t107 t108 t117 t118 (!t127)) = some r := H
          have A26 := Aside0.mk A260
          clear A260
          as_aux_lemma =>
           have H' := Aside0.mk H
           clear H
           obtain ⟨Ao27, co27, eo27⟩ := Kd.R_slice HO121.out
           subst eo27
           obtain ⟨Ao28, co28, eo28⟩ := Kd.R_slice HO126.out
           subst eo28
           go_wp2_with (first | (go_at_call 46; (with_reducible refine (laws_rWet.calls kj6 _ _ t117 _ _ t122 t127 _ ?side1 ?side2 ?side3 ?side4 A26.out).mono ?_); (case side1 => repeat (first | exact (Kd.R_reads' HO121.out).2.2 | (with_reducible refine Kd.C_alloc ?_ _) | (with_reducible refine Kd.C_drewN ?_ _) | (with_reducible refine Kd.C_drew ?_))); (case side2 => exact (Kd.R_reads' HO121.out).2.1); (case side3 => repeat (first | exact (Kd.R_reads' HO126.out).2.2 | (with_reducible refine Kd.C_alloc ?_ _) | (with_reducible refine Kd.C_drewN ?_ _) | (with_reducible refine Kd.C_drew ?_))); (case side4 => exact (Kd.R_reads' HO126.out).2.1); rintro e w' ⟨rfl, ⟨nd, rfl⟩⟩))
           go_meet
           case rel => exact ⟨_, (!t127), (by first | rfl | (simp; done) | (simp [*]; done)), H', ⟨by have := HJ6.out; first | omega | exact Nat.le_refl _⟩, ⟨by exact Ho.RS <| Kd.R_mono HO_3.out (fun _ hk => ⟨hk.1.1, hk.1.2⟩)⟩, ⟨by exact Ho.RS <| Kd.R_mono HO_5.out (fun _ hk => ⟨hk.1.1, hk.1.2⟩)⟩, ⟨by exact Ho.RS <| Kd.R_mono HO121.out (fun _ hk => ⟨hk.1.1.2, hk.1.2⟩)⟩, ⟨by exact eS HB.out⟩⟩
        ·rw [if_neg c24] at H
         have c24b0 : (t118 == t123) = false := beq_eq_false_iff_ne.mpr c24
         have c24b1 : (t118 != t123) = true := bne_iff_ne.mpr c24
         as_aux_lemma =>
          have H' := Aside0.mk H
          clear H
          go_wp2
          go_meet
          case rel => exact ⟨_, (true), (by first | rfl | (simp; done) | (simp [*]; done)), H', ⟨by have := HJ6.out; first | omega | exact Nat.le_refl _⟩, ⟨by exact Ho.RS <| Kd.R_mono HO_3.out (fun _ hk => ⟨hk.1.1, hk.1.2⟩)⟩, ⟨by exact Ho.RS <| Kd.R_mono HO_5.out (fun _ hk => ⟨hk.1.1, hk.1.2⟩)⟩, ⟨by exact Ho.RS <| Kd.R_mono HO121.out (fun _ hk => ⟨hk.1.1.2, hk.1.2⟩)⟩, ⟨by exact eS HB.out⟩⟩
      case rest =>
       clear HC20
       try clear c1
       try clear c2
       try clear p2
       try clear c3
       try clear c4
       try clear c5
       try clear c12
       try clear c12b0
       try clear c12b1
       try clear c12b2
       try clear c13
       try clear c13b0
       try clear c13b1
       try clear c14
       try clear c17
       try clear c23
       try clear c23b0
       try clear c23b1
       try clear c23b2
       try clear c24
       try clear c24b0
       try clear c24b1
       try clear c25
       try clear c25b0
       try clear c25b1
       try clear c25b2
       try clear p2
       as_aux_lemma =>
        obtain ⟨kq, x115_19, rfl, HA, HJ19, HO_3, HO_5, HO_11, HB⟩ := hcut
        cases kq with
        | zero => exact absurd HA.out (by simp [laws_FnWashing.j1])
        | succ kj19 =>
         have H := HA.out
         clear HA
         simp only [laws_FnWashing.j1] at H
         by_cases c29 : x115_19 = true
         ·subst c29
          have H1 : (some false) = some r := by rw [if_pos rfl] at H; exact H
          clear H
          have H := H1
          clear H1
          as_aux_lemma =>
           exact absurd ((Option.some.inj H).trans HT.out) (by decide)
         ·replace c29 := Bool.eq_false_iff.mpr c29
          subst c29
          have H1 : (if t108 = true then ((impl_LineLoad.f kj19 t102).bind fun bt128 => ((impl_LineLoad.f kj19 t106).bind fun bt130 => ((impl_LineLoad.f kj19 t117).bind fun bt132 => (if bt128.2 = true then (if bt130.2 = true then (if bt132.2 = true then (if (wrap64 (bt128.1 - bt130.1)) = t107 then (if (wrap64 (bt132.1 - bt128.1)) = t118 then ((impl_AreWetCarpets.f kj19 t117).bind fun t134 => (if t134 = true then (laws_FnWashing.j2 kj19 l0) else (some false))) else (some false)) else (some false)) else (some false)) else (some false)) else (some false))))) else (laws_FnWashing.j2 kj19 l0)) = some r := by rw [if_neg (show ¬ (false = true) by decide)] at H; exact H
          clear H
          have H := H1
          clear H1
          have HC30 := Aside0.mk H
          clear H
          go_upto_if 116 with (fail)
          go_cut [] (fun wc => ∃ (kq : Nat), Aside0 (laws_FnWashing.j2 kq l0 = some r) ∧ Aside0 (kq ≤ kj19) ∧ Aside0 (Below w.heap.size w wc))
          case first =>
           have H := HC30.out
           clear HC30
           by_cases c31 : t108 = true
           ·subst c31
            have H1 : ((impl_LineLoad.f kj19 t102).bind fun bt128 => ((impl_LineLoad.f kj19 t106).bind fun bt130 => ((impl_LineLoad.f kj19 t117).bind fun bt132 => (if bt128.2 = true then (if bt130.2 = true then (if bt132.2 = true then (if (wrap64 (bt128.1 - bt130.1)) = t107 then (if (wrap64 (bt132.1 - bt128.1)) = t118 then ((impl_AreWetCarpets.f kj19 t117).bind fun t134 => (if t134 = true then (laws_FnWashing.j2 kj19 l0) else (some false))) else (some false)) else (some false)) else (some false)) else (some false)) else (some false))))) = some r := by rw [if_pos rfl] at H; exact H
            clear H
            have H := H1
            clear H1
            replace H := Option.bind_eq_some_iff.mp H
            obtain ⟨⟨t128, t129⟩, A320, H⟩ := H
            replace H : ((impl_LineLoad.f kj19 t106).bind fun bt130 => ((impl_LineLoad.f kj19 t117).bind fun bt132 => (if t129 = true then (if bt130.2 = true then (if bt132.2 = true then (if (wrap64 (t128 - bt130.1)) = t107 then (if (wrap64 (bt132.1 - t128)) = t118 then ((impl_AreWetCarpets.f kj19 t117).bind fun t134 => (if t134 = true then (laws_FnWashing.j2 kj19 l0) else (some false))) else (some false)) else (some false)) else (some false)) else (some false)) else (some false)))) = some r := H
            have A32 := Aside0.mk A320
            clear A320
            replace H := Option.bind_eq_some_iff.mp H
            obtain ⟨⟨t130, t131⟩, A330, H⟩ := H
            replace H : ((impl_LineLoad.f kj19 t117).bind fun bt132 => (if t129 = true then (if t131 = true then (if bt132.2 = true then (if (wrap64 (t128 - t130)) = t107 then (if (wrap64 (bt132.1 - t128)) = t118 then ((impl_AreWetCarpets.f kj19 t117).bind fun t134 => (if t134 = true then (laws_FnWashing.j2 kj19 l0) else (some false))) else (some false)) else (some false)) else (some false)) else (some false)) else (some false))) = some r := H
            have A33 := Aside0.mk A330
            clear A330
            replace H := Option.bind_eq_some_iff.mp H
            obtain ⟨⟨t132, t133⟩, A340, H⟩ := H
            replace H : (if t129 = true then (if t131 = true then (if t133 = true then (if (wrap64 (t128 - t130)) = t107 then (if (wrap64 (t132 - t128)) = t118 then ((impl_AreWetCarpets.f kj19 t117).bind fun t134 => (if t134 = true then (laws_FnWashing.j2 kj19 l0) else (some false))) else (some false)) else (some false)) else (some false)) else (some false)) else (some false)) = some r := H
            have A34 := Aside0.mk A340
            clear A340
            by_cases c35 : t129 = true
            ·subst c35
             have H1 : (if t131 = true then (if t133 = true then (if (wrap64 (t128 - t130)) = t107 then (if (wrap64 (t132 - t128)) = t118 then ((impl_AreWetCarpets.f kj19 t117).bind fun t134 => (if t134 = true then (laws_FnWashing.j2 kj19 l0) else (some false))) else (some false)) else (some false)) else (some false)) else (some false)) = some r := by rw [if_pos rfl] at H; exact H
             clear H
             have H := H1
             clear H1
             by_cases c36 : t131 = true
             ·subst c36
              have H1 : (if t133 = true then (if (wrap64 (t128 - t130)) = t107 then (if (wrap64 (t132 - t128)) = t118 then ((impl_AreWetCarpets.f kj19 t117).bind fun t134 => (if t134 = true then (laws_FnWashing.j2 kj19 l0) else (some false))) else (some false)) else (some false)) else (some false)) = some r := by rw [if_pos rfl] at H; exact H
              clear H
              have H := H1
              clear H1
              by_cases c37 : t133 = true
              ·subst c37
               have H1 : (if (wrap64 (t128 - t130)) = t107 then (if (wrap64 (t132 - t128)) = t118 then ((impl_AreWetCarpets.f kj19 t117).bind fun t134 => (if t134 = true then (laws_FnWashing.j2 kj19 l0) else (some false))) else (some false)) else (some false)) = some r := by rw [if_pos rfl] at H; exact H
               clear H
               have H := H1
               clear H1
               by_cases c38 : (wrap64 (t128 - t130)) = t107
               ·rw [if_pos c38] at H
                have c38b0 : ((wrap64 (t128 - t130)) == t107) = true := beq_iff_eq.mpr c38
                have c38b1 : ((wrap64 (t128 - t130)) != t107) = false := bne_eq_false_iff_eq.mpr c38
                clear c38
                (first | rw [c38b0] | (simp only [i64_w, i32_w]; rw [c38b0]) | skip)
                by_cases c39 : (wrap64 (t132 - t128)) = t118
                ·rw [if_pos c39] at H
                 have c39b0 : ((wrap64 (t132 - t128)) == t118) = true := beq_iff_eq.mpr c39
                 have c39b1 : ((wrap64 (t132 - t128)) != t118) = false := bne_eq_false_iff_eq.mpr c39
                 clear c39
                 replace H := Option.bind_eq_some_iff.mp H
                 obtain ⟨t134, A400, H⟩ := H
                 replace H : (if t134 = true then (laws_FnWashing.j2 kj19 l0) else (some false)) = some r := H
                 have A40 := Aside0.mk A400
                 clear A400
                 by_cases c41 : t134 = true
                 ·subst c41
                  have H1 : (laws_FnWashing.j2 kj19 l0) = some r := by rw [if_pos rfl] at H; exact H
                  clear H
                  have H := H1
                  clear H1
                  as_aux_lemma =>
                   have H' := Aside0.mk H
                   clear H
                   go_wp2_with (first | ((with_reducible refine gate_callee (f := 30) rfl ?_); refine goesL_ (some 119) rfl rfl Try.func30 (by kernel_rfl) rfl #[.slice Ao9 t102.length co9] rfl (by (try simp only [List.map_toArray, List.map_cons, List.map_nil]); first | done | rfl | (simp only [List.length_drop, List.length_take]; rfl)) ?_; (with_reducible refine (impl_LineLoad.calls kj19 _ _ t102 t128 true _ ?side1 ?side2 A32.out).mono ?_); (case side1 => repeat (first | exact (Kd.R_reads' HO_3.out).2.2 | (with_reducible refine Kd.C_alloc ?_ _) | (with_reducible refine Kd.C_drewN ?_ _) | (with_reducible refine Kd.C_drew ?_))); (case side2 => exact (Kd.R_reads' HO_3.out).2.1); rintro e w42 ⟨rfl, hb⟩; refine ⟨_, rfl, ?_⟩; have n0_ := Aside0.mk (Kd.R_below (by exact Ho.RS <| HO_3.out) hb); have n1_ := Aside0.mk (Kd.R_below (by exact Ho.RS <| HO_5.out) hb); have n2_ := Aside0.mk (Kd.R_below (by exact Ho.RS <| HO_11.out) hb); have n3_ := Aside0.mk (below_step (by exact eS HB.out) hb); clear HO_3; clear HO_5; clear HO_11; clear HB; have HO_3 := n0_; have HO_5 := n1_; have HO_11 := n2_; have HB := n3_; clear n0_ n1_ n2_ n3_; (try clear hb); (try clear hb2); (try clear hk); (try clear hi); obtain ⟨Ao43, co43, eo43⟩ := Kd.R_slice HO_5.out; subst eo43) | ((with_reducible refine gate_callee (f := 30) rfl ?_); refine goesL_ (some 124) rfl rfl Try.func30 (by kernel_rfl) rfl #[.slice Ao43 t106.length co43] rfl (by (try simp only [List.map_toArray, List.map_cons, List.map_nil]); first | done | rfl | (simp only [List.length_drop, List.length_take]; rfl)) ?_; (with_reducible refine (impl_LineLoad.calls kj19 _ _ t106 t130 true _ ?side1 ?side2 A33.out).mono ?_); (case side1 => repeat (first | exact (Kd.R_reads' HO_5.out).2.2 | (with_reducible refine Kd.C_alloc ?_ _) | (with_reducible refine Kd.C_drewN ?_ _) | (with_reducible refine Kd.C_drew ?_))); (case side2 => exact (Kd.R_reads' HO_5.out).2.1); rintro e w44 ⟨rfl, hb⟩; refine ⟨_, rfl, ?_⟩; have n0_ := Aside0.mk (Kd.R_below (by exact Ho.RS <| HO_3.out) hb); have n1_ := Aside0.mk (Kd.R_below (by exact Ho.RS <| HO_5.out) hb); have n2_ := Aside0.mk (Kd.R_below (by exact Ho.RS <| HO_11.out) hb); have n3_ := Aside0.mk (below_step (by exact eS HB.out) hb); clear HO_3; clear HO_5; clear HO_11; clear HB; have HO_3 := n0_; have HO_5 := n1_; have HO_11 := n2_; have HB := n3_; clear n0_ n1_ n2_ n3_; (try clear hb); (try clear hb2); (try clear hk); (try clear hi); obtain ⟨Ao45, co45, eo45⟩ := Kd.R_slice HO_11.out; subst eo45) | ((with_reducible refine gate_callee (f := 30) rfl ?_); refine goesL_ (some 129) rfl rfl Try.func30 (by kernel_rfl) rfl #[.slice Ao45 t117.length co45] rfl (by (try simp only [List.map_toArray, List.map_cons, List.map_nil]); first | done | rfl | (simp only [List.length_drop, List.length_take]; rfl)) ?_; (with_reducible refine (impl_LineLoad.calls kj19 _ _ t117 t132 true _ ?side1 ?side2 A34.out).mono ?_); (case side1 => repeat (first | exact (Kd.R_reads' HO_11.out).2.2 | (with_reducible refine Kd.C_alloc ?_ _) | (with_reducible refine Kd.C_drewN ?_ _) | (with_reducible refine Kd.C_drew ?_))); (case side2 => exact (Kd.R_reads' HO_11.out).2.1); rintro e w46 ⟨rfl, hb⟩; refine ⟨_, rfl, ?_⟩; have n0_ := Aside0.mk (Kd.R_below (by exact Ho.RS <| HO_3.out) hb); have n1_ := Aside0.mk (Kd.R_below (by exact Ho.RS <| HO_5.out) hb); have n2_ := Aside0.mk (Kd.R_below (by exact Ho.RS <| HO_11.out) hb); have n3_ := Aside0.mk (below_step (by exact eS HB.out) hb); clear HO_3; clear HO_5; clear HO_11; clear HB; have HO_3 := n0_; have HO_5 := n1_; have HO_11 := n2_; have HB := n3_; clear n0_ n1_ n2_ n3_; (try clear hb); (try clear hb2); (try clear hk); (try clear hi)) | (go_at_call 27; (with_reducible refine (impl_AreWetCarpets.calls kj19 _ _ t117 true _ ?side1 ?side2 A40.out).mono ?_); (case side1 => repeat (first | exact (Kd.R_reads' HO_11.out).2.2 | (with_reducible refine Kd.C_alloc ?_ _) | (with_reducible refine Kd.C_drewN ?_ _) | (with_reducible refine Kd.C_drew ?_))); (case side2 => exact (Kd.R_reads' HO_11.out).2.1); rintro e w47 ⟨rfl, hb⟩; have n0_ := Aside0.mk (Kd.R_below (by exact Ho.RS <| HO_3.out) hb); have n1_ := Aside0.mk (Kd.R_below (by exact Ho.RS <| HO_5.out) hb); have n2_ := Aside0.mk (Kd.R_below (by exact Ho.RS <| HO_11.out) hb); have n3_ := Aside0.mk (below_step (by exact eS HB.out) hb); clear HO_3; clear HO_5; clear HO_11; clear HB; have HO_3 := n0_; have HO_5 := n1_; have HO_11 := n2_; have HB := n3_; clear n0_ n1_ n2_ n3_; (try clear hb); (try clear hb2); (try clear hk); (try clear hi)))
                   go_meet
                   case rel => exact ⟨_, H', ⟨by have := HJ6.out; have := HJ19.out; first | omega | exact Nat.le_refl _⟩, ⟨by exact eS HB.out⟩⟩
                 ·replace c41 := Bool.eq_false_iff.mpr c41
                  subst c41
                  have H1 : (some false) = some r := by rw [if_neg (show ¬ (false = true) by decide)] at H; exact H
                  clear H
                  have H := H1
                  clear H1
                  as_aux_lemma =>
                   exact absurd ((Option.some.inj H).trans HT.out) (by decide)
                ·rw [if_neg c39] at H
                 have c39b0 : ((wrap64 (t132 - t128)) == t118) = false := beq_eq_false_iff_ne.mpr c39
                 have c39b1 : ((wrap64 (t132 - t128)) != t118) = true := bne_iff_ne.mpr c39
                 as_aux_lemma =>
                  exact absurd ((Option.some.inj H).trans HT.out) (by decide)
               ·rw [if_neg c38] at H
                have c38b0 : ((wrap64 (t128 - t130)) == t107) = false := beq_eq_false_iff_ne.mpr c38
                have c38b1 : ((wrap64 (t128 - t130)) != t107) = true := bne_iff_ne.mpr c38
                (first | rw [c38b0] | (simp only [i64_w, i32_w]; rw [c38b0]) | skip)
                as_aux_lemma =>
                 exact absurd ((Option.some.inj H).trans HT.out) (by decide)
              ·replace c37 := Bool.eq_false_iff.mpr c37
               subst c37
               have H1 : (some false) = some r := by rw [if_neg (show ¬ (false = true) by decide)] at H; exact H
               clear H
               have H := H1
               clear H1
               as_aux_lemma =>
                exact absurd ((Option.some.inj H).trans HT.out) (by decide)
             ·replace c36 := Bool.eq_false_iff.mpr c36
              subst c36
              have H1 : (some false) = some r := by rw [if_neg (show ¬ (false = true) by decide)] at H; exact H
              clear H
              have H := H1
              clear H1
              as_aux_lemma =>
               exact absurd ((Option.some.inj H).trans HT.out) (by decide)
            ·replace c35 := Bool.eq_false_iff.mpr c35
             subst c35
             have H1 : (some false) = some r := by rw [if_neg (show ¬ (false = true) by decide)] at H; exact H
             clear H
             have H := H1
             clear H1
             as_aux_lemma =>
              exact absurd ((Option.some.inj H).trans HT.out) (by decide)
           ·replace c31 := Bool.eq_false_iff.mpr c31
            subst c31
            have H1 : (laws_FnWashing.j2 kj19 l0) = some r := by rw [if_neg (show ¬ (false = true) by decide)] at H; exact H
            clear H
            have H := H1
            clear H1
            as_aux_lemma =>
             have H' := Aside0.mk H
             clear H
             go_wp2
             go_meet
             case rel => exact ⟨_, H', ⟨by have := HJ6.out; have := HJ19.out; first | omega | exact Nat.le_refl _⟩, ⟨by exact eS HB.out⟩⟩
          case rest =>
           clear HC30
           try clear c1
           try clear c2
           try clear p2
           try clear c3
           try clear c4
           try clear c5
           try clear p6
           try clear c12
           try clear c12b0
           try clear c12b1
           try clear c12b2
           try clear c13
           try clear c13b0
           try clear c13b1
           try clear c14
           try clear c17
           try clear c23
           try clear c23b0
           try clear c23b1
           try clear c23b2
           try clear c24
           try clear c24b0
           try clear c24b1
           try clear c25
           try clear c25b0
           try clear c25b1
           try clear c25b2
           try clear c29
           try clear c30
           try clear c31
           try clear c32
           try clear c35
           try clear c36
           try clear c37
           try clear c38
           try clear c38b0
           try clear c38b1
           try clear c39
           try clear c39b0
           try clear c39b1
           try clear c41
           try clear c44
           try clear p2
           as_aux_lemma =>
            obtain ⟨kq, HA, HJ29, HB⟩ := hcut
            cases kq with
            | zero => exact absurd HA.out (by simp [laws_FnWashing.j2])
            | succ kj29 =>
             have H := HA.out
             clear HA
             simp only [laws_FnWashing.j2] at H
             replace H := Option.bind_eq_some_iff.mp H
             obtain ⟨⟨t135, t136, t137, t138, t139, t140⟩, A480, H⟩ := H
             replace H : ((impl_HoursFor.f kj29 t135 t136 t137 t138 t139 t140).bind fun bt142 => ((spec_HoursFor.f kj29 t135 t136 t137 t138 t139 t140).bind fun bt144 => (if bt142.1 = bt144.1 then (laws_FnWashing.j3 kj29 l0 t140 bt142.1 bt142.2 (bt142.2 != bt144.2) t135 t136 t137 t138 t139) else (laws_FnWashing.j3 kj29 l0 t140 bt142.1 bt142.2 true t135 t136 t137 t138 t139)))) = some r := H
             have A48 := Aside0.mk A480
             clear A480
             replace H := Option.bind_eq_some_iff.mp H
             obtain ⟨⟨t142, t143⟩, A490, H⟩ := H
             replace H : ((spec_HoursFor.f kj29 t135 t136 t137 t138 t139 t140).bind fun bt144 => (if t142 = bt144.1 then (laws_FnWashing.j3 kj29 l0 t140 t142 t143 (t143 != bt144.2) t135 t136 t137 t138 t139) else (laws_FnWashing.j3 kj29 l0 t140 t142 t143 true t135 t136 t137 t138 t139))) = some r := H
             have A49 := Aside0.mk A490
             clear A490
             replace H := Option.bind_eq_some_iff.mp H
             obtain ⟨⟨t144, t145⟩, A500, H⟩ := H
             replace H : (if t142 = t144 then (laws_FnWashing.j3 kj29 l0 t140 t142 t143 (t143 != t145) t135 t136 t137 t138 t139) else (laws_FnWashing.j3 kj29 l0 t140 t142 t143 true t135 t136 t137 t138 t139)) = some r := H
             have A50 := Aside0.mk A500
             clear A500
             have HC51 := Aside0.mk H
             clear H
             go_upto_region 21 with (first | ((with_reducible refine gate_callee (f := 52) rfl ?_); refine goesL_ (some 163) rfl rfl Try.func52 (by kernel_rfl) rfl #[.slice A0 l0.length c0] rfl (by (try simp only [List.map_toArray, List.map_cons, List.map_nil]); first | done | rfl | (simp only [List.length_drop, List.length_take]; rfl)) ?_; (with_reducible refine (spec_DrawHoursFor.calls _ _ l0 t135 t136 t137 t138 t139 t140 _ ?side1 ?side2 A48.out).mono ?_); (case side1 => repeat (first | exact (Kd.C_below HR0.out HB.out) | (with_reducible refine Kd.C_alloc ?_ _) | (with_reducible refine Kd.C_drewN ?_ _) | (with_reducible refine Kd.C_drew ?_))); (case side2 => exact HC0.out); rintro e w52 ⟨rfl, hb⟩; refine ⟨_, rfl, ?_⟩; have n0_ := Aside0.mk (below_step (by exact eS HB.out) hb); clear HB; have HB := n0_; clear n0_; (try clear hb); (try clear hb2); (try clear hk); (try clear hi)) | ((with_reducible refine gate_dst (N := 23) rfl ?_); (try (refine gate_guard (by rfl) ?_; dsimp only)); refine box_event ?hg (N := 23) ?hd (cs := #[.int .i64 0, .int .i64 0, .int .i64 0, .int .i64 0, .int .i64 0]) (t := 25) ?hr ?_; (case hd => rfl); (case hg => rfl); (case hr => first | (go_simp; done) | (go_simp; rfl)); intro gb141 hg w53 hbox hb; have n0_ := Aside0.mk (below_step (by exact eS HB.out) hb); have n1_ := Aside0.mk (hbox); have n2_ := Aside0.mk ((by rw [hg]; exact (below_size (by exact eS HB.out)) : w.heap.size ≤ gb141)); have n3_ := Aside0.mk ((by rw [hg]; exact (below_size (by exact eS HB.out)) : w.heap.size ≤ gb141)); clear HB; have HB := n0_; have BK141 := n1_; have GW141 := n2_; have GE141 := n3_; clear n0_ n1_ n2_ n3_; clear hb hbox hg; have hcz54_0 : w53.cell? ⟨gb141, 0, none⟩ = some (.int .i64 0) := (blk_cell BK141.out 0).trans rfl; have hcz54_1 : w53.cell? ⟨gb141, 1, none⟩ = some (.int .i64 0) := (blk_cell BK141.out 1).trans rfl; have hcz54_2 : w53.cell? ⟨gb141, 2, none⟩ = some (.int .i64 0) := (blk_cell BK141.out 2).trans rfl; have hcz54_3 : w53.cell? ⟨gb141, 3, none⟩ = some (.int .i64 0) := (blk_cell BK141.out 3).trans rfl; have hcz54_4 : w53.cell? ⟨gb141, 4, none⟩ = some (.int .i64 0) := (blk_cell BK141.out 4).trans rfl; have hfz54_0 := blk_frozen BK141.out 0; have hfz54_1 := blk_frozen BK141.out 1; have hfz54_2 := blk_frozen BK141.out 2; have hfz54_3 := blk_frozen BK141.out 3; have hfz54_4 := blk_frozen BK141.out 4) | ((with_reducible refine gate_callee (f := 23) rfl ?_); refine goesL_ (some 169) rfl rfl Try.func23 (by kernel_rfl) rfl #[.agg #[.int .i64 t135, .int .i64 t136, .int .i64 t137, .int .i64 t138, .int .i64 t139], .int .i64 t140] rfl (by (try simp only [List.map_toArray, List.map_cons, List.map_nil]); first | done | rfl | (simp only [List.length_drop, List.length_take]; rfl)) ?_; (with_reducible refine (impl_HoursFor.calls kj29 t135 t136 t137 t138 t139 t140 t142 t143 _ A49.out).mono ?_); rintro e w55 ⟨rfl, hb⟩; refine ⟨_, rfl, ?_⟩; have n0_ := Aside0.mk (blk_below (g := gb141) (o := .cells #[.int .i64 t135, .int .i64 t136, .int .i64 t137, .int .i64 t138, .int .i64 t139] 25 (0, 0)) (by (with_reducible repeat (first | refine blk_drewN ?_ _ | refine blk_drew ?_ | refine blk_alloc ?_ _)); refine blk_put (cs := #[.int .i64 t135, .int .i64 t136, .int .i64 t137, .int .i64 t138, .int .i64 0]) ?_ 4 _ rfl; (with_reducible repeat (first | refine blk_drewN ?_ _ | refine blk_drew ?_ | refine blk_alloc ?_ _)); refine blk_put (cs := #[.int .i64 t135, .int .i64 t136, .int .i64 t137, .int .i64 0, .int .i64 0]) ?_ 3 _ rfl; (with_reducible repeat (first | refine blk_drewN ?_ _ | refine blk_drew ?_ | refine blk_alloc ?_ _)); refine blk_put (cs := #[.int .i64 t135, .int .i64 t136, .int .i64 0, .int .i64 0, .int .i64 0]) ?_ 2 _ rfl; (with_reducible repeat (first | refine blk_drewN ?_ _ | refine blk_drew ?_ | refine blk_alloc ?_ _)); refine blk_put (cs := #[.int .i64 t135, .int .i64 0, .int .i64 0, .int .i64 0, .int .i64 0]) ?_ 1 _ rfl; (with_reducible repeat (first | refine blk_drewN ?_ _ | refine blk_drew ?_ | refine blk_alloc ?_ _)); refine blk_put (cs := #[.int .i64 0, .int .i64 0, .int .i64 0, .int .i64 0, .int .i64 0]) ?_ 0 _ rfl; exact bS BK141.out) hb); have n1_ := Aside0.mk (below_step (by repeat (first | (with_reducible first | exact HB.out | apply below_alloc | apply pw_below_drewN | apply below_drew1 | refine below_set ?_ GE141.out) | exact HB.out)) hb); clear BK141; clear HB; have BK141 := n0_; have HB := n1_; clear n0_ n1_; (try clear hb); (try clear hb2); (try clear hk); (try clear hi); have hcz56_0 : w55.cell? ⟨gb141, 0, none⟩ = some (.int .i64 t135) := (blk_cell BK141.out 0).trans rfl; have hcz56_1 : w55.cell? ⟨gb141, 1, none⟩ = some (.int .i64 t136) := (blk_cell BK141.out 1).trans rfl; have hcz56_2 : w55.cell? ⟨gb141, 2, none⟩ = some (.int .i64 t137) := (blk_cell BK141.out 2).trans rfl; have hcz56_3 : w55.cell? ⟨gb141, 3, none⟩ = some (.int .i64 t138) := (blk_cell BK141.out 3).trans rfl; have hcz56_4 : w55.cell? ⟨gb141, 4, none⟩ = some (.int .i64 t139) := (blk_cell BK141.out 4).trans rfl; have hfz56_0 := blk_frozen BK141.out 0; have hfz56_1 := blk_frozen BK141.out 1; have hfz56_2 := blk_frozen BK141.out 2; have hfz56_3 := blk_frozen BK141.out 3; have hfz56_4 := blk_frozen BK141.out 4) | ((with_reducible refine gate_callee (f := 22) rfl ?_); refine goesL_ (some 175) rfl rfl Try.func22 (by kernel_rfl) rfl #[.agg #[.int .i64 t135, .int .i64 t136, .int .i64 t137, .int .i64 t138, .int .i64 t139], .int .i64 t140] rfl (by (try simp only [List.map_toArray, List.map_cons, List.map_nil]); first | done | rfl | (simp only [List.length_drop, List.length_take]; rfl)) ?_; (with_reducible refine (spec_HoursFor.calls kj29 t135 t136 t137 t138 t139 t140 t144 t145 _ A50.out).mono ?_); rintro e w57 ⟨rfl, hb⟩; refine ⟨_, rfl, ?_⟩; have n0_ := Aside0.mk (blk_below (bS BK141.out) hb); have n1_ := Aside0.mk (below_step (by exact eS HB.out) hb); clear BK141; clear HB; have BK141 := n0_; have HB := n1_; clear n0_ n1_; (try clear hb); (try clear hb2); (try clear hk); (try clear hi)))
             (try simp only [Act.put, List.setIfInBounds_toArray, List.set_cons_zero, List.set_cons_succ])
             go_cut [185] (fun v185 wc => ∃ (kq : Nat) (x185_50 : Bool), v185 = .bool x185_50 ∧ Aside0 (laws_FnWashing.j3 kq l0 t140 t142 t143 x185_50 t135 t136 t137 t138 t139 = some r) ∧ Aside0 (kq ≤ kj29) ∧ Aside0 (wc.heap[gb141]? = some (.cells #[.int .i64 t135, .int .i64 t136, .int .i64 t137, .int .i64 t138, .int .i64 t139] 25 (0, 0))) ∧ Aside0 (Below w.heap.size w wc))
             case first =>
              have H := HC51.out
              clear HC51
              by_cases c58 : t142 = t144
              ·rw [if_pos c58] at H
               have c58b0 : (t142 == t144) = true := beq_iff_eq.mpr c58
               have c58b1 : (t142 != t144) = false := bne_eq_false_iff_eq.mpr c58
               clear c58
               (first | rw [c58b0] | (simp only [i64_w, i32_w]; rw [c58b0]) | skip)
               as_aux_lemma =>
                have H' := Aside0.mk H
                clear H
                go_wp2
                go_meet
                case rel => exact ⟨_, ((t143 != t145)), (by first | rfl | (simp; done) | (simp [*]; done)), H', ⟨by have := HJ6.out; have := HJ19.out; have := HJ29.out; first | omega | exact Nat.le_refl _⟩, ⟨by exact bS BK141.out⟩, ⟨by exact eS HB.out⟩⟩
              ·rw [if_neg c58] at H
               have c58b0 : (t142 == t144) = false := beq_eq_false_iff_ne.mpr c58
               have c58b1 : (t142 != t144) = true := bne_iff_ne.mpr c58
               (first | rw [c58b0] | (simp only [i64_w, i32_w]; rw [c58b0]) | skip)
               as_aux_lemma =>
                have H' := Aside0.mk H
                clear H
                go_wp2
                go_meet
                case rel => exact ⟨_, (true), (by first | rfl | (simp; done) | (simp [*]; done)), H', ⟨by have := HJ6.out; have := HJ19.out; have := HJ29.out; first | omega | exact Nat.le_refl _⟩, ⟨by exact bS BK141.out⟩, ⟨by exact eS HB.out⟩⟩
             case rest =>
              clear HC51
              try clear c1
              try clear c2
              try clear p2
              try clear c3
              try clear c4
              try clear c5
              try clear p6
              try clear c12
              try clear c12b0
              try clear c12b1
              try clear c12b2
              try clear c13
              try clear c13b0
              try clear c13b1
              try clear c14
              try clear c17
              try clear c22
              try clear c23
              try clear c23b0
              try clear c23b1
              try clear c23b2
              try clear c24
              try clear c24b0
              try clear c24b1
              try clear c25
              try clear c25b0
              try clear c25b1
              try clear c25b2
              try clear c29
              try clear c30
              try clear c31
              try clear c32
              try clear c35
              try clear c36
              try clear c37
              try clear c38
              try clear c38b0
              try clear c38b1
              try clear c39
              try clear c39b0
              try clear c39b1
              try clear c41
              try clear c44
              try clear c51
              try clear c52
              try clear c58
              try clear c58b0
              try clear c58b1
              try clear hcz54_0
              try clear hcz54_1
              try clear hcz54_2
              try clear hcz54_3
              try clear hcz54_4
              try clear hcz56_0
              try clear hcz56_1
              try clear hcz56_2
              try clear hcz56_3
              try clear hcz56_4
              try clear hfz54_0
              try clear hfz54_1
              try clear hfz54_2
              try clear hfz54_3
              try clear hfz54_4
              try clear hfz56_0
              try clear hfz56_1
              try clear hfz56_2
              try clear hfz56_3
              try clear hfz56_4
              try clear p2
              try clear p6
              as_aux_lemma =>
               obtain ⟨kq, x185_50, rfl, HA, HJ50, BK141, HB⟩ := hcut
               cases kq with
               | zero => exact absurd HA.out (by simp [laws_FnWashing.j3])
               | succ kj50 =>
                have H := HA.out
                clear HA
                simp only [laws_FnWashing.j3] at H
                by_cases c59 : x185_50 = true
                ·subst c59
                 have H1 : (some false) = some r := by rw [if_pos rfl] at H; exact H
                 clear H
                 have H := H1
                 clear H1
                 as_aux_lemma =>
                  exact absurd ((Option.some.inj H).trans HT.out) (by decide)
                ·replace c59 := Bool.eq_false_iff.mpr c59
                 subst c59
                 have H1 : (if t143 = true then (laws_FnWashing.j4 kj50 l0 t140 t142 (decide (t142 ≤ 100)) t135 t136 t137 t138 t139) else (laws_FnWashing.j4 kj50 l0 t140 t142 false t135 t136 t137 t138 t139)) = some r := by rw [if_neg (show ¬ (false = true) by decide)] at H; exact H
                 clear H
                 have H := H1
                 clear H1
                 have HC60 := Aside0.mk H
                 clear H
                 go_upto_region 23 with (fail)
                 go_cut [190] (fun v190 wc => ∃ (kq : Nat) (x190_59 : Bool), v190 = .bool x190_59 ∧ Aside0 (laws_FnWashing.j4 kq l0 t140 t142 x190_59 t135 t136 t137 t138 t139 = some r) ∧ Aside0 (kq ≤ kj50) ∧ Aside0 (wc.heap[gb141]? = some (.cells #[.int .i64 t135, .int .i64 t136, .int .i64 t137, .int .i64 t138, .int .i64 t139] 25 (0, 0))) ∧ Aside0 (Below w.heap.size w wc))
                 case first =>
                  have H := HC60.out
                  clear HC60
                  by_cases c61 : t143 = true
                  ·subst c61
                   have H1 : (laws_FnWashing.j4 kj50 l0 t140 t142 (decide (t142 ≤ 100)) t135 t136 t137 t138 t139) = some r := by rw [if_pos rfl] at H; exact H
                   clear H
                   have H := H1
                   clear H1
                   as_aux_lemma =>
                    have H' := Aside0.mk H
                    clear H
                    go_wp2
                    go_meet
                    case rel => exact ⟨_, (decide (t142 ≤ 100)), (by first | rfl | (simp; done) | (simp [*]; done)), H', ⟨by have := HJ6.out; have := HJ19.out; have := HJ29.out; have := HJ50.out; first | omega | exact Nat.le_refl _⟩, ⟨by exact bS BK141.out⟩, ⟨by exact eS HB.out⟩⟩
                  ·replace c61 := Bool.eq_false_iff.mpr c61
                   subst c61
                   have H1 : (laws_FnWashing.j4 kj50 l0 t140 t142 false t135 t136 t137 t138 t139) = some r := by rw [if_neg (show ¬ (false = true) by decide)] at H; exact H
                   clear H
                   have H := H1
                   clear H1
                   as_aux_lemma =>
                    have H' := Aside0.mk H
                    clear H
                    go_wp2
                    go_meet
                    case rel => exact ⟨_, (false), (by first | rfl | (simp; done) | (simp [*]; done)), H', ⟨by have := HJ6.out; have := HJ19.out; have := HJ29.out; have := HJ50.out; first | omega | exact Nat.le_refl _⟩, ⟨by exact bS BK141.out⟩, ⟨by exact eS HB.out⟩⟩
                 case rest =>
                  clear HC60
                  try clear c1
                  try clear c2
                  try clear p2
                  try clear c3
                  try clear c4
                  try clear c5
                  try clear c6
                  try clear p6
                  try clear c12
                  try clear c12b0
                  try clear c12b1
                  try clear c12b2
                  try clear c13
                  try clear c13b0
                  try clear c13b1
                  try clear c14
                  try clear c17
                  try clear c22
                  try clear c23
                  try clear c23b0
                  try clear c23b1
                  try clear c23b2
                  try clear c24
                  try clear c24b0
                  try clear c24b1
                  try clear c25
                  try clear c25b0
                  try clear c25b1
                  try clear c25b2
                  try clear c29
                  try clear c30
                  try clear c31
                  try clear c32
                  try clear c35
                  try clear c36
                  try clear c37
                  try clear c38
                  try clear c38b0
                  try clear c38b1
                  try clear c39
                  try clear c39b0
                  try clear c39b1
                  try clear c41
                  try clear c44
                  try clear c51
                  try clear c52
                  try clear c58
                  try clear c58b0
                  try clear c58b1
                  try clear c59
                  try clear c61
                  try clear hcz54_0
                  try clear hcz54_1
                  try clear hcz54_2
                  try clear hcz54_3
                  try clear hcz54_4
                  try clear hcz56_0
                  try clear hcz56_1
                  try clear hcz56_2
                  try clear hcz56_3
                  try clear hcz56_4
                  try clear hfz54_0
                  try clear hfz54_1
                  try clear hfz54_2
                  try clear hfz54_3
                  try clear hfz54_4
                  try clear hfz56_0
                  try clear hfz56_1
                  try clear hfz56_2
                  try clear hfz56_3
                  try clear hfz56_4
                  try clear p2
                  try clear p6
                  as_aux_lemma =>
                   obtain ⟨kq, x190_59, rfl, HA, HJ59, BK141, HB⟩ := hcut
                   cases kq with
                   | zero => exact absurd HA.out (by simp [laws_FnWashing.j4])
                   | succ kj59 =>
                    have H := HA.out
                    clear HA
                    simp only [laws_FnWashing.j4] at H
                    have HC62 := Aside0.mk H
                    clear H
                    go_upto_if 190 with (fail)
                    go_cut [] (fun wc => ∃ (kq : Nat), Aside0 (laws_FnWashing.j6 kq l0 = some r) ∧ Aside0 (kq ≤ kj59) ∧ Aside0 (wc.heap[gb141]? = some (.cells #[.int .i64 t135, .int .i64 t136, .int .i64 t137, .int .i64 t138, .int .i64 t139] 25 (0, 0))) ∧ Aside0 (Below w.heap.size w wc))
                    case first =>
                     have H := HC62.out
                     clear HC62
                     by_cases c63 : x190_59 = true
                     ·subst c63
                      have H1 : ((impl_DryCarpets.f kj59 (([(⟨t135, t136, t137, t138, t139⟩ : S25)] : List (S25))) t140 t142).bind fun bt149 => (if bt149.2.2 = true then ((laws_rHas.f kj59 bt149.2.1 t135).bind fun t156 => (laws_FnWashing.j5 kj59 l0 t140 t142 (!t156) t135 t136 t137 t138 t139)) else (laws_FnWashing.j5 kj59 l0 t140 t142 true t135 t136 t137 t138 t139))) = some r := by rw [if_pos rfl] at H; exact H
                      clear H
                      have H := H1
                      clear H1
                      obtain ⟨y146, hy146⟩ : ∃ y_ : List (S25), y_ = (([(⟨t135, t136, t137, t138, t139⟩ : S25)] : List (S25))) := ⟨_, rfl⟩
                      replace H : ((impl_DryCarpets.f kj59 y146 t140 t142).bind fun bt149 => (if bt149.2.2 = true then ((laws_rHas.f kj59 bt149.2.1 t135).bind fun t156 => (laws_FnWashing.j5 kj59 l0 t140 t142 (!t156) t135 t136 t137 t138 t139)) else (laws_FnWashing.j5 kj59 l0 t140 t142 true t135 t136 t137 t138 t139))) = some r := by first | (rw [hy146]; with_reducible exact H) | (have H2_ := (Option.bind_some _ _).symm.trans H; rw [hy146]; with_reducible exact H2_) | (have H2_ := (Option.bind_some _ _).symm.trans H; with_reducible exact H2_) | with_reducible exact H | (rw [hy146]; exact H) | exact H
                      have Ny146 := Aside0.mk hy146
                      clear hy146
                      replace H := Option.bind_eq_some_iff.mp H
                      obtain ⟨⟨t149, t150, t151⟩, A640, H⟩ := H
                      replace H : (if t151 = true then ((laws_rHas.f kj59 t150 t135).bind fun t156 => (laws_FnWashing.j5 kj59 l0 t140 t142 (!t156) t135 t136 t137 t138 t139)) else (laws_FnWashing.j5 kj59 l0 t140 t142 true t135 t136 t137 t138 t139)) = some r := H
                      have A64 := Aside0.mk A640
                      clear A640
                      have HC65 := Aside0.mk H
                      clear H
                      have hcz66_0 : wc.cell? ⟨gb141, 0, none⟩ = some (.int .i64 t135) := (blk_cell BK141.out 0).trans rfl
                      have hcz66_1 : wc.cell? ⟨gb141, 1, none⟩ = some (.int .i64 t136) := (blk_cell BK141.out 1).trans rfl
                      have hcz66_2 : wc.cell? ⟨gb141, 2, none⟩ = some (.int .i64 t137) := (blk_cell BK141.out 2).trans rfl
                      have hcz66_3 : wc.cell? ⟨gb141, 3, none⟩ = some (.int .i64 t138) := (blk_cell BK141.out 3).trans rfl
                      have hcz66_4 : wc.cell? ⟨gb141, 4, none⟩ = some (.int .i64 t139) := (blk_cell BK141.out 4).trans rfl
                      have hfz66_0 := blk_frozen BK141.out 0
                      have hfz66_1 := blk_frozen BK141.out 1
                      have hfz66_2 := blk_frozen BK141.out 2
                      have hfz66_3 := blk_frozen BK141.out 3
                      have hfz66_4 := blk_frozen BK141.out 4
                      go_upto_region 25 with (first | ((with_reducible refine gate_dst (N := 193) rfl ?_); (try (refine gate_guard (by rfl) ?_; dsimp only)); refine Kd.R_lit k25 _ 25 ?hg (N := 193) ?hd (xs := ([(⟨t135, t136, t137, t138, t139⟩ : S25)] : List (S25))) (inner := [.int .i64 t135, .int .i64 t136, .int .i64 t137, .int .i64 t138, .int .i64 t139]) (ok := fun _ => True) (okp := fun _ => True) ?hr ?hp (fun _ hk => hk) trivial (Below.refl _ _) (Nat.le_refl _) (by simp) ?_; (case hd => rfl); (case hg => rfl); (case hr => first | (go_simp; done) | (go_simp; rfl)); (case hp => exact (Reps.c5 (show Kd.M k25 _ _ _ (⟨t135, t136, t137, t138, t139⟩ : S25) [.int .i64 t135, .int .i64 t136, .int .i64 t137, .int .i64 t138, .int .i64 t139] from (k25_mkM _ _ _ (⟨t135, t136, t137, t138, t139⟩ : S25) )) (Reps.none _ _))); intro v147 w67 ho68 hb hg_ hnew_; clear hg_ hnew_; (first | rw [← Ny146.out] at ho68 | (simp only [Int.reduceToNat] at ho68; rw [← Ny146.out] at ho68)); have n0_ := Aside0.mk (Kd.R_lower (Kd.R_newB ho68 (bS BK141.out)) (below_size (by exact eS HB.out))); have n1_ := Aside0.mk (blk_below (bS BK141.out) hb); have n2_ := Aside0.mk (below_step (by exact eS HB.out) hb); clear BK141; clear HB; have HO148 := n0_; have BK141 := n1_; have HB := n2_; clear n0_ n1_ n2_; clear hb ho68; obtain ⟨Ao69, co69, eo69⟩ := Kd.R_slice HO148.out; subst eo69) | ((with_reducible refine gate_callee (f := 40) rfl ?_); refine goesL_ (some 196) rfl rfl Try.func40 (by kernel_rfl) rfl #[.slice Ao69 y146.length co69, .int .i64 t140, .int .i64 t142] rfl (by (try simp only [List.map_toArray, List.map_cons, List.map_nil]); first | done | rfl | (simp only [List.length_drop, List.length_take]; rfl)) ?_; (with_reducible refine (impl_DryCarpets.calls kj59 _ _ y146 t140 t142 t149 t150 t151 _ ?side1 ?side2 A64.out).mono ?_); (case side1 => repeat (first | exact (Kd.R_reads' HO148.out).2.2 | (with_reducible refine Kd.C_alloc ?_ _) | (with_reducible refine Kd.C_drewN ?_ _) | (with_reducible refine Kd.C_drew ?_))); (case side2 => exact (Kd.R_reads' HO148.out).2.1); rintro e w70 ⟨v152, v154, rfl, ho0, ho1, hb⟩; refine ⟨_, rfl, ?_⟩; have n0_ := Aside0.mk (Kd.R_elder' (by exact Ho.RS <| HO148.out) (Kd.R_base ho0) hb); have n1_ := Aside0.mk (Kd.R_lower (Kd.R_newB (Kd.R_new' ho0 (Kd.R_lt (by exact Ho.RS <| HO148.out))) (bS BK141.out)) (below_size (by exact eS HB.out))); have n2_ := Aside0.mk (Kd.R_lower ho1 (below_size (by exact eS HB.out))); have n3_ := Aside0.mk (blk_below (bS BK141.out) hb); have n4_ := Aside0.mk (below_step (by exact eS HB.out) hb); clear HO148; clear BK141; clear HB; have HO148 := n0_; have HO153 := n1_; have HO155 := n2_; have BK141 := n3_; have HB := n4_; clear n0_ n1_ n2_ n3_ n4_; (try clear hb); (try clear hb2); (try clear hk); (try clear hi); (try clear ho0); (try clear ho1)))
                      (try simp only [Act.put, List.setIfInBounds_toArray, List.set_cons_zero, List.set_cons_succ])
                      go_cut [208] (fun v208 wc => ∃ (kq : Nat) (x208_64 : Bool), v208 = .bool x208_64 ∧ Aside0 (laws_FnWashing.j5 kq l0 t140 t142 x208_64 t135 t136 t137 t138 t139 = some r) ∧ Aside0 (kq ≤ kj59) ∧ Aside0 (wc.heap[gb141]? = some (.cells #[.int .i64 t135, .int .i64 t136, .int .i64 t137, .int .i64 t138, .int .i64 t139] 25 (0, 0))) ∧ Aside0 (Below w.heap.size w wc))
                      case first =>
                       have H := HC65.out
                       clear HC65
                       by_cases c71 : t151 = true
                       ·subst c71
                        have H1 : ((laws_rHas.f kj59 t150 t135).bind fun t156 => (laws_FnWashing.j5 kj59 l0 t140 t142 (!t156) t135 t136 t137 t138 t139)) = some r := by rw [if_pos rfl] at H; exact H
                        clear H
                        have H := H1
                        clear H1
                        replace H := Option.bind_eq_some_iff.mp H
                        obtain ⟨t156, A720, H⟩ := H
                        replace H : (laws_FnWashing.j5 kj59 l0 t140 t142 (!t156) t135 t136 t137 t138 t139) = some r := H
                        have A72 := Aside0.mk A720
                        clear A720
                        as_aux_lemma =>
                         have H' := Aside0.mk H
                         clear H
                         have hcz73_0 : w70.cell? ⟨gb141, 0, none⟩ = some (.int .i64 t135) := (blk_cell BK141.out 0).trans rfl
                         have hcz73_1 : w70.cell? ⟨gb141, 1, none⟩ = some (.int .i64 t136) := (blk_cell BK141.out 1).trans rfl
                         have hcz73_2 : w70.cell? ⟨gb141, 2, none⟩ = some (.int .i64 t137) := (blk_cell BK141.out 2).trans rfl
                         have hcz73_3 : w70.cell? ⟨gb141, 3, none⟩ = some (.int .i64 t138) := (blk_cell BK141.out 3).trans rfl
                         have hcz73_4 : w70.cell? ⟨gb141, 4, none⟩ = some (.int .i64 t139) := (blk_cell BK141.out 4).trans rfl
                         have hfz73_0 := blk_frozen BK141.out 0
                         have hfz73_1 := blk_frozen BK141.out 1
                         have hfz73_2 := blk_frozen BK141.out 2
                         have hfz73_3 := blk_frozen BK141.out 3
                         have hfz73_4 := blk_frozen BK141.out 4
                         obtain ⟨Ao74, co74, eo74⟩ := Kd.R_slice HO155.out
                         subst eo74
                         go_wp2_with (first | (go_at_call 53; (with_reducible refine (laws_rHas.calls kj59 _ _ t150 t135 t156 _ ?side1 ?side2 A72.out).mono ?_); (case side1 => repeat (first | exact (Kd.R_reads' HO155.out).2.2 | (with_reducible refine Kd.C_alloc ?_ _) | (with_reducible refine Kd.C_drewN ?_ _) | (with_reducible refine Kd.C_drew ?_))); (case side2 => exact (Kd.R_reads' HO155.out).2.1); rintro e w' ⟨rfl, ⟨nd, rfl⟩⟩))
                         go_meet
                         case rel => exact ⟨_, (!t156), (by first | rfl | (simp; done) | (simp [*]; done)), H', ⟨by have := HJ6.out; have := HJ19.out; have := HJ29.out; have := HJ50.out; have := HJ59.out; first | omega | exact Nat.le_refl _⟩, ⟨by exact bS BK141.out⟩, ⟨by exact eS HB.out⟩⟩
                       ·replace c71 := Bool.eq_false_iff.mpr c71
                        subst c71
                        have H1 : (laws_FnWashing.j5 kj59 l0 t140 t142 true t135 t136 t137 t138 t139) = some r := by rw [if_neg (show ¬ (false = true) by decide)] at H; exact H
                        clear H
                        have H := H1
                        clear H1
                        as_aux_lemma =>
                         have H' := Aside0.mk H
                         clear H
                         go_wp2
                         go_meet
                         case rel => exact ⟨_, (true), (by first | rfl | (simp; done) | (simp [*]; done)), H', ⟨by have := HJ6.out; have := HJ19.out; have := HJ29.out; have := HJ50.out; have := HJ59.out; first | omega | exact Nat.le_refl _⟩, ⟨by exact bS BK141.out⟩, ⟨by exact eS HB.out⟩⟩
                      case rest =>
                       clear HC65
                       try clear c1
                       try clear c2
                       try clear p2
                       try clear c3
                       try clear c4
                       try clear c5
                       try clear c6
                       try clear p6
                       try clear c7
                       try clear c12
                       try clear c12b0
                       try clear c12b1
                       try clear c12b2
                       try clear c13
                       try clear c13b0
                       try clear c13b1
                       try clear c14
                       try clear c17
                       try clear c22
                       try clear c23
                       try clear c23b0
                       try clear c23b1
                       try clear c23b2
                       try clear c24
                       try clear c24b0
                       try clear c24b1
                       try clear c25
                       try clear c25b0
                       try clear c25b1
                       try clear c25b2
                       try clear c29
                       try clear c30
                       try clear c31
                       try clear c32
                       try clear c35
                       try clear c36
                       try clear c37
                       try clear c38
                       try clear c38b0
                       try clear c38b1
                       try clear c39
                       try clear c39b0
                       try clear c39b1
                       try clear c40
                       try clear c41
                       try clear c44
                       try clear c51
                       try clear c52
                       try clear c58
                       try clear c58b0
                       try clear c58b1
                       try clear c59
                       try clear c61
                       try clear c63
                       try clear p64
                       try clear c71
                       try clear hcz54_0
                       try clear hcz54_1
                       try clear hcz54_2
                       try clear hcz54_3
                       try clear hcz54_4
                       try clear hcz56_0
                       try clear hcz56_1
                       try clear hcz56_2
                       try clear hcz56_3
                       try clear hcz56_4
                       try clear hcz66_0
                       try clear hcz66_1
                       try clear hcz66_2
                       try clear hcz66_3
                       try clear hcz66_4
                       try clear hcz73_0
                       try clear hcz73_1
                       try clear hcz73_2
                       try clear hcz73_3
                       try clear hcz73_4
                       try clear hfz54_0
                       try clear hfz54_1
                       try clear hfz54_2
                       try clear hfz54_3
                       try clear hfz54_4
                       try clear hfz56_0
                       try clear hfz56_1
                       try clear hfz56_2
                       try clear hfz56_3
                       try clear hfz56_4
                       try clear hfz66_0
                       try clear hfz66_1
                       try clear hfz66_2
                       try clear hfz66_3
                       try clear hfz66_4
                       try clear hfz73_0
                       try clear hfz73_1
                       try clear hfz73_2
                       try clear hfz73_3
                       try clear hfz73_4
                       try clear p2
                       try clear p6
                       as_aux_lemma =>
                        obtain ⟨kq, x208_64, rfl, HA, HJ64, BK141, HB⟩ := hcut
                        cases kq with
                        | zero => exact absurd HA.out (by simp [laws_FnWashing.j5])
                        | succ kj64 =>
                         have H := HA.out
                         clear HA
                         simp only [laws_FnWashing.j5] at H
                         by_cases c75 : x208_64 = true
                         ·subst c75
                          have H1 : (some false) = some r := by rw [if_pos rfl] at H; exact H
                          clear H
                          have H := H1
                          clear H1
                          as_aux_lemma =>
                           exact absurd ((Option.some.inj H).trans HT.out) (by decide)
                         ·replace c75 := Bool.eq_false_iff.mpr c75
                          subst c75
                          have H1 : ((impl_DryCarpets.f kj64 (([(⟨t135, t136, t137, t138, t139⟩ : S25)] : List (S25))) t140 (wrap64 (t142 - 1))).bind fun bt160 => (if bt160.2.2 = true then (if (bt160.2.1.length : Int) = 0 then (laws_FnWashing.j6 kj64 l0) else (some false)) else (laws_FnWashing.j6 kj64 l0))) = some r := by rw [if_neg (show ¬ (false = true) by decide)] at H; exact H
                          clear H
                          have H := H1
                          clear H1
                          obtain ⟨y157, hy157⟩ : ∃ y_ : List (S25), y_ = (([(⟨t135, t136, t137, t138, t139⟩ : S25)] : List (S25))) := ⟨_, rfl⟩
                          replace H : ((impl_DryCarpets.f kj64 y157 t140 (wrap64 (t142 - 1))).bind fun bt160 => (if bt160.2.2 = true then (if (bt160.2.1.length : Int) = 0 then (laws_FnWashing.j6 kj64 l0) else (some false)) else (laws_FnWashing.j6 kj64 l0))) = some r := by first | (rw [hy157]; with_reducible exact H) | (have H2_ := (Option.bind_some _ _).symm.trans H; rw [hy157]; with_reducible exact H2_) | (have H2_ := (Option.bind_some _ _).symm.trans H; with_reducible exact H2_) | with_reducible exact H | (rw [hy157]; exact H) | exact H
                          have Ny157 := Aside0.mk hy157
                          clear hy157
                          replace H := Option.bind_eq_some_iff.mp H
                          obtain ⟨⟨t160, t161, t162⟩, A760, H⟩ := H
                          replace H : (if t162 = true then (if (t161.length : Int) = 0 then (laws_FnWashing.j6 kj64 l0) else (some false)) else (laws_FnWashing.j6 kj64 l0)) = some r := H
                          have A76 := Aside0.mk A760
                          clear A760
                          by_cases c77 : t162 = true
                          ·subst c77
                           have H1 : (if (t161.length : Int) = 0 then (laws_FnWashing.j6 kj64 l0) else (some false)) = some r := by rw [if_pos rfl] at H; exact H
                           clear H
                           have H := H1
                           clear H1
                           by_cases c78 : (t161.length : Int) = 0
                           ·rw [if_pos c78] at H
                            have c78b0 : ((t161.length : Int) == 0) = true := beq_iff_eq.mpr c78
                            have c78b1 : ((t161.length : Int) != 0) = false := bne_eq_false_iff_eq.mpr c78
                            clear c78
                            as_aux_lemma =>
                             have H' := Aside0.mk H
                             clear H
                             have hcz79_0 : wc.cell? ⟨gb141, 0, none⟩ = some (.int .i64 t135) := (blk_cell BK141.out 0).trans rfl
                             have hcz79_1 : wc.cell? ⟨gb141, 1, none⟩ = some (.int .i64 t136) := (blk_cell BK141.out 1).trans rfl
                             have hcz79_2 : wc.cell? ⟨gb141, 2, none⟩ = some (.int .i64 t137) := (blk_cell BK141.out 2).trans rfl
                             have hcz79_3 : wc.cell? ⟨gb141, 3, none⟩ = some (.int .i64 t138) := (blk_cell BK141.out 3).trans rfl
                             have hcz79_4 : wc.cell? ⟨gb141, 4, none⟩ = some (.int .i64 t139) := (blk_cell BK141.out 4).trans rfl
                             have hfz79_0 := blk_frozen BK141.out 0
                             have hfz79_1 := blk_frozen BK141.out 1
                             have hfz79_2 := blk_frozen BK141.out 2
                             have hfz79_3 := blk_frozen BK141.out 3
                             have hfz79_4 := blk_frozen BK141.out 4
                             go_wp2_with (first | ((with_reducible refine gate_dst (N := 211) rfl ?_); (try (refine gate_guard (by rfl) ?_; dsimp only)); refine Kd.R_lit k25 _ 25 ?hg (N := 211) ?hd (xs := ([(⟨t135, t136, t137, t138, t139⟩ : S25)] : List (S25))) (inner := [.int .i64 t135, .int .i64 t136, .int .i64 t137, .int .i64 t138, .int .i64 t139]) (ok := fun _ => True) (okp := fun _ => True) ?hr ?hp (fun _ hk => hk) trivial (Below.refl _ _) (Nat.le_refl _) (by simp) ?_; (case hd => rfl); (case hg => rfl); (case hr => first | (go_simp; done) | (go_simp; rfl)); (case hp => exact (Reps.c5 (show Kd.M k25 _ _ _ (⟨t135, t136, t137, t138, t139⟩ : S25) [.int .i64 t135, .int .i64 t136, .int .i64 t137, .int .i64 t138, .int .i64 t139] from (k25_mkM _ _ _ (⟨t135, t136, t137, t138, t139⟩ : S25) )) (Reps.none _ _))); intro v158 w80 ho81 hb hg_ hnew_; clear hg_ hnew_; (first | rw [← Ny157.out] at ho81 | (simp only [Int.reduceToNat] at ho81; rw [← Ny157.out] at ho81)); have n0_ := Aside0.mk (Kd.R_lower (Kd.R_newB ho81 (bS BK141.out)) (below_size (by exact eS HB.out))); have n1_ := Aside0.mk (blk_below (bS BK141.out) hb); have n2_ := Aside0.mk (below_step (by exact eS HB.out) hb); clear BK141; clear HB; have HO159 := n0_; have BK141 := n1_; have HB := n2_; clear n0_ n1_ n2_; clear hb ho81; obtain ⟨Ao82, co82, eo82⟩ := Kd.R_slice HO159.out; subst eo82) | ((with_reducible refine gate_callee (f := 40) rfl ?_); refine goesL_ (some 215) rfl rfl Try.func40 (by kernel_rfl) rfl #[.slice Ao82 y157.length co82, .int .i64 t140, .int .i64 (wrap64 (t142 - 1))] rfl (by (try simp only [List.map_toArray, List.map_cons, List.map_nil]); first | done | rfl | (simp only [List.length_drop, List.length_take]; rfl)) ?_; (with_reducible refine (impl_DryCarpets.calls kj64 _ _ y157 t140 (wrap64 (t142 - 1)) t160 t161 true _ ?side1 ?side2 A76.out).mono ?_); (case side1 => repeat (first | exact (Kd.R_reads' HO159.out).2.2 | (with_reducible refine Kd.C_alloc ?_ _) | (with_reducible refine Kd.C_drewN ?_ _) | (with_reducible refine Kd.C_drew ?_))); (case side2 => exact (Kd.R_reads' HO159.out).2.1); rintro e w83 ⟨v163, v165, rfl, ho0, ho1, hb⟩; refine ⟨_, rfl, ?_⟩; have n0_ := Aside0.mk (Kd.R_elder' (by exact Ho.RS <| HO159.out) (Kd.R_base ho0) hb); have n1_ := Aside0.mk (Kd.R_lower (Kd.R_newB (Kd.R_new' ho0 (Kd.R_lt (by exact Ho.RS <| HO159.out))) (bS BK141.out)) (below_size (by exact eS HB.out))); have n2_ := Aside0.mk (Kd.R_lower ho1 (below_size (by exact eS HB.out))); have n3_ := Aside0.mk (blk_below (bS BK141.out) hb); have n4_ := Aside0.mk (below_step (by exact eS HB.out) hb); clear HO159; clear BK141; clear HB; have HO159 := n0_; have HO164 := n1_; have HO166 := n2_; have BK141 := n3_; have HB := n4_; clear n0_ n1_ n2_ n3_ n4_; (try clear hb); (try clear hb2); (try clear hk); (try clear hi); (try clear ho0); (try clear ho1); obtain ⟨Ao84, co84, eo84⟩ := Kd.R_slice HO166.out; subst eo84))
                             go_meet
                             case rel => exact ⟨_, H', ⟨by have := HJ6.out; have := HJ19.out; have := HJ29.out; have := HJ50.out; have := HJ59.out; have := HJ64.out; first | omega | exact Nat.le_refl _⟩, ⟨by exact bS BK141.out⟩, ⟨by exact eS HB.out⟩⟩
                           ·rw [if_neg c78] at H
                            have c78b0 : ((t161.length : Int) == 0) = false := beq_eq_false_iff_ne.mpr c78
                            have c78b1 : ((t161.length : Int) != 0) = true := bne_iff_ne.mpr c78
                            have c78b2 : ¬ (t161 = []) := fun h_ => c78 (by rw [h_]; rfl)
                            as_aux_lemma =>
                             exact absurd ((Option.some.inj H).trans HT.out) (by decide)
                          ·replace c77 := Bool.eq_false_iff.mpr c77
                           subst c77
                           have H1 : (laws_FnWashing.j6 kj64 l0) = some r := by rw [if_neg (show ¬ (false = true) by decide)] at H; exact H
                           clear H
                           have H := H1
                           clear H1
                           as_aux_lemma =>
                            have H' := Aside0.mk H
                            clear H
                            have hcz85_0 : wc.cell? ⟨gb141, 0, none⟩ = some (.int .i64 t135) := (blk_cell BK141.out 0).trans rfl
                            have hcz85_1 : wc.cell? ⟨gb141, 1, none⟩ = some (.int .i64 t136) := (blk_cell BK141.out 1).trans rfl
                            have hcz85_2 : wc.cell? ⟨gb141, 2, none⟩ = some (.int .i64 t137) := (blk_cell BK141.out 2).trans rfl
                            have hcz85_3 : wc.cell? ⟨gb141, 3, none⟩ = some (.int .i64 t138) := (blk_cell BK141.out 3).trans rfl
                            have hcz85_4 : wc.cell? ⟨gb141, 4, none⟩ = some (.int .i64 t139) := (blk_cell BK141.out 4).trans rfl
                            have hfz85_0 := blk_frozen BK141.out 0
                            have hfz85_1 := blk_frozen BK141.out 1
                            have hfz85_2 := blk_frozen BK141.out 2
                            have hfz85_3 := blk_frozen BK141.out 3
                            have hfz85_4 := blk_frozen BK141.out 4
                            go_wp2_with (first | ((with_reducible refine gate_dst (N := 211) rfl ?_); (try (refine gate_guard (by rfl) ?_; dsimp only)); refine Kd.R_lit k25 _ 25 ?hg (N := 211) ?hd (xs := ([(⟨t135, t136, t137, t138, t139⟩ : S25)] : List (S25))) (inner := [.int .i64 t135, .int .i64 t136, .int .i64 t137, .int .i64 t138, .int .i64 t139]) (ok := fun _ => True) (okp := fun _ => True) ?hr ?hp (fun _ hk => hk) trivial (Below.refl _ _) (Nat.le_refl _) (by simp) ?_; (case hd => rfl); (case hg => rfl); (case hr => first | (go_simp; done) | (go_simp; rfl)); (case hp => exact (Reps.c5 (show Kd.M k25 _ _ _ (⟨t135, t136, t137, t138, t139⟩ : S25) [.int .i64 t135, .int .i64 t136, .int .i64 t137, .int .i64 t138, .int .i64 t139] from (k25_mkM _ _ _ (⟨t135, t136, t137, t138, t139⟩ : S25) )) (Reps.none _ _))); intro v158 w86 ho87 hb hg_ hnew_; clear hg_ hnew_; (first | rw [← Ny157.out] at ho87 | (simp only [Int.reduceToNat] at ho87; rw [← Ny157.out] at ho87)); have n0_ := Aside0.mk (Kd.R_lower (Kd.R_newB ho87 (bS BK141.out)) (below_size (by exact eS HB.out))); have n1_ := Aside0.mk (blk_below (bS BK141.out) hb); have n2_ := Aside0.mk (below_step (by exact eS HB.out) hb); clear BK141; clear HB; have HO159 := n0_; have BK141 := n1_; have HB := n2_; clear n0_ n1_ n2_; clear hb ho87; obtain ⟨Ao88, co88, eo88⟩ := Kd.R_slice HO159.out; subst eo88) | ((with_reducible refine gate_callee (f := 40) rfl ?_); refine goesL_ (some 215) rfl rfl Try.func40 (by kernel_rfl) rfl #[.slice Ao88 y157.length co88, .int .i64 t140, .int .i64 (wrap64 (t142 - 1))] rfl (by (try simp only [List.map_toArray, List.map_cons, List.map_nil]); first | done | rfl | (simp only [List.length_drop, List.length_take]; rfl)) ?_; (with_reducible refine (impl_DryCarpets.calls kj64 _ _ y157 t140 (wrap64 (t142 - 1)) t160 t161 false _ ?side1 ?side2 A76.out).mono ?_); (case side1 => repeat (first | exact (Kd.R_reads' HO159.out).2.2 | (with_reducible refine Kd.C_alloc ?_ _) | (with_reducible refine Kd.C_drewN ?_ _) | (with_reducible refine Kd.C_drew ?_))); (case side2 => exact (Kd.R_reads' HO159.out).2.1); rintro e w89 ⟨v163, v165, rfl, ho0, ho1, hb⟩; refine ⟨_, rfl, ?_⟩; have n0_ := Aside0.mk (Kd.R_elder' (by exact Ho.RS <| HO159.out) (Kd.R_base ho0) hb); have n1_ := Aside0.mk (Kd.R_lower (Kd.R_newB (Kd.R_new' ho0 (Kd.R_lt (by exact Ho.RS <| HO159.out))) (bS BK141.out)) (below_size (by exact eS HB.out))); have n2_ := Aside0.mk (Kd.R_lower ho1 (below_size (by exact eS HB.out))); have n3_ := Aside0.mk (blk_below (bS BK141.out) hb); have n4_ := Aside0.mk (below_step (by exact eS HB.out) hb); clear HO159; clear BK141; clear HB; have HO159 := n0_; have HO164 := n1_; have HO166 := n2_; have BK141 := n3_; have HB := n4_; clear n0_ n1_ n2_ n3_ n4_; (try clear hb); (try clear hb2); (try clear hk); (try clear hi); (try clear ho0); (try clear ho1)))
                            go_meet
                            case rel => exact ⟨_, H', ⟨by have := HJ6.out; have := HJ19.out; have := HJ29.out; have := HJ50.out; have := HJ59.out; have := HJ64.out; first | omega | exact Nat.le_refl _⟩, ⟨by exact bS BK141.out⟩, ⟨by exact eS HB.out⟩⟩
                     ·replace c63 := Bool.eq_false_iff.mpr c63
                      subst c63
                      have H1 : (laws_FnWashing.j6 kj59 l0) = some r := by rw [if_neg (show ¬ (false = true) by decide)] at H; exact H
                      clear H
                      have H := H1
                      clear H1
                      as_aux_lemma =>
                       have H' := Aside0.mk H
                       clear H
                       go_wp2
                       go_meet
                       case rel => exact ⟨_, H', ⟨by have := HJ6.out; have := HJ19.out; have := HJ29.out; have := HJ50.out; have := HJ59.out; first | omega | exact Nat.le_refl _⟩, ⟨by exact bS BK141.out⟩, ⟨by exact eS HB.out⟩⟩
                    case rest =>
                     clear HC62
                     try clear c1
                     try clear c2
                     try clear p2
                     try clear c3
                     try clear c4
                     try clear c5
                     try clear c6
                     try clear p6
                     try clear c7
                     try clear c12
                     try clear c12b0
                     try clear c12b1
                     try clear c12b2
                     try clear c13
                     try clear c13b0
                     try clear c13b1
                     try clear c14
                     try clear c17
                     try clear c22
                     try clear c23
                     try clear c23b0
                     try clear c23b1
                     try clear c23b2
                     try clear c24
                     try clear c24b0
                     try clear c24b1
                     try clear c25
                     try clear c25b0
                     try clear c25b1
                     try clear c25b2
                     try clear c29
                     try clear c30
                     try clear c31
                     try clear c32
                     try clear c35
                     try clear c36
                     try clear c37
                     try clear c38
                     try clear c38b0
                     try clear c38b1
                     try clear c39
                     try clear c39b0
                     try clear c39b1
                     try clear c40
                     try clear c41
                     try clear c44
                     try clear c51
                     try clear c52
                     try clear c58
                     try clear c58b0
                     try clear c58b1
                     try clear c59
                     try clear c61
                     try clear c63
                     try clear p64
                     try clear c71
                     try clear c75
                     try clear c77
                     try clear c78
                     try clear c78b0
                     try clear c78b1
                     try clear c78b2
                     try clear hcz54_0
                     try clear hcz54_1
                     try clear hcz54_2
                     try clear hcz54_3
                     try clear hcz54_4
                     try clear hcz56_0
                     try clear hcz56_1
                     try clear hcz56_2
                     try clear hcz56_3
                     try clear hcz56_4
                     try clear hcz66_0
                     try clear hcz66_1
                     try clear hcz66_2
                     try clear hcz66_3
                     try clear hcz66_4
                     try clear hcz73_0
                     try clear hcz73_1
                     try clear hcz73_2
                     try clear hcz73_3
                     try clear hcz73_4
                     try clear hcz79_0
                     try clear hcz79_1
                     try clear hcz79_2
                     try clear hcz79_3
                     try clear hcz79_4
                     try clear hcz85_0
                     try clear hcz85_1
                     try clear hcz85_2
                     try clear hcz85_3
                     try clear hcz85_4
                     try clear hfz54_0
                     try clear hfz54_1
                     try clear hfz54_2
                     try clear hfz54_3
                     try clear hfz54_4
                     try clear hfz56_0
                     try clear hfz56_1
                     try clear hfz56_2
                     try clear hfz56_3
                     try clear hfz56_4
                     try clear hfz66_0
                     try clear hfz66_1
                     try clear hfz66_2
                     try clear hfz66_3
                     try clear hfz66_4
                     try clear hfz73_0
                     try clear hfz73_1
                     try clear hfz73_2
                     try clear hfz73_3
                     try clear hfz73_4
                     try clear hfz79_0
                     try clear hfz79_1
                     try clear hfz79_2
                     try clear hfz79_3
                     try clear hfz79_4
                     try clear hfz85_0
                     try clear hfz85_1
                     try clear hfz85_2
                     try clear hfz85_3
                     try clear hfz85_4
                     try clear p2
                     try clear p6
                     try clear p64
                     as_aux_lemma =>
                      obtain ⟨kq, HA, HJ61, BK141, HB⟩ := hcut
                      cases kq with
                      | zero => exact absurd HA.out (by simp [laws_FnWashing.j6])
                      | succ kj61 =>
                       have H := HA.out
                       clear HA
                       simp only [laws_FnWashing.j6] at H
                       replace H := Option.bind_eq_some_iff.mp H
                       obtain ⟨⟨t167, t168, t169⟩, A900, H⟩ := H
                       replace H : ((impl_ShearCarpet.f kj61 t167 t168 t169).bind fun bt172 => ((spec_ShearCarpet.f kj61 t167 t168 t169).bind fun bt177 => (if (bt172.2.2 != bt177.2.2) = true then (laws_FnWashing.j7 kj61 t167 bt172.1 bt172.2.1 bt172.2.2 true) else (if bt172.2.1 = bt177.2.1 then ((laws_rWet.f kj61 bt172.1 bt177.1).bind fun t182 => (laws_FnWashing.j7 kj61 t167 bt172.1 bt172.2.1 bt172.2.2 (!t182))) else (laws_FnWashing.j7 kj61 t167 bt172.1 bt172.2.1 bt172.2.2 true))))) = some r := H
                       have A90 := Aside0.mk A900
                       clear A900
                       replace H := Option.bind_eq_some_iff.mp H
                       obtain ⟨⟨t172, t173, t174⟩, A910, H⟩ := H
                       replace H : ((spec_ShearCarpet.f kj61 t167 t168 t169).bind fun bt177 => (if (t174 != bt177.2.2) = true then (laws_FnWashing.j7 kj61 t167 t172 t173 t174 true) else (if t173 = bt177.2.1 then ((laws_rWet.f kj61 t172 bt177.1).bind fun t182 => (laws_FnWashing.j7 kj61 t167 t172 t173 t174 (!t182))) else (laws_FnWashing.j7 kj61 t167 t172 t173 t174 true)))) = some r := H
                       have A91 := Aside0.mk A910
                       clear A910
                       replace H := Option.bind_eq_some_iff.mp H
                       obtain ⟨⟨t177, t178, t179⟩, A920, H⟩ := H
                       replace H : (if (t174 != t179) = true then (laws_FnWashing.j7 kj61 t167 t172 t173 t174 true) else (if t173 = t178 then ((laws_rWet.f kj61 t172 t177).bind fun t182 => (laws_FnWashing.j7 kj61 t167 t172 t173 t174 (!t182))) else (laws_FnWashing.j7 kj61 t167 t172 t173 t174 true))) = some r := H
                       have A92 := Aside0.mk A920
                       clear A920
                       have HC93 := Aside0.mk H
                       clear H
                       go_upto_region 33 with (first | ((with_reducible refine gate_callee (f := 54) rfl ?_); refine goesL_ (some 227) rfl rfl Try.func54 (by kernel_rfl) rfl #[.slice A0 l0.length c0] rfl (by (try simp only [List.map_toArray, List.map_cons, List.map_nil]); first | done | rfl | (simp only [List.length_drop, List.length_take]; rfl)) ?_; (with_reducible refine (spec_DrawShearCarpet.calls kj61 _ _ l0 t167 t168 t169 _ ?side1 ?side2 A90.out).mono ?_); (case side1 => repeat (first | exact (Kd.C_below HR0.out HB.out) | (with_reducible refine Kd.C_alloc ?_ _) | (with_reducible refine Kd.C_drewN ?_ _) | (with_reducible refine Kd.C_drew ?_))); (case side2 => exact HC0.out); rintro e w94 ⟨v170, rfl, ho0, hb⟩; refine ⟨_, rfl, ?_⟩; have n0_ := Aside0.mk (Kd.R_lower (Kd.R_newB ho0 (bS BK141.out)) (below_size (by exact eS HB.out))); have n1_ := Aside0.mk (blk_below (bS BK141.out) hb); have n2_ := Aside0.mk (below_step (by exact eS HB.out) hb); clear BK141; clear HB; have HO171 := n0_; have BK141 := n1_; have HB := n2_; clear n0_ n1_ n2_; (try clear hb); (try clear hb2); (try clear hk); (try clear hi); (try clear ho0); obtain ⟨Ao95, co95, eo95⟩ := Kd.R_slice HO171.out; subst eo95) | ((with_reducible refine gate_callee (f := 38) rfl ?_); refine goesL_ (some 235) rfl rfl Try.func38 (by kernel_rfl) rfl #[.slice Ao95 t167.length co95, .int .i64 t168, .int .i64 t169] rfl (by (try simp only [List.map_toArray, List.map_cons, List.map_nil]); first | done | rfl | (simp only [List.length_drop, List.length_take]; rfl)) ?_; (with_reducible refine (impl_ShearCarpet.calls kj61 _ _ t167 t168 t169 t172 t173 t174 _ ?side1 ?side2 A91.out).mono ?_); (case side1 => repeat (first | exact (Kd.R_reads' HO171.out).2.2 | (with_reducible refine Kd.C_alloc ?_ _) | (with_reducible refine Kd.C_drewN ?_ _) | (with_reducible refine Kd.C_drew ?_))); (case side2 => exact (Kd.R_reads' HO171.out).2.1); rintro e w96 ⟨v175, rfl, ho0, hb⟩; refine ⟨_, rfl, ?_⟩; have n0_ := Aside0.mk (Kd.R_elder' (by exact Ho.RS <| HO171.out) (Kd.R_base ho0) hb); have n1_ := Aside0.mk (Kd.R_lower (Kd.R_newB (Kd.R_new' ho0 (Kd.R_lt (by exact Ho.RS <| HO171.out))) (bS BK141.out)) (below_size (by exact eS HB.out))); have n2_ := Aside0.mk (blk_below (bS BK141.out) hb); have n3_ := Aside0.mk (below_step (by exact eS HB.out) hb); clear HO171; clear BK141; clear HB; have HO171 := n0_; have HO176 := n1_; have BK141 := n2_; have HB := n3_; clear n0_ n1_ n2_ n3_; (try clear hb); (try clear hb2); (try clear hk); (try clear hi); (try clear ho0)) | ((with_reducible refine gate_callee (f := 37) rfl ?_); refine goesL_ (some 243) rfl rfl Try.func37 (by kernel_rfl) rfl #[.slice Ao95 t167.length co95, .int .i64 t168, .int .i64 t169] rfl (by (try simp only [List.map_toArray, List.map_cons, List.map_nil]); first | done | rfl | (simp only [List.length_drop, List.length_take]; rfl)) ?_; (with_reducible refine (spec_ShearCarpet.calls kj61 _ _ t167 t168 t169 t177 t178 t179 _ ?side1 ?side2 A92.out).mono ?_); (case side1 => repeat (first | exact (Kd.R_reads' HO171.out).2.2 | (with_reducible refine Kd.C_alloc ?_ _) | (with_reducible refine Kd.C_drewN ?_ _) | (with_reducible refine Kd.C_drew ?_))); (case side2 => exact (Kd.R_reads' HO171.out).2.1); rintro e w97 ⟨v180, rfl, ho0, hb⟩; refine ⟨_, rfl, ?_⟩; have n0_ := Aside0.mk (Kd.R_elder' (by exact Ho.RS <| HO171.out) (Kd.R_base ho0) hb); have n1_ := Aside0.mk (Kd.R_elder' (by exact Ho.RS <| HO176.out) (Kd.R_base ho0) hb); have n2_ := Aside0.mk (Kd.R_lower (Kd.R_newB (Kd.R_new' (Kd.R_new' ho0 (Kd.R_lt (by exact Ho.RS <| HO171.out))) (Kd.R_lt (by exact Ho.RS <| HO176.out))) (bS BK141.out)) (below_size (by exact eS HB.out))); have n3_ := Aside0.mk (blk_below (bS BK141.out) hb); have n4_ := Aside0.mk (below_step (by exact eS HB.out) hb); clear HO171; clear HO176; clear BK141; clear HB; have HO171 := n0_; have HO176 := n1_; have HO181 := n2_; have BK141 := n3_; have HB := n4_; clear n0_ n1_ n2_ n3_ n4_; (try clear hb); (try clear hb2); (try clear hk); (try clear hi); (try clear ho0)))
                       (try simp only [Act.put, List.setIfInBounds_toArray, List.set_cons_zero, List.set_cons_succ])
                       go_cut [260] (fun v260 wc => ∃ (kq : Nat) (x260_92 : Bool), v260 = .bool x260_92 ∧ Aside0 (laws_FnWashing.j7 kq t167 t172 t173 t174 x260_92 = some r) ∧ Aside0 (kq ≤ kj61) ∧ Aside0 (Kd.R k25 25 wc w.heap.size (fun k_ => some k_ ≠ (v175 : Value).ownBlock ∧ k_ ≠ gb141) (.slice Ao95 t167.length co95) t167) ∧ Aside0 (Kd.R k25 25 wc w.heap.size (fun k_ => some k_ ≠ ((.slice Ao95 t167.length co95) : Value).ownBlock ∧ k_ ≠ gb141) v175 t172) ∧ Aside0 (wc.heap[gb141]? = some (.cells #[.int .i64 t135, .int .i64 t136, .int .i64 t137, .int .i64 t138, .int .i64 t139] 25 (0, 0))) ∧ Aside0 (Below w.heap.size w wc))
                       case first =>
                        have H := HC93.out
                        clear HC93
                        by_cases c98 : (t174 != t179) = true
                        ·rw [if_pos c98] at H
                         have c98b0 : (t174 != t179) = true := c98
                         (try (have c98b1 : decide (t174 = t179) = false := by simpa using c98))
                         (try (have c98b2 : (t174 == t179) = false := by simpa using c98))
                         (try (have c98b3 : ¬ (t174 = t179) := by simpa using c98))
                         clear c98
                         (first | rw [c98b0] | (simp only [i64_w, i32_w]; rw [c98b0]) | skip)
                         as_aux_lemma =>
                          have H' := Aside0.mk H
                          clear H
                          go_wp2
                          go_meet
                          case rel => exact ⟨_, (true), (by first | rfl | (simp; done) | (simp [*]; done)), H', ⟨by have := HJ6.out; have := HJ19.out; have := HJ29.out; have := HJ50.out; have := HJ59.out; have := HJ61.out; first | omega | exact Nat.le_refl _⟩, ⟨by exact Ho.RS <| Kd.R_mono HO171.out (fun _ hk => ⟨hk.1.2, hk.1.1.2⟩)⟩, ⟨by exact Ho.RS <| Kd.R_mono HO176.out (fun _ hk => ⟨hk.1.1.2, hk.1.2⟩)⟩, ⟨by exact bS BK141.out⟩, ⟨by exact eS HB.out⟩⟩
                        ·rw [if_neg c98] at H
                         have c98b0 : (t174 != t179) = false := by simpa using c98
                         (try (have c98b1 : decide (t174 = t179) = true := by simpa using c98))
                         (try (have c98b2 : (t174 == t179) = true := by simpa using c98))
                         clear c98
                         (first | rw [c98b0] | (simp only [i64_w, i32_w]; rw [c98b0]) | skip)
                         by_cases c99 : t173 = t178
                         ·rw [if_pos c99] at H
                          have c99b0 : (t173 == t178) = true := beq_iff_eq.mpr c99
                          have c99b1 : (t173 != t178) = false := bne_eq_false_iff_eq.mpr c99
                          clear c99
                          replace H := Option.bind_eq_some_iff.mp H
                          obtain ⟨t182, A1000, H⟩ := H
                          replace H : (laws_FnWashing.j7 kj61 t167 t172 t173 t174 (!t182)) = some r := H
                          have A100 := Aside0.mk A1000
                          clear A1000
                          as_aux_lemma =>
                           have H' := Aside0.mk H
                           clear H
                           obtain ⟨Ao101, co101, eo101⟩ := Kd.R_slice HO176.out
                           subst eo101
                           obtain ⟨Ao102, co102, eo102⟩ := Kd.R_slice HO181.out
                           subst eo102
                           go_wp2_with (first | (go_at_call 46; (with_reducible refine (laws_rWet.calls kj61 _ _ t172 _ _ t177 t182 _ ?side1 ?side2 ?side3 ?side4 A100.out).mono ?_); (case side1 => repeat (first | exact (Kd.R_reads' HO176.out).2.2 | (with_reducible refine Kd.C_alloc ?_ _) | (with_reducible refine Kd.C_drewN ?_ _) | (with_reducible refine Kd.C_drew ?_))); (case side2 => exact (Kd.R_reads' HO176.out).2.1); (case side3 => repeat (first | exact (Kd.R_reads' HO181.out).2.2 | (with_reducible refine Kd.C_alloc ?_ _) | (with_reducible refine Kd.C_drewN ?_ _) | (with_reducible refine Kd.C_drew ?_))); (case side4 => exact (Kd.R_reads' HO181.out).2.1); rintro e w' ⟨rfl, ⟨nd, rfl⟩⟩))
                           go_meet
                           case rel => exact ⟨_, (!t182), (by first | rfl | (simp; done) | (simp [*]; done)), H', ⟨by have := HJ6.out; have := HJ19.out; have := HJ29.out; have := HJ50.out; have := HJ59.out; have := HJ61.out; first | omega | exact Nat.le_refl _⟩, ⟨by exact Ho.RS <| Kd.R_mono HO171.out (fun _ hk => ⟨hk.1.2, hk.1.1.2⟩)⟩, ⟨by exact Ho.RS <| Kd.R_mono HO176.out (fun _ hk => ⟨hk.1.1.2, hk.1.2⟩)⟩, ⟨by exact bS BK141.out⟩, ⟨by exact eS HB.out⟩⟩
                         ·rw [if_neg c99] at H
                          have c99b0 : (t173 == t178) = false := beq_eq_false_iff_ne.mpr c99
                          have c99b1 : (t173 != t178) = true := bne_iff_ne.mpr c99
                          as_aux_lemma =>
                           have H' := Aside0.mk H
                           clear H
                           go_wp2
                           go_meet
                           case rel => exact ⟨_, (true), (by first | rfl | (simp; done) | (simp [*]; done)), H', ⟨by have := HJ6.out; have := HJ19.out; have := HJ29.out; have := HJ50.out; have := HJ59.out; have := HJ61.out; first | omega | exact Nat.le_refl _⟩, ⟨by exact Ho.RS <| Kd.R_mono HO171.out (fun _ hk => ⟨hk.1.2, hk.1.1.2⟩)⟩, ⟨by exact Ho.RS <| Kd.R_mono HO176.out (fun _ hk => ⟨hk.1.1.2, hk.1.2⟩)⟩, ⟨by exact bS BK141.out⟩, ⟨by exact eS HB.out⟩⟩
                       case rest =>
                        clear HC93
                        try clear c1
                        try clear c2
                        try clear p2
                        try clear c3
                        try clear c4
                        try clear c5
                        try clear c6
                        try clear p6
                        try clear c7
                        try clear c9
                        try clear c12
                        try clear c12b0
                        try clear c12b1
                        try clear c12b2
                        try clear c13
                        try clear c13b0
                        try clear c13b1
                        try clear c14
                        try clear c17
                        try clear c22
                        try clear c23
                        try clear c23b0
                        try clear c23b1
                        try clear c23b2
                        try clear c24
                        try clear c24b0
                        try clear c24b1
                        try clear c25
                        try clear c25b0
                        try clear c25b1
                        try clear c25b2
                        try clear c29
                        try clear c30
                        try clear c31
                        try clear c32
                        try clear c35
                        try clear c36
                        try clear c37
                        try clear c38
                        try clear c38b0
                        try clear c38b1
                        try clear c39
                        try clear c39b0
                        try clear c39b1
                        try clear c40
                        try clear c41
                        try clear c44
                        try clear c51
                        try clear c52
                        try clear c54
                        try clear c58
                        try clear c58b0
                        try clear c58b1
                        try clear c59
                        try clear c61
                        try clear c63
                        try clear p64
                        try clear c71
                        try clear c75
                        try clear c77
                        try clear c78
                        try clear c78b0
                        try clear c78b1
                        try clear c78b2
                        try clear c98
                        try clear c98b0
                        try clear c98b1
                        try clear c98b2
                        try clear c99
                        try clear c99b0
                        try clear c99b1
                        try clear hcz54_0
                        try clear hcz54_1
                        try clear hcz54_2
                        try clear hcz54_3
                        try clear hcz54_4
                        try clear hcz56_0
                        try clear hcz56_1
                        try clear hcz56_2
                        try clear hcz56_3
                        try clear hcz56_4
                        try clear hcz66_0
                        try clear hcz66_1
                        try clear hcz66_2
                        try clear hcz66_3
                        try clear hcz66_4
                        try clear hcz73_0
                        try clear hcz73_1
                        try clear hcz73_2
                        try clear hcz73_3
                        try clear hcz73_4
                        try clear hcz79_0
                        try clear hcz79_1
                        try clear hcz79_2
                        try clear hcz79_3
                        try clear hcz79_4
                        try clear hcz85_0
                        try clear hcz85_1
                        try clear hcz85_2
                        try clear hcz85_3
                        try clear hcz85_4
                        try clear hfz54_0
                        try clear hfz54_1
                        try clear hfz54_2
                        try clear hfz54_3
                        try clear hfz54_4
                        try clear hfz56_0
                        try clear hfz56_1
                        try clear hfz56_2
                        try clear hfz56_3
                        try clear hfz56_4
                        try clear hfz66_0
                        try clear hfz66_1
                        try clear hfz66_2
                        try clear hfz66_3
                        try clear hfz66_4
                        try clear hfz73_0
                        try clear hfz73_1
                        try clear hfz73_2
                        try clear hfz73_3
                        try clear hfz73_4
                        try clear hfz79_0
                        try clear hfz79_1
                        try clear hfz79_2
                        try clear hfz79_3
                        try clear hfz79_4
                        try clear hfz85_0
                        try clear hfz85_1
                        try clear hfz85_2
                        try clear hfz85_3
                        try clear hfz85_4
                        try clear p2
                        try clear p6
                        try clear p64
                        as_aux_lemma =>
                         obtain ⟨kq, x260_92, rfl, HA, HJ92, HO_35, HO_38, BK141, HB⟩ := hcut
                         cases kq with
                         | zero => exact absurd HA.out (by simp [laws_FnWashing.j7])
                         | succ kj92 =>
                          have H := HA.out
                          clear HA
                          simp only [laws_FnWashing.j7] at H
                          by_cases c103 : x260_92 = true
                          ·subst c103
                           have H1 : (some false) = some r := by rw [if_pos rfl] at H; exact H
                           clear H
                           have H := H1
                           clear H1
                           as_aux_lemma =>
                            exact absurd ((Option.some.inj H).trans HT.out) (by decide)
                          ·replace c103 := Bool.eq_false_iff.mpr c103
                           subst c103
                           have H1 : (if t174 = true then ((impl_LineLoad.f kj92 t167).bind fun bt183 => ((impl_LineLoad.f kj92 t172).bind fun bt185 => (if bt183.2 = true then (if bt185.2 = true then (some ((wrap64 (bt183.1 - bt185.1)) == t173)) else (some false)) else (some false)))) else (some true)) = some r := by rw [if_neg (show ¬ (false = true) by decide)] at H; exact H
                           clear H
                           have H := H1
                           clear H1
                           by_cases c104 : t174 = true
                           ·subst c104
                            have H1 : ((impl_LineLoad.f kj92 t167).bind fun bt183 => ((impl_LineLoad.f kj92 t172).bind fun bt185 => (if bt183.2 = true then (if bt185.2 = true then (some ((wrap64 (bt183.1 - bt185.1)) == t173)) else (some false)) else (some false)))) = some r := by rw [if_pos rfl] at H; exact H
                            clear H
                            have H := H1
                            clear H1
                            replace H := Option.bind_eq_some_iff.mp H
                            obtain ⟨⟨t183, t184⟩, A1050, H⟩ := H
                            replace H : ((impl_LineLoad.f kj92 t172).bind fun bt185 => (if t184 = true then (if bt185.2 = true then (some ((wrap64 (t183 - bt185.1)) == t173)) else (some false)) else (some false))) = some r := H
                            have A105 := Aside0.mk A1050
                            clear A1050
                            replace H := Option.bind_eq_some_iff.mp H
                            obtain ⟨⟨t185, t186⟩, A1060, H⟩ := H
                            replace H : (if t184 = true then (if t186 = true then (some ((wrap64 (t183 - t185)) == t173)) else (some false)) else (some false)) = some r := H
                            have A106 := Aside0.mk A1060
                            clear A1060
                            by_cases c107 : t184 = true
                            ·subst c107
                             have H1 : (if t186 = true then (some ((wrap64 (t183 - t185)) == t173)) else (some false)) = some r := by rw [if_pos rfl] at H; exact H
                             clear H
                             have H := H1
                             clear H1
                             by_cases c108 : t186 = true
                             ·subst c108
                              have H1 : (some ((wrap64 (t183 - t185)) == t173)) = some r := by rw [if_pos rfl] at H; exact H
                              clear H
                              have H := H1
                              clear H1
                              as_aux_lemma =>
                               obtain rfl := Option.some.inj H
                               go_wp2_with (first | ((with_reducible refine gate_callee (f := 30) rfl ?_); refine goesL_ (some 264) rfl rfl Try.func30 (by kernel_rfl) rfl #[.slice Ao95 t167.length co95] rfl (by (try simp only [List.map_toArray, List.map_cons, List.map_nil]); first | done | rfl | (simp only [List.length_drop, List.length_take]; rfl)) ?_; (with_reducible refine (impl_LineLoad.calls kj92 _ _ t167 t183 true _ ?side1 ?side2 A105.out).mono ?_); (case side1 => repeat (first | exact (Kd.R_reads' HO_35.out).2.2 | (with_reducible refine Kd.C_alloc ?_ _) | (with_reducible refine Kd.C_drewN ?_ _) | (with_reducible refine Kd.C_drew ?_))); (case side2 => exact (Kd.R_reads' HO_35.out).2.1); rintro e w109 ⟨rfl, hb⟩; refine ⟨_, rfl, ?_⟩; have n0_ := Aside0.mk (Kd.R_below (by exact Ho.RS <| HO_35.out) hb); have n1_ := Aside0.mk (Kd.R_below (by exact Ho.RS <| HO_38.out) hb); have n2_ := Aside0.mk (blk_below (bS BK141.out) hb); have n3_ := Aside0.mk (below_step (by exact eS HB.out) hb); clear HO_35; clear HO_38; clear BK141; clear HB; have HO_35 := n0_; have HO_38 := n1_; have BK141 := n2_; have HB := n3_; clear n0_ n1_ n2_ n3_; (try clear hb); (try clear hb2); (try clear hk); (try clear hi); obtain ⟨Ao110, co110, eo110⟩ := Kd.R_slice HO_38.out; subst eo110) | ((with_reducible refine gate_callee (f := 30) rfl ?_); refine goesL_ (some 269) rfl rfl Try.func30 (by kernel_rfl) rfl #[.slice Ao110 t172.length co110] rfl (by (try simp only [List.map_toArray, List.map_cons, List.map_nil]); first | done | rfl | (simp only [List.length_drop, List.length_take]; rfl)) ?_; (with_reducible refine (impl_LineLoad.calls kj92 _ _ t172 t185 true _ ?side1 ?side2 A106.out).mono ?_); (case side1 => repeat (first | exact (Kd.R_reads' HO_38.out).2.2 | (with_reducible refine Kd.C_alloc ?_ _) | (with_reducible refine Kd.C_drewN ?_ _) | (with_reducible refine Kd.C_drew ?_))); (case side2 => exact (Kd.R_reads' HO_38.out).2.1); rintro e w111 ⟨rfl, hb⟩; refine ⟨_, rfl, ?_⟩; have n0_ := Aside0.mk (Kd.R_below (by exact Ho.RS <| HO_35.out) hb); have n1_ := Aside0.mk (Kd.R_below (by exact Ho.RS <| HO_38.out) hb); have n2_ := Aside0.mk (blk_below (bS BK141.out) hb); have n3_ := Aside0.mk (below_step (by exact eS HB.out) hb); clear HO_35; clear HO_38; clear BK141; clear HB; have HO_35 := n0_; have HO_38 := n1_; have BK141 := n2_; have HB := n3_; clear n0_ n1_ n2_ n3_; (try clear hb); (try clear hb2); (try clear hk); (try clear hi)))
                               go_ret
                               exact ⟨by first | rfl | (simp [errW_none, errW_some] <;> rfl) | (simp [*, errW_none, errW_some] <;> rfl), by exact eS HB.out⟩
                             ·replace c108 := Bool.eq_false_iff.mpr c108
                              subst c108
                              have H1 : (some false) = some r := by rw [if_neg (show ¬ (false = true) by decide)] at H; exact H
                              clear H
                              have H := H1
                              clear H1
                              as_aux_lemma =>
                               exact absurd ((Option.some.inj H).trans HT.out) (by decide)
                            ·replace c107 := Bool.eq_false_iff.mpr c107
                             subst c107
                             have H1 : (some false) = some r := by rw [if_neg (show ¬ (false = true) by decide)] at H; exact H
                             clear H
                             have H := H1
                             clear H1
                             as_aux_lemma =>
                              exact absurd ((Option.some.inj H).trans HT.out) (by decide)
                           ·replace c104 := Bool.eq_false_iff.mpr c104
                            subst c104
                            have H1 : (some true) = some r := by rw [if_neg (show ¬ (false = true) by decide)] at H; exact H
                            clear H
                            have H := H1
                            clear H1
                            as_aux_lemma =>
                             obtain rfl := Option.some.inj H
                             go_wp2
                             go_ret
                             exact ⟨by first | rfl | (simp [errW_none, errW_some] <;> rfl) | (simp [*, errW_none, errW_some] <;> rfl), by exact eS HB.out⟩

/-- THE ONE PURE STATEMENT of laws_FnWashing: yours. -/
def laws_FnWashing.Pure : Prop := ∀ (l0 : List Int), (l0.length ≤ 9223372036854775807 ∧ ∀ y_ ∈ l0, (Lit.int .u8 y_).wf = true) → ∃ k, laws_FnWashing.f k l0 = some true

end Go.Proofs.Ytdennkmfjkgfhaa.X

-- Qbase
namespace Go.Proofs.Ytdennkmfjkgfhaa.Pure
open Go Go.RowKit Go.Proofs Go.Proofs.YtdennkmfjkgfhaaW.PrintWords Go.Proofs.YtdennkmfjkgfhaaW.PrintLast
set_option linter.unusedVariables false
set_option linter.unusedSimpArgs false

theorem w64 {x : Int} (h1 : -9223372036854775808 ≤ x) (h2 : x ≤ 9223372036854775807) : wrap64 x = x := by unfold wrap64; omega
/-- a product of two numbers within bounds -/
theorem mul_bd {a b A B : Int} (ha : 0 ≤ a) (hA : a ≤ A) (hb : 0 ≤ b) (hB : b ≤ B) : 0 ≤ a * b ∧ a * b ≤ A * B :=
  ⟨Int.mul_nonneg ha hb, Int.mul_le_mul hA hB hb (Int.le_trans ha hA)⟩
theorem drop_step {α : Type} {l : List α} {i : Nat} (h : i < l.length) (d : α) : l.drop i = l.getD i d :: l.drop (i + 1) := by
  rw [List.drop_eq_getElem_cons h]; congr 1; simp [List.getD_eq_getElem?_getD, List.getElem?_eq_getElem h]
theorem wstep {i : Nat} {n : Nat} (h : i < n) (hn : n ≤ 9223372036854775807) : wrap64 ((i : Int) + 1) = ((i + 1 : Nat) : Int) := by unfold wrap64; omega
theorem nat_of {i : Int} (h : 0 ≤ i) : ∃ n : Nat, i = n := ⟨i.toNat, by omega⟩
theorem succ_of {k d : Nat} (h : d < k) : ∃ m, k = m + 1 ∧ d ≤ m := ⟨k - 1, by omega, by omega⟩

end Go.Proofs.Ytdennkmfjkgfhaa.Pure

-- Qloops
namespace Go.Proofs.Ytdennkmfjkgfhaa.Pure
open Go Go.RowKit Go.Proofs Go.Proofs.YtdennkmfjkgfhaaW.PrintWords Go.Proofs.YtdennkmfjkgfhaaW.PrintLast
set_option linter.unusedVariables false
set_option linter.unusedSimpArgs false

/-- A loop that compares a row with itself. -/
theorem refl_loop {α : Type} (L : Nat → List α → List α → Int → Option Bool) (l : List α) (hb : l.length ≤ 9223372036854775806)
    (hs : ∀ k (i : Nat), i < l.length → L (k + 1) l l i = L k l l (wrap64 ((i : Int) + 1))) (he : ∀ k (i : Nat), l.length ≤ i → L (k + 1) l l i = some true) :
    ∀ n k (i : Nat), i + n = l.length → n < k → L k l l i = some true := by
  intro n
  induction n with
  | zero =>
    intro k i hi hk
    obtain ⟨k, rfl, _⟩ := succ_of hk
    exact he k i (by omega)
  | succ n ih =>
    intro k i hi hk
    obtain ⟨k, rfl, hk⟩ := succ_of hk
    rw [hs k i (by omega), wstep (show i < l.length by omega) (by omega)]
    exact ih k (i + 1) (by omega) (by omega)
theorem rd_nat (l : List Int) (i : Nat) : rd l (i : Int) = l.getD i 0 := by simp [rd]

end Go.Proofs.Ytdennkmfjkgfhaa.Pure

-- Qcursor
namespace Go.Proofs.Ytdennkmfjkgfhaa.Pure
open Go Go.RowKit Go.Proofs Go.Proofs.Ytdennkmfjkgfhaa.X Go.Proofs.YtdennkmfjkgfhaaW.PrintWords Go.Proofs.YtdennkmfjkgfhaaW.PrintLast
set_option linter.unusedVariables false
set_option linter.unusedSimpArgs false

/-- a code that is drawn from: bytes, and not too many -/
def curOk (s : List Int) : Prop := s.length ≤ 65536 ∧ ∀ y ∈ s, 0 ≤ y ∧ y ≤ 255
theorem wf8 {x : Int} (h : (Lit.int .u8 x).wf = true) : 0 ≤ x ∧ x ≤ 255 := by
  have h1 := h
  simp [Lit.wf] at h1
  have h2 := h1.1; have h3 := h1.2
  constructor
  · exact h2
  · exact h3
theorem and255 (n : Int) : 0 ≤ wrap64 (Go.bits .and .u64 (IntKind.u64.wrap n / 1099511627776) 255) ∧ wrap64 (Go.bits .and .u64 (IntKind.u64.wrap n / 1099511627776) 255) ≤ 255 := by
  have hw : IntKind.u64.wrap n = n % 18446744073709551616 := by simp [IntKind.wrap, IntKind.bits, IntKind.signed]
  have h32 : (2 : Int) ^ 32 = 4294967296 := by decide
  have h := bits_mask .u64 32 (by decide) (fun n h0 h1 => by simp [IntKind.wrap, IntKind.bits, IntKind.signed]; omega) 8 (by decide) (IntKind.u64.wrap n / 1099511627776) (by rw [hw]; omega) (by rw [hw]; omega)
  rw [show ((2 : Int) ^ 8 - 1) = 255 by decide, show ((2 : Int) ^ 8) = 256 by decide] at h
  rw [h, w64 (by omega) (by omega)]
  omega
theorem next_ex {s : List Int} {p : Int} (h : Int) (hs : curOk s) (hp : 0 ≤ p ∧ p ≤ 1000000000) : ∃ a h', spec_l1Cur_next.f s p h = some (a, p + 1, h') ∧ 0 ≤ a ∧ a ≤ 255 := by
  have hw : wrap64 (p + 1) = p + 1 := w64 (by omega) (by omega)
  simp only [spec_l1Cur_next.f, hw]
  by_cases g : p < s.length
  · rw [if_pos g, if_pos hp.1, if_pos (by omega)]
    refine ⟨_, _, rfl, ?_⟩
    obtain ⟨n, rfl⟩ := nat_of hp.1
    have hm : s.getD n 0 ∈ s := by rw [List.getD_eq_getElem?_getD, List.getElem?_eq_getElem (by omega)]; exact List.getElem_mem (by omega)
    have := hs.2 _ hm
    rw [rd_nat, w64 (by omega) (by omega)]
    exact this
  · rw [if_neg g, if_neg (by omega)]
    exact ⟨_, _, rfl, and255 _⟩
theorem pick_ex {s : List Int} {p n : Int} (h : Int) (hs : curOk s) (hp : 0 ≤ p ∧ p ≤ 1000000) (hn : n ≤ 50000) : ∃ a p' h', spec_l1Cur_pick.f s p h n = some (a, p', h') ∧ (p ≤ p' ∧ p' ≤ p + 2) ∧ 0 ≤ a ∧ (1 ≤ n → a < n) := by
  unfold spec_l1Cur_pick.f
  by_cases g : n ≤ 1
  · rw [if_pos g]; exact ⟨_, _, _, rfl, by omega, by omega, by omega⟩
  rw [if_neg g]
  obtain ⟨a, h1, e1, b1⟩ := next_ex h hs (p := p) (by omega)
  rw [e1]
  simp only [Option.bind_some]
  by_cases g2 : n > 200
  · rw [if_pos g2]
    obtain ⟨b, h2, e2, b2⟩ := next_ex h1 hs (p := p + 1) (by omega)
    rw [e2]
    simp only [Option.bind_some]
    rw [if_neg (by omega), w64 (x := a * 256) (by omega) (by omega), w64 (x := a * 256 + b) (by omega) (by omega)]
    exact ⟨_, _, _, rfl, by omega, Int.tmod_nonneg _ (by omega), fun _ => Int.tmod_lt_of_pos _ (by omega)⟩
  · rw [if_neg g2, if_neg (by omega)]
    exact ⟨_, _, _, rfl, by omega, Int.tmod_nonneg _ (by omega), fun _ => Int.tmod_lt_of_pos _ (by omega)⟩
theorem one_ex {s : List Int} {p n : Int} (h : Int) (hs : curOk s) (hp : 0 ≤ p ∧ p ≤ 1000000) (hn : n ≤ 50000) : ∃ b p' h', spec_l1Cur_one.f s p h n = some (b, p', h') ∧ (p ≤ p' ∧ p' ≤ p + 2) := by
  obtain ⟨a, p1, h1, e1, b1, _⟩ := pick_ex h hs hp hn
  simp only [spec_l1Cur_one.f, e1, Option.bind_some]
  exact ⟨_, _, _, rfl, b1⟩
theorem among_ex {s : List Int} {p : Int} (h : Int) (xs : List Int) (hs : curOk s) (hp : 0 ≤ p ∧ p ≤ 1000000) (hx : 1 ≤ xs.length ∧ xs.length ≤ 50000) : ∃ v p' h', spec_l1Cur_among.f s p h xs = some (v, p', h') ∧ (p ≤ p' ∧ p' ≤ p + 2) ∧ v ∈ xs := by
  obtain ⟨a, p1, h1, e1, b1, b2, b3⟩ := pick_ex (n := (xs.length : Int)) h hs hp (by omega)
  have b4 := b3 (by omega)
  simp only [spec_l1Cur_among.f, e1, Option.bind_some]
  rw [if_pos b2, if_pos b4]
  refine ⟨_, _, _, rfl, b1, ?_⟩
  obtain ⟨n, rfl⟩ := nat_of b2
  rw [rd_nat, List.getD_eq_getElem?_getD, List.getElem?_eq_getElem (by omega)]
  exact List.getElem_mem (by omega)

end Go.Proofs.Ytdennkmfjkgfhaa.Pure

-- Qinrange
namespace Go.Proofs.Ytdennkmfjkgfhaa.Pure
open Go Go.RowKit Go.Proofs Go.Proofs.Ytdennkmfjkgfhaa.X Go.Proofs.YtdennkmfjkgfhaaW.PrintWords Go.Proofs.YtdennkmfjkgfhaaW.PrintLast
set_option linter.unusedVariables false
set_option linter.unusedSimpArgs false

theorem in_eq (x a b : Int) : impl_in.f x a b = some (decide (a ≤ x ∧ x ≤ b)) := by
  unfold impl_in.f
  by_cases h1 : a ≤ x <;> simp [h1]

end Go.Proofs.Ytdennkmfjkgfhaa.Pure

-- Qspecin
namespace Go.Proofs.Ytdennkmfjkgfhaa.Pure
open Go Go.RowKit Go.Proofs Go.Proofs.Ytdennkmfjkgfhaa.X Go.Proofs.YtdennkmfjkgfhaaW.PrintWords Go.Proofs.YtdennkmfjkgfhaaW.PrintLast
set_option linter.unusedVariables false
set_option linter.unusedSimpArgs false

theorem l1In_eq (x a b : Int) : spec_l1In.f x a b = some (decide (a ≤ x ∧ x ≤ b)) := by
  unfold spec_l1In.f
  by_cases h1 : a ≤ x <;> simp [h1]

end Go.Proofs.Ytdennkmfjkgfhaa.Pure

-- Qwet
namespace Go.Proofs.Ytdennkmfjkgfhaa.Pure
open Go Go.RowKit Go.Proofs Go.Proofs.Ytdennkmfjkgfhaa.X Go.Proofs.YtdennkmfjkgfhaaW.PrintWords Go.Proofs.YtdennkmfjkgfhaaW.PrintLast
set_option linter.unusedVariables false
set_option linter.unusedSimpArgs false

def wetB (i a d w p : Int) : Bool := decide (1 ≤ i ∧ i ≤ 999) && (decide (1 ≤ a ∧ a ≤ 4000) && (decide (1 ≤ d ∧ d ≤ 200000) && (decide (0 ≤ w ∧ w ≤ 2 * d) && decide (20 ≤ p ∧ p ≤ 300))))
theorem wet_of {i a d w p : Int} (h : wetB i a d w p = true) : (1 ≤ i ∧ i ≤ 999) ∧ (1 ≤ a ∧ a ≤ 4000) ∧ (1 ≤ d ∧ d ≤ 200000) ∧ (0 ≤ w ∧ w ≤ 2 * d) ∧ (20 ≤ p ∧ p ≤ 300) := by
  simpa [wetB] using h
theorem l18One_eq (i a d w p : Int) : spec_l18One.f i a d w p = some (wetB i a d w p) := by
  simp only [spec_l18One.f, l1In_eq, Option.bind_some, wetB]
  cases decide (1 ≤ i ∧ i ≤ 999)
  · rfl
  cases decide (1 ≤ a ∧ a ≤ 4000)
  · rfl
  cases h : decide (1 ≤ d ∧ d ≤ 200000)
  · rfl
  have := of_decide_eq_true h
  rw [w64 (x := 2 * d) (by omega) (by omega)]
  cases decide (0 ≤ w ∧ w ≤ 2 * d) <;> rfl
theorem IsWetCarpet_eq (i a d w p : Int) : impl_IsWetCarpet.f i a d w p = some (wetB i a d w p) := by
  simp only [impl_IsWetCarpet.f, impl_isNumber.f, in_eq, Option.bind_some, wetB]
  cases decide (1 ≤ i ∧ i ≤ 999)
  · rfl
  cases decide (1 ≤ a ∧ a ≤ 4000)
  · rfl
  cases h : decide (1 ≤ d ∧ d ≤ 200000)
  · rfl
  have := of_decide_eq_true h
  rw [w64 (x := 2 * d) (by omega) (by omega)]
  cases decide (0 ≤ w ∧ w ≤ 2 * d) <;> rfl

end Go.Proofs.Ytdennkmfjkgfhaa.Pure

-- Qshear
namespace Go.Proofs.Ytdennkmfjkgfhaa.Pure
open Go Go.RowKit Go.Proofs Go.Proofs.Ytdennkmfjkgfhaa.X Go.Proofs.YtdennkmfjkgfhaaW.PrintWords Go.Proofs.YtdennkmfjkgfhaaW.PrintLast
set_option linter.unusedVariables false
set_option linter.unusedSimpArgs false

def dryB (d w : Int) : Bool := decide (50 * w ≤ d)
theorem l18Dry_eq {d w : Int} (hw : 0 ≤ w ∧ w ≤ 400000) (i a p : Int) : spec_l18Dry.f i a d w p = some (dryB d w) := by
  unfold spec_l18Dry.f; rw [w64 (by omega) (by omega)]; rfl
theorem isDry_eq {d w : Int} (hw : 0 ≤ w ∧ w ≤ 400000) (i a p : Int) : impl_WetCarpet_isDry.f i a d w p = some (dryB d w) := by
  unfold impl_WetCarpet_isDry.f; rw [w64 (by omega) (by omega)]; rfl
theorem shorn_w {i a d w p n : Int} (h : wetB i a d w p = true) (hn : 0 ≤ n ∧ n ≤ 20) : wrap64 (d - (wrap64 ((wrap64 (a * n)) * 2))) = d - 2 * a * n ∧ wrap64 (d - (wrap64 ((wrap64 (2 * a)) * n))) = d - 2 * a * n ∧ wrap64 (p - n) = p - n := by
  have hw := wet_of h
  have h1 := mul_bd (a := a) (b := n) (A := 4000) (B := 20) (by omega) (by omega) (by omega) (by omega)
  have h2 : 2 * a * n = 2 * (a * n) := Int.mul_assoc _ _ _
  rw [w64 (x := a * n) (by omega) (by omega), w64 (x := 2 * a) (by omega) (by omega), h2, w64 (x := 2 * (a * n)) (by omega) (by omega), w64 (x := a * n * 2) (by omega) (by omega), w64 (x := p - n) (by omega) (by omega), Int.mul_comm (a * n) 2, w64 (by omega) (by omega)]
  exact ⟨rfl, rfl, rfl⟩
theorem shorn_eq {i a d w p n : Int} (h : wetB i a d w p = true) (hd : dryB d w = true) (hn : 0 ≤ n ∧ n ≤ 20) : spec_l18Shorn.f i a d w p n = some (i, a, d - 2 * a * n, w, p - n, wetB i a (d - 2 * a * n) w (p - n)) := by
  have hw := wet_of h
  obtain ⟨h1, h2, h3⟩ := shorn_w h hn
  unfold spec_l18Shorn.f
  rw [l18Dry_eq (by omega), hd, h1, h3, l18One_eq]
  rfl
theorem sheared_eq {i a d w p n : Int} (h : wetB i a d w p = true) (hn : 0 ≤ n ∧ n ≤ 20) : impl_WetCarpet_sheared.f i a d w p n = some (i, a, d - 2 * a * n, w, p - n) := by
  obtain ⟨h1, h2, h3⟩ := shorn_w h hn
  unfold impl_WetCarpet_sheared.f
  rw [h2, h3]
end Go.Proofs.Ytdennkmfjkgfhaa.Pure

-- Qhours
namespace Go.Proofs.Ytdennkmfjkgfhaa.Pure
open Go Go.RowKit Go.Proofs Go.Proofs.Ytdennkmfjkgfhaa.X Go.Proofs.YtdennkmfjkgfhaaW.PrintWords Go.Proofs.YtdennkmfjkgfhaaW.PrintLast
set_option linter.unusedVariables false
set_option linter.unusedSimpArgs false

def posI (x : Int) : Int := if x < 0 then 0 else x
theorem most0_eq (x : Int) : spec_l1Most.f 0 x = some (posI x) := by
  unfold spec_l1Most.f posI
  (repeat' split) <;> simp <;> omega
theorem mx0_eq (x : Int) : mx 0 x = posI x := by
  unfold mx posI
  (repeat' split) <;> omega
theorem posI_bd {x B : Int} (h : x ≤ B) (hB : 0 ≤ B) : 0 ≤ posI x ∧ posI x ≤ B := by unfold posI; split <;> omega
/-- what dries in an hour -/
def hourlyM (a g : Int) : Int := a * g / 10
theorem hourly_w {a g : Int} (ha : 1 ≤ a ∧ a ≤ 4000) (hg : 5 ≤ g ∧ g ≤ 40) : wrap64 (Int.tdiv (wrap64 (a * g)) 10) = hourlyM a g ∧ 0 ≤ hourlyM a g ∧ hourlyM a g ≤ 16000 := by
  have h1 := mul_bd (a := a) (b := g) (A := 4000) (B := 40) (by omega) (by omega) (by omega) (by omega)
  unfold hourlyM
  rw [w64 (x := a * g) (by omega) (by omega), Int.tdiv_eq_ediv_of_nonneg (by omega), w64 (by omega) (by omega)]
  exact ⟨rfl, by omega, by omega⟩
theorem l18Hour_eq {i a d w p g : Int} (ha : 1 ≤ a ∧ a ≤ 4000) (hg : 5 ≤ g ∧ g ≤ 40) (hw : 0 ≤ w ∧ w ≤ 400000) : spec_l18Hour.f i a d w p g = some (i, a, d, posI (w - hourlyM a g), p) := by
  obtain ⟨h1, h2, h3⟩ := hourly_w ha hg
  unfold spec_l18Hour.f
  rw [h1, w64 (x := w - hourlyM a g) (by omega) (by omega), most0_eq]
  rfl
theorem hourly_eq {i a d w p g : Int} (ha : 1 ≤ a ∧ a ≤ 4000) (hg : 5 ≤ g ∧ g ≤ 40) : impl_WetCarpet_hourly.f i a d w p g = some (hourlyM a g) := by
  obtain ⟨h1, h2, h3⟩ := hourly_w ha hg
  unfold impl_WetCarpet_hourly.f
  rw [h1]
def hoursF (h d : Int) : Nat → Int → Int → Int × Bool
  | 0, _, _ => (0, false)
  | n + 1, c, w => if dryB d w = true then (c, true) else hoursF h d n (c + 1) (posI (w - h))
def degreesB (g : Int) : Bool := decide (5 ≤ g ∧ g ≤ 40)
def hoursM (i a d w p g : Int) : Int × Bool := if wetB i a d w p && degreesB g then hoursF (hourlyM a g) d 1001 0 w else (0, false)
theorem l18Degrees_eq (g : Int) : spec_l18Degrees.f g = some (degreesB g) := by simp only [spec_l18Degrees.f, l1In_eq, Option.bind_some, degreesB]
theorem isDegrees_eq (g : Int) : impl_isDegrees.f g = some (degreesB g) := by simp only [impl_isDegrees.f, in_eq, Option.bind_some, degreesB]
theorem hoursS_eq {k : Nat} (hk : 1010 < k) (i a d w p g : Int) : spec_HoursFor.f k i a d w p g = some (hoursM i a d w p g) := by
  obtain ⟨k, rfl, hk2⟩ := succ_of hk
  simp only [spec_HoursFor.f, l18One_eq, l18Degrees_eq, Option.bind_some, hoursM]
  cases hw : wetB i a d w p
  · simp [spec_HoursFor.j0]
  cases hg : degreesB g
  · simp [spec_HoursFor.j0]
  have hw' := wet_of hw; have hg' := of_decide_eq_true hg
  simp only [if_true, spec_HoursFor.j0, Bool.not_true, Bool.false_eq_true, if_false, Bool.and_self]
  have hx : ∀ (n : Nat) k (c w : Int), n < k → c + n = 1001 → 0 ≤ c → 0 ≤ w ∧ w ≤ 400000 → spec_HoursFor.l0 k g c i a d w p = some (hoursF (hourlyM a g) d n c w) := by
    intro n
    induction n with
    | zero =>
      intro k c w hk hc h0 hw
      obtain ⟨k, rfl, _⟩ := succ_of hk
      simp only [spec_HoursFor.l0, hoursF]; rw [if_neg (by omega)]
    | succ n ih =>
      intro k c w hk hc h0 hw
      obtain ⟨k, rfl, hk⟩ := succ_of hk
      obtain ⟨e1, e2, e3⟩ := hourly_w (a := a) (g := g) (by omega) (by omega)
      simp only [spec_HoursFor.l0, hoursF]
      rw [if_pos (by omega), l18Dry_eq hw, l18Hour_eq (by omega) (by omega) hw]
      simp only [Option.bind_some]
      cases dryB d w
      · simp only [Bool.false_eq_true, if_false]
        rw [w64 (by omega) (by omega)]
        exact ih k (c + 1) _ (by omega) (by omega) (by omega) (posI_bd (by omega) (by omega))
      · simp
  exact hx 1001 k 0 w (by omega) (by omega) (by omega) (by omega)
theorem hoursI_eq {k : Nat} (hk : 1010 < k) (i a d w p g : Int) : impl_HoursFor.f k i a d w p g = some (hoursM i a d w p g) := by
  obtain ⟨k, rfl, hk2⟩ := succ_of hk
  simp only [impl_HoursFor.f, IsWetCarpet_eq, isDegrees_eq, Option.bind_some, hoursM]
  cases hw : wetB i a d w p
  · simp [impl_HoursFor.j0]
  cases hg : degreesB g
  · simp [impl_HoursFor.j0]
  have hw' := wet_of hw; have hg' := of_decide_eq_true hg
  simp only [if_true, impl_HoursFor.j0, Bool.not_true, Bool.false_eq_true, if_false, Bool.and_self]
  have hx : ∀ (n : Nat) k (c w : Int), n < k → c + n = 1000 → 0 ≤ c → 0 ≤ w ∧ w ≤ 400000 → impl_HoursFor.l0 k g c i a d w p = some (hoursF (hourlyM a g) d (n + 1) c w) := by
    intro n
    induction n with
    | zero =>
      intro k c w hk hc h0 hw
      obtain ⟨k, rfl, _⟩ := succ_of hk
      simp only [impl_HoursFor.l0, hoursF]
      rw [isDry_eq hw]
      simp only [Option.bind_some]
      rw [if_pos (show c = 1000 by omega)]
      cases dryB d w <;> rfl
    | succ n ih =>
      intro k c w hk hc h0 hw
      obtain ⟨k, rfl, hk⟩ := succ_of hk
      obtain ⟨e1, e2, e3⟩ := hourly_w (a := a) (g := g) (by omega) (by omega)
      rw [hoursF]
      simp only [impl_HoursFor.l0]
      rw [isDry_eq hw, hourly_eq (by omega) (by omega)]
      simp only [Option.bind_some]
      cases dryB d w
      · simp only [Bool.false_eq_true, if_false]
        rw [if_neg (by omega), w64 (x := c + 1) (by omega) (by omega), w64 (x := w - hourlyM a g) (by omega) (by omega), mx0_eq]
        exact ih k (c + 1) _ (by omega) (by omega) (by omega) (posI_bd (by omega) (by omega))
      · simp
  exact hx 1000 k 0 w (by omega) (by omega) (by omega) (by omega)

end Go.Proofs.Ytdennkmfjkgfhaa.Pure

-- Qwetlist
namespace Go.Proofs.Ytdennkmfjkgfhaa.Pure
open Go Go.RowKit Go.Proofs Go.Proofs.Ytdennkmfjkgfhaa.X Go.Proofs.YtdennkmfjkgfhaaW.PrintWords Go.Proofs.YtdennkmfjkgfhaaW.PrintLast
set_option linter.unusedVariables false
set_option linter.unusedSimpArgs false

theorem rdIW_nat (l : List S25) (i : Nat) : rd_T25 l (i : Int) = l.getD i z25 := by simp [rd_T25]
end Go.Proofs.Ytdennkmfjkgfhaa.Pure

-- Qidxall
namespace Go.Proofs.Ytdennkmfjkgfhaa.Pure
open Go Go.RowKit Go.Proofs Go.Proofs.YtdennkmfjkgfhaaW.PrintWords Go.Proofs.YtdennkmfjkgfhaaW.PrintLast
set_option linter.unusedVariables false
set_option linter.unusedSimpArgs false

/-- q at all numbers from i on, n of them -/
def allR (q : Nat → Bool) (i n : Nat) : Bool := (List.range' i n).all q
theorem allR_iff {q : Nat → Bool} {i n : Nat} : allR q i n = true ↔ ∀ j, i ≤ j → j < i + n → q j = true := by
  unfold allR
  rw [List.all_eq_true]
  exact ⟨fun h j h1 h2 => h j (List.mem_range'_1.mpr ⟨h1, h2⟩), fun h j hj => h j (List.mem_range'_1.mp hj).1 (List.mem_range'_1.mp hj).2⟩
theorem allR_succ (q : Nat → Bool) (i n : Nat) : allR q i (n + 1) = (q i && allR q (i + 1) n) := by
  unfold allR; rw [List.range'_succ, List.all_cons]
/-- A loop that asks of all numbers, from i on. -/
theorem idx_loop (L : Nat → Int → Option Bool) (q : Nat → Bool) (i0 n0 : Nat) (e : Bool) (hb : n0 ≤ 9223372036854775806)
    (hs : ∀ k (i : Nat), i0 ≤ i → i < n0 → L (k + 1) i = if q i = true then L k (wrap64 ((i : Int) + 1)) else some false) (he : ∀ k (i : Nat), n0 ≤ i → L (k + 1) i = some e) :
    ∀ n k (i : Nat), i0 ≤ i → i + n = n0 → n < k → L k i = some (allR q i n && e) := by
  intro n
  induction n with
  | zero =>
    intro k i h0 hi hk
    obtain ⟨k, rfl, _⟩ := succ_of hk
    rw [he k i (by omega)]; simp [allR]
  | succ n ih =>
    intro k i h0 hi hk
    obtain ⟨k, rfl, hk⟩ := succ_of hk
    rw [hs k i h0 (by omega), wstep (show i < n0 by omega) (by omega), allR_succ, ih k (i + 1) (by omega) (by omega) (by omega)]
    cases q i <;> simp
theorem all_getD {α : Type} {p : α → Bool} {l : List α} (d : α) : l.all p = true ↔ ∀ j, j < l.length → p (l.getD j d) = true := by
  rw [List.all_eq_true]
  constructor
  · intro h j hj
    rw [List.getD_eq_getElem?_getD, List.getElem?_eq_getElem hj]
    exact h _ (List.getElem_mem hj)
  · intro h x hx
    obtain ⟨j, hj, rfl⟩ := List.mem_iff_getElem.mp hx
    have := h j hj
    rwa [List.getD_eq_getElem?_getD, List.getElem?_eq_getElem hj] at this
/-- A loop that adds up. -/
theorem sum_loop {α β : Type} (L : Nat → Int → Int → Option β) (v : α → Int) (r : Int → Option β) (d : α) (B : Int) (l : List α) (hb : l.length ≤ 9223372036854775806) (hv : ∀ x ∈ l, 0 ≤ v x ∧ v x ≤ B)
    (hs : ∀ k (acc : Int) (i : Nat), i < l.length → 0 ≤ acc → acc ≤ B * i → L (k + 1) acc i = L k (acc + v (l.getD i d)) (wrap64 ((i : Int) + 1)))
    (he : ∀ k (acc : Int) (i : Nat), l.length ≤ i → L (k + 1) acc i = r acc) :
    ∀ n k (acc : Int) (i : Nat), i + n = l.length → n < k → 0 ≤ acc → acc ≤ B * i → L k acc i = r (acc + ((l.drop i).map v).sum) := by
  intro n
  induction n with
  | zero =>
    intro k acc i hi hk h0 h1
    obtain ⟨k, rfl, _⟩ := succ_of hk
    rw [he k acc i (by omega), List.drop_eq_nil_of_le (by omega)]; simp
  | succ n ih =>
    intro k acc i hi hk h0 h1
    obtain ⟨k, rfl, hk⟩ := succ_of hk
    have hlt : i < l.length := by omega
    have hm : l.getD i d ∈ l := by rw [List.getD_eq_getElem?_getD, List.getElem?_eq_getElem hlt]; exact List.getElem_mem hlt
    have := hv _ hm
    rw [hs k acc i hlt h0 h1, wstep hlt (by omega), drop_step hlt d, List.map_cons, List.sum_cons]
    have hB : B * ((i + 1 : Nat) : Int) = B * i + B := by push_cast; rw [Int.mul_add, Int.mul_one]
    rw [ih k _ (i + 1) (by omega) (by omega) (by omega) (by omega), Int.add_assoc]
end Go.Proofs.Ytdennkmfjkgfhaa.Pure

-- Qwets
namespace Go.Proofs.Ytdennkmfjkgfhaa.Pure
open Go Go.RowKit Go.Proofs Go.Proofs.Ytdennkmfjkgfhaa.X Go.Proofs.YtdennkmfjkgfhaaW.PrintWords Go.Proofs.YtdennkmfjkgfhaaW.PrintLast
set_option linter.unusedVariables false
set_option linter.unusedSimpArgs false

def wetS (x : S25) : Bool := wetB x.f0 x.f1 x.f2 x.f3 x.f4
/-- the one before has the lower number -/
def ascW (l : List S25) (j : Nat) : Bool := decide ((l.getD (j - 1) z25).f0 < (l.getD j z25).f0)
def wetsB (l : List S25) : Bool := decide (l.length ≤ 10) && (l.all wetS && allR (ascW l) 1 (l.length - 1))
theorem rdW_nat (l : List S25) (i : Nat) : rd_T25 l (i : Int) = l.getD i z25 := by simp [rd_T25]
theorem goodW_eq {k : Nat} {l : List S25} (hk : l.length < k) (hl : l.length ≤ 1073741824) : spec_l18Good.f k l = some (wetsB l) := by
  unfold spec_l18Good.f
  have h := idx_loop (fun k i => spec_l18Good.l0 k l i) (fun j => wetS (l.getD j z25) && (decide (j = 0) || ascW l j)) 0 l.length (decide ((l.length : Int) ≤ 10)) (by omega)
    (fun k i _ h1 => by
      simp only [spec_l18Good.l0]
      rw [if_pos (by omega), if_pos (by omega), l18One_eq, rdW_nat]
      simp only [Option.bind_some]
      show (if wetS (l.getD i z25) = true then _ else _) = _
      cases wetS (l.getD i z25)
      · simp
      by_cases hi : i = 0
      · subst hi; simp
      · rw [if_pos rfl, if_pos (by omega), w64 (x := (i : Int) - 1) (by omega) (by omega), if_pos (by omega), if_pos (by omega), show (i : Int) - 1 = ((i - 1 : Nat) : Int) by omega, rdW_nat]
        by_cases hc : (l.getD (i - 1) z25).f0 < (l.getD i z25).f0
        · rw [if_neg (by omega)]; simp only [ascW, hc, decide_true, Bool.or_true, Bool.and_self, if_true]
        · rw [if_pos (by omega)]; simp only [ascW, hc, decide_false, Bool.or_false, hi, Bool.and_false, Bool.false_eq_true, if_false])
    (fun k i h1 => by simp only [spec_l18Good.l0]; rw [if_neg (by omega)])
    l.length k 0 (by omega) (by omega) hk
  refine h.trans (congrArg some ?_)
  unfold wetsB
  have e1 : decide ((l.length : Int) ≤ 10) = decide (l.length ≤ 10) := by
    congr 1; exact propext ⟨fun h => by omega, fun h => by omega⟩
  rw [e1, Bool.and_comm]
  congr 1
  rw [Bool.eq_iff_iff, Bool.and_eq_true, allR_iff, allR_iff, all_getD z25]
  constructor
  · intro h
    refine ⟨fun j hj => ?_, fun j h1 h2 => ?_⟩
    · have := h j (by omega) (by omega)
      rw [Bool.and_eq_true] at this; exact this.1
    · have := h j (by omega) (by omega)
      rw [Bool.and_eq_true, Bool.or_eq_true] at this
      rcases this.2 with h3 | h3
      · have := of_decide_eq_true h3; omega
      · exact h3
  · intro h j h1 h2
    rw [Bool.and_eq_true, Bool.or_eq_true]
    refine ⟨h.1 j (by omega), ?_⟩
    by_cases hj : j = 0
    · exact .inl (by simp [hj])
    · exact .inr (h.2 j (by omega) (by omega))
theorem AreWetCarpets_eq {k : Nat} {l : List S25} (hk : l.length < k) (hl : l.length ≤ 1073741824) : impl_AreWetCarpets.f k l = some (wetsB l) := by
  unfold impl_AreWetCarpets.f
  by_cases h10 : (10 : Int) < l.length
  · rw [if_neg (by omega)]; unfold wetsB; simp [show ¬ l.length ≤ 10 by omega]
  rw [if_pos (by omega)]
  simp only [impl_WetCarpet__impl_IsWetCarpet.f]
  rw [Ho.allO_eq (q := wetS) (fun x _ => IsWetCarpet_eq _ _ _ _ _)]
  simp only [Option.bind_some]
  unfold wetsB
  rw [show decide (l.length ≤ 10) = true by simp; omega]
  cases hall : l.all wetS
  · simp
  simp only [if_true, Bool.true_and]
  by_cases h0 : l.length = 0
  · obtain ⟨k, rfl, _⟩ := succ_of hk
    simp only [impl_WetCarpet__impl_AreWetCarpets_1.f, impl_WetCarpet__impl_AreWetCarpets_1.l0]
    rw [if_neg (by omega), h0]; simp [allR]
  have h := idx_loop (fun k i => impl_WetCarpet__impl_AreWetCarpets_1.l0 k l i) (ascW l) 1 l.length true (by omega)
    (fun k i h0 h1 => by
      simp only [impl_WetCarpet__impl_AreWetCarpets_1.l0, impl_AreWetCarpets_1.f, Option.bind_some]
      rw [if_pos (by omega), w64 (x := (i : Int) - 1) (by omega) (by omega), if_pos (by omega), if_pos (by omega), show (i : Int) - 1 = ((i - 1 : Nat) : Int) by omega, rdW_nat, rdW_nat, if_pos (by omega)]
      by_cases hc : (l.getD (i - 1) z25).f0 < (l.getD i z25).f0
      · rw [if_neg (by omega)]; simp only [ascW, hc, decide_true, if_true]
      · rw [if_pos (by omega)]; simp only [ascW, hc, decide_false, Bool.false_eq_true, if_false])
    (fun k i h1 => by simp only [impl_WetCarpet__impl_AreWetCarpets_1.l0]; rw [if_neg (by omega)])
    (l.length - 1) k 1 (by omega) (by omega) (by omega)
  unfold impl_WetCarpet__impl_AreWetCarpets_1.f
  rw [show ((1 : Nat) : Int) = 1 from rfl] at h
  rw [h]; simp
theorem wets_of {l : List S25} (h : wetsB l = true) : l.length ≤ 10 ∧ ∀ x ∈ l, wetS x = true := by
  simp only [wetsB, Bool.and_eq_true, decide_eq_true_eq, List.all_eq_true] at h
  exact ⟨h.1, h.2.1⟩

end Go.Proofs.Ytdennkmfjkgfhaa.Pure

-- Qdry
namespace Go.Proofs.Ytdennkmfjkgfhaa.Pure
open Go Go.RowKit Go.Proofs Go.Proofs.Ytdennkmfjkgfhaa.X Go.Proofs.YtdennkmfjkgfhaaW.PrintWords Go.Proofs.YtdennkmfjkgfhaaW.PrintLast
set_option linter.unusedVariables false
set_option linter.unusedSimpArgs false

theorem posI_nn {x : Int} (h : 0 ≤ x) : posI x = x := by unfold posI; split <;> omega
theorem posI_sub {a m : Int} (h : 0 ≤ m) : posI (posI a - m) = posI (a - m) := by unfold posI; (repeat' split) <;> omega
/-- a carpet after some hours -/
def dryX (g H : Int) (x : S25) : S25 := ⟨x.f0, x.f1, x.f2, posI (x.f3 - H * hourlyM x.f1 g), x.f4⟩
def dryIds (l : List S25) : List Int := (l.filter fun x => dryB x.f2 x.f3).map fun x => x.f0
def dryM (l : List S25) (g H : Int) : List S25 × List Int × Bool :=
  if wetsB l && (degreesB g && decide (0 ≤ H ∧ H ≤ 100)) then (l.map (dryX g H), dryIds (l.map (dryX g H)), true) else ([], [], false)
theorem dryIds_cons (x : S25) (l : List S25) : dryIds (x :: l) = if dryB x.f2 x.f3 = true then x.f0 :: dryIds l else dryIds l := by
  unfold dryIds; rw [List.filter_cons]; split <;> simp
theorem hours_w {a g H : Int} (ha : 1 ≤ a ∧ a ≤ 4000) (hg : 5 ≤ g ∧ g ≤ 40) (hH : 0 ≤ H ∧ H ≤ 100) : 0 ≤ H * hourlyM a g ∧ H * hourlyM a g ≤ 1600000 := by
  obtain ⟨_, h2, h3⟩ := hourly_w ha hg
  have := mul_bd (a := H) (b := hourlyM a g) (A := 100) (B := 16000) hH.1 hH.2 h2 h3
  omega
theorem dryI_eq {k : Nat} {l : List S25} (hk : l.length + 1 < k) (hl : l.length ≤ 1073741824) (g H : Int) : impl_DryCarpets.f k l g H = some (dryM l g H) := by
  obtain ⟨k, rfl, hk2⟩ := succ_of hk
  simp only [impl_DryCarpets.f, impl_DryCarpets.j0, Option.bind_some, AreWetCarpets_eq (k := k + 1) (l := l) (by omega) hl, isDegrees_eq, in_eq, dryM]
  cases hw : wetsB l
  · simp
  cases hg : degreesB g
  · simp
  cases hH : decide (0 ≤ H ∧ H ≤ 100)
  · simp
  have hg := of_decide_eq_true hg; have hH := of_decide_eq_true hH; have h10 := wets_of hw
  simp only [if_true, Bool.not_true, Bool.false_eq_true, if_false, Bool.and_self, impl_WetCarpet_77.f, List.length_nil, Nat.zero_add, List.nil_append, Option.bind_some]
  rw [if_pos (by omega)]
  simp only [Option.bind_some]
  have outer : ∀ (n k i : Nat) (dry : List Int), i + n = l.length → n < k → dry.length ≤ i →
      impl_DryCarpets.l0 k g H ((l.take i).map (dryX g H) ++ l.drop i) dry l (l.length : Int) (i : Int) = some (l.map (dryX g H), dry ++ dryIds ((l.drop i).map (dryX g H)), true) := by
    intro n
    induction n with
    | zero =>
      intro k i dry hi hk hd
      obtain ⟨k, rfl, _⟩ := succ_of hk
      rw [impl_DryCarpets.l0]
      rw [if_neg (by omega), List.drop_eq_nil_of_le (by omega), List.take_of_length_le (by omega)]
      simp [dryIds]
    | succ n ih =>
      intro k i dry hi hk hd
      obtain ⟨k, rfl, hk⟩ := succ_of hk
      have hlt : i < l.length := by omega
      have hm : l.getD i z25 ∈ l := by rw [List.getD_eq_getElem?_getD, List.getElem?_eq_getElem hlt]; exact List.getElem_mem hlt
      have hx := wet_of (h10.2 _ hm)
      have hlen : ((l.take i).map (dryX g H)).length = i := by rw [List.length_map, List.length_take]; omega
      have e1 : ((l.take i).map (dryX g H) ++ l.drop i).getD i z25 = l.getD i z25 := by
        rw [List.getD_eq_getElem?_getD, List.getElem?_append_right (by omega), hlen, Nat.sub_self, List.getElem?_drop, Nat.add_zero, ← List.getD_eq_getElem?_getD]
      have e2 : ((l.take i).map (dryX g H) ++ l.drop i).length = l.length := by rw [List.length_append, hlen, List.length_drop]; omega
      have e3 : ∀ v, ((l.take i).map (dryX g H) ++ l.drop i).set i v = (l.take i).map (dryX g H) ++ v :: l.drop (i + 1) := by
        intro v
        rw [List.set_append_right _ _ (by omega), hlen, Nat.sub_self, drop_step hlt z25]; rfl
      have e4 : (l.take (i + 1)).map (dryX g H) ++ l.drop (i + 1) = (l.take i).map (dryX g H) ++ dryX g H (l.getD i z25) :: l.drop (i + 1) := by
        rw [List.take_succ_eq_append_getElem hlt, List.map_append, List.append_assoc]
        simp [List.getD_eq_getElem?_getD, List.getElem?_eq_getElem hlt]
      have hh := hours_w (a := (l.getD i z25).f1) (g := g) (H := H) (by omega) hg hH
      have hp := posI_bd (x := (l.getD i z25).f3 - H * hourlyM (l.getD i z25).f1 g) (B := 400000) (by omega) (by omega)
      rw [impl_DryCarpets.l0]
      simp only [rdIW_nat, e1, e2, Int.toNat_natCast]
      rw [if_pos (by omega), if_pos (by omega), if_pos (by omega), hourly_eq (by omega) hg]
      simp only [Option.bind_some]
      rw [if_pos (by omega), w64 (x := H * _) (by omega) (by omega), w64 (x := _ - H * _) (by omega) (by omega), mx0_eq, isDry_eq hp]
      simp only [Option.bind_some]
      have e : (⟨(l.getD i z25).f0, (l.getD i z25).f1, (l.getD i z25).f2, posI ((l.getD i z25).f3 - H * hourlyM (l.getD i z25).f1 g), (l.getD i z25).f4⟩ : S25) = dryX g H (l.getD i z25) := rfl
      rw [e, e3, ← e4, wstep hlt (by omega), drop_step hlt z25, List.map_cons, dryIds_cons]
      show (if dryB (dryX g H (l.getD i z25)).f2 (dryX g H (l.getD i z25)).f3 = true then _ else _) = _
      cases hd' : dryB (dryX g H (l.getD i z25)).f2 (dryX g H (l.getD i z25)).f3
      · simp only [Bool.false_eq_true, if_false]
        exact ih k (i + 1) dry (by omega) (by omega) (by omega)
      · simp only [if_true]
        rw [if_pos (by omega), ih k (i + 1) _ (by omega) (by omega) (by simp; omega), List.append_assoc]; rfl
  have := outer l.length k 0 [] (by omega) (by omega) (by simp)
  simpa using this

end Go.Proofs.Ytdennkmfjkgfhaa.Pure

-- Qload
namespace Go.Proofs.Ytdennkmfjkgfhaa.Pure
open Go Go.RowKit Go.Proofs Go.Proofs.Ytdennkmfjkgfhaa.X Go.Proofs.YtdennkmfjkgfhaaW.PrintWords Go.Proofs.YtdennkmfjkgfhaaW.PrintLast
set_option linter.unusedVariables false
set_option linter.unusedSimpArgs false

def weighS (x : S25) : Int := x.f2 + x.f3
def loadM (l : List S25) : Int × Bool := if wetsB l then ((l.map weighS).sum, true) else (0, false)
theorem weigh_bd {l : List S25} (h : wetsB l = true) : ∀ x ∈ l, (0 ≤ weighS x ∧ weighS x ≤ 600000) := by
  intro x hx
  have := wet_of ((wets_of h).2 x hx)
  unfold weighS; omega
theorem loadI_eq {k : Nat} {l : List S25} (hk : l.length < k) (hl : l.length ≤ 1073741824) : impl_LineLoad.f k l = some (loadM l) := by
  simp only [impl_LineLoad.f, AreWetCarpets_eq hk hl, Option.bind_some, loadM]
  cases h : wetsB l
  · simp
  have hb := weigh_bd h; have h10 := wets_of h
  simp only [if_true]
  have := sum_loop (fun k a i => impl_LineLoad.l0 k a l (l.length : Int) i) weighS (fun a => some (a, true)) z25 600000 l (by omega) hb
    (fun k acc i h1 h2 h3 => by
      simp only [impl_LineLoad.l0, rdIW_nat]
      have hm : l.getD i z25 ∈ l := by rw [List.getD_eq_getElem?_getD, List.getElem?_eq_getElem h1]; exact List.getElem_mem h1
      have hw := wet_of (h10.2 _ hm)
      rw [if_pos (by omega), if_pos (by omega), if_pos (by omega), w64 (x := (l.getD i z25).f2 + _) (by omega) (by omega), w64 (x := acc + _) (by omega) (by omega)]
      rfl)
    (fun k acc i h1 => by simp only [impl_LineLoad.l0]; rw [if_neg (by omega)])
    l.length k 0 0 (by omega) hk (by omega) (by omega)
  simpa using this

end Go.Proofs.Ytdennkmfjkgfhaa.Pure

-- Qpicks
namespace Go.Proofs.Ytdennkmfjkgfhaa.Pure
open Go Go.RowKit Go.Proofs Go.Proofs.YtdennkmfjkgfhaaW.PrintWords Go.Proofs.YtdennkmfjkgfhaaW.PrintLast
set_option linter.unusedVariables false
set_option linter.unusedSimpArgs false

/-- A loop that looks for an element. -/
theorem any_loop {α : Type} (L : Nat → Int → Option Bool) (q : α → Bool) (d : α) (l : List α) (hb : l.length ≤ 9223372036854775806)
    (hs : ∀ k (i : Nat), i < l.length → L (k + 1) i = if q (l.getD i d) = true then some true else L k (wrap64 ((i : Int) + 1))) (he : ∀ k (i : Nat), l.length ≤ i → L (k + 1) i = some false) :
    ∀ n k (i : Nat), i + n = l.length → n < k → L k i = some ((l.drop i).any q) := by
  intro n
  induction n with
  | zero =>
    intro k i hi hk
    obtain ⟨k, rfl, _⟩ := succ_of hk
    rw [he k i (by omega), List.drop_eq_nil_of_le (by omega)]; rfl
  | succ n ih =>
    intro k i hi hk
    obtain ⟨k, rfl, hk⟩ := succ_of hk
    rw [hs k i (by omega), wstep (show i < l.length by omega) (by omega), drop_step (by omega) d, List.any_cons, ih k (i + 1) (by omega) (by omega)]
    cases q (l.getD i d) <;> simp

end Go.Proofs.Ytdennkmfjkgfhaa.Pure

-- Qrhas
namespace Go.Proofs.Ytdennkmfjkgfhaa.Pure
open Go Go.RowKit Go.Proofs Go.Proofs.Ytdennkmfjkgfhaa.X Go.Proofs.YtdennkmfjkgfhaaW.PrintWords Go.Proofs.YtdennkmfjkgfhaaW.PrintLast
set_option linter.unusedVariables false
set_option linter.unusedSimpArgs false

theorem rHas_eq {k : Nat} {t : List Int} (hk : t.length < k) (hl : t.length ≤ 1048576) (v : Int) : laws_rHas.f k t v = some (t.any fun y => decide (y = v)) := by
  unfold laws_rHas.f
  have := any_loop (fun k i => laws_rHas.l0 k t v i) (fun y => decide (y = v)) 0 t (by omega)
    (fun k i h => by
      simp only [laws_rHas.l0]
      rw [if_pos (by omega), if_pos (by omega), rd_nat]
      by_cases g : t.getD i 0 = v
      · rw [if_pos g, if_pos (decide_eq_true g)]
      · rw [if_neg g, if_neg (by simpa using g)])
    (fun k i h => by simp only [laws_rHas.l0]; rw [if_neg (by omega)])
    t.length k 0 (by omega) hk
  simpa using this

end Go.Proofs.Ytdennkmfjkgfhaa.Pure

-- Qsomecur
namespace Go.Proofs.Ytdennkmfjkgfhaa.Pure
open Go Go.RowKit Go.Proofs Go.Proofs.Ytdennkmfjkgfhaa.X Go.Proofs.YtdennkmfjkgfhaaW.PrintWords Go.Proofs.YtdennkmfjkgfhaaW.PrintLast
set_option linter.unusedVariables false
set_option linter.unusedSimpArgs false

theorem tdiv11 {t : Int} (h : 0 ≤ t ∧ t < 24) : wrap64 (Int.tdiv t 11) = t / 11 := by
  rw [Int.tdiv_eq_ediv_of_nonneg h.1]; exact w64 (by omega) (by omega)
/-- an element of the front of a list, how much of it is drawn -/
theorem some_ex {s : List Int} {p b : Int} (h : Int) (xs : List Int) (hs : curOk s) (hp : 0 ≤ p ∧ p ≤ 900000) (hb : 1 ≤ b ∧ b + 2 ≤ xs.length) (hx : xs.length ≤ 1000) : ∃ t p1 h1 v p2 h2, spec_l1Cur_pick.f s p h 24 = some (t, p1, h1) ∧ 0 ≤ wrap64 (b + wrap64 (Int.tdiv t 11)) ∧ wrap64 (b + wrap64 (Int.tdiv t 11)) ≤ (xs.length : Int) ∧ spec_l1Cur_among.f s p1 h1 (xs.take (wrap64 (b + wrap64 (Int.tdiv t 11))).toNat) = some (v, p2, h2) ∧ p ≤ p2 ∧ p2 ≤ p + 4 := by
  obtain ⟨t, p1, h1, e1, b1, b2, b3⟩ := pick_ex h hs (p := p) (n := 24) (by omega) (by omega)
  have b4 := b3 (by omega)
  have ht := tdiv11 (t := t) (by omega)
  have hw : wrap64 (b + wrap64 (Int.tdiv t 11)) = b + t / 11 := by rw [ht]; exact w64 (by omega) (by omega)
  have hl : (xs.take (b + t / 11).toNat).length = (b + t / 11).toNat := by rw [List.length_take]; omega
  obtain ⟨v, p2, h2, e2, b5, _⟩ := among_ex h1 (xs.take (b + t / 11).toNat) hs (p := p1) (by omega) (by omega)
  exact ⟨t, p1, h1, v, p2, h2, e1, by omega, by omega, by rw [hw]; exact e2, by omega, by omega⟩

end Go.Proofs.Ytdennkmfjkgfhaa.Pure

-- Qfindw
namespace Go.Proofs.Ytdennkmfjkgfhaa.Pure
open Go Go.RowKit Go.Proofs Go.Proofs.Ytdennkmfjkgfhaa.X Go.Proofs.YtdennkmfjkgfhaaW.PrintWords Go.Proofs.YtdennkmfjkgfhaaW.PrintLast
set_option linter.unusedVariables false
set_option linter.unusedSimpArgs false

def findW (l : List S25) (n : Int) : Int := if wetsB l then (match l.findIdx? (fun x => x.f0 == n) with | some j => (j : Int) | none => -1) else -1
theorem findW_of {l : List S25} {n : Int} (h : 0 ≤ findW l n) : ∃ j : Nat, findW l n = j ∧ j < l.length ∧ (l.getD j z25).f0 = n ∧ wetsB l = true ∧ wetS (l.getD j z25) = true := by
  unfold findW at h ⊢
  cases hw : wetsB l
  · simp [hw] at h
  simp only [hw, if_true] at h ⊢
  cases hf : l.findIdx? (fun x => x.f0 == n) with
  | none => simp [hf] at h
  | some j =>
    obtain ⟨hj, h1, _⟩ := List.findIdx?_eq_some_iff_getElem.mp hf
    have e : l.getD j z25 = l[j] := by simp [List.getD_eq_getElem?_getD, List.getElem?_eq_getElem hj]
    refine ⟨j, rfl, hj, ?_, by trivial, ?_⟩
    · rw [e]; simpa using h1
    · rw [e]; exact (wets_of hw).2 _ (List.getElem_mem hj)
theorem findW_none {l : List S25} {n : Int} (h : ¬ 0 ≤ findW l n) : findW l n = -1 := by
  unfold findW at h ⊢
  cases hw : wetsB l
  · simp
  simp only [hw, if_true] at h ⊢
  cases hf : l.findIdx? (fun x => x.f0 == n) with
  | none => rfl
  | some j => simp [hf] at h
theorem findWI_eq {k : Nat} {l : List S25} (hk : l.length < k) (hl : l.length ≤ 1073741824) (n : Int) : impl_findCarpet.f k l n = some (findW l n) := by
  simp only [impl_findCarpet.f, AreWetCarpets_eq hk hl, Option.bind_some, findW]
  cases hw : wetsB l
  · simp
  simp only [if_true, impl_WetCarpet__impl_findCarpet_1.f]
  simp only [impl_findCarpet_1.f]
  rw [Ho.idxO_eq (p := fun x : S25 => some (x.f0 == n)) (q := fun x => x.f0 == n) (fun x _ => rfl)]
  simp only [Option.bind_some]
  cases l.findIdx? (fun x => x.f0 == n) with
  | none => rfl
  | some j => simp
theorem findWS_eq {k : Nat} {l : List S25} (hk : 3 * l.length + 2 < k) (hl : l.length ≤ 1073741824) (n : Int) : spec_l18Find.f k l n = some (findW l n) := by
  unfold spec_l18Find.f findW
  have hx : ∀ (m k i : Nat), i + m = l.length → 2 * m + l.length + 2 < k → spec_l18Find.l0 k l n i = some (if wetsB l then (match (l.drop i).findIdx? (fun x => x.f0 == n) with | some j => ((i + j : Nat) : Int) | none => -1) else -1) := by
    intro m
    induction m with
    | zero =>
      intro k i hi hk
      obtain ⟨k, rfl, _⟩ := succ_of hk
      obtain ⟨k, rfl, _⟩ := succ_of (show 0 < k by omega)
      simp only [spec_l18Find.l0, spec_l18Find.j1]
      rw [if_neg (by omega), List.drop_eq_nil_of_le (by omega)]
      cases wetsB l <;> simp
    | succ m ih =>
      intro k i hi hk
      obtain ⟨k, rfl, hk⟩ := succ_of hk
      obtain ⟨k, rfl, _⟩ := succ_of (show 0 < k by omega)
      simp only [spec_l18Find.l0, goodW_eq (k := k + 1) (l := l) (by omega) hl, Option.bind_some, spec_l18Find.j1, rdIW_nat]
      rw [if_pos (show (i : Int) < l.length by omega)]
      cases hw : wetsB l
      · simp
      rw [if_pos rfl, if_pos (show (0 : Int) ≤ i by omega), if_pos (show (i : Int) < l.length by omega), wstep (n := l.length) (by omega) (by omega), ih k (i + 1) (by omega) (by omega), drop_step (show i < l.length by omega) z25, List.findIdx?_cons]
      rw [hw]
      by_cases hc : (l.getD i z25).f0 = n
      · rw [if_pos hc, if_pos (show ((l.getD i z25).f0 == n) = true from beq_iff_eq.mpr hc)]; rfl
      · rw [if_neg hc, if_neg (show ¬ ((l.getD i z25).f0 == n) = true from fun h => hc (beq_iff_eq.mp h))]
        simp only [if_true]
        cases (l.drop (i + 1)).findIdx? (fun x => x.f0 == n) with
        | none => rfl
        | some j =>
          show some (((i + 1 + j : Nat) : Int)) = some (((i + (j + 1) : Nat)) : Int)
          congr 1; omega
  have := hx l.length k 0 (by omega) (by omega)
  refine this.trans ?_
  simp
theorem withWS_eq {l : List S25} (hl : l.length ≤ 1073741824) {j : Nat} (hj : j < l.length) (a b c d e : Int) : spec_l18With.f l (j : Int) a b c d e = some (l.set j ⟨a, b, c, d, e⟩) := by
  simp only [spec_l18With.f, Option.bind_some, List.length_nil, Nat.zero_add, List.nil_append, Int.toNat_natCast]
  rw [if_pos (by omega), if_pos (by omega), if_pos (by omega)]
theorem withWI_eq {l : List S25} (hl : l.length ≤ 1073741824) {j : Nat} (hj : j < l.length) (a b c d e : Int) : impl_withCarpet.f l (j : Int) a b c d e = some (l.set j ⟨a, b, c, d, e⟩) := by
  simp only [impl_withCarpet.f, Option.bind_some, impl_WetCarpet_77.f, List.length_nil, Nat.zero_add, List.nil_append, Int.toNat_natCast]
  rw [if_pos (by omega)]
  simp only [Option.bind_some]
  rw [if_pos (by omega), if_pos (by omega)]

end Go.Proofs.Ytdennkmfjkgfhaa.Pure

-- Qwashes
namespace Go.Proofs.Ytdennkmfjkgfhaa.Pure
open Go Go.RowKit Go.Proofs Go.Proofs.Ytdennkmfjkgfhaa.X Go.Proofs.YtdennkmfjkgfhaaW.PrintWords Go.Proofs.YtdennkmfjkgfhaaW.PrintLast
set_option linter.unusedVariables false
set_option linter.unusedSimpArgs false

def washM (l : List S25) (n : Int) : List S25 × Int × Bool :=
  if findW l n < 0 then ([], 0, false) else
  (let x := l.getD (findW l n).toNat z25; (l.set (findW l n).toNat ⟨x.f0, x.f1, x.f2, 2 * x.f2, x.f4⟩, 2 * x.f2 - x.f3, true))
theorem washS_eq {k : Nat} {l : List S25} (hk : 3 * l.length + 2 < k) (hl : l.length ≤ 1073741824) (n : Int) : spec_WashCarpet.f k l n = some (washM l n) := by
  simp only [spec_WashCarpet.f, findWS_eq hk hl, Option.bind_some, washM]
  by_cases h : 0 ≤ findW l n
  · obtain ⟨j, hj, hlt, _, _, hw⟩ := findW_of h
    have hw := wet_of hw
    rw [hj, if_neg (show ¬ (j : Int) < 0 by omega), if_neg (show ¬ (j : Int) < 0 by omega), if_pos (show (0 : Int) ≤ j by omega), if_pos (show (j : Int) < l.length by omega)]
    simp only [rdIW_nat, withWS_eq hl hlt, Option.bind_some, Int.toNat_natCast]
    rw [w64 (x := 2 * _) (by omega) (by omega), w64 (x := 2 * _ - _) (by omega) (by omega)]
  · rw [findW_none h]; rfl
theorem washI_eq {k : Nat} {l : List S25} (hk : l.length < k) (hl : l.length ≤ 1073741824) (n : Int) : impl_WashCarpet.f k l n = some (washM l n) := by
  simp only [impl_WashCarpet.f, findWI_eq hk hl, Option.bind_some, washM]
  by_cases h : 0 ≤ findW l n
  · obtain ⟨j, hj, hlt, _, _, hw⟩ := findW_of h
    have hw := wet_of hw
    rw [hj, if_neg (show ¬ (j : Int) < 0 by omega), if_neg (show ¬ (j : Int) < 0 by omega), if_pos (show (0 : Int) ≤ j by omega), if_pos (show (j : Int) < l.length by omega)]
    simp only [rdIW_nat, withWI_eq hl hlt, Option.bind_some, Int.toNat_natCast]
    rw [w64 (x := 2 * _) (by omega) (by omega), w64 (x := 2 * _ - _) (by omega) (by omega), w64 (x := _ + (2 * _ - _)) (by omega) (by omega), show ∀ a b : Int, a + (2 * b - a) = 2 * b from fun a b => by omega]
  · rw [findW_none h]; rfl
theorem washM_len (l : List S25) (n : Int) : (washM l n).1.length ≤ l.length := by
  unfold washM; split
  · simp
  · simp [List.length_set]
def spinM (l : List S25) (n : Int) : List S25 × Int × Bool :=
  if findW l n < 0 then ([], 0, false) else
  (let x := l.getD (findW l n).toNat z25; (l.set (findW l n).toNat ⟨x.f0, x.f1, x.f2, x.f3 / 2, x.f4⟩, x.f3 - x.f3 / 2, true))
theorem spinS_eq {k : Nat} {l : List S25} (hk : 3 * l.length + 2 < k) (hl : l.length ≤ 1073741824) (n : Int) : spec_SpinCarpet.f k l n = some (spinM l n) := by
  simp only [spec_SpinCarpet.f, findWS_eq hk hl, Option.bind_some, spinM]
  by_cases h : 0 ≤ findW l n
  · obtain ⟨j, hj, hlt, _, _, hw⟩ := findW_of h
    have hw := wet_of hw
    rw [hj, if_neg (show ¬ (j : Int) < 0 by omega), if_neg (show ¬ (j : Int) < 0 by omega), if_pos (show (0 : Int) ≤ j by omega), if_pos (show (j : Int) < l.length by omega)]
    simp only [rdIW_nat, withWS_eq hl hlt, Option.bind_some, Int.toNat_natCast]
    rw [Int.tdiv_eq_ediv_of_nonneg (by omega), w64 (x := _ / 2) (by omega) (by omega), w64 (x := _ - _ / 2) (by omega) (by omega)]
  · rw [findW_none h]; rfl
theorem ceil2_eq {x : Int} (h : 0 ≤ x ∧ x ≤ 4611686018427387904) : impl_ceilDiv.f x 2 = some (x - x / 2) := by
  unfold impl_ceilDiv.f
  rw [if_neg (by omega), w64 (x := x + 2) (by omega) (by omega), w64 (x := x + 2 - 1) (by omega) (by omega), Int.tdiv_eq_ediv_of_nonneg (by omega), w64 (by omega) (by omega)]
  congr 1; omega
theorem spinI_eq {k : Nat} {l : List S25} (hk : l.length < k) (hl : l.length ≤ 1073741824) (n : Int) : impl_SpinCarpet.f k l n = some (spinM l n) := by
  simp only [impl_SpinCarpet.f, findWI_eq hk hl, Option.bind_some, spinM]
  by_cases h : 0 ≤ findW l n
  · obtain ⟨j, hj, hlt, _, _, hw⟩ := findW_of h
    have hw := wet_of hw
    rw [hj, if_neg (show ¬ (j : Int) < 0 by omega), if_neg (show ¬ (j : Int) < 0 by omega), if_pos (show (0 : Int) ≤ j by omega), if_pos (show (j : Int) < l.length by omega)]
    simp only [rdIW_nat, Int.toNat_natCast]
    rw [ceil2_eq (by omega)]
    simp only [withWI_eq hl hlt, Option.bind_some]
    rw [w64 (x := _ - (_ - _ / 2)) (by omega) (by omega), show ∀ a b : Int, a - (a - b) = b from fun a b => by omega]
  · rw [findW_none h]; rfl
theorem spinM_len (l : List S25) (n : Int) : (spinM l n).1.length ≤ l.length := by
  unfold spinM; split
  · simp
  · simp [List.length_set]
def shearWM (l : List S25) (n s : Int) : List S25 × Int × Bool :=
  if findW l n < 0 then ([], 0, false) else
  (let x := l.getD (findW l n).toNat z25;
    if decide (1 ≤ s ∧ s ≤ 20) && (dryB x.f2 x.f3 && wetB x.f0 x.f1 (x.f2 - 2 * x.f1 * s) x.f3 (x.f4 - s)) then
      (l.set (findW l n).toNat ⟨x.f0, x.f1, x.f2 - 2 * x.f1 * s, x.f3, x.f4 - s⟩, 2 * x.f1 * s, true) else ([], 0, false))
theorem shearWS_eq {k : Nat} {l : List S25} (hk : 3 * l.length + 2 < k) (hl : l.length ≤ 1073741824) (n s : Int) : spec_ShearCarpet.f k l n s = some (shearWM l n s) := by
  obtain ⟨k, rfl, hk2⟩ := succ_of hk
  simp only [spec_ShearCarpet.f, spec_ShearCarpet.j0, findWS_eq (k := k + 1) (l := l) (by omega) hl, Option.bind_some, shearWM, l1In_eq]
  by_cases h : 0 ≤ findW l n
  · obtain ⟨j, hj, hlt, _, _, hw⟩ := findW_of h
    have hw' := wet_of hw
    rw [hj, if_neg (show ¬ (j : Int) < 0 by omega), if_neg (show ¬ (j : Int) < 0 by omega)]
    cases hs : decide (1 ≤ s ∧ s ≤ 20)
    · simp
    have hs := of_decide_eq_true hs
    simp only [Bool.not_true, Bool.false_eq_true, if_false, Bool.true_and, Int.toNat_natCast]
    rw [if_pos (show (0 : Int) ≤ j by omega), if_pos (show (j : Int) < l.length by omega), rdIW_nat]
    cases hd : dryB (l.getD j z25).f2 (l.getD j z25).f3
    · unfold spec_l18Shorn.f
      rw [l18Dry_eq (by omega), hd]
      simp
    rw [shorn_eq hw hd (by omega)]
    simp only [Option.bind_some, Bool.true_and]
    cases wetB (l.getD j z25).f0 (l.getD j z25).f1 ((l.getD j z25).f2 - 2 * (l.getD j z25).f1 * s) (l.getD j z25).f3 ((l.getD j z25).f4 - s)
    · simp
    · simp only [if_true, withWS_eq hl hlt, Option.bind_some]
      have hm := mul_bd (a := 2 * (l.getD j z25).f1) (b := s) (A := 8000) (B := 20) (by omega) (by omega) (by omega) (by omega)
      rw [show ∀ a b : Int, a - (a - b) = b from fun a b => by omega, w64 (by omega) (by omega)]
  · rw [findW_none h]; simp
theorem shearWI_eq {k : Nat} {l : List S25} (hk : l.length < k) (hl : l.length ≤ 1073741824) (n s : Int) : impl_ShearCarpet.f k l n s = some (shearWM l n s) := by
  obtain ⟨k, rfl, hk2⟩ := succ_of hk
  simp only [impl_ShearCarpet.f, impl_ShearCarpet.j0, findWI_eq (k := k + 1) (l := l) (by omega) hl, Option.bind_some, shearWM, in_eq]
  by_cases h : 0 ≤ findW l n
  · obtain ⟨j, hj, hlt, _, _, hw⟩ := findW_of h
    have hw' := wet_of hw
    rw [hj, if_neg (show ¬ (j : Int) < 0 by omega), if_neg (show ¬ (j : Int) < 0 by omega)]
    cases hs : decide (1 ≤ s ∧ s ≤ 20)
    · simp
    have hs := of_decide_eq_true hs
    simp only [if_true, Bool.true_and, Int.toNat_natCast]
    rw [if_pos (show (0 : Int) ≤ j by omega), if_pos (show (j : Int) < l.length by omega), rdIW_nat, isDry_eq (by omega)]
    simp only [Option.bind_some]
    cases hd : dryB (l.getD j z25).f2 (l.getD j z25).f3
    · simp
    simp only [Bool.not_true, Bool.false_eq_true, if_false, Bool.true_and]
    rw [if_pos (show (0 : Int) ≤ j by omega), if_pos (show (j : Int) < l.length by omega), sheared_eq hw (by omega)]
    simp only [Option.bind_some, IsWetCarpet_eq]
    cases wetB (l.getD j z25).f0 (l.getD j z25).f1 ((l.getD j z25).f2 - 2 * (l.getD j z25).f1 * s) (l.getD j z25).f3 ((l.getD j z25).f4 - s)
    · simp
    · simp only [if_true, withWI_eq hl hlt, Option.bind_some]
      have hm := mul_bd (a := 2 * (l.getD j z25).f1) (b := s) (A := 8000) (B := 20) (by omega) (by omega) (by omega) (by omega)
      rw [show ∀ a b : Int, a - (a - b) = b from fun a b => by omega, w64 (by omega) (by omega)]
  · rw [findW_none h]; simp
theorem shearWM_len (l : List S25) (n s : Int) : (shearWM l n s).1.length ≤ l.length := by
  unfold shearWM; split
  · simp
  · simp only []; split
    · simp [List.length_set]
    · simp

end Go.Proofs.Ytdennkmfjkgfhaa.Pure

-- Qsumset
namespace Go.Proofs.Ytdennkmfjkgfhaa.Pure
open Go Go.RowKit Go.Proofs Go.Proofs.YtdennkmfjkgfhaaW.PrintWords Go.Proofs.YtdennkmfjkgfhaaW.PrintLast
set_option linter.unusedVariables false
set_option linter.unusedSimpArgs false

theorem sum_set {α : Type} (f : α → Int) (d y : α) : ∀ (l : List α) (j : Nat), j < l.length → ((l.set j y).map f).sum = (l.map f).sum - f (l.getD j d) + f y := by
  intro l
  induction l with
  | nil => intro j h; simp at h
  | cons x l ih =>
    intro j h
    cases j with
    | zero => simp [List.set]; omega
    | succ j =>
      have := ih j (by simp at h; omega)
      simp only [List.set, List.map_cons, List.sum_cons, this, List.getD_cons_succ]
      omega
end Go.Proofs.Ytdennkmfjkgfhaa.Pure

-- Qwashlaws
namespace Go.Proofs.Ytdennkmfjkgfhaa.Pure
open Go Go.RowKit Go.Proofs Go.Proofs.Ytdennkmfjkgfhaa.X Go.Proofs.YtdennkmfjkgfhaaW.PrintWords Go.Proofs.YtdennkmfjkgfhaaW.PrintLast
set_option linter.unusedVariables false
set_option linter.unusedSimpArgs false

theorem wetsB_set {l : List S25} (hw : wetsB l = true) {j : Nat} (hj : j < l.length) {y : S25} (hid : y.f0 = (l.getD j z25).f0) (hy : wetS y = true) : wetsB (l.set j y) = true := by
  have hx := wets_of hw
  simp only [wetsB, Bool.and_eq_true, decide_eq_true_eq] at hw ⊢
  refine ⟨by rw [List.length_set]; exact hw.1, ?_, ?_⟩
  · rw [List.all_eq_true]
    intro x hm
    rcases List.mem_or_eq_of_mem_set hm with h | h
    · exact hx.2 x h
    · rw [h]; exact hy
  · rw [allR_iff] at *
    intro q h1 h2
    rw [List.length_set] at h2
    have h3 := hw.2.2 q h1 h2
    unfold ascW at h3 ⊢
    have hg : ∀ q, q < l.length → ((l.set j y).getD q z25).f0 = (l.getD q z25).f0 := by
      intro q hq
      by_cases e : q = j
      · subst e
        rw [List.getD_eq_getElem?_getD, List.getElem?_set_self (by omega)]; exact hid
      · rw [List.getD_eq_getElem?_getD, List.getElem?_set_ne (by omega), ← List.getD_eq_getElem?_getD]
    rw [hg _ (by omega), hg _ (by omega)]
    exact h3
theorem findW_valid {l : List S25} {n : Int} (h : ¬ findW l n < 0) : ∃ j : Nat, findW l n = j ∧ j < l.length ∧ (l.getD j z25).f0 = n ∧ wetsB l = true ∧ wetS (l.getD j z25) = true := findW_of (by omega)
/-- what spinning and washing keep -/
theorem spin_load {l : List S25} {n : Int} (h : (spinM l n).2.2 = true) : ∃ a b c : Int, loadM l = (a, true) ∧ loadM (spinM l n).1 = (b, true) ∧ loadM (washM l n).1 = (c, true) ∧ a - b = (spinM l n).2.1 ∧ c - a = (washM l n).2.1 ∧ wetsB (washM l n).1 = true ∧ (-6000000 ≤ a ∧ a ≤ 6000000) ∧ (-6000000 ≤ b ∧ b ≤ 6000000) ∧ (-6000000 ≤ c ∧ c ≤ 6000000) := by
  have hb0 : ∀ l : List S25, wetsB l = true → -6000000 ≤ (l.map weighS).sum ∧ (l.map weighS).sum ≤ 6000000 := by
    intro l hl
    have h1 := weigh_bd hl
    have h2 := (wets_of hl).1
    have : ∀ l : List S25, (∀ x ∈ l, 0 ≤ weighS x ∧ weighS x ≤ 600000) → 0 ≤ (l.map weighS).sum ∧ (l.map weighS).sum ≤ 600000 * l.length := by
      intro l
      induction l with
      | nil => intro _; simp
      | cons x l ih =>
        intro h
        have := ih (fun y hy => h y (List.mem_cons_of_mem _ hy))
        have := h x List.mem_cons_self
        simp only [List.map_cons, List.sum_cons, List.length_cons]
        push_cast; omega
    have := this l h1
    omega
  by_cases g : findW l n < 0
  · unfold spinM at h; rw [if_pos g] at h; exact absurd h (by simp)
  obtain ⟨j, e, hj, hid, hw, hy⟩ := findW_valid g
  have hx := wet_of hy
  have e1 : (spinM l n).1 = l.set j ⟨(l.getD j z25).f0, (l.getD j z25).f1, (l.getD j z25).f2, (l.getD j z25).f3 / 2, (l.getD j z25).f4⟩ ∧ (spinM l n).2.1 = (l.getD j z25).f3 - (l.getD j z25).f3 / 2 := by
    unfold spinM; rw [if_neg g, e]; exact ⟨rfl, rfl⟩
  have e2 : (washM l n).1 = l.set j ⟨(l.getD j z25).f0, (l.getD j z25).f1, (l.getD j z25).f2, 2 * (l.getD j z25).f2, (l.getD j z25).f4⟩ ∧ (washM l n).2.1 = 2 * (l.getD j z25).f2 - (l.getD j z25).f3 := by
    unfold washM; rw [if_neg g, e]; exact ⟨rfl, rfl⟩
  rw [e1.1, e1.2, e2.1, e2.2]
  have w1 : wetsB (l.set j ⟨(l.getD j z25).f0, (l.getD j z25).f1, (l.getD j z25).f2, (l.getD j z25).f3 / 2, (l.getD j z25).f4⟩) = true := by
    refine wetsB_set hw hj rfl ?_
    simp only [wetS, wetB, Bool.and_eq_true, decide_eq_true_eq]
    exact ⟨hx.1, hx.2.1, hx.2.2.1, by omega, hx.2.2.2.2⟩
  have w2 : wetsB (l.set j ⟨(l.getD j z25).f0, (l.getD j z25).f1, (l.getD j z25).f2, 2 * (l.getD j z25).f2, (l.getD j z25).f4⟩) = true := by
    refine wetsB_set hw hj rfl ?_
    simp only [wetS, wetB, Bool.and_eq_true, decide_eq_true_eq]
    exact ⟨hx.1, hx.2.1, hx.2.2.1, by omega, hx.2.2.2.2⟩
  have b0 := hb0 _ hw
  have b1 := hb0 _ w1
  have b2 := hb0 _ w2
  refine ⟨_, _, _, by unfold loadM; rw [if_pos hw], by unfold loadM; rw [if_pos w1], by unfold loadM; rw [if_pos w2], ?_, ?_, w2, b0, b1, b2⟩
  · rw [sum_set weighS z25 _ l j hj]
    show _ - (_ - ((l.getD j z25).f2 + (l.getD j z25).f3) + ((l.getD j z25).f2 + (l.getD j z25).f3 / 2)) = _
    omega
  · rw [sum_set weighS z25 _ l j hj]
    show _ - ((l.getD j z25).f2 + (l.getD j z25).f3) + ((l.getD j z25).f2 + 2 * (l.getD j z25).f2) - _ = _
    omega
theorem spin_wash_ok (l : List S25) (n : Int) : (washM l n).2.2 = (spinM l n).2.2 := by
  unfold washM spinM
  by_cases g : findW l n < 0
  · rw [if_pos g, if_pos g]
  · rw [if_neg g, if_neg g]
theorem shear_load {l : List S25} {n s : Int} (h : (shearWM l n s).2.2 = true) : ∃ a b : Int, loadM l = (a, true) ∧ loadM (shearWM l n s).1 = (b, true) ∧ a - b = (shearWM l n s).2.1 ∧ (-6000000 ≤ a - b ∧ a - b ≤ 6000000) := by
  by_cases g : findW l n < 0
  · unfold shearWM at h; rw [if_pos g] at h; exact absurd h (by simp)
  obtain ⟨j, e, hj, hid, hw, hy⟩ := findW_valid g
  have hx := wet_of hy
  unfold shearWM at h ⊢
  rw [if_neg g] at h ⊢
  simp only [e, Int.toNat_natCast] at h ⊢
  by_cases g2 : (decide (1 ≤ s ∧ s ≤ 20) && (dryB (l.getD j z25).f2 (l.getD j z25).f3 && wetB (l.getD j z25).f0 (l.getD j z25).f1 ((l.getD j z25).f2 - 2 * (l.getD j z25).f1 * s) (l.getD j z25).f3 ((l.getD j z25).f4 - s))) = true
  · rw [if_pos g2]
    simp only [Bool.and_eq_true] at g2
    have hs := of_decide_eq_true g2.1
    have hm := mul_bd (a := 2 * (l.getD j z25).f1) (b := s) (A := 8000) (B := 20) (by omega) (by omega) (by omega) (by omega)
    have w1 : wetsB (l.set j ⟨(l.getD j z25).f0, (l.getD j z25).f1, (l.getD j z25).f2 - 2 * (l.getD j z25).f1 * s, (l.getD j z25).f3, (l.getD j z25).f4 - s⟩) = true := wetsB_set hw hj rfl g2.2.2
    have e3 : (l.map weighS).sum - ((l.set j ⟨(l.getD j z25).f0, (l.getD j z25).f1, (l.getD j z25).f2 - 2 * (l.getD j z25).f1 * s, (l.getD j z25).f3, (l.getD j z25).f4 - s⟩).map weighS).sum = 2 * (l.getD j z25).f1 * s := by
      rw [sum_set weighS z25 _ l j hj]
      show _ - (_ - ((l.getD j z25).f2 + (l.getD j z25).f3) + ((l.getD j z25).f2 - 2 * (l.getD j z25).f1 * s + (l.getD j z25).f3)) = _
      omega
    refine ⟨_, _, by unfold loadM; rw [if_pos hw], by unfold loadM; rw [if_pos w1], e3, by rw [e3]; omega⟩
  · rw [if_neg g2] at h; exact absurd h (by simp)
theorem hoursF_spec (h d : Int) (hh : 0 ≤ h) : ∀ (n : Nat) (c w : Int), (hoursF h d n c w).2 = true → ∃ m : Nat, (hoursF h d n c w).1 = c + m ∧ m < n ∧ (if m = 0 then dryB d w = true else dryB d (posI (w - m * h)) = true) ∧ ∀ q : Nat, q < m → (if q = 0 then dryB d w = false else dryB d (posI (w - q * h)) = false) := by
  intro n
  induction n with
  | zero => intro c w e; simp [hoursF] at e
  | succ n ih =>
    intro c w e
    simp only [hoursF] at e ⊢
    by_cases g : dryB d w = true
    · rw [if_pos g]
      refine ⟨0, by simp, by omega, by rw [if_pos rfl]; exact g, fun q hq => by omega⟩
    · rw [if_neg g] at e ⊢
      obtain ⟨m, e1, hm, e2, e3⟩ := ih (c + 1) (posI (w - h)) e
      have key : ∀ q : Nat, (if q = 0 then dryB d (posI (w - h)) else dryB d (posI (posI (w - h) - q * h))) = dryB d (posI (w - ((q + 1 : Nat) : Int) * h)) := by
        intro q
        by_cases z : q = 0
        · subst z; simp
        · rw [if_neg z, posI_sub (Int.mul_nonneg (by omega) hh)]
          congr 2
          push_cast; rw [Int.add_mul]; omega
      refine ⟨m + 1, by rw [e1]; push_cast; omega, by omega, ?_, ?_⟩
      · rw [if_neg (by omega), ← key m]
        by_cases z : m = 0
        · subst z; simpa using e2
        · rw [if_neg z] at e2 ⊢; exact e2
      · intro q hq
        cases q with
        | zero => rw [if_pos rfl]; simpa using g
        | succ q =>
          have := e3 q (by omega)
          rw [if_neg (by omega), ← key q]
          by_cases z : q = 0
          · subst z; simpa using this
          · rw [if_neg z] at this ⊢; exact this
theorem one_wets {i a d w p : Int} (h : wetB i a d w p = true) : wetsB [(⟨i, a, d, w, p⟩ : S25)] = true := by
  simp only [wetsB, Bool.and_eq_true, decide_eq_true_eq]
  refine ⟨by simp, by simpa [wetS] using h, ?_⟩
  simp [allR]
theorem hours_dry {i a d w p g : Int} (h : (hoursM i a d w p g).2 = true) (h1 : (hoursM i a d w p g).1 ≤ 100) : wetB i a d w p = true ∧ 0 ≤ (hoursM i a d w p g).1 ∧ dryM [⟨i, a, d, w, p⟩] g (hoursM i a d w p g).1 = ([dryX g (hoursM i a d w p g).1 ⟨i, a, d, w, p⟩], [i], true) ∧ ((dryM [⟨i, a, d, w, p⟩] g ((hoursM i a d w p g).1 - 1)).2.2 = true → (dryM [⟨i, a, d, w, p⟩] g ((hoursM i a d w p g).1 - 1)).2.1 = []) := by
  unfold hoursM at h h1 ⊢
  by_cases hc : (wetB i a d w p && degreesB g) = true
  · rw [if_pos hc] at h h1 ⊢
    rw [Bool.and_eq_true] at hc
    have hw := wet_of hc.1
    have hg := of_decide_eq_true hc.2
    obtain ⟨_, q2, _⟩ := hourly_w (a := a) (g := g) (by omega) hg
    obtain ⟨m, e1, hm, e2, e3⟩ := hoursF_spec (hourlyM a g) d q2 1001 0 w h
    rw [e1] at h1 ⊢
    rw [Int.zero_add] at h1 ⊢
    have one := one_wets hc.1
    have hz : ∀ q : Nat, (if q = 0 then dryB d w else dryB d (posI (w - q * hourlyM a g))) = dryB d (posI (w - q * hourlyM a g)) := by
      intro q
      by_cases z : q = 0
      · subst z; rw [if_pos rfl]; simp [posI_nn hw.2.2.2.1.1]
      · rw [if_neg z]
    have e4 : dryB d (posI (w - m * hourlyM a g)) = true := by
      rw [← hz m]
      by_cases z : m = 0
      · rw [if_pos z] at e2 ⊢; exact e2
      · rw [if_neg z] at e2 ⊢; exact e2
    refine ⟨hc.1, by omega, ?_, ?_⟩
    · unfold dryM
      rw [one, hc.2, decide_eq_true (show 0 ≤ (m : Int) ∧ (m : Int) ≤ 100 by omega), if_pos (show (true && (true && true)) = true from rfl)]
      show ([dryX g m ⟨i, a, d, w, p⟩], dryIds [dryX g m ⟨i, a, d, w, p⟩], true) = _
      rw [dryIds_cons]
      rw [if_pos (show dryB (dryX g m ⟨i, a, d, w, p⟩).f2 (dryX g m ⟨i, a, d, w, p⟩).f3 = true from e4)]
      rfl
    · intro h2
      unfold dryM at h2 ⊢
      by_cases z : m = 0
      · subst z
        rw [one, hc.2, decide_eq_false (show ¬ (0 ≤ ((0 : Nat) : Int) - 1 ∧ ((0 : Nat) : Int) - 1 ≤ 100) by omega)] at h2
        exact absurd h2 (by simp)
      · rw [one, hc.2, decide_eq_true (show 0 ≤ (m : Int) - 1 ∧ (m : Int) - 1 ≤ 100 by omega), if_pos (show (true && (true && true)) = true from rfl)]
        show dryIds [dryX g ((m : Int) - 1) ⟨i, a, d, w, p⟩] = []
        rw [dryIds_cons]
        have e5 := e3 (m - 1) (by omega)
        have e6 : dryB d (posI (w - ((m - 1 : Nat) : Int) * hourlyM a g)) = false := by
          rw [← hz (m - 1)]
          by_cases z2 : m - 1 = 0
          · rw [if_pos z2] at e5 ⊢; exact e5
          · rw [if_neg z2] at e5 ⊢; exact e5
        rw [show ((m - 1 : Nat) : Int) = (m : Int) - 1 by omega] at e6
        rw [if_neg (show ¬ dryB (dryX g ((m : Int) - 1) ⟨i, a, d, w, p⟩).f2 (dryX g ((m : Int) - 1) ⟨i, a, d, w, p⟩).f3 = true from by
          show ¬ dryB d (posI (w - ((m : Int) - 1) * hourlyM a g)) = true
          rw [e6]; simp)]
        rfl
  · rw [if_neg hc] at h; exact absurd h (by simp)
theorem wetId_j0 {k : Nat} {s : List Int} {p : Int} (h : Int) (l : List S25) (b : Bool) (hs : curOk s) (hp : 0 ≤ p ∧ p ≤ 900000) (hl : l.length ≤ 50000) (hb : b = false → 0 < l.length) : ∃ v p' h', spec_l1Cur_wetId.j0 (k + 1) l b s p h = some (v, p', h') ∧ p ≤ p' ∧ p' ≤ p + 2 := by
  obtain ⟨v3, p3, h3, e3, b3, _⟩ := among_ex h [0, 1, 500] hs (p := p) (by omega) (by simp)
  obtain ⟨v4, p4, h4, e4, b4, b5, b6⟩ := pick_ex h hs (p := p) (n := (l.length : Int)) (by omega) (by omega)
  simp only [spec_l1Cur_wetId.j0, e3, e4, Option.bind_some]
  cases b
  · simp only [Bool.false_eq_true, if_false]
    have := hb rfl
    have := b6 (by omega)
    rw [if_pos (by omega), if_pos (by omega)]
    exact ⟨_, _, _, rfl, by omega, by omega⟩
  · simp only [if_true]
    exact ⟨_, _, _, rfl, by omega, by omega⟩
theorem wetId_ex {k : Nat} {s : List Int} {p : Int} (h : Int) (l : List S25) (hk : 0 < k) (hs : curOk s) (hp : 0 ≤ p ∧ p ≤ 800000) (hl : l.length ≤ 50000) : ∃ v p' h', spec_l1Cur_wetId.f k s p h l = some (v, p', h') ∧ p ≤ p' ∧ p' ≤ p + 4 := by
  obtain ⟨k, rfl, _⟩ := succ_of hk
  unfold spec_l1Cur_wetId.f
  by_cases g : (l.length : Int) = 0
  · rw [if_pos g]
    obtain ⟨v, p', h', e, b⟩ := wetId_j0 (k := k) h l true hs (p := p) (by omega) hl (fun e => absurd e (by simp))
    exact ⟨v, p', h', e, by omega, by omega⟩
  · rw [if_neg g]
    obtain ⟨b, p1, h1, e1, b1⟩ := one_ex h hs (p := p) (n := 10) (by omega) (by omega)
    obtain ⟨v, p', h', e, b2⟩ := wetId_j0 (k := k) h1 l b hs (p := p1) (by omega) hl (fun _ => by omega)
    simp only [e1, Option.bind_some]
    exact ⟨v, p', h', e, by omega, by omega⟩

end Go.Proofs.Ytdennkmfjkgfhaa.Pure

-- Qwetcur
namespace Go.Proofs.Ytdennkmfjkgfhaa.Pure
open Go Go.RowKit Go.Proofs Go.Proofs.Ytdennkmfjkgfhaa.X Go.Proofs.YtdennkmfjkgfhaaW.PrintWords Go.Proofs.YtdennkmfjkgfhaaW.PrintLast
set_option linter.unusedVariables false
set_option linter.unusedSimpArgs false

theorem wetCarpet_ex {s : List Int} {p : Int} (h id : Int) (hs : curOk s) (hp : 0 ≤ p ∧ p ≤ 900000) : ∃ a b c d e p' h', spec_l1Cur_wetCarpet.f s p h id = some (a, b, c, d, e, p', h') ∧ (p ≤ p' ∧ p' ≤ p + 14) := by
  obtain ⟨v1, p1, h1, e1, b1, _⟩ := among_ex h [1, 60, 240, 4000] hs (p := p) (by omega) (by simp)
  obtain ⟨v2, p2, h2, e2, b2, _⟩ := among_ex h1 [1, 50, 3000, 12000, 200000] hs (p := p1) (by omega) (by simp)
  obtain ⟨v3, p3, h3, e3, b3, _⟩ := among_ex h2 [20, 25, 80, 300] hs (p := p2) (by omega) (by simp)
  obtain ⟨v4, p4, h4, e4, b4, _⟩ := among_ex h3 [0, wrap64 (Int.tdiv v2 50), wrap64 ((wrap64 (Int.tdiv v2 50)) + 1), v2, wrap64 (2 * v2)] hs (p := p3) (by omega) (by simp)
  obtain ⟨v5, p5, h5, e5, b5, _⟩ := pick_ex h4 hs (p := p4) (n := 70) (by omega) (by omega)
  obtain ⟨v6, p6, h6, e6, b6, _⟩ := among_ex h5 [0, 999, 1000] hs (p := p5) (by omega) (by simp)
  obtain ⟨v7, p7, h7, e7, b7, _⟩ := among_ex h5 [0, 4001] hs (p := p5) (by omega) (by simp)
  obtain ⟨v8, p8, h8, e8, b8, _⟩ := among_ex h5 [0, 200001] hs (p := p5) (by omega) (by simp)
  obtain ⟨v9, p9, h9, e9, b9, _⟩ := among_ex h5 [-1, wrap64 ((wrap64 (2 * v2)) + 1)] hs (p := p5) (by omega) (by simp)
  obtain ⟨v10, p10, h10, e10, b10, _⟩ := among_ex h5 [19, 301] hs (p := p5) (by omega) (by simp)
  simp only [spec_l1Cur_wetCarpet.f, e1, e2, e3, e4, e5, e6, e7, e8, e9, e10, Option.bind_some]
  by_cases g0 : v5 = 0
  · rw [if_pos g0]; exact ⟨_, _, _, _, _, _, _, rfl, by omega⟩
  rw [if_neg g0]
  by_cases g1 : v5 = 1
  · rw [if_pos g1]; exact ⟨_, _, _, _, _, _, _, rfl, by omega⟩
  rw [if_neg g1]
  by_cases g2 : v5 = 2
  · rw [if_pos g2]; exact ⟨_, _, _, _, _, _, _, rfl, by omega⟩
  rw [if_neg g2]
  by_cases g3 : v5 = 3
  · rw [if_pos g3]; exact ⟨_, _, _, _, _, _, _, rfl, by omega⟩
  rw [if_neg g3]
  by_cases g4 : v5 = 4
  · rw [if_pos g4]; exact ⟨_, _, _, _, _, _, _, rfl, by omega⟩
  rw [if_neg g4]; exact ⟨_, _, _, _, _, _, _, rfl, by omega⟩
theorem degrees_ex {s : List Int} {p : Int} (h : Int) (hs : curOk s) (hp : 0 ≤ p ∧ p ≤ 900000) : ∃ v p' h', spec_l1Cur_degrees18.f s p h = some (v, p', h') ∧ p ≤ p' ∧ p' ≤ p + 4 := by
  obtain ⟨t, p1, h1, v, p2, h2, e1, c1, c2, e2, b⟩ := some_ex (b := 5) h [5, 15, 15, 30, 40, 4, 41] hs hp (by simp) (by simp)
  simp only [spec_l1Cur_degrees18.f, e1, Option.bind_some]
  rw [if_pos c1, if_pos c2, e2]
  exact ⟨_, _, _, rfl, b⟩
theorem wets_l1 {s : List Int} (hs : curOk s) : ∀ (n k : Nat) (x : List S25) (id p h : Int), x.length + n = 12 → n < k → 0 ≤ p → p + 2 * n ≤ 900000 → ∃ x' p' h', spec_l1Cur_wetCarpets.l1 k x id s p h = some (x', p', h') ∧ x'.length ≤ 12 ∧ p ≤ p' ∧ p' ≤ p + 2 * n + 2 := by
  intro n
  induction n with
  | zero =>
    intro k x id p h hx hk h0 h1
    obtain ⟨k, rfl, _⟩ := succ_of hk
    obtain ⟨t, p1, h1', e1, b1, b2, b3⟩ := pick_ex h hs (p := p) (n := 2) (by omega) (by omega)
    have b4 := b3 (by omega)
    simp only [spec_l1Cur_wetCarpets.l1, e1, Option.bind_some]
    rw [w64 (x := 10 + t) (by omega) (by omega), if_neg (by omega)]
    exact ⟨_, _, _, rfl, by omega, by omega, by omega⟩
  | succ n ih =>
    intro k x id p h hx hk h0 h1
    obtain ⟨k, rfl, _⟩ := succ_of hk
    obtain ⟨t, p1, h1', e1, b1, b2, b3⟩ := pick_ex h hs (p := p) (n := 2) (by omega) (by omega)
    have b4 := b3 (by omega)
    simp only [spec_l1Cur_wetCarpets.l1, e1, Option.bind_some]
    rw [w64 (x := 10 + t) (by omega) (by omega)]
    by_cases g : (x.length : Int) < 10 + t
    · rw [if_pos g, if_pos (by omega)]
      obtain ⟨x', p', h', e, c1, c2, c3⟩ := ih k (x ++ [⟨wrap64 (id + 1), 10, 500, 0, 50⟩]) (wrap64 (id + 1)) p1 h1' (by rw [List.length_append, List.length_singleton]; omega) (by omega) (by omega) (by push_cast at h1; omega)
      exact ⟨x', p', h', e, c1, by omega, by push_cast; omega⟩
    · rw [if_neg g]
      exact ⟨_, _, _, rfl, by omega, by omega, by push_cast; omega⟩
theorem wets_l0 {s : List Int} (hs : curOk s) : ∀ (n k : Nat) (x : List S25) (id p h : Int), x.length + n ≤ 6 → n + 20 < k → 0 ≤ p → p + 20 * n ≤ 800000 → ∃ x' p' h', spec_l1Cur_wetCarpets.l0 k x id (n : Int) s p h = some (x', p', h') ∧ x'.length ≤ 12 ∧ p ≤ p' ∧ p' ≤ p + 20 * n + 40 := by
  intro n
  induction n with
  | zero =>
    intro k x id p h hx hk h0 h1
    obtain ⟨k, rfl, _⟩ := succ_of (show 0 < k by omega)
    obtain ⟨b, p1, h1', e1, b1⟩ := one_ex h hs (p := p) (n := 24) (by omega) (by omega)
    simp only [spec_l1Cur_wetCarpets.l0, e1, Option.bind_some]
    rw [if_neg (by omega)]
    cases b
    · simp only [Bool.false_eq_true, if_false]
      exact ⟨_, _, _, rfl, by omega, by omega, by omega⟩
    · simp only [if_true]
      obtain ⟨x', p', h', e, c1, c2, c3⟩ := wets_l1 hs (12 - x.length) k x id p1 h1' (by omega) (by omega) (by omega) (by omega)
      exact ⟨x', p', h', e, c1, by omega, by omega⟩
  | succ n ih =>
    intro k x id p h hx hk h0 h1
    obtain ⟨k, rfl, _⟩ := succ_of (show 0 < k by omega)
    push_cast at h1
    obtain ⟨t1, p1, h1', e1, b1, _⟩ := pick_ex h hs (p := p) (n := 3) (by omega) (by omega)
    obtain ⟨t2, p2, h2', e2, b2, _⟩ := pick_ex h1' hs (p := p1) (n := 80) (by omega) (by omega)
    obtain ⟨a, b, c, d, e, p3, h3', e3, b3⟩ := wetCarpet_ex h2' (wrap64 ((wrap64 ((wrap64 (id + 1)) + t1)) - (wrap64 (Int.tdiv t2 79)))) hs (p := p2) (by omega)
    simp only [spec_l1Cur_wetCarpets.l0, e1, e2, e3, Option.bind_some]
    rw [if_pos (by omega), if_pos (by omega), w64 (x := ((n + 1 : Nat) : Int) - 1) (by omega) (by omega), show ((n + 1 : Nat) : Int) - 1 = (n : Int) by omega]
    obtain ⟨x', p', h', e4, c1, c2, c3⟩ := ih k (x ++ [⟨a, b, c, d, e⟩]) (wrap64 ((wrap64 ((wrap64 (id + 1)) + t1)) - (wrap64 (Int.tdiv t2 79)))) p3 h3' (by rw [List.length_append, List.length_singleton]; omega) (by omega) (by omega) (by omega)
    exact ⟨x', p', h', e4, c1, by omega, by push_cast; omega⟩
theorem wetCarpets_ex {k : Nat} {s : List Int} (h : Int) (hs : curOk s) (hk : 100 < k) : ∃ x' p' h', spec_l1Cur_wetCarpets.f k s 0 h = some (x', p', h') ∧ x'.length ≤ 12 ∧ 0 ≤ p' ∧ p' ≤ 1000 := by
  obtain ⟨t, p1, h1, e1, b1, b2, b3⟩ := pick_ex h hs (p := 0) (n := 7) (by omega) (by omega)
  have b4 := b3 (by omega)
  obtain ⟨n, rfl⟩ := nat_of b2
  obtain ⟨x', p', h', e, c1, c2, c3⟩ := wets_l0 hs n k [] 0 p1 h1 (by simp; omega) (by omega) (by omega) (by omega)
  simp only [spec_l1Cur_wetCarpets.f, e1, Option.bind_some]
  exact ⟨x', p', h', e, c1, by omega, by omega⟩
theorem rWet_refl {k : Nat} {l : List S25} (hk : l.length < k) (hl : l.length ≤ 1048576) : laws_rWet.f k l l = some true := by
  unfold laws_rWet.f
  rw [if_pos rfl]
  exact refl_loop laws_rWet.l0 l (by omega)
    (fun k i h => by simp only [laws_rWet.l0]; rw [if_pos (by omega), if_pos (by omega), if_pos (by omega)]; simp)
    (fun k i h => by simp only [laws_rWet.l0]; rw [if_neg (by omega)])
    l.length k 0 (by omega) hk

end Go.Proofs.Ytdennkmfjkgfhaa.Pure

-- PureFnWashing
namespace Go.Proofs.Ytdennkmfjkgfhaa.Pure
open Go Go.RowKit Go.Proofs Go.Proofs.Ytdennkmfjkgfhaa.X Go.Proofs.YtdennkmfjkgfhaaW.PrintWords Go.Proofs.YtdennkmfjkgfhaaW.PrintLast
set_option linter.unusedVariables false
set_option linter.unusedSimpArgs false

theorem wash_j6 {k : Nat} {l : List Int} (hs : curOk l) (hk : 1000 < k) : laws_FnWashing.j6 k l = some true := by
  obtain ⟨k, rfl, hk2⟩ := succ_of hk
  obtain ⟨x, p1, h1, e1, hx, b1, b2⟩ := wetCarpets_ex (k := k) 0 hs (by omega)
  obtain ⟨n, p2, h2, e2, b3, b4⟩ := wetId_ex (k := k) h1 x (by omega) hs (p := p1) (by omega) (by omega)
  obtain ⟨t, p3, h3, s, p4, h4, e3, c1, c2, e4, _⟩ := some_ex (b := 4) h2 [1, 2, 5, 20, 0, 21] hs (p := p2) (by omega) (by simp) (by simp)
  have hd : spec_DrawShearCarpet.f k l = some (x, n, s) := by
    simp only [spec_DrawShearCarpet.f, e1, e2, e3, Option.bind_some]
    rw [if_pos c1, if_pos c2, e4]; rfl
  have hlen := shearWM_len x n s
  simp only [laws_FnWashing.j6, hd, Option.bind_some, shearWI_eq (k := k) (l := x) (by omega) (by omega) n s, shearWS_eq (k := k) (l := x) (by omega) (by omega) n s, bne_self_eq_false, Bool.false_eq_true, if_false, if_true, rWet_refl (k := k) (l := (shearWM x n s).1) (by omega) (by omega), Bool.not_true]
  obtain ⟨k, rfl, hk3⟩ := succ_of hk2
  simp only [laws_FnWashing.j7, Bool.false_eq_true, if_false]
  by_cases g : (shearWM x n s).2.2 = true
  · obtain ⟨a, b, q1, q2, q3, q4⟩ := shear_load g
    simp only [g, if_true, loadI_eq (k := k) (l := x) (by omega) (by omega), loadI_eq (k := k) (l := (shearWM x n s).1) (by omega) (by omega), q1, q2, Option.bind_some]
    rw [w64 (x := a - b) (by omega) (by omega), q3, beq_self_eq_true]
  · rw [if_neg g]
theorem wash_j2 {k : Nat} {l : List Int} (hs : curOk l) (hk : 5000 < k) : laws_FnWashing.j2 k l = some true := by
  obtain ⟨k, rfl, hk2⟩ := succ_of hk
  obtain ⟨i, a, d, w, p, p1, h1, e1, b1⟩ := wetCarpet_ex 0 5 hs (p := 0) (by omega)
  obtain ⟨g, p2, h2, e2, b3, b4⟩ := degrees_ex h1 hs (p := p1) (by omega)
  have hd : spec_DrawHoursFor.f l = some (i, a, d, w, p, g) := by
    simp only [spec_DrawHoursFor.f, e1, e2, Option.bind_some]
  simp only [laws_FnWashing.j2, hd, Option.bind_some, hoursI_eq (k := k) (by omega) i a d w p g, hoursS_eq (k := k) (by omega) i a d w p g, if_true, bne_self_eq_false]
  obtain ⟨k, rfl, hk3⟩ := succ_of hk2
  simp only [laws_FnWashing.j3, Bool.false_eq_true, if_false]
  by_cases hh : (hoursM i a d w p g).2 = true
  · rw [if_pos hh]
    obtain ⟨k, rfl, hk4⟩ := succ_of hk3
    by_cases h1 : (hoursM i a d w p g).1 ≤ 100
    · rw [decide_eq_true h1]
      obtain ⟨q1, q2, q3, q4⟩ := hours_dry hh h1
      simp only [laws_FnWashing.j4, if_true]
      have hl1 : ([(⟨i, a, d, w, p⟩ : S25)]).length = 1 := rfl
      rw [dryI_eq (k := k) (l := [⟨i, a, d, w, p⟩]) (by rw [hl1]; omega) (by rw [hl1]; omega) g _, q3]
      simp only [Option.bind_some, if_true, rHas_eq (k := k) (t := [i]) (by simp; omega) (by simp) i]
      simp only [List.any_cons, List.any_nil, decide_true, Bool.true_or, Bool.or_false, Bool.not_true]
      obtain ⟨k, rfl, hk5⟩ := succ_of hk4
      simp only [laws_FnWashing.j5, Bool.false_eq_true, if_false]
      rw [w64 (x := (hoursM i a d w p g).1 - 1) (by omega) (by omega), dryI_eq (k := k) (l := [⟨i, a, d, w, p⟩]) (by rw [hl1]; omega) (by rw [hl1]; omega) g _]
      simp only [Option.bind_some]
      by_cases h2 : (dryM [⟨i, a, d, w, p⟩] g ((hoursM i a d w p g).1 - 1)).2.2 = true
      · rw [if_pos h2, q4 h2]
        exact wash_j6 hs (by omega)
      · rw [if_neg h2]
        exact wash_j6 hs (by omega)
    · rw [decide_eq_false h1]
      simp only [laws_FnWashing.j4, Bool.false_eq_true, if_false]
      exact wash_j6 hs (by omega)
  · rw [if_neg hh]
    obtain ⟨k, rfl, hk4⟩ := succ_of hk3
    simp only [laws_FnWashing.j4, Bool.false_eq_true, if_false]
    exact wash_j6 hs (by omega)
theorem FnWashing : laws_FnWashing.Pure := by
  intro l hl
  refine ⟨100002, ?_⟩
  simp only [laws_FnWashing.f, laws_rBig.f, Option.bind_some]
  by_cases hbig : (l.length : Int) > 65536
  · rw [decide_eq_true hbig, if_pos rfl]
  rw [decide_eq_false hbig, if_neg (by simp)]
  have hs : curOk l := ⟨by omega, fun y hy => wf8 (hl.2 y hy)⟩
  obtain ⟨x, p1, h1, e1, hx, b1, b2⟩ := wetCarpets_ex (k := 100002) 0 hs (by omega)
  obtain ⟨n, p2, h2, e2, b3, b4⟩ := wetId_ex (k := 100002) h1 x (by omega) hs (p := p1) (by omega) (by omega)
  have hd : spec_DrawSpinCarpet.f 100002 l = some (x, n) := by
    simp only [spec_DrawSpinCarpet.f, spec_DrawWashCarpet.f, e1, e2, Option.bind_some]
  have hlen := spinM_len x n
  have hlen2 := washM_len x n
  simp only [hd, Option.bind_some, spinI_eq (k := 100002) (l := x) (by omega) (by omega) n, spinS_eq (k := 100002) (l := x) (by omega) (by omega) n, bne_self_eq_false, Bool.false_eq_true, if_false, if_true, rWet_refl (k := 100002) (l := (spinM x n).1) (by omega) (by omega), Bool.not_true]
  simp only [laws_FnWashing.j0, Bool.false_eq_true, if_false, washI_eq (k := 100001) (l := x) (by omega) (by omega) n, washS_eq (k := 100001) (l := x) (by omega) (by omega) n, Option.bind_some, bne_self_eq_false, if_true, spin_wash_ok, rWet_refl (k := 100001) (l := (washM x n).1) (by omega) (by omega), Bool.not_true]
  simp only [laws_FnWashing.j1, Bool.false_eq_true, if_false]
  by_cases g : (spinM x n).2.2 = true
  · obtain ⟨a, b, c, q1, q2, q3, q4, q5, q6, q7, q8, q9⟩ := spin_load g
    simp only [g, if_true, loadI_eq (k := 100000) (l := x) (by omega) (by omega), loadI_eq (k := 100000) (l := (spinM x n).1) (by omega) (by omega), loadI_eq (k := 100000) (l := (washM x n).1) (by omega) (by omega), q1, q2, q3, Option.bind_some, AreWetCarpets_eq (k := 100000) (l := (washM x n).1) (by omega) (by omega), q6]
    rw [w64 (x := a - b) (by omega) (by omega), w64 (x := c - a) (by omega) (by omega), if_pos q4, if_pos q5]
    exact wash_j2 hs (by omega)
  · rw [if_neg g]
    exact wash_j2 hs (by omega)

end Go.Proofs.Ytdennkmfjkgfhaa.Pure

-- Open
namespace Go.Proofs.Open
open Go.RowKit Go.WideShapes Go.Proofs.YtdennkmfjkgfhaaW.PrintWords
set_option linter.unusedVariables false

theorem mapM_cons_some {α β : Type} {f : α → Option β} {a : α} {l : List α} {ys : List β} (h : (a :: l).mapM f = some ys) : ∃ y ys', f a = some y ∧ l.mapM f = some ys' ∧ ys = y :: ys' := by
  rw [List.mapM_cons] at h
  obtain ⟨y, hy, h⟩ := Option.bind_eq_some_iff.mp h
  obtain ⟨ys', hys, h⟩ := Option.bind_eq_some_iff.mp h
  exact ⟨y, ys', hy, hys, (Option.some.inj h).symm⟩
theorem mapM_some_get {α β : Type} {f : α → Option β} : ∀ {l : List α} {ys : List β}, l.mapM f = some ys → ys.length = l.length ∧ ∀ (i : Nat) (a : α), l[i]? = some a → ∃ y, f a = some y ∧ ys[i]? = some y
  | [], ys, h => by
    obtain rfl : ys = [] := by simpa using h
    exact ⟨rfl, fun i a h => by simp at h⟩
  | a :: l, ys, h => by
    obtain ⟨y, ys', hy, hys, rfl⟩ := mapM_cons_some h
    obtain ⟨hl, hg⟩ := mapM_some_get hys
    refine ⟨by simp [hl], fun i b hb => ?_⟩
    cases i with
    | zero => obtain rfl : a = b := by simpa using hb
              exact ⟨y, hy, rfl⟩
    | succ i => exact hg i b (by simpa using hb)
theorem cells_get {w : World} {base n : Nat} {a : Addr} {cs : List Value} (h : w.cells? base a n = some cs) : cs.length = n ∧ ∀ i u, cs[i]? = some u → w.cell? (a.add i) = some u := by
  unfold World.cells? at h
  split at h
  · obtain ⟨hl, hg⟩ := mapM_some_get h
    rw [List.length_range] at hl
    refine ⟨hl, fun i u hu => ?_⟩
    have hi : i < n := by have := (List.getElem?_eq_some_iff.1 hu).1; omega
    obtain ⟨y, hy, hy2⟩ := hg i i (by simp [List.getElem?_range hi])
    rw [hu] at hy2
    injection hy2 with hy2
    rw [hy2]; exact hy
  · cases h
theorem add_add (a : Addr) (i j : Nat) : (a.add i).add j = a.add (i + j) := by
  by_cases hi : i = 0
  · subst hi
    rw [Nat.zero_add, show a.add 0 = a by unfold Addr.add; simp]
  · by_cases hj : j = 0
    · subst hj
      rw [Nat.add_zero, show (a.add i).add 0 = a.add i by unfold Addr.add; simp]
    · unfold Addr.add
      simp [hi, hj, Nat.add_assoc]
/-- Whatever reads as a datum of type t is an x of kind d, within ok. -/
structure Opens {α : Type} (P : Program) (W : World) (t : TypeId) (d : Kd α) (ok : α → Prop) : Prop where
  get : ∀ {H : Type} (enc : TypeId × Value → H) (base : Nat) (spare : Nat → Bool) (held : Bool) (fuel : Nat) (cs : List Value) (y : DataW H × List MemPlace), DataW.trod enc P W base spare held fuel t cs = some y → ∃ x, d.K W x cs ∧ ok x
theorem Opens.int {P : Program} {W : World} {t : TypeId} {k : IntKind} (hu : P.underlying t = some (.int k)) : Opens P W t (Kd.int k) (fun x => (Lit.int k x).wf = true) := ⟨by
  intro H enc base spare held fuel cs y h
  cases fuel with
  | zero => simp [DataW.trod] at h
  | succ fuel =>
    simp only [DataW.trod, hu] at h
    split at h <;> first | (cases h; done) | skip
    all_goals rename_i heq
    all_goals first | (cases heq; done) | skip
    rename_i k0 k' n
    injection heq with heq
    injection heq with heq
    subst heq
    split at h
    · rename_i hk
      obtain ⟨rfl, hw⟩ := hk
      exact ⟨n, rfl, hw⟩
    · cases h⟩
theorem Opens.bool {P : Program} {W : World} {t : TypeId} (hu : P.underlying t = some .bool) : Opens P W t Kd.bool (fun _ => True) := ⟨by
  intro H enc base spare held fuel cs y h
  cases fuel with
  | zero => simp [DataW.trod] at h
  | succ fuel =>
    simp only [DataW.trod, hu] at h
    split at h <;> first | (cases h; done) | skip
    all_goals rename_i heq
    all_goals first | (cases heq; done) | skip
    rename_i b
    exact ⟨b, rfl, trivial⟩⟩
theorem Opens.string {P : Program} {W : World} {t : TypeId} (hu : P.underlying t = some .string) : Opens P W t Kd.string (fun s => s.size ≤ 9223372036854775807) := ⟨by
  intro H enc base spare held fuel cs y h
  cases fuel with
  | zero => simp [DataW.trod] at h
  | succ fuel =>
    simp only [DataW.trod, hu] at h
    split at h <;> first | (cases h; done) | skip
    all_goals rename_i heq
    all_goals first | (cases heq; done) | skip
    rename_i s
    split at h
    · rename_i hs
      exact ⟨s, rfl, by simpa [maxLen] using hs⟩
    · cases h⟩
theorem pick {α : Type} {n : Nat} {Q : Nat → α → Prop} (h : ∀ i, i < n → ∃ x, Q i x) : ∃ xs : List α, xs.length = n ∧ ∀ i x, xs[i]? = some x → Q i x := by
  induction n with
  | zero => exact ⟨[], rfl, fun i x h => by simp at h⟩
  | succ n ih =>
    obtain ⟨xs, hl, hq⟩ := ih (fun i hi => h i (by omega))
    obtain ⟨x, hx⟩ := h n (by omega)
    refine ⟨xs ++ [x], by simp [hl], fun i z hz => ?_⟩
    by_cases hi : i < n
    · rw [List.getElem?_append_left (by omega)] at hz
      exact hq i z hz
    · have hlt := (List.getElem?_eq_some_iff.1 hz).1
      simp [hl] at hlt
      obtain rfl : i = n := by omega
      rw [List.getElem?_append_right (by omega), hl, Nat.sub_self] at hz
      obtain rfl : x = z := by simpa using hz
      exact hx
theorem Opens.slice {α : Type} {P : Program} {W : World} {t e : TypeId} {d : Kd α} {ok : α → Prop} (hu : P.underlying t = some (.slice e)) (hc : P.cellsOf e = d.sz) (h : Opens P W e d ok) :
    Opens P W t (Kd.slice e d) (fun l => l.length ≤ 9223372036854775807 ∧ ∀ x ∈ l, ok x) := ⟨by
  intro H enc base spare held fuel cs y hd
  cases fuel with
  | zero => simp [DataW.trod] at hd
  | succ fuel =>
    simp only [DataW.trod, hu] at hd
    split at hd <;> first | (cases hd; done) | skip
    all_goals rename_i heq
    all_goals first | (cases heq; done) | skip
    · exact ⟨[], ⟨none, 0, rfl, Nat.le_refl _, rfl, by simp, fun hp => absurd hp (by simp)⟩, by simp, fun x hx => by simp at hx⟩
    · rename_i e' a len cap
      injection heq with heq
      injection heq with heq
      subst heq
      split at hd
      · rename_i hb
        obtain ⟨hb1, hb2, hb3⟩ := hb
        obtain ⟨elems, hel, _⟩ := Option.bind_eq_some_iff.mp hd
        obtain ⟨hl, hg⟩ := mapM_some_get hel
        rw [List.length_range] at hl
        have hm : len ≤ 9223372036854775807 := by have : cap ≤ 9223372036854775807 := by simpa [maxLen] using hb3
                                                  omega
        obtain ⟨xs, hxl, hxs⟩ := pick (n := len) (Q := fun i x => ∃ c, c.length = d.sz ∧ d.K W x c ∧ ok x ∧ ∀ j u, c[j]? = some u → W.cell? (a.add (i * d.sz + j)) = some u) (fun i hi => by
          obtain ⟨z, hz, _⟩ := hg i i (by simp [List.getElem?_range hi])
          obtain ⟨c, hcc, hct⟩ := Option.bind_eq_some_iff.mp hz
          obtain ⟨x, hK, hok⟩ := h.get enc base spare held fuel c z hct
          obtain ⟨hcl, hcell⟩ := cells_get hcc
          refine ⟨x, c, by rw [hcl, hc], hK, hok, fun j u hu => ?_⟩
          have := hcell j u hu
          rw [add_add, hc] at this
          exact this)
        refine ⟨xs, ⟨some a, cap, by rw [hxl], by omega, rfl, by omega, fun _ => ⟨a, rfl, fun j p hj => ?_⟩⟩, by omega, fun x hx => ?_⟩
        · obtain ⟨c, h1, h2, h3, h4⟩ := hxs j p hj
          exact ⟨c, h1, h2, h4⟩
        · obtain ⟨j, hj, rfl⟩ := List.mem_iff_getElem.mp hx
          obtain ⟨c, h1, h2, h3, h4⟩ := hxs j _ (List.getElem?_eq_getElem hj)
          exact h3
      · cases hd⟩
/-- The fields from an offset on. -/
structure OpensAt {α : Type} (P : Program) (W : World) (fs : List Field) (off : Nat) (d : Kd α) (ok : α → Prop) : Prop where
  get : ∀ {H : Type} (enc : TypeId × Value → H) (base : Nat) (spare : Nat → Bool) (held : Bool) (fuel : Nat) (cs : List Value) (ys : List (DataW H × List MemPlace)), cs.length = off + d.sz →
    (fs.mapM fun f => DataW.trod enc P W base spare held fuel f.type ((cs.drop f.offset).take (P.cellsOf f.type))) = some ys → ∃ x, d.K W x (cs.drop off) ∧ ok x
theorem OpensAt.one {α : Type} {P : Program} {W : World} {f : Field} {off : Nat} {d : Kd α} {ok : α → Prop} (ho : f.offset = off) (hc : P.cellsOf f.type = d.sz) (h : Opens P W f.type d ok) : OpensAt P W [f] off d ok := ⟨by
  intro H enc base spare held fuel cs ys hl hm
  obtain ⟨y, _, hy, _, _⟩ := mapM_cons_some hm
  rw [ho, hc, List.take_of_length_le (by rw [List.length_drop]; omega)] at hy
  exact h.get enc base spare held fuel _ y hy⟩
theorem OpensAt.cons {α β : Type} {P : Program} {W : World} {f : Field} {fs : List Field} {off : Nat} {d : Kd α} {d2 : Kd β} {ok : α → Prop} {ok2 : β → Prop} (ho : f.offset = off) (hc : P.cellsOf f.type = d.sz) (h : Opens P W f.type d ok) (h2 : OpensAt P W fs (off + d.sz) d2 ok2) :
    OpensAt P W (f :: fs) off (Kd.pair d d2) (fun x => ok x.1 ∧ ok2 x.2) := ⟨by
  intro H enc base spare held fuel cs ys hl hm
  have hl2 : cs.length = off + (d.sz + d2.sz) := hl
  obtain ⟨y, ys', hy, hys, _⟩ := mapM_cons_some hm
  rw [ho, hc] at hy
  obtain ⟨x, hK, hok⟩ := h.get enc base spare held fuel _ y hy
  obtain ⟨x2, hK2, hok2⟩ := h2.get enc base spare held fuel cs ys' (by omega) hys
  refine ⟨(x, x2), ⟨(cs.drop off).take d.sz, cs.drop (off + d.sz), ?_, hK, hK2⟩, hok, hok2⟩
  rw [← List.drop_drop, List.take_append_drop]⟩
theorem Opens.struct {α : Type} {P : Program} {W : World} {t : TypeId} {fs : Array Field} {d : Kd α} {ok : α → Prop} (hu : P.underlying t = some (.struct fs)) (hc : P.cellsOf t = d.sz) (h : OpensAt P W fs.toList 0 d ok) : Opens P W t d ok := ⟨by
  intro H enc base spare held fuel cs y hd
  cases fuel with
  | zero => simp [DataW.trod] at hd
  | succ fuel =>
    simp only [DataW.trod, hu] at hd
    split at hd
    · rename_i hl
      obtain ⟨ys, hys, _⟩ := Option.map_eq_some_iff.mp hd
      exact h.get enc base spare held fuel cs ys (by omega) hys
    · cases hd⟩
theorem Opens.iso {α β : Type} {P : Program} {W : World} {t : TypeId} {d : Kd α} {f : β → α} {ok : α → Prop} (h : Opens P W t d ok) (g : α → β) (hg : ∀ x, f (g x) = x) : Opens P W t (Kd.iso d f) (fun y => ok (f y)) := ⟨by
  intro H enc base spare held fuel cs y hd
  obtain ⟨x, hK, hok⟩ := h.get enc base spare held fuel cs y hd
  refine ⟨g x, ?_, ?_⟩
  · show d.K W (f (g x)) cs
    rw [hg]; exact hK
  · rw [hg]; exact hok⟩
theorem wf_i64 {x : Int} (h : (Lit.int .i64 x).wf = true) : -9223372036854775808 ≤ x ∧ x ≤ 9223372036854775807 := by
  have h1 := h
  simp [Lit.wf] at h1
  exact ⟨h1.1, h1.2⟩
end Go.Proofs.Open

-- XOpens
namespace Go.Proofs.Ytdennkmfjkgfhaa.X
open Ho (bS eS)
open Go.RowKit Go.Proofs.YtdennkmfjkgfhaaW.PrintWords Go.Proofs.YtdennkmfjkgfhaaW.PrintLast Go.Proofs.YtdennkmfjkgfhaaW.PrintMore
attribute [local go_sem] max2_int min2_int max_two min_two max_three min_three max_four min_four   -- for this text's walks alone
set_option linter.unusedVariables false
set_option linter.unusedSimpArgs false

def ok23 (x : S23) : Prop := (Lit.int .i64 x.f0).wf = true ∧ (Lit.int .i64 x.f1).wf = true ∧ (Lit.int .i64 x.f2).wf = true ∧ (Lit.int .i64 x.f3).wf = true ∧ (Lit.int .i64 x.f4).wf = true
theorem opens23 (W : World) : Open.Opens Try.prog W 23 k23 ok23 := ⟨fun enc base spare held fuel cs y h => by
  obtain ⟨x, hK, hok⟩ := (Open.Opens.iso (f := fun x : S23 => (x.f0, x.f1, x.f2, x.f3, x.f4)) (Open.Opens.struct Try.underlying23 (by kernel_rfl) (Open.OpensAt.cons rfl (by kernel_rfl) (Open.Opens.int Try.underlying3) (Open.OpensAt.cons rfl (by kernel_rfl) (Open.Opens.int Try.underlying3) (Open.OpensAt.cons rfl (by kernel_rfl) (Open.Opens.int Try.underlying3) (Open.OpensAt.cons rfl (by kernel_rfl) (Open.Opens.int Try.underlying3) (Open.OpensAt.one rfl (by kernel_rfl) (Open.Opens.int Try.underlying3))))))) (fun x => ⟨x.1, x.2.1, x.2.2.1, x.2.2.2.1, x.2.2.2.2⟩) (fun x => rfl)).get enc base spare held fuel cs y h
  exact ⟨x, hK, hok⟩⟩
end Go.Proofs.Ytdennkmfjkgfhaa.X
