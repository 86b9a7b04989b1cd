/- What the law FnWashing needs, part 2 of 4: what each function of the program that it reaches returns (printed by this session's own program, checked by Lean), and plain mathematics about it. Conditions: those of each theorem. -/
import Derived.Test.YtdennkmfjkgfhaaZFnWashing0
-- XimplceilDivF76
namespace Go.Proofs.Ytdennkmfjkgfhaa.X
open Ho (bS eS)
open Go.RowKit Go.Proofs.YtdennkmfjkgfhaaW.PrintWords Go.Proofs.YtdennkmfjkgfhaaW.PrintLast Go.Proofs.YtdennkmfjkgfhaaW.PrintMore
attribute [local go_sem] max2_int min2_int max_two min_two max_three min_three max_four min_four   -- for this text's walks alone
set_option linter.unusedVariables false
set_option linter.unusedSimpArgs false
open Sq (I O Z)

/-! ### impl_ceilDiv: function 76 -/
def impl_ceilDiv.f (a0 : Int) (a1 : Int) : Option (Int) := if a1 = 0 then (none) else (some (wrap64 (Int.tdiv (wrap64 ((wrap64 (a0 + a1)) - 1)) a1)))
set_option maxHeartbeats 8000000 in
set_option maxRecDepth 100000 in
theorem impl_ceilDiv.calls (a0 : Int) (a1 : Int) (r : Int) (w : World) (h : impl_ceilDiv.f a0 a1 = some r) :
  Calls Try.prog 76 #[.int .i64 a0, .int .i64 a1] w fun e w' => e = .returned (.int .i64 r) ∧ Drawn0 w w' := by
 have H : (if a1 = 0 then (none) else (some (wrap64 (Int.tdiv (wrap64 ((wrap64 (a0 + a1)) - 1)) a1)))) = some r := h
 clear h
 by_cases c3 : a1 = 0
 ·rw [if_pos c3] at H
  exact absurd H (by simp)
 ·rw [if_neg c3] at H
  have c3b0 : (a1 == 0) = false := beq_eq_false_iff_ne.mpr c3
  have c3b1 : (a1 != 0) = true := bne_iff_ne.mpr c3
  obtain rfl := Option.some.inj H
  go_enter Try.func76, Try.ntmps76
  go_wp2
  go_ret
  exact ⟨by first | rfl | (simp; done) | (simp [*]; done), by repeat (first | exact Drawn0.refl _ | apply Drawn0.step)⟩

end Go.Proofs.Ytdennkmfjkgfhaa.X

-- XimplSpinCarpetF36
namespace Go.Proofs.Ytdennkmfjkgfhaa.X
open Ho (bS eS)
open Go.RowKit Go.Proofs.YtdennkmfjkgfhaaW.PrintWords Go.Proofs.YtdennkmfjkgfhaaW.PrintLast Go.Proofs.YtdennkmfjkgfhaaW.PrintMore
attribute [local go_sem] max2_int min2_int max_two min_two max_three min_three max_four min_four   -- for this text's walks alone
set_option linter.unusedVariables false
set_option linter.unusedSimpArgs false
open Sq (I O Z)

attribute [local go_sem ↓] Ho.isSome_setCell_   -- a store leaves all places there
/-! ### impl_SpinCarpet: function 36 -/
def impl_SpinCarpet.f (k : Nat) (l0 : List (S25)) (a1 : Int) : Option ((List (S25)) × Int × Bool) := (impl_findCarpet.f k l0 a1).bind fun t101 => (if t101 < 0 then (some (([] : List (S25)), 0, false)) else (if 0 ≤ t101 then (if t101 < (l0.length : Int) then ((impl_ceilDiv.f ((rd_T25 l0 t101).f3) 2).bind fun t104 => ((impl_withCarpet.f l0 t101 ((rd_T25 l0 t101).f0) ((rd_T25 l0 t101).f1) ((rd_T25 l0 t101).f2) (wrap64 (((rd_T25 l0 t101).f3) - t104)) ((rd_T25 l0 t101).f4)).bind fun t105 => (some (t105, t104, true)))) else (none)) else (none)))
theorem impl_SpinCarpet.mono : ∀ a0 a1 k, LeO (impl_SpinCarpet.f k a0 a1) (impl_SpinCarpet.f (k + 1) a0 a1) := by
  intro a0 a1 k
  unfold impl_SpinCarpet.f
  repeat' first
      | (with_reducible exact impl_findCarpet.mono _ _ _)
      | (with_reducible exact LeO.refl _)
      | (with_reducible exact LeO.none _)
      | (with_reducible refine LeO.ite ?_ ?_)
      | (with_reducible refine LeO.bind ?_ (fun _ => ?_))
      | exact impl_findCarpet.mono _ _ _
      | exact LeO.none _
      | refine LeO.ite ?_ ?_
      | refine LeO.bind ?_ (fun _ => ?_)
set_option maxHeartbeats 8000000 in
set_option maxRecDepth 100000 in
theorem impl_SpinCarpet.calls (k : Nat) (A0 : Option Addr) (c0 : Nat) (l0 : List (S25)) (a1 : Int) (r1 : List (S25)) (r2 : Int) (r3 : Bool) (w : World) (hr0 : Kd.C k25 w A0 l0.length l0) (hc0 : l0.length ≤ c0) (h : impl_SpinCarpet.f k l0 a1 = some (r1, r2, r3)) :
  Calls Try.prog 36 #[.slice A0 l0.length c0, .int .i64 a1] w fun e w' => ∃ v0_ : Value, e = .returned (.tuple #[v0_, .int .i64 r2, .bool r3]) ∧ Kd.R k25 25 w' w.heap.size (fun _ => True) v0_ r1 ∧ Below w.heap.size w w' := by
 have hu25 := Try.underlying25
 have HR0 := Aside0.mk hr0
 have HC0 := Aside0.mk hc0
 clear hr0 hc0
 have HB := Aside0.mk (Below.refl w.heap.size w)
 have H : ((impl_findCarpet.f k l0 a1).bind fun t101 => (if t101 < 0 then (some (([] : List (S25)), 0, false)) else (if 0 ≤ t101 then (if t101 < (l0.length : Int) then ((impl_ceilDiv.f ((rd_T25 l0 t101).f3) 2).bind fun t104 => ((impl_withCarpet.f l0 t101 ((rd_T25 l0 t101).f0) ((rd_T25 l0 t101).f1) ((rd_T25 l0 t101).f2) (wrap64 (((rd_T25 l0 t101).f3) - t104)) ((rd_T25 l0 t101).f4)).bind fun t105 => (some (t105, t104, true)))) else (none)) else (none)))) = some (r1, r2, r3) := h
 clear h
 replace H := Option.bind_eq_some_iff.mp H
 obtain ⟨t101, A30, H⟩ := H
 replace H : (if t101 < 0 then (some (([] : List (S25)), 0, false)) else (if 0 ≤ t101 then (if t101 < (l0.length : Int) then ((impl_ceilDiv.f ((rd_T25 l0 t101).f3) 2).bind fun t104 => ((impl_withCarpet.f l0 t101 ((rd_T25 l0 t101).f0) ((rd_T25 l0 t101).f1) ((rd_T25 l0 t101).f2) (wrap64 (((rd_T25 l0 t101).f3) - t104)) ((rd_T25 l0 t101).f4)).bind fun t105 => (some (t105, t104, true)))) else (none)) else (none))) = some (r1, r2, r3) := H
 have A3 := Aside0.mk A30
 clear A30
 by_cases c4 : t101 < 0
 ·rw [if_pos c4] at H
  have c4b0 : decide (t101 < 0) = true := decide_eq_true c4
  clear c4
  simp only [Option.some.injEq, Prod.mk.injEq] at H
  obtain ⟨rfl, rfl, rfl⟩ := H
  go_enter Try.func36, Try.ntmps36
  go_wp2_with (first | ((with_reducible refine gate_callee (f := 74) rfl ?_); refine goesL_ (some 12) rfl rfl Try.func74 (by kernel_rfl) rfl #[.slice A0 l0.length c0, .int .i64 a1] rfl (by (try simp only [List.map_toArray, List.map_cons, List.map_nil]); first | done | rfl | (simp only [List.length_drop, List.length_take]; rfl)) ?_; (with_reducible refine (impl_findCarpet.calls k _ _ l0 a1 t101 _ ?side1 ?side2 A3.out).mono ?_); (case side1 => repeat (first | exact HR0.out | (with_reducible refine Kd.C_alloc ?_ _) | (with_reducible refine Kd.C_drewN ?_ _) | (with_reducible refine Kd.C_drew ?_))); (case side2 => exact HC0.out); rintro e w5 ⟨rfl, hb⟩; refine ⟨_, rfl, ?_⟩; have n0_ := Aside0.mk (below_step (by exact eS HB.out) hb); clear HB; have HB := n0_; clear n0_; (try clear hb); (try clear hb2); (try clear hk); (try clear hi)))
  go_ret3
  exact ⟨_, by first | rfl | (simp [errW_none, errW_some] <;> rfl) | (simp [*, errW_none, errW_some] <;> rfl), by first | exact Kd.R_nil _ _ _ _ _ | exact Kd.N_nil _ _ _ _ _ | exact Kd.V_nil _ _ _ _ _ | exact Kd.Q_nil _ _ _ _ _ | exact Kd.S_nil _ _ _ _ _, by exact eS HB.out⟩
 ·rw [if_neg c4] at H
  have c4b0 : decide (t101 < 0) = false := decide_eq_false c4
  clear c4
  by_cases c6 : 0 ≤ t101
  ·rw [if_pos c6] at H
   have c6b0 : decide (0 ≤ t101) = true := decide_eq_true c6
   clear c6
   by_cases c7 : t101 < (l0.length : Int)
   ·rw [if_pos c7] at H
    have c7b0 : decide (t101 < (l0.length : Int)) = true := decide_eq_true c7
    clear c7
    replace H := Option.bind_eq_some_iff.mp H
    obtain ⟨t104, A80, H⟩ := H
    replace H : ((impl_withCarpet.f l0 t101 ((rd_T25 l0 t101).f0) ((rd_T25 l0 t101).f1) ((rd_T25 l0 t101).f2) (wrap64 (((rd_T25 l0 t101).f3) - t104)) ((rd_T25 l0 t101).f4)).bind fun t105 => (some (t105, t104, true))) = some (r1, r2, r3) := H
    have A8 := Aside0.mk A80
    clear A80
    replace H := Option.bind_eq_some_iff.mp H
    obtain ⟨t105, A90, H⟩ := H
    replace H : (some (t105, t104, true)) = some (r1, r2, r3) := H
    have A9 := Aside0.mk A90
    clear A90
    simp only [Option.some.injEq, Prod.mk.injEq] at H
    obtain ⟨rfl, rfl, rfl⟩ := H
    go_enter Try.func36, Try.ntmps36
    go_wp2_with (first | ((with_reducible refine gate_callee (f := 74) rfl ?_); refine goesL_ (some 12) rfl rfl Try.func74 (by kernel_rfl) rfl #[.slice A0 l0.length c0, .int .i64 a1] rfl (by (try simp only [List.map_toArray, List.map_cons, List.map_nil]); first | done | rfl | (simp only [List.length_drop, List.length_take]; rfl)) ?_; (with_reducible refine (impl_findCarpet.calls k _ _ l0 a1 t101 _ ?side1 ?side2 A3.out).mono ?_); (case side1 => repeat (first | exact HR0.out | (with_reducible refine Kd.C_alloc ?_ _) | (with_reducible refine Kd.C_drewN ?_ _) | (with_reducible refine Kd.C_drew ?_))); (case side2 => exact HC0.out); rintro e w10 ⟨rfl, hb⟩; refine ⟨_, rfl, ?_⟩; have n0_ := Aside0.mk (below_step (by exact eS HB.out) hb); clear HB; have HB := n0_; clear n0_; (try clear hb); (try clear hb2); (try clear hk); (try clear hi); have p102 : 0 ≤ (t101 : Int) := of_decide_eq_true (by first | (with_reducible assumption) | assumption); have q102 : t101 < (l0.length : Int) := of_decide_eq_true (by first | (with_reducible assumption) | assumption); obtain ⟨ad102, e102, hx102_0, hx102_1, hx102_2, hx102_3, hx102_4⟩ := at_T25 HR0.out t101 p102 q102; cases e102; replace hx102_0 := (HB.out.cell (World.block_lt_of_cell? w _ hx102_0)).trans hx102_0; replace hx102_1 := (HB.out.cell (World.block_lt_of_cell? w _ hx102_1)).trans hx102_1; replace hx102_2 := (HB.out.cell (World.block_lt_of_cell? w _ hx102_2)).trans hx102_2; replace hx102_3 := (HB.out.cell (World.block_lt_of_cell? w _ hx102_3)).trans hx102_3; replace hx102_4 := (HB.out.cell (World.block_lt_of_cell? w _ hx102_4)).trans hx102_4; replace p102 := eq_true p102; replace q102 := eq_true q102) | ((with_reducible refine gate_dst (N := 8) rfl ?_); refine box_event ?hg (N := 8) ?hd (cs := #[.int .i64 0, .int .i64 0, .int .i64 0, .int .i64 0, .int .i64 0]) (t := 25) ?hr ?_; (case hd => rfl); (case hg => rfl); (case hr => first | (go_simp; done) | (go_simp; rfl)); intro gb103 hg w11 hbox hb; have n0_ := Aside0.mk (below_step (by exact eS HB.out) hb); have n1_ := Aside0.mk (hbox); have n2_ := Aside0.mk ((by rw [hg]; exact (below_size (by exact eS HB.out)) : w.heap.size ≤ gb103)); have n3_ := Aside0.mk ((by rw [hg]; exact (below_size (by exact eS HB.out)) : w.heap.size ≤ gb103)); clear HB; have HB := n0_; have BK103 := n1_; have GW103 := n2_; have GE103 := n3_; clear n0_ n1_ n2_ n3_; clear hb hbox hg; have hcz12_0 : w11.cell? ⟨gb103, 0, none⟩ = some (.int .i64 0) := (blk_cell BK103.out 0).trans rfl; have hcz12_1 : w11.cell? ⟨gb103, 1, none⟩ = some (.int .i64 0) := (blk_cell BK103.out 1).trans rfl; have hcz12_2 : w11.cell? ⟨gb103, 2, none⟩ = some (.int .i64 0) := (blk_cell BK103.out 2).trans rfl; have hcz12_3 : w11.cell? ⟨gb103, 3, none⟩ = some (.int .i64 0) := (blk_cell BK103.out 3).trans rfl; have hcz12_4 : w11.cell? ⟨gb103, 4, none⟩ = some (.int .i64 0) := (blk_cell BK103.out 4).trans rfl; have hfz12_0 := blk_frozen BK103.out 0; have hfz12_1 := blk_frozen BK103.out 1; have hfz12_2 := blk_frozen BK103.out 2; have hfz12_3 := blk_frozen BK103.out 3; have hfz12_4 := blk_frozen BK103.out 4) | ((with_reducible refine gate_callee (f := 76) rfl ?_); refine goesL_ (some 21) rfl rfl Try.func76 (by kernel_rfl) rfl #[.int .i64 ((rd_T25 l0 t101).f3), .int .i64 2] rfl (by (try simp only [List.map_toArray, List.map_cons, List.map_nil]); first | done | rfl | (simp only [List.length_drop, List.length_take]; rfl)) ?_; (with_reducible refine (impl_ceilDiv.calls ((rd_T25 l0 t101).f3) 2 t104 _ A8.out).mono ?_); rintro e w' ⟨rfl, ⟨nd, rfl⟩⟩; refine ⟨_, rfl, ?_⟩) | ((with_reducible refine gate_callee (f := 75) rfl ?_); refine goesL_ (some 30) rfl rfl Try.func75 (by kernel_rfl) rfl #[.slice (some ad102) l0.length c0, .int .i64 t101, .agg #[.int .i64 ((rd_T25 l0 t101).f0), .int .i64 ((rd_T25 l0 t101).f1), .int .i64 ((rd_T25 l0 t101).f2), .int .i64 (wrap64 (((rd_T25 l0 t101).f3) - t104)), .int .i64 ((rd_T25 l0 t101).f4)]] rfl (by (try simp only [List.map_toArray, List.map_cons, List.map_nil]); first | done | rfl | (simp only [List.length_drop, List.length_take]; rfl)) ?_; (with_reducible refine (impl_withCarpet.calls _ _ l0 t101 ((rd_T25 l0 t101).f0) ((rd_T25 l0 t101).f1) ((rd_T25 l0 t101).f2) (wrap64 (((rd_T25 l0 t101).f3) - t104)) ((rd_T25 l0 t101).f4) t105 _ ?side1 ?side2 A9.out).mono ?_); (case side1 => exact Kd.C_below HR0.out (by repeat (first | (with_reducible first | exact HB.out | apply below_alloc | apply pw_below_drewN | apply below_drew1 | refine below_set ?_ GE103.out) | exact HB.out))); (case side2 => exact HC0.out); rintro e w13 ⟨v106, rfl, ho0, hb⟩; refine ⟨_, rfl, ?_⟩; have n0_ := Aside0.mk (Kd.R_lower (Kd.R_newB ho0 (g := gb103) (o := .cells #[.int .i64 ((rd_T25 l0 t101).f0), .int .i64 ((rd_T25 l0 t101).f1), .int .i64 ((rd_T25 l0 t101).f2), .int .i64 (wrap64 (((rd_T25 l0 t101).f3) - t104)), .int .i64 ((rd_T25 l0 t101).f4)] 25 (0, 0)) (by (with_reducible repeat (first | refine blk_drewN ?_ _ | refine blk_drew ?_ | refine blk_alloc ?_ _)); refine blk_put (cs := #[.int .i64 ((rd_T25 l0 t101).f0), .int .i64 ((rd_T25 l0 t101).f1), .int .i64 ((rd_T25 l0 t101).f2), .int .i64 ((rd_T25 l0 t101).f3), .int .i64 ((rd_T25 l0 t101).f4)]) ?_ 3 _ rfl; (with_reducible repeat (first | refine blk_drewN ?_ _ | refine blk_drew ?_ | refine blk_alloc ?_ _)); refine blk_put (cs := #[.int .i64 ((rd_T25 l0 t101).f0), .int .i64 ((rd_T25 l0 t101).f1), .int .i64 ((rd_T25 l0 t101).f2), .int .i64 ((rd_T25 l0 t101).f3), .int .i64 0]) ?_ 4 _ rfl; (with_reducible repeat (first | refine blk_drewN ?_ _ | refine blk_drew ?_ | refine blk_alloc ?_ _)); refine blk_put (cs := #[.int .i64 ((rd_T25 l0 t101).f0), .int .i64 ((rd_T25 l0 t101).f1), .int .i64 ((rd_T25 l0 t101).f2), .int .i64 0, .int .i64 0]) ?_ 3 _ rfl; (with_reducible repeat (first | refine blk_drewN ?_ _ | refine blk_drew ?_ | refine blk_alloc ?_ _)); refine blk_put (cs := #[.int .i64 ((rd_T25 l0 t101).f0), .int .i64 ((rd_T25 l0 t101).f1), .int .i64 0, .int .i64 0, .int .i64 0]) ?_ 2 _ rfl; (with_reducible repeat (first | refine blk_drewN ?_ _ | refine blk_drew ?_ | refine blk_alloc ?_ _)); refine blk_put (cs := #[.int .i64 ((rd_T25 l0 t101).f0), .int .i64 0, .int .i64 0, .int .i64 0, .int .i64 0]) ?_ 1 _ rfl; (with_reducible repeat (first | refine blk_drewN ?_ _ | refine blk_drew ?_ | refine blk_alloc ?_ _)); refine blk_put (cs := #[.int .i64 0, .int .i64 0, .int .i64 0, .int .i64 0, .int .i64 0]) ?_ 0 _ rfl; exact bS BK103.out)) (below_size (by repeat (first | (with_reducible first | exact HB.out | apply below_alloc | apply pw_below_drewN | apply below_drew1 | refine below_set ?_ GE103.out) | exact HB.out)))); have n1_ := Aside0.mk (blk_below (g := gb103) (o := .cells #[.int .i64 ((rd_T25 l0 t101).f0), .int .i64 ((rd_T25 l0 t101).f1), .int .i64 ((rd_T25 l0 t101).f2), .int .i64 (wrap64 (((rd_T25 l0 t101).f3) - t104)), .int .i64 ((rd_T25 l0 t101).f4)] 25 (0, 0)) (by (with_reducible repeat (first | refine blk_drewN ?_ _ | refine blk_drew ?_ | refine blk_alloc ?_ _)); refine blk_put (cs := #[.int .i64 ((rd_T25 l0 t101).f0), .int .i64 ((rd_T25 l0 t101).f1), .int .i64 ((rd_T25 l0 t101).f2), .int .i64 ((rd_T25 l0 t101).f3), .int .i64 ((rd_T25 l0 t101).f4)]) ?_ 3 _ rfl; (with_reducible repeat (first | refine blk_drewN ?_ _ | refine blk_drew ?_ | refine blk_alloc ?_ _)); refine blk_put (cs := #[.int .i64 ((rd_T25 l0 t101).f0), .int .i64 ((rd_T25 l0 t101).f1), .int .i64 ((rd_T25 l0 t101).f2), .int .i64 ((rd_T25 l0 t101).f3), .int .i64 0]) ?_ 4 _ rfl; (with_reducible repeat (first | refine blk_drewN ?_ _ | refine blk_drew ?_ | refine blk_alloc ?_ _)); refine blk_put (cs := #[.int .i64 ((rd_T25 l0 t101).f0), .int .i64 ((rd_T25 l0 t101).f1), .int .i64 ((rd_T25 l0 t101).f2), .int .i64 0, .int .i64 0]) ?_ 3 _ rfl; (with_reducible repeat (first | refine blk_drewN ?_ _ | refine blk_drew ?_ | refine blk_alloc ?_ _)); refine blk_put (cs := #[.int .i64 ((rd_T25 l0 t101).f0), .int .i64 ((rd_T25 l0 t101).f1), .int .i64 0, .int .i64 0, .int .i64 0]) ?_ 2 _ rfl; (with_reducible repeat (first | refine blk_drewN ?_ _ | refine blk_drew ?_ | refine blk_alloc ?_ _)); refine blk_put (cs := #[.int .i64 ((rd_T25 l0 t101).f0), .int .i64 0, .int .i64 0, .int .i64 0, .int .i64 0]) ?_ 1 _ rfl; (with_reducible repeat (first | refine blk_drewN ?_ _ | refine blk_drew ?_ | refine blk_alloc ?_ _)); refine blk_put (cs := #[.int .i64 0, .int .i64 0, .int .i64 0, .int .i64 0, .int .i64 0]) ?_ 0 _ rfl; exact bS BK103.out) hb); have n2_ := Aside0.mk (below_step (by repeat (first | (with_reducible first | exact HB.out | apply below_alloc | apply pw_below_drewN | apply below_drew1 | refine below_set ?_ GE103.out) | exact HB.out)) hb); clear BK103; clear HB; have HO107 := n0_; have BK103 := n1_; have HB := n2_; clear n0_ n1_ n2_; (try clear hb); (try clear hb2); (try clear hk); (try clear hi); (try clear ho0)))
    go_ret3
    exact ⟨_, by first | rfl | (simp [errW_none, errW_some] <;> rfl) | (simp [*, errW_none, errW_some] <;> rfl), by exact Ho.RS <| Kd.R_mono HO107.out (fun _ hk => trivial), by exact eS HB.out⟩
   ·rw [if_neg c7] at H
    exact absurd H (by simp)
  ·rw [if_neg c6] at H
   exact absurd H (by simp)

end Go.Proofs.Ytdennkmfjkgfhaa.X

-- XimplWashCarpetF32
namespace Go.Proofs.Ytdennkmfjkgfhaa.X
open Ho (bS eS)
open Go.RowKit Go.Proofs.YtdennkmfjkgfhaaW.PrintWords Go.Proofs.YtdennkmfjkgfhaaW.PrintLast Go.Proofs.YtdennkmfjkgfhaaW.PrintMore
attribute [local go_sem] max2_int min2_int max_two min_two max_three min_three max_four min_four   -- for this text's walks alone
set_option linter.unusedVariables false
set_option linter.unusedSimpArgs false
open Sq (I O Z)

attribute [local go_sem ↓] Ho.isSome_setCell_   -- a store leaves all places there
/-! ### impl_WashCarpet: function 32 -/
def impl_WashCarpet.f (k : Nat) (l0 : List (S25)) (a1 : Int) : Option ((List (S25)) × Int × Bool) := (impl_findCarpet.f k l0 a1).bind fun t101 => (if t101 < 0 then (some (([] : List (S25)), 0, false)) else (if 0 ≤ t101 then (if t101 < (l0.length : Int) then ((impl_withCarpet.f l0 t101 ((rd_T25 l0 t101).f0) ((rd_T25 l0 t101).f1) ((rd_T25 l0 t101).f2) (wrap64 (((rd_T25 l0 t101).f3) + (wrap64 ((wrap64 (2 * ((rd_T25 l0 t101).f2))) - ((rd_T25 l0 t101).f3))))) ((rd_T25 l0 t101).f4)).bind fun t104 => (some (t104, wrap64 ((wrap64 (2 * ((rd_T25 l0 t101).f2))) - ((rd_T25 l0 t101).f3)), true))) else (none)) else (none)))
theorem impl_WashCarpet.mono : ∀ a0 a1 k, LeO (impl_WashCarpet.f k a0 a1) (impl_WashCarpet.f (k + 1) a0 a1) := by
  intro a0 a1 k
  unfold impl_WashCarpet.f
  repeat' first
      | (with_reducible exact impl_findCarpet.mono _ _ _)
      | (with_reducible exact LeO.refl _)
      | (with_reducible exact LeO.none _)
      | (with_reducible refine LeO.ite ?_ ?_)
      | (with_reducible refine LeO.bind ?_ (fun _ => ?_))
      | exact impl_findCarpet.mono _ _ _
      | exact LeO.none _
      | refine LeO.ite ?_ ?_
      | refine LeO.bind ?_ (fun _ => ?_)
set_option maxHeartbeats 8000000 in
set_option maxRecDepth 100000 in
theorem impl_WashCarpet.calls (k : Nat) (A0 : Option Addr) (c0 : Nat) (l0 : List (S25)) (a1 : Int) (r1 : List (S25)) (r2 : Int) (r3 : Bool) (w : World) (hr0 : Kd.C k25 w A0 l0.length l0) (hc0 : l0.length ≤ c0) (h : impl_WashCarpet.f k l0 a1 = some (r1, r2, r3)) :
  Calls Try.prog 32 #[.slice A0 l0.length c0, .int .i64 a1] w fun e w' => ∃ v0_ : Value, e = .returned (.tuple #[v0_, .int .i64 r2, .bool r3]) ∧ Kd.R k25 25 w' w.heap.size (fun _ => True) v0_ r1 ∧ Below w.heap.size w w' := by
 have hu25 := Try.underlying25
 have HR0 := Aside0.mk hr0
 have HC0 := Aside0.mk hc0
 clear hr0 hc0
 have HB := Aside0.mk (Below.refl w.heap.size w)
 have H : ((impl_findCarpet.f k l0 a1).bind fun t101 => (if t101 < 0 then (some (([] : List (S25)), 0, false)) else (if 0 ≤ t101 then (if t101 < (l0.length : Int) then ((impl_withCarpet.f l0 t101 ((rd_T25 l0 t101).f0) ((rd_T25 l0 t101).f1) ((rd_T25 l0 t101).f2) (wrap64 (((rd_T25 l0 t101).f3) + (wrap64 ((wrap64 (2 * ((rd_T25 l0 t101).f2))) - ((rd_T25 l0 t101).f3))))) ((rd_T25 l0 t101).f4)).bind fun t104 => (some (t104, wrap64 ((wrap64 (2 * ((rd_T25 l0 t101).f2))) - ((rd_T25 l0 t101).f3)), true))) else (none)) else (none)))) = some (r1, r2, r3) := h
 clear h
 replace H := Option.bind_eq_some_iff.mp H
 obtain ⟨t101, A30, H⟩ := H
 replace H : (if t101 < 0 then (some (([] : List (S25)), 0, false)) else (if 0 ≤ t101 then (if t101 < (l0.length : Int) then ((impl_withCarpet.f l0 t101 ((rd_T25 l0 t101).f0) ((rd_T25 l0 t101).f1) ((rd_T25 l0 t101).f2) (wrap64 (((rd_T25 l0 t101).f3) + (wrap64 ((wrap64 (2 * ((rd_T25 l0 t101).f2))) - ((rd_T25 l0 t101).f3))))) ((rd_T25 l0 t101).f4)).bind fun t104 => (some (t104, wrap64 ((wrap64 (2 * ((rd_T25 l0 t101).f2))) - ((rd_T25 l0 t101).f3)), true))) else (none)) else (none))) = some (r1, r2, r3) := H
 have A3 := Aside0.mk A30
 clear A30
 by_cases c4 : t101 < 0
 ·rw [if_pos c4] at H
  have c4b0 : decide (t101 < 0) = true := decide_eq_true c4
  clear c4
  simp only [Option.some.injEq, Prod.mk.injEq] at H
  obtain ⟨rfl, rfl, rfl⟩ := H
  go_enter Try.func32, Try.ntmps32
  go_wp2_with (first | ((with_reducible refine gate_callee (f := 74) rfl ?_); refine goesL_ (some 12) rfl rfl Try.func74 (by kernel_rfl) rfl #[.slice A0 l0.length c0, .int .i64 a1] rfl (by (try simp only [List.map_toArray, List.map_cons, List.map_nil]); first | done | rfl | (simp only [List.length_drop, List.length_take]; rfl)) ?_; (with_reducible refine (impl_findCarpet.calls k _ _ l0 a1 t101 _ ?side1 ?side2 A3.out).mono ?_); (case side1 => repeat (first | exact HR0.out | (with_reducible refine Kd.C_alloc ?_ _) | (with_reducible refine Kd.C_drewN ?_ _) | (with_reducible refine Kd.C_drew ?_))); (case side2 => exact HC0.out); rintro e w5 ⟨rfl, hb⟩; refine ⟨_, rfl, ?_⟩; have n0_ := Aside0.mk (below_step (by exact eS HB.out) hb); clear HB; have HB := n0_; clear n0_; (try clear hb); (try clear hb2); (try clear hk); (try clear hi)))
  go_ret3
  exact ⟨_, by first | rfl | (simp [errW_none, errW_some] <;> rfl) | (simp [*, errW_none, errW_some] <;> rfl), by first | exact Kd.R_nil _ _ _ _ _ | exact Kd.N_nil _ _ _ _ _ | exact Kd.V_nil _ _ _ _ _ | exact Kd.Q_nil _ _ _ _ _ | exact Kd.S_nil _ _ _ _ _, by exact eS HB.out⟩
 ·rw [if_neg c4] at H
  have c4b0 : decide (t101 < 0) = false := decide_eq_false c4
  clear c4
  by_cases c6 : 0 ≤ t101
  ·rw [if_pos c6] at H
   have c6b0 : decide (0 ≤ t101) = true := decide_eq_true c6
   clear c6
   by_cases c7 : t101 < (l0.length : Int)
   ·rw [if_pos c7] at H
    have c7b0 : decide (t101 < (l0.length : Int)) = true := decide_eq_true c7
    clear c7
    replace H := Option.bind_eq_some_iff.mp H
    obtain ⟨t104, A80, H⟩ := H
    replace H : (some (t104, wrap64 ((wrap64 (2 * ((rd_T25 l0 t101).f2))) - ((rd_T25 l0 t101).f3)), true)) = some (r1, r2, r3) := H
    have A8 := Aside0.mk A80
    clear A80
    simp only [Option.some.injEq, Prod.mk.injEq] at H
    obtain ⟨rfl, rfl, rfl⟩ := H
    go_enter Try.func32, Try.ntmps32
    go_wp2_with (first | ((with_reducible refine gate_callee (f := 74) rfl ?_); refine goesL_ (some 12) rfl rfl Try.func74 (by kernel_rfl) rfl #[.slice A0 l0.length c0, .int .i64 a1] rfl (by (try simp only [List.map_toArray, List.map_cons, List.map_nil]); first | done | rfl | (simp only [List.length_drop, List.length_take]; rfl)) ?_; (with_reducible refine (impl_findCarpet.calls k _ _ l0 a1 t101 _ ?side1 ?side2 A3.out).mono ?_); (case side1 => repeat (first | exact HR0.out | (with_reducible refine Kd.C_alloc ?_ _) | (with_reducible refine Kd.C_drewN ?_ _) | (with_reducible refine Kd.C_drew ?_))); (case side2 => exact HC0.out); rintro e w9 ⟨rfl, hb⟩; refine ⟨_, rfl, ?_⟩; have n0_ := Aside0.mk (below_step (by exact eS HB.out) hb); clear HB; have HB := n0_; clear n0_; (try clear hb); (try clear hb2); (try clear hk); (try clear hi); have p102 : 0 ≤ (t101 : Int) := of_decide_eq_true (by first | (with_reducible assumption) | assumption); have q102 : t101 < (l0.length : Int) := of_decide_eq_true (by first | (with_reducible assumption) | assumption); obtain ⟨ad102, e102, hx102_0, hx102_1, hx102_2, hx102_3, hx102_4⟩ := at_T25 HR0.out t101 p102 q102; cases e102; replace hx102_0 := (HB.out.cell (World.block_lt_of_cell? w _ hx102_0)).trans hx102_0; replace hx102_1 := (HB.out.cell (World.block_lt_of_cell? w _ hx102_1)).trans hx102_1; replace hx102_2 := (HB.out.cell (World.block_lt_of_cell? w _ hx102_2)).trans hx102_2; replace hx102_3 := (HB.out.cell (World.block_lt_of_cell? w _ hx102_3)).trans hx102_3; replace hx102_4 := (HB.out.cell (World.block_lt_of_cell? w _ hx102_4)).trans hx102_4; replace p102 := eq_true p102; replace q102 := eq_true q102) | ((with_reducible refine gate_dst (N := 8) rfl ?_); refine box_event ?hg (N := 8) ?hd (cs := #[.int .i64 0, .int .i64 0, .int .i64 0, .int .i64 0, .int .i64 0]) (t := 25) ?hr ?_; (case hd => rfl); (case hg => rfl); (case hr => first | (go_simp; done) | (go_simp; rfl)); intro gb103 hg w10 hbox hb; have n0_ := Aside0.mk (below_step (by exact eS HB.out) hb); have n1_ := Aside0.mk (hbox); have n2_ := Aside0.mk ((by rw [hg]; exact (below_size (by exact eS HB.out)) : w.heap.size ≤ gb103)); have n3_ := Aside0.mk ((by rw [hg]; exact (below_size (by exact eS HB.out)) : w.heap.size ≤ gb103)); clear HB; have HB := n0_; have BK103 := n1_; have GW103 := n2_; have GE103 := n3_; clear n0_ n1_ n2_ n3_; clear hb hbox hg; have hcz11_0 : w10.cell? ⟨gb103, 0, none⟩ = some (.int .i64 0) := (blk_cell BK103.out 0).trans rfl; have hcz11_1 : w10.cell? ⟨gb103, 1, none⟩ = some (.int .i64 0) := (blk_cell BK103.out 1).trans rfl; have hcz11_2 : w10.cell? ⟨gb103, 2, none⟩ = some (.int .i64 0) := (blk_cell BK103.out 2).trans rfl; have hcz11_3 : w10.cell? ⟨gb103, 3, none⟩ = some (.int .i64 0) := (blk_cell BK103.out 3).trans rfl; have hcz11_4 : w10.cell? ⟨gb103, 4, none⟩ = some (.int .i64 0) := (blk_cell BK103.out 4).trans rfl; have hfz11_0 := blk_frozen BK103.out 0; have hfz11_1 := blk_frozen BK103.out 1; have hfz11_2 := blk_frozen BK103.out 2; have hfz11_3 := blk_frozen BK103.out 3; have hfz11_4 := blk_frozen BK103.out 4) | ((with_reducible refine gate_callee (f := 75) rfl ?_); refine goesL_ (some 33) rfl rfl Try.func75 (by kernel_rfl) rfl #[.slice (some ad102) l0.length c0, .int .i64 t101, .agg #[.int .i64 ((rd_T25 l0 t101).f0), .int .i64 ((rd_T25 l0 t101).f1), .int .i64 ((rd_T25 l0 t101).f2), .int .i64 (wrap64 (((rd_T25 l0 t101).f3) + (wrap64 ((wrap64 (2 * ((rd_T25 l0 t101).f2))) - ((rd_T25 l0 t101).f3))))), .int .i64 ((rd_T25 l0 t101).f4)]] rfl (by (try simp only [List.map_toArray, List.map_cons, List.map_nil]); first | done | rfl | (simp only [List.length_drop, List.length_take]; rfl)) ?_; (with_reducible refine (impl_withCarpet.calls _ _ l0 t101 ((rd_T25 l0 t101).f0) ((rd_T25 l0 t101).f1) ((rd_T25 l0 t101).f2) (wrap64 (((rd_T25 l0 t101).f3) + (wrap64 ((wrap64 (2 * ((rd_T25 l0 t101).f2))) - ((rd_T25 l0 t101).f3))))) ((rd_T25 l0 t101).f4) t104 _ ?side1 ?side2 A8.out).mono ?_); (case side1 => exact Kd.C_below HR0.out (by repeat (first | (with_reducible first | exact HB.out | apply below_alloc | apply pw_below_drewN | apply below_drew1 | refine below_set ?_ GE103.out) | exact HB.out))); (case side2 => exact HC0.out); rintro e w12 ⟨v105, rfl, ho0, hb⟩; refine ⟨_, rfl, ?_⟩; have n0_ := Aside0.mk (Kd.R_lower (Kd.R_newB ho0 (g := gb103) (o := .cells #[.int .i64 ((rd_T25 l0 t101).f0), .int .i64 ((rd_T25 l0 t101).f1), .int .i64 ((rd_T25 l0 t101).f2), .int .i64 (wrap64 (((rd_T25 l0 t101).f3) + (wrap64 ((wrap64 (2 * ((rd_T25 l0 t101).f2))) - ((rd_T25 l0 t101).f3))))), .int .i64 ((rd_T25 l0 t101).f4)] 25 (0, 0)) (by (with_reducible repeat (first | refine blk_drewN ?_ _ | refine blk_drew ?_ | refine blk_alloc ?_ _)); refine blk_put (cs := #[.int .i64 ((rd_T25 l0 t101).f0), .int .i64 ((rd_T25 l0 t101).f1), .int .i64 ((rd_T25 l0 t101).f2), .int .i64 ((rd_T25 l0 t101).f3), .int .i64 ((rd_T25 l0 t101).f4)]) ?_ 3 _ rfl; (with_reducible repeat (first | refine blk_drewN ?_ _ | refine blk_drew ?_ | refine blk_alloc ?_ _)); refine blk_put (cs := #[.int .i64 ((rd_T25 l0 t101).f0), .int .i64 ((rd_T25 l0 t101).f1), .int .i64 ((rd_T25 l0 t101).f2), .int .i64 ((rd_T25 l0 t101).f3), .int .i64 0]) ?_ 4 _ rfl; (with_reducible repeat (first | refine blk_drewN ?_ _ | refine blk_drew ?_ | refine blk_alloc ?_ _)); refine blk_put (cs := #[.int .i64 ((rd_T25 l0 t101).f0), .int .i64 ((rd_T25 l0 t101).f1), .int .i64 ((rd_T25 l0 t101).f2), .int .i64 0, .int .i64 0]) ?_ 3 _ rfl; (with_reducible repeat (first | refine blk_drewN ?_ _ | refine blk_drew ?_ | refine blk_alloc ?_ _)); refine blk_put (cs := #[.int .i64 ((rd_T25 l0 t101).f0), .int .i64 ((rd_T25 l0 t101).f1), .int .i64 0, .int .i64 0, .int .i64 0]) ?_ 2 _ rfl; (with_reducible repeat (first | refine blk_drewN ?_ _ | refine blk_drew ?_ | refine blk_alloc ?_ _)); refine blk_put (cs := #[.int .i64 ((rd_T25 l0 t101).f0), .int .i64 0, .int .i64 0, .int .i64 0, .int .i64 0]) ?_ 1 _ rfl; (with_reducible repeat (first | refine blk_drewN ?_ _ | refine blk_drew ?_ | refine blk_alloc ?_ _)); refine blk_put (cs := #[.int .i64 0, .int .i64 0, .int .i64 0, .int .i64 0, .int .i64 0]) ?_ 0 _ rfl; exact bS BK103.out)) (below_size (by repeat (first | (with_reducible first | exact HB.out | apply below_alloc | apply pw_below_drewN | apply below_drew1 | refine below_set ?_ GE103.out) | exact HB.out)))); have n1_ := Aside0.mk (blk_below (g := gb103) (o := .cells #[.int .i64 ((rd_T25 l0 t101).f0), .int .i64 ((rd_T25 l0 t101).f1), .int .i64 ((rd_T25 l0 t101).f2), .int .i64 (wrap64 (((rd_T25 l0 t101).f3) + (wrap64 ((wrap64 (2 * ((rd_T25 l0 t101).f2))) - ((rd_T25 l0 t101).f3))))), .int .i64 ((rd_T25 l0 t101).f4)] 25 (0, 0)) (by (with_reducible repeat (first | refine blk_drewN ?_ _ | refine blk_drew ?_ | refine blk_alloc ?_ _)); refine blk_put (cs := #[.int .i64 ((rd_T25 l0 t101).f0), .int .i64 ((rd_T25 l0 t101).f1), .int .i64 ((rd_T25 l0 t101).f2), .int .i64 ((rd_T25 l0 t101).f3), .int .i64 ((rd_T25 l0 t101).f4)]) ?_ 3 _ rfl; (with_reducible repeat (first | refine blk_drewN ?_ _ | refine blk_drew ?_ | refine blk_alloc ?_ _)); refine blk_put (cs := #[.int .i64 ((rd_T25 l0 t101).f0), .int .i64 ((rd_T25 l0 t101).f1), .int .i64 ((rd_T25 l0 t101).f2), .int .i64 ((rd_T25 l0 t101).f3), .int .i64 0]) ?_ 4 _ rfl; (with_reducible repeat (first | refine blk_drewN ?_ _ | refine blk_drew ?_ | refine blk_alloc ?_ _)); refine blk_put (cs := #[.int .i64 ((rd_T25 l0 t101).f0), .int .i64 ((rd_T25 l0 t101).f1), .int .i64 ((rd_T25 l0 t101).f2), .int .i64 0, .int .i64 0]) ?_ 3 _ rfl; (with_reducible repeat (first | refine blk_drewN ?_ _ | refine blk_drew ?_ | refine blk_alloc ?_ _)); refine blk_put (cs := #[.int .i64 ((rd_T25 l0 t101).f0), .int .i64 ((rd_T25 l0 t101).f1), .int .i64 0, .int .i64 0, .int .i64 0]) ?_ 2 _ rfl; (with_reducible repeat (first | refine blk_drewN ?_ _ | refine blk_drew ?_ | refine blk_alloc ?_ _)); refine blk_put (cs := #[.int .i64 ((rd_T25 l0 t101).f0), .int .i64 0, .int .i64 0, .int .i64 0, .int .i64 0]) ?_ 1 _ rfl; (with_reducible repeat (first | refine blk_drewN ?_ _ | refine blk_drew ?_ | refine blk_alloc ?_ _)); refine blk_put (cs := #[.int .i64 0, .int .i64 0, .int .i64 0, .int .i64 0, .int .i64 0]) ?_ 0 _ rfl; exact bS BK103.out) hb); have n2_ := Aside0.mk (below_step (by repeat (first | (with_reducible first | exact HB.out | apply below_alloc | apply pw_below_drewN | apply below_drew1 | refine below_set ?_ GE103.out) | exact HB.out)) hb); clear BK103; clear HB; have HO106 := n0_; have BK103 := n1_; have HB := n2_; clear n0_ n1_ n2_; (try clear hb); (try clear hb2); (try clear hk); (try clear hi); (try clear ho0)))
    go_ret3
    exact ⟨_, by first | rfl | (simp [errW_none, errW_some] <;> rfl) | (simp [*, errW_none, errW_some] <;> rfl), by exact Ho.RS <| Kd.R_mono HO106.out (fun _ hk => trivial), by exact eS HB.out⟩
   ·rw [if_neg c7] at H
    exact absurd H (by simp)
  ·rw [if_neg c6] at H
   exact absurd H (by simp)

end Go.Proofs.Ytdennkmfjkgfhaa.X

-- XlawsrBigF44
namespace Go.Proofs.Ytdennkmfjkgfhaa.X
open Ho (bS eS)
open Go.RowKit Go.Proofs.YtdennkmfjkgfhaaW.PrintWords Go.Proofs.YtdennkmfjkgfhaaW.PrintLast Go.Proofs.YtdennkmfjkgfhaaW.PrintMore
attribute [local go_sem] max2_int min2_int max_two min_two max_three min_three max_four min_four   -- for this text's walks alone
set_option linter.unusedVariables false
set_option linter.unusedSimpArgs false
open Sq (I O Z)

/-! ### laws_rBig: function 44 -/
def laws_rBig.f (l0 : List Int) : Option (Bool) := some (decide ((l0.length : Int) > 65536))
set_option maxHeartbeats 8000000 in
set_option maxRecDepth 100000 in
theorem laws_rBig.calls (A0 : Option Addr) (c0 : Nat) (l0 : List Int) (r : Bool) (w : World) (hr0 : Kd.C (Kd.int .u8) w A0 l0.length l0) (hc0 : l0.length ≤ c0) (h : laws_rBig.f l0 = some r) :
  Calls Try.prog 44 #[.slice A0 l0.length c0] w fun e w' => e = .returned (.bool r) ∧ Drawn0 w w' := by
 have HR0 := Aside0.mk hr0
 have HC0 := Aside0.mk hc0
 clear hr0 hc0
 have H : (some (decide ((l0.length : Int) > 65536))) = some r := h
 clear h
 obtain rfl := Option.some.inj H
 go_enter Try.func44, Try.ntmps44
 go_wp2
 go_ret
 exact ⟨by first | rfl | (simp; done) | (simp [*]; done), by repeat (first | exact Drawn0.refl _ | apply Drawn0.step)⟩

end Go.Proofs.Ytdennkmfjkgfhaa.X

-- XlawsrHasF53
namespace Go.Proofs.Ytdennkmfjkgfhaa.X
open Ho (bS eS)
open Go.RowKit Go.Proofs.YtdennkmfjkgfhaaW.PrintWords Go.Proofs.YtdennkmfjkgfhaaW.PrintLast Go.Proofs.YtdennkmfjkgfhaaW.PrintMore
attribute [local go_sem] max2_int min2_int max_two min_two max_three min_three max_four min_four   -- for this text's walks alone
set_option linter.unusedVariables false
set_option linter.unusedSimpArgs false
open Sq (I O Z)

/-! ### laws_rHas: function 53 -/
def laws_rHas.l0 : Nat → List Int → Int → Int → Option (Bool)
  | 0, _, _, _ => none
  | k + 1, x0, x1, x5 => if x5 < (x0.length : Int) then (if 0 ≤ x5 then (if (rd x0 x5) = x1 then (some true) else (laws_rHas.l0 k x0 x1 (wrap64 (x5 + 1)))) else (none)) else (some false)
def laws_rHas.f (k : Nat) (l0 : List Int) (a1 : Int) : Option (Bool) := laws_rHas.l0 k l0 a1 0
theorem laws_rHas.mono_l : ∀ k, (∀ y0 y1 y2, LeO (laws_rHas.l0 k y0 y1 y2) (laws_rHas.l0 (k + 1) y0 y1 y2))
  | 0 => fun _ _ _ r h => by simp [laws_rHas.l0] at h
  | k + 1 => by
    have ih0 := laws_rHas.mono_l k
    · intro y0 y1 y2
      unfold laws_rHas.l0
      repeat' first
      | (with_reducible exact ih0 _ _ _)
      | (with_reducible exact LeO.refl _)
      | (with_reducible exact LeO.none _)
      | (with_reducible refine LeO.ite ?_ ?_)
      | (with_reducible refine LeO.bind ?_ (fun _ => ?_))
      | exact ih0 _ _ _
      | exact LeO.none _
      | refine LeO.ite ?_ ?_
      | refine LeO.bind ?_ (fun _ => ?_)
theorem laws_rHas.mono : ∀ a0 a1 k, LeO (laws_rHas.f k a0 a1) (laws_rHas.f (k + 1) a0 a1) := by
  intro a0 a1 k
  have ih0 := laws_rHas.mono_l k
  unfold laws_rHas.f
  repeat' first
      | (with_reducible exact ih0 _ _ _)
      | (with_reducible exact LeO.refl _)
      | (with_reducible exact LeO.none _)
      | (with_reducible refine LeO.ite ?_ ?_)
      | (with_reducible refine LeO.bind ?_ (fun _ => ?_))
      | exact ih0 _ _ _
      | exact LeO.none _
      | refine LeO.ite ?_ ?_
      | refine LeO.bind ?_ (fun _ => ?_)
set_option maxHeartbeats 8000000 in
set_option maxRecDepth 100000 in
theorem laws_rHas.calls (k : Nat) (A0 : Option Addr) (c0 : Nat) (l0 : List Int) (a1 : Int) (r : Bool) (w : World) (hr0 : Kd.C (Kd.int .i64) w A0 l0.length l0) (hc0 : l0.length ≤ c0) (h : laws_rHas.f k l0 a1 = some r) :
  Calls Try.prog 53 #[.slice A0 l0.length c0, .int .i64 a1] w fun e w' => e = .returned (.bool r) ∧ Drawn0 w w' := by
 have HR0 := Aside0.mk hr0
 have HC0 := Aside0.mk hc0
 clear hr0 hc0
 have H : (laws_rHas.l0 k l0 a1 0) = some r := h
 clear h
 have H' := Aside0.mk H
 clear H
 go_enter Try.func53, Try.ntmps53
 go_wp2
 go_loopg [5] k (fun kq v5 w' => ∃ (x5_1 : Int), v5 = .int .i64 x5_1 ∧ Aside0 (laws_rHas.l0 kq l0 a1 x5_1 = some r) ∧ Aside0 (kq ≤ k) ∧ Drawn0 w w')
 case atStart => exact ⟨(0), (by first | rfl | (simp; done) | (simp [*]; done)), H', ⟨Nat.le_refl _⟩, by repeat (first | exact Drawn0.refl _ | apply Drawn0.step)⟩
 case round =>
  clear H'
  try clear p2
  obtain ⟨x5_1, rfl, HA, HK1, ⟨m1, rfl⟩⟩ := hrel
  cases gk with
  | zero => exact absurd HA.out (by simp [laws_rHas.l0])
  | succ k1 =>
   have H := HA.out
   clear HA
   simp only [laws_rHas.l0] at H
   by_cases c3 : x5_1 < (l0.length : Int)
   ·rw [if_pos c3] at H
    have c3b0 : decide (x5_1 < (l0.length : Int)) = true := decide_eq_true c3
    clear c3
    by_cases c4 : 0 ≤ x5_1
    ·rw [if_pos c4] at H
     have c4b0 : decide (0 ≤ x5_1) = true := decide_eq_true c4
     clear c4
     by_cases c5 : (rd l0 x5_1) = a1
     ·rw [if_pos c5] at H
      have c5b0 : ((rd l0 x5_1) == a1) = true := beq_iff_eq.mpr c5
      have c5b1 : ((rd l0 x5_1) != a1) = false := bne_eq_false_iff_eq.mpr c5
      clear c5
      obtain rfl := Option.some.inj H
      have p101 : 0 ≤ (x5_1 : Int) := of_decide_eq_true (by first | (with_reducible assumption) | assumption)
      have q101 : x5_1 < (l0.length : Int) := of_decide_eq_true (by first | (with_reducible assumption) | assumption)
      obtain ⟨ad101, e101, hx101_0⟩ := Kd.at_int HR0.out x5_1 p101 q101
      cases e101
      replace p101 := eq_true p101
      replace q101 := eq_true q101
      go_wp2
      go_ret
      exact ⟨by first | rfl | (simp; done) | (simp [*]; done), by repeat (first | exact Drawn0.refl _ | apply Drawn0.step)⟩
     ·rw [if_neg c5] at H
      have c5b0 : ((rd l0 x5_1) == a1) = false := beq_eq_false_iff_ne.mpr c5
      have c5b1 : ((rd l0 x5_1) != a1) = true := bne_iff_ne.mpr c5
      have H' := Aside0.mk H
      clear H
      have p101 : 0 ≤ (x5_1 : Int) := of_decide_eq_true (by first | (with_reducible assumption) | assumption)
      have q101 : x5_1 < (l0.length : Int) := of_decide_eq_true (by first | (with_reducible assumption) | assumption)
      obtain ⟨ad101, e101, hx101_0⟩ := Kd.at_int HR0.out x5_1 p101 q101
      cases e101
      replace p101 := eq_true p101
      replace q101 := eq_true q101
      go_wp2
      go_roundg k1
      case measure => have := HK1.out; omega
      case rel => exact ⟨(wrap64 (x5_1 + 1)), (by first | rfl | (simp; done) | (simp [*]; done)), H', ⟨by have := HK1.out; omega⟩, by repeat (first | exact Drawn0.refl _ | apply Drawn0.step)⟩
    ·rw [if_neg c4] at H
     exact absurd H (by simp)
   ·rw [if_neg c3] at H
    have c3b0 : decide (x5_1 < (l0.length : Int)) = false := decide_eq_false c3
    clear c3
    obtain rfl := Option.some.inj H
    go_wp2
    go_ret
    exact ⟨by first | rfl | (simp; done) | (simp [*]; done), by repeat (first | exact Drawn0.refl _ | apply Drawn0.step)⟩

end Go.Proofs.Ytdennkmfjkgfhaa.X

-- XE25
namespace Go.Proofs.Ytdennkmfjkgfhaa.X
open Ho (bS eS)
open Go.RowKit Go.Proofs.YtdennkmfjkgfhaaW.PrintWords Go.Proofs.YtdennkmfjkgfhaaW.PrintLast Go.Proofs.YtdennkmfjkgfhaaW.PrintMore
attribute [local go_sem] max2_int min2_int max_two min_two max_three min_three max_four min_four   -- for this text's walks alone
set_option linter.unusedVariables false
set_option linter.unusedSimpArgs false

theorem eqA25 (d : Nat) (w : World) (x0 y0 : Int) (x1 y1 : Int) (x2 y2 : Int) (x3 y3 : Int) (x4 y4 : Int) :
    (Op.equalIn (d + 2) 25 (.agg #[.int .i64 x0, .int .i64 x1, .int .i64 x2, .int .i64 x3, .int .i64 x4]) (.agg #[.int .i64 y0, .int .i64 y1, .int .i64 y2, .int .i64 y3, .int .i64 y4])).run Try.prog w = .ok (x0 == y0 && (x1 == y1 && (x2 == y2 && (x3 == y3 && (x4 == y4))))) w := by
  refine eqA_of Try.underlying25 (by kernel_rfl) ?_
  refine eqf_cons (by rfl) (by go_simp; rfl) (by go_simp; rfl) (by go_simp) ?_
  refine eqf_cons (by rfl) (by go_simp; rfl) (by go_simp; rfl) (by go_simp) ?_
  refine eqf_cons (by rfl) (by go_simp; rfl) (by go_simp; rfl) (by go_simp) ?_
  refine eqf_cons (by rfl) (by go_simp; rfl) (by go_simp; rfl) (by go_simp) ?_
  exact eqf_last (by rfl) (by go_simp; rfl) (by go_simp; rfl) (by go_simp)
end Go.Proofs.Ytdennkmfjkgfhaa.X

-- XlawsrWetF46
namespace Go.Proofs.Ytdennkmfjkgfhaa.X
open Ho (bS eS)
open Go.RowKit Go.Proofs.YtdennkmfjkgfhaaW.PrintWords Go.Proofs.YtdennkmfjkgfhaaW.PrintLast Go.Proofs.YtdennkmfjkgfhaaW.PrintMore
attribute [local go_sem] max2_int min2_int max_two min_two max_three min_three max_four min_four   -- for this text's walks alone
set_option linter.unusedVariables false
set_option linter.unusedSimpArgs false
open Sq (I O Z)

attribute [local go_sem high] eqA25
/-! ### laws_rWet: function 46 -/
def laws_rWet.l0 : Nat → List (S25) → List (S25) → Int → Option (Bool)
  | 0, _, _, _ => none
  | k + 1, x0, x1, x5 => if x5 < (x0.length : Int) then (if 0 ≤ x5 then (if x5 < (x1.length : Int) then (if (!(((rd_T25 x0 x5).f0) == ((rd_T25 x1 x5).f0)) || (!(((rd_T25 x0 x5).f1) == ((rd_T25 x1 x5).f1)) || (!(((rd_T25 x0 x5).f2) == ((rd_T25 x1 x5).f2)) || (!(((rd_T25 x0 x5).f3) == ((rd_T25 x1 x5).f3)) || (!(((rd_T25 x0 x5).f4) == ((rd_T25 x1 x5).f4))))))) = true then (some false) else (laws_rWet.l0 k x0 x1 (wrap64 (x5 + 1)))) else (none)) else (none)) else (some true)
def laws_rWet.f (k : Nat) (l0 : List (S25)) (l1 : List (S25)) : Option (Bool) := if (l0.length : Int) = (l1.length : Int) then (laws_rWet.l0 k l0 l1 0) else (some false)
theorem laws_rWet.mono_l : ∀ k, (∀ y0 y1 y2, LeO (laws_rWet.l0 k y0 y1 y2) (laws_rWet.l0 (k + 1) y0 y1 y2))
  | 0 => fun _ _ _ r h => by simp [laws_rWet.l0] at h
  | k + 1 => by
    have ih0 := laws_rWet.mono_l k
    · intro y0 y1 y2
      unfold laws_rWet.l0
      repeat' first
      | (with_reducible exact ih0 _ _ _)
      | (with_reducible exact LeO.refl _)
      | (with_reducible exact LeO.none _)
      | (with_reducible refine LeO.ite ?_ ?_)
      | (with_reducible refine LeO.bind ?_ (fun _ => ?_))
      | exact ih0 _ _ _
      | exact LeO.none _
      | refine LeO.ite ?_ ?_
      | refine LeO.bind ?_ (fun _ => ?_)
theorem laws_rWet.mono : ∀ a0 a1 k, LeO (laws_rWet.f k a0 a1) (laws_rWet.f (k + 1) a0 a1) := by
  intro a0 a1 k
  have ih0 := laws_rWet.mono_l k
  unfold laws_rWet.f
  repeat' first
      | (with_reducible exact ih0 _ _ _)
      | (with_reducible exact LeO.refl _)
      | (with_reducible exact LeO.none _)
      | (with_reducible refine LeO.ite ?_ ?_)
      | (with_reducible refine LeO.bind ?_ (fun _ => ?_))
      | exact ih0 _ _ _
      | exact LeO.none _
      | refine LeO.ite ?_ ?_
      | refine LeO.bind ?_ (fun _ => ?_)
set_option maxHeartbeats 8000000 in
set_option maxRecDepth 100000 in
theorem laws_rWet.calls (k : Nat) (A0 : Option Addr) (c0 : Nat) (l0 : List (S25)) (A1 : Option Addr) (c1 : Nat) (l1 : List (S25)) (r : Bool) (w : World) (hr0 : Kd.C k25 w A0 l0.length l0) (hc0 : l0.length ≤ c0) (hr1 : Kd.C k25 w A1 l1.length l1) (hc1 : l1.length ≤ c1) (h : laws_rWet.f k l0 l1 = some r) :
  Calls Try.prog 46 #[.slice A0 l0.length c0, .slice A1 l1.length c1] w fun e w' => e = .returned (.bool r) ∧ Drawn0 w w' := by
 have hu25 := Try.underlying25
 have HR0 := Aside0.mk hr0
 have HC0 := Aside0.mk hc0
 clear hr0 hc0
 have HR1 := Aside0.mk hr1
 have HC1 := Aside0.mk hc1
 clear hr1 hc1
 have H : (if (l0.length : Int) = (l1.length : Int) then (laws_rWet.l0 k l0 l1 0) else (some false)) = some r := h
 clear h
 by_cases c3 : (l0.length : Int) = (l1.length : Int)
 ·rw [if_pos c3] at H
  have c3b0 : ((l0.length : Int) == (l1.length : Int)) = true := beq_iff_eq.mpr c3
  have c3b1 : ((l0.length : Int) != (l1.length : Int)) = false := bne_eq_false_iff_eq.mpr c3
  have c3b2 : (l0.length == l1.length) = true := by first | simpa using c3 | (simp at c3 ⊢; omega)
  clear c3
  have H' := Aside0.mk H
  clear H
  go_enter Try.func46, Try.ntmps46
  go_wp2
  repeat (go_quiet (fail); try go_wp2)
  go_loopg [5] k (fun kq v5 w' => ∃ (x5_1 : Int), v5 = .int .i64 x5_1 ∧ Aside0 (laws_rWet.l0 kq l0 l1 x5_1 = some r) ∧ Aside0 (kq ≤ k) ∧ Drawn0 w w')
  case atStart => exact ⟨(0), (by first | rfl | (simp; done) | (simp [*]; done)), H', ⟨Nat.le_refl _⟩, by repeat (first | exact Drawn0.refl _ | apply Drawn0.step)⟩
  case round =>
   clear H'
   try clear c1
   try clear p2
   try clear c3
   try clear c3b0
   try clear c3b1
   try clear c3b2
   obtain ⟨x5_1, rfl, HA, HK1, ⟨m1, rfl⟩⟩ := hrel
   cases gk with
   | zero => exact absurd HA.out (by simp [laws_rWet.l0])
   | succ k1 =>
    have H := HA.out
    clear HA
    simp only [laws_rWet.l0] at H
    by_cases c4 : x5_1 < (l0.length : Int)
    ·rw [if_pos c4] at H
     have c4b0 : decide (x5_1 < (l0.length : Int)) = true := decide_eq_true c4
     clear c4
     by_cases c5 : 0 ≤ x5_1
     ·rw [if_pos c5] at H
      have c5b0 : decide (0 ≤ x5_1) = true := decide_eq_true c5
      clear c5
      by_cases c6 : x5_1 < (l1.length : Int)
      ·rw [if_pos c6] at H
       have c6b0 : decide (x5_1 < (l1.length : Int)) = true := decide_eq_true c6
       clear c6
       by_cases c7 : (!(((rd_T25 l0 x5_1).f0) == ((rd_T25 l1 x5_1).f0)) || (!(((rd_T25 l0 x5_1).f1) == ((rd_T25 l1 x5_1).f1)) || (!(((rd_T25 l0 x5_1).f2) == ((rd_T25 l1 x5_1).f2)) || (!(((rd_T25 l0 x5_1).f3) == ((rd_T25 l1 x5_1).f3)) || (!(((rd_T25 l0 x5_1).f4) == ((rd_T25 l1 x5_1).f4))))))) = true
       ·rw [if_pos c7] at H
        have c7b0 : (!(((rd_T25 l0 x5_1).f0) == ((rd_T25 l1 x5_1).f0)) || (!(((rd_T25 l0 x5_1).f1) == ((rd_T25 l1 x5_1).f1)) || (!(((rd_T25 l0 x5_1).f2) == ((rd_T25 l1 x5_1).f2)) || (!(((rd_T25 l0 x5_1).f3) == ((rd_T25 l1 x5_1).f3)) || (!(((rd_T25 l0 x5_1).f4) == ((rd_T25 l1 x5_1).f4))))))) = true := c7
        clear c7
        obtain rfl := Option.some.inj H
        have p101 : 0 ≤ (x5_1 : Int) := of_decide_eq_true (by first | (with_reducible assumption) | assumption)
        have q101 : x5_1 < (l0.length : Int) := of_decide_eq_true (by first | (with_reducible assumption) | assumption)
        obtain ⟨ad101, e101, hx101_0, hx101_1, hx101_2, hx101_3, hx101_4⟩ := at_T25 HR0.out x5_1 p101 q101
        cases e101
        replace p101 := eq_true p101
        replace q101 := eq_true q101
        have p102 : 0 ≤ (x5_1 : Int) := of_decide_eq_true (by first | (with_reducible assumption) | assumption)
        have q102 : x5_1 < (l1.length : Int) := of_decide_eq_true (by first | (with_reducible assumption) | assumption)
        obtain ⟨ad102, e102, hx102_0, hx102_1, hx102_2, hx102_3, hx102_4⟩ := at_T25 HR1.out x5_1 p102 q102
        cases e102
        replace p102 := eq_true p102
        replace q102 := eq_true q102
        go_wp2
        repeat (go_quiet (fail); try go_wp2)
        go_ret
        exact ⟨by first | rfl | (simp; done) | (simp [*]; done), by repeat (first | exact Drawn0.refl _ | apply Drawn0.step)⟩
       ·rw [if_neg c7] at H
        have c7b0 : (!(((rd_T25 l0 x5_1).f0) == ((rd_T25 l1 x5_1).f0)) || (!(((rd_T25 l0 x5_1).f1) == ((rd_T25 l1 x5_1).f1)) || (!(((rd_T25 l0 x5_1).f2) == ((rd_T25 l1 x5_1).f2)) || (!(((rd_T25 l0 x5_1).f3) == ((rd_T25 l1 x5_1).f3)) || (!(((rd_T25 l0 x5_1).f4) == ((rd_T25 l1 x5_1).f4))))))) = false := by simpa using c7
        clear c7
        have H' := Aside0.mk H
        clear H
        have p101 : 0 ≤ (x5_1 : Int) := of_decide_eq_true (by first | (with_reducible assumption) | assumption)
        have q101 : x5_1 < (l0.length : Int) := of_decide_eq_true (by first | (with_reducible assumption) | assumption)
        obtain ⟨ad101, e101, hx101_0, hx101_1, hx101_2, hx101_3, hx101_4⟩ := at_T25 HR0.out x5_1 p101 q101
        cases e101
        replace p101 := eq_true p101
        replace q101 := eq_true q101
        have p102 : 0 ≤ (x5_1 : Int) := of_decide_eq_true (by first | (with_reducible assumption) | assumption)
        have q102 : x5_1 < (l1.length : Int) := of_decide_eq_true (by first | (with_reducible assumption) | assumption)
        obtain ⟨ad102, e102, hx102_0, hx102_1, hx102_2, hx102_3, hx102_4⟩ := at_T25 HR1.out x5_1 p102 q102
        cases e102
        replace p102 := eq_true p102
        replace q102 := eq_true q102
        go_wp2
        repeat (go_quiet (fail); try go_wp2)
        go_roundg k1
        case measure => have := HK1.out; omega
        case rel => exact ⟨(wrap64 (x5_1 + 1)), (by first | rfl | (simp; done) | (simp [*]; done)), H', ⟨by have := HK1.out; omega⟩, by repeat (first | exact Drawn0.refl _ | apply Drawn0.step)⟩
      ·rw [if_neg c6] at H
       exact absurd H (by simp)
     ·rw [if_neg c5] at H
      exact absurd H (by simp)
    ·rw [if_neg c4] at H
     have c4b0 : decide (x5_1 < (l0.length : Int)) = false := decide_eq_false c4
     clear c4
     obtain rfl := Option.some.inj H
     go_wp2
     repeat (go_quiet (fail); try go_wp2)
     go_ret
     exact ⟨by first | rfl | (simp; done) | (simp [*]; done), by repeat (first | exact Drawn0.refl _ | apply Drawn0.step)⟩
 ·rw [if_neg c3] at H
  have c3b0 : ((l0.length : Int) == (l1.length : Int)) = false := beq_eq_false_iff_ne.mpr c3
  have c3b1 : ((l0.length : Int) != (l1.length : Int)) = true := bne_iff_ne.mpr c3
  have c3b2 : (l0.length == l1.length) = false := by first | simpa using c3 | (simp at c3 ⊢; omega)
  obtain rfl := Option.some.inj H
  go_enter Try.func46, Try.ntmps46
  go_wp2
  repeat (go_quiet (fail); try go_wp2)
  go_ret
  exact ⟨by first | rfl | (simp; done) | (simp [*]; done), by repeat (first | exact Drawn0.refl _ | apply Drawn0.step)⟩

end Go.Proofs.Ytdennkmfjkgfhaa.X

-- Xspecl1CurnextF91
namespace Go.Proofs.Ytdennkmfjkgfhaa.X
open Ho (bS eS)
open Go.RowKit Go.Proofs.YtdennkmfjkgfhaaW.PrintWords Go.Proofs.YtdennkmfjkgfhaaW.PrintLast Go.Proofs.YtdennkmfjkgfhaaW.PrintMore
attribute [local go_sem] max2_int min2_int max_two min_two max_three min_three max_four min_four   -- for this text's walks alone
set_option linter.unusedVariables false
set_option linter.unusedSimpArgs false
open Sq (I O Z)

/-- A state of type 79 at block g of W; what its slices lead to came in by w0. -/
def IsS79 (w0 W : World) (g : Nat) (f0 : List Int) (f1 : Int) (f2 : Int) : Prop := ∃ A0 c0, W.heap[g]? = some (.cells #[.slice A0 f0.length c0, .int .i64 f1, .int .u64 f2] 79 (0, 0)) ∧ w0.heap.size ≤ g ∧ Kd.C (Kd.int .u8) w0 A0 f0.length f0
theorem IsS79.grown {w0 W : World} {g : Nat} {f0 : List Int} {f1 : Int} {f2 : Int} {W1 : World} {row : Option Nat} (h : IsS79 w0 W g f0 f1 f2) (hw : W.grownBy W1 row) (hne : some g ≠ row) : IsS79 w0 W1 g f0 f1 f2 := by
  obtain ⟨A0, c0, hb, hg, hr0⟩ := h
  exact ⟨A0, c0, blk_grown hb hw hne, hg, hr0⟩
theorem IsS79.own_neN {w0 W : World} {g : Nat} {f0 : List Int} {f1 : Int} {f2 : Int} {α : Type} {d : Kd α} {e : Nat} {base : Nat} {ok : Nat → Prop} {v : Value} {xs : List α} (h : IsS79 w0 W g f0 f1 f2) (ho : Kd.N d e W base ok v xs) (ht : e ≠ 79) : some g ≠ v.ownBlock := by
  obtain ⟨A0, c0, hb, hg, hr0⟩ := h
  exact Kd.N_ne ho hb ht
theorem IsS79.fresh {w0 W : World} {g : Nat} {f0 : List Int} {f1 : Int} {f2 : Int} (h : IsS79 w0 W g f0 f1 f2) : ∀ k, W.heap.size ≤ k → k ≠ g := by
  obtain ⟨A0, c0, hb, hg, hr0⟩ := h
  exact Kd.freshB hb
theorem IsS79.kept {w0 W : World} {g : Nat} {f0 : List Int} {f1 : Int} {f2 : Int} {W1 : World} {S : Nat → Prop} (h : IsS79 w0 W g f0 f1 f2) (hk : Kept W W1 S) (hne : ¬ S g) : IsS79 w0 W1 g f0 f1 f2 := by
  obtain ⟨A0, c0, hb, hg, hr0⟩ := h
  exact ⟨A0, c0, blk_kept hb hk hne, hg, hr0⟩
theorem IsS79.below {w0 W : World} {g : Nat} {f0 : List Int} {f1 : Int} {f2 : Int} {W1 : World} (h : IsS79 w0 W g f0 f1 f2) (hw : Below W.heap.size W W1) : IsS79 w0 W1 g f0 f1 f2 := h.grown (grown_of_below hw none) (by simp)
theorem IsS79.alloc {w0 W : World} {g : Nat} {f0 : List Int} {f1 : Int} {f2 : Int} (h : IsS79 w0 W g f0 f1 f2) (o : Obj) : IsS79 w0 (W.alloc o) g f0 f1 f2 := h.below (below_alloc (Below.refl _ _) o)
theorem IsS79.drewN {w0 W : World} {g : Nat} {f0 : List Int} {f1 : Int} {f2 : Int} (h : IsS79 w0 W g f0 f1 f2) (m : Nat) : IsS79 w0 (W.drewN m) g f0 f1 f2 := h
theorem IsS79.drew {w0 W : World} {g : Nat} {f0 : List Int} {f1 : Int} {f2 : Int} (h : IsS79 w0 W g f0 f1 f2) : IsS79 w0 W.drew g f0 f1 f2 := h
theorem IsS79.at_ {w0 W : World} {g : Nat} {f0 : List Int} {f1 : Int} {f2 : Int} {w' : World} {m : Nat} (hq : W.drewN m = w') (h : IsS79 w0 W g f0 f1 f2) : IsS79 w0 w' g f0 f1 f2 := by subst hq; exact IsS79.drewN h m
theorem IsS79.apart {w0 W : World} {g : Nat} {f0 : List Int} {f1 : Int} {f2 : Int} {α : Type} {d : Kd α} {e : Nat} {base : Nat} {ok : Nat → Prop} {v : Value} {xs : List α} (h : IsS79 w0 W g f0 f1 f2) (ho : d.R e W base ok v xs) (ht : ∀ q, q ∈ e :: d.E → q ≠ 79) : d.R e W base (fun k => ok k ∧ k ≠ g) v xs := by
  obtain ⟨A0, c0, hb, hg, hr0⟩ := h
  exact Kd.R_types ho hb ht
theorem IsS79.own_ne {w0 W : World} {g : Nat} {f0 : List Int} {f1 : Int} {f2 : Int} {α : Type} {d : Kd α} {e : Nat} {base : Nat} {ok : Nat → Prop} {v : Value} {xs : List α} (h : IsS79 w0 W g f0 f1 f2) (ho : d.R e W base ok v xs) (ht : e ≠ 79) : some g ≠ v.ownBlock := by
  obtain ⟨A0, c0, hb, hg, hr0⟩ := h
  exact Kd.R_ne ho hb ht
theorem IsS79.apartQ {w0 W : World} {g : Nat} {f0 : List Int} {f1 : Int} {f2 : Int} {α : Type} {d : Kd α} {e : Nat} {base : Nat} {ok : Nat → Prop} {v : Value} {xs : List α} (h : IsS79 w0 W g f0 f1 f2) (ho : d.Q e W base ok v xs) (ht : ∀ q, q ∈ e :: d.E → q ≠ 79) : d.Q e W base (fun k => ok k ∧ k ≠ g) v xs := by
  obtain ⟨A0, c0, hb, hg, hr0⟩ := h
  exact Kd.Q_types ho hb ht
theorem IsS79.own_neQ {w0 W : World} {g : Nat} {f0 : List Int} {f1 : Int} {f2 : Int} {α : Type} {d : Kd α} {e : Nat} {base : Nat} {ok : Nat → Prop} {v : Value} {xs : List α} (h : IsS79 w0 W g f0 f1 f2) (ho : d.Q e W base ok v xs) (ht : e ≠ 79) : some g ≠ v.ownBlock := by
  obtain ⟨A0, c0, hb, hg, hr0⟩ := h
  exact Kd.Q_ne ho hb ht
theorem IsS79.apartS {w0 W : World} {g : Nat} {f0 : List Int} {f1 : Int} {f2 : Int} {α : Type} {d : Kd α} {e : Nat} {base : Nat} {ok : Nat → Prop} {v : Value} {xs : List α} (h : IsS79 w0 W g f0 f1 f2) (ho : d.S e W base ok v xs) (ht : ∀ q, q ∈ e :: d.E → q ≠ 79) : d.S e W base (fun k => ok k ∧ k ≠ g) v xs := by
  obtain ⟨A0, c0, hb, hg, hr0⟩ := h
  exact Kd.S_types ho hb ht
theorem IsS79.own_neS {w0 W : World} {g : Nat} {f0 : List Int} {f1 : Int} {f2 : Int} {α : Type} {d : Kd α} {e : Nat} {base : Nat} {ok : Nat → Prop} {v : Value} {xs : List α} (h : IsS79 w0 W g f0 f1 f2) (ho : d.S e W base ok v xs) (ht : e ≠ 79) : some g ≠ v.ownBlock := by
  obtain ⟨A0, c0, hb, hg, hr0⟩ := h
  exact Kd.S_ne ho hb ht
theorem IsS79.lt {w0 W : World} {g : Nat} {f0 : List Int} {f1 : Int} {f2 : Int} (h : IsS79 w0 W g f0 f1 f2) : g < W.heap.size := by
  obtain ⟨A0, c0, hb, hg, hr0⟩ := h
  exact blk_lt hb
theorem IsS79.ge {w0 W : World} {g : Nat} {f0 : List Int} {f1 : Int} {f2 : Int} (h : IsS79 w0 W g f0 f1 f2) : w0.heap.size ≤ g := by
  obtain ⟨A0, c0, hb, hg, hr0⟩ := h
  exact hg
theorem IsS79.ne_blk {w0 W : World} {g : Nat} {f0 : List Int} {f1 : Int} {f2 : Int} {a : Nat} {cs : Array Value} {t : TypeId} {fr : Nat × Nat} (h : IsS79 w0 W g f0 f1 f2) (hb2 : W.heap[a]? = some (.cells cs t fr)) (ht : t ≠ 79) : g ≠ a := by
  obtain ⟨A0, c0, hb, hg, hr0⟩ := h
  rintro rfl
  rw [hb] at hb2
  injection hb2 with hb2
  injection hb2 with _ ht2
  exact ht ht2.symm
theorem IsS79.far {w0 W : World} {g : Nat} {f0 : List Int} {f1 : Int} {f2 : Int} {p : Addr} (h : IsS79 w0 W g f0 f1 f2) (hne : g ≠ p.block) (u : Value) : IsS79 w0 (W.setCell p u) g f0 f1 f2 := by
  obtain ⟨A0, c0, hb, hg, hr0⟩ := h
  exact ⟨A0, c0, blk_far hb hne u, hg, hr0⟩
theorem cellS79_0 {W : World} {g : Nat} {A0 : Option Addr} {c0 : Nat} {f0 : List Int} {f1 : Int} {f2 : Int} (h : W.heap[g]? = some (.cells #[.slice A0 f0.length c0, .int .i64 f1, .int .u64 f2] 79 (0, 0))) : W.cell? ⟨g, 0, none⟩ = some (.slice A0 f0.length c0) := (blk_cell h 0).trans rfl
theorem cellS79_1 {W : World} {g : Nat} {A0 : Option Addr} {c0 : Nat} {f0 : List Int} {f1 : Int} {f2 : Int} (h : W.heap[g]? = some (.cells #[.slice A0 f0.length c0, .int .i64 f1, .int .u64 f2] 79 (0, 0))) : W.cell? ⟨g, 1, none⟩ = some (.int .i64 f1) := (blk_cell h 1).trans rfl
theorem IsS79.set_1 {w0 W : World} {g : Nat} {f0 : List Int} {f1 : Int} {f2 : Int} (h : IsS79 w0 W g f0 f1 f2) (x : Int) : IsS79 w0 (W.setCell ⟨g, 1, none⟩ (.int .i64 x)) g f0 x f2 := by
  obtain ⟨A0, c0, hb, hg, hr0⟩ := h
  exact ⟨A0, c0, by simpa using blk_set hb 1 (.int .i64 x), hg, hr0⟩
theorem cellS79_2 {W : World} {g : Nat} {A0 : Option Addr} {c0 : Nat} {f0 : List Int} {f1 : Int} {f2 : Int} (h : W.heap[g]? = some (.cells #[.slice A0 f0.length c0, .int .i64 f1, .int .u64 f2] 79 (0, 0))) : W.cell? ⟨g, 2, none⟩ = some (.int .u64 f2) := (blk_cell h 2).trans rfl
theorem IsS79.set_2 {w0 W : World} {g : Nat} {f0 : List Int} {f1 : Int} {f2 : Int} (h : IsS79 w0 W g f0 f1 f2) (x : Int) : IsS79 w0 (W.setCell ⟨g, 2, none⟩ (.int .u64 x)) g f0 f1 x := by
  obtain ⟨A0, c0, hb, hg, hr0⟩ := h
  exact ⟨A0, c0, by simpa using blk_set hb 2 (.int .u64 x), hg, hr0⟩
theorem IsS79.new (w0 W : World) (A0 : Option Addr) (c0 : Nat) (f0 : List Int) (f1 : Int) (f2 : Int) (hB : Below w0.heap.size w0 W) (hr0 : Kd.C (Kd.int .u8) w0 A0 f0.length f0) : IsS79 w0 (W.alloc (.cells #[.slice A0 f0.length c0, .int .i64 f1, .int .u64 f2] 79)) W.heap.size f0 f1 f2 := ⟨A0, c0, by simpa using heap_alloc_new W _, hB.size, hr0⟩

/-! ### spec_l1Cur_next: function 91 -/
def spec_l1Cur_next.f (s0_0 : List Int) (s0_1 : Int) (s0_2 : Int) : Option (Int × Int × Int) := if s0_1 < (s0_0.length : Int) then (if 0 ≤ s0_1 then (if (wrap64 (s0_1 + 1)) ≤ (s0_0.length : Int) then (some (wrap64 (rd s0_0 s0_1), wrap64 (s0_1 + 1), IntKind.u64.wrap ((IntKind.u64.wrap ((IntKind.u64.wrap (s0_2 * 6364136223846793005)) + (IntKind.u64.wrap (wrap64 (rd s0_0 s0_1))))) + 102323))) else (some (wrap64 (Go.bits .and .u64 ((IntKind.u64.wrap ((IntKind.u64.wrap ((IntKind.u64.wrap (s0_2 * 6364136223846793005)) + (IntKind.u64.wrap (wrap64 (rd s0_0 s0_1))))) + 102323)) / 1099511627776) 255), wrap64 (s0_1 + 1), IntKind.u64.wrap ((IntKind.u64.wrap ((IntKind.u64.wrap (s0_2 * 6364136223846793005)) + (IntKind.u64.wrap (wrap64 (rd s0_0 s0_1))))) + 102323)))) else (none)) else (if (wrap64 (s0_1 + 1)) ≤ (s0_0.length : Int) then (some (0, wrap64 (s0_1 + 1), IntKind.u64.wrap ((IntKind.u64.wrap ((IntKind.u64.wrap (s0_2 * 6364136223846793005)))) + 102323))) else (some (wrap64 (Go.bits .and .u64 ((IntKind.u64.wrap ((IntKind.u64.wrap ((IntKind.u64.wrap (s0_2 * 6364136223846793005)))) + 102323)) / 1099511627776) 255), wrap64 (s0_1 + 1), IntKind.u64.wrap ((IntKind.u64.wrap ((IntKind.u64.wrap (s0_2 * 6364136223846793005)))) + 102323))))
set_option maxHeartbeats 8000000 in
set_option maxRecDepth 100000 in
theorem spec_l1Cur_next.calls (g : Nat) (s0_0 : List Int) (s0_1 : Int) (s0_2 : Int) (r1 : Int) (r2 : Int) (r3 : Int) (w0 w : World) (hI : IsS79 w0 w g s0_0 s0_1 s0_2) (hB : Below w0.heap.size w0 w) (h : spec_l1Cur_next.f s0_0 s0_1 s0_2 = some (r1, r2, r3)) :
  Calls Try.prog 91 #[.pointer (some ⟨g, 0, none⟩)] w fun e w' => e = .returned (.int .i64 r1) ∧ IsS79 w0 w' g s0_0 r2 r3 ∧ Below w0.heap.size w0 w' ∧ KeepBut w w' g none := by
 have HI0 := Aside0.mk hI
 have HK := Aside0.mk (KeepBut.refl w g none)
 have HL := Aside0.mk hB.size
 clear hI
 have HW0 := Aside0.mk hB.size
 have HB := Aside0.mk hB
 clear hB
 have H : (if s0_1 < (s0_0.length : Int) then (if 0 ≤ s0_1 then (if (wrap64 (s0_1 + 1)) ≤ (s0_0.length : Int) then (some (wrap64 (rd s0_0 s0_1), wrap64 (s0_1 + 1), IntKind.u64.wrap ((IntKind.u64.wrap ((IntKind.u64.wrap (s0_2 * 6364136223846793005)) + (IntKind.u64.wrap (wrap64 (rd s0_0 s0_1))))) + 102323))) else (some (wrap64 (Go.bits .and .u64 ((IntKind.u64.wrap ((IntKind.u64.wrap ((IntKind.u64.wrap (s0_2 * 6364136223846793005)) + (IntKind.u64.wrap (wrap64 (rd s0_0 s0_1))))) + 102323)) / 1099511627776) 255), wrap64 (s0_1 + 1), IntKind.u64.wrap ((IntKind.u64.wrap ((IntKind.u64.wrap (s0_2 * 6364136223846793005)) + (IntKind.u64.wrap (wrap64 (rd s0_0 s0_1))))) + 102323)))) else (none)) else (if (wrap64 (s0_1 + 1)) ≤ (s0_0.length : Int) then (some (0, wrap64 (s0_1 + 1), IntKind.u64.wrap ((IntKind.u64.wrap ((IntKind.u64.wrap (s0_2 * 6364136223846793005)))) + 102323))) else (some (wrap64 (Go.bits .and .u64 ((IntKind.u64.wrap ((IntKind.u64.wrap ((IntKind.u64.wrap (s0_2 * 6364136223846793005)))) + 102323)) / 1099511627776) 255), wrap64 (s0_1 + 1), IntKind.u64.wrap ((IntKind.u64.wrap ((IntKind.u64.wrap (s0_2 * 6364136223846793005)))) + 102323))))) = some (r1, r2, r3) := h
 clear h
 by_cases c2 : s0_1 < (s0_0.length : Int)
 ·rw [if_pos c2] at H
  have c2b0 : decide (s0_1 < (s0_0.length : Int)) = true := decide_eq_true c2
  clear c2
  by_cases c3 : 0 ≤ s0_1
  ·rw [if_pos c3] at H
   have c3b0 : decide (0 ≤ s0_1) = true := decide_eq_true c3
   clear c3
   by_cases c4 : (wrap64 (s0_1 + 1)) ≤ (s0_0.length : Int)
   ·rw [if_pos c4] at H
    have c4b0 : decide ((wrap64 (s0_1 + 1)) ≤ (s0_0.length : Int)) = true := decide_eq_true c4
    clear c4
    simp only [Option.some.injEq, Prod.mk.injEq] at H
    obtain ⟨rfl, rfl, rfl⟩ := H
    obtain ⟨ASz5_0, cSz5_0, HGz5, hgz5, HSz5_0⟩ := HI0.out
    have hcz5_0 := cellS79_0 HGz5
    have hcz5_1 := cellS79_1 HGz5
    have hcz5_2 := cellS79_2 HGz5
    have hfz5_1 := blk_frozen HGz5 1
    have hfz5_2 := blk_frozen HGz5 2
    clear HGz5 hgz5
    have p101 : 0 ≤ (s0_1 : Int) := of_decide_eq_true (by first | (with_reducible assumption) | assumption)
    have q101 : s0_1 < (s0_0.length : Int) := of_decide_eq_true (by first | (with_reducible assumption) | assumption)
    obtain ⟨ad101, e101, hx101_0⟩ := Kd.at_int HSz5_0 s0_1 p101 q101
    cases e101
    replace hx101_0 := pw_cell_below HB.out hx101_0
    replace p101 := eq_true p101
    replace q101 := eq_true q101
    go_enter Try.func91, Try.ntmps91
    go_wp2
    repeat (go_quiet (fail); try go_wp2)
    go_ret
    exact ⟨by first | rfl | (simp [errW_none, errW_some] <;> rfl) | (simp [*, errW_none, errW_some] <;> rfl), by repeat (first | (with_reducible first | exact HI0.out | apply IsS79.alloc | apply IsS79.drewN | apply IsS79.drew | apply IsS79.set_1 | apply IsS79.set_2) | exact HI0.out), by repeat (first | (with_reducible first | exact HB.out | apply below_alloc | apply pw_below_drewN | apply below_drew1 | refine below_set ?_ (IsS79.ge HI0.out)) | exact HB.out), by repeat (first | (with_reducible first | exact HK.out | apply KeepBut.set_ | apply keep_drewN | apply keep_drew | apply keep_alloc) | exact HK.out)⟩
   ·rw [if_neg c4] at H
    have c4b0 : decide ((wrap64 (s0_1 + 1)) ≤ (s0_0.length : Int)) = false := decide_eq_false c4
    clear c4
    simp only [Option.some.injEq, Prod.mk.injEq] at H
    obtain ⟨rfl, rfl, rfl⟩ := H
    obtain ⟨ASz6_0, cSz6_0, HGz6, hgz6, HSz6_0⟩ := HI0.out
    have hcz6_0 := cellS79_0 HGz6
    have hcz6_1 := cellS79_1 HGz6
    have hcz6_2 := cellS79_2 HGz6
    have hfz6_1 := blk_frozen HGz6 1
    have hfz6_2 := blk_frozen HGz6 2
    clear HGz6 hgz6
    have p101 : 0 ≤ (s0_1 : Int) := of_decide_eq_true (by first | (with_reducible assumption) | assumption)
    have q101 : s0_1 < (s0_0.length : Int) := of_decide_eq_true (by first | (with_reducible assumption) | assumption)
    obtain ⟨ad101, e101, hx101_0⟩ := Kd.at_int HSz6_0 s0_1 p101 q101
    cases e101
    replace hx101_0 := pw_cell_below HB.out hx101_0
    replace p101 := eq_true p101
    replace q101 := eq_true q101
    go_enter Try.func91, Try.ntmps91
    go_wp2
    repeat (go_quiet (fail); try go_wp2)
    go_ret
    exact ⟨by first | rfl | (simp [errW_none, errW_some] <;> rfl) | (simp [*, errW_none, errW_some] <;> rfl), by repeat (first | (with_reducible first | exact HI0.out | apply IsS79.alloc | apply IsS79.drewN | apply IsS79.drew | apply IsS79.set_1 | apply IsS79.set_2) | exact HI0.out), by repeat (first | (with_reducible first | exact HB.out | apply below_alloc | apply pw_below_drewN | apply below_drew1 | refine below_set ?_ (IsS79.ge HI0.out)) | exact HB.out), by repeat (first | (with_reducible first | exact HK.out | apply KeepBut.set_ | apply keep_drewN | apply keep_drew | apply keep_alloc) | exact HK.out)⟩
  ·rw [if_neg c3] at H
   exact absurd H (by simp)
 ·rw [if_neg c2] at H
  have c2b0 : decide (s0_1 < (s0_0.length : Int)) = false := decide_eq_false c2
  clear c2
  by_cases c7 : (wrap64 (s0_1 + 1)) ≤ (s0_0.length : Int)
  ·rw [if_pos c7] at H
   have c7b0 : decide ((wrap64 (s0_1 + 1)) ≤ (s0_0.length : Int)) = true := decide_eq_true c7
   clear c7
   simp only [Option.some.injEq, Prod.mk.injEq] at H
   obtain ⟨rfl, rfl, rfl⟩ := H
   obtain ⟨ASz8_0, cSz8_0, HGz8, hgz8, HSz8_0⟩ := HI0.out
   have hcz8_0 := cellS79_0 HGz8
   have hcz8_1 := cellS79_1 HGz8
   have hcz8_2 := cellS79_2 HGz8
   have hfz8_1 := blk_frozen HGz8 1
   have hfz8_2 := blk_frozen HGz8 2
   clear HGz8 hgz8
   go_enter Try.func91, Try.ntmps91
   go_wp2
   repeat (go_quiet (fail); try go_wp2)
   go_ret
   exact ⟨by first | rfl | (simp [errW_none, errW_some] <;> rfl) | (simp [*, errW_none, errW_some] <;> rfl), by repeat (first | (with_reducible first | exact HI0.out | apply IsS79.alloc | apply IsS79.drewN | apply IsS79.drew | apply IsS79.set_1 | apply IsS79.set_2) | exact HI0.out), by repeat (first | (with_reducible first | exact HB.out | apply below_alloc | apply pw_below_drewN | apply below_drew1 | refine below_set ?_ (IsS79.ge HI0.out)) | exact HB.out), by repeat (first | (with_reducible first | exact HK.out | apply KeepBut.set_ | apply keep_drewN | apply keep_drew | apply keep_alloc) | exact HK.out)⟩
  ·rw [if_neg c7] at H
   have c7b0 : decide ((wrap64 (s0_1 + 1)) ≤ (s0_0.length : Int)) = false := decide_eq_false c7
   clear c7
   simp only [Option.some.injEq, Prod.mk.injEq] at H
   obtain ⟨rfl, rfl, rfl⟩ := H
   obtain ⟨ASz9_0, cSz9_0, HGz9, hgz9, HSz9_0⟩ := HI0.out
   have hcz9_0 := cellS79_0 HGz9
   have hcz9_1 := cellS79_1 HGz9
   have hcz9_2 := cellS79_2 HGz9
   have hfz9_1 := blk_frozen HGz9 1
   have hfz9_2 := blk_frozen HGz9 2
   clear HGz9 hgz9
   go_enter Try.func91, Try.ntmps91
   go_wp2
   repeat (go_quiet (fail); try go_wp2)
   go_ret
   exact ⟨by first | rfl | (simp [errW_none, errW_some] <;> rfl) | (simp [*, errW_none, errW_some] <;> rfl), by repeat (first | (with_reducible first | exact HI0.out | apply IsS79.alloc | apply IsS79.drewN | apply IsS79.drew | apply IsS79.set_1 | apply IsS79.set_2) | exact HI0.out), by repeat (first | (with_reducible first | exact HB.out | apply below_alloc | apply pw_below_drewN | apply below_drew1 | refine below_set ?_ (IsS79.ge HI0.out)) | exact HB.out), by repeat (first | (with_reducible first | exact HK.out | apply KeepBut.set_ | apply keep_drewN | apply keep_drew | apply keep_alloc) | exact HK.out)⟩

end Go.Proofs.Ytdennkmfjkgfhaa.X

-- Xspecl1CurpickF81
namespace Go.Proofs.Ytdennkmfjkgfhaa.X
open Ho (bS eS)
open Go.RowKit Go.Proofs.YtdennkmfjkgfhaaW.PrintWords Go.Proofs.YtdennkmfjkgfhaaW.PrintLast Go.Proofs.YtdennkmfjkgfhaaW.PrintMore
attribute [local go_sem] max2_int min2_int max_two min_two max_three min_three max_four min_four   -- for this text's walks alone
set_option linter.unusedVariables false
set_option linter.unusedSimpArgs false
open Sq (I O Z)

/-! ### spec_l1Cur_pick: function 81 -/
def spec_l1Cur_pick.f (s0_0 : List Int) (s0_1 : Int) (s0_2 : Int) (a1 : Int) : Option (Int × Int × Int) := if a1 ≤ 1 then (some (0, s0_1, s0_2)) else ((spec_l1Cur_next.f s0_0 s0_1 s0_2).bind fun bt101 => (if a1 > 200 then ((spec_l1Cur_next.f s0_0 bt101.2.1 bt101.2.2).bind fun bt104 => (if a1 = 0 then (none) else (some (Int.tmod (wrap64 ((wrap64 (bt101.1 * 256)) + bt104.1)) a1, bt104.2.1, bt104.2.2)))) else (if a1 = 0 then (none) else (some (Int.tmod bt101.1 a1, bt101.2.1, bt101.2.2)))))
set_option maxHeartbeats 8000000 in
set_option maxRecDepth 100000 in
theorem spec_l1Cur_pick.calls (g : Nat) (s0_0 : List Int) (s0_1 : Int) (s0_2 : Int) (a1 : Int) (r1 : Int) (r2 : Int) (r3 : Int) (w0 w : World) (hI : IsS79 w0 w g s0_0 s0_1 s0_2) (hB : Below w0.heap.size w0 w) (h : spec_l1Cur_pick.f s0_0 s0_1 s0_2 a1 = some (r1, r2, r3)) :
  Calls Try.prog 81 #[.pointer (some ⟨g, 0, none⟩), .int .i64 a1] w fun e w' => e = .returned (.int .i64 r1) ∧ IsS79 w0 w' g s0_0 r2 r3 ∧ Below w0.heap.size w0 w' ∧ KeepBut w w' g none := by
 have HI0 := Aside0.mk hI
 have HK := Aside0.mk (KeepBut.refl w g none)
 have HL := Aside0.mk hB.size
 clear hI
 have HW0 := Aside0.mk hB.size
 have HB := Aside0.mk hB
 clear hB
 have H : (if a1 ≤ 1 then (some (0, s0_1, s0_2)) else ((spec_l1Cur_next.f s0_0 s0_1 s0_2).bind fun bt101 => (if a1 > 200 then ((spec_l1Cur_next.f s0_0 bt101.2.1 bt101.2.2).bind fun bt104 => (if a1 = 0 then (none) else (some (Int.tmod (wrap64 ((wrap64 (bt101.1 * 256)) + bt104.1)) a1, bt104.2.1, bt104.2.2)))) else (if a1 = 0 then (none) else (some (Int.tmod bt101.1 a1, bt101.2.1, bt101.2.2)))))) = some (r1, r2, r3) := h
 clear h
 by_cases c3 : a1 ≤ 1
 ·rw [if_pos c3] at H
  have c3b0 : decide (a1 ≤ 1) = true := decide_eq_true c3
  clear c3
  simp only [Option.some.injEq, Prod.mk.injEq] at H
  obtain ⟨rfl, rfl, rfl⟩ := H
  go_enter Try.func81, Try.ntmps81
  go_wp2
  go_ret
  exact ⟨by first | rfl | (simp [errW_none, errW_some] <;> rfl) | (simp [*, errW_none, errW_some] <;> rfl), by exact IsS79.below HI0.out Ho.Steps.below, by exact eS HB.out, by exact Ho.kS HK.out⟩
 ·rw [if_neg c3] at H
  have c3b0 : decide (a1 ≤ 1) = false := decide_eq_false c3
  clear c3
  replace H := Option.bind_eq_some_iff.mp H
  obtain ⟨⟨t101, t102, t103⟩, A40, H⟩ := H
  replace H : (if a1 > 200 then ((spec_l1Cur_next.f s0_0 t102 t103).bind fun bt104 => (if a1 = 0 then (none) else (some (Int.tmod (wrap64 ((wrap64 (t101 * 256)) + bt104.1)) a1, bt104.2.1, bt104.2.2)))) else (if a1 = 0 then (none) else (some (Int.tmod t101 a1, t102, t103)))) = some (r1, r2, r3) := H
  have A4 := Aside0.mk A40
  clear A40
  by_cases c5 : a1 > 200
  ·rw [if_pos c5] at H
   have c5b0 : decide (200 < a1) = true := decide_eq_true c5
   clear c5
   replace H := Option.bind_eq_some_iff.mp H
   obtain ⟨⟨t104, t105, t106⟩, A60, H⟩ := H
   replace H : (if a1 = 0 then (none) else (some (Int.tmod (wrap64 ((wrap64 (t101 * 256)) + t104)) a1, t105, t106))) = some (r1, r2, r3) := H
   have A6 := Aside0.mk A60
   clear A60
   by_cases c7 : a1 = 0
   ·rw [if_pos c7] at H
    exact absurd H (by simp)
   ·rw [if_neg c7] at H
    have c7b0 : (a1 == 0) = false := beq_eq_false_iff_ne.mpr c7
    have c7b1 : (a1 != 0) = true := bne_iff_ne.mpr c7
    simp only [Option.some.injEq, Prod.mk.injEq] at H
    obtain ⟨rfl, rfl, rfl⟩ := H
    go_enter Try.func81, Try.ntmps81
    go_wp2_with (first | ((with_reducible refine gate_callee (f := 91) rfl ?_); refine goesL_ (some 9) rfl rfl Try.func91 (by kernel_rfl) rfl #[.pointer (some ⟨g, 0, none⟩)] rfl (by (try simp only [List.map_toArray, List.map_cons, List.map_nil]); first | done | rfl | (simp only [List.length_drop, List.length_take]; rfl)) ?_; (with_reducible refine (spec_l1Cur_next.calls g s0_0 s0_1 s0_2 t101 t102 t103 w0 _ ?side1 ?side2 A4.out).mono ?_); (case side1 => exact IsS79.below HI0.out Ho.Steps.below); (case side2 => exact eS HB.out); rintro e w8 ⟨rfl, hi, hb, hk⟩; refine ⟨_, rfl, ?_⟩; have n0_ := Aside0.mk (KeepBut.trans (by exact Ho.kS HK.out) hk (.inl rfl)); have n1_ := Aside0.mk (hb); have n2_ := Aside0.mk (hi); clear HK; clear HB; clear HI0; have HK := n0_; have HB := n1_; have HI0 := n2_; clear n0_ n1_ n2_; (try clear hb); (try clear hb2); (try clear hk); (try clear hi)) | ((with_reducible refine gate_callee (f := 91) rfl ?_); refine goesL_ (some 15) rfl rfl Try.func91 (by kernel_rfl) rfl #[.pointer (some ⟨g, 0, none⟩)] rfl (by (try simp only [List.map_toArray, List.map_cons, List.map_nil]); first | done | rfl | (simp only [List.length_drop, List.length_take]; rfl)) ?_; (with_reducible refine (spec_l1Cur_next.calls g s0_0 t102 t103 t104 t105 t106 w0 _ ?side1 ?side2 A6.out).mono ?_); (case side1 => exact IsS79.below HI0.out Ho.Steps.below); (case side2 => exact eS HB.out); rintro e w9 ⟨rfl, hi, hb, hk⟩; refine ⟨_, rfl, ?_⟩; have n0_ := Aside0.mk (KeepBut.trans (by exact Ho.kS HK.out) hk (.inl rfl)); have n1_ := Aside0.mk (hb); have n2_ := Aside0.mk (hi); clear HK; clear HB; clear HI0; have HK := n0_; have HB := n1_; have HI0 := n2_; clear n0_ n1_ n2_; (try clear hb); (try clear hb2); (try clear hk); (try clear hi)))
    go_ret
    exact ⟨by first | rfl | (simp [errW_none, errW_some] <;> rfl) | (simp [*, errW_none, errW_some] <;> rfl), by exact IsS79.below HI0.out Ho.Steps.below, by exact eS HB.out, by exact Ho.kS HK.out⟩
  ·rw [if_neg c5] at H
   have c5b0 : decide (200 < a1) = false := decide_eq_false c5
   clear c5
   by_cases c10 : a1 = 0
   ·rw [if_pos c10] at H
    exact absurd H (by simp)
   ·rw [if_neg c10] at H
    have c10b0 : (a1 == 0) = false := beq_eq_false_iff_ne.mpr c10
    have c10b1 : (a1 != 0) = true := bne_iff_ne.mpr c10
    simp only [Option.some.injEq, Prod.mk.injEq] at H
    obtain ⟨rfl, rfl, rfl⟩ := H
    go_enter Try.func81, Try.ntmps81
    go_wp2_with (first | ((with_reducible refine gate_callee (f := 91) rfl ?_); refine goesL_ (some 9) rfl rfl Try.func91 (by kernel_rfl) rfl #[.pointer (some ⟨g, 0, none⟩)] rfl (by (try simp only [List.map_toArray, List.map_cons, List.map_nil]); first | done | rfl | (simp only [List.length_drop, List.length_take]; rfl)) ?_; (with_reducible refine (spec_l1Cur_next.calls g s0_0 s0_1 s0_2 t101 t102 t103 w0 _ ?side1 ?side2 A4.out).mono ?_); (case side1 => exact IsS79.below HI0.out Ho.Steps.below); (case side2 => exact eS HB.out); rintro e w11 ⟨rfl, hi, hb, hk⟩; refine ⟨_, rfl, ?_⟩; have n0_ := Aside0.mk (KeepBut.trans (by exact Ho.kS HK.out) hk (.inl rfl)); have n1_ := Aside0.mk (hb); have n2_ := Aside0.mk (hi); clear HK; clear HB; clear HI0; have HK := n0_; have HB := n1_; have HI0 := n2_; clear n0_ n1_ n2_; (try clear hb); (try clear hb2); (try clear hk); (try clear hi)))
    go_ret
    exact ⟨by first | rfl | (simp [errW_none, errW_some] <;> rfl) | (simp [*, errW_none, errW_some] <;> rfl), by exact IsS79.below HI0.out Ho.Steps.below, by exact eS HB.out, by exact Ho.kS HK.out⟩

end Go.Proofs.Ytdennkmfjkgfhaa.X

-- Xspecl1CuramongF80
namespace Go.Proofs.Ytdennkmfjkgfhaa.X
open Ho (bS eS)
open Go.RowKit Go.Proofs.YtdennkmfjkgfhaaW.PrintWords Go.Proofs.YtdennkmfjkgfhaaW.PrintLast Go.Proofs.YtdennkmfjkgfhaaW.PrintMore
attribute [local go_sem] max2_int min2_int max_two min_two max_three min_three max_four min_four   -- for this text's walks alone
set_option linter.unusedVariables false
set_option linter.unusedSimpArgs false
open Sq (I O Z)

/-! ### spec_l1Cur_among: function 80 -/
def spec_l1Cur_among.f (s0_0 : List Int) (s0_1 : Int) (s0_2 : Int) (l1 : List Int) : Option (Int × Int × Int) := (spec_l1Cur_pick.f s0_0 s0_1 s0_2 (l1.length : Int)).bind fun bt101 => (if 0 ≤ bt101.1 then (if bt101.1 < (l1.length : Int) then (some (rd l1 bt101.1, bt101.2.1, bt101.2.2)) else (none)) else (none))
set_option maxHeartbeats 8000000 in
set_option maxRecDepth 100000 in
theorem spec_l1Cur_among.calls (g : Nat) (s0_0 : List Int) (s0_1 : Int) (s0_2 : Int) (A1 : Option Addr) (c1 : Nat) (l1 : List Int) (r1 : Int) (r2 : Int) (r3 : Int) (w0 w : World) (hI : IsS79 w0 w g s0_0 s0_1 s0_2) (hB : Below w0.heap.size w0 w) (hr1 : Kd.C (Kd.int .i64) w A1 l1.length l1) (hc1 : l1.length ≤ c1) (hf1 : ∀ ad, A1 = some ad → 0 < l1.length → ad.block ≠ g) (h : spec_l1Cur_among.f s0_0 s0_1 s0_2 l1 = some (r1, r2, r3)) :
  Calls Try.prog 80 #[.pointer (some ⟨g, 0, none⟩), .slice A1 l1.length c1] w fun e w' => e = .returned (.int .i64 r1) ∧ IsS79 w0 w' g s0_0 r2 r3 ∧ Below w0.heap.size w0 w' ∧ KeepBut w w' g none := by
 have HR1 := Aside0.mk hr1
 have HC1 := Aside0.mk hc1
 clear hr1 hc1
 have HI0 := Aside0.mk hI
 have HK := Aside0.mk (KeepBut.refl w g none)
 have HL := Aside0.mk hB.size
 clear hI
 have HW0 := Aside0.mk hB.size
 have HB := Aside0.mk hB
 clear hB
 have H : ((spec_l1Cur_pick.f s0_0 s0_1 s0_2 (l1.length : Int)).bind fun bt101 => (if 0 ≤ bt101.1 then (if bt101.1 < (l1.length : Int) then (some (rd l1 bt101.1, bt101.2.1, bt101.2.2)) else (none)) else (none))) = some (r1, r2, r3) := h
 clear h
 replace H := Option.bind_eq_some_iff.mp H
 obtain ⟨⟨t101, t102, t103⟩, A30, H⟩ := H
 replace H : (if 0 ≤ t101 then (if t101 < (l1.length : Int) then (some (rd l1 t101, t102, t103)) else (none)) else (none)) = some (r1, r2, r3) := H
 have A3 := Aside0.mk A30
 clear A30
 by_cases c4 : 0 ≤ t101
 ·rw [if_pos c4] at H
  have c4b0 : decide (0 ≤ t101) = true := decide_eq_true c4
  clear c4
  by_cases c5 : t101 < (l1.length : Int)
  ·rw [if_pos c5] at H
   have c5b0 : decide (t101 < (l1.length : Int)) = true := decide_eq_true c5
   clear c5
   simp only [Option.some.injEq, Prod.mk.injEq] at H
   obtain ⟨rfl, rfl, rfl⟩ := H
   go_enter Try.func80, Try.ntmps80
   go_wp2_with (first | ((with_reducible refine gate_callee (f := 81) rfl ?_); refine goesL_ (some 9) rfl rfl Try.func81 (by kernel_rfl) rfl #[.pointer (some ⟨g, 0, none⟩), .int .i64 (l1.length : Int)] rfl (by (try simp only [List.map_toArray, List.map_cons, List.map_nil]); first | done | rfl | (simp only [List.length_drop, List.length_take]; rfl)) ?_; (with_reducible refine (spec_l1Cur_pick.calls g s0_0 s0_1 s0_2 (l1.length : Int) t101 t102 t103 w0 _ ?side1 ?side2 A3.out).mono ?_); (case side1 => exact IsS79.below HI0.out Ho.Steps.below); (case side2 => exact eS HB.out); rintro e w6 ⟨rfl, hi, hb, hk⟩; refine ⟨_, rfl, ?_⟩; have n0_ := Aside0.mk (KeepBut.trans (by exact Ho.kS HK.out) hk (.inl rfl)); have n1_ := Aside0.mk (hb); have n2_ := Aside0.mk (hi); clear HK; clear HB; clear HI0; have HK := n0_; have HB := n1_; have HI0 := n2_; clear n0_ n1_ n2_; (try clear hb); (try clear hb2); (try clear hk); (try clear hi); have p104 : 0 ≤ (t101 : Int) := of_decide_eq_true (by first | (with_reducible assumption) | assumption); have q104 : t101 < (l1.length : Int) := of_decide_eq_true (by first | (with_reducible assumption) | assumption); obtain ⟨ad104, e104, hx104_0⟩ := Kd.at_int HR1.out t101 p104 q104; cases e104; replace hx104_0 := keep_cell HK.out hx104_0 (by first | (rw [add_block]; exact hf1 _ rfl (by omega)) | exact hf1 _ rfl (by omega) | exact hf1 ad104 rfl (by omega)); replace p104 := eq_true p104; replace q104 := eq_true q104))
   go_ret
   exact ⟨by first | rfl | (simp [errW_none, errW_some] <;> rfl) | (simp [*, errW_none, errW_some] <;> rfl), by exact IsS79.below HI0.out Ho.Steps.below, by exact eS HB.out, by exact Ho.kS HK.out⟩
  ·rw [if_neg c5] at H
   exact absurd H (by simp)
 ·rw [if_neg c4] at H
  exact absurd H (by simp)

end Go.Proofs.Ytdennkmfjkgfhaa.X

-- Xspecl1Curdegrees18F79
namespace Go.Proofs.Ytdennkmfjkgfhaa.X
open Ho (bS eS)
open Go.RowKit Go.Proofs.YtdennkmfjkgfhaaW.PrintWords Go.Proofs.YtdennkmfjkgfhaaW.PrintLast Go.Proofs.YtdennkmfjkgfhaaW.PrintMore
attribute [local go_sem] max2_int min2_int max_two min_two max_three min_three max_four min_four   -- for this text's walks alone
set_option linter.unusedVariables false
set_option linter.unusedSimpArgs false
open Sq (I O Z)

/-! ### spec_l1Cur_degrees18: function 79 -/
def spec_l1Cur_degrees18.f (s0_0 : List Int) (s0_1 : Int) (s0_2 : Int) : Option (Int × Int × Int) := (some (([5, 15, 15, 30, 40, 4, 41] : List Int) : List Int)).bind fun y101 => ((spec_l1Cur_pick.f s0_0 s0_1 s0_2 24).bind fun bt104 => (if 0 ≤ (wrap64 (5 + (wrap64 (Int.tdiv bt104.1 11)))) then (if (wrap64 (5 + (wrap64 (Int.tdiv bt104.1 11)))) ≤ (y101.length : Int) then ((spec_l1Cur_among.f s0_0 bt104.2.1 bt104.2.2 (y101.take ((wrap64 (5 + (wrap64 (Int.tdiv bt104.1 11)))) : Int).toNat)).bind fun bt111 => (some (bt111.1, bt111.2.1, bt111.2.2))) else (none)) else (none)))
set_option maxHeartbeats 8000000 in
set_option maxRecDepth 100000 in
theorem spec_l1Cur_degrees18.calls (g : Nat) (s0_0 : List Int) (s0_1 : Int) (s0_2 : Int) (r1 : Int) (r2 : Int) (r3 : Int) (w0 w : World) (hI : IsS79 w0 w g s0_0 s0_1 s0_2) (hB : Below w0.heap.size w0 w) (h : spec_l1Cur_degrees18.f s0_0 s0_1 s0_2 = some (r1, r2, r3)) :
  Calls Try.prog 79 #[.pointer (some ⟨g, 0, none⟩)] w fun e w' => e = .returned (.int .i64 r1) ∧ IsS79 w0 w' g s0_0 r2 r3 ∧ Below w0.heap.size w0 w' ∧ KeepBut w w' g none := by
 have HI0 := Aside0.mk hI
 have HK := Aside0.mk (KeepBut.refl w g none)
 have HL := Aside0.mk hB.size
 clear hI
 have HW0 := Aside0.mk hB.size
 have HB := Aside0.mk hB
 clear hB
 have H : ((some (([5, 15, 15, 30, 40, 4, 41] : List Int) : List Int)).bind fun y101 => ((spec_l1Cur_pick.f s0_0 s0_1 s0_2 24).bind fun bt104 => (if 0 ≤ (wrap64 (5 + (wrap64 (Int.tdiv bt104.1 11)))) then (if (wrap64 (5 + (wrap64 (Int.tdiv bt104.1 11)))) ≤ (y101.length : Int) then ((spec_l1Cur_among.f s0_0 bt104.2.1 bt104.2.2 (y101.take ((wrap64 (5 + (wrap64 (Int.tdiv bt104.1 11)))) : Int).toNat)).bind fun bt111 => (some (bt111.1, bt111.2.1, bt111.2.2))) else (none)) else (none)))) = some (r1, r2, r3) := h
 clear h
 obtain ⟨y101, hy101⟩ : ∃ y_ : List Int, y_ = (([5, 15, 15, 30, 40, 4, 41] : List Int)) := ⟨_, rfl⟩
 replace H : ((spec_l1Cur_pick.f s0_0 s0_1 s0_2 24).bind fun bt104 => (if 0 ≤ (wrap64 (5 + (wrap64 (Int.tdiv bt104.1 11)))) then (if (wrap64 (5 + (wrap64 (Int.tdiv bt104.1 11)))) ≤ (y101.length : Int) then ((spec_l1Cur_among.f s0_0 bt104.2.1 bt104.2.2 (y101.take ((wrap64 (5 + (wrap64 (Int.tdiv bt104.1 11)))) : Int).toNat)).bind fun bt111 => (some (bt111.1, bt111.2.1, bt111.2.2))) else (none)) else (none))) = some (r1, r2, r3) := by first | (rw [hy101]; with_reducible exact H) | (have H2_ := (Option.bind_some _ _).symm.trans H; rw [hy101]; with_reducible exact H2_) | (have H2_ := (Option.bind_some _ _).symm.trans H; with_reducible exact H2_) | with_reducible exact H | (rw [hy101]; exact H) | exact H
 have Ny101 := Aside0.mk hy101
 clear hy101
 replace H := Option.bind_eq_some_iff.mp H
 obtain ⟨⟨t104, t105, t106⟩, A20, H⟩ := H
 replace H : (if 0 ≤ (wrap64 (5 + (wrap64 (Int.tdiv t104 11)))) then (if (wrap64 (5 + (wrap64 (Int.tdiv t104 11)))) ≤ (y101.length : Int) then ((spec_l1Cur_among.f s0_0 t105 t106 (y101.take ((wrap64 (5 + (wrap64 (Int.tdiv t104 11)))) : Int).toNat)).bind fun bt111 => (some (bt111.1, bt111.2.1, bt111.2.2))) else (none)) else (none)) = some (r1, r2, r3) := H
 have A2 := Aside0.mk A20
 clear A20
 obtain ⟨ji3, hji3⟩ : ∃ j_ : Int, (wrap64 (5 + (wrap64 (Int.tdiv t104 11)))) = j_ := ⟨_, rfl⟩
 replace H : (if 0 ≤ (ji3) then (if (ji3) ≤ (y101.length : Int) then ((spec_l1Cur_among.f s0_0 t105 t106 (y101.take ((ji3) : Int).toNat)).bind fun bt111 => (some (bt111.1, bt111.2.1, bt111.2.2))) else (none)) else (none)) = some (r1, r2, r3) := by first | (rw [hji3] at H; exact H) | (simp only [hji3] at H ⊢; exact H)
 (try rw [hji3] at A2)
 have hji3w : (IntKind.i64.wrap (5 + (wrap64 (Int.tdiv t104 11)))) = ji3 := (i64_w _).trans hji3
 by_cases c4 : 0 ≤ (ji3)
 ·rw [if_pos c4] at H
  have c4b0 := eq_true c4
  have c4b1 : decide (0 ≤ (ji3)) = true := decide_eq_true c4
  clear c4
  by_cases c5 : (ji3) ≤ (y101.length : Int)
  ·rw [if_pos c5] at H
   have c5b0 := eq_true c5
   have c5b1 : decide ((ji3) ≤ (y101.length : Int)) = true := decide_eq_true c5
   clear c5
   obtain ⟨y107, hy107⟩ : ∃ y_ : List Int, y_ = (y101.take ((ji3) : Int).toNat) := ⟨_, rfl⟩
   replace H : ((spec_l1Cur_among.f s0_0 t105 t106 y107).bind fun bt111 => (some (bt111.1, bt111.2.1, bt111.2.2))) = some (r1, r2, r3) := by first | (rw [hy107]; with_reducible exact H) | (have H2_ := (Option.bind_some _ _).symm.trans H; rw [hy107]; with_reducible exact H2_) | (have H2_ := (Option.bind_some _ _).symm.trans H; with_reducible exact H2_) | with_reducible exact H | (rw [hy107]; exact H) | exact H
   have Ny107 := Aside0.mk hy107
   clear hy107
   replace H := Option.bind_eq_some_iff.mp H
   obtain ⟨⟨t111, t112, t113⟩, A60, H⟩ := H
   replace H : (some (t111, t112, t113)) = some (r1, r2, r3) := H
   have A6 := Aside0.mk A60
   clear A60
   simp only [Option.some.injEq, Prod.mk.injEq] at H
   obtain ⟨rfl, rfl, rfl⟩ := H
   go_enter Try.func79, Try.ntmps79
   go_wp2_with (first | ((with_reducible refine gate_dst (N := 4) rfl ?_); refine Kd.R_lit (Kd.int .i64) _ 3 ?hg (N := 4) ?hd (xs := ([5, 15, 15, 30, 40, 4, 41] : List Int)) (inner := [.int .i64 5, .int .i64 15, .int .i64 15, .int .i64 30, .int .i64 40, .int .i64 4, .int .i64 41]) (ok := fun _ => True) (okp := fun _ => True) ?hr ?hp (fun _ hk => hk) trivial (Below.refl _ _) (Nat.le_refl _) (by simp) ?_; (case hd => rfl); (case hg => rfl); (case hr => first | (go_simp; done) | (go_simp; rfl)); (case hp => exact (Reps.one (show Kd.M (Kd.int .i64) _ _ _ 5 [.int .i64 5] from rfl) (Reps.one (show Kd.M (Kd.int .i64) _ _ _ 15 [.int .i64 15] from rfl) (Reps.one (show Kd.M (Kd.int .i64) _ _ _ 15 [.int .i64 15] from rfl) (Reps.one (show Kd.M (Kd.int .i64) _ _ _ 30 [.int .i64 30] from rfl) (Reps.one (show Kd.M (Kd.int .i64) _ _ _ 40 [.int .i64 40] from rfl) (Reps.one (show Kd.M (Kd.int .i64) _ _ _ 4 [.int .i64 4] from rfl) (Reps.one (show Kd.M (Kd.int .i64) _ _ _ 41 [.int .i64 41] from rfl) (Reps.none _ _))))))))); intro v102 w7 ho8 hb hg_ hnew_; clear hg_ hnew_; (first | rw [← Ny101.out] at ho8 | (simp only [Int.reduceToNat] at ho8; rw [← Ny101.out] at ho8)); have n0_ := Aside0.mk (Kd.R_lower ho8 (keep_size (w := w) (g := g) (row := none) (by exact Ho.kS HK.out))); have n1_ := Aside0.mk (IsS79.below (by exact IsS79.below HI0.out Ho.Steps.below) hb); have n2_ := Aside0.mk (KeepBut.trans (by exact Ho.kS HK.out) (KeepBut.of_below hb g none) (.inl rfl)); have n3_ := Aside0.mk (below_step (by exact eS HB.out) hb); clear HI0; clear HK; clear HB; have HO103 := n0_; have HI0 := n1_; have HK := n2_; have HB := n3_; clear n0_ n1_ n2_ n3_; clear hb ho8) | ((with_reducible refine gate_callee (f := 81) rfl ?_); refine goesL_ (some 6) rfl rfl Try.func81 (by kernel_rfl) rfl #[.pointer (some ⟨g, 0, none⟩), .int .i64 24] rfl (by (try simp only [List.map_toArray, List.map_cons, List.map_nil]); first | done | rfl | (simp only [List.length_drop, List.length_take]; rfl)) ?_; (with_reducible refine (spec_l1Cur_pick.calls g s0_0 s0_1 s0_2 24 t104 t105 t106 w0 _ ?side1 ?side2 A2.out).mono ?_); (case side1 => exact IsS79.below HI0.out Ho.Steps.below); (case side2 => exact eS HB.out); rintro e w9 ⟨rfl, hi, hb, hk⟩; refine ⟨_, rfl, ?_⟩; have n0_ := Aside0.mk (Kd.R_mono (Kd.R_keep (IsS79.apart (show IsS79 w0 _ g s0_0 s0_1 s0_2 from by exact IsS79.below HI0.out Ho.Steps.below) (by exact Ho.RS <| HO103.out) (by decide)) hk (fun _ h => h.2)) (fun _ h => h.1)); have n1_ := Aside0.mk (KeepBut.trans (by exact Ho.kS HK.out) hk (.inl rfl)); have n2_ := Aside0.mk (hb); have n3_ := Aside0.mk (hi); clear HO103; clear HK; clear HB; clear HI0; have HO103 := n0_; have HK := n1_; have HB := n2_; have HI0 := n3_; clear n0_ n1_ n2_ n3_; (try clear hb); (try clear hb2); (try clear hk); (try clear hi); obtain ⟨Ao11, co11, eo11⟩ := Kd.R_slice HO103.out; subst eo11; have q10 : ((ji3) : Int) ≤ ((y101.length : Int) : Int) := of_decide_eq_true (by first | (with_reducible assumption) | assumption); obtain ⟨i010, hi010, _, hsz10, _⟩ := info_parts info3; have hroom10 : y101.length ≤ co11 := (Kd.R_reads' HO103.out).2.1; have hC10 : Kd.C (Kd.int .i64) _ Ao11 y101.length y101 := (Kd.R_reads' HO103.out).2.2; have hcut10 := cut_to (P := Try.prog) 46 3 .i64 Try.underlying46 hi010 Ao11 y101.length co11 (ji3) (of_decide_eq_true (by first | (with_reducible assumption) | assumption)) q10 hroom10; have hr10 := Kd.C_take (m := ((ji3) : Int).toNat) hC10 (by omega); have hy10 : y107.length = ((ji3) : Int).toNat := (by rw [Ny107.out, List.length_take]; omega); rw [← Ny107.out] at hr10; rw [← hy10] at hcut10; have HR110 := Aside0.mk hr10; have HC110 := Aside0.mk (show y107.length ≤ co11 from by omega); clear hr10 hC10 hroom10 hi010 hsz10; have KY10 := Aside0.mk hy10; clear hy10; have KL10 := Aside0.mk (show ((ji3) : Int).toNat ≤ y101.length from by omega); replace q10 := eq_true q10) | ((with_reducible refine gate_callee (f := 80) rfl ?_); refine goesL_ (some 10) rfl rfl Try.func80 (by kernel_rfl) rfl #[.pointer (some ⟨g, 0, none⟩), .slice Ao11 y107.length co11] rfl (by (try simp only [List.map_toArray, List.map_cons, List.map_nil]); first | done | rfl | (simp only [List.length_drop, List.length_take]; rfl)) ?_; (with_reducible refine (spec_l1Cur_among.calls g s0_0 t105 t106 _ _ y107 t111 t112 t113 w0 _ ?side1 ?side2 ?side3 ?side4 ?side5 A6.out).mono ?_); (case side1 => exact IsS79.below HI0.out Ho.Steps.below); (case side2 => exact eS HB.out); (case side3 => repeat (first | exact (by repeat (first | (with_reducible exact HR110.out) | (with_reducible refine Kd.C_alloc ?_ _) | (with_reducible refine Kd.C_drewN ?_ _) | (with_reducible refine Kd.C_drew ?_) | exact HR110.out)) | (with_reducible refine Kd.C_alloc ?_ _) | (with_reducible refine Kd.C_drewN ?_ _) | (with_reducible refine Kd.C_drew ?_))); (case side4 => exact HC110.out); (case side5 => exact fun ad_ e_ h_ => far_slice (IsS79.own_ne HI0.out HO103.out (by decide)) ad_ e_ (by have := KY10.out; have := KL10.out; omega)); rintro e w12 ⟨rfl, hi, hb, hk⟩; refine ⟨_, rfl, ?_⟩; have n0_ := Aside0.mk (Kd.R_mono (Kd.R_keep (IsS79.apart (show IsS79 w0 _ g s0_0 t105 t106 from by exact IsS79.below HI0.out Ho.Steps.below) (by exact Ho.RS <| HO103.out) (by decide)) hk (fun _ h => h.2)) (fun _ h => h.1)); have n1_ := Aside0.mk (KeepBut.trans (by exact Ho.kS HK.out) hk (.inl rfl)); have n2_ := Aside0.mk (hb); have n3_ := Aside0.mk (hi); clear HO103; clear HK; clear HB; clear HI0; have HO103 := n0_; have HK := n1_; have HB := n2_; have HI0 := n3_; clear n0_ n1_ n2_ n3_; (try clear hb); (try clear hb2); (try clear hk); (try clear hi)))
   go_ret
   exact ⟨by first | rfl | (simp [errW_none, errW_some] <;> rfl) | (simp only [← hji3]; first | rfl | (simp [errW_none, errW_some] <;> rfl)) | (simp [*, errW_none, errW_some] <;> rfl), by exact IsS79.below HI0.out Ho.Steps.below, by exact eS HB.out, by exact Ho.kS HK.out⟩
  ·rw [if_neg c5] at H
   exact absurd H (by simp)
 ·rw [if_neg c4] at H
  exact absurd H (by simp)

end Go.Proofs.Ytdennkmfjkgfhaa.X

-- Xspecl1CurwetCarpetF82
namespace Go.Proofs.Ytdennkmfjkgfhaa.X
open Ho (bS eS)
open Go.RowKit Go.Proofs.YtdennkmfjkgfhaaW.PrintWords Go.Proofs.YtdennkmfjkgfhaaW.PrintLast Go.Proofs.YtdennkmfjkgfhaaW.PrintMore
attribute [local go_sem] max2_int min2_int max_two min_two max_three min_three max_four min_four   -- for this text's walks alone
set_option linter.unusedVariables false
set_option linter.unusedSimpArgs false

attribute [local go_sem ↓] Ho.isSome_setCell_   -- a store leaves all places there
/-! ### spec_l1Cur_wetCarpet: function 82 -/
def spec_l1Cur_wetCarpet.f (s0_0 : List Int) (s0_1 : Int) (s0_2 : Int) (a1 : Int) : Option (Int × Int × Int × Int × Int × Int × Int) := (spec_l1Cur_among.f s0_0 s0_1 s0_2 (([1, 60, 240, 4000] : List Int))).bind fun bt105 => ((spec_l1Cur_among.f s0_0 bt105.2.1 bt105.2.2 (([1, 50, 3000, 12000, 200000] : List Int))).bind fun bt111 => ((spec_l1Cur_among.f s0_0 bt111.2.1 bt111.2.2 (([20, 25, 80, 300] : List Int))).bind fun bt117 => ((spec_l1Cur_among.f s0_0 bt117.2.1 bt117.2.2 (([0, wrap64 (Int.tdiv bt111.1 50), wrap64 ((wrap64 (Int.tdiv bt111.1 50)) + 1), bt111.1, wrap64 (2 * bt111.1)] : List Int))).bind fun bt124 => ((spec_l1Cur_pick.f s0_0 bt124.2.1 bt124.2.2 70).bind fun bt127 => (if bt127.1 = 0 then ((spec_l1Cur_among.f s0_0 bt127.2.1 bt127.2.2 (([0, 999, 1000] : List Int))).bind fun bt133 => (some (bt133.1, bt105.1, bt111.1, bt124.1, bt117.1, bt133.2.1, bt133.2.2))) else (if bt127.1 = 1 then ((spec_l1Cur_among.f s0_0 bt127.2.1 bt127.2.2 (([0, 4001] : List Int))).bind fun bt139 => (some (a1, bt139.1, bt111.1, bt124.1, bt117.1, bt139.2.1, bt139.2.2))) else (if bt127.1 = 2 then ((spec_l1Cur_among.f s0_0 bt127.2.1 bt127.2.2 (([0, 200001] : List Int))).bind fun bt145 => (some (a1, bt105.1, bt145.1, bt124.1, bt117.1, bt145.2.1, bt145.2.2))) else (if bt127.1 = 3 then ((spec_l1Cur_among.f s0_0 bt127.2.1 bt127.2.2 (([(-1), wrap64 ((wrap64 (2 * bt111.1)) + 1)] : List Int))).bind fun bt151 => (some (a1, bt105.1, bt111.1, bt151.1, bt117.1, bt151.2.1, bt151.2.2))) else (if bt127.1 = 4 then ((spec_l1Cur_among.f s0_0 bt127.2.1 bt127.2.2 (([19, 301] : List Int))).bind fun bt157 => (some (a1, bt105.1, bt111.1, bt124.1, bt157.1, bt157.2.1, bt157.2.2))) else (some (a1, bt105.1, bt111.1, bt124.1, bt117.1, bt127.2.1, bt127.2.2)))))))))))
set_option maxHeartbeats 8000000 in
set_option maxRecDepth 100000 in
theorem spec_l1Cur_wetCarpet.calls (g : Nat) (s0_0 : List Int) (s0_1 : Int) (s0_2 : Int) (a1 : Int) (r1 : Int) (r2 : Int) (r3 : Int) (r4 : Int) (r5 : Int) (r6 : Int) (r7 : Int) (w0 w : World) (hI : IsS79 w0 w g s0_0 s0_1 s0_2) (hB : Below w0.heap.size w0 w) (h : spec_l1Cur_wetCarpet.f s0_0 s0_1 s0_2 a1 = some (r1, r2, r3, r4, r5, r6, r7)) :
  Calls Try.prog 82 #[.pointer (some ⟨g, 0, none⟩), .int .i64 a1] w fun e w' => e = .returned (.agg #[.int .i64 r1, .int .i64 r2, .int .i64 r3, .int .i64 r4, .int .i64 r5]) ∧ IsS79 w0 w' g s0_0 r6 r7 ∧ Below w0.heap.size w0 w' ∧ KeepBut w w' g none := by
 have hu25 := Try.underlying25
 have HI0 := Aside0.mk hI
 have HK := Aside0.mk (KeepBut.refl w g none)
 have HL := Aside0.mk hB.size
 clear hI
 have HW0 := Aside0.mk hB.size
 have HB := Aside0.mk hB
 clear hB
 have H : ((spec_l1Cur_among.f s0_0 s0_1 s0_2 (([1, 60, 240, 4000] : List Int))).bind fun bt105 => ((spec_l1Cur_among.f s0_0 bt105.2.1 bt105.2.2 (([1, 50, 3000, 12000, 200000] : List Int))).bind fun bt111 => ((spec_l1Cur_among.f s0_0 bt111.2.1 bt111.2.2 (([20, 25, 80, 300] : List Int))).bind fun bt117 => ((spec_l1Cur_among.f s0_0 bt117.2.1 bt117.2.2 (([0, wrap64 (Int.tdiv bt111.1 50), wrap64 ((wrap64 (Int.tdiv bt111.1 50)) + 1), bt111.1, wrap64 (2 * bt111.1)] : List Int))).bind fun bt124 => ((spec_l1Cur_pick.f s0_0 bt124.2.1 bt124.2.2 70).bind fun bt127 => (if bt127.1 = 0 then ((spec_l1Cur_among.f s0_0 bt127.2.1 bt127.2.2 (([0, 999, 1000] : List Int))).bind fun bt133 => (some (bt133.1, bt105.1, bt111.1, bt124.1, bt117.1, bt133.2.1, bt133.2.2))) else (if bt127.1 = 1 then ((spec_l1Cur_among.f s0_0 bt127.2.1 bt127.2.2 (([0, 4001] : List Int))).bind fun bt139 => (some (a1, bt139.1, bt111.1, bt124.1, bt117.1, bt139.2.1, bt139.2.2))) else (if bt127.1 = 2 then ((spec_l1Cur_among.f s0_0 bt127.2.1 bt127.2.2 (([0, 200001] : List Int))).bind fun bt145 => (some (a1, bt105.1, bt145.1, bt124.1, bt117.1, bt145.2.1, bt145.2.2))) else (if bt127.1 = 3 then ((spec_l1Cur_among.f s0_0 bt127.2.1 bt127.2.2 (([(-1), wrap64 ((wrap64 (2 * bt111.1)) + 1)] : List Int))).bind fun bt151 => (some (a1, bt105.1, bt111.1, bt151.1, bt117.1, bt151.2.1, bt151.2.2))) else (if bt127.1 = 4 then ((spec_l1Cur_among.f s0_0 bt127.2.1 bt127.2.2 (([19, 301] : List Int))).bind fun bt157 => (some (a1, bt105.1, bt111.1, bt124.1, bt157.1, bt157.2.1, bt157.2.2))) else (some (a1, bt105.1, bt111.1, bt124.1, bt117.1, bt127.2.1, bt127.2.2)))))))))))) = some (r1, r2, r3, r4, r5, r6, r7) := h
 clear h
 obtain ⟨y102, hy102⟩ : ∃ y_ : List Int, y_ = (([1, 60, 240, 4000] : List Int)) := ⟨_, rfl⟩
 replace H : ((spec_l1Cur_among.f s0_0 s0_1 s0_2 y102).bind fun bt105 => ((spec_l1Cur_among.f s0_0 bt105.2.1 bt105.2.2 (([1, 50, 3000, 12000, 200000] : List Int))).bind fun bt111 => ((spec_l1Cur_among.f s0_0 bt111.2.1 bt111.2.2 (([20, 25, 80, 300] : List Int))).bind fun bt117 => ((spec_l1Cur_among.f s0_0 bt117.2.1 bt117.2.2 (([0, wrap64 (Int.tdiv bt111.1 50), wrap64 ((wrap64 (Int.tdiv bt111.1 50)) + 1), bt111.1, wrap64 (2 * bt111.1)] : List Int))).bind fun bt124 => ((spec_l1Cur_pick.f s0_0 bt124.2.1 bt124.2.2 70).bind fun bt127 => (if bt127.1 = 0 then ((spec_l1Cur_among.f s0_0 bt127.2.1 bt127.2.2 (([0, 999, 1000] : List Int))).bind fun bt133 => (some (bt133.1, bt105.1, bt111.1, bt124.1, bt117.1, bt133.2.1, bt133.2.2))) else (if bt127.1 = 1 then ((spec_l1Cur_among.f s0_0 bt127.2.1 bt127.2.2 (([0, 4001] : List Int))).bind fun bt139 => (some (a1, bt139.1, bt111.1, bt124.1, bt117.1, bt139.2.1, bt139.2.2))) else (if bt127.1 = 2 then ((spec_l1Cur_among.f s0_0 bt127.2.1 bt127.2.2 (([0, 200001] : List Int))).bind fun bt145 => (some (a1, bt105.1, bt145.1, bt124.1, bt117.1, bt145.2.1, bt145.2.2))) else (if bt127.1 = 3 then ((spec_l1Cur_among.f s0_0 bt127.2.1 bt127.2.2 (([(-1), wrap64 ((wrap64 (2 * bt111.1)) + 1)] : List Int))).bind fun bt151 => (some (a1, bt105.1, bt111.1, bt151.1, bt117.1, bt151.2.1, bt151.2.2))) else (if bt127.1 = 4 then ((spec_l1Cur_among.f s0_0 bt127.2.1 bt127.2.2 (([19, 301] : List Int))).bind fun bt157 => (some (a1, bt105.1, bt111.1, bt124.1, bt157.1, bt157.2.1, bt157.2.2))) else (some (a1, bt105.1, bt111.1, bt124.1, bt117.1, bt127.2.1, bt127.2.2)))))))))))) = some (r1, r2, r3, r4, r5, r6, r7) := by first | (rw [hy102]; with_reducible exact H) | (have H2_ := (Option.bind_some _ _).symm.trans H; rw [hy102]; with_reducible exact H2_) | (have H2_ := (Option.bind_some _ _).symm.trans H; with_reducible exact H2_) | with_reducible exact H | (rw [hy102]; exact H) | exact H
 have Ny102 := Aside0.mk hy102
 clear hy102
 replace H := Option.bind_eq_some_iff.mp H
 obtain ⟨⟨t105, t106, t107⟩, A30, H⟩ := H
 replace H : ((spec_l1Cur_among.f s0_0 t106 t107 (([1, 50, 3000, 12000, 200000] : List Int))).bind fun bt111 => ((spec_l1Cur_among.f s0_0 bt111.2.1 bt111.2.2 (([20, 25, 80, 300] : List Int))).bind fun bt117 => ((spec_l1Cur_among.f s0_0 bt117.2.1 bt117.2.2 (([0, wrap64 (Int.tdiv bt111.1 50), wrap64 ((wrap64 (Int.tdiv bt111.1 50)) + 1), bt111.1, wrap64 (2 * bt111.1)] : List Int))).bind fun bt124 => ((spec_l1Cur_pick.f s0_0 bt124.2.1 bt124.2.2 70).bind fun bt127 => (if bt127.1 = 0 then ((spec_l1Cur_among.f s0_0 bt127.2.1 bt127.2.2 (([0, 999, 1000] : List Int))).bind fun bt133 => (some (bt133.1, t105, bt111.1, bt124.1, bt117.1, bt133.2.1, bt133.2.2))) else (if bt127.1 = 1 then ((spec_l1Cur_among.f s0_0 bt127.2.1 bt127.2.2 (([0, 4001] : List Int))).bind fun bt139 => (some (a1, bt139.1, bt111.1, bt124.1, bt117.1, bt139.2.1, bt139.2.2))) else (if bt127.1 = 2 then ((spec_l1Cur_among.f s0_0 bt127.2.1 bt127.2.2 (([0, 200001] : List Int))).bind fun bt145 => (some (a1, t105, bt145.1, bt124.1, bt117.1, bt145.2.1, bt145.2.2))) else (if bt127.1 = 3 then ((spec_l1Cur_among.f s0_0 bt127.2.1 bt127.2.2 (([(-1), wrap64 ((wrap64 (2 * bt111.1)) + 1)] : List Int))).bind fun bt151 => (some (a1, t105, bt111.1, bt151.1, bt117.1, bt151.2.1, bt151.2.2))) else (if bt127.1 = 4 then ((spec_l1Cur_among.f s0_0 bt127.2.1 bt127.2.2 (([19, 301] : List Int))).bind fun bt157 => (some (a1, t105, bt111.1, bt124.1, bt157.1, bt157.2.1, bt157.2.2))) else (some (a1, t105, bt111.1, bt124.1, bt117.1, bt127.2.1, bt127.2.2))))))))))) = some (r1, r2, r3, r4, r5, r6, r7) := H
 have A3 := Aside0.mk A30
 clear A30
 obtain ⟨y108, hy108⟩ : ∃ y_ : List Int, y_ = (([1, 50, 3000, 12000, 200000] : List Int)) := ⟨_, rfl⟩
 replace H : ((spec_l1Cur_among.f s0_0 t106 t107 y108).bind fun bt111 => ((spec_l1Cur_among.f s0_0 bt111.2.1 bt111.2.2 (([20, 25, 80, 300] : List Int))).bind fun bt117 => ((spec_l1Cur_among.f s0_0 bt117.2.1 bt117.2.2 (([0, wrap64 (Int.tdiv bt111.1 50), wrap64 ((wrap64 (Int.tdiv bt111.1 50)) + 1), bt111.1, wrap64 (2 * bt111.1)] : List Int))).bind fun bt124 => ((spec_l1Cur_pick.f s0_0 bt124.2.1 bt124.2.2 70).bind fun bt127 => (if bt127.1 = 0 then ((spec_l1Cur_among.f s0_0 bt127.2.1 bt127.2.2 (([0, 999, 1000] : List Int))).bind fun bt133 => (some (bt133.1, t105, bt111.1, bt124.1, bt117.1, bt133.2.1, bt133.2.2))) else (if bt127.1 = 1 then ((spec_l1Cur_among.f s0_0 bt127.2.1 bt127.2.2 (([0, 4001] : List Int))).bind fun bt139 => (some (a1, bt139.1, bt111.1, bt124.1, bt117.1, bt139.2.1, bt139.2.2))) else (if bt127.1 = 2 then ((spec_l1Cur_among.f s0_0 bt127.2.1 bt127.2.2 (([0, 200001] : List Int))).bind fun bt145 => (some (a1, t105, bt145.1, bt124.1, bt117.1, bt145.2.1, bt145.2.2))) else (if bt127.1 = 3 then ((spec_l1Cur_among.f s0_0 bt127.2.1 bt127.2.2 (([(-1), wrap64 ((wrap64 (2 * bt111.1)) + 1)] : List Int))).bind fun bt151 => (some (a1, t105, bt111.1, bt151.1, bt117.1, bt151.2.1, bt151.2.2))) else (if bt127.1 = 4 then ((spec_l1Cur_among.f s0_0 bt127.2.1 bt127.2.2 (([19, 301] : List Int))).bind fun bt157 => (some (a1, t105, bt111.1, bt124.1, bt157.1, bt157.2.1, bt157.2.2))) else (some (a1, t105, bt111.1, bt124.1, bt117.1, bt127.2.1, bt127.2.2))))))))))) = some (r1, r2, r3, r4, r5, r6, r7) := by first | (rw [hy108]; with_reducible exact H) | (have H2_ := (Option.bind_some _ _).symm.trans H; rw [hy108]; with_reducible exact H2_) | (have H2_ := (Option.bind_some _ _).symm.trans H; with_reducible exact H2_) | with_reducible exact H | (rw [hy108]; exact H) | exact H
 have Ny108 := Aside0.mk hy108
 clear hy108
 replace H := Option.bind_eq_some_iff.mp H
 obtain ⟨⟨t111, t112, t113⟩, A40, H⟩ := H
 replace H : ((spec_l1Cur_among.f s0_0 t112 t113 (([20, 25, 80, 300] : List Int))).bind fun bt117 => ((spec_l1Cur_among.f s0_0 bt117.2.1 bt117.2.2 (([0, wrap64 (Int.tdiv t111 50), wrap64 ((wrap64 (Int.tdiv t111 50)) + 1), t111, wrap64 (2 * t111)] : List Int))).bind fun bt124 => ((spec_l1Cur_pick.f s0_0 bt124.2.1 bt124.2.2 70).bind fun bt127 => (if bt127.1 = 0 then ((spec_l1Cur_among.f s0_0 bt127.2.1 bt127.2.2 (([0, 999, 1000] : List Int))).bind fun bt133 => (some (bt133.1, t105, t111, bt124.1, bt117.1, bt133.2.1, bt133.2.2))) else (if bt127.1 = 1 then ((spec_l1Cur_among.f s0_0 bt127.2.1 bt127.2.2 (([0, 4001] : List Int))).bind fun bt139 => (some (a1, bt139.1, t111, bt124.1, bt117.1, bt139.2.1, bt139.2.2))) else (if bt127.1 = 2 then ((spec_l1Cur_among.f s0_0 bt127.2.1 bt127.2.2 (([0, 200001] : List Int))).bind fun bt145 => (some (a1, t105, bt145.1, bt124.1, bt117.1, bt145.2.1, bt145.2.2))) else (if bt127.1 = 3 then ((spec_l1Cur_among.f s0_0 bt127.2.1 bt127.2.2 (([(-1), wrap64 ((wrap64 (2 * t111)) + 1)] : List Int))).bind fun bt151 => (some (a1, t105, t111, bt151.1, bt117.1, bt151.2.1, bt151.2.2))) else (if bt127.1 = 4 then ((spec_l1Cur_among.f s0_0 bt127.2.1 bt127.2.2 (([19, 301] : List Int))).bind fun bt157 => (some (a1, t105, t111, bt124.1, bt157.1, bt157.2.1, bt157.2.2))) else (some (a1, t105, t111, bt124.1, bt117.1, bt127.2.1, bt127.2.2)))))))))) = some (r1, r2, r3, r4, r5, r6, r7) := H
 have A4 := Aside0.mk A40
 clear A40
 obtain ⟨y114, hy114⟩ : ∃ y_ : List Int, y_ = (([20, 25, 80, 300] : List Int)) := ⟨_, rfl⟩
 replace H : ((spec_l1Cur_among.f s0_0 t112 t113 y114).bind fun bt117 => ((spec_l1Cur_among.f s0_0 bt117.2.1 bt117.2.2 (([0, wrap64 (Int.tdiv t111 50), wrap64 ((wrap64 (Int.tdiv t111 50)) + 1), t111, wrap64 (2 * t111)] : List Int))).bind fun bt124 => ((spec_l1Cur_pick.f s0_0 bt124.2.1 bt124.2.2 70).bind fun bt127 => (if bt127.1 = 0 then ((spec_l1Cur_among.f s0_0 bt127.2.1 bt127.2.2 (([0, 999, 1000] : List Int))).bind fun bt133 => (some (bt133.1, t105, t111, bt124.1, bt117.1, bt133.2.1, bt133.2.2))) else (if bt127.1 = 1 then ((spec_l1Cur_among.f s0_0 bt127.2.1 bt127.2.2 (([0, 4001] : List Int))).bind fun bt139 => (some (a1, bt139.1, t111, bt124.1, bt117.1, bt139.2.1, bt139.2.2))) else (if bt127.1 = 2 then ((spec_l1Cur_among.f s0_0 bt127.2.1 bt127.2.2 (([0, 200001] : List Int))).bind fun bt145 => (some (a1, t105, bt145.1, bt124.1, bt117.1, bt145.2.1, bt145.2.2))) else (if bt127.1 = 3 then ((spec_l1Cur_among.f s0_0 bt127.2.1 bt127.2.2 (([(-1), wrap64 ((wrap64 (2 * t111)) + 1)] : List Int))).bind fun bt151 => (some (a1, t105, t111, bt151.1, bt117.1, bt151.2.1, bt151.2.2))) else (if bt127.1 = 4 then ((spec_l1Cur_among.f s0_0 bt127.2.1 bt127.2.2 (([19, 301] : List Int))).bind fun bt157 => (some (a1, t105, t111, bt124.1, bt157.1, bt157.2.1, bt157.2.2))) else (some (a1, t105, t111, bt124.1, bt117.1, bt127.2.1, bt127.2.2)))))))))) = some (r1, r2, r3, r4, r5, r6, r7) := by first | (rw [hy114]; with_reducible exact H) | (have H2_ := (Option.bind_some _ _).symm.trans H; rw [hy114]; with_reducible exact H2_) | (have H2_ := (Option.bind_some _ _).symm.trans H; with_reducible exact H2_) | with_reducible exact H | (rw [hy114]; exact H) | exact H
 have Ny114 := Aside0.mk hy114
 clear hy114
 replace H := Option.bind_eq_some_iff.mp H
 obtain ⟨⟨t117, t118, t119⟩, A50, H⟩ := H
 replace H : ((spec_l1Cur_among.f s0_0 t118 t119 (([0, wrap64 (Int.tdiv t111 50), wrap64 ((wrap64 (Int.tdiv t111 50)) + 1), t111, wrap64 (2 * t111)] : List Int))).bind fun bt124 => ((spec_l1Cur_pick.f s0_0 bt124.2.1 bt124.2.2 70).bind fun bt127 => (if bt127.1 = 0 then ((spec_l1Cur_among.f s0_0 bt127.2.1 bt127.2.2 (([0, 999, 1000] : List Int))).bind fun bt133 => (some (bt133.1, t105, t111, bt124.1, t117, bt133.2.1, bt133.2.2))) else (if bt127.1 = 1 then ((spec_l1Cur_among.f s0_0 bt127.2.1 bt127.2.2 (([0, 4001] : List Int))).bind fun bt139 => (some (a1, bt139.1, t111, bt124.1, t117, bt139.2.1, bt139.2.2))) else (if bt127.1 = 2 then ((spec_l1Cur_among.f s0_0 bt127.2.1 bt127.2.2 (([0, 200001] : List Int))).bind fun bt145 => (some (a1, t105, bt145.1, bt124.1, t117, bt145.2.1, bt145.2.2))) else (if bt127.1 = 3 then ((spec_l1Cur_among.f s0_0 bt127.2.1 bt127.2.2 (([(-1), wrap64 ((wrap64 (2 * t111)) + 1)] : List Int))).bind fun bt151 => (some (a1, t105, t111, bt151.1, t117, bt151.2.1, bt151.2.2))) else (if bt127.1 = 4 then ((spec_l1Cur_among.f s0_0 bt127.2.1 bt127.2.2 (([19, 301] : List Int))).bind fun bt157 => (some (a1, t105, t111, bt124.1, bt157.1, bt157.2.1, bt157.2.2))) else (some (a1, t105, t111, bt124.1, t117, bt127.2.1, bt127.2.2))))))))) = some (r1, r2, r3, r4, r5, r6, r7) := H
 have A5 := Aside0.mk A50
 clear A50
 obtain ⟨y121, hy121⟩ : ∃ y_ : List Int, y_ = (([0, wrap64 (Int.tdiv t111 50), wrap64 ((wrap64 (Int.tdiv t111 50)) + 1), t111, wrap64 (2 * t111)] : List Int)) := ⟨_, rfl⟩
 replace H : ((spec_l1Cur_among.f s0_0 t118 t119 y121).bind fun bt124 => ((spec_l1Cur_pick.f s0_0 bt124.2.1 bt124.2.2 70).bind fun bt127 => (if bt127.1 = 0 then ((spec_l1Cur_among.f s0_0 bt127.2.1 bt127.2.2 (([0, 999, 1000] : List Int))).bind fun bt133 => (some (bt133.1, t105, t111, bt124.1, t117, bt133.2.1, bt133.2.2))) else (if bt127.1 = 1 then ((spec_l1Cur_among.f s0_0 bt127.2.1 bt127.2.2 (([0, 4001] : List Int))).bind fun bt139 => (some (a1, bt139.1, t111, bt124.1, t117, bt139.2.1, bt139.2.2))) else (if bt127.1 = 2 then ((spec_l1Cur_among.f s0_0 bt127.2.1 bt127.2.2 (([0, 200001] : List Int))).bind fun bt145 => (some (a1, t105, bt145.1, bt124.1, t117, bt145.2.1, bt145.2.2))) else (if bt127.1 = 3 then ((spec_l1Cur_among.f s0_0 bt127.2.1 bt127.2.2 (([(-1), wrap64 ((wrap64 (2 * t111)) + 1)] : List Int))).bind fun bt151 => (some (a1, t105, t111, bt151.1, t117, bt151.2.1, bt151.2.2))) else (if bt127.1 = 4 then ((spec_l1Cur_among.f s0_0 bt127.2.1 bt127.2.2 (([19, 301] : List Int))).bind fun bt157 => (some (a1, t105, t111, bt124.1, bt157.1, bt157.2.1, bt157.2.2))) else (some (a1, t105, t111, bt124.1, t117, bt127.2.1, bt127.2.2))))))))) = some (r1, r2, r3, r4, r5, r6, r7) := by first | (rw [hy121]; with_reducible exact H) | (have H2_ := (Option.bind_some _ _).symm.trans H; rw [hy121]; with_reducible exact H2_) | (have H2_ := (Option.bind_some _ _).symm.trans H; with_reducible exact H2_) | with_reducible exact H | (rw [hy121]; exact H) | exact H
 have Ny121 := Aside0.mk hy121
 clear hy121
 replace H := Option.bind_eq_some_iff.mp H
 obtain ⟨⟨t124, t125, t126⟩, A60, H⟩ := H
 replace H : ((spec_l1Cur_pick.f s0_0 t125 t126 70).bind fun bt127 => (if bt127.1 = 0 then ((spec_l1Cur_among.f s0_0 bt127.2.1 bt127.2.2 (([0, 999, 1000] : List Int))).bind fun bt133 => (some (bt133.1, t105, t111, t124, t117, bt133.2.1, bt133.2.2))) else (if bt127.1 = 1 then ((spec_l1Cur_among.f s0_0 bt127.2.1 bt127.2.2 (([0, 4001] : List Int))).bind fun bt139 => (some (a1, bt139.1, t111, t124, t117, bt139.2.1, bt139.2.2))) else (if bt127.1 = 2 then ((spec_l1Cur_among.f s0_0 bt127.2.1 bt127.2.2 (([0, 200001] : List Int))).bind fun bt145 => (some (a1, t105, bt145.1, t124, t117, bt145.2.1, bt145.2.2))) else (if bt127.1 = 3 then ((spec_l1Cur_among.f s0_0 bt127.2.1 bt127.2.2 (([(-1), wrap64 ((wrap64 (2 * t111)) + 1)] : List Int))).bind fun bt151 => (some (a1, t105, t111, bt151.1, t117, bt151.2.1, bt151.2.2))) else (if bt127.1 = 4 then ((spec_l1Cur_among.f s0_0 bt127.2.1 bt127.2.2 (([19, 301] : List Int))).bind fun bt157 => (some (a1, t105, t111, t124, bt157.1, bt157.2.1, bt157.2.2))) else (some (a1, t105, t111, t124, t117, bt127.2.1, bt127.2.2)))))))) = some (r1, r2, r3, r4, r5, r6, r7) := H
 have A6 := Aside0.mk A60
 clear A60
 replace H := Option.bind_eq_some_iff.mp H
 obtain ⟨⟨t127, t128, t129⟩, A70, H⟩ := H
 replace H : (if t127 = 0 then ((spec_l1Cur_among.f s0_0 t128 t129 (([0, 999, 1000] : List Int))).bind fun bt133 => (some (bt133.1, t105, t111, t124, t117, bt133.2.1, bt133.2.2))) else (if t127 = 1 then ((spec_l1Cur_among.f s0_0 t128 t129 (([0, 4001] : List Int))).bind fun bt139 => (some (a1, bt139.1, t111, t124, t117, bt139.2.1, bt139.2.2))) else (if t127 = 2 then ((spec_l1Cur_among.f s0_0 t128 t129 (([0, 200001] : List Int))).bind fun bt145 => (some (a1, t105, bt145.1, t124, t117, bt145.2.1, bt145.2.2))) else (if t127 = 3 then ((spec_l1Cur_among.f s0_0 t128 t129 (([(-1), wrap64 ((wrap64 (2 * t111)) + 1)] : List Int))).bind fun bt151 => (some (a1, t105, t111, bt151.1, t117, bt151.2.1, bt151.2.2))) else (if t127 = 4 then ((spec_l1Cur_among.f s0_0 t128 t129 (([19, 301] : List Int))).bind fun bt157 => (some (a1, t105, t111, t124, bt157.1, bt157.2.1, bt157.2.2))) else (some (a1, t105, t111, t124, t117, t128, t129))))))) = some (r1, r2, r3, r4, r5, r6, r7) := H
 have A7 := Aside0.mk A70
 clear A70
 by_cases c8 : t127 = 0
 rw [if_pos c8] at H
 have c8b0 : (t127 == 0) = true := beq_iff_eq.mpr c8
 have c8b1 : (t127 != 0) = false := bne_eq_false_iff_eq.mpr c8
 clear c8
 obtain ⟨y130, hy130⟩ : ∃ y_ : List Int, y_ = (([0, 999, 1000] : List Int)) := ⟨_, rfl⟩
 replace H : ((spec_l1Cur_among.f s0_0 t128 t129 y130).bind fun bt133 => (some (bt133.1, t105, t111, t124, t117, bt133.2.1, bt133.2.2))) = some (r1, r2, r3, r4, r5, r6, r7) := by first | (rw [hy130]; with_reducible exact H) | (have H2_ := (Option.bind_some _ _).symm.trans H; rw [hy130]; with_reducible exact H2_) | (have H2_ := (Option.bind_some _ _).symm.trans H; with_reducible exact H2_) | with_reducible exact H | (rw [hy130]; exact H) | exact H
 have Ny130 := Aside0.mk hy130
 clear hy130
 replace H := Option.bind_eq_some_iff.mp H
 obtain ⟨⟨t133, t134, t135⟩, A90, H⟩ := H
 replace H : (some (t133, t105, t111, t124, t117, t134, t135)) = some (r1, r2, r3, r4, r5, r6, r7) := H
 have A9 := Aside0.mk A90
 clear A90
 simp only [Option.some.injEq, Prod.mk.injEq] at H
 obtain ⟨rfl, rfl, rfl, rfl, rfl, rfl, rfl⟩ := H
 have WAY0 := True.intro
 rotate_left
 rw [if_neg c8] at H
 have c8b0 : (t127 == 0) = false := beq_eq_false_iff_ne.mpr c8
 have c8b1 : (t127 != 0) = true := bne_iff_ne.mpr c8
 by_cases c40 : t127 = 1
 rw [if_pos c40] at H
 have c40b0 : (t127 == 1) = true := beq_iff_eq.mpr c40
 have c40b1 : (t127 != 1) = false := bne_eq_false_iff_eq.mpr c40
 clear c40
 obtain ⟨y136, hy136⟩ : ∃ y_ : List Int, y_ = (([0, 4001] : List Int)) := ⟨_, rfl⟩
 replace H : ((spec_l1Cur_among.f s0_0 t128 t129 y136).bind fun bt139 => (some (a1, bt139.1, t111, t124, t117, bt139.2.1, bt139.2.2))) = some (r1, r2, r3, r4, r5, r6, r7) := by first | (rw [hy136]; with_reducible exact H) | (have H2_ := (Option.bind_some _ _).symm.trans H; rw [hy136]; with_reducible exact H2_) | (have H2_ := (Option.bind_some _ _).symm.trans H; with_reducible exact H2_) | with_reducible exact H | (rw [hy136]; exact H) | exact H
 have Ny136 := Aside0.mk hy136
 clear hy136
 replace H := Option.bind_eq_some_iff.mp H
 obtain ⟨⟨t139, t140, t141⟩, A410, H⟩ := H
 replace H : (some (a1, t139, t111, t124, t117, t140, t141)) = some (r1, r2, r3, r4, r5, r6, r7) := H
 have A41 := Aside0.mk A410
 clear A410
 simp only [Option.some.injEq, Prod.mk.injEq] at H
 obtain ⟨rfl, rfl, rfl, rfl, rfl, rfl, rfl⟩ := H
 have WAY1 := True.intro
 rotate_left
 rw [if_neg c40] at H
 have c40b0 : (t127 == 1) = false := beq_eq_false_iff_ne.mpr c40
 have c40b1 : (t127 != 1) = true := bne_iff_ne.mpr c40
 by_cases c72 : t127 = 2
 rw [if_pos c72] at H
 have c72b0 : (t127 == 2) = true := beq_iff_eq.mpr c72
 have c72b1 : (t127 != 2) = false := bne_eq_false_iff_eq.mpr c72
 clear c72
 obtain ⟨y142, hy142⟩ : ∃ y_ : List Int, y_ = (([0, 200001] : List Int)) := ⟨_, rfl⟩
 replace H : ((spec_l1Cur_among.f s0_0 t128 t129 y142).bind fun bt145 => (some (a1, t105, bt145.1, t124, t117, bt145.2.1, bt145.2.2))) = some (r1, r2, r3, r4, r5, r6, r7) := by first | (rw [hy142]; with_reducible exact H) | (have H2_ := (Option.bind_some _ _).symm.trans H; rw [hy142]; with_reducible exact H2_) | (have H2_ := (Option.bind_some _ _).symm.trans H; with_reducible exact H2_) | with_reducible exact H | (rw [hy142]; exact H) | exact H
 have Ny142 := Aside0.mk hy142
 clear hy142
 replace H := Option.bind_eq_some_iff.mp H
 obtain ⟨⟨t145, t146, t147⟩, A730, H⟩ := H
 replace H : (some (a1, t105, t145, t124, t117, t146, t147)) = some (r1, r2, r3, r4, r5, r6, r7) := H
 have A73 := Aside0.mk A730
 clear A730
 simp only [Option.some.injEq, Prod.mk.injEq] at H
 obtain ⟨rfl, rfl, rfl, rfl, rfl, rfl, rfl⟩ := H
 have WAY2 := True.intro
 rotate_left
 rw [if_neg c72] at H
 have c72b0 : (t127 == 2) = false := beq_eq_false_iff_ne.mpr c72
 have c72b1 : (t127 != 2) = true := bne_iff_ne.mpr c72
 by_cases c104 : t127 = 3
 rw [if_pos c104] at H
 have c104b0 : (t127 == 3) = true := beq_iff_eq.mpr c104
 have c104b1 : (t127 != 3) = false := bne_eq_false_iff_eq.mpr c104
 clear c104
 obtain ⟨y148, hy148⟩ : ∃ y_ : List Int, y_ = (([(-1), wrap64 ((wrap64 (2 * t111)) + 1)] : List Int)) := ⟨_, rfl⟩
 replace H : ((spec_l1Cur_among.f s0_0 t128 t129 y148).bind fun bt151 => (some (a1, t105, t111, bt151.1, t117, bt151.2.1, bt151.2.2))) = some (r1, r2, r3, r4, r5, r6, r7) := by first | (rw [hy148]; with_reducible exact H) | (have H2_ := (Option.bind_some _ _).symm.trans H; rw [hy148]; with_reducible exact H2_) | (have H2_ := (Option.bind_some _ _).symm.trans H; with_reducible exact H2_) | with_reducible exact H | (rw [hy148]; exact H) | exact H
 have Ny148 := Aside0.mk hy148
 clear hy148
 replace H := Option.bind_eq_some_iff.mp H
 obtain ⟨⟨t151, t152, t153⟩, A1050, H⟩ := H
 replace H : (some (a1, t105, t111, t151, t117, t152, t153)) = some (r1, r2, r3, r4, r5, r6, r7) := H
 have A105 := Aside0.mk A1050
 clear A1050
 simp only [Option.some.injEq, Prod.mk.injEq] at H
 obtain ⟨rfl, rfl, rfl, rfl, rfl, rfl, rfl⟩ := H
 have WAY3 := True.intro
 rotate_left
 rw [if_neg c104] at H
 have c104b0 : (t127 == 3) = false := beq_eq_false_iff_ne.mpr c104
 have c104b1 : (t127 != 3) = true := bne_iff_ne.mpr c104
 by_cases c137 : t127 = 4
 rw [if_pos c137] at H
 have c137b0 : (t127 == 4) = true := beq_iff_eq.mpr c137
 have c137b1 : (t127 != 4) = false := bne_eq_false_iff_eq.mpr c137
 clear c137
 obtain ⟨y154, hy154⟩ : ∃ y_ : List Int, y_ = (([19, 301] : List Int)) := ⟨_, rfl⟩
 replace H : ((spec_l1Cur_among.f s0_0 t128 t129 y154).bind fun bt157 => (some (a1, t105, t111, t124, bt157.1, bt157.2.1, bt157.2.2))) = some (r1, r2, r3, r4, r5, r6, r7) := by first | (rw [hy154]; with_reducible exact H) | (have H2_ := (Option.bind_some _ _).symm.trans H; rw [hy154]; with_reducible exact H2_) | (have H2_ := (Option.bind_some _ _).symm.trans H; with_reducible exact H2_) | with_reducible exact H | (rw [hy154]; exact H) | exact H
 have Ny154 := Aside0.mk hy154
 clear hy154
 replace H := Option.bind_eq_some_iff.mp H
 obtain ⟨⟨t157, t158, t159⟩, A1380, H⟩ := H
 replace H : (some (a1, t105, t111, t124, t157, t158, t159)) = some (r1, r2, r3, r4, r5, r6, r7) := H
 have A138 := Aside0.mk A1380
 clear A1380
 simp only [Option.some.injEq, Prod.mk.injEq] at H
 obtain ⟨rfl, rfl, rfl, rfl, rfl, rfl, rfl⟩ := H
 have WAY4 := True.intro
 rotate_left
 rw [if_neg c137] at H
 have c137b0 : (t127 == 4) = false := beq_eq_false_iff_ne.mpr c137
 have c137b1 : (t127 != 4) = true := bne_iff_ne.mpr c137
 simp only [Option.some.injEq, Prod.mk.injEq] at H
 obtain ⟨rfl, rfl, rfl, rfl, rfl, rfl, rfl⟩ := H
 have WAY5 := True.intro
 rotate_left
 all_goals go_enter Try.func82, Try.ntmps82
 all_goals go_wp2_with (first | ((with_reducible refine gate_dst (N := 4) rfl ?_); refine box_event ?hg (N := 4) ?hd (cs := #[.int .i64 0, .int .i64 0, .int .i64 0, .int .i64 0, .int .i64 0]) (t := 25) ?hr ?_; (case hd => rfl); (case hg => rfl); (case hr => first | (go_simp; done) | (go_simp; rfl)); intro gb101 hg w10 hbox hb; have n0_ := Aside0.mk (IsS79.below (by exact IsS79.below HI0.out Ho.Steps.below) hb); have n1_ := Aside0.mk (KeepBut.trans (by exact Ho.kS HK.out) (KeepBut.of_below hb g none) (.inl rfl)); have n2_ := Aside0.mk (below_step (by exact eS HB.out) hb); have n3_ := Aside0.mk (hbox); have n4_ := Aside0.mk ((by rw [hg]; exact (keep_size (w := w) (g := g) (row := none) (by exact Ho.kS HK.out)) : w.heap.size ≤ gb101)); have n5_ := Aside0.mk ((Nat.le_trans HW0.out (by rw [hg]; exact (keep_size (w := w) (g := g) (row := none) (by exact Ho.kS HK.out)) : w.heap.size ≤ gb101) : w0.heap.size ≤ gb101)); have n6_ := Aside0.mk ((by rw [hg]; exact Nat.ne_of_lt (IsS79.lt (show IsS79 w0 _ g s0_0 s0_1 s0_2 from by exact IsS79.below HI0.out Ho.Steps.below)) : g ≠ gb101)); have n7_ := Aside0.mk ((by rw [hg]; exact Nat.ne_of_gt (IsS79.lt (show IsS79 w0 _ g s0_0 s0_1 s0_2 from by exact IsS79.below HI0.out Ho.Steps.below)) : gb101 ≠ g)); clear HI0; clear HK; clear HB; have HI0 := n0_; have HK := n1_; have HB := n2_; have BK101 := n3_; have GW101 := n4_; have GE101 := n5_; have NB0_101 := n6_; have NB101_0 := n7_; clear n0_ n1_ n2_ n3_ n4_ n5_ n6_ n7_; clear hb hbox hg) | ((with_reducible refine gate_dst (N := 8) rfl ?_); refine Kd.R_lit (Kd.int .i64) _ 3 ?hg (N := 8) ?hd (xs := ([1, 60, 240, 4000] : List Int)) (inner := [.int .i64 1, .int .i64 60, .int .i64 240, .int .i64 4000]) (ok := fun _ => True) (okp := fun _ => True) ?hr ?hp (fun _ hk => hk) trivial (Below.refl _ _) (Nat.le_refl _) (by simp) ?_; (case hd => rfl); (case hg => rfl); (case hr => first | (go_simp; done) | (go_simp; rfl)); (case hp => exact (Reps.one (show Kd.M (Kd.int .i64) _ _ _ 1 [.int .i64 1] from rfl) (Reps.one (show Kd.M (Kd.int .i64) _ _ _ 60 [.int .i64 60] from rfl) (Reps.one (show Kd.M (Kd.int .i64) _ _ _ 240 [.int .i64 240] from rfl) (Reps.one (show Kd.M (Kd.int .i64) _ _ _ 4000 [.int .i64 4000] from rfl) (Reps.none _ _)))))); intro v103 w11 ho12 hb hg_ hnew_; clear hg_ hnew_; (first | rw [← Ny102.out] at ho12 | (simp only [Int.reduceToNat] at ho12; rw [← Ny102.out] at ho12)); have n0_ := Aside0.mk (Kd.R_lower ho12 (keep_size (w := w) (g := g) (row := none) (by exact Ho.kS HK.out))); have n1_ := Aside0.mk (IsS79.below (by exact IsS79.below HI0.out Ho.Steps.below) hb); have n2_ := Aside0.mk (blk_below (bS BK101.out) hb); have n3_ := Aside0.mk (KeepBut.trans (by exact Ho.kS HK.out) (KeepBut.of_below hb g none) (.inl rfl)); have n4_ := Aside0.mk (below_step (by exact eS HB.out) hb); clear HI0; clear BK101; clear HK; clear HB; have HO104 := n0_; have HI0 := n1_; have BK101 := n2_; have HK := n3_; have HB := n4_; clear n0_ n1_ n2_ n3_ n4_; clear hb ho12; obtain ⟨Ao13, co13, eo13⟩ := Kd.R_slice HO104.out; subst eo13) | ((with_reducible refine gate_callee (f := 80) rfl ?_); refine goesL_ (some 9) rfl rfl Try.func80 (by kernel_rfl) rfl #[.pointer (some ⟨g, 0, none⟩), .slice Ao13 y102.length co13] rfl (by (try simp only [List.map_toArray, List.map_cons, List.map_nil]); first | done | rfl | (simp only [List.length_drop, List.length_take]; rfl)) ?_; (with_reducible refine (spec_l1Cur_among.calls g s0_0 s0_1 s0_2 _ _ y102 t105 t106 t107 w0 _ ?side1 ?side2 ?side3 ?side4 ?side5 A3.out).mono ?_); (case side1 => exact IsS79.below HI0.out Ho.Steps.below); (case side2 => exact eS HB.out); (case side3 => repeat (first | exact (Kd.R_reads' HO104.out).2.2 | (with_reducible refine Kd.C_alloc ?_ _) | (with_reducible refine Kd.C_drewN ?_ _) | (with_reducible refine Kd.C_drew ?_))); (case side4 => exact (Kd.R_reads' HO104.out).2.1); (case side5 => exact far_slice (IsS79.own_ne HI0.out HO104.out (by decide))); rintro e w14 ⟨rfl, hi, hb, hk⟩; refine ⟨_, rfl, ?_⟩; have n0_ := Aside0.mk (KeepBut.blk hk (bS BK101.out) NB101_0.out (by simp)); have n1_ := Aside0.mk (Kd.R_mono (Kd.R_keep (IsS79.apart (show IsS79 w0 _ g s0_0 s0_1 s0_2 from by exact IsS79.below HI0.out Ho.Steps.below) (by exact Ho.RS <| HO104.out) (by decide)) hk (fun _ h => h.2)) (fun _ h => h.1)); have n2_ := Aside0.mk (KeepBut.trans (by exact Ho.kS HK.out) hk (.inl rfl)); have n3_ := Aside0.mk (hb); have n4_ := Aside0.mk (hi); clear BK101; clear HO104; clear HK; clear HB; clear HI0; have BK101 := n0_; have HO104 := n1_; have HK := n2_; have HB := n3_; have HI0 := n4_; clear n0_ n1_ n2_ n3_ n4_; (try clear hb); (try clear hb2); (try clear hk); (try clear hi)) | ((with_reducible refine gate_dst (N := 11) rfl ?_); refine Kd.R_lit (Kd.int .i64) _ 3 ?hg (N := 11) ?hd (xs := ([1, 50, 3000, 12000, 200000] : List Int)) (inner := [.int .i64 1, .int .i64 50, .int .i64 3000, .int .i64 12000, .int .i64 200000]) (ok := fun _ => True) (okp := fun _ => True) ?hr ?hp (fun _ hk => hk) trivial (Below.refl _ _) (Nat.le_refl _) (by simp) ?_; (case hd => rfl); (case hg => rfl); (case hr => first | (go_simp; done) | (go_simp; rfl)); (case hp => exact (Reps.one (show Kd.M (Kd.int .i64) _ _ _ 1 [.int .i64 1] from rfl) (Reps.one (show Kd.M (Kd.int .i64) _ _ _ 50 [.int .i64 50] from rfl) (Reps.one (show Kd.M (Kd.int .i64) _ _ _ 3000 [.int .i64 3000] from rfl) (Reps.one (show Kd.M (Kd.int .i64) _ _ _ 12000 [.int .i64 12000] from rfl) (Reps.one (show Kd.M (Kd.int .i64) _ _ _ 200000 [.int .i64 200000] from rfl) (Reps.none _ _))))))); intro v109 w15 ho16 hb hg_ hnew_; clear hg_ hnew_; (first | rw [← Ny108.out] at ho16 | (simp only [Int.reduceToNat] at ho16; rw [← Ny108.out] at ho16)); have n0_ := Aside0.mk (Kd.R_elder' (by exact Ho.RS <| HO104.out) (Kd.R_base ho16) hb); have n1_ := Aside0.mk (Kd.R_lower (Kd.R_new' ho16 (Kd.R_lt (by exact Ho.RS <| HO104.out))) (keep_size (w := w) (g := g) (row := none) (by exact Ho.kS HK.out))); have n2_ := Aside0.mk (IsS79.below (by exact IsS79.below HI0.out Ho.Steps.below) hb); have n3_ := Aside0.mk (blk_below (bS BK101.out) hb); have n4_ := Aside0.mk (KeepBut.trans (by exact Ho.kS HK.out) (KeepBut.of_below hb g none) (.inl rfl)); have n5_ := Aside0.mk (below_step (by exact eS HB.out) hb); clear HO104; clear HI0; clear BK101; clear HK; clear HB; have HO104 := n0_; have HO110 := n1_; have HI0 := n2_; have BK101 := n3_; have HK := n4_; have HB := n5_; clear n0_ n1_ n2_ n3_ n4_ n5_; clear hb ho16; obtain ⟨Ao17, co17, eo17⟩ := Kd.R_slice HO110.out; subst eo17) | ((with_reducible refine gate_callee (f := 80) rfl ?_); refine goesL_ (some 12) rfl rfl Try.func80 (by kernel_rfl) rfl #[.pointer (some ⟨g, 0, none⟩), .slice Ao17 y108.length co17] rfl (by (try simp only [List.map_toArray, List.map_cons, List.map_nil]); first | done | rfl | (simp only [List.length_drop, List.length_take]; rfl)) ?_; (with_reducible refine (spec_l1Cur_among.calls g s0_0 t106 t107 _ _ y108 t111 t112 t113 w0 _ ?side1 ?side2 ?side3 ?side4 ?side5 A4.out).mono ?_); (case side1 => exact IsS79.below HI0.out Ho.Steps.below); (case side2 => exact eS HB.out); (case side3 => repeat (first | exact (Kd.R_reads' HO110.out).2.2 | (with_reducible refine Kd.C_alloc ?_ _) | (with_reducible refine Kd.C_drewN ?_ _) | (with_reducible refine Kd.C_drew ?_))); (case side4 => exact (Kd.R_reads' HO110.out).2.1); (case side5 => exact far_slice (IsS79.own_ne HI0.out HO110.out (by decide))); rintro e w18 ⟨rfl, hi, hb, hk⟩; refine ⟨_, rfl, ?_⟩; have n0_ := Aside0.mk (KeepBut.blk hk (bS BK101.out) NB101_0.out (by simp)); have n1_ := Aside0.mk (Kd.R_mono (Kd.R_keep (IsS79.apart (show IsS79 w0 _ g s0_0 t106 t107 from by exact IsS79.below HI0.out Ho.Steps.below) (by exact Ho.RS <| HO104.out) (by decide)) hk (fun _ h => h.2)) (fun _ h => h.1)); have n2_ := Aside0.mk (Kd.R_mono (Kd.R_keep (IsS79.apart (show IsS79 w0 _ g s0_0 t106 t107 from by exact IsS79.below HI0.out Ho.Steps.below) (by exact Ho.RS <| HO110.out) (by decide)) hk (fun _ h => h.2)) (fun _ h => h.1)); have n3_ := Aside0.mk (KeepBut.trans (by exact Ho.kS HK.out) hk (.inl rfl)); have n4_ := Aside0.mk (hb); have n5_ := Aside0.mk (hi); clear BK101; clear HO104; clear HO110; clear HK; clear HB; clear HI0; have BK101 := n0_; have HO104 := n1_; have HO110 := n2_; have HK := n3_; have HB := n4_; have HI0 := n5_; clear n0_ n1_ n2_ n3_ n4_ n5_; (try clear hb); (try clear hb2); (try clear hk); (try clear hi)) | ((with_reducible refine gate_dst (N := 14) rfl ?_); refine Kd.R_lit (Kd.int .i64) _ 3 ?hg (N := 14) ?hd (xs := ([20, 25, 80, 300] : List Int)) (inner := [.int .i64 20, .int .i64 25, .int .i64 80, .int .i64 300]) (ok := fun _ => True) (okp := fun _ => True) ?hr ?hp (fun _ hk => hk) trivial (Below.refl _ _) (Nat.le_refl _) (by simp) ?_; (case hd => rfl); (case hg => rfl); (case hr => first | (go_simp; done) | (go_simp; rfl)); (case hp => exact (Reps.one (show Kd.M (Kd.int .i64) _ _ _ 20 [.int .i64 20] from rfl) (Reps.one (show Kd.M (Kd.int .i64) _ _ _ 25 [.int .i64 25] from rfl) (Reps.one (show Kd.M (Kd.int .i64) _ _ _ 80 [.int .i64 80] from rfl) (Reps.one (show Kd.M (Kd.int .i64) _ _ _ 300 [.int .i64 300] from rfl) (Reps.none _ _)))))); intro v115 w19 ho20 hb hg_ hnew_; clear hg_ hnew_; (first | rw [← Ny114.out] at ho20 | (simp only [Int.reduceToNat] at ho20; rw [← Ny114.out] at ho20)); have n0_ := Aside0.mk (Kd.R_elder' (by exact Ho.RS <| HO104.out) (Kd.R_base ho20) hb); have n1_ := Aside0.mk (Kd.R_elder' (by exact Ho.RS <| HO110.out) (Kd.R_base ho20) hb); have n2_ := Aside0.mk (Kd.R_lower (Kd.R_new' (Kd.R_new' ho20 (Kd.R_lt (by exact Ho.RS <| HO104.out))) (Kd.R_lt (by exact Ho.RS <| HO110.out))) (keep_size (w := w) (g := g) (row := none) (by exact Ho.kS HK.out))); have n3_ := Aside0.mk (IsS79.below (by exact IsS79.below HI0.out Ho.Steps.below) hb); have n4_ := Aside0.mk (blk_below (bS BK101.out) hb); have n5_ := Aside0.mk (KeepBut.trans (by exact Ho.kS HK.out) (KeepBut.of_below hb g none) (.inl rfl)); have n6_ := Aside0.mk (below_step (by exact eS HB.out) hb); clear HO104; clear HO110; clear HI0; clear BK101; clear HK; clear HB; have HO104 := n0_; have HO110 := n1_; have HO116 := n2_; have HI0 := n3_; have BK101 := n4_; have HK := n5_; have HB := n6_; clear n0_ n1_ n2_ n3_ n4_ n5_ n6_; clear hb ho20; obtain ⟨Ao21, co21, eo21⟩ := Kd.R_slice HO116.out; subst eo21) | ((with_reducible refine gate_callee (f := 80) rfl ?_); refine goesL_ (some 15) rfl rfl Try.func80 (by kernel_rfl) rfl #[.pointer (some ⟨g, 0, none⟩), .slice Ao21 y114.length co21] rfl (by (try simp only [List.map_toArray, List.map_cons, List.map_nil]); first | done | rfl | (simp only [List.length_drop, List.length_take]; rfl)) ?_; (with_reducible refine (spec_l1Cur_among.calls g s0_0 t112 t113 _ _ y114 t117 t118 t119 w0 _ ?side1 ?side2 ?side3 ?side4 ?side5 A5.out).mono ?_); (case side1 => exact IsS79.below HI0.out Ho.Steps.below); (case side2 => exact eS HB.out); (case side3 => repeat (first | exact (Kd.R_reads' HO116.out).2.2 | (with_reducible refine Kd.C_alloc ?_ _) | (with_reducible refine Kd.C_drewN ?_ _) | (with_reducible refine Kd.C_drew ?_))); (case side4 => exact (Kd.R_reads' HO116.out).2.1); (case side5 => exact far_slice (IsS79.own_ne HI0.out HO116.out (by decide))); rintro e w22 ⟨rfl, hi, hb, hk⟩; refine ⟨_, rfl, ?_⟩; have n0_ := Aside0.mk (KeepBut.blk hk (bS BK101.out) NB101_0.out (by simp)); have n1_ := Aside0.mk (Kd.R_mono (Kd.R_keep (IsS79.apart (show IsS79 w0 _ g s0_0 t112 t113 from by exact IsS79.below HI0.out Ho.Steps.below) (by exact Ho.RS <| HO104.out) (by decide)) hk (fun _ h => h.2)) (fun _ h => h.1)); have n2_ := Aside0.mk (Kd.R_mono (Kd.R_keep (IsS79.apart (show IsS79 w0 _ g s0_0 t112 t113 from by exact IsS79.below HI0.out Ho.Steps.below) (by exact Ho.RS <| HO110.out) (by decide)) hk (fun _ h => h.2)) (fun _ h => h.1)); have n3_ := Aside0.mk (Kd.R_mono (Kd.R_keep (IsS79.apart (show IsS79 w0 _ g s0_0 t112 t113 from by exact IsS79.below HI0.out Ho.Steps.below) (by exact Ho.RS <| HO116.out) (by decide)) hk (fun _ h => h.2)) (fun _ h => h.1)); have n4_ := Aside0.mk (KeepBut.trans (by exact Ho.kS HK.out) hk (.inl rfl)); have n5_ := Aside0.mk (hb); have n6_ := Aside0.mk (hi); clear BK101; clear HO104; clear HO110; clear HO116; clear HK; clear HB; clear HI0; have BK101 := n0_; have HO104 := n1_; have HO110 := n2_; have HO116 := n3_; have HK := n4_; have HB := n5_; have HI0 := n6_; clear n0_ n1_ n2_ n3_ n4_ n5_ n6_; (try clear hb); (try clear hb2); (try clear hk); (try clear hi)) | ((with_reducible refine gate_dst (N := 5) rfl ?_); refine box_event ?hg (N := 5) ?hd (cs := #[.int .i64 0, .int .i64 0, .int .i64 0, .int .i64 0, .int .i64 0]) (t := 25) ?hr ?_; (case hd => rfl); (case hg => rfl); (case hr => first | (go_simp; done) | (go_simp; rfl)); intro gb120 hg w23 hbox hb; have n0_ := Aside0.mk (Kd.R_below (by exact Ho.RS <| HO104.out) hb); have n1_ := Aside0.mk (Kd.R_below (by exact Ho.RS <| HO110.out) hb); have n2_ := Aside0.mk (Kd.R_below (by exact Ho.RS <| HO116.out) hb); have n3_ := Aside0.mk (IsS79.below (by exact IsS79.below HI0.out Ho.Steps.below) hb); have n4_ := Aside0.mk (blk_below (bS BK101.out) hb); have n5_ := Aside0.mk (KeepBut.trans (by exact Ho.kS HK.out) (KeepBut.of_below hb g none) (.inl rfl)); have n6_ := Aside0.mk (below_step (by exact eS HB.out) hb); have n7_ := Aside0.mk (hbox); have n8_ := Aside0.mk ((by rw [hg]; exact (keep_size (w := w) (g := g) (row := none) (by exact Ho.kS HK.out)) : w.heap.size ≤ gb120)); have n9_ := Aside0.mk ((Nat.le_trans HW0.out (by rw [hg]; exact (keep_size (w := w) (g := g) (row := none) (by exact Ho.kS HK.out)) : w.heap.size ≤ gb120) : w0.heap.size ≤ gb120)); have n10_ := Aside0.mk ((by rw [hg]; exact Nat.ne_of_lt (blk_lt (bS BK101.out)) : gb101 ≠ gb120)); have n11_ := Aside0.mk ((by rw [hg]; exact Nat.ne_of_gt (blk_lt (bS BK101.out)) : gb120 ≠ gb101)); have n12_ := Aside0.mk ((by rw [hg]; exact Nat.ne_of_lt (IsS79.lt (show IsS79 w0 _ g s0_0 t118 t119 from by exact IsS79.below HI0.out Ho.Steps.below)) : g ≠ gb120)); have n13_ := Aside0.mk ((by rw [hg]; exact Nat.ne_of_gt (IsS79.lt (show IsS79 w0 _ g s0_0 t118 t119 from by exact IsS79.below HI0.out Ho.Steps.below)) : gb120 ≠ g)); clear HO104; clear HO110; clear HO116; clear HI0; clear BK101; clear HK; clear HB; have HO104 := n0_; have HO110 := n1_; have HO116 := n2_; have HI0 := n3_; have BK101 := n4_; have HK := n5_; have HB := n6_; have BK120 := n7_; have GW120 := n8_; have GE120 := n9_; have NB101_120 := n10_; have NB120_101 := n11_; have NB0_120 := n12_; have NB120_0 := n13_; clear n0_ n1_ n2_ n3_ n4_ n5_ n6_ n7_ n8_ n9_ n10_ n11_ n12_ n13_; clear hb hbox hg; have hnb24 := NB120_101.out; have hnc24 := NB101_120.out; have hnb25 := NB120_0.out; have hnc25 := NB0_120.out; have hcz26_0 : w23.cell? ⟨gb120, 0, none⟩ = some (.int .i64 0) := (blk_cell BK120.out 0).trans rfl; have hcz26_1 : w23.cell? ⟨gb120, 1, none⟩ = some (.int .i64 0) := (blk_cell BK120.out 1).trans rfl; have hcz26_2 : w23.cell? ⟨gb120, 2, none⟩ = some (.int .i64 0) := (blk_cell BK120.out 2).trans rfl; have hcz26_3 : w23.cell? ⟨gb120, 3, none⟩ = some (.int .i64 0) := (blk_cell BK120.out 3).trans rfl; have hcz26_4 : w23.cell? ⟨gb120, 4, none⟩ = some (.int .i64 0) := (blk_cell BK120.out 4).trans rfl; have hfz26_0 := blk_frozen BK120.out 0; have hfz26_1 := blk_frozen BK120.out 1; have hfz26_2 := blk_frozen BK120.out 2; have hfz26_3 := blk_frozen BK120.out 3; have hfz26_4 := blk_frozen BK120.out 4) | ((with_reducible refine gate_dst (N := 30) rfl ?_); refine Kd.R_lit (Kd.int .i64) _ 3 ?hg (N := 30) ?hd (xs := ([0, wrap64 (Int.tdiv t111 50), wrap64 ((wrap64 (Int.tdiv t111 50)) + 1), t111, wrap64 (2 * t111)] : List Int)) (inner := [.int .i64 0, .int .i64 (wrap64 (Int.tdiv t111 50)), .int .i64 (wrap64 ((wrap64 (Int.tdiv t111 50)) + 1)), .int .i64 t111, .int .i64 (wrap64 (2 * t111))]) (ok := fun _ => True) (okp := fun _ => True) ?hr ?hp (fun _ hk => hk) trivial (Below.refl _ _) (Nat.le_refl _) (by simp) ?_; (case hd => rfl); (case hg => rfl); (case hr => first | (go_simp; done) | (go_simp; rfl)); (case hp => exact (Reps.one (show Kd.M (Kd.int .i64) _ _ _ 0 [.int .i64 0] from rfl) (Reps.one (show Kd.M (Kd.int .i64) _ _ _ (wrap64 (Int.tdiv t111 50)) [.int .i64 (wrap64 (Int.tdiv t111 50))] from rfl) (Reps.one (show Kd.M (Kd.int .i64) _ _ _ (wrap64 ((wrap64 (Int.tdiv t111 50)) + 1)) [.int .i64 (wrap64 ((wrap64 (Int.tdiv t111 50)) + 1))] from rfl) (Reps.one (show Kd.M (Kd.int .i64) _ _ _ t111 [.int .i64 t111] from rfl) (Reps.one (show Kd.M (Kd.int .i64) _ _ _ (wrap64 (2 * t111)) [.int .i64 (wrap64 (2 * t111))] from rfl) (Reps.none _ _))))))); intro v122 w27 ho28 hb hg_ hnew_; clear hg_ hnew_; (first | rw [← Ny121.out] at ho28 | (simp only [Int.reduceToNat] at ho28; rw [← Ny121.out] at ho28)); have n0_ := Aside0.mk (Kd.R_elder' (by exact Ho.RS <| (Kd.R_mono (Kd.R_far (p := ⟨gb120, 4, none⟩) (Kd.R_far (p := ⟨gb120, 3, none⟩) (Kd.R_far (p := ⟨gb120, 2, none⟩) (Kd.R_far (p := ⟨gb120, 1, none⟩) (Kd.R_far (p := ⟨gb120, 0, none⟩) (Kd.R_types HO104.out BK120.out (by decide)) (fun _ hk => hk.2) (.int .i64 a1)) (fun _ hk => hk.2) (.int .i64 t105)) (fun _ hk => hk.2) (.int .i64 t111)) (fun _ hk => hk.2) (.int .i64 0)) (fun _ hk => hk.2) (.int .i64 t117)) (fun _ h_ => h_.1))) (Kd.R_base ho28) hb); have n1_ := Aside0.mk (Kd.R_elder' (by exact Ho.RS <| (Kd.R_mono (Kd.R_far (p := ⟨gb120, 4, none⟩) (Kd.R_far (p := ⟨gb120, 3, none⟩) (Kd.R_far (p := ⟨gb120, 2, none⟩) (Kd.R_far (p := ⟨gb120, 1, none⟩) (Kd.R_far (p := ⟨gb120, 0, none⟩) (Kd.R_types HO110.out BK120.out (by decide)) (fun _ hk => hk.2) (.int .i64 a1)) (fun _ hk => hk.2) (.int .i64 t105)) (fun _ hk => hk.2) (.int .i64 t111)) (fun _ hk => hk.2) (.int .i64 0)) (fun _ hk => hk.2) (.int .i64 t117)) (fun _ h_ => h_.1))) (Kd.R_base ho28) hb); have n2_ := Aside0.mk (Kd.R_elder' (by exact Ho.RS <| (Kd.R_mono (Kd.R_far (p := ⟨gb120, 4, none⟩) (Kd.R_far (p := ⟨gb120, 3, none⟩) (Kd.R_far (p := ⟨gb120, 2, none⟩) (Kd.R_far (p := ⟨gb120, 1, none⟩) (Kd.R_far (p := ⟨gb120, 0, none⟩) (Kd.R_types HO116.out BK120.out (by decide)) (fun _ hk => hk.2) (.int .i64 a1)) (fun _ hk => hk.2) (.int .i64 t105)) (fun _ hk => hk.2) (.int .i64 t111)) (fun _ hk => hk.2) (.int .i64 0)) (fun _ hk => hk.2) (.int .i64 t117)) (fun _ h_ => h_.1))) (Kd.R_base ho28) hb); have n3_ := Aside0.mk (Kd.R_lower (Kd.R_new' (Kd.R_new' (Kd.R_new' ho28 (Kd.R_lt (by exact Ho.RS <| (Kd.R_mono (Kd.R_far (p := ⟨gb120, 4, none⟩) (Kd.R_far (p := ⟨gb120, 3, none⟩) (Kd.R_far (p := ⟨gb120, 2, none⟩) (Kd.R_far (p := ⟨gb120, 1, none⟩) (Kd.R_far (p := ⟨gb120, 0, none⟩) (Kd.R_types HO104.out BK120.out (by decide)) (fun _ hk => hk.2) (.int .i64 a1)) (fun _ hk => hk.2) (.int .i64 t105)) (fun _ hk => hk.2) (.int .i64 t111)) (fun _ hk => hk.2) (.int .i64 0)) (fun _ hk => hk.2) (.int .i64 t117)) (fun _ h_ => h_.1))))) (Kd.R_lt (by exact Ho.RS <| (Kd.R_mono (Kd.R_far (p := ⟨gb120, 4, none⟩) (Kd.R_far (p := ⟨gb120, 3, none⟩) (Kd.R_far (p := ⟨gb120, 2, none⟩) (Kd.R_far (p := ⟨gb120, 1, none⟩) (Kd.R_far (p := ⟨gb120, 0, none⟩) (Kd.R_types HO110.out BK120.out (by decide)) (fun _ hk => hk.2) (.int .i64 a1)) (fun _ hk => hk.2) (.int .i64 t105)) (fun _ hk => hk.2) (.int .i64 t111)) (fun _ hk => hk.2) (.int .i64 0)) (fun _ hk => hk.2) (.int .i64 t117)) (fun _ h_ => h_.1))))) (Kd.R_lt (by exact Ho.RS <| (Kd.R_mono (Kd.R_far (p := ⟨gb120, 4, none⟩) (Kd.R_far (p := ⟨gb120, 3, none⟩) (Kd.R_far (p := ⟨gb120, 2, none⟩) (Kd.R_far (p := ⟨gb120, 1, none⟩) (Kd.R_far (p := ⟨gb120, 0, none⟩) (Kd.R_types HO116.out BK120.out (by decide)) (fun _ hk => hk.2) (.int .i64 a1)) (fun _ hk => hk.2) (.int .i64 t105)) (fun _ hk => hk.2) (.int .i64 t111)) (fun _ hk => hk.2) (.int .i64 0)) (fun _ hk => hk.2) (.int .i64 t117)) (fun _ h_ => h_.1))))) (keep_size (w := w) (g := g) (row := none) (by repeat (first | (with_reducible first | exact HK.out | apply KeepBut.set_ | apply keep_drewN | apply keep_drew | apply keep_alloc | refine keep_far ?_ GW101.out _ | refine keep_far ?_ GW120.out _) | exact HK.out)))); have n4_ := Aside0.mk (IsS79.below (show IsS79 w0 (((((w23.setCell ⟨gb120, 0, none⟩ (.int .i64 a1)).setCell ⟨gb120, 1, none⟩ (.int .i64 t105)).setCell ⟨gb120, 2, none⟩ (.int .i64 t111)).setCell ⟨gb120, 3, none⟩ (.int .i64 0)).setCell ⟨gb120, 4, none⟩ (.int .i64 t117)) g s0_0 t118 t119 from by repeat (first | (with_reducible first | exact HI0.out | apply IsS79.alloc | apply IsS79.drewN | apply IsS79.drew | apply IsS79.set_1 | apply IsS79.set_2 | refine IsS79.far ?_ NB0_101.out _ | refine IsS79.far ?_ NB0_120.out _) | exact HI0.out)) hb); have n5_ := Aside0.mk (blk_below (g := gb101) (o := .cells #[.int .i64 0, .int .i64 0, .int .i64 0, .int .i64 0, .int .i64 0] 25 (0, 0)) (by (with_reducible repeat (first | refine blk_drewN ?_ _ | refine blk_drew ?_ | refine blk_alloc ?_ _)); refine blk_far ?_ NB101_120.out _; (with_reducible repeat (first | refine blk_drewN ?_ _ | refine blk_drew ?_ | refine blk_alloc ?_ _)); refine blk_far ?_ NB101_120.out _; (with_reducible repeat (first | refine blk_drewN ?_ _ | refine blk_drew ?_ | refine blk_alloc ?_ _)); refine blk_far ?_ NB101_120.out _; (with_reducible repeat (first | refine blk_drewN ?_ _ | refine blk_drew ?_ | refine blk_alloc ?_ _)); refine blk_far ?_ NB101_120.out _; (with_reducible repeat (first | refine blk_drewN ?_ _ | refine blk_drew ?_ | refine blk_alloc ?_ _)); refine blk_far ?_ NB101_120.out _; exact bS BK101.out) hb); have n6_ := Aside0.mk (blk_below (g := gb120) (o := .cells #[.int .i64 a1, .int .i64 t105, .int .i64 t111, .int .i64 0, .int .i64 t117] 25 (0, 0)) (by (with_reducible repeat (first | refine blk_drewN ?_ _ | refine blk_drew ?_ | refine blk_alloc ?_ _)); refine blk_put (cs := #[.int .i64 a1, .int .i64 t105, .int .i64 t111, .int .i64 0, .int .i64 0]) ?_ 4 _ rfl; (with_reducible repeat (first | refine blk_drewN ?_ _ | refine blk_drew ?_ | refine blk_alloc ?_ _)); refine blk_put (cs := #[.int .i64 a1, .int .i64 t105, .int .i64 t111, .int .i64 0, .int .i64 0]) ?_ 3 _ rfl; (with_reducible repeat (first | refine blk_drewN ?_ _ | refine blk_drew ?_ | refine blk_alloc ?_ _)); refine blk_put (cs := #[.int .i64 a1, .int .i64 t105, .int .i64 0, .int .i64 0, .int .i64 0]) ?_ 2 _ rfl; (with_reducible repeat (first | refine blk_drewN ?_ _ | refine blk_drew ?_ | refine blk_alloc ?_ _)); refine blk_put (cs := #[.int .i64 a1, .int .i64 0, .int .i64 0, .int .i64 0, .int .i64 0]) ?_ 1 _ rfl; (with_reducible repeat (first | refine blk_drewN ?_ _ | refine blk_drew ?_ | refine blk_alloc ?_ _)); refine blk_put (cs := #[.int .i64 0, .int .i64 0, .int .i64 0, .int .i64 0, .int .i64 0]) ?_ 0 _ rfl; exact bS BK120.out) hb); have n7_ := Aside0.mk (KeepBut.trans (by repeat (first | (with_reducible first | exact HK.out | apply KeepBut.set_ | apply keep_drewN | apply keep_drew | apply keep_alloc | refine keep_far ?_ GW101.out _ | refine keep_far ?_ GW120.out _) | exact HK.out)) (KeepBut.of_below hb g none) (.inl rfl)); have n8_ := Aside0.mk (below_step (by repeat (first | (with_reducible first | exact HB.out | apply below_alloc | apply pw_below_drewN | apply below_drew1 | refine below_set ?_ (IsS79.ge HI0.out) | refine below_set ?_ GE101.out | refine below_set ?_ GE120.out) | exact HB.out)) hb); clear HO104; clear HO110; clear HO116; clear HI0; clear BK101; clear BK120; clear HK; clear HB; have HO104 := n0_; have HO110 := n1_; have HO116 := n2_; have HO123 := n3_; have HI0 := n4_; have BK101 := n5_; have BK120 := n6_; have HK := n7_; have HB := n8_; clear n0_ n1_ n2_ n3_ n4_ n5_ n6_ n7_ n8_; clear hb ho28; obtain ⟨Ao29, co29, eo29⟩ := Kd.R_slice HO123.out; subst eo29) | ((with_reducible refine gate_callee (f := 80) rfl ?_); refine goesL_ (some 31) rfl rfl Try.func80 (by kernel_rfl) rfl #[.pointer (some ⟨g, 0, none⟩), .slice Ao29 y121.length co29] rfl (by (try simp only [List.map_toArray, List.map_cons, List.map_nil]); first | done | rfl | (simp only [List.length_drop, List.length_take]; rfl)) ?_; (with_reducible refine (spec_l1Cur_among.calls g s0_0 t118 t119 _ _ y121 t124 t125 t126 w0 _ ?side1 ?side2 ?side3 ?side4 ?side5 A6.out).mono ?_); (case side1 => exact IsS79.below HI0.out Ho.Steps.below); (case side2 => exact eS HB.out); (case side3 => repeat (first | exact (Kd.R_reads' HO123.out).2.2 | (with_reducible refine Kd.C_alloc ?_ _) | (with_reducible refine Kd.C_drewN ?_ _) | (with_reducible refine Kd.C_drew ?_))); (case side4 => exact (Kd.R_reads' HO123.out).2.1); (case side5 => exact far_slice (IsS79.own_ne HI0.out HO123.out (by decide))); rintro e w30 ⟨rfl, hi, hb, hk⟩; refine ⟨_, rfl, ?_⟩; have n0_ := Aside0.mk (KeepBut.blk hk (bS BK101.out) NB101_0.out (by simp)); have n1_ := Aside0.mk (Kd.R_mono (Kd.R_keep (IsS79.apart (show IsS79 w0 _ g s0_0 t118 t119 from by exact IsS79.below HI0.out Ho.Steps.below) (by exact Ho.RS <| HO104.out) (by decide)) hk (fun _ h => h.2)) (fun _ h => h.1)); have n2_ := Aside0.mk (Kd.R_mono (Kd.R_keep (IsS79.apart (show IsS79 w0 _ g s0_0 t118 t119 from by exact IsS79.below HI0.out Ho.Steps.below) (by exact Ho.RS <| HO110.out) (by decide)) hk (fun _ h => h.2)) (fun _ h => h.1)); have n3_ := Aside0.mk (Kd.R_mono (Kd.R_keep (IsS79.apart (show IsS79 w0 _ g s0_0 t118 t119 from by exact IsS79.below HI0.out Ho.Steps.below) (by exact Ho.RS <| HO116.out) (by decide)) hk (fun _ h => h.2)) (fun _ h => h.1)); have n4_ := Aside0.mk (KeepBut.blk hk (bS BK120.out) NB120_0.out (by simp)); have n5_ := Aside0.mk (Kd.R_mono (Kd.R_keep (IsS79.apart (show IsS79 w0 _ g s0_0 t118 t119 from by exact IsS79.below HI0.out Ho.Steps.below) (by exact Ho.RS <| HO123.out) (by decide)) hk (fun _ h => h.2)) (fun _ h => h.1)); have n6_ := Aside0.mk (KeepBut.trans (by exact Ho.kS HK.out) hk (.inl rfl)); have n7_ := Aside0.mk (hb); have n8_ := Aside0.mk (hi); clear BK101; clear HO104; clear HO110; clear HO116; clear BK120; clear HO123; clear HK; clear HB; clear HI0; have BK101 := n0_; have HO104 := n1_; have HO110 := n2_; have HO116 := n3_; have BK120 := n4_; have HO123 := n5_; have HK := n6_; have HB := n7_; have HI0 := n8_; clear n0_ n1_ n2_ n3_ n4_ n5_ n6_ n7_ n8_; (try clear hb); (try clear hb2); (try clear hk); (try clear hi); have hcz31_0 : w30.cell? ⟨gb120, 0, none⟩ = some (.int .i64 a1) := (blk_cell BK120.out 0).trans rfl; have hcz31_1 : w30.cell? ⟨gb120, 1, none⟩ = some (.int .i64 t105) := (blk_cell BK120.out 1).trans rfl; have hcz31_2 : w30.cell? ⟨gb120, 2, none⟩ = some (.int .i64 t111) := (blk_cell BK120.out 2).trans rfl; have hcz31_3 : w30.cell? ⟨gb120, 3, none⟩ = some (.int .i64 0) := (blk_cell BK120.out 3).trans rfl; have hcz31_4 : w30.cell? ⟨gb120, 4, none⟩ = some (.int .i64 t117) := (blk_cell BK120.out 4).trans rfl; have hfz31_0 := blk_frozen BK120.out 0; have hfz31_1 := blk_frozen BK120.out 1; have hfz31_2 := blk_frozen BK120.out 2; have hfz31_3 := blk_frozen BK120.out 3; have hfz31_4 := blk_frozen BK120.out 4) | ((first | guard_hyp WAY0 : True | guard_hyp WAY1 : True | guard_hyp WAY2 : True | guard_hyp WAY4 : True); ((with_reducible refine gate_callee (f := 81) rfl ?_); refine goesL_ (some 34) rfl rfl Try.func81 (by kernel_rfl) rfl #[.pointer (some ⟨g, 0, none⟩), .int .i64 70] rfl (by (try simp only [List.map_toArray, List.map_cons, List.map_nil]); first | done | rfl | (simp only [List.length_drop, List.length_take]; rfl)) ?_; (with_reducible refine (spec_l1Cur_pick.calls g s0_0 t125 t126 70 t127 t128 t129 w0 _ ?side1 ?side2 A7.out).mono ?_); (case side1 => repeat (first | (with_reducible first | exact HI0.out | apply IsS79.alloc | apply IsS79.drewN | apply IsS79.drew | apply IsS79.set_1 | apply IsS79.set_2 | refine IsS79.far ?_ NB0_101.out _ | refine IsS79.far ?_ NB0_120.out _) | exact HI0.out)); (case side2 => repeat (first | (with_reducible first | exact HB.out | apply below_alloc | apply pw_below_drewN | apply below_drew1 | refine below_set ?_ (IsS79.ge HI0.out) | refine below_set ?_ GE101.out | refine below_set ?_ GE120.out) | exact HB.out)); rintro e w32 ⟨rfl, hi, hb, hk⟩; refine ⟨_, rfl, ?_⟩; have n0_ := Aside0.mk (KeepBut.blk hk (g' := gb101) (o := .cells #[.int .i64 0, .int .i64 0, .int .i64 0, .int .i64 0, .int .i64 0] 25 (0, 0)) (by (with_reducible repeat (first | refine blk_drewN ?_ _ | refine blk_drew ?_ | refine blk_alloc ?_ _)); refine blk_far ?_ NB101_120.out _; exact bS BK101.out) NB101_0.out (by simp)); have n1_ := Aside0.mk (Kd.R_mono (Kd.R_keep (IsS79.apart (show IsS79 w0 _ g s0_0 t125 t126 from by repeat (first | (with_reducible first | exact HI0.out | apply IsS79.alloc | apply IsS79.drewN | apply IsS79.drew | apply IsS79.set_1 | apply IsS79.set_2 | refine IsS79.far ?_ NB0_101.out _ | refine IsS79.far ?_ NB0_120.out _) | exact HI0.out)) (by exact Ho.RS <| (Kd.R_mono (Kd.R_far (p := ⟨gb120, 3, none⟩) (Kd.R_types HO104.out BK120.out (by decide)) (fun _ hk => hk.2) (.int .i64 t124)) (fun _ h_ => h_.1))) (by decide)) hk (fun _ h => h.2)) (fun _ h => h.1)); have n2_ := Aside0.mk (Kd.R_mono (Kd.R_keep (IsS79.apart (show IsS79 w0 _ g s0_0 t125 t126 from by repeat (first | (with_reducible first | exact HI0.out | apply IsS79.alloc | apply IsS79.drewN | apply IsS79.drew | apply IsS79.set_1 | apply IsS79.set_2 | refine IsS79.far ?_ NB0_101.out _ | refine IsS79.far ?_ NB0_120.out _) | exact HI0.out)) (by exact Ho.RS <| (Kd.R_mono (Kd.R_far (p := ⟨gb120, 3, none⟩) (Kd.R_types HO110.out BK120.out (by decide)) (fun _ hk => hk.2) (.int .i64 t124)) (fun _ h_ => h_.1))) (by decide)) hk (fun _ h => h.2)) (fun _ h => h.1)); have n3_ := Aside0.mk (Kd.R_mono (Kd.R_keep (IsS79.apart (show IsS79 w0 _ g s0_0 t125 t126 from by repeat (first | (with_reducible first | exact HI0.out | apply IsS79.alloc | apply IsS79.drewN | apply IsS79.drew | apply IsS79.set_1 | apply IsS79.set_2 | refine IsS79.far ?_ NB0_101.out _ | refine IsS79.far ?_ NB0_120.out _) | exact HI0.out)) (by exact Ho.RS <| (Kd.R_mono (Kd.R_far (p := ⟨gb120, 3, none⟩) (Kd.R_types HO116.out BK120.out (by decide)) (fun _ hk => hk.2) (.int .i64 t124)) (fun _ h_ => h_.1))) (by decide)) hk (fun _ h => h.2)) (fun _ h => h.1)); have n4_ := Aside0.mk (KeepBut.blk hk (g' := gb120) (o := .cells #[.int .i64 a1, .int .i64 t105, .int .i64 t111, .int .i64 t124, .int .i64 t117] 25 (0, 0)) (by (with_reducible repeat (first | refine blk_drewN ?_ _ | refine blk_drew ?_ | refine blk_alloc ?_ _)); refine blk_put (cs := #[.int .i64 a1, .int .i64 t105, .int .i64 t111, .int .i64 0, .int .i64 t117]) ?_ 3 _ rfl; exact bS BK120.out) NB120_0.out (by simp)); have n5_ := Aside0.mk (Kd.R_mono (Kd.R_keep (IsS79.apart (show IsS79 w0 _ g s0_0 t125 t126 from by repeat (first | (with_reducible first | exact HI0.out | apply IsS79.alloc | apply IsS79.drewN | apply IsS79.drew | apply IsS79.set_1 | apply IsS79.set_2 | refine IsS79.far ?_ NB0_101.out _ | refine IsS79.far ?_ NB0_120.out _) | exact HI0.out)) (by exact Ho.RS <| (Kd.R_mono (Kd.R_far (p := ⟨gb120, 3, none⟩) (Kd.R_types HO123.out BK120.out (by decide)) (fun _ hk => hk.2) (.int .i64 t124)) (fun _ h_ => h_.1))) (by decide)) hk (fun _ h => h.2)) (fun _ h => h.1)); have n6_ := Aside0.mk (KeepBut.trans (by repeat (first | (with_reducible first | exact HK.out | apply KeepBut.set_ | apply keep_drewN | apply keep_drew | apply keep_alloc | refine keep_far ?_ GW101.out _ | refine keep_far ?_ GW120.out _) | exact HK.out)) hk (.inl rfl)); have n7_ := Aside0.mk (hb); have n8_ := Aside0.mk (hi); clear BK101; clear HO104; clear HO110; clear HO116; clear BK120; clear HO123; clear HK; clear HB; clear HI0; have BK101 := n0_; have HO104 := n1_; have HO110 := n2_; have HO116 := n3_; have BK120 := n4_; have HO123 := n5_; have HK := n6_; have HB := n7_; have HI0 := n8_; clear n0_ n1_ n2_ n3_ n4_ n5_ n6_ n7_ n8_; (try clear hb); (try clear hb2); (try clear hk); (try clear hi))) | ((guard_hyp WAY0 : True); ((with_reducible refine gate_dst (N := 38) rfl ?_); refine Kd.R_lit (Kd.int .i64) _ 3 ?hg (N := 38) ?hd (xs := ([0, 999, 1000] : List Int)) (inner := [.int .i64 0, .int .i64 999, .int .i64 1000]) (ok := fun _ => True) (okp := fun _ => True) ?hr ?hp (fun _ hk => hk) trivial (Below.refl _ _) (Nat.le_refl _) (by simp) ?_; (case hd => rfl); (case hg => rfl); (case hr => first | (go_simp; done) | (go_simp; rfl)); (case hp => exact (Reps.one (show Kd.M (Kd.int .i64) _ _ _ 0 [.int .i64 0] from rfl) (Reps.one (show Kd.M (Kd.int .i64) _ _ _ 999 [.int .i64 999] from rfl) (Reps.one (show Kd.M (Kd.int .i64) _ _ _ 1000 [.int .i64 1000] from rfl) (Reps.none _ _))))); intro v131 w33 ho34 hb hg_ hnew_; clear hg_ hnew_; (first | rw [← Ny130.out] at ho34 | (simp only [Int.reduceToNat] at ho34; rw [← Ny130.out] at ho34)); have n0_ := Aside0.mk (Kd.R_elder' (by exact Ho.RS <| HO104.out) (Kd.R_base ho34) hb); have n1_ := Aside0.mk (Kd.R_elder' (by exact Ho.RS <| HO110.out) (Kd.R_base ho34) hb); have n2_ := Aside0.mk (Kd.R_elder' (by exact Ho.RS <| HO116.out) (Kd.R_base ho34) hb); have n3_ := Aside0.mk (Kd.R_elder' (by exact Ho.RS <| HO123.out) (Kd.R_base ho34) hb); have n4_ := Aside0.mk (Kd.R_lower (Kd.R_new' (Kd.R_new' (Kd.R_new' (Kd.R_new' ho34 (Kd.R_lt (by exact Ho.RS <| HO104.out))) (Kd.R_lt (by exact Ho.RS <| HO110.out))) (Kd.R_lt (by exact Ho.RS <| HO116.out))) (Kd.R_lt (by exact Ho.RS <| HO123.out))) (keep_size (w := w) (g := g) (row := none) (by exact Ho.kS HK.out))); have n5_ := Aside0.mk (IsS79.below (by exact IsS79.below HI0.out Ho.Steps.below) hb); have n6_ := Aside0.mk (blk_below (bS BK101.out) hb); have n7_ := Aside0.mk (blk_below (bS BK120.out) hb); have n8_ := Aside0.mk (KeepBut.trans (by exact Ho.kS HK.out) (KeepBut.of_below hb g none) (.inl rfl)); have n9_ := Aside0.mk (below_step (by exact eS HB.out) hb); clear HO104; clear HO110; clear HO116; clear HO123; clear HI0; clear BK101; clear BK120; clear HK; clear HB; have HO104 := n0_; have HO110 := n1_; have HO116 := n2_; have HO123 := n3_; have HO132 := n4_; have HI0 := n5_; have BK101 := n6_; have BK120 := n7_; have HK := n8_; have HB := n9_; clear n0_ n1_ n2_ n3_ n4_ n5_ n6_ n7_ n8_ n9_; clear hb ho34; obtain ⟨Ao35, co35, eo35⟩ := Kd.R_slice HO132.out; subst eo35)) | ((guard_hyp WAY0 : True); ((with_reducible refine gate_callee (f := 80) rfl ?_); refine goesL_ (some 39) rfl rfl Try.func80 (by kernel_rfl) rfl #[.pointer (some ⟨g, 0, none⟩), .slice Ao35 y130.length co35] rfl (by (try simp only [List.map_toArray, List.map_cons, List.map_nil]); first | done | rfl | (simp only [List.length_drop, List.length_take]; rfl)) ?_; (with_reducible refine (spec_l1Cur_among.calls g s0_0 t128 t129 _ _ y130 t133 t134 t135 w0 _ ?side1 ?side2 ?side3 ?side4 ?side5 A9.out).mono ?_); (case side1 => exact IsS79.below HI0.out Ho.Steps.below); (case side2 => exact eS HB.out); (case side3 => repeat (first | exact (Kd.R_reads' HO132.out).2.2 | (with_reducible refine Kd.C_alloc ?_ _) | (with_reducible refine Kd.C_drewN ?_ _) | (with_reducible refine Kd.C_drew ?_))); (case side4 => exact (Kd.R_reads' HO132.out).2.1); (case side5 => exact far_slice (IsS79.own_ne HI0.out HO132.out (by decide))); rintro e w36 ⟨rfl, hi, hb, hk⟩; refine ⟨_, rfl, ?_⟩; have n0_ := Aside0.mk (KeepBut.blk hk (bS BK101.out) NB101_0.out (by simp)); have n1_ := Aside0.mk (Kd.R_mono (Kd.R_keep (IsS79.apart (show IsS79 w0 _ g s0_0 t128 t129 from by exact IsS79.below HI0.out Ho.Steps.below) (by exact Ho.RS <| HO104.out) (by decide)) hk (fun _ h => h.2)) (fun _ h => h.1)); have n2_ := Aside0.mk (Kd.R_mono (Kd.R_keep (IsS79.apart (show IsS79 w0 _ g s0_0 t128 t129 from by exact IsS79.below HI0.out Ho.Steps.below) (by exact Ho.RS <| HO110.out) (by decide)) hk (fun _ h => h.2)) (fun _ h => h.1)); have n3_ := Aside0.mk (Kd.R_mono (Kd.R_keep (IsS79.apart (show IsS79 w0 _ g s0_0 t128 t129 from by exact IsS79.below HI0.out Ho.Steps.below) (by exact Ho.RS <| HO116.out) (by decide)) hk (fun _ h => h.2)) (fun _ h => h.1)); have n4_ := Aside0.mk (KeepBut.blk hk (bS BK120.out) NB120_0.out (by simp)); have n5_ := Aside0.mk (Kd.R_mono (Kd.R_keep (IsS79.apart (show IsS79 w0 _ g s0_0 t128 t129 from by exact IsS79.below HI0.out Ho.Steps.below) (by exact Ho.RS <| HO123.out) (by decide)) hk (fun _ h => h.2)) (fun _ h => h.1)); have n6_ := Aside0.mk (Kd.R_mono (Kd.R_keep (IsS79.apart (show IsS79 w0 _ g s0_0 t128 t129 from by exact IsS79.below HI0.out Ho.Steps.below) (by exact Ho.RS <| HO132.out) (by decide)) hk (fun _ h => h.2)) (fun _ h => h.1)); have n7_ := Aside0.mk (KeepBut.trans (by exact Ho.kS HK.out) hk (.inl rfl)); have n8_ := Aside0.mk (hb); have n9_ := Aside0.mk (hi); clear BK101; clear HO104; clear HO110; clear HO116; clear BK120; clear HO123; clear HO132; clear HK; clear HB; clear HI0; have BK101 := n0_; have HO104 := n1_; have HO110 := n2_; have HO116 := n3_; have BK120 := n4_; have HO123 := n5_; have HO132 := n6_; have HK := n7_; have HB := n8_; have HI0 := n9_; clear n0_ n1_ n2_ n3_ n4_ n5_ n6_ n7_ n8_ n9_; (try clear hb); (try clear hb2); (try clear hk); (try clear hi); have hcz37_0 : w36.cell? ⟨gb120, 0, none⟩ = some (.int .i64 a1) := (blk_cell BK120.out 0).trans rfl; have hcz37_1 : w36.cell? ⟨gb120, 1, none⟩ = some (.int .i64 t105) := (blk_cell BK120.out 1).trans rfl; have hcz37_2 : w36.cell? ⟨gb120, 2, none⟩ = some (.int .i64 t111) := (blk_cell BK120.out 2).trans rfl; have hcz37_3 : w36.cell? ⟨gb120, 3, none⟩ = some (.int .i64 t124) := (blk_cell BK120.out 3).trans rfl; have hcz37_4 : w36.cell? ⟨gb120, 4, none⟩ = some (.int .i64 t117) := (blk_cell BK120.out 4).trans rfl; have hfz37_0 := blk_frozen BK120.out 0; have hfz37_1 := blk_frozen BK120.out 1; have hfz37_2 := blk_frozen BK120.out 2; have hfz37_3 := blk_frozen BK120.out 3; have hfz37_4 := blk_frozen BK120.out 4; have hnb38 := NB101_0.out; have hnc38 := NB0_101.out; have hcz39_0 : w36.cell? ⟨gb101, 0, none⟩ = some (.int .i64 0) := (blk_cell BK101.out 0).trans rfl; have hcz39_1 : w36.cell? ⟨gb101, 1, none⟩ = some (.int .i64 0) := (blk_cell BK101.out 1).trans rfl; have hcz39_2 : w36.cell? ⟨gb101, 2, none⟩ = some (.int .i64 0) := (blk_cell BK101.out 2).trans rfl; have hcz39_3 : w36.cell? ⟨gb101, 3, none⟩ = some (.int .i64 0) := (blk_cell BK101.out 3).trans rfl; have hcz39_4 : w36.cell? ⟨gb101, 4, none⟩ = some (.int .i64 0) := (blk_cell BK101.out 4).trans rfl; have hfz39_0 := blk_frozen BK101.out 0; have hfz39_1 := blk_frozen BK101.out 1; have hfz39_2 := blk_frozen BK101.out 2; have hfz39_3 := blk_frozen BK101.out 3; have hfz39_4 := blk_frozen BK101.out 4)) | ((guard_hyp WAY1 : True); ((with_reducible refine gate_dst (N := 44) rfl ?_); refine Kd.R_lit (Kd.int .i64) _ 3 ?hg (N := 44) ?hd (xs := ([0, 4001] : List Int)) (inner := [.int .i64 0, .int .i64 4001]) (ok := fun _ => True) (okp := fun _ => True) ?hr ?hp (fun _ hk => hk) trivial (Below.refl _ _) (Nat.le_refl _) (by simp) ?_; (case hd => rfl); (case hg => rfl); (case hr => first | (go_simp; done) | (go_simp; rfl)); (case hp => exact (Reps.one (show Kd.M (Kd.int .i64) _ _ _ 0 [.int .i64 0] from rfl) (Reps.one (show Kd.M (Kd.int .i64) _ _ _ 4001 [.int .i64 4001] from rfl) (Reps.none _ _)))); intro v137 w65 ho66 hb hg_ hnew_; clear hg_ hnew_; (first | rw [← Ny136.out] at ho66 | (simp only [Int.reduceToNat] at ho66; rw [← Ny136.out] at ho66)); have n0_ := Aside0.mk (Kd.R_elder' (by exact Ho.RS <| HO104.out) (Kd.R_base ho66) hb); have n1_ := Aside0.mk (Kd.R_elder' (by exact Ho.RS <| HO110.out) (Kd.R_base ho66) hb); have n2_ := Aside0.mk (Kd.R_elder' (by exact Ho.RS <| HO116.out) (Kd.R_base ho66) hb); have n3_ := Aside0.mk (Kd.R_elder' (by exact Ho.RS <| HO123.out) (Kd.R_base ho66) hb); have n4_ := Aside0.mk (Kd.R_lower (Kd.R_new' (Kd.R_new' (Kd.R_new' (Kd.R_new' ho66 (Kd.R_lt (by exact Ho.RS <| HO104.out))) (Kd.R_lt (by exact Ho.RS <| HO110.out))) (Kd.R_lt (by exact Ho.RS <| HO116.out))) (Kd.R_lt (by exact Ho.RS <| HO123.out))) (keep_size (w := w) (g := g) (row := none) (by exact Ho.kS HK.out))); have n5_ := Aside0.mk (IsS79.below (by exact IsS79.below HI0.out Ho.Steps.below) hb); have n6_ := Aside0.mk (blk_below (bS BK101.out) hb); have n7_ := Aside0.mk (blk_below (bS BK120.out) hb); have n8_ := Aside0.mk (KeepBut.trans (by exact Ho.kS HK.out) (KeepBut.of_below hb g none) (.inl rfl)); have n9_ := Aside0.mk (below_step (by exact eS HB.out) hb); clear HO104; clear HO110; clear HO116; clear HO123; clear HI0; clear BK101; clear BK120; clear HK; clear HB; have HO104 := n0_; have HO110 := n1_; have HO116 := n2_; have HO123 := n3_; have HO138 := n4_; have HI0 := n5_; have BK101 := n6_; have BK120 := n7_; have HK := n8_; have HB := n9_; clear n0_ n1_ n2_ n3_ n4_ n5_ n6_ n7_ n8_ n9_; clear hb ho66; obtain ⟨Ao67, co67, eo67⟩ := Kd.R_slice HO138.out; subst eo67)) | ((guard_hyp WAY1 : True); ((with_reducible refine gate_callee (f := 80) rfl ?_); refine goesL_ (some 45) rfl rfl Try.func80 (by kernel_rfl) rfl #[.pointer (some ⟨g, 0, none⟩), .slice Ao67 y136.length co67] rfl (by (try simp only [List.map_toArray, List.map_cons, List.map_nil]); first | done | rfl | (simp only [List.length_drop, List.length_take]; rfl)) ?_; (with_reducible refine (spec_l1Cur_among.calls g s0_0 t128 t129 _ _ y136 t139 t140 t141 w0 _ ?side1 ?side2 ?side3 ?side4 ?side5 A41.out).mono ?_); (case side1 => exact IsS79.below HI0.out Ho.Steps.below); (case side2 => exact eS HB.out); (case side3 => repeat (first | exact (Kd.R_reads' HO138.out).2.2 | (with_reducible refine Kd.C_alloc ?_ _) | (with_reducible refine Kd.C_drewN ?_ _) | (with_reducible refine Kd.C_drew ?_))); (case side4 => exact (Kd.R_reads' HO138.out).2.1); (case side5 => exact far_slice (IsS79.own_ne HI0.out HO138.out (by decide))); rintro e w68 ⟨rfl, hi, hb, hk⟩; refine ⟨_, rfl, ?_⟩; have n0_ := Aside0.mk (KeepBut.blk hk (bS BK101.out) NB101_0.out (by simp)); have n1_ := Aside0.mk (Kd.R_mono (Kd.R_keep (IsS79.apart (show IsS79 w0 _ g s0_0 t128 t129 from by exact IsS79.below HI0.out Ho.Steps.below) (by exact Ho.RS <| HO104.out) (by decide)) hk (fun _ h => h.2)) (fun _ h => h.1)); have n2_ := Aside0.mk (Kd.R_mono (Kd.R_keep (IsS79.apart (show IsS79 w0 _ g s0_0 t128 t129 from by exact IsS79.below HI0.out Ho.Steps.below) (by exact Ho.RS <| HO110.out) (by decide)) hk (fun _ h => h.2)) (fun _ h => h.1)); have n3_ := Aside0.mk (Kd.R_mono (Kd.R_keep (IsS79.apart (show IsS79 w0 _ g s0_0 t128 t129 from by exact IsS79.below HI0.out Ho.Steps.below) (by exact Ho.RS <| HO116.out) (by decide)) hk (fun _ h => h.2)) (fun _ h => h.1)); have n4_ := Aside0.mk (KeepBut.blk hk (bS BK120.out) NB120_0.out (by simp)); have n5_ := Aside0.mk (Kd.R_mono (Kd.R_keep (IsS79.apart (show IsS79 w0 _ g s0_0 t128 t129 from by exact IsS79.below HI0.out Ho.Steps.below) (by exact Ho.RS <| HO123.out) (by decide)) hk (fun _ h => h.2)) (fun _ h => h.1)); have n6_ := Aside0.mk (Kd.R_mono (Kd.R_keep (IsS79.apart (show IsS79 w0 _ g s0_0 t128 t129 from by exact IsS79.below HI0.out Ho.Steps.below) (by exact Ho.RS <| HO138.out) (by decide)) hk (fun _ h => h.2)) (fun _ h => h.1)); have n7_ := Aside0.mk (KeepBut.trans (by exact Ho.kS HK.out) hk (.inl rfl)); have n8_ := Aside0.mk (hb); have n9_ := Aside0.mk (hi); clear BK101; clear HO104; clear HO110; clear HO116; clear BK120; clear HO123; clear HO138; clear HK; clear HB; clear HI0; have BK101 := n0_; have HO104 := n1_; have HO110 := n2_; have HO116 := n3_; have BK120 := n4_; have HO123 := n5_; have HO138 := n6_; have HK := n7_; have HB := n8_; have HI0 := n9_; clear n0_ n1_ n2_ n3_ n4_ n5_ n6_ n7_ n8_ n9_; (try clear hb); (try clear hb2); (try clear hk); (try clear hi); have hcz69_0 : w68.cell? ⟨gb120, 0, none⟩ = some (.int .i64 a1) := (blk_cell BK120.out 0).trans rfl; have hcz69_1 : w68.cell? ⟨gb120, 1, none⟩ = some (.int .i64 t105) := (blk_cell BK120.out 1).trans rfl; have hcz69_2 : w68.cell? ⟨gb120, 2, none⟩ = some (.int .i64 t111) := (blk_cell BK120.out 2).trans rfl; have hcz69_3 : w68.cell? ⟨gb120, 3, none⟩ = some (.int .i64 t124) := (blk_cell BK120.out 3).trans rfl; have hcz69_4 : w68.cell? ⟨gb120, 4, none⟩ = some (.int .i64 t117) := (blk_cell BK120.out 4).trans rfl; have hfz69_0 := blk_frozen BK120.out 0; have hfz69_1 := blk_frozen BK120.out 1; have hfz69_2 := blk_frozen BK120.out 2; have hfz69_3 := blk_frozen BK120.out 3; have hfz69_4 := blk_frozen BK120.out 4; have hnb70 := NB101_0.out; have hnc70 := NB0_101.out; have hcz71_0 : w68.cell? ⟨gb101, 0, none⟩ = some (.int .i64 0) := (blk_cell BK101.out 0).trans rfl; have hcz71_1 : w68.cell? ⟨gb101, 1, none⟩ = some (.int .i64 0) := (blk_cell BK101.out 1).trans rfl; have hcz71_2 : w68.cell? ⟨gb101, 2, none⟩ = some (.int .i64 0) := (blk_cell BK101.out 2).trans rfl; have hcz71_3 : w68.cell? ⟨gb101, 3, none⟩ = some (.int .i64 0) := (blk_cell BK101.out 3).trans rfl; have hcz71_4 : w68.cell? ⟨gb101, 4, none⟩ = some (.int .i64 0) := (blk_cell BK101.out 4).trans rfl; have hfz71_0 := blk_frozen BK101.out 0; have hfz71_1 := blk_frozen BK101.out 1; have hfz71_2 := blk_frozen BK101.out 2; have hfz71_3 := blk_frozen BK101.out 3; have hfz71_4 := blk_frozen BK101.out 4)) | ((guard_hyp WAY2 : True); ((with_reducible refine gate_dst (N := 50) rfl ?_); refine Kd.R_lit (Kd.int .i64) _ 3 ?hg (N := 50) ?hd (xs := ([0, 200001] : List Int)) (inner := [.int .i64 0, .int .i64 200001]) (ok := fun _ => True) (okp := fun _ => True) ?hr ?hp (fun _ hk => hk) trivial (Below.refl _ _) (Nat.le_refl _) (by simp) ?_; (case hd => rfl); (case hg => rfl); (case hr => first | (go_simp; done) | (go_simp; rfl)); (case hp => exact (Reps.one (show Kd.M (Kd.int .i64) _ _ _ 0 [.int .i64 0] from rfl) (Reps.one (show Kd.M (Kd.int .i64) _ _ _ 200001 [.int .i64 200001] from rfl) (Reps.none _ _)))); intro v143 w97 ho98 hb hg_ hnew_; clear hg_ hnew_; (first | rw [← Ny142.out] at ho98 | (simp only [Int.reduceToNat] at ho98; rw [← Ny142.out] at ho98)); have n0_ := Aside0.mk (Kd.R_elder' (by exact Ho.RS <| HO104.out) (Kd.R_base ho98) hb); have n1_ := Aside0.mk (Kd.R_elder' (by exact Ho.RS <| HO110.out) (Kd.R_base ho98) hb); have n2_ := Aside0.mk (Kd.R_elder' (by exact Ho.RS <| HO116.out) (Kd.R_base ho98) hb); have n3_ := Aside0.mk (Kd.R_elder' (by exact Ho.RS <| HO123.out) (Kd.R_base ho98) hb); have n4_ := Aside0.mk (Kd.R_lower (Kd.R_new' (Kd.R_new' (Kd.R_new' (Kd.R_new' ho98 (Kd.R_lt (by exact Ho.RS <| HO104.out))) (Kd.R_lt (by exact Ho.RS <| HO110.out))) (Kd.R_lt (by exact Ho.RS <| HO116.out))) (Kd.R_lt (by exact Ho.RS <| HO123.out))) (keep_size (w := w) (g := g) (row := none) (by exact Ho.kS HK.out))); have n5_ := Aside0.mk (IsS79.below (by exact IsS79.below HI0.out Ho.Steps.below) hb); have n6_ := Aside0.mk (blk_below (bS BK101.out) hb); have n7_ := Aside0.mk (blk_below (bS BK120.out) hb); have n8_ := Aside0.mk (KeepBut.trans (by exact Ho.kS HK.out) (KeepBut.of_below hb g none) (.inl rfl)); have n9_ := Aside0.mk (below_step (by exact eS HB.out) hb); clear HO104; clear HO110; clear HO116; clear HO123; clear HI0; clear BK101; clear BK120; clear HK; clear HB; have HO104 := n0_; have HO110 := n1_; have HO116 := n2_; have HO123 := n3_; have HO144 := n4_; have HI0 := n5_; have BK101 := n6_; have BK120 := n7_; have HK := n8_; have HB := n9_; clear n0_ n1_ n2_ n3_ n4_ n5_ n6_ n7_ n8_ n9_; clear hb ho98; obtain ⟨Ao99, co99, eo99⟩ := Kd.R_slice HO144.out; subst eo99)) | ((guard_hyp WAY2 : True); ((with_reducible refine gate_callee (f := 80) rfl ?_); refine goesL_ (some 51) rfl rfl Try.func80 (by kernel_rfl) rfl #[.pointer (some ⟨g, 0, none⟩), .slice Ao99 y142.length co99] rfl (by (try simp only [List.map_toArray, List.map_cons, List.map_nil]); first | done | rfl | (simp only [List.length_drop, List.length_take]; rfl)) ?_; (with_reducible refine (spec_l1Cur_among.calls g s0_0 t128 t129 _ _ y142 t145 t146 t147 w0 _ ?side1 ?side2 ?side3 ?side4 ?side5 A73.out).mono ?_); (case side1 => exact IsS79.below HI0.out Ho.Steps.below); (case side2 => exact eS HB.out); (case side3 => repeat (first | exact (Kd.R_reads' HO144.out).2.2 | (with_reducible refine Kd.C_alloc ?_ _) | (with_reducible refine Kd.C_drewN ?_ _) | (with_reducible refine Kd.C_drew ?_))); (case side4 => exact (Kd.R_reads' HO144.out).2.1); (case side5 => exact far_slice (IsS79.own_ne HI0.out HO144.out (by decide))); rintro e w100 ⟨rfl, hi, hb, hk⟩; refine ⟨_, rfl, ?_⟩; have n0_ := Aside0.mk (KeepBut.blk hk (bS BK101.out) NB101_0.out (by simp)); have n1_ := Aside0.mk (Kd.R_mono (Kd.R_keep (IsS79.apart (show IsS79 w0 _ g s0_0 t128 t129 from by exact IsS79.below HI0.out Ho.Steps.below) (by exact Ho.RS <| HO104.out) (by decide)) hk (fun _ h => h.2)) (fun _ h => h.1)); have n2_ := Aside0.mk (Kd.R_mono (Kd.R_keep (IsS79.apart (show IsS79 w0 _ g s0_0 t128 t129 from by exact IsS79.below HI0.out Ho.Steps.below) (by exact Ho.RS <| HO110.out) (by decide)) hk (fun _ h => h.2)) (fun _ h => h.1)); have n3_ := Aside0.mk (Kd.R_mono (Kd.R_keep (IsS79.apart (show IsS79 w0 _ g s0_0 t128 t129 from by exact IsS79.below HI0.out Ho.Steps.below) (by exact Ho.RS <| HO116.out) (by decide)) hk (fun _ h => h.2)) (fun _ h => h.1)); have n4_ := Aside0.mk (KeepBut.blk hk (bS BK120.out) NB120_0.out (by simp)); have n5_ := Aside0.mk (Kd.R_mono (Kd.R_keep (IsS79.apart (show IsS79 w0 _ g s0_0 t128 t129 from by exact IsS79.below HI0.out Ho.Steps.below) (by exact Ho.RS <| HO123.out) (by decide)) hk (fun _ h => h.2)) (fun _ h => h.1)); have n6_ := Aside0.mk (Kd.R_mono (Kd.R_keep (IsS79.apart (show IsS79 w0 _ g s0_0 t128 t129 from by exact IsS79.below HI0.out Ho.Steps.below) (by exact Ho.RS <| HO144.out) (by decide)) hk (fun _ h => h.2)) (fun _ h => h.1)); have n7_ := Aside0.mk (KeepBut.trans (by exact Ho.kS HK.out) hk (.inl rfl)); have n8_ := Aside0.mk (hb); have n9_ := Aside0.mk (hi); clear BK101; clear HO104; clear HO110; clear HO116; clear BK120; clear HO123; clear HO144; clear HK; clear HB; clear HI0; have BK101 := n0_; have HO104 := n1_; have HO110 := n2_; have HO116 := n3_; have BK120 := n4_; have HO123 := n5_; have HO144 := n6_; have HK := n7_; have HB := n8_; have HI0 := n9_; clear n0_ n1_ n2_ n3_ n4_ n5_ n6_ n7_ n8_ n9_; (try clear hb); (try clear hb2); (try clear hk); (try clear hi); have hcz101_0 : w100.cell? ⟨gb120, 0, none⟩ = some (.int .i64 a1) := (blk_cell BK120.out 0).trans rfl; have hcz101_1 : w100.cell? ⟨gb120, 1, none⟩ = some (.int .i64 t105) := (blk_cell BK120.out 1).trans rfl; have hcz101_2 : w100.cell? ⟨gb120, 2, none⟩ = some (.int .i64 t111) := (blk_cell BK120.out 2).trans rfl; have hcz101_3 : w100.cell? ⟨gb120, 3, none⟩ = some (.int .i64 t124) := (blk_cell BK120.out 3).trans rfl; have hcz101_4 : w100.cell? ⟨gb120, 4, none⟩ = some (.int .i64 t117) := (blk_cell BK120.out 4).trans rfl; have hfz101_0 := blk_frozen BK120.out 0; have hfz101_1 := blk_frozen BK120.out 1; have hfz101_2 := blk_frozen BK120.out 2; have hfz101_3 := blk_frozen BK120.out 3; have hfz101_4 := blk_frozen BK120.out 4; have hnb102 := NB101_0.out; have hnc102 := NB0_101.out; have hcz103_0 : w100.cell? ⟨gb101, 0, none⟩ = some (.int .i64 0) := (blk_cell BK101.out 0).trans rfl; have hcz103_1 : w100.cell? ⟨gb101, 1, none⟩ = some (.int .i64 0) := (blk_cell BK101.out 1).trans rfl; have hcz103_2 : w100.cell? ⟨gb101, 2, none⟩ = some (.int .i64 0) := (blk_cell BK101.out 2).trans rfl; have hcz103_3 : w100.cell? ⟨gb101, 3, none⟩ = some (.int .i64 0) := (blk_cell BK101.out 3).trans rfl; have hcz103_4 : w100.cell? ⟨gb101, 4, none⟩ = some (.int .i64 0) := (blk_cell BK101.out 4).trans rfl; have hfz103_0 := blk_frozen BK101.out 0; have hfz103_1 := blk_frozen BK101.out 1; have hfz103_2 := blk_frozen BK101.out 2; have hfz103_3 := blk_frozen BK101.out 3; have hfz103_4 := blk_frozen BK101.out 4)) | ((guard_hyp WAY3 : True); ((with_reducible refine gate_callee (f := 81) rfl ?_); refine goesL_ (some 34) rfl rfl Try.func81 (by kernel_rfl) rfl #[.pointer (some ⟨g, 0, none⟩), .int .i64 70] rfl (by (try simp only [List.map_toArray, List.map_cons, List.map_nil]); first | done | rfl | (simp only [List.length_drop, List.length_take]; rfl)) ?_; (with_reducible refine (spec_l1Cur_pick.calls g s0_0 t125 t126 70 t127 t128 t129 w0 _ ?side1 ?side2 A7.out).mono ?_); (case side1 => repeat (first | (with_reducible first | exact HI0.out | apply IsS79.alloc | apply IsS79.drewN | apply IsS79.drew | apply IsS79.set_1 | apply IsS79.set_2 | refine IsS79.far ?_ NB0_101.out _ | refine IsS79.far ?_ NB0_120.out _) | exact HI0.out)); (case side2 => repeat (first | (with_reducible first | exact HB.out | apply below_alloc | apply pw_below_drewN | apply below_drew1 | refine below_set ?_ (IsS79.ge HI0.out) | refine below_set ?_ GE101.out | refine below_set ?_ GE120.out) | exact HB.out)); rintro e w128 ⟨rfl, hi, hb, hk⟩; refine ⟨_, rfl, ?_⟩; have n0_ := Aside0.mk (KeepBut.blk hk (g' := gb101) (o := .cells #[.int .i64 0, .int .i64 0, .int .i64 0, .int .i64 0, .int .i64 0] 25 (0, 0)) (by (with_reducible repeat (first | refine blk_drewN ?_ _ | refine blk_drew ?_ | refine blk_alloc ?_ _)); refine blk_far ?_ NB101_120.out _; exact bS BK101.out) NB101_0.out (by simp)); have n1_ := Aside0.mk (Kd.R_mono (Kd.R_keep (IsS79.apart (show IsS79 w0 _ g s0_0 t125 t126 from by repeat (first | (with_reducible first | exact HI0.out | apply IsS79.alloc | apply IsS79.drewN | apply IsS79.drew | apply IsS79.set_1 | apply IsS79.set_2 | refine IsS79.far ?_ NB0_101.out _ | refine IsS79.far ?_ NB0_120.out _) | exact HI0.out)) (by exact Ho.RS <| (Kd.R_mono (Kd.R_far (p := ⟨gb120, 3, none⟩) (Kd.R_types HO104.out BK120.out (by decide)) (fun _ hk => hk.2) (.int .i64 t124)) (fun _ h_ => h_.1))) (by decide)) hk (fun _ h => h.2)) (fun _ h => h.1)); have n2_ := Aside0.mk (Kd.R_mono (Kd.R_keep (IsS79.apart (show IsS79 w0 _ g s0_0 t125 t126 from by repeat (first | (with_reducible first | exact HI0.out | apply IsS79.alloc | apply IsS79.drewN | apply IsS79.drew | apply IsS79.set_1 | apply IsS79.set_2 | refine IsS79.far ?_ NB0_101.out _ | refine IsS79.far ?_ NB0_120.out _) | exact HI0.out)) (by exact Ho.RS <| (Kd.R_mono (Kd.R_far (p := ⟨gb120, 3, none⟩) (Kd.R_types HO110.out BK120.out (by decide)) (fun _ hk => hk.2) (.int .i64 t124)) (fun _ h_ => h_.1))) (by decide)) hk (fun _ h => h.2)) (fun _ h => h.1)); have n3_ := Aside0.mk (Kd.R_mono (Kd.R_keep (IsS79.apart (show IsS79 w0 _ g s0_0 t125 t126 from by repeat (first | (with_reducible first | exact HI0.out | apply IsS79.alloc | apply IsS79.drewN | apply IsS79.drew | apply IsS79.set_1 | apply IsS79.set_2 | refine IsS79.far ?_ NB0_101.out _ | refine IsS79.far ?_ NB0_120.out _) | exact HI0.out)) (by exact Ho.RS <| (Kd.R_mono (Kd.R_far (p := ⟨gb120, 3, none⟩) (Kd.R_types HO116.out BK120.out (by decide)) (fun _ hk => hk.2) (.int .i64 t124)) (fun _ h_ => h_.1))) (by decide)) hk (fun _ h => h.2)) (fun _ h => h.1)); have n4_ := Aside0.mk (KeepBut.blk hk (g' := gb120) (o := .cells #[.int .i64 a1, .int .i64 t105, .int .i64 t111, .int .i64 t124, .int .i64 t117] 25 (0, 0)) (by (with_reducible repeat (first | refine blk_drewN ?_ _ | refine blk_drew ?_ | refine blk_alloc ?_ _)); refine blk_put (cs := #[.int .i64 a1, .int .i64 t105, .int .i64 t111, .int .i64 0, .int .i64 t117]) ?_ 3 _ rfl; exact bS BK120.out) NB120_0.out (by simp)); have n5_ := Aside0.mk (Kd.R_mono (Kd.R_keep (IsS79.apart (show IsS79 w0 _ g s0_0 t125 t126 from by repeat (first | (with_reducible first | exact HI0.out | apply IsS79.alloc | apply IsS79.drewN | apply IsS79.drew | apply IsS79.set_1 | apply IsS79.set_2 | refine IsS79.far ?_ NB0_101.out _ | refine IsS79.far ?_ NB0_120.out _) | exact HI0.out)) (by exact Ho.RS <| (Kd.R_mono (Kd.R_far (p := ⟨gb120, 3, none⟩) (Kd.R_types HO123.out BK120.out (by decide)) (fun _ hk => hk.2) (.int .i64 t124)) (fun _ h_ => h_.1))) (by decide)) hk (fun _ h => h.2)) (fun _ h => h.1)); have n6_ := Aside0.mk (KeepBut.trans (by repeat (first | (with_reducible first | exact HK.out | apply KeepBut.set_ | apply keep_drewN | apply keep_drew | apply keep_alloc | refine keep_far ?_ GW101.out _ | refine keep_far ?_ GW120.out _) | exact HK.out)) hk (.inl rfl)); have n7_ := Aside0.mk (hb); have n8_ := Aside0.mk (hi); clear BK101; clear HO104; clear HO110; clear HO116; clear BK120; clear HO123; clear HK; clear HB; clear HI0; have BK101 := n0_; have HO104 := n1_; have HO110 := n2_; have HO116 := n3_; have BK120 := n4_; have HO123 := n5_; have HK := n6_; have HB := n7_; have HI0 := n8_; clear n0_ n1_ n2_ n3_ n4_ n5_ n6_ n7_ n8_; (try clear hb); (try clear hb2); (try clear hk); (try clear hi); have hcz129_0 : w128.cell? ⟨gb120, 0, none⟩ = some (.int .i64 a1) := (blk_cell BK120.out 0).trans rfl; have hcz129_1 : w128.cell? ⟨gb120, 1, none⟩ = some (.int .i64 t105) := (blk_cell BK120.out 1).trans rfl; have hcz129_2 : w128.cell? ⟨gb120, 2, none⟩ = some (.int .i64 t111) := (blk_cell BK120.out 2).trans rfl; have hcz129_3 : w128.cell? ⟨gb120, 3, none⟩ = some (.int .i64 t124) := (blk_cell BK120.out 3).trans rfl; have hcz129_4 : w128.cell? ⟨gb120, 4, none⟩ = some (.int .i64 t117) := (blk_cell BK120.out 4).trans rfl; have hfz129_0 := blk_frozen BK120.out 0; have hfz129_1 := blk_frozen BK120.out 1; have hfz129_2 := blk_frozen BK120.out 2; have hfz129_3 := blk_frozen BK120.out 3; have hfz129_4 := blk_frozen BK120.out 4)) | ((guard_hyp WAY3 : True); ((with_reducible refine gate_dst (N := 60) rfl ?_); refine Kd.R_lit (Kd.int .i64) _ 3 ?hg (N := 60) ?hd (xs := ([(-1), wrap64 ((wrap64 (2 * t111)) + 1)] : List Int)) (inner := [.int .i64 (-1), .int .i64 (wrap64 ((wrap64 (2 * t111)) + 1))]) (ok := fun _ => True) (okp := fun _ => True) ?hr ?hp (fun _ hk => hk) trivial (Below.refl _ _) (Nat.le_refl _) (by simp) ?_; (case hd => rfl); (case hg => rfl); (case hr => first | (go_simp; done) | (go_simp; rfl)); (case hp => exact (Reps.one (show Kd.M (Kd.int .i64) _ _ _ (-1) [.int .i64 (-1)] from rfl) (Reps.one (show Kd.M (Kd.int .i64) _ _ _ (wrap64 ((wrap64 (2 * t111)) + 1)) [.int .i64 (wrap64 ((wrap64 (2 * t111)) + 1))] from rfl) (Reps.none _ _)))); intro v149 w130 ho131 hb hg_ hnew_; clear hg_ hnew_; (first | rw [← Ny148.out] at ho131 | (simp only [Int.reduceToNat] at ho131; rw [← Ny148.out] at ho131)); have n0_ := Aside0.mk (Kd.R_elder' (by exact Ho.RS <| HO104.out) (Kd.R_base ho131) hb); have n1_ := Aside0.mk (Kd.R_elder' (by exact Ho.RS <| HO110.out) (Kd.R_base ho131) hb); have n2_ := Aside0.mk (Kd.R_elder' (by exact Ho.RS <| HO116.out) (Kd.R_base ho131) hb); have n3_ := Aside0.mk (Kd.R_elder' (by exact Ho.RS <| HO123.out) (Kd.R_base ho131) hb); have n4_ := Aside0.mk (Kd.R_lower (Kd.R_new' (Kd.R_new' (Kd.R_new' (Kd.R_new' ho131 (Kd.R_lt (by exact Ho.RS <| HO104.out))) (Kd.R_lt (by exact Ho.RS <| HO110.out))) (Kd.R_lt (by exact Ho.RS <| HO116.out))) (Kd.R_lt (by exact Ho.RS <| HO123.out))) (keep_size (w := w) (g := g) (row := none) (by exact Ho.kS HK.out))); have n5_ := Aside0.mk (IsS79.below (by exact IsS79.below HI0.out Ho.Steps.below) hb); have n6_ := Aside0.mk (blk_below (bS BK101.out) hb); have n7_ := Aside0.mk (blk_below (bS BK120.out) hb); have n8_ := Aside0.mk (KeepBut.trans (by exact Ho.kS HK.out) (KeepBut.of_below hb g none) (.inl rfl)); have n9_ := Aside0.mk (below_step (by exact eS HB.out) hb); clear HO104; clear HO110; clear HO116; clear HO123; clear HI0; clear BK101; clear BK120; clear HK; clear HB; have HO104 := n0_; have HO110 := n1_; have HO116 := n2_; have HO123 := n3_; have HO150 := n4_; have HI0 := n5_; have BK101 := n6_; have BK120 := n7_; have HK := n8_; have HB := n9_; clear n0_ n1_ n2_ n3_ n4_ n5_ n6_ n7_ n8_ n9_; clear hb ho131; obtain ⟨Ao132, co132, eo132⟩ := Kd.R_slice HO150.out; subst eo132)) | ((guard_hyp WAY3 : True); ((with_reducible refine gate_callee (f := 80) rfl ?_); refine goesL_ (some 61) rfl rfl Try.func80 (by kernel_rfl) rfl #[.pointer (some ⟨g, 0, none⟩), .slice Ao132 y148.length co132] rfl (by (try simp only [List.map_toArray, List.map_cons, List.map_nil]); first | done | rfl | (simp only [List.length_drop, List.length_take]; rfl)) ?_; (with_reducible refine (spec_l1Cur_among.calls g s0_0 t128 t129 _ _ y148 t151 t152 t153 w0 _ ?side1 ?side2 ?side3 ?side4 ?side5 A105.out).mono ?_); (case side1 => exact IsS79.below HI0.out Ho.Steps.below); (case side2 => exact eS HB.out); (case side3 => repeat (first | exact (Kd.R_reads' HO150.out).2.2 | (with_reducible refine Kd.C_alloc ?_ _) | (with_reducible refine Kd.C_drewN ?_ _) | (with_reducible refine Kd.C_drew ?_))); (case side4 => exact (Kd.R_reads' HO150.out).2.1); (case side5 => exact far_slice (IsS79.own_ne HI0.out HO150.out (by decide))); rintro e w133 ⟨rfl, hi, hb, hk⟩; refine ⟨_, rfl, ?_⟩; have n0_ := Aside0.mk (KeepBut.blk hk (bS BK101.out) NB101_0.out (by simp)); have n1_ := Aside0.mk (Kd.R_mono (Kd.R_keep (IsS79.apart (show IsS79 w0 _ g s0_0 t128 t129 from by exact IsS79.below HI0.out Ho.Steps.below) (by exact Ho.RS <| HO104.out) (by decide)) hk (fun _ h => h.2)) (fun _ h => h.1)); have n2_ := Aside0.mk (Kd.R_mono (Kd.R_keep (IsS79.apart (show IsS79 w0 _ g s0_0 t128 t129 from by exact IsS79.below HI0.out Ho.Steps.below) (by exact Ho.RS <| HO110.out) (by decide)) hk (fun _ h => h.2)) (fun _ h => h.1)); have n3_ := Aside0.mk (Kd.R_mono (Kd.R_keep (IsS79.apart (show IsS79 w0 _ g s0_0 t128 t129 from by exact IsS79.below HI0.out Ho.Steps.below) (by exact Ho.RS <| HO116.out) (by decide)) hk (fun _ h => h.2)) (fun _ h => h.1)); have n4_ := Aside0.mk (KeepBut.blk hk (bS BK120.out) NB120_0.out (by simp)); have n5_ := Aside0.mk (Kd.R_mono (Kd.R_keep (IsS79.apart (show IsS79 w0 _ g s0_0 t128 t129 from by exact IsS79.below HI0.out Ho.Steps.below) (by exact Ho.RS <| HO123.out) (by decide)) hk (fun _ h => h.2)) (fun _ h => h.1)); have n6_ := Aside0.mk (Kd.R_mono (Kd.R_keep (IsS79.apart (show IsS79 w0 _ g s0_0 t128 t129 from by exact IsS79.below HI0.out Ho.Steps.below) (by exact Ho.RS <| HO150.out) (by decide)) hk (fun _ h => h.2)) (fun _ h => h.1)); have n7_ := Aside0.mk (KeepBut.trans (by exact Ho.kS HK.out) hk (.inl rfl)); have n8_ := Aside0.mk (hb); have n9_ := Aside0.mk (hi); clear BK101; clear HO104; clear HO110; clear HO116; clear BK120; clear HO123; clear HO150; clear HK; clear HB; clear HI0; have BK101 := n0_; have HO104 := n1_; have HO110 := n2_; have HO116 := n3_; have BK120 := n4_; have HO123 := n5_; have HO150 := n6_; have HK := n7_; have HB := n8_; have HI0 := n9_; clear n0_ n1_ n2_ n3_ n4_ n5_ n6_ n7_ n8_ n9_; (try clear hb); (try clear hb2); (try clear hk); (try clear hi); have hcz134_0 : w133.cell? ⟨gb120, 0, none⟩ = some (.int .i64 a1) := (blk_cell BK120.out 0).trans rfl; have hcz134_1 : w133.cell? ⟨gb120, 1, none⟩ = some (.int .i64 t105) := (blk_cell BK120.out 1).trans rfl; have hcz134_2 : w133.cell? ⟨gb120, 2, none⟩ = some (.int .i64 t111) := (blk_cell BK120.out 2).trans rfl; have hcz134_3 : w133.cell? ⟨gb120, 3, none⟩ = some (.int .i64 t124) := (blk_cell BK120.out 3).trans rfl; have hcz134_4 : w133.cell? ⟨gb120, 4, none⟩ = some (.int .i64 t117) := (blk_cell BK120.out 4).trans rfl; have hfz134_0 := blk_frozen BK120.out 0; have hfz134_1 := blk_frozen BK120.out 1; have hfz134_2 := blk_frozen BK120.out 2; have hfz134_3 := blk_frozen BK120.out 3; have hfz134_4 := blk_frozen BK120.out 4; have hnb135 := NB101_0.out; have hnc135 := NB0_101.out; have hcz136_0 : w133.cell? ⟨gb101, 0, none⟩ = some (.int .i64 0) := (blk_cell BK101.out 0).trans rfl; have hcz136_1 : w133.cell? ⟨gb101, 1, none⟩ = some (.int .i64 0) := (blk_cell BK101.out 1).trans rfl; have hcz136_2 : w133.cell? ⟨gb101, 2, none⟩ = some (.int .i64 0) := (blk_cell BK101.out 2).trans rfl; have hcz136_3 : w133.cell? ⟨gb101, 3, none⟩ = some (.int .i64 0) := (blk_cell BK101.out 3).trans rfl; have hcz136_4 : w133.cell? ⟨gb101, 4, none⟩ = some (.int .i64 0) := (blk_cell BK101.out 4).trans rfl; have hfz136_0 := blk_frozen BK101.out 0; have hfz136_1 := blk_frozen BK101.out 1; have hfz136_2 := blk_frozen BK101.out 2; have hfz136_3 := blk_frozen BK101.out 3; have hfz136_4 := blk_frozen BK101.out 4)) | ((guard_hyp WAY4 : True); ((with_reducible refine gate_dst (N := 66) rfl ?_); refine Kd.R_lit (Kd.int .i64) _ 3 ?hg (N := 66) ?hd (xs := ([19, 301] : List Int)) (inner := [.int .i64 19, .int .i64 301]) (ok := fun _ => True) (okp := fun _ => True) ?hr ?hp (fun _ hk => hk) trivial (Below.refl _ _) (Nat.le_refl _) (by simp) ?_; (case hd => rfl); (case hg => rfl); (case hr => first | (go_simp; done) | (go_simp; rfl)); (case hp => exact (Reps.one (show Kd.M (Kd.int .i64) _ _ _ 19 [.int .i64 19] from rfl) (Reps.one (show Kd.M (Kd.int .i64) _ _ _ 301 [.int .i64 301] from rfl) (Reps.none _ _)))); intro v155 w162 ho163 hb hg_ hnew_; clear hg_ hnew_; (first | rw [← Ny154.out] at ho163 | (simp only [Int.reduceToNat] at ho163; rw [← Ny154.out] at ho163)); have n0_ := Aside0.mk (Kd.R_elder' (by exact Ho.RS <| HO104.out) (Kd.R_base ho163) hb); have n1_ := Aside0.mk (Kd.R_elder' (by exact Ho.RS <| HO110.out) (Kd.R_base ho163) hb); have n2_ := Aside0.mk (Kd.R_elder' (by exact Ho.RS <| HO116.out) (Kd.R_base ho163) hb); have n3_ := Aside0.mk (Kd.R_elder' (by exact Ho.RS <| HO123.out) (Kd.R_base ho163) hb); have n4_ := Aside0.mk (Kd.R_lower (Kd.R_new' (Kd.R_new' (Kd.R_new' (Kd.R_new' ho163 (Kd.R_lt (by exact Ho.RS <| HO104.out))) (Kd.R_lt (by exact Ho.RS <| HO110.out))) (Kd.R_lt (by exact Ho.RS <| HO116.out))) (Kd.R_lt (by exact Ho.RS <| HO123.out))) (keep_size (w := w) (g := g) (row := none) (by exact Ho.kS HK.out))); have n5_ := Aside0.mk (IsS79.below (by exact IsS79.below HI0.out Ho.Steps.below) hb); have n6_ := Aside0.mk (blk_below (bS BK101.out) hb); have n7_ := Aside0.mk (blk_below (bS BK120.out) hb); have n8_ := Aside0.mk (KeepBut.trans (by exact Ho.kS HK.out) (KeepBut.of_below hb g none) (.inl rfl)); have n9_ := Aside0.mk (below_step (by exact eS HB.out) hb); clear HO104; clear HO110; clear HO116; clear HO123; clear HI0; clear BK101; clear BK120; clear HK; clear HB; have HO104 := n0_; have HO110 := n1_; have HO116 := n2_; have HO123 := n3_; have HO156 := n4_; have HI0 := n5_; have BK101 := n6_; have BK120 := n7_; have HK := n8_; have HB := n9_; clear n0_ n1_ n2_ n3_ n4_ n5_ n6_ n7_ n8_ n9_; clear hb ho163; obtain ⟨Ao164, co164, eo164⟩ := Kd.R_slice HO156.out; subst eo164)) | ((guard_hyp WAY4 : True); ((with_reducible refine gate_callee (f := 80) rfl ?_); refine goesL_ (some 67) rfl rfl Try.func80 (by kernel_rfl) rfl #[.pointer (some ⟨g, 0, none⟩), .slice Ao164 y154.length co164] rfl (by (try simp only [List.map_toArray, List.map_cons, List.map_nil]); first | done | rfl | (simp only [List.length_drop, List.length_take]; rfl)) ?_; (with_reducible refine (spec_l1Cur_among.calls g s0_0 t128 t129 _ _ y154 t157 t158 t159 w0 _ ?side1 ?side2 ?side3 ?side4 ?side5 A138.out).mono ?_); (case side1 => exact IsS79.below HI0.out Ho.Steps.below); (case side2 => exact eS HB.out); (case side3 => repeat (first | exact (Kd.R_reads' HO156.out).2.2 | (with_reducible refine Kd.C_alloc ?_ _) | (with_reducible refine Kd.C_drewN ?_ _) | (with_reducible refine Kd.C_drew ?_))); (case side4 => exact (Kd.R_reads' HO156.out).2.1); (case side5 => exact far_slice (IsS79.own_ne HI0.out HO156.out (by decide))); rintro e w165 ⟨rfl, hi, hb, hk⟩; refine ⟨_, rfl, ?_⟩; have n0_ := Aside0.mk (KeepBut.blk hk (bS BK101.out) NB101_0.out (by simp)); have n1_ := Aside0.mk (Kd.R_mono (Kd.R_keep (IsS79.apart (show IsS79 w0 _ g s0_0 t128 t129 from by exact IsS79.below HI0.out Ho.Steps.below) (by exact Ho.RS <| HO104.out) (by decide)) hk (fun _ h => h.2)) (fun _ h => h.1)); have n2_ := Aside0.mk (Kd.R_mono (Kd.R_keep (IsS79.apart (show IsS79 w0 _ g s0_0 t128 t129 from by exact IsS79.below HI0.out Ho.Steps.below) (by exact Ho.RS <| HO110.out) (by decide)) hk (fun _ h => h.2)) (fun _ h => h.1)); have n3_ := Aside0.mk (Kd.R_mono (Kd.R_keep (IsS79.apart (show IsS79 w0 _ g s0_0 t128 t129 from by exact IsS79.below HI0.out Ho.Steps.below) (by exact Ho.RS <| HO116.out) (by decide)) hk (fun _ h => h.2)) (fun _ h => h.1)); have n4_ := Aside0.mk (KeepBut.blk hk (bS BK120.out) NB120_0.out (by simp)); have n5_ := Aside0.mk (Kd.R_mono (Kd.R_keep (IsS79.apart (show IsS79 w0 _ g s0_0 t128 t129 from by exact IsS79.below HI0.out Ho.Steps.below) (by exact Ho.RS <| HO123.out) (by decide)) hk (fun _ h => h.2)) (fun _ h => h.1)); have n6_ := Aside0.mk (Kd.R_mono (Kd.R_keep (IsS79.apart (show IsS79 w0 _ g s0_0 t128 t129 from by exact IsS79.below HI0.out Ho.Steps.below) (by exact Ho.RS <| HO156.out) (by decide)) hk (fun _ h => h.2)) (fun _ h => h.1)); have n7_ := Aside0.mk (KeepBut.trans (by exact Ho.kS HK.out) hk (.inl rfl)); have n8_ := Aside0.mk (hb); have n9_ := Aside0.mk (hi); clear BK101; clear HO104; clear HO110; clear HO116; clear BK120; clear HO123; clear HO156; clear HK; clear HB; clear HI0; have BK101 := n0_; have HO104 := n1_; have HO110 := n2_; have HO116 := n3_; have BK120 := n4_; have HO123 := n5_; have HO156 := n6_; have HK := n7_; have HB := n8_; have HI0 := n9_; clear n0_ n1_ n2_ n3_ n4_ n5_ n6_ n7_ n8_ n9_; (try clear hb); (try clear hb2); (try clear hk); (try clear hi); have hcz166_0 : w165.cell? ⟨gb120, 0, none⟩ = some (.int .i64 a1) := (blk_cell BK120.out 0).trans rfl; have hcz166_1 : w165.cell? ⟨gb120, 1, none⟩ = some (.int .i64 t105) := (blk_cell BK120.out 1).trans rfl; have hcz166_2 : w165.cell? ⟨gb120, 2, none⟩ = some (.int .i64 t111) := (blk_cell BK120.out 2).trans rfl; have hcz166_3 : w165.cell? ⟨gb120, 3, none⟩ = some (.int .i64 t124) := (blk_cell BK120.out 3).trans rfl; have hcz166_4 : w165.cell? ⟨gb120, 4, none⟩ = some (.int .i64 t117) := (blk_cell BK120.out 4).trans rfl; have hfz166_0 := blk_frozen BK120.out 0; have hfz166_1 := blk_frozen BK120.out 1; have hfz166_2 := blk_frozen BK120.out 2; have hfz166_3 := blk_frozen BK120.out 3; have hfz166_4 := blk_frozen BK120.out 4; have hnb167 := NB101_0.out; have hnc167 := NB0_101.out; have hcz168_0 : w165.cell? ⟨gb101, 0, none⟩ = some (.int .i64 0) := (blk_cell BK101.out 0).trans rfl; have hcz168_1 : w165.cell? ⟨gb101, 1, none⟩ = some (.int .i64 0) := (blk_cell BK101.out 1).trans rfl; have hcz168_2 : w165.cell? ⟨gb101, 2, none⟩ = some (.int .i64 0) := (blk_cell BK101.out 2).trans rfl; have hcz168_3 : w165.cell? ⟨gb101, 3, none⟩ = some (.int .i64 0) := (blk_cell BK101.out 3).trans rfl; have hcz168_4 : w165.cell? ⟨gb101, 4, none⟩ = some (.int .i64 0) := (blk_cell BK101.out 4).trans rfl; have hfz168_0 := blk_frozen BK101.out 0; have hfz168_1 := blk_frozen BK101.out 1; have hfz168_2 := blk_frozen BK101.out 2; have hfz168_3 := blk_frozen BK101.out 3; have hfz168_4 := blk_frozen BK101.out 4)) | ((guard_hyp WAY5 : True); ((with_reducible refine gate_callee (f := 81) rfl ?_); refine goesL_ (some 34) rfl rfl Try.func81 (by kernel_rfl) rfl #[.pointer (some ⟨g, 0, none⟩), .int .i64 70] rfl (by (try simp only [List.map_toArray, List.map_cons, List.map_nil]); first | done | rfl | (simp only [List.length_drop, List.length_take]; rfl)) ?_; (with_reducible refine (spec_l1Cur_pick.calls g s0_0 t125 t126 70 t127 t128 t129 w0 _ ?side1 ?side2 A7.out).mono ?_); (case side1 => repeat (first | (with_reducible first | exact HI0.out | apply IsS79.alloc | apply IsS79.drewN | apply IsS79.drew | apply IsS79.set_1 | apply IsS79.set_2 | refine IsS79.far ?_ NB0_101.out _ | refine IsS79.far ?_ NB0_120.out _) | exact HI0.out)); (case side2 => repeat (first | (with_reducible first | exact HB.out | apply below_alloc | apply pw_below_drewN | apply below_drew1 | refine below_set ?_ (IsS79.ge HI0.out) | refine below_set ?_ GE101.out | refine below_set ?_ GE120.out) | exact HB.out)); rintro e w191 ⟨rfl, hi, hb, hk⟩; refine ⟨_, rfl, ?_⟩; have n0_ := Aside0.mk (KeepBut.blk hk (g' := gb101) (o := .cells #[.int .i64 0, .int .i64 0, .int .i64 0, .int .i64 0, .int .i64 0] 25 (0, 0)) (by (with_reducible repeat (first | refine blk_drewN ?_ _ | refine blk_drew ?_ | refine blk_alloc ?_ _)); refine blk_far ?_ NB101_120.out _; exact bS BK101.out) NB101_0.out (by simp)); have n1_ := Aside0.mk (Kd.R_mono (Kd.R_keep (IsS79.apart (show IsS79 w0 _ g s0_0 t125 t126 from by repeat (first | (with_reducible first | exact HI0.out | apply IsS79.alloc | apply IsS79.drewN | apply IsS79.drew | apply IsS79.set_1 | apply IsS79.set_2 | refine IsS79.far ?_ NB0_101.out _ | refine IsS79.far ?_ NB0_120.out _) | exact HI0.out)) (by exact Ho.RS <| (Kd.R_mono (Kd.R_far (p := ⟨gb120, 3, none⟩) (Kd.R_types HO104.out BK120.out (by decide)) (fun _ hk => hk.2) (.int .i64 t124)) (fun _ h_ => h_.1))) (by decide)) hk (fun _ h => h.2)) (fun _ h => h.1)); have n2_ := Aside0.mk (Kd.R_mono (Kd.R_keep (IsS79.apart (show IsS79 w0 _ g s0_0 t125 t126 from by repeat (first | (with_reducible first | exact HI0.out | apply IsS79.alloc | apply IsS79.drewN | apply IsS79.drew | apply IsS79.set_1 | apply IsS79.set_2 | refine IsS79.far ?_ NB0_101.out _ | refine IsS79.far ?_ NB0_120.out _) | exact HI0.out)) (by exact Ho.RS <| (Kd.R_mono (Kd.R_far (p := ⟨gb120, 3, none⟩) (Kd.R_types HO110.out BK120.out (by decide)) (fun _ hk => hk.2) (.int .i64 t124)) (fun _ h_ => h_.1))) (by decide)) hk (fun _ h => h.2)) (fun _ h => h.1)); have n3_ := Aside0.mk (Kd.R_mono (Kd.R_keep (IsS79.apart (show IsS79 w0 _ g s0_0 t125 t126 from by repeat (first | (with_reducible first | exact HI0.out | apply IsS79.alloc | apply IsS79.drewN | apply IsS79.drew | apply IsS79.set_1 | apply IsS79.set_2 | refine IsS79.far ?_ NB0_101.out _ | refine IsS79.far ?_ NB0_120.out _) | exact HI0.out)) (by exact Ho.RS <| (Kd.R_mono (Kd.R_far (p := ⟨gb120, 3, none⟩) (Kd.R_types HO116.out BK120.out (by decide)) (fun _ hk => hk.2) (.int .i64 t124)) (fun _ h_ => h_.1))) (by decide)) hk (fun _ h => h.2)) (fun _ h => h.1)); have n4_ := Aside0.mk (KeepBut.blk hk (g' := gb120) (o := .cells #[.int .i64 a1, .int .i64 t105, .int .i64 t111, .int .i64 t124, .int .i64 t117] 25 (0, 0)) (by (with_reducible repeat (first | refine blk_drewN ?_ _ | refine blk_drew ?_ | refine blk_alloc ?_ _)); refine blk_put (cs := #[.int .i64 a1, .int .i64 t105, .int .i64 t111, .int .i64 0, .int .i64 t117]) ?_ 3 _ rfl; exact bS BK120.out) NB120_0.out (by simp)); have n5_ := Aside0.mk (Kd.R_mono (Kd.R_keep (IsS79.apart (show IsS79 w0 _ g s0_0 t125 t126 from by repeat (first | (with_reducible first | exact HI0.out | apply IsS79.alloc | apply IsS79.drewN | apply IsS79.drew | apply IsS79.set_1 | apply IsS79.set_2 | refine IsS79.far ?_ NB0_101.out _ | refine IsS79.far ?_ NB0_120.out _) | exact HI0.out)) (by exact Ho.RS <| (Kd.R_mono (Kd.R_far (p := ⟨gb120, 3, none⟩) (Kd.R_types HO123.out BK120.out (by decide)) (fun _ hk => hk.2) (.int .i64 t124)) (fun _ h_ => h_.1))) (by decide)) hk (fun _ h => h.2)) (fun _ h => h.1)); have n6_ := Aside0.mk (KeepBut.trans (by repeat (first | (with_reducible first | exact HK.out | apply KeepBut.set_ | apply keep_drewN | apply keep_drew | apply keep_alloc | refine keep_far ?_ GW101.out _ | refine keep_far ?_ GW120.out _) | exact HK.out)) hk (.inl rfl)); have n7_ := Aside0.mk (hb); have n8_ := Aside0.mk (hi); clear BK101; clear HO104; clear HO110; clear HO116; clear BK120; clear HO123; clear HK; clear HB; clear HI0; have BK101 := n0_; have HO104 := n1_; have HO110 := n2_; have HO116 := n3_; have BK120 := n4_; have HO123 := n5_; have HK := n6_; have HB := n7_; have HI0 := n8_; clear n0_ n1_ n2_ n3_ n4_ n5_ n6_ n7_ n8_; (try clear hb); (try clear hb2); (try clear hk); (try clear hi); have hcz192_0 : w191.cell? ⟨gb120, 0, none⟩ = some (.int .i64 a1) := (blk_cell BK120.out 0).trans rfl; have hcz192_1 : w191.cell? ⟨gb120, 1, none⟩ = some (.int .i64 t105) := (blk_cell BK120.out 1).trans rfl; have hcz192_2 : w191.cell? ⟨gb120, 2, none⟩ = some (.int .i64 t111) := (blk_cell BK120.out 2).trans rfl; have hcz192_3 : w191.cell? ⟨gb120, 3, none⟩ = some (.int .i64 t124) := (blk_cell BK120.out 3).trans rfl; have hcz192_4 : w191.cell? ⟨gb120, 4, none⟩ = some (.int .i64 t117) := (blk_cell BK120.out 4).trans rfl; have hfz192_0 := blk_frozen BK120.out 0; have hfz192_1 := blk_frozen BK120.out 1; have hfz192_2 := blk_frozen BK120.out 2; have hfz192_3 := blk_frozen BK120.out 3; have hfz192_4 := blk_frozen BK120.out 4; have hnb193 := NB101_0.out; have hnc193 := NB0_101.out; have hcz194_0 : w191.cell? ⟨gb101, 0, none⟩ = some (.int .i64 0) := (blk_cell BK101.out 0).trans rfl; have hcz194_1 : w191.cell? ⟨gb101, 1, none⟩ = some (.int .i64 0) := (blk_cell BK101.out 1).trans rfl; have hcz194_2 : w191.cell? ⟨gb101, 2, none⟩ = some (.int .i64 0) := (blk_cell BK101.out 2).trans rfl; have hcz194_3 : w191.cell? ⟨gb101, 3, none⟩ = some (.int .i64 0) := (blk_cell BK101.out 3).trans rfl; have hcz194_4 : w191.cell? ⟨gb101, 4, none⟩ = some (.int .i64 0) := (blk_cell BK101.out 4).trans rfl; have hfz194_0 := blk_frozen BK101.out 0; have hfz194_1 := blk_frozen BK101.out 1; have hfz194_2 := blk_frozen BK101.out 2; have hfz194_3 := blk_frozen BK101.out 3; have hfz194_4 := blk_frozen BK101.out 4)))
 ·refine bodyPost_ret (results_cell_row rfl _ _ gb101 25 #[.int .i64 t133, .int .i64 t105, .int .i64 t111, .int .i64 t124, .int .i64 t117] (0, 0) _ rfl (by (with_reducible repeat (first | refine blk_drewN ?_ _ | refine blk_drew ?_ | refine blk_alloc ?_ _)); refine blk_put (cs := #[.int .i64 t133, .int .i64 t105, .int .i64 t111, .int .i64 t124, .int .i64 0]) ?_ 4 _ rfl; (with_reducible repeat (first | refine blk_drewN ?_ _ | refine blk_drew ?_ | refine blk_alloc ?_ _)); refine blk_put (cs := #[.int .i64 t133, .int .i64 t105, .int .i64 t111, .int .i64 0, .int .i64 0]) ?_ 3 _ rfl; (with_reducible repeat (first | refine blk_drewN ?_ _ | refine blk_drew ?_ | refine blk_alloc ?_ _)); refine blk_put (cs := #[.int .i64 t133, .int .i64 t105, .int .i64 0, .int .i64 0, .int .i64 0]) ?_ 2 _ rfl; (with_reducible repeat (first | refine blk_drewN ?_ _ | refine blk_drew ?_ | refine blk_alloc ?_ _)); refine blk_put (cs := #[.int .i64 t133, .int .i64 0, .int .i64 0, .int .i64 0, .int .i64 0]) ?_ 1 _ rfl; (with_reducible repeat (first | refine blk_drewN ?_ _ | refine blk_drew ?_ | refine blk_alloc ?_ _)); refine blk_put (cs := #[.int .i64 0, .int .i64 0, .int .i64 0, .int .i64 0, .int .i64 0]) ?_ 0 _ rfl; (with_reducible repeat (first | refine blk_drewN ?_ _ | refine blk_drew ?_ | refine blk_alloc ?_ _)); refine blk_far ?_ NB101_120.out _; exact bS BK101.out) Try.underlying25 rfl (by kernel_rfl)) rfl ?_
  exact ⟨by first | rfl | (simp [errW_none, errW_some] <;> rfl) | (simp [*, errW_none, errW_some] <;> rfl), by repeat (first | (with_reducible first | exact HI0.out | apply IsS79.alloc | apply IsS79.drewN | apply IsS79.drew | apply IsS79.set_1 | apply IsS79.set_2 | refine IsS79.far ?_ NB0_101.out _ | refine IsS79.far ?_ NB0_120.out _) | exact HI0.out), by repeat (first | (with_reducible first | exact HB.out | apply below_alloc | apply pw_below_drewN | apply below_drew1 | refine below_set ?_ (IsS79.ge HI0.out) | refine below_set ?_ GE101.out | refine below_set ?_ GE120.out) | exact HB.out), by repeat (first | (with_reducible first | exact HK.out | apply KeepBut.set_ | apply keep_drewN | apply keep_drew | apply keep_alloc | refine keep_far ?_ GW101.out _ | refine keep_far ?_ GW120.out _) | exact HK.out)⟩
 ·refine bodyPost_ret (results_cell_row rfl _ _ gb101 25 #[.int .i64 a1, .int .i64 t139, .int .i64 t111, .int .i64 t124, .int .i64 t117] (0, 0) _ rfl (by (with_reducible repeat (first | refine blk_drewN ?_ _ | refine blk_drew ?_ | refine blk_alloc ?_ _)); refine blk_put (cs := #[.int .i64 a1, .int .i64 t139, .int .i64 t111, .int .i64 t124, .int .i64 0]) ?_ 4 _ rfl; (with_reducible repeat (first | refine blk_drewN ?_ _ | refine blk_drew ?_ | refine blk_alloc ?_ _)); refine blk_put (cs := #[.int .i64 a1, .int .i64 t139, .int .i64 t111, .int .i64 0, .int .i64 0]) ?_ 3 _ rfl; (with_reducible repeat (first | refine blk_drewN ?_ _ | refine blk_drew ?_ | refine blk_alloc ?_ _)); refine blk_put (cs := #[.int .i64 a1, .int .i64 t139, .int .i64 0, .int .i64 0, .int .i64 0]) ?_ 2 _ rfl; (with_reducible repeat (first | refine blk_drewN ?_ _ | refine blk_drew ?_ | refine blk_alloc ?_ _)); refine blk_put (cs := #[.int .i64 a1, .int .i64 0, .int .i64 0, .int .i64 0, .int .i64 0]) ?_ 1 _ rfl; (with_reducible repeat (first | refine blk_drewN ?_ _ | refine blk_drew ?_ | refine blk_alloc ?_ _)); refine blk_put (cs := #[.int .i64 0, .int .i64 0, .int .i64 0, .int .i64 0, .int .i64 0]) ?_ 0 _ rfl; (with_reducible repeat (first | refine blk_drewN ?_ _ | refine blk_drew ?_ | refine blk_alloc ?_ _)); refine blk_far ?_ NB101_120.out _; exact bS BK101.out) Try.underlying25 rfl (by kernel_rfl)) rfl ?_
  exact ⟨by first | rfl | (simp [errW_none, errW_some] <;> rfl) | (simp [*, errW_none, errW_some] <;> rfl), by repeat (first | (with_reducible first | exact HI0.out | apply IsS79.alloc | apply IsS79.drewN | apply IsS79.drew | apply IsS79.set_1 | apply IsS79.set_2 | refine IsS79.far ?_ NB0_101.out _ | refine IsS79.far ?_ NB0_120.out _) | exact HI0.out), by repeat (first | (with_reducible first | exact HB.out | apply below_alloc | apply pw_below_drewN | apply below_drew1 | refine below_set ?_ (IsS79.ge HI0.out) | refine below_set ?_ GE101.out | refine below_set ?_ GE120.out) | exact HB.out), by repeat (first | (with_reducible first | exact HK.out | apply KeepBut.set_ | apply keep_drewN | apply keep_drew | apply keep_alloc | refine keep_far ?_ GW101.out _ | refine keep_far ?_ GW120.out _) | exact HK.out)⟩
 ·refine bodyPost_ret (results_cell_row rfl _ _ gb101 25 #[.int .i64 a1, .int .i64 t105, .int .i64 t145, .int .i64 t124, .int .i64 t117] (0, 0) _ rfl (by (with_reducible repeat (first | refine blk_drewN ?_ _ | refine blk_drew ?_ | refine blk_alloc ?_ _)); refine blk_put (cs := #[.int .i64 a1, .int .i64 t105, .int .i64 t145, .int .i64 t124, .int .i64 0]) ?_ 4 _ rfl; (with_reducible repeat (first | refine blk_drewN ?_ _ | refine blk_drew ?_ | refine blk_alloc ?_ _)); refine blk_put (cs := #[.int .i64 a1, .int .i64 t105, .int .i64 t145, .int .i64 0, .int .i64 0]) ?_ 3 _ rfl; (with_reducible repeat (first | refine blk_drewN ?_ _ | refine blk_drew ?_ | refine blk_alloc ?_ _)); refine blk_put (cs := #[.int .i64 a1, .int .i64 t105, .int .i64 0, .int .i64 0, .int .i64 0]) ?_ 2 _ rfl; (with_reducible repeat (first | refine blk_drewN ?_ _ | refine blk_drew ?_ | refine blk_alloc ?_ _)); refine blk_put (cs := #[.int .i64 a1, .int .i64 0, .int .i64 0, .int .i64 0, .int .i64 0]) ?_ 1 _ rfl; (with_reducible repeat (first | refine blk_drewN ?_ _ | refine blk_drew ?_ | refine blk_alloc ?_ _)); refine blk_put (cs := #[.int .i64 0, .int .i64 0, .int .i64 0, .int .i64 0, .int .i64 0]) ?_ 0 _ rfl; (with_reducible repeat (first | refine blk_drewN ?_ _ | refine blk_drew ?_ | refine blk_alloc ?_ _)); refine blk_far ?_ NB101_120.out _; exact bS BK101.out) Try.underlying25 rfl (by kernel_rfl)) rfl ?_
  exact ⟨by first | rfl | (simp [errW_none, errW_some] <;> rfl) | (simp [*, errW_none, errW_some] <;> rfl), by repeat (first | (with_reducible first | exact HI0.out | apply IsS79.alloc | apply IsS79.drewN | apply IsS79.drew | apply IsS79.set_1 | apply IsS79.set_2 | refine IsS79.far ?_ NB0_101.out _ | refine IsS79.far ?_ NB0_120.out _) | exact HI0.out), by repeat (first | (with_reducible first | exact HB.out | apply below_alloc | apply pw_below_drewN | apply below_drew1 | refine below_set ?_ (IsS79.ge HI0.out) | refine below_set ?_ GE101.out | refine below_set ?_ GE120.out) | exact HB.out), by repeat (first | (with_reducible first | exact HK.out | apply KeepBut.set_ | apply keep_drewN | apply keep_drew | apply keep_alloc | refine keep_far ?_ GW101.out _ | refine keep_far ?_ GW120.out _) | exact HK.out)⟩
 ·refine bodyPost_ret (results_cell_row rfl _ _ gb101 25 #[.int .i64 a1, .int .i64 t105, .int .i64 t111, .int .i64 t151, .int .i64 t117] (0, 0) _ rfl (by (with_reducible repeat (first | refine blk_drewN ?_ _ | refine blk_drew ?_ | refine blk_alloc ?_ _)); refine blk_put (cs := #[.int .i64 a1, .int .i64 t105, .int .i64 t111, .int .i64 t151, .int .i64 0]) ?_ 4 _ rfl; (with_reducible repeat (first | refine blk_drewN ?_ _ | refine blk_drew ?_ | refine blk_alloc ?_ _)); refine blk_put (cs := #[.int .i64 a1, .int .i64 t105, .int .i64 t111, .int .i64 0, .int .i64 0]) ?_ 3 _ rfl; (with_reducible repeat (first | refine blk_drewN ?_ _ | refine blk_drew ?_ | refine blk_alloc ?_ _)); refine blk_put (cs := #[.int .i64 a1, .int .i64 t105, .int .i64 0, .int .i64 0, .int .i64 0]) ?_ 2 _ rfl; (with_reducible repeat (first | refine blk_drewN ?_ _ | refine blk_drew ?_ | refine blk_alloc ?_ _)); refine blk_put (cs := #[.int .i64 a1, .int .i64 0, .int .i64 0, .int .i64 0, .int .i64 0]) ?_ 1 _ rfl; (with_reducible repeat (first | refine blk_drewN ?_ _ | refine blk_drew ?_ | refine blk_alloc ?_ _)); refine blk_put (cs := #[.int .i64 0, .int .i64 0, .int .i64 0, .int .i64 0, .int .i64 0]) ?_ 0 _ rfl; (with_reducible repeat (first | refine blk_drewN ?_ _ | refine blk_drew ?_ | refine blk_alloc ?_ _)); refine blk_far ?_ NB101_120.out _; exact bS BK101.out) Try.underlying25 rfl (by kernel_rfl)) rfl ?_
  exact ⟨by first | rfl | (simp [errW_none, errW_some] <;> rfl) | (simp [*, errW_none, errW_some] <;> rfl), by repeat (first | (with_reducible first | exact HI0.out | apply IsS79.alloc | apply IsS79.drewN | apply IsS79.drew | apply IsS79.set_1 | apply IsS79.set_2 | refine IsS79.far ?_ NB0_101.out _ | refine IsS79.far ?_ NB0_120.out _) | exact HI0.out), by repeat (first | (with_reducible first | exact HB.out | apply below_alloc | apply pw_below_drewN | apply below_drew1 | refine below_set ?_ (IsS79.ge HI0.out) | refine below_set ?_ GE101.out | refine below_set ?_ GE120.out) | exact HB.out), by repeat (first | (with_reducible first | exact HK.out | apply KeepBut.set_ | apply keep_drewN | apply keep_drew | apply keep_alloc | refine keep_far ?_ GW101.out _ | refine keep_far ?_ GW120.out _) | exact HK.out)⟩
 ·refine bodyPost_ret (results_cell_row rfl _ _ gb101 25 #[.int .i64 a1, .int .i64 t105, .int .i64 t111, .int .i64 t124, .int .i64 t157] (0, 0) _ rfl (by (with_reducible repeat (first | refine blk_drewN ?_ _ | refine blk_drew ?_ | refine blk_alloc ?_ _)); refine blk_put (cs := #[.int .i64 a1, .int .i64 t105, .int .i64 t111, .int .i64 t124, .int .i64 0]) ?_ 4 _ rfl; (with_reducible repeat (first | refine blk_drewN ?_ _ | refine blk_drew ?_ | refine blk_alloc ?_ _)); refine blk_put (cs := #[.int .i64 a1, .int .i64 t105, .int .i64 t111, .int .i64 0, .int .i64 0]) ?_ 3 _ rfl; (with_reducible repeat (first | refine blk_drewN ?_ _ | refine blk_drew ?_ | refine blk_alloc ?_ _)); refine blk_put (cs := #[.int .i64 a1, .int .i64 t105, .int .i64 0, .int .i64 0, .int .i64 0]) ?_ 2 _ rfl; (with_reducible repeat (first | refine blk_drewN ?_ _ | refine blk_drew ?_ | refine blk_alloc ?_ _)); refine blk_put (cs := #[.int .i64 a1, .int .i64 0, .int .i64 0, .int .i64 0, .int .i64 0]) ?_ 1 _ rfl; (with_reducible repeat (first | refine blk_drewN ?_ _ | refine blk_drew ?_ | refine blk_alloc ?_ _)); refine blk_put (cs := #[.int .i64 0, .int .i64 0, .int .i64 0, .int .i64 0, .int .i64 0]) ?_ 0 _ rfl; (with_reducible repeat (first | refine blk_drewN ?_ _ | refine blk_drew ?_ | refine blk_alloc ?_ _)); refine blk_far ?_ NB101_120.out _; exact bS BK101.out) Try.underlying25 rfl (by kernel_rfl)) rfl ?_
  exact ⟨by first | rfl | (simp [errW_none, errW_some] <;> rfl) | (simp [*, errW_none, errW_some] <;> rfl), by repeat (first | (with_reducible first | exact HI0.out | apply IsS79.alloc | apply IsS79.drewN | apply IsS79.drew | apply IsS79.set_1 | apply IsS79.set_2 | refine IsS79.far ?_ NB0_101.out _ | refine IsS79.far ?_ NB0_120.out _) | exact HI0.out), by repeat (first | (with_reducible first | exact HB.out | apply below_alloc | apply pw_below_drewN | apply below_drew1 | refine below_set ?_ (IsS79.ge HI0.out) | refine below_set ?_ GE101.out | refine below_set ?_ GE120.out) | exact HB.out), by repeat (first | (with_reducible first | exact HK.out | apply KeepBut.set_ | apply keep_drewN | apply keep_drew | apply keep_alloc | refine keep_far ?_ GW101.out _ | refine keep_far ?_ GW120.out _) | exact HK.out)⟩
 ·refine bodyPost_ret (results_cell_row rfl _ _ gb101 25 #[.int .i64 a1, .int .i64 t105, .int .i64 t111, .int .i64 t124, .int .i64 t117] (0, 0) _ rfl (by (with_reducible repeat (first | refine blk_drewN ?_ _ | refine blk_drew ?_ | refine blk_alloc ?_ _)); refine blk_put (cs := #[.int .i64 a1, .int .i64 t105, .int .i64 t111, .int .i64 t124, .int .i64 0]) ?_ 4 _ rfl; (with_reducible repeat (first | refine blk_drewN ?_ _ | refine blk_drew ?_ | refine blk_alloc ?_ _)); refine blk_put (cs := #[.int .i64 a1, .int .i64 t105, .int .i64 t111, .int .i64 0, .int .i64 0]) ?_ 3 _ rfl; (with_reducible repeat (first | refine blk_drewN ?_ _ | refine blk_drew ?_ | refine blk_alloc ?_ _)); refine blk_put (cs := #[.int .i64 a1, .int .i64 t105, .int .i64 0, .int .i64 0, .int .i64 0]) ?_ 2 _ rfl; (with_reducible repeat (first | refine blk_drewN ?_ _ | refine blk_drew ?_ | refine blk_alloc ?_ _)); refine blk_put (cs := #[.int .i64 a1, .int .i64 0, .int .i64 0, .int .i64 0, .int .i64 0]) ?_ 1 _ rfl; (with_reducible repeat (first | refine blk_drewN ?_ _ | refine blk_drew ?_ | refine blk_alloc ?_ _)); refine blk_put (cs := #[.int .i64 0, .int .i64 0, .int .i64 0, .int .i64 0, .int .i64 0]) ?_ 0 _ rfl; exact bS BK101.out) Try.underlying25 rfl (by kernel_rfl)) rfl ?_
  exact ⟨by first | rfl | (simp [errW_none, errW_some] <;> rfl) | (simp [*, errW_none, errW_some] <;> rfl), by repeat (first | (with_reducible first | exact HI0.out | apply IsS79.alloc | apply IsS79.drewN | apply IsS79.drew | apply IsS79.set_1 | apply IsS79.set_2 | refine IsS79.far ?_ NB0_101.out _ | refine IsS79.far ?_ NB0_120.out _) | exact HI0.out), by repeat (first | (with_reducible first | exact HB.out | apply below_alloc | apply pw_below_drewN | apply below_drew1 | refine below_set ?_ (IsS79.ge HI0.out) | refine below_set ?_ GE101.out | refine below_set ?_ GE120.out) | exact HB.out), by repeat (first | (with_reducible first | exact HK.out | apply KeepBut.set_ | apply keep_drewN | apply keep_drew | apply keep_alloc | refine keep_far ?_ GW101.out _ | refine keep_far ?_ GW120.out _) | exact HK.out)⟩

end Go.Proofs.Ytdennkmfjkgfhaa.X

-- XspecDrawHoursForF52
namespace Go.Proofs.Ytdennkmfjkgfhaa.X
open Ho (bS eS)
open Go.RowKit Go.Proofs.YtdennkmfjkgfhaaW.PrintWords Go.Proofs.YtdennkmfjkgfhaaW.PrintLast Go.Proofs.YtdennkmfjkgfhaaW.PrintMore
attribute [local go_sem] max2_int min2_int max_two min_two max_three min_three max_four min_four   -- for this text's walks alone
set_option linter.unusedVariables false
set_option linter.unusedSimpArgs false
open Sq (I O Z)

attribute [local go_sem ↓] Ho.isSome_setCell_   -- a store leaves all places there
/-! ### spec_DrawHoursFor: function 52 -/
def spec_DrawHoursFor.f (l0 : List Int) : Option (Int × Int × Int × Int × Int × Int) := (spec_l1Cur_wetCarpet.f l0 0 0 5).bind fun bt103 => ((spec_l1Cur_degrees18.f l0 bt103.2.2.2.2.2.1 bt103.2.2.2.2.2.2).bind fun bt111 => (some (bt103.1, bt103.2.1, bt103.2.2.1, bt103.2.2.2.1, bt103.2.2.2.2.1, bt111.1)))
set_option maxHeartbeats 8000000 in
set_option maxRecDepth 100000 in
theorem spec_DrawHoursFor.calls (A0 : Option Addr) (c0 : Nat) (l0 : List Int) (r1 : Int) (r2 : Int) (r3 : Int) (r4 : Int) (r5 : Int) (r6 : Int) (w : World) (hr0 : Kd.C (Kd.int .u8) w A0 l0.length l0) (hc0 : l0.length ≤ c0) (h : spec_DrawHoursFor.f l0 = some (r1, r2, r3, r4, r5, r6)) :
  Calls Try.prog 52 #[.slice A0 l0.length c0] w fun e w' => e = .returned (.tuple #[.agg #[.int .i64 r1, .int .i64 r2, .int .i64 r3, .int .i64 r4, .int .i64 r5], .int .i64 r6]) ∧ Below w.heap.size w w' := by
 have hu25 := Try.underlying25
 have hu79 := Try.underlying79
 have HR0 := Aside0.mk hr0
 have HC0 := Aside0.mk hc0
 clear hr0 hc0
 have HB := Aside0.mk (Below.refl w.heap.size w)
 have H : ((spec_l1Cur_wetCarpet.f l0 0 0 5).bind fun bt103 => ((spec_l1Cur_degrees18.f l0 bt103.2.2.2.2.2.1 bt103.2.2.2.2.2.2).bind fun bt111 => (some (bt103.1, bt103.2.1, bt103.2.2.1, bt103.2.2.2.1, bt103.2.2.2.2.1, bt111.1)))) = some (r1, r2, r3, r4, r5, r6) := h
 clear h
 replace H := Option.bind_eq_some_iff.mp H
 obtain ⟨⟨t103, t104, t105, t106, t107, t108, t109⟩, A20, H⟩ := H
 replace H : ((spec_l1Cur_degrees18.f l0 t108 t109).bind fun bt111 => (some (t103, t104, t105, t106, t107, bt111.1))) = some (r1, r2, r3, r4, r5, r6) := H
 have A2 := Aside0.mk A20
 clear A20
 replace H := Option.bind_eq_some_iff.mp H
 obtain ⟨⟨t111, t112, t113⟩, A30, H⟩ := H
 replace H : (some (t103, t104, t105, t106, t107, t111)) = some (r1, r2, r3, r4, r5, r6) := H
 have A3 := Aside0.mk A30
 clear A30
 simp only [Option.some.injEq, Prod.mk.injEq] at H
 obtain ⟨rfl, rfl, rfl, rfl, rfl, rfl⟩ := H
 go_enter Try.func52, Try.ntmps52
 try go_wp2_with (first | ((with_reducible refine gate_dst (N := 2) rfl ?_); refine box_event ?hg (N := 2) ?hd (cs := #[.int .i64 0, .int .i64 0, .int .i64 0, .int .i64 0, .int .i64 0]) (t := 25) ?hr ?_; (case hd => rfl); (case hg => rfl); (case hr => first | (go_simp; done) | (go_simp; rfl)); intro gb101 hg w4 hbox hb; have n0_ := Aside0.mk (below_step (by exact eS HB.out) hb); have n1_ := Aside0.mk (hbox); have n2_ := Aside0.mk ((by rw [hg]; exact (below_size (by exact eS HB.out)) : w.heap.size ≤ gb101)); have n3_ := Aside0.mk ((by rw [hg]; exact (below_size (by exact eS HB.out)) : w.heap.size ≤ gb101)); clear HB; have HB := n0_; have BK101 := n1_; have GW101 := n2_; have GE101 := n3_; clear n0_ n1_ n2_ n3_; clear hb hbox hg) | ((with_reducible refine gate_dst (N := 8) rfl ?_); refine box_event ?hg (N := 8) ?hd (cs := #[.slice A0 l0.length c0, .int .i64 0, .int .u64 0]) (t := 79) ?hr ?_; (case hd => rfl); (case hg => rfl); (case hr => first | (go_simp; done) | (go_simp; rfl)); intro gb102 hg w5 hbox hb; have n0_ := Aside0.mk (blk_below (bS BK101.out) hb); have n1_ := Aside0.mk (below_step (by exact eS HB.out) hb); have n2_ := Aside0.mk (hbox); have n3_ := Aside0.mk ((by rw [hg]; exact (below_size (by exact eS HB.out)) : w.heap.size ≤ gb102)); have n4_ := Aside0.mk ((by rw [hg]; exact (below_size (by exact eS HB.out)) : w.heap.size ≤ gb102)); have n5_ := Aside0.mk ((by rw [hg]; exact Nat.ne_of_lt (blk_lt (bS BK101.out)) : gb101 ≠ gb102)); have n6_ := Aside0.mk ((by rw [hg]; exact Nat.ne_of_gt (blk_lt (bS BK101.out)) : gb102 ≠ gb101)); clear BK101; clear HB; have BK101 := n0_; have HB := n1_; have BK102 := n2_; have GW102 := n3_; have GE102 := n4_; have NB101_102 := n5_; have NB102_101 := n6_; clear n0_ n1_ n2_ n3_ n4_ n5_ n6_; clear hb hbox hg; have HI102 := Aside0.mk (show IsS79 w w5 gb102 l0 0 0 from ⟨_, _, (by exact bS BK102.out), GW102.out, HR0.out⟩); clear BK102) | ((with_reducible refine gate_callee (f := 82) rfl ?_); refine goesL_ (some 10) rfl rfl Try.func82 (by kernel_rfl) rfl #[.pointer (some ⟨gb102, 0, none⟩), .int .i64 5] rfl (by (try simp only [List.map_toArray, List.map_cons, List.map_nil]); first | done | rfl | (simp only [List.length_drop, List.length_take]; rfl)) ?_; (with_reducible refine (spec_l1Cur_wetCarpet.calls gb102 l0 0 0 5 t103 t104 t105 t106 t107 t108 t109 w _ ?side1 ?side2 A2.out).mono ?_); (case side1 => exact IsS79.below HI102.out Ho.Steps.below); (case side2 => exact eS HB.out); rintro e w6 ⟨rfl, hi, hb, hk⟩; refine ⟨_, rfl, ?_⟩; have n0_ := Aside0.mk (KeepBut.blk hk (bS BK101.out) NB101_102.out (by simp)); have n1_ := Aside0.mk (hb); have n2_ := Aside0.mk (hi); clear BK101; clear HB; clear HI102; have BK101 := n0_; have HB := n1_; have HI102 := n2_; clear n0_ n1_ n2_; (try clear hb); (try clear hb2); (try clear hk); (try clear hi)) | ((with_reducible refine gate_dst (N := 5) rfl ?_); refine box_event ?hg (N := 5) ?hd (cs := #[.int .i64 0, .int .i64 0, .int .i64 0, .int .i64 0, .int .i64 0]) (t := 25) ?hr ?_; (case hd => rfl); (case hg => rfl); (case hr => first | (go_simp; done) | (go_simp; rfl)); intro gb110 hg w7 hbox hb; have n0_ := Aside0.mk (blk_below (bS BK101.out) hb); have n1_ := Aside0.mk (IsS79.below (by exact IsS79.below HI102.out Ho.Steps.below) hb); have n2_ := Aside0.mk (below_step (by exact eS HB.out) hb); have n3_ := Aside0.mk (hbox); have n4_ := Aside0.mk ((by rw [hg]; exact (below_size (by exact eS HB.out)) : w.heap.size ≤ gb110)); have n5_ := Aside0.mk ((by rw [hg]; exact (below_size (by exact eS HB.out)) : w.heap.size ≤ gb110)); have n6_ := Aside0.mk ((by rw [hg]; exact Nat.ne_of_lt (blk_lt (bS BK101.out)) : gb101 ≠ gb110)); have n7_ := Aside0.mk ((by rw [hg]; exact Nat.ne_of_gt (blk_lt (bS BK101.out)) : gb110 ≠ gb101)); have n8_ := Aside0.mk ((by rw [hg]; exact Nat.ne_of_lt (IsS79.lt (show IsS79 w _ gb102 l0 t108 t109 from by exact IsS79.below HI102.out Ho.Steps.below)) : gb102 ≠ gb110)); have n9_ := Aside0.mk ((by rw [hg]; exact Nat.ne_of_gt (IsS79.lt (show IsS79 w _ gb102 l0 t108 t109 from by exact IsS79.below HI102.out Ho.Steps.below)) : gb110 ≠ gb102)); clear BK101; clear HI102; clear HB; have BK101 := n0_; have HI102 := n1_; have HB := n2_; have BK110 := n3_; have GW110 := n4_; have GE110 := n5_; have NB101_110 := n6_; have NB110_101 := n7_; have NB102_110 := n8_; have NB110_102 := n9_; clear n0_ n1_ n2_ n3_ n4_ n5_ n6_ n7_ n8_ n9_; clear hb hbox hg; have hnb8 := NB110_101.out; have hnc8 := NB101_110.out; have hnb9 := NB110_102.out; have hnc9 := NB102_110.out; have hcz10_0 : w7.cell? ⟨gb110, 0, none⟩ = some (.int .i64 0) := (blk_cell BK110.out 0).trans rfl; have hcz10_1 : w7.cell? ⟨gb110, 1, none⟩ = some (.int .i64 0) := (blk_cell BK110.out 1).trans rfl; have hcz10_2 : w7.cell? ⟨gb110, 2, none⟩ = some (.int .i64 0) := (blk_cell BK110.out 2).trans rfl; have hcz10_3 : w7.cell? ⟨gb110, 3, none⟩ = some (.int .i64 0) := (blk_cell BK110.out 3).trans rfl; have hcz10_4 : w7.cell? ⟨gb110, 4, none⟩ = some (.int .i64 0) := (blk_cell BK110.out 4).trans rfl; have hfz10_0 := blk_frozen BK110.out 0; have hfz10_1 := blk_frozen BK110.out 1; have hfz10_2 := blk_frozen BK110.out 2; have hfz10_3 := blk_frozen BK110.out 3; have hfz10_4 := blk_frozen BK110.out 4))
 have n0_ : Aside0 ((((((w7.setCell ⟨gb110, 0, none⟩ (.int .i64 t103)).setCell ⟨gb110, 1, none⟩ (.int .i64 t104)).setCell ⟨gb110, 2, none⟩ (.int .i64 t105)).setCell ⟨gb110, 3, none⟩ (.int .i64 t106)).setCell ⟨gb110, 4, none⟩ (.int .i64 t107)).heap[gb101]? = some (.cells #[.int .i64 0, .int .i64 0, .int .i64 0, .int .i64 0, .int .i64 0] 25 (0, 0))) := ⟨by (with_reducible repeat (first | refine blk_drewN ?_ _ | refine blk_drew ?_ | refine blk_alloc ?_ _)); refine blk_far ?_ NB101_110.out _; (with_reducible repeat (first | refine blk_drewN ?_ _ | refine blk_drew ?_ | refine blk_alloc ?_ _)); refine blk_far ?_ NB101_110.out _; (with_reducible repeat (first | refine blk_drewN ?_ _ | refine blk_drew ?_ | refine blk_alloc ?_ _)); refine blk_far ?_ NB101_110.out _; (with_reducible repeat (first | refine blk_drewN ?_ _ | refine blk_drew ?_ | refine blk_alloc ?_ _)); refine blk_far ?_ NB101_110.out _; (with_reducible repeat (first | refine blk_drewN ?_ _ | refine blk_drew ?_ | refine blk_alloc ?_ _)); refine blk_far ?_ NB101_110.out _; exact bS BK101.out⟩
 have n1_ : Aside0 ((((((w7.setCell ⟨gb110, 0, none⟩ (.int .i64 t103)).setCell ⟨gb110, 1, none⟩ (.int .i64 t104)).setCell ⟨gb110, 2, none⟩ (.int .i64 t105)).setCell ⟨gb110, 3, none⟩ (.int .i64 t106)).setCell ⟨gb110, 4, none⟩ (.int .i64 t107)).heap[gb110]? = some (.cells #[.int .i64 t103, .int .i64 t104, .int .i64 t105, .int .i64 t106, .int .i64 t107] 25 (0, 0))) := ⟨by (with_reducible repeat (first | refine blk_drewN ?_ _ | refine blk_drew ?_ | refine blk_alloc ?_ _)); refine blk_put (cs := #[.int .i64 t103, .int .i64 t104, .int .i64 t105, .int .i64 t106, .int .i64 0]) ?_ 4 _ rfl; (with_reducible repeat (first | refine blk_drewN ?_ _ | refine blk_drew ?_ | refine blk_alloc ?_ _)); refine blk_put (cs := #[.int .i64 t103, .int .i64 t104, .int .i64 t105, .int .i64 0, .int .i64 0]) ?_ 3 _ rfl; (with_reducible repeat (first | refine blk_drewN ?_ _ | refine blk_drew ?_ | refine blk_alloc ?_ _)); refine blk_put (cs := #[.int .i64 t103, .int .i64 t104, .int .i64 0, .int .i64 0, .int .i64 0]) ?_ 2 _ rfl; (with_reducible repeat (first | refine blk_drewN ?_ _ | refine blk_drew ?_ | refine blk_alloc ?_ _)); refine blk_put (cs := #[.int .i64 t103, .int .i64 0, .int .i64 0, .int .i64 0, .int .i64 0]) ?_ 1 _ rfl; (with_reducible repeat (first | refine blk_drewN ?_ _ | refine blk_drew ?_ | refine blk_alloc ?_ _)); refine blk_put (cs := #[.int .i64 0, .int .i64 0, .int .i64 0, .int .i64 0, .int .i64 0]) ?_ 0 _ rfl; exact bS BK110.out⟩
 have n2_ : Aside0 (IsS79 w (((((w7.setCell ⟨gb110, 0, none⟩ (.int .i64 t103)).setCell ⟨gb110, 1, none⟩ (.int .i64 t104)).setCell ⟨gb110, 2, none⟩ (.int .i64 t105)).setCell ⟨gb110, 3, none⟩ (.int .i64 t106)).setCell ⟨gb110, 4, none⟩ (.int .i64 t107)) gb102 l0 t108 t109) := ⟨by repeat (first | (with_reducible first | exact HI102.out | apply IsS79.alloc | apply IsS79.drewN | apply IsS79.drew | apply IsS79.set_1 | apply IsS79.set_2 | refine IsS79.far ?_ NB102_101.out _ | refine IsS79.far ?_ NB102_110.out _) | exact HI102.out)⟩
 have n3_ : Aside0 (Below w.heap.size w (((((w7.setCell ⟨gb110, 0, none⟩ (.int .i64 t103)).setCell ⟨gb110, 1, none⟩ (.int .i64 t104)).setCell ⟨gb110, 2, none⟩ (.int .i64 t105)).setCell ⟨gb110, 3, none⟩ (.int .i64 t106)).setCell ⟨gb110, 4, none⟩ (.int .i64 t107))) := ⟨by repeat (first | (with_reducible first | exact HB.out | apply below_alloc | apply pw_below_drewN | apply below_drew1 | refine below_set ?_ (IsS79.ge HI102.out) | refine below_set ?_ GE101.out | refine below_set ?_ GE110.out) | exact HB.out)⟩
 (try clear BK101)
 (try clear BK110)
 (try clear HI102)
 (try clear HB)
 generalize (((((w7.setCell ⟨gb110, 0, none⟩ (.int .i64 t103)).setCell ⟨gb110, 1, none⟩ (.int .i64 t104)).setCell ⟨gb110, 2, none⟩ (.int .i64 t105)).setCell ⟨gb110, 3, none⟩ (.int .i64 t106)).setCell ⟨gb110, 4, none⟩ (.int .i64 t107)) = w11 at n0_ n1_ n2_ n3_ ⊢
 have BK101 := n0_
 have BK110 := n1_
 have HI102 := n2_
 have HB := n3_
 clear n0_ n1_ n2_ n3_
 have n0_ := Aside0.mk (blk_drew BK101.out)
 have n1_ := Aside0.mk (blk_drew BK110.out)
 have n2_ := Aside0.mk (IsS79.drew HI102.out)
 have n3_ := Aside0.mk (below_drew1 HB.out)
 clear BK101
 clear BK110
 clear HI102
 clear HB
 have BK101 := n0_
 have BK110 := n1_
 have HI102 := n2_
 have HB := n3_
 clear n0_ n1_ n2_ n3_
 refine start_ (n := 5) (S := fun w' => w'.cell? ⟨gb110, 0, none⟩ = some (.int .i64 t103) ∧ w'.cell? ⟨gb110, 1, none⟩ = some (.int .i64 t104) ∧ w'.cell? ⟨gb110, 2, none⟩ = some (.int .i64 t105) ∧ w'.cell? ⟨gb110, 3, none⟩ = some (.int .i64 t106) ∧ w'.cell? ⟨gb110, 4, none⟩ = some (.int .i64 t107)) (ds := []) #[O,O,O,O,O] (by kernel_rfl) rfl rfl ⟨(blk_cell BK110.out 0).trans rfl, (blk_cell BK110.out 1).trans rfl, (blk_cell BK110.out 2).trans rfl, (blk_cell BK110.out 3).trans rfl, (blk_cell BK110.out 4).trans rfl⟩ (fun hHeld => ?_)
 generalize w11.drew = w12 at BK101 BK110 HI102 HB hHeld ⊢
 refine pure_ (i := 1) (N := some 12) (v := ?_) (a' := ?_) #[O,I,O,O,O] rfl rfl (by kernel_rfl) (fun _ _ _ h => h) (Or.inl ⟨by rfl, ?_⟩) ?_ ?_
 rotate_left; (intro w'; go_simp; with_reducible rfl); rotate_left; (simp only [Z]; rfl)
 refine take_ (i := 0) (N := some 11) (v := ?_) (a' := ?_) #[I,I,O,O,O] rfl rfl (by kernel_rfl) (fun _ _ _ h => h) (Or.inl ⟨by rfl, ?_⟩) hHeld ?_ ?_
 rotate_left; (rintro w' ⟨s0, s1, s2, s3, s4⟩; go_simp; with_reducible rfl); rotate_left; (simp only [Z]; rfl)
 refine one_ (i := 2) (N := some 13) #[I,I,I,O,O] rfl rfl (by kernel_rfl) (by decide) (fun K hK => ?_)
 refine goes_ Try.func79 (by kernel_rfl) rfl #[.pointer (some ⟨gb102, 0, none⟩)] (by rfl) rfl rfl (by (try simp only [List.map_toArray, List.map_cons, List.map_nil]); first | done | rfl | (simp only [List.length_drop, List.length_take]; rfl)) ?_
 with_reducible refine (spec_l1Cur_degrees18.calls gb102 l0 t108 t109 t111 t112 t113 w _ ?side1 ?side2 A3.out).mono ?_
 (case side1 => exact IsS79.below HI102.out Ho.Steps.below)
 (case side2 => exact eS HB.out)
 rintro e w13 ⟨rfl, hi, hb, hk⟩
 refine ⟨_, rfl, ?_⟩
 have n0_ := Aside0.mk (KeepBut.blk hk (bS BK101.out) NB101_102.out (by simp))
 have n1_ := Aside0.mk (KeepBut.blk hk (bS BK110.out) NB110_102.out (by simp))
 have n2_ := Aside0.mk (hb)
 have n3_ := Aside0.mk (hi)
 clear BK101
 clear BK110
 clear HB
 clear HI102
 have BK101 := n0_
 have BK110 := n1_
 have HB := n2_
 have HI102 := n3_
 clear n0_ n1_ n2_ n3_
 (try clear hb)
 (try clear hb2)
 (try clear hk)
 (try clear hi)
 refine hK.out _ _ ⟨(blk_cell BK110.out 0).trans rfl, (blk_cell BK110.out 1).trans rfl, (blk_cell BK110.out 2).trans rfl, (blk_cell BK110.out 3).trans rfl, (blk_cell BK110.out 4).trans rfl⟩ (fun hHeld => ?_)
 clear hK K
 refine norm_ (a' := ?_) ?_ ?_
 rotate_left
 ·show Act.put _ (some 13) _ = _
  simp only [Z]
  rfl
 refine one_ (i := 3) (N := none) #[I,I,I,I,O] rfl rfl (by kernel_rfl) (by decide) (fun K hK => ?_)
 have hs14 : w13.cell? ⟨gb101, 0, none⟩ = some (.int .i64 0) := (blk_cell BK101.out 0).trans rfl
 have hfs14 := blk_frozen BK101.out 0
 have hns14_1 := NB110_101.out
 have hms14_1 := NB101_110.out
 have hs15 : w13.cell? ⟨gb101, 1, none⟩ = some (.int .i64 0) := (blk_cell BK101.out 1).trans rfl
 have hfs15 := blk_frozen BK101.out 1
 have hns15_1 := NB110_101.out
 have hms15_1 := NB101_110.out
 have hs16 : w13.cell? ⟨gb101, 2, none⟩ = some (.int .i64 0) := (blk_cell BK101.out 2).trans rfl
 have hfs16 := blk_frozen BK101.out 2
 have hns16_1 := NB110_101.out
 have hms16_1 := NB101_110.out
 have hs17 : w13.cell? ⟨gb101, 3, none⟩ = some (.int .i64 0) := (blk_cell BK101.out 3).trans rfl
 have hfs17 := blk_frozen BK101.out 3
 have hns17_1 := NB110_101.out
 have hms17_1 := NB101_110.out
 have hs18 : w13.cell? ⟨gb101, 4, none⟩ = some (.int .i64 0) := (blk_cell BK101.out 4).trans rfl
 have hfs18 := blk_frozen BK101.out 4
 have hns18_1 := NB110_101.out
 have hms18_1 := NB101_110.out
 refine skip_ (w1 := ?_) (by rfl) rfl ?_ ?_
 rotate_left
 ·go_simp
  rfl
 refine hK.out _ _ ⟨((cell_far (p := ⟨gb101, _, none⟩) NB110_101.out _).trans (((cell_far (p := ⟨gb101, _, none⟩) NB110_101.out _).trans (((cell_far (p := ⟨gb101, _, none⟩) NB110_101.out _).trans (((cell_far (p := ⟨gb101, _, none⟩) NB110_101.out _).trans (((cell_far (p := ⟨gb101, _, none⟩) NB110_101.out _).trans (hHeld.1)))))))))), ((cell_far (p := ⟨gb101, _, none⟩) NB110_101.out _).trans (((cell_far (p := ⟨gb101, _, none⟩) NB110_101.out _).trans (((cell_far (p := ⟨gb101, _, none⟩) NB110_101.out _).trans (((cell_far (p := ⟨gb101, _, none⟩) NB110_101.out _).trans (((cell_far (p := ⟨gb101, _, none⟩) NB110_101.out _).trans (hHeld.2.1)))))))))), ((cell_far (p := ⟨gb101, _, none⟩) NB110_101.out _).trans (((cell_far (p := ⟨gb101, _, none⟩) NB110_101.out _).trans (((cell_far (p := ⟨gb101, _, none⟩) NB110_101.out _).trans (((cell_far (p := ⟨gb101, _, none⟩) NB110_101.out _).trans (((cell_far (p := ⟨gb101, _, none⟩) NB110_101.out _).trans (hHeld.2.2.1)))))))))), ((cell_far (p := ⟨gb101, _, none⟩) NB110_101.out _).trans (((cell_far (p := ⟨gb101, _, none⟩) NB110_101.out _).trans (((cell_far (p := ⟨gb101, _, none⟩) NB110_101.out _).trans (((cell_far (p := ⟨gb101, _, none⟩) NB110_101.out _).trans (((cell_far (p := ⟨gb101, _, none⟩) NB110_101.out _).trans (hHeld.2.2.2.1)))))))))), ((cell_far (p := ⟨gb101, _, none⟩) NB110_101.out _).trans (((cell_far (p := ⟨gb101, _, none⟩) NB110_101.out _).trans (((cell_far (p := ⟨gb101, _, none⟩) NB110_101.out _).trans (((cell_far (p := ⟨gb101, _, none⟩) NB110_101.out _).trans (((cell_far (p := ⟨gb101, _, none⟩) NB110_101.out _).trans (hHeld.2.2.2.2))))))))))⟩ (fun hHeld => ?_)
 clear hK K
 refine pure_ (i := 4) (N := some 3) (v := ?_) (a' := ?_) #[I,I,I,I,I] rfl rfl (by kernel_rfl) (fun _ _ _ h => h) (Or.inl ⟨by rfl, ?_⟩) ?_ ?_
 rotate_left; (intro w'; go_simp; with_reducible rfl); rotate_left; (simp only [Z]; rfl)
 refine done_ (by kernel_rfl) ?_
 try go_wp2
 refine bodyPost_ret (results_ct rfl _ _ gb101 25 #[.int .i64 t103, .int .i64 t104, .int .i64 t105, .int .i64 t106, .int .i64 t107] (0, 0) _ rfl (by (with_reducible repeat (first | refine blk_drewN ?_ _ | refine blk_drew ?_ | refine blk_alloc ?_ _)); refine blk_put (cs := #[.int .i64 t103, .int .i64 t104, .int .i64 t105, .int .i64 t106, .int .i64 0]) ?_ 4 _ rfl; (with_reducible repeat (first | refine blk_drewN ?_ _ | refine blk_drew ?_ | refine blk_alloc ?_ _)); refine blk_put (cs := #[.int .i64 t103, .int .i64 t104, .int .i64 t105, .int .i64 0, .int .i64 0]) ?_ 3 _ rfl; (with_reducible repeat (first | refine blk_drewN ?_ _ | refine blk_drew ?_ | refine blk_alloc ?_ _)); refine blk_put (cs := #[.int .i64 t103, .int .i64 t104, .int .i64 0, .int .i64 0, .int .i64 0]) ?_ 2 _ rfl; (with_reducible repeat (first | refine blk_drewN ?_ _ | refine blk_drew ?_ | refine blk_alloc ?_ _)); refine blk_put (cs := #[.int .i64 t103, .int .i64 0, .int .i64 0, .int .i64 0, .int .i64 0]) ?_ 1 _ rfl; (with_reducible repeat (first | refine blk_drewN ?_ _ | refine blk_drew ?_ | refine blk_alloc ?_ _)); refine blk_put (cs := #[.int .i64 0, .int .i64 0, .int .i64 0, .int .i64 0, .int .i64 0]) ?_ 0 _ rfl; exact bS BK101.out) Try.underlying25 rfl (by kernel_rfl)) rfl ?_
 exact ⟨by first | rfl | (simp [errW_none, errW_some] <;> rfl) | (simp [*, errW_none, errW_some] <;> rfl), by repeat (first | (with_reducible first | exact HB.out | apply below_alloc | apply pw_below_drewN | apply below_drew1 | refine below_set ?_ (IsS79.ge HI102.out) | refine below_set ?_ GE101.out | refine below_set ?_ GE110.out) | exact HB.out)⟩

end Go.Proofs.Ytdennkmfjkgfhaa.X

-- Xspecl1CuroneF83
namespace Go.Proofs.Ytdennkmfjkgfhaa.X
open Ho (bS eS)
open Go.RowKit Go.Proofs.YtdennkmfjkgfhaaW.PrintWords Go.Proofs.YtdennkmfjkgfhaaW.PrintLast Go.Proofs.YtdennkmfjkgfhaaW.PrintMore
attribute [local go_sem] max2_int min2_int max_two min_two max_three min_three max_four min_four   -- for this text's walks alone
set_option linter.unusedVariables false
set_option linter.unusedSimpArgs false
open Sq (I O Z)

/-! ### spec_l1Cur_one: function 83 -/
def spec_l1Cur_one.f (s0_0 : List Int) (s0_1 : Int) (s0_2 : Int) (a1 : Int) : Option (Bool × Int × Int) := (spec_l1Cur_pick.f s0_0 s0_1 s0_2 a1).bind fun bt101 => (some ((bt101.1 == 0), bt101.2.1, bt101.2.2))
set_option maxHeartbeats 8000000 in
set_option maxRecDepth 100000 in
theorem spec_l1Cur_one.calls (g : Nat) (s0_0 : List Int) (s0_1 : Int) (s0_2 : Int) (a1 : Int) (r1 : Bool) (r2 : Int) (r3 : Int) (w0 w : World) (hI : IsS79 w0 w g s0_0 s0_1 s0_2) (hB : Below w0.heap.size w0 w) (h : spec_l1Cur_one.f s0_0 s0_1 s0_2 a1 = some (r1, r2, r3)) :
  Calls Try.prog 83 #[.pointer (some ⟨g, 0, none⟩), .int .i64 a1] w fun e w' => e = .returned (.bool r1) ∧ IsS79 w0 w' g s0_0 r2 r3 ∧ Below w0.heap.size w0 w' ∧ KeepBut w w' g none := by
 have HI0 := Aside0.mk hI
 have HK := Aside0.mk (KeepBut.refl w g none)
 have HL := Aside0.mk hB.size
 clear hI
 have HW0 := Aside0.mk hB.size
 have HB := Aside0.mk hB
 clear hB
 have H : ((spec_l1Cur_pick.f s0_0 s0_1 s0_2 a1).bind fun bt101 => (some ((bt101.1 == 0), bt101.2.1, bt101.2.2))) = some (r1, r2, r3) := h
 clear h
 replace H := Option.bind_eq_some_iff.mp H
 obtain ⟨⟨t101, t102, t103⟩, A30, H⟩ := H
 replace H : (some ((t101 == 0), t102, t103)) = some (r1, r2, r3) := H
 have A3 := Aside0.mk A30
 clear A30
 simp only [Option.some.injEq, Prod.mk.injEq] at H
 obtain ⟨rfl, rfl, rfl⟩ := H
 go_enter Try.func83, Try.ntmps83
 go_wp2_with (first | ((with_reducible refine gate_callee (f := 81) rfl ?_); refine goesL_ (some 7) rfl rfl Try.func81 (by kernel_rfl) rfl #[.pointer (some ⟨g, 0, none⟩), .int .i64 a1] rfl (by (try simp only [List.map_toArray, List.map_cons, List.map_nil]); first | done | rfl | (simp only [List.length_drop, List.length_take]; rfl)) ?_; (with_reducible refine (spec_l1Cur_pick.calls g s0_0 s0_1 s0_2 a1 t101 t102 t103 w0 _ ?side1 ?side2 A3.out).mono ?_); (case side1 => exact IsS79.below HI0.out Ho.Steps.below); (case side2 => exact eS HB.out); rintro e w4 ⟨rfl, hi, hb, hk⟩; refine ⟨_, rfl, ?_⟩; have n0_ := Aside0.mk (KeepBut.trans (by exact Ho.kS HK.out) hk (.inl rfl)); have n1_ := Aside0.mk (hb); have n2_ := Aside0.mk (hi); clear HK; clear HB; clear HI0; have HK := n0_; have HB := n1_; have HI0 := n2_; clear n0_ n1_ n2_; (try clear hb); (try clear hb2); (try clear hk); (try clear hi)))
 go_ret
 exact ⟨by first | rfl | (simp [errW_none, errW_some] <;> rfl) | (simp [*, errW_none, errW_some] <;> rfl), by exact IsS79.below HI0.out Ho.Steps.below, by exact eS HB.out, by exact Ho.kS HK.out⟩

end Go.Proofs.Ytdennkmfjkgfhaa.X

-- Xspecl1CurwetCarpetsF78
namespace Go.Proofs.Ytdennkmfjkgfhaa.X
open Ho (bS eS)
open Go.RowKit Go.Proofs.YtdennkmfjkgfhaaW.PrintWords Go.Proofs.YtdennkmfjkgfhaaW.PrintLast Go.Proofs.YtdennkmfjkgfhaaW.PrintMore
attribute [local go_sem] max2_int min2_int max_two min_two max_three min_three max_four min_four   -- for this text's walks alone
set_option linter.unusedVariables false
set_option linter.unusedSimpArgs false
open Sq (I O Z)

/-! ### spec_l1Cur_wetCarpets: function 78 -/
mutual
def spec_l1Cur_wetCarpets.l0 : Nat → List (S25) → Int → Int → List Int → Int → Int → Option ((List (S25)) × Int × Int)
  | 0, _, _, _, _, _, _ => none
  | k + 1, x3, x4, x5, x1000, x1001, x1002 => if x5 > 0 then ((spec_l1Cur_pick.f x1000 x1001 x1002 3).bind fun bt107 => ((spec_l1Cur_pick.f x1000 bt107.2.1 bt107.2.2 80).bind fun bt110 => ((spec_l1Cur_wetCarpet.f x1000 bt110.2.1 bt110.2.2 (wrap64 ((wrap64 ((wrap64 (x4 + 1)) + bt107.1)) - (wrap64 (Int.tdiv bt110.1 79))))).bind fun bt113 => (if x3.length < 3518437208883 then (spec_l1Cur_wetCarpets.l0 k (x3 ++ [(⟨bt113.1, bt113.2.1, bt113.2.2.1, bt113.2.2.2.1, bt113.2.2.2.2.1⟩ : S25)]) (wrap64 ((wrap64 ((wrap64 (x4 + 1)) + bt107.1)) - (wrap64 (Int.tdiv bt110.1 79)))) (wrap64 (x5 - 1)) x1000 bt113.2.2.2.2.2.1 bt113.2.2.2.2.2.2) else (none))))) else ((spec_l1Cur_one.f x1000 x1001 x1002 24).bind fun bt123 => (if bt123.1 = true then (spec_l1Cur_wetCarpets.l1 k x3 x4 x1000 bt123.2.1 bt123.2.2) else (some (x3, bt123.2.1, bt123.2.2))))
def spec_l1Cur_wetCarpets.l1 : Nat → List (S25) → Int → List Int → Int → Int → Option ((List (S25)) × Int × Int)
  | 0, _, _, _, _, _ => none
  | k + 1, x3, x4, x1000, x1001, x1002 => (spec_l1Cur_pick.f x1000 x1001 x1002 2).bind fun bt126 => (if (x3.length : Int) < (wrap64 (10 + bt126.1)) then (if x3.length < 3518437208883 then (spec_l1Cur_wetCarpets.l1 k (x3 ++ [(⟨wrap64 (x4 + 1), 10, 500, 0, 50⟩ : S25)]) (wrap64 (x4 + 1)) x1000 bt126.2.1 bt126.2.2) else (none)) else (some (x3, bt126.2.1, bt126.2.2)))
end
def spec_l1Cur_wetCarpets.f (k : Nat) (s0_0 : List Int) (s0_1 : Int) (s0_2 : Int) : Option ((List (S25)) × Int × Int) := (spec_l1Cur_pick.f s0_0 s0_1 s0_2 7).bind fun bt104 => (spec_l1Cur_wetCarpets.l0 k (([] : List (S25))) 0 bt104.1 s0_0 bt104.2.1 bt104.2.2)
theorem spec_l1Cur_wetCarpets.mono_l : ∀ k, (∀ y0 y1 y2 y3 y4 y5, LeO (spec_l1Cur_wetCarpets.l0 k y0 y1 y2 y3 y4 y5) (spec_l1Cur_wetCarpets.l0 (k + 1) y0 y1 y2 y3 y4 y5)) ∧ (∀ y0 y1 y2 y3 y4, LeO (spec_l1Cur_wetCarpets.l1 k y0 y1 y2 y3 y4) (spec_l1Cur_wetCarpets.l1 (k + 1) y0 y1 y2 y3 y4))
  | 0 => ⟨fun _ _ _ _ _ _ r h => by simp [spec_l1Cur_wetCarpets.l0] at h, fun _ _ _ _ _ r h => by simp [spec_l1Cur_wetCarpets.l1] at h⟩
  | k + 1 => by
    obtain ⟨ih0, ih1⟩ := spec_l1Cur_wetCarpets.mono_l k
    refine ⟨?_, ?_⟩
    · intro y0 y1 y2 y3 y4 y5
      unfold spec_l1Cur_wetCarpets.l0
      repeat' first
      | (with_reducible exact ih0 _ _ _ _ _ _)
      | (with_reducible exact ih1 _ _ _ _ _)
      | (with_reducible exact LeO.refl _)
      | (with_reducible exact LeO.none _)
      | (with_reducible refine LeO.ite ?_ ?_)
      | (with_reducible refine LeO.bind ?_ (fun _ => ?_))
      | exact ih0 _ _ _ _ _ _
      | exact ih1 _ _ _ _ _
      | exact LeO.none _
      | refine LeO.ite ?_ ?_
      | refine LeO.bind ?_ (fun _ => ?_)
    · intro y0 y1 y2 y3 y4
      unfold spec_l1Cur_wetCarpets.l1
      repeat' first
      | (with_reducible exact ih0 _ _ _ _ _ _)
      | (with_reducible exact ih1 _ _ _ _ _)
      | (with_reducible exact LeO.refl _)
      | (with_reducible exact LeO.none _)
      | (with_reducible refine LeO.ite ?_ ?_)
      | (with_reducible refine LeO.bind ?_ (fun _ => ?_))
      | exact ih0 _ _ _ _ _ _
      | exact ih1 _ _ _ _ _
      | exact LeO.none _
      | refine LeO.ite ?_ ?_
      | refine LeO.bind ?_ (fun _ => ?_)
theorem spec_l1Cur_wetCarpets.mono : ∀ a0 a1 a2 k, LeO (spec_l1Cur_wetCarpets.f k a0 a1 a2) (spec_l1Cur_wetCarpets.f (k + 1) a0 a1 a2) := by
  intro a0 a1 a2 k
  obtain ⟨ih0, ih1⟩ := spec_l1Cur_wetCarpets.mono_l k
  unfold spec_l1Cur_wetCarpets.f
  repeat' first
      | (with_reducible exact ih0 _ _ _ _ _ _)
      | (with_reducible exact ih1 _ _ _ _ _)
      | (with_reducible exact LeO.refl _)
      | (with_reducible exact LeO.none _)
      | (with_reducible refine LeO.ite ?_ ?_)
      | (with_reducible refine LeO.bind ?_ (fun _ => ?_))
      | exact ih0 _ _ _ _ _ _
      | exact ih1 _ _ _ _ _
      | exact LeO.none _
      | refine LeO.ite ?_ ?_
      | refine LeO.bind ?_ (fun _ => ?_)
set_option maxHeartbeats 8000000 in
set_option maxRecDepth 100000 in
theorem spec_l1Cur_wetCarpets.calls (k : Nat) (g : Nat) (s0_0 : List Int) (s0_1 : Int) (s0_2 : Int) (r1 : List (S25)) (r2 : Int) (r3 : Int) (w0 w : World) (hI : IsS79 w0 w g s0_0 s0_1 s0_2) (hB : Below w0.heap.size w0 w) (h : spec_l1Cur_wetCarpets.f k s0_0 s0_1 s0_2 = some (r1, r2, r3)) :
  Calls Try.prog 78 #[.pointer (some ⟨g, 0, none⟩)] w fun e w' => ∃ v0_ : Value, e = .returned (v0_) ∧ Kd.R k25 25 w' w.heap.size (fun _ => True) v0_ r1 ∧ IsS79 w0 w' g s0_0 r2 r3 ∧ Below w0.heap.size w0 w' ∧ KeepBut w w' g none := by
 have hu25 := Try.underlying25
 have HI0 := Aside0.mk hI
 have HK := Aside0.mk (KeepBut.refl w g none)
 have HL := Aside0.mk hB.size
 clear hI
 have HW0 := Aside0.mk hB.size
 have HB := Aside0.mk hB
 clear hB
 have H : ((spec_l1Cur_pick.f s0_0 s0_1 s0_2 7).bind fun bt104 => (spec_l1Cur_wetCarpets.l0 k (([] : List (S25))) 0 bt104.1 s0_0 bt104.2.1 bt104.2.2)) = some (r1, r2, r3) := h
 clear h
 obtain ⟨y101, hy101⟩ : ∃ y_ : List (S25), y_ = (([] : List (S25))) := ⟨_, rfl⟩
 replace H : ((spec_l1Cur_pick.f s0_0 s0_1 s0_2 7).bind fun bt104 => (spec_l1Cur_wetCarpets.l0 k y101 0 bt104.1 s0_0 bt104.2.1 bt104.2.2)) = some (r1, r2, r3) := by first | (rw [hy101]; with_reducible exact H) | (have H2_ := (Option.bind_some _ _).symm.trans H; rw [hy101]; with_reducible exact H2_) | (have H2_ := (Option.bind_some _ _).symm.trans H; with_reducible exact H2_) | with_reducible exact H | (rw [hy101]; exact H) | exact H
 have Ny101 := Aside0.mk hy101
 clear hy101
 replace H := Option.bind_eq_some_iff.mp H
 obtain ⟨⟨t104, t105, t106⟩, A20, H⟩ := H
 replace H : (spec_l1Cur_wetCarpets.l0 k y101 0 t104 s0_0 t105 t106) = some (r1, r2, r3) := H
 have A2 := Aside0.mk A20
 clear A20
 have H' := Aside0.mk H
 clear H
 go_enter Try.func78, Try.ntmps78
 go_wp2_with (first | ((with_reducible refine gate_dst (N := 6) rfl ?_); refine Kd.R_lit k25 _ 25 ?hg (N := 6) ?hd (xs := ([] : List (S25))) (inner := []) (ok := fun _ => True) (okp := fun _ => True) ?hr ?hp (fun _ hk => hk) trivial (Below.refl _ _) (Nat.le_refl _) (by simp) ?_; (case hd => rfl); (case hg => rfl); (case hr => first | (go_simp; done) | (go_simp; rfl)); (case hp => exact (Reps.none _ _)); intro v102 w3 ho4 hb hg_ hnew_; clear hg_ hnew_; (first | rw [← Ny101.out] at ho4 | (simp only [Int.reduceToNat] at ho4; rw [← Ny101.out] at ho4)); have n0_ := Aside0.mk (Kd.R_lower ho4 (keep_size (w := w) (g := g) (row := none) (by exact Ho.kS HK.out))); have n1_ := Aside0.mk (IsS79.below (by exact IsS79.below HI0.out Ho.Steps.below) hb); have n2_ := Aside0.mk (KeepBut.trans (by exact Ho.kS HK.out) (KeepBut.of_below hb g none) (.inl rfl)); have n3_ := Aside0.mk (below_step (by exact eS HB.out) hb); clear HI0; clear HK; clear HB; have HO103 := n0_; have HI0 := n1_; have HK := n2_; have HB := n3_; clear n0_ n1_ n2_ n3_; clear hb ho4) | ((with_reducible refine gate_callee (f := 81) rfl ?_); refine goesL_ (some 8) rfl rfl Try.func81 (by kernel_rfl) rfl #[.pointer (some ⟨g, 0, none⟩), .int .i64 7] rfl (by (try simp only [List.map_toArray, List.map_cons, List.map_nil]); first | done | rfl | (simp only [List.length_drop, List.length_take]; rfl)) ?_; (with_reducible refine (spec_l1Cur_pick.calls g s0_0 s0_1 s0_2 7 t104 t105 t106 w0 _ ?side1 ?side2 A2.out).mono ?_); (case side1 => exact IsS79.below HI0.out Ho.Steps.below); (case side2 => exact eS HB.out); rintro e w5 ⟨rfl, hi, hb, hk⟩; refine ⟨_, rfl, ?_⟩; have n0_ := Aside0.mk (Kd.R_mono (Kd.R_keep (IsS79.apart (show IsS79 w0 _ g s0_0 s0_1 s0_2 from by exact IsS79.below HI0.out Ho.Steps.below) (by exact Ho.RS <| HO103.out) (by decide)) hk (fun _ h => h.2)) (fun _ h => h.1)); have n1_ := Aside0.mk (KeepBut.trans (by exact Ho.kS HK.out) hk (.inl rfl)); have n2_ := Aside0.mk (hb); have n3_ := Aside0.mk (hi); clear HO103; clear HK; clear HB; clear HI0; have HO103 := n0_; have HK := n1_; have HB := n2_; have HI0 := n3_; clear n0_ n1_ n2_ n3_; (try clear hb); (try clear hb2); (try clear hk); (try clear hi)))
 (try simp only [Act.put, List.setIfInBounds_toArray, List.set_cons_zero, List.set_cons_succ])
 go_loopg [3, 4, 5] k (fun kq v3 v4 v5 w' => ∃ (x3_1 : List (S25)) (x4_1 : Int) (x5_1 : Int) (x1001_1 : Int) (x1002_1 : Int), v4 = .int .i64 x4_1 ∧ v5 = .int .i64 x5_1 ∧ Aside0 (spec_l1Cur_wetCarpets.l0 kq x3_1 x4_1 x5_1 s0_0 x1001_1 x1002_1 = some (r1, r2, r3)) ∧ Aside0 (kq ≤ k) ∧ Aside0 (Kd.R k25 25 w' w.heap.size (fun _ => True) v3 x3_1) ∧ Aside0 (IsS79 w0 w' g s0_0 x1001_1 x1002_1) ∧ Aside0 (KeepBut w w' g none) ∧ Aside0 (Below w0.heap.size w0 w'))
 case atStart => exact ⟨(y101), (0), (t104), (t105), (t106), (by first | rfl | (simp; done) | (simp [*]; done)), (by first | rfl | (simp; done) | (simp [*]; done)), H', ⟨Nat.le_refl _⟩, ⟨by exact Ho.RS <| HO103.out⟩, ⟨by exact IsS79.below HI0.out Ho.Steps.below⟩, ⟨by exact Ho.kS HK.out⟩, ⟨by exact eS HB.out⟩⟩
 case round =>
  clear H'
  try clear p2
  obtain ⟨x3_1, x4_1, x5_1, x1001_1, x1002_1, rfl, rfl, HA, HK1, HO_3, HI0, HK, HB⟩ := hrel
  cases gk with
  | zero => exact absurd HA.out (by simp [spec_l1Cur_wetCarpets.l0])
  | succ k1 =>
   have H := HA.out
   clear HA
   simp only [spec_l1Cur_wetCarpets.l0] at H
   by_cases c6 : x5_1 > 0
   ·rw [if_pos c6] at H
    have c6b0 : decide (0 < x5_1) = true := decide_eq_true c6
    clear c6
    replace H := Option.bind_eq_some_iff.mp H
    obtain ⟨⟨t107, t108, t109⟩, A70, H⟩ := H
    replace H : ((spec_l1Cur_pick.f s0_0 t108 t109 80).bind fun bt110 => ((spec_l1Cur_wetCarpet.f s0_0 bt110.2.1 bt110.2.2 (wrap64 ((wrap64 ((wrap64 (x4_1 + 1)) + t107)) - (wrap64 (Int.tdiv bt110.1 79))))).bind fun bt113 => (if x3_1.length < 3518437208883 then (spec_l1Cur_wetCarpets.l0 k1 (x3_1 ++ [(⟨bt113.1, bt113.2.1, bt113.2.2.1, bt113.2.2.2.1, bt113.2.2.2.2.1⟩ : S25)]) (wrap64 ((wrap64 ((wrap64 (x4_1 + 1)) + t107)) - (wrap64 (Int.tdiv bt110.1 79)))) (wrap64 (x5_1 - 1)) s0_0 bt113.2.2.2.2.2.1 bt113.2.2.2.2.2.2) else (none)))) = some (r1, r2, r3) := H
    have A7 := Aside0.mk A70
    clear A70
    replace H := Option.bind_eq_some_iff.mp H
    obtain ⟨⟨t110, t111, t112⟩, A80, H⟩ := H
    replace H : ((spec_l1Cur_wetCarpet.f s0_0 t111 t112 (wrap64 ((wrap64 ((wrap64 (x4_1 + 1)) + t107)) - (wrap64 (Int.tdiv t110 79))))).bind fun bt113 => (if x3_1.length < 3518437208883 then (spec_l1Cur_wetCarpets.l0 k1 (x3_1 ++ [(⟨bt113.1, bt113.2.1, bt113.2.2.1, bt113.2.2.2.1, bt113.2.2.2.2.1⟩ : S25)]) (wrap64 ((wrap64 ((wrap64 (x4_1 + 1)) + t107)) - (wrap64 (Int.tdiv t110 79)))) (wrap64 (x5_1 - 1)) s0_0 bt113.2.2.2.2.2.1 bt113.2.2.2.2.2.2) else (none))) = some (r1, r2, r3) := H
    have A8 := Aside0.mk A80
    clear A80
    replace H := Option.bind_eq_some_iff.mp H
    obtain ⟨⟨t113, t114, t115, t116, t117, t118, t119⟩, A90, H⟩ := H
    replace H : (if x3_1.length < 3518437208883 then (spec_l1Cur_wetCarpets.l0 k1 (x3_1 ++ [(⟨t113, t114, t115, t116, t117⟩ : S25)]) (wrap64 ((wrap64 ((wrap64 (x4_1 + 1)) + t107)) - (wrap64 (Int.tdiv t110 79)))) (wrap64 (x5_1 - 1)) s0_0 t118 t119) else (none)) = some (r1, r2, r3) := H
    have A9 := Aside0.mk A90
    clear A90
    by_cases c10 : x3_1.length < 3518437208883
    ·rw [if_pos c10] at H
     have LMc10 := Aside0.mk c10
     clear c10
     obtain ⟨y120, hy120⟩ : ∃ y_ : List (S25), y_ = (x3_1 ++ [(⟨t113, t114, t115, t116, t117⟩ : S25)]) := ⟨_, rfl⟩
     replace H : (spec_l1Cur_wetCarpets.l0 k1 y120 (wrap64 ((wrap64 ((wrap64 (x4_1 + 1)) + t107)) - (wrap64 (Int.tdiv t110 79)))) (wrap64 (x5_1 - 1)) s0_0 t118 t119) = some (r1, r2, r3) := by first | (rw [hy120]; with_reducible exact H) | (have H2_ := (Option.bind_some _ _).symm.trans H; rw [hy120]; with_reducible exact H2_) | (have H2_ := (Option.bind_some _ _).symm.trans H; with_reducible exact H2_) | with_reducible exact H | (rw [hy120]; exact H) | exact H
     have Ny120 := Aside0.mk hy120
     clear hy120
     have H' := Aside0.mk H
     clear H
     go_wp2_with (first | ((with_reducible refine gate_callee (f := 81) rfl ?_); refine goesL_ (some 16) rfl rfl Try.func81 (by kernel_rfl) rfl #[.pointer (some ⟨g, 0, none⟩), .int .i64 3] rfl (by (try simp only [List.map_toArray, List.map_cons, List.map_nil]); first | done | rfl | (simp only [List.length_drop, List.length_take]; rfl)) ?_; (with_reducible refine (spec_l1Cur_pick.calls g s0_0 x1001_1 x1002_1 3 t107 t108 t109 w0 _ ?side1 ?side2 A7.out).mono ?_); (case side1 => exact IsS79.below HI0.out Ho.Steps.below); (case side2 => exact eS HB.out); rintro e w11 ⟨rfl, hi, hb, hk⟩; refine ⟨_, rfl, ?_⟩; have n0_ := Aside0.mk (Kd.R_mono (Kd.R_keep (IsS79.apart (show IsS79 w0 _ g s0_0 x1001_1 x1002_1 from by exact IsS79.below HI0.out Ho.Steps.below) (by exact Ho.RS <| HO_3.out) (by decide)) hk (fun _ h => h.2)) (fun _ h => h.1)); have n1_ := Aside0.mk (KeepBut.trans (by exact Ho.kS HK.out) hk (.inl rfl)); have n2_ := Aside0.mk (hb); have n3_ := Aside0.mk (hi); clear HO_3; clear HK; clear HB; clear HI0; have HO_3 := n0_; have HK := n1_; have HB := n2_; have HI0 := n3_; clear n0_ n1_ n2_ n3_; (try clear hb); (try clear hb2); (try clear hk); (try clear hi)) | ((with_reducible refine gate_callee (f := 81) rfl ?_); refine goesL_ (some 19) rfl rfl Try.func81 (by kernel_rfl) rfl #[.pointer (some ⟨g, 0, none⟩), .int .i64 80] rfl (by (try simp only [List.map_toArray, List.map_cons, List.map_nil]); first | done | rfl | (simp only [List.length_drop, List.length_take]; rfl)) ?_; (with_reducible refine (spec_l1Cur_pick.calls g s0_0 t108 t109 80 t110 t111 t112 w0 _ ?side1 ?side2 A8.out).mono ?_); (case side1 => exact IsS79.below HI0.out Ho.Steps.below); (case side2 => exact eS HB.out); rintro e w12 ⟨rfl, hi, hb, hk⟩; refine ⟨_, rfl, ?_⟩; have n0_ := Aside0.mk (Kd.R_mono (Kd.R_keep (IsS79.apart (show IsS79 w0 _ g s0_0 t108 t109 from by exact IsS79.below HI0.out Ho.Steps.below) (by exact Ho.RS <| HO_3.out) (by decide)) hk (fun _ h => h.2)) (fun _ h => h.1)); have n1_ := Aside0.mk (KeepBut.trans (by exact Ho.kS HK.out) hk (.inl rfl)); have n2_ := Aside0.mk (hb); have n3_ := Aside0.mk (hi); clear HO_3; clear HK; clear HB; clear HI0; have HO_3 := n0_; have HK := n1_; have HB := n2_; have HI0 := n3_; clear n0_ n1_ n2_ n3_; (try clear hb); (try clear hb2); (try clear hk); (try clear hi)) | ((with_reducible refine gate_callee (f := 82) rfl ?_); refine goesL_ (some 25) rfl rfl Try.func82 (by kernel_rfl) rfl #[.pointer (some ⟨g, 0, none⟩), .int .i64 (wrap64 ((wrap64 ((wrap64 (x4_1 + 1)) + t107)) - (wrap64 (Int.tdiv t110 79))))] rfl (by (try simp only [List.map_toArray, List.map_cons, List.map_nil]); first | done | rfl | (simp only [List.length_drop, List.length_take]; rfl)) ?_; (with_reducible refine (spec_l1Cur_wetCarpet.calls g s0_0 t111 t112 (wrap64 ((wrap64 ((wrap64 (x4_1 + 1)) + t107)) - (wrap64 (Int.tdiv t110 79)))) t113 t114 t115 t116 t117 t118 t119 w0 _ ?side1 ?side2 A9.out).mono ?_); (case side1 => exact IsS79.below HI0.out Ho.Steps.below); (case side2 => exact eS HB.out); rintro e w13 ⟨rfl, hi, hb, hk⟩; refine ⟨_, rfl, ?_⟩; have n0_ := Aside0.mk (Kd.R_mono (Kd.R_keep (IsS79.apart (show IsS79 w0 _ g s0_0 t111 t112 from by exact IsS79.below HI0.out Ho.Steps.below) (by exact Ho.RS <| HO_3.out) (by decide)) hk (fun _ h => h.2)) (fun _ h => h.1)); have n1_ := Aside0.mk (KeepBut.trans (by exact Ho.kS HK.out) hk (.inl rfl)); have n2_ := Aside0.mk (hb); have n3_ := Aside0.mk (hi); clear HO_3; clear HK; clear HB; clear HI0; have HO_3 := n0_; have HK := n1_; have HB := n2_; have HI0 := n3_; clear n0_ n1_ n2_ n3_; (try clear hb); (try clear hb2); (try clear hk); (try clear hi)) | ((with_reducible refine gate_builtin (b := .append) (xs := #[.tmp 22, .tmp 26]) rfl ?_); at_builtin; refine Kd.R_append k25 w.heap.size rfl (.tmp 22) (.tmp 26) 35 25 (.agg #[(.int .i64 0), (.int .i64 0), (.int .i64 0), (.int .i64 0), (.int .i64 0)]) 40 rfl Try.underlying35 info25 rfl (by decide) (by omega) u3 x3_1 (⟨t113, t114, t115, t116, t117⟩ : S25) [.int .i64 t113, .int .i64 t114, .int .i64 t115, .int .i64 t116, .int .i64 t117] (fun _ => True) (fun _ => False) rfl rfl ?aP (fun _ hk => hk.elim) ?aF ?aO (Below.refl _ _) ?aS ?aL ?_; (case aP => exact k25_mkM _ _ _ (⟨t113, t114, t115, t116, t117⟩ : S25)); (case aF => exact (fun _ _ => trivial)); (case aO => exact (by exact Ho.RS <| HO_3.out)); (case aS => exact (keep_size (w := w) (g := g) (row := none) (by exact Ho.kS HK.out))); (case aL => have := LMc10.out; omega); intro v121 w14 ho hb hg hat; rw [← Ny120.out] at ho; have n0_ := Aside0.mk (IsS79.grown (by exact IsS79.below HI0.out Ho.Steps.below) hg (IsS79.own_ne HI0.out HO_3.out (by decide))); have n1_ := Aside0.mk (below_weaken (by exact eS HB.out) HL.out hb); have n2_ := Aside0.mk (KeepBut.trans (by exact Ho.kS HK.out) (KeepBut.of_grown hg g) (Kd.R_base2 HO_3.out)); have n3_ := Aside0.mk (ho); clear HI0; clear HB; clear HK; clear HO_3; have HI0 := n0_; have HB := n1_; have HK := n2_; have HO122 := n3_; clear n0_ n1_ n2_ n3_; clear ho hb hg hat))
     go_roundg k1
     case measure => have := HK1.out; omega
     case rel => exact ⟨(y120), (wrap64 ((wrap64 ((wrap64 (x4_1 + 1)) + t107)) - (wrap64 (Int.tdiv t110 79)))), (wrap64 (x5_1 - 1)), (t118), (t119), (by first | rfl | (simp; done) | (simp [*]; done)), (by first | rfl | (simp; done) | (simp [*]; done)), H', ⟨by have := HK1.out; omega⟩, ⟨by exact Ho.RS <| HO122.out⟩, ⟨by exact IsS79.below HI0.out Ho.Steps.below⟩, ⟨by exact Ho.kS HK.out⟩, ⟨by exact eS HB.out⟩⟩
    ·rw [if_neg c10] at H
     exact absurd H (by simp)
   ·rw [if_neg c6] at H
    have c6b0 : decide (0 < x5_1) = false := decide_eq_false c6
    clear c6
    replace H := Option.bind_eq_some_iff.mp H
    obtain ⟨⟨t123, t124, t125⟩, A150, H⟩ := H
    replace H : (if t123 = true then (spec_l1Cur_wetCarpets.l1 k1 x3_1 x4_1 s0_0 t124 t125) else (some (x3_1, t124, t125))) = some (r1, r2, r3) := H
    have A15 := Aside0.mk A150
    clear A150
    by_cases c16 : t123 = true
    ·subst c16
     have H1 : (spec_l1Cur_wetCarpets.l1 k1 x3_1 x4_1 s0_0 t124 t125) = some (r1, r2, r3) := by rw [if_pos rfl] at H; exact H
     clear H
     have H := H1
     clear H1
     have H' := Aside0.mk H
     clear H
     go_wp2_with (first | ((with_reducible refine gate_callee (f := 83) rfl ?_); refine goesL_ (some 29) rfl rfl Try.func83 (by kernel_rfl) rfl #[.pointer (some ⟨g, 0, none⟩), .int .i64 24] rfl (by (try simp only [List.map_toArray, List.map_cons, List.map_nil]); first | done | rfl | (simp only [List.length_drop, List.length_take]; rfl)) ?_; (with_reducible refine (spec_l1Cur_one.calls g s0_0 x1001_1 x1002_1 24 true t124 t125 w0 _ ?side1 ?side2 A15.out).mono ?_); (case side1 => exact IsS79.below HI0.out Ho.Steps.below); (case side2 => exact eS HB.out); rintro e w17 ⟨rfl, hi, hb, hk⟩; refine ⟨_, rfl, ?_⟩; have n0_ := Aside0.mk (Kd.R_mono (Kd.R_keep (IsS79.apart (show IsS79 w0 _ g s0_0 x1001_1 x1002_1 from by exact IsS79.below HI0.out Ho.Steps.below) (by exact Ho.RS <| HO_3.out) (by decide)) hk (fun _ h => h.2)) (fun _ h => h.1)); have n1_ := Aside0.mk (KeepBut.trans (by exact Ho.kS HK.out) hk (.inl rfl)); have n2_ := Aside0.mk (hb); have n3_ := Aside0.mk (hi); clear HO_3; clear HK; clear HB; clear HI0; have HO_3 := n0_; have HK := n1_; have HB := n2_; have HI0 := n3_; clear n0_ n1_ n2_ n3_; (try clear hb); (try clear hb2); (try clear hk); (try clear hi)))
     (try simp only [Act.put, List.setIfInBounds_toArray, List.set_cons_zero, List.set_cons_succ])
     go_loopg [3, 4] k1 (fun kq v3 v4 w' => ∃ (x3_2 : List (S25)) (x4_2 : Int) (x1001_2 : Int) (x1002_2 : Int), v4 = .int .i64 x4_2 ∧ Aside0 (spec_l1Cur_wetCarpets.l1 kq x3_2 x4_2 s0_0 x1001_2 x1002_2 = some (r1, r2, r3)) ∧ Aside0 (kq ≤ k1) ∧ Aside0 (Kd.R k25 25 w' w.heap.size (fun _ => True) v3 x3_2) ∧ Aside0 (IsS79 w0 w' g s0_0 x1001_2 x1002_2) ∧ Aside0 (KeepBut w w' g none) ∧ Aside0 (Below w0.heap.size w0 w'))
     case atStart => exact ⟨(x3_1), (x4_1), (t124), (t125), (by first | rfl | (simp; done) | (simp [*]; done)), H', ⟨Nat.le_refl _⟩, ⟨by exact Ho.RS <| HO_3.out⟩, ⟨by exact IsS79.below HI0.out Ho.Steps.below⟩, ⟨by exact Ho.kS HK.out⟩, ⟨by exact eS HB.out⟩⟩
     case round =>
      clear H'
      try clear c1
      try clear p2
      try clear c6
      try clear c6b0
      try clear p6
      try clear c7
      try clear c8
      try clear c10
      try clear c16
      try clear p2
      obtain ⟨x3_2, x4_2, x1001_2, x1002_2, rfl, HA, HK2, HO_3, HI0, HK, HB⟩ := hrel
      cases gk with
      | zero => exact absurd HA.out (by simp [spec_l1Cur_wetCarpets.l1])
      | succ k2 =>
       have H := HA.out
       clear HA
       simp only [spec_l1Cur_wetCarpets.l1] at H
       replace H := Option.bind_eq_some_iff.mp H
       obtain ⟨⟨t126, t127, t128⟩, A180, H⟩ := H
       replace H : (if (x3_2.length : Int) < (wrap64 (10 + t126)) then (if x3_2.length < 3518437208883 then (spec_l1Cur_wetCarpets.l1 k2 (x3_2 ++ [(⟨wrap64 (x4_2 + 1), 10, 500, 0, 50⟩ : S25)]) (wrap64 (x4_2 + 1)) s0_0 t127 t128) else (none)) else (some (x3_2, t127, t128))) = some (r1, r2, r3) := H
       have A18 := Aside0.mk A180
       clear A180
       by_cases c19 : (x3_2.length : Int) < (wrap64 (10 + t126))
       ·rw [if_pos c19] at H
        have c19b0 : decide ((x3_2.length : Int) < (wrap64 (10 + t126))) = true := decide_eq_true c19
        clear c19
        by_cases c20 : x3_2.length < 3518437208883
        ·rw [if_pos c20] at H
         have LMc20 := Aside0.mk c20
         clear c20
         obtain ⟨y129, hy129⟩ : ∃ y_ : List (S25), y_ = (x3_2 ++ [(⟨wrap64 (x4_2 + 1), 10, 500, 0, 50⟩ : S25)]) := ⟨_, rfl⟩
         replace H : (spec_l1Cur_wetCarpets.l1 k2 y129 (wrap64 (x4_2 + 1)) s0_0 t127 t128) = some (r1, r2, r3) := by first | (rw [hy129]; with_reducible exact H) | (have H2_ := (Option.bind_some _ _).symm.trans H; rw [hy129]; with_reducible exact H2_) | (have H2_ := (Option.bind_some _ _).symm.trans H; with_reducible exact H2_) | with_reducible exact H | (rw [hy129]; exact H) | exact H
         have Ny129 := Aside0.mk hy129
         clear hy129
         have H' := Aside0.mk H
         clear H
         obtain ⟨Ao21, co21, eo21⟩ := Kd.R_slice HO_3.out
         subst eo21
         go_wp2_with (first | ((with_reducible refine gate_callee (f := 81) rfl ?_); refine goesL_ (some 33) rfl rfl Try.func81 (by kernel_rfl) rfl #[.pointer (some ⟨g, 0, none⟩), .int .i64 2] rfl (by (try simp only [List.map_toArray, List.map_cons, List.map_nil]); first | done | rfl | (simp only [List.length_drop, List.length_take]; rfl)) ?_; (with_reducible refine (spec_l1Cur_pick.calls g s0_0 x1001_2 x1002_2 2 t126 t127 t128 w0 _ ?side1 ?side2 A18.out).mono ?_); (case side1 => exact IsS79.below HI0.out Ho.Steps.below); (case side2 => exact eS HB.out); rintro e w22 ⟨rfl, hi, hb, hk⟩; refine ⟨_, rfl, ?_⟩; have n0_ := Aside0.mk (Kd.R_mono (Kd.R_keep (IsS79.apart (show IsS79 w0 _ g s0_0 x1001_2 x1002_2 from by exact IsS79.below HI0.out Ho.Steps.below) (by exact Ho.RS <| HO_3.out) (by decide)) hk (fun _ h => h.2)) (fun _ h => h.1)); have n1_ := Aside0.mk (KeepBut.trans (by exact Ho.kS HK.out) hk (.inl rfl)); have n2_ := Aside0.mk (hb); have n3_ := Aside0.mk (hi); clear HO_3; clear HK; clear HB; clear HI0; have HO_3 := n0_; have HK := n1_; have HB := n2_; have HI0 := n3_; clear n0_ n1_ n2_ n3_; (try clear hb); (try clear hb2); (try clear hk); (try clear hi)) | ((with_reducible refine gate_builtin (b := .append) (xs := #[.tmp 38, .tmp 41]) rfl ?_); at_builtin; refine Kd.R_append k25 w.heap.size rfl (.tmp 38) (.tmp 41) 35 25 (.agg #[(.int .i64 0), (.int .i64 0), (.int .i64 0), (.int .i64 0), (.int .i64 0)]) 40 rfl Try.underlying35 info25 rfl (by decide) (by omega) (.slice Ao21 x3_2.length co21) x3_2 (⟨wrap64 (x4_2 + 1), 10, 500, 0, 50⟩ : S25) [.int .i64 (wrap64 (x4_2 + 1)), .int .i64 10, .int .i64 500, .int .i64 0, .int .i64 50] (fun _ => True) (fun _ => False) rfl rfl ?aP (fun _ hk => hk.elim) ?aF ?aO (Below.refl _ _) ?aS ?aL ?_; (case aP => exact k25_mkM _ _ _ (⟨wrap64 (x4_2 + 1), 10, 500, 0, 50⟩ : S25)); (case aF => exact (fun _ _ => trivial)); (case aO => exact (by exact Ho.RS <| HO_3.out)); (case aS => exact (keep_size (w := w) (g := g) (row := none) (by exact Ho.kS HK.out))); (case aL => have := LMc20.out; omega); intro v130 w23 ho hb hg hat; rw [← Ny129.out] at ho; have n0_ := Aside0.mk (IsS79.grown (by exact IsS79.below HI0.out Ho.Steps.below) hg (IsS79.own_ne HI0.out HO_3.out (by decide))); have n1_ := Aside0.mk (below_weaken (by exact eS HB.out) HL.out hb); have n2_ := Aside0.mk (KeepBut.trans (by exact Ho.kS HK.out) (KeepBut.of_grown hg g) (Kd.R_base2 HO_3.out)); have n3_ := Aside0.mk (ho); clear HI0; clear HB; clear HK; clear HO_3; have HI0 := n0_; have HB := n1_; have HK := n2_; have HO131 := n3_; clear n0_ n1_ n2_ n3_; clear ho hb hg hat))
         go_roundg k2
         case measure => have := HK1.out; have := HK2.out; omega
         case rel => exact ⟨(y129), (wrap64 (x4_2 + 1)), (t127), (t128), (by first | rfl | (simp; done) | (simp [*]; done)), H', ⟨by have := HK1.out; have := HK2.out; omega⟩, ⟨by exact Ho.RS <| HO131.out⟩, ⟨by exact IsS79.below HI0.out Ho.Steps.below⟩, ⟨by exact Ho.kS HK.out⟩, ⟨by exact eS HB.out⟩⟩
        ·rw [if_neg c20] at H
         exact absurd H (by simp)
       ·rw [if_neg c19] at H
        have c19b0 : decide ((x3_2.length : Int) < (wrap64 (10 + t126))) = false := decide_eq_false c19
        clear c19
        simp only [Option.some.injEq, Prod.mk.injEq] at H
        obtain ⟨rfl, rfl, rfl⟩ := H
        obtain ⟨Ao24, co24, eo24⟩ := Kd.R_slice HO_3.out
        subst eo24
        go_wp2_with (first | ((with_reducible refine gate_callee (f := 81) rfl ?_); refine goesL_ (some 33) rfl rfl Try.func81 (by kernel_rfl) rfl #[.pointer (some ⟨g, 0, none⟩), .int .i64 2] rfl (by (try simp only [List.map_toArray, List.map_cons, List.map_nil]); first | done | rfl | (simp only [List.length_drop, List.length_take]; rfl)) ?_; (with_reducible refine (spec_l1Cur_pick.calls g s0_0 x1001_2 x1002_2 2 t126 t127 t128 w0 _ ?side1 ?side2 A18.out).mono ?_); (case side1 => exact IsS79.below HI0.out Ho.Steps.below); (case side2 => exact eS HB.out); rintro e w25 ⟨rfl, hi, hb, hk⟩; refine ⟨_, rfl, ?_⟩; have n0_ := Aside0.mk (Kd.R_mono (Kd.R_keep (IsS79.apart (show IsS79 w0 _ g s0_0 x1001_2 x1002_2 from by exact IsS79.below HI0.out Ho.Steps.below) (by exact Ho.RS <| HO_3.out) (by decide)) hk (fun _ h => h.2)) (fun _ h => h.1)); have n1_ := Aside0.mk (KeepBut.trans (by exact Ho.kS HK.out) hk (.inl rfl)); have n2_ := Aside0.mk (hb); have n3_ := Aside0.mk (hi); clear HO_3; clear HK; clear HB; clear HI0; have HO_3 := n0_; have HK := n1_; have HB := n2_; have HI0 := n3_; clear n0_ n1_ n2_ n3_; (try clear hb); (try clear hb2); (try clear hk); (try clear hi)))
        go_ret
        exact ⟨_, by first | rfl | (simp [errW_none, errW_some] <;> rfl) | (simp [*, errW_none, errW_some] <;> rfl), by exact Ho.RS <| HO_3.out, by exact IsS79.below HI0.out Ho.Steps.below, by exact eS HB.out, by exact Ho.kS HK.out⟩
    ·replace c16 := Bool.eq_false_iff.mpr c16
     subst c16
     have H1 : (some (x3_1, t124, t125)) = some (r1, r2, r3) := by rw [if_neg (show ¬ (false = true) by decide)] at H; exact H
     clear H
     have H := H1
     clear H1
     simp only [Option.some.injEq, Prod.mk.injEq] at H
     obtain ⟨rfl, rfl, rfl⟩ := H
     go_wp2_with (first | ((with_reducible refine gate_callee (f := 83) rfl ?_); refine goesL_ (some 29) rfl rfl Try.func83 (by kernel_rfl) rfl #[.pointer (some ⟨g, 0, none⟩), .int .i64 24] rfl (by (try simp only [List.map_toArray, List.map_cons, List.map_nil]); first | done | rfl | (simp only [List.length_drop, List.length_take]; rfl)) ?_; (with_reducible refine (spec_l1Cur_one.calls g s0_0 x1001_1 x1002_1 24 false t124 t125 w0 _ ?side1 ?side2 A15.out).mono ?_); (case side1 => exact IsS79.below HI0.out Ho.Steps.below); (case side2 => exact eS HB.out); rintro e w26 ⟨rfl, hi, hb, hk⟩; refine ⟨_, rfl, ?_⟩; have n0_ := Aside0.mk (Kd.R_mono (Kd.R_keep (IsS79.apart (show IsS79 w0 _ g s0_0 x1001_1 x1002_1 from by exact IsS79.below HI0.out Ho.Steps.below) (by exact Ho.RS <| HO_3.out) (by decide)) hk (fun _ h => h.2)) (fun _ h => h.1)); have n1_ := Aside0.mk (KeepBut.trans (by exact Ho.kS HK.out) hk (.inl rfl)); have n2_ := Aside0.mk (hb); have n3_ := Aside0.mk (hi); clear HO_3; clear HK; clear HB; clear HI0; have HO_3 := n0_; have HK := n1_; have HB := n2_; have HI0 := n3_; clear n0_ n1_ n2_ n3_; (try clear hb); (try clear hb2); (try clear hk); (try clear hi)))
     go_ret
     exact ⟨_, by first | rfl | (simp [errW_none, errW_some] <;> rfl) | (simp [*, errW_none, errW_some] <;> rfl), by exact Ho.RS <| HO_3.out, by exact IsS79.below HI0.out Ho.Steps.below, by exact eS HB.out, by exact Ho.kS HK.out⟩

end Go.Proofs.Ytdennkmfjkgfhaa.X

-- Xspecl1CurwetIdF85
namespace Go.Proofs.Ytdennkmfjkgfhaa.X
open Ho (bS eS)
open Go.RowKit Go.Proofs.YtdennkmfjkgfhaaW.PrintWords Go.Proofs.YtdennkmfjkgfhaaW.PrintLast Go.Proofs.YtdennkmfjkgfhaaW.PrintMore
attribute [local go_sem] max2_int min2_int max_two min_two max_three min_three max_four min_four   -- for this text's walks alone
set_option linter.unusedVariables false
set_option linter.unusedSimpArgs false
open Sq (I O Z)

/-! ### spec_l1Cur_wetId: function 85 -/
def spec_l1Cur_wetId.j0 : Nat → List (S25) → Bool → List Int → Int → Int → Option (Int × Int × Int)
  | 0, _, _, _, _, _ => none
  | k + 1, x1, x11, x1000, x1001, x1002 => if x11 = true then ((spec_l1Cur_among.f x1000 x1001 x1002 (([0, 1, 500] : List Int))).bind fun bt107 => (some (bt107.1, bt107.2.1, bt107.2.2))) else ((spec_l1Cur_pick.f x1000 x1001 x1002 (x1.length : Int)).bind fun bt110 => (if 0 ≤ bt110.1 then (if bt110.1 < (x1.length : Int) then (some ((rd_T25 x1 bt110.1).f0, bt110.2.1, bt110.2.2)) else (none)) else (none)))
def spec_l1Cur_wetId.f (k : Nat) (s0_0 : List Int) (s0_1 : Int) (s0_2 : Int) (l1 : List (S25)) : Option (Int × Int × Int) := if (l1.length : Int) = 0 then (spec_l1Cur_wetId.j0 k l1 true s0_0 s0_1 s0_2) else ((spec_l1Cur_one.f s0_0 s0_1 s0_2 10).bind fun bt101 => (spec_l1Cur_wetId.j0 k l1 bt101.1 s0_0 bt101.2.1 bt101.2.2))
theorem spec_l1Cur_wetId.mono_l : ∀ k, (∀ y0 y1 y2 y3 y4, LeO (spec_l1Cur_wetId.j0 k y0 y1 y2 y3 y4) (spec_l1Cur_wetId.j0 (k + 1) y0 y1 y2 y3 y4))
  | 0 => fun _ _ _ _ _ r h => by simp [spec_l1Cur_wetId.j0] at h
  | k + 1 => by
    have ih0 := spec_l1Cur_wetId.mono_l k
    · intro y0 y1 y2 y3 y4
      unfold spec_l1Cur_wetId.j0
      repeat' first
      | (with_reducible exact ih0 _ _ _ _ _)
      | (with_reducible exact LeO.refl _)
      | (with_reducible exact LeO.none _)
      | (with_reducible refine LeO.ite ?_ ?_)
      | (with_reducible refine LeO.bind ?_ (fun _ => ?_))
      | exact ih0 _ _ _ _ _
      | exact LeO.none _
      | refine LeO.ite ?_ ?_
      | refine LeO.bind ?_ (fun _ => ?_)
theorem spec_l1Cur_wetId.mono : ∀ a0 a1 a2 a3 k, LeO (spec_l1Cur_wetId.f k a0 a1 a2 a3) (spec_l1Cur_wetId.f (k + 1) a0 a1 a2 a3) := by
  intro a0 a1 a2 a3 k
  have ih0 := spec_l1Cur_wetId.mono_l k
  unfold spec_l1Cur_wetId.f
  repeat' first
      | (with_reducible exact ih0 _ _ _ _ _)
      | (with_reducible exact LeO.refl _)
      | (with_reducible exact LeO.none _)
      | (with_reducible refine LeO.ite ?_ ?_)
      | (with_reducible refine LeO.bind ?_ (fun _ => ?_))
      | exact ih0 _ _ _ _ _
      | exact LeO.none _
      | refine LeO.ite ?_ ?_
      | refine LeO.bind ?_ (fun _ => ?_)
set_option maxHeartbeats 8000000 in
set_option maxRecDepth 100000 in
theorem spec_l1Cur_wetId.calls (k : Nat) (g : Nat) (s0_0 : List Int) (s0_1 : Int) (s0_2 : Int) (A1 : Option Addr) (c1 : Nat) (l1 : List (S25)) (r1 : Int) (r2 : Int) (r3 : Int) (w0 w : World) (hI : IsS79 w0 w g s0_0 s0_1 s0_2) (hB : Below w0.heap.size w0 w) (hr1 : ∀ W_, KeepBut w W_ g none → Kd.C k25 W_ A1 l1.length l1) (hc1 : l1.length ≤ c1) (h : spec_l1Cur_wetId.f k s0_0 s0_1 s0_2 l1 = some (r1, r2, r3)) :
  Calls Try.prog 85 #[.pointer (some ⟨g, 0, none⟩), .slice A1 l1.length c1] w fun e w' => e = .returned (.int .i64 r1) ∧ IsS79 w0 w' g s0_0 r2 r3 ∧ Below w0.heap.size w0 w' ∧ KeepBut w w' g none := by
 have HR1 := Aside0.mk hr1
 have HC1 := Aside0.mk hc1
 clear hr1 hc1
 have HI0 := Aside0.mk hI
 have HK := Aside0.mk (KeepBut.refl w g none)
 have HL := Aside0.mk hB.size
 clear hI
 have HW0 := Aside0.mk hB.size
 have HB := Aside0.mk hB
 clear hB
 have H : (if (l1.length : Int) = 0 then (spec_l1Cur_wetId.j0 k l1 true s0_0 s0_1 s0_2) else ((spec_l1Cur_one.f s0_0 s0_1 s0_2 10).bind fun bt101 => (spec_l1Cur_wetId.j0 k l1 bt101.1 s0_0 bt101.2.1 bt101.2.2))) = some (r1, r2, r3) := h
 clear h
 have HC3 := Aside0.mk H
 clear H
 go_enter Try.func85, Try.ntmps85
 go_upto_region 1 with (fail)
 go_cut [11] (fun v11 wc => ∃ (kq : Nat) (x11_2 : Bool) (x1001_2 : Int) (x1002_2 : Int), v11 = .bool x11_2 ∧ Aside0 (spec_l1Cur_wetId.j0 kq l1 x11_2 s0_0 x1001_2 x1002_2 = some (r1, r2, r3)) ∧ Aside0 (kq ≤ k) ∧ Aside0 (IsS79 w0 wc g s0_0 x1001_2 x1002_2) ∧ Aside0 (KeepBut w wc g none) ∧ Aside0 (Below w0.heap.size w0 wc))
 case first =>
  have H := HC3.out
  clear HC3
  by_cases c4 : (l1.length : Int) = 0
  ·rw [if_pos c4] at H
   have c4b0 : ((l1.length : Int) == 0) = true := beq_iff_eq.mpr c4
   have c4b1 : ((l1.length : Int) != 0) = false := bne_eq_false_iff_eq.mpr c4
   clear c4
   (first | rw [c4b0] | (simp only [i64_w, i32_w]; rw [c4b0]) | skip)
   have H' := Aside0.mk H
   clear H
   go_wp2
   go_meet
   case rel => exact ⟨_, (true), (s0_1), (s0_2), (by first | rfl | (simp; done) | (simp [*]; done)), H', ⟨by first | omega | exact Nat.le_refl _⟩, ⟨by exact IsS79.below HI0.out Ho.Steps.below⟩, ⟨by exact Ho.kS HK.out⟩, ⟨by exact eS HB.out⟩⟩
  ·rw [if_neg c4] at H
   have c4b0 : ((l1.length : Int) == 0) = false := beq_eq_false_iff_ne.mpr c4
   have c4b1 : ((l1.length : Int) != 0) = true := bne_iff_ne.mpr c4
   have c4b2 : ¬ (l1 = []) := fun h_ => c4 (by rw [h_]; rfl)
   (first | rw [c4b0] | (simp only [i64_w, i32_w]; rw [c4b0]) | skip)
   replace H := Option.bind_eq_some_iff.mp H
   obtain ⟨⟨t101, t102, t103⟩, A50, H⟩ := H
   replace H : (spec_l1Cur_wetId.j0 k l1 t101 s0_0 t102 t103) = some (r1, r2, r3) := H
   have A5 := Aside0.mk A50
   clear A50
   have H' := Aside0.mk H
   clear H
   go_wp2_with (first | (go_at_call 83; (with_reducible refine (spec_l1Cur_one.calls g s0_0 s0_1 s0_2 10 t101 t102 t103 w0 _ ?side1 ?side2 A5.out).mono ?_); (case side1 => exact IsS79.below HI0.out Ho.Steps.below); (case side2 => exact eS HB.out); rintro e w6 ⟨rfl, hi, hb, hk⟩; have n0_ := Aside0.mk (KeepBut.trans (by exact Ho.kS HK.out) hk (.inl rfl)); have n1_ := Aside0.mk (hb); have n2_ := Aside0.mk (hi); clear HK; clear HB; clear HI0; have HK := n0_; have HB := n1_; have HI0 := n2_; clear n0_ n1_ n2_; (try clear hb); (try clear hb2); (try clear hk); (try clear hi)))
   go_meet
   case rel => exact ⟨_, (t101), (t102), (t103), (by first | rfl | (simp; done) | (simp [*]; done)), H', ⟨by first | omega | exact Nat.le_refl _⟩, ⟨by exact IsS79.below HI0.out Ho.Steps.below⟩, ⟨by exact Ho.kS HK.out⟩, ⟨by exact eS HB.out⟩⟩
 case rest =>
  clear HC3
  try clear c1
  try clear p2
  try clear c4
  try clear c4b0
  try clear c4b1
  try clear c4b2
  obtain ⟨kq, x11_2, x1001_2, x1002_2, rfl, HA, HJ2, HI0, HK, HB⟩ := hcut
  cases kq with
  | zero => exact absurd HA.out (by simp [spec_l1Cur_wetId.j0])
  | succ kj2 =>
   have H := HA.out
   clear HA
   simp only [spec_l1Cur_wetId.j0] at H
   by_cases c7 : x11_2 = true
   ·subst c7
    have H1 : ((spec_l1Cur_among.f s0_0 x1001_2 x1002_2 (([0, 1, 500] : List Int))).bind fun bt107 => (some (bt107.1, bt107.2.1, bt107.2.2))) = some (r1, r2, r3) := by rw [if_pos rfl] at H; exact H
    clear H
    have H := H1
    clear H1
    obtain ⟨y104, hy104⟩ : ∃ y_ : List Int, y_ = (([0, 1, 500] : List Int)) := ⟨_, rfl⟩
    replace H : ((spec_l1Cur_among.f s0_0 x1001_2 x1002_2 y104).bind fun bt107 => (some (bt107.1, bt107.2.1, bt107.2.2))) = some (r1, r2, r3) := by first | (rw [hy104]; with_reducible exact H) | (have H2_ := (Option.bind_some _ _).symm.trans H; rw [hy104]; with_reducible exact H2_) | (have H2_ := (Option.bind_some _ _).symm.trans H; with_reducible exact H2_) | with_reducible exact H | (rw [hy104]; exact H) | exact H
    have Ny104 := Aside0.mk hy104
    clear hy104
    replace H := Option.bind_eq_some_iff.mp H
    obtain ⟨⟨t107, t108, t109⟩, A80, H⟩ := H
    replace H : (some (t107, t108, t109)) = some (r1, r2, r3) := H
    have A8 := Aside0.mk A80
    clear A80
    simp only [Option.some.injEq, Prod.mk.injEq] at H
    obtain ⟨rfl, rfl, rfl⟩ := H
    go_wp2_with (first | ((with_reducible refine gate_dst (N := 13) rfl ?_); refine Kd.R_lit (Kd.int .i64) _ 3 ?hg (N := 13) ?hd (xs := ([0, 1, 500] : List Int)) (inner := [.int .i64 0, .int .i64 1, .int .i64 500]) (ok := fun _ => True) (okp := fun _ => True) ?hr ?hp (fun _ hk => hk) trivial (Below.refl _ _) (Nat.le_refl _) (by simp) ?_; (case hd => rfl); (case hg => rfl); (case hr => first | (go_simp; done) | (go_simp; rfl)); (case hp => exact (Reps.one (show Kd.M (Kd.int .i64) _ _ _ 0 [.int .i64 0] from rfl) (Reps.one (show Kd.M (Kd.int .i64) _ _ _ 1 [.int .i64 1] from rfl) (Reps.one (show Kd.M (Kd.int .i64) _ _ _ 500 [.int .i64 500] from rfl) (Reps.none _ _))))); intro v105 w9 ho10 hb hg_ hnew_; clear hg_ hnew_; (first | rw [← Ny104.out] at ho10 | (simp only [Int.reduceToNat] at ho10; rw [← Ny104.out] at ho10)); have n0_ := Aside0.mk (Kd.R_lower ho10 (keep_size (w := w) (g := g) (row := none) (by exact Ho.kS HK.out))); have n1_ := Aside0.mk (IsS79.below (by exact IsS79.below HI0.out Ho.Steps.below) hb); have n2_ := Aside0.mk (KeepBut.trans (by exact Ho.kS HK.out) (KeepBut.of_below hb g none) (.inl rfl)); have n3_ := Aside0.mk (below_step (by exact eS HB.out) hb); clear HI0; clear HK; clear HB; have HO106 := n0_; have HI0 := n1_; have HK := n2_; have HB := n3_; clear n0_ n1_ n2_ n3_; clear hb ho10; obtain ⟨Ao11, co11, eo11⟩ := Kd.R_slice HO106.out; subst eo11) | ((with_reducible refine gate_callee (f := 80) rfl ?_); refine goesL_ (some 14) rfl rfl Try.func80 (by kernel_rfl) rfl #[.pointer (some ⟨g, 0, none⟩), .slice Ao11 y104.length co11] rfl (by (try simp only [List.map_toArray, List.map_cons, List.map_nil]); first | done | rfl | (simp only [List.length_drop, List.length_take]; rfl)) ?_; (with_reducible refine (spec_l1Cur_among.calls g s0_0 x1001_2 x1002_2 _ _ y104 t107 t108 t109 w0 _ ?side1 ?side2 ?side3 ?side4 ?side5 A8.out).mono ?_); (case side1 => exact IsS79.below HI0.out Ho.Steps.below); (case side2 => exact eS HB.out); (case side3 => repeat (first | exact (Kd.R_reads' HO106.out).2.2 | (with_reducible refine Kd.C_alloc ?_ _) | (with_reducible refine Kd.C_drewN ?_ _) | (with_reducible refine Kd.C_drew ?_))); (case side4 => exact (Kd.R_reads' HO106.out).2.1); (case side5 => exact far_slice (IsS79.own_ne HI0.out HO106.out (by decide))); rintro e w12 ⟨rfl, hi, hb, hk⟩; refine ⟨_, rfl, ?_⟩; have n0_ := Aside0.mk (Kd.R_mono (Kd.R_keep (IsS79.apart (show IsS79 w0 _ g s0_0 x1001_2 x1002_2 from by exact IsS79.below HI0.out Ho.Steps.below) (by exact Ho.RS <| HO106.out) (by decide)) hk (fun _ h => h.2)) (fun _ h => h.1)); have n1_ := Aside0.mk (KeepBut.trans (by exact Ho.kS HK.out) hk (.inl rfl)); have n2_ := Aside0.mk (hb); have n3_ := Aside0.mk (hi); clear HO106; clear HK; clear HB; clear HI0; have HO106 := n0_; have HK := n1_; have HB := n2_; have HI0 := n3_; clear n0_ n1_ n2_ n3_; (try clear hb); (try clear hb2); (try clear hk); (try clear hi)))
    go_ret
    exact ⟨by first | rfl | (simp [errW_none, errW_some] <;> rfl) | (simp [*, errW_none, errW_some] <;> rfl), by exact IsS79.below HI0.out Ho.Steps.below, by exact eS HB.out, by exact Ho.kS HK.out⟩
   ·replace c7 := Bool.eq_false_iff.mpr c7
    subst c7
    have H1 : ((spec_l1Cur_pick.f s0_0 x1001_2 x1002_2 (l1.length : Int)).bind fun bt110 => (if 0 ≤ bt110.1 then (if bt110.1 < (l1.length : Int) then (some ((rd_T25 l1 bt110.1).f0, bt110.2.1, bt110.2.2)) else (none)) else (none))) = some (r1, r2, r3) := by rw [if_neg (show ¬ (false = true) by decide)] at H; exact H
    clear H
    have H := H1
    clear H1
    replace H := Option.bind_eq_some_iff.mp H
    obtain ⟨⟨t110, t111, t112⟩, A130, H⟩ := H
    replace H : (if 0 ≤ t110 then (if t110 < (l1.length : Int) then (some ((rd_T25 l1 t110).f0, t111, t112)) else (none)) else (none)) = some (r1, r2, r3) := H
    have A13 := Aside0.mk A130
    clear A130
    by_cases c14 : 0 ≤ t110
    ·rw [if_pos c14] at H
     have c14b0 : decide (0 ≤ t110) = true := decide_eq_true c14
     clear c14
     by_cases c15 : t110 < (l1.length : Int)
     ·rw [if_pos c15] at H
      have c15b0 : decide (t110 < (l1.length : Int)) = true := decide_eq_true c15
      clear c15
      simp only [Option.some.injEq, Prod.mk.injEq] at H
      obtain ⟨rfl, rfl, rfl⟩ := H
      go_wp2_with (first | ((with_reducible refine gate_callee (f := 81) rfl ?_); refine goesL_ (some 19) rfl rfl Try.func81 (by kernel_rfl) rfl #[.pointer (some ⟨g, 0, none⟩), .int .i64 (l1.length : Int)] rfl (by (try simp only [List.map_toArray, List.map_cons, List.map_nil]); first | done | rfl | (simp only [List.length_drop, List.length_take]; rfl)) ?_; (with_reducible refine (spec_l1Cur_pick.calls g s0_0 x1001_2 x1002_2 (l1.length : Int) t110 t111 t112 w0 _ ?side1 ?side2 A13.out).mono ?_); (case side1 => exact IsS79.below HI0.out Ho.Steps.below); (case side2 => exact eS HB.out); rintro e w16 ⟨rfl, hi, hb, hk⟩; refine ⟨_, rfl, ?_⟩; have n0_ := Aside0.mk (KeepBut.trans (by exact Ho.kS HK.out) hk (.inl rfl)); have n1_ := Aside0.mk (hb); have n2_ := Aside0.mk (hi); clear HK; clear HB; clear HI0; have HK := n0_; have HB := n1_; have HI0 := n2_; clear n0_ n1_ n2_; (try clear hb); (try clear hb2); (try clear hk); (try clear hi); have p113 : 0 ≤ (t110 : Int) := of_decide_eq_true (by first | (with_reducible assumption) | assumption); have q113 : t110 < (l1.length : Int) := of_decide_eq_true (by first | (with_reducible assumption) | assumption); obtain ⟨ad113, e113, hx113_0, hx113_1, hx113_2, hx113_3, hx113_4⟩ := at_T25 (Kd.C_foot_now HR1.out HK.out) t110 p113 q113; cases e113; replace p113 := eq_true p113; replace q113 := eq_true q113))
      go_ret
      exact ⟨by first | rfl | (simp [errW_none, errW_some] <;> rfl) | (simp [*, errW_none, errW_some] <;> rfl), by exact IsS79.below HI0.out Ho.Steps.below, by exact eS HB.out, by exact Ho.kS HK.out⟩
     ·rw [if_neg c15] at H
      exact absurd H (by simp)
    ·rw [if_neg c14] at H
     exact absurd H (by simp)

end Go.Proofs.Ytdennkmfjkgfhaa.X
