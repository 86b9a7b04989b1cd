/- What the law FnExactCallOff needs, part 5 of 5: what each function of the program that it reaches returns (printed by this session's own program, checked by Lean), and plain mathematics about it. Conditions: those of each theorem. -/
import Derived.Test.YtahfahlbdgbfeaaDoorZBD
-- XimplceilDivF86
namespace Go.Proofs.YtahfahlbdgbfeaaDoor.X
open Ho (bS eS)
open Go.RowKit Go.Proofs.YtahfahlbdgbfeaaDoorW.PrintWords Go.Proofs.YtahfahlbdgbfeaaDoorW.PrintLast Go.Proofs.YtahfahlbdgbfeaaDoorW.PrintMore
attribute [local go_sem] max2_int min2_int max_two min_two max_three min_three max_four min_four   -- for this text's walks alone
set_option linter.unusedVariables false
set_option linter.unusedSimpArgs false

/-! ### impl_ceilDiv: function 86 -/
def impl_ceilDiv.f (a0 : Int) (a1 : Int) : Option (Int) := if a1 = 0 then (none) else (some (wrap64 (Int.tdiv (wrap64 ((wrap64 (a0 + a1)) - 1)) a1)))
set_option maxHeartbeats 8000000 in
set_option maxRecDepth 100000 in
theorem impl_ceilDiv.calls (a0 : Int) (a1 : Int) (r : Int) (w : World) (h : impl_ceilDiv.f a0 a1 = some r) :
    Calls Tryd.prog 86 #[.int .i64 a0, .int .i64 a1] w fun e w' => e = .returned (.int .i64 r) ∧ Drawn0 w w' := by
  have H : (if a1 = 0 then (none) else (some (wrap64 (Int.tdiv (wrap64 ((wrap64 (a0 + a1)) - 1)) a1)))) = some r := h
  clear h
  by_cases c3 : a1 = 0
  · rw [if_pos c3] at H
    exact absurd H (by simp)
  · rw [if_neg c3] at H
    have c3b0 : (a1 == 0) = false := beq_eq_false_iff_ne.mpr c3
    have c3b1 : (a1 != 0) = true := bne_iff_ne.mpr c3
    obtain rfl := Option.some.inj H
    go_enter Tryd.func86, Tryd.ntmps86
    go_wp2
    go_ret
    exact ⟨by first | rfl | (simp; done) | (simp [*]; done), by repeat (first | exact Drawn0.refl _ | apply Drawn0.step)⟩

end Go.Proofs.YtahfahlbdgbfeaaDoor.X

-- XimplCallOffF42
namespace Go.Proofs.YtahfahlbdgbfeaaDoor.X
open Ho (bS eS)
open Go.RowKit Go.Proofs.YtahfahlbdgbfeaaDoorW.PrintWords Go.Proofs.YtahfahlbdgbfeaaDoorW.PrintLast Go.Proofs.YtahfahlbdgbfeaaDoorW.PrintMore
attribute [local go_sem] max2_int min2_int max_two min_two max_three min_three max_four min_four   -- for this text's walks alone
set_option linter.unusedVariables false
set_option linter.unusedSimpArgs false

attribute [local go_sem ↓] Ho.isSome_setCell_   -- a store leaves all places there
/-! ### impl_CallOff: function 42 -/
def impl_CallOff.j0 : Nat → List (S41) → Int → Int → Bool → Option ((List (S41)) × Int × Bool)
  | 0, _, _, _, _ => none
  | k + 1, x0, x2, x9, x35 => if x35 = true then (some (([] : List (S41)), 0, false)) else (if 0 ≤ x9 then (if x9 < (x0.length : Int) then ((impl_ceilDiv.f ((rd_T41 x0 x9).f6) 2).bind fun t106 => ((impl_withOrder.f k x0 x9 ((rd_T41 x0 x9).f0) ((rd_T41 x0 x9).f1) ((rd_T41 x0 x9).f2) ((rd_T41 x0 x9).f3) 5 ((rd_T41 x0 x9).f5) (wrap64 (((rd_T41 x0 x9).f6) - t106)) x2).bind fun bt107 => (if bt107.2 = true then (some (bt107.1, t106, true)) else (some (([] : List (S41)), 0, false))))) else (none)) else (none))
def impl_CallOff.f (k : Nat) (l0 : List (S41)) (a1 : Int) (a2 : Int) : Option ((List (S41)) × Int × Bool) := (impl_findOrder.f k l0 a1).bind fun t101 => (if t101 < 0 then (impl_CallOff.j0 k l0 a2 t101 true) else (if 0 ≤ t101 then (if t101 < (l0.length : Int) then (if ((rd_T41 l0 t101).f4) > 1 then (impl_CallOff.j0 k l0 a2 t101 true) else (impl_CallOff.j0 k l0 a2 t101 (decide (a2 < ((rd_T41 l0 t101).f7))))) else (none)) else (none)))
theorem impl_CallOff.mono_l : ∀ k, (∀ y0 y1 y2 y3, LeO (impl_CallOff.j0 k y0 y1 y2 y3) (impl_CallOff.j0 (k + 1) y0 y1 y2 y3))
  | 0 => fun _ _ _ _ r h => by simp [impl_CallOff.j0] at h
  | k + 1 => by
    have ih0 := impl_CallOff.mono_l k
    · intro y0 y1 y2 y3
      unfold impl_CallOff.j0
      repeat' first
      | (with_reducible exact ih0 _ _ _ _)
      | (with_reducible exact impl_findOrder.mono _ _ _)
      | (with_reducible exact impl_withOrder.mono _ _ _ _ _ _ _ _ _ _ _)
      | (with_reducible exact LeO.refl _)
      | (with_reducible exact LeO.none _)
      | (with_reducible refine LeO.ite ?_ ?_)
      | (with_reducible refine LeO.bind ?_ (fun _ => ?_))
      | exact ih0 _ _ _ _
      | exact impl_findOrder.mono _ _ _
      | exact impl_withOrder.mono _ _ _ _ _ _ _ _ _ _ _
      | exact LeO.none _
      | refine LeO.ite ?_ ?_
      | refine LeO.bind ?_ (fun _ => ?_)
theorem impl_CallOff.mono : ∀ a0 a1 a2 k, LeO (impl_CallOff.f k a0 a1 a2) (impl_CallOff.f (k + 1) a0 a1 a2) := by
  intro a0 a1 a2 k
  have ih0 := impl_CallOff.mono_l k
  unfold impl_CallOff.f
  repeat' first
      | (with_reducible exact ih0 _ _ _ _)
      | (with_reducible exact impl_findOrder.mono _ _ _)
      | (with_reducible exact impl_withOrder.mono _ _ _ _ _ _ _ _ _ _ _)
      | (with_reducible exact LeO.refl _)
      | (with_reducible exact LeO.none _)
      | (with_reducible refine LeO.ite ?_ ?_)
      | (with_reducible refine LeO.bind ?_ (fun _ => ?_))
      | exact ih0 _ _ _ _
      | exact impl_findOrder.mono _ _ _
      | exact impl_withOrder.mono _ _ _ _ _ _ _ _ _ _ _
      | exact LeO.none _
      | refine LeO.ite ?_ ?_
      | refine LeO.bind ?_ (fun _ => ?_)
set_option maxHeartbeats 8000000 in
set_option maxRecDepth 100000 in
theorem impl_CallOff.calls (k : Nat) (A0 : Option Addr) (c0 : Nat) (l0 : List (S41)) (a1 : Int) (a2 : Int) (r1 : List (S41)) (r2 : Int) (r3 : Bool) (w : World) (hr0 : Kd.C k41 w A0 l0.length l0) (hc0 : l0.length ≤ c0) (h : impl_CallOff.f k l0 a1 a2 = some (r1, r2, r3)) :
    Calls Tryd.prog 42 #[.slice A0 l0.length c0, .int .i64 a1, .int .i64 a2] w fun e w' => ∃ v0_ : Value, e = .returned (.tuple #[v0_, .int .i64 r2, .bool r3]) ∧ Kd.R k41 41 w' w.heap.size (fun _ => True) v0_ r1 ∧ Below w.heap.size w w' := by
  have hu41 := Tryd.underlying41
  have HR0 := Aside0.mk hr0
  have HC0 := Aside0.mk hc0
  clear hr0 hc0
  have HB := Aside0.mk (Below.refl w.heap.size w)
  have H : ((impl_findOrder.f k l0 a1).bind fun t101 => (if t101 < 0 then (impl_CallOff.j0 k l0 a2 t101 true) else (if 0 ≤ t101 then (if t101 < (l0.length : Int) then (if ((rd_T41 l0 t101).f4) > 1 then (impl_CallOff.j0 k l0 a2 t101 true) else (impl_CallOff.j0 k l0 a2 t101 (decide (a2 < ((rd_T41 l0 t101).f7))))) else (none)) else (none)))) = some (r1, r2, r3) := h
  clear h
  replace H := Option.bind_eq_some_iff.mp H
  obtain ⟨t101, A40, H⟩ := H
  replace H : (if t101 < 0 then (impl_CallOff.j0 k l0 a2 t101 true) else (if 0 ≤ t101 then (if t101 < (l0.length : Int) then (if ((rd_T41 l0 t101).f4) > 1 then (impl_CallOff.j0 k l0 a2 t101 true) else (impl_CallOff.j0 k l0 a2 t101 (decide (a2 < ((rd_T41 l0 t101).f7))))) else (none)) else (none))) = some (r1, r2, r3) := H
  have A4 := Aside0.mk A40
  clear A40
  have HC5 := Aside0.mk H
  clear H
  go_enter Tryd.func42, Tryd.ntmps42
  go_upto_region 2 with (first | ((with_reducible refine gate_callee (f := 84) rfl ?_); refine goesL_ (some 16) rfl rfl Tryd.func84 (by kernel_rfl) rfl #[.slice A0 l0.length c0, .int .i64 a1] rfl (by (try simp only [List.map_toArray, List.map_cons, List.map_nil]); first | done | rfl | (simp only [List.length_drop, List.length_take]; rfl)) ?_; (with_reducible refine (impl_findOrder.calls k _ _ l0 a1 t101 _ ?side1 ?side2 A4.out).mono ?_); (case side1 => repeat (first | exact HR0.out | (with_reducible refine Kd.C_alloc ?_ _) | (with_reducible refine Kd.C_drewN ?_ _) | (with_reducible refine Kd.C_drew ?_))); (case side2 => exact HC0.out); rintro e w6 ⟨rfl, hb⟩; refine ⟨_, rfl, ?_⟩; have n0_ := Aside0.mk (below_step (by exact eS HB.out) hb); clear HB; have HB := n0_; clear n0_; (try clear hb); (try clear hb2); (try clear hk); (try clear hi)))
  (try simp only [Act.put, List.setIfInBounds_toArray, List.set_cons_zero, List.set_cons_succ])
  go_cut [35] (fun v35 wc => ∃ (kq : Nat) (x35_4 : Bool), v35 = .bool x35_4 ∧ Aside0 (impl_CallOff.j0 kq l0 a2 t101 x35_4 = some (r1, r2, r3)) ∧ Aside0 (kq ≤ k) ∧ Aside0 (Below w.heap.size w wc))
  case first =>
    have H := HC5.out
    clear HC5
    by_cases c7 : t101 < 0
    · rw [if_pos c7] at H
      have c7b0 : decide (t101 < 0) = true := decide_eq_true c7
      clear c7
      (first | rw [c7b0] | (simp only [i64_w, i32_w]; rw [c7b0]) | skip)
      have H' := Aside0.mk H
      clear H
      go_wp2
      go_meet
      case rel => exact ⟨_, (true), (by first | rfl | (simp; done) | (simp [*]; done)), H', ⟨by first | omega | exact Nat.le_refl _⟩, ⟨by exact eS HB.out⟩⟩
    · rw [if_neg c7] at H
      have c7b0 : decide (t101 < 0) = false := decide_eq_false c7
      clear c7
      (first | rw [c7b0] | (simp only [i64_w, i32_w]; rw [c7b0]) | skip)
      by_cases c8 : 0 ≤ t101
      · rw [if_pos c8] at H
        have c8b0 : decide (0 ≤ t101) = true := decide_eq_true c8
        clear c8
        by_cases c9 : t101 < (l0.length : Int)
        · rw [if_pos c9] at H
          have c9b0 : decide (t101 < (l0.length : Int)) = true := decide_eq_true c9
          clear c9
          by_cases c10 : ((rd_T41 l0 t101).f4) > 1
          · rw [if_pos c10] at H
            have c10b0 : decide (1 < ((rd_T41 l0 t101).f4)) = true := decide_eq_true c10
            clear c10
            have H' := Aside0.mk H
            clear H
            have p102 : 0 ≤ (t101 : Int) := of_decide_eq_true (by first | (with_reducible assumption) | assumption)
            have q102 : t101 < (l0.length : Int) := of_decide_eq_true (by first | (with_reducible assumption) | assumption)
            obtain ⟨ad102, e102, hx102_0, hx102_1, hx102_2, hx102_3, hx102_4, hx102_5, hx102_6, hx102_7⟩ := at_T41 HR0.out t101 p102 q102
            cases e102
            replace hx102_0 := (HB.out.cell (World.block_lt_of_cell? w _ hx102_0)).trans hx102_0
            replace hx102_1 := (HB.out.cell (World.block_lt_of_cell? w _ hx102_1)).trans hx102_1
            replace hx102_2 := (HB.out.cell (World.block_lt_of_cell? w _ hx102_2)).trans hx102_2
            replace hx102_3 := (HB.out.cell (World.block_lt_of_cell? w _ hx102_3)).trans hx102_3
            replace hx102_4 := (HB.out.cell (World.block_lt_of_cell? w _ hx102_4)).trans hx102_4
            replace hx102_5 := (HB.out.cell (World.block_lt_of_cell? w _ hx102_5)).trans hx102_5
            replace hx102_6 := (HB.out.cell (World.block_lt_of_cell? w _ hx102_6)).trans hx102_6
            replace hx102_7 := (HB.out.cell (World.block_lt_of_cell? w _ hx102_7)).trans hx102_7
            replace p102 := eq_true p102
            replace q102 := eq_true q102
            go_wp2
            go_meet
            case rel => exact ⟨_, (true), (by first | rfl | (simp; done) | (simp [*]; done)), H', ⟨by first | omega | exact Nat.le_refl _⟩, ⟨by exact eS HB.out⟩⟩
          · rw [if_neg c10] at H
            have c10b0 : decide (1 < ((rd_T41 l0 t101).f4)) = false := decide_eq_false c10
            clear c10
            have H' := Aside0.mk H
            clear H
            have p102 : 0 ≤ (t101 : Int) := of_decide_eq_true (by first | (with_reducible assumption) | assumption)
            have q102 : t101 < (l0.length : Int) := of_decide_eq_true (by first | (with_reducible assumption) | assumption)
            obtain ⟨ad102, e102, hx102_0, hx102_1, hx102_2, hx102_3, hx102_4, hx102_5, hx102_6, hx102_7⟩ := at_T41 HR0.out t101 p102 q102
            cases e102
            replace hx102_0 := (HB.out.cell (World.block_lt_of_cell? w _ hx102_0)).trans hx102_0
            replace hx102_1 := (HB.out.cell (World.block_lt_of_cell? w _ hx102_1)).trans hx102_1
            replace hx102_2 := (HB.out.cell (World.block_lt_of_cell? w _ hx102_2)).trans hx102_2
            replace hx102_3 := (HB.out.cell (World.block_lt_of_cell? w _ hx102_3)).trans hx102_3
            replace hx102_4 := (HB.out.cell (World.block_lt_of_cell? w _ hx102_4)).trans hx102_4
            replace hx102_5 := (HB.out.cell (World.block_lt_of_cell? w _ hx102_5)).trans hx102_5
            replace hx102_6 := (HB.out.cell (World.block_lt_of_cell? w _ hx102_6)).trans hx102_6
            replace hx102_7 := (HB.out.cell (World.block_lt_of_cell? w _ hx102_7)).trans hx102_7
            replace p102 := eq_true p102
            replace q102 := eq_true q102
            have p103 : 0 ≤ (t101 : Int) := of_decide_eq_true (by first | (with_reducible assumption) | assumption)
            have q103 : t101 < (l0.length : Int) := of_decide_eq_true (by first | (with_reducible assumption) | assumption)
            obtain ⟨ad103, e103, hx103_0, hx103_1, hx103_2, hx103_3, hx103_4, hx103_5, hx103_6, hx103_7⟩ := at_T41 HR0.out t101 p103 q103
            obtain rfl : ad102 = ad103 := (by injection e103)
            replace hx103_0 := (HB.out.cell (World.block_lt_of_cell? w _ hx103_0)).trans hx103_0
            replace hx103_1 := (HB.out.cell (World.block_lt_of_cell? w _ hx103_1)).trans hx103_1
            replace hx103_2 := (HB.out.cell (World.block_lt_of_cell? w _ hx103_2)).trans hx103_2
            replace hx103_3 := (HB.out.cell (World.block_lt_of_cell? w _ hx103_3)).trans hx103_3
            replace hx103_4 := (HB.out.cell (World.block_lt_of_cell? w _ hx103_4)).trans hx103_4
            replace hx103_5 := (HB.out.cell (World.block_lt_of_cell? w _ hx103_5)).trans hx103_5
            replace hx103_6 := (HB.out.cell (World.block_lt_of_cell? w _ hx103_6)).trans hx103_6
            replace hx103_7 := (HB.out.cell (World.block_lt_of_cell? w _ hx103_7)).trans hx103_7
            replace p103 := eq_true p103
            replace q103 := eq_true q103
            go_wp2
            go_meet
            case rel => exact ⟨_, (decide (a2 < ((rd_T41 l0 t101).f7))), (by first | rfl | (simp; done) | (simp [*]; done)), H', ⟨by first | omega | exact Nat.le_refl _⟩, ⟨by exact eS HB.out⟩⟩
        · rw [if_neg c9] at H
          exact absurd H (by simp)
      · rw [if_neg c8] at H
        exact absurd H (by simp)
  case rest =>
    clear HC5
    try clear c1
    try clear p1
    try clear q1
    try clear hx1
    try clear p2
    try clear c4
    try clear c7
    try clear c7b0
    try clear c8
    try clear c8b0
    try clear c9
    try clear c9b0
    try clear c10
    try clear c10b0
    try clear p10
    try clear q10
    try clear hx10
    try clear hx102_0
    try clear hx102_1
    try clear hx102_2
    try clear hx102_3
    try clear hx102_4
    try clear hx102_5
    try clear hx102_6
    try clear hx102_7
    try clear hx103_0
    try clear hx103_1
    try clear hx103_2
    try clear hx103_3
    try clear hx103_4
    try clear hx103_5
    try clear hx103_6
    try clear hx103_7
    try clear p102
    try clear p103
    try clear q102
    try clear q103
    obtain ⟨kq, x35_4, rfl, HA, HJ4, HB⟩ := hcut
    cases kq with
    | zero => exact absurd HA.out (by simp [impl_CallOff.j0])
    | succ kj4 =>
      have H := HA.out
      clear HA
      simp only [impl_CallOff.j0] at H
      by_cases c11 : x35_4 = true
      · subst c11
        have H1 : (some (([] : List (S41)), 0, false)) = some (r1, r2, r3) := by rw [if_pos rfl] at H; exact H
        clear H
        have H := H1
        clear H1
        simp only [Option.some.injEq, Prod.mk.injEq] at H
        obtain ⟨rfl, rfl, rfl⟩ := H
        go_wp2
        go_ret3
        exact ⟨_, by first | rfl | (simp [errW_none, errW_some] <;> rfl) | (simp [*, errW_none, errW_some] <;> rfl), by first | exact Kd.R_nil _ _ _ _ _ | exact Kd.N_nil _ _ _ _ _ | exact Kd.V_nil _ _ _ _ _ | exact Kd.Q_nil _ _ _ _ _ | exact Kd.S_nil _ _ _ _ _, by exact eS HB.out⟩
      · replace c11 := Bool.eq_false_iff.mpr c11
        subst c11
        have H1 : (if 0 ≤ t101 then (if t101 < (l0.length : Int) then ((impl_ceilDiv.f ((rd_T41 l0 t101).f6) 2).bind fun t106 => ((impl_withOrder.f kj4 l0 t101 ((rd_T41 l0 t101).f0) ((rd_T41 l0 t101).f1) ((rd_T41 l0 t101).f2) ((rd_T41 l0 t101).f3) 5 ((rd_T41 l0 t101).f5) (wrap64 (((rd_T41 l0 t101).f6) - t106)) a2).bind fun bt107 => (if bt107.2 = true then (some (bt107.1, t106, true)) else (some (([] : List (S41)), 0, false))))) else (none)) else (none)) = some (r1, r2, r3) := by rw [if_neg (show ¬ (false = true) by decide)] at H; exact H
        clear H
        have H := H1
        clear H1
        by_cases c12 : 0 ≤ t101
        · rw [if_pos c12] at H
          have c12b0 : decide (0 ≤ t101) = true := decide_eq_true c12
          clear c12
          by_cases c13 : t101 < (l0.length : Int)
          · rw [if_pos c13] at H
            have c13b0 : decide (t101 < (l0.length : Int)) = true := decide_eq_true c13
            clear c13
            replace H := Option.bind_eq_some_iff.mp H
            obtain ⟨t106, A140, H⟩ := H
            replace H : ((impl_withOrder.f kj4 l0 t101 ((rd_T41 l0 t101).f0) ((rd_T41 l0 t101).f1) ((rd_T41 l0 t101).f2) ((rd_T41 l0 t101).f3) 5 ((rd_T41 l0 t101).f5) (wrap64 (((rd_T41 l0 t101).f6) - t106)) a2).bind fun bt107 => (if bt107.2 = true then (some (bt107.1, t106, true)) else (some (([] : List (S41)), 0, false)))) = some (r1, r2, r3) := H
            have A14 := Aside0.mk A140
            clear A140
            replace H := Option.bind_eq_some_iff.mp H
            obtain ⟨⟨t107, t110⟩, A150, H⟩ := H
            replace H : (if t110 = true then (some (t107, t106, true)) else (some (([] : List (S41)), 0, false))) = some (r1, r2, r3) := H
            have A15 := Aside0.mk A150
            clear A150
            by_cases c16 : t110 = true
            · subst c16
              have H1 : (some (t107, t106, true)) = some (r1, r2, r3) := by rw [if_pos rfl] at H; exact H
              clear H
              have H := H1
              clear H1
              simp only [Option.some.injEq, Prod.mk.injEq] at H
              obtain ⟨rfl, rfl, rfl⟩ := H
              have p104 : 0 ≤ (t101 : Int) := of_decide_eq_true (by first | (with_reducible assumption) | assumption)
              have q104 : t101 < (l0.length : Int) := of_decide_eq_true (by first | (with_reducible assumption) | assumption)
              obtain ⟨ad104, e104, hx104_0, hx104_1, hx104_2, hx104_3, hx104_4, hx104_5, hx104_6, hx104_7⟩ := at_T41 HR0.out t101 p104 q104
              cases e104
              replace hx104_0 := (HB.out.cell (World.block_lt_of_cell? w _ hx104_0)).trans hx104_0
              replace hx104_1 := (HB.out.cell (World.block_lt_of_cell? w _ hx104_1)).trans hx104_1
              replace hx104_2 := (HB.out.cell (World.block_lt_of_cell? w _ hx104_2)).trans hx104_2
              replace hx104_3 := (HB.out.cell (World.block_lt_of_cell? w _ hx104_3)).trans hx104_3
              replace hx104_4 := (HB.out.cell (World.block_lt_of_cell? w _ hx104_4)).trans hx104_4
              replace hx104_5 := (HB.out.cell (World.block_lt_of_cell? w _ hx104_5)).trans hx104_5
              replace hx104_6 := (HB.out.cell (World.block_lt_of_cell? w _ hx104_6)).trans hx104_6
              replace hx104_7 := (HB.out.cell (World.block_lt_of_cell? w _ hx104_7)).trans hx104_7
              replace p104 := eq_true p104
              replace q104 := eq_true q104
              go_wp2_with (first | ((with_reducible refine gate_dst (N := 10) rfl ?_); refine box_event ?hg (N := 10) ?hd (cs := #[.int .i64 0, .string (⟨#[]⟩ : ByteArray), .int .i64 0, .int .i64 0, .int .i64 0, .int .i64 0, .int .i64 0, .int .i64 0]) (t := 41) ?hr ?_; (case hd => rfl); (case hg => rfl); (case hr => first | (go_simp; done) | (go_simp; rfl)); intro gb105 hg w17 hbox hb; have n0_ := Aside0.mk (below_step (by exact eS HB.out) hb); have n1_ := Aside0.mk (hbox); have n2_ := Aside0.mk ((by rw [hg]; exact (below_size (by exact eS HB.out)) : w.heap.size ≤ gb105)); have n3_ := Aside0.mk ((by rw [hg]; exact (below_size (by exact eS HB.out)) : w.heap.size ≤ gb105)); clear HB; have HB := n0_; have BK105 := n1_; have GW105 := n2_; have GE105 := n3_; clear n0_ n1_ n2_ n3_; clear hb hbox hg; have hcz18_0 : w17.cell? ⟨gb105, 0, none⟩ = some (.int .i64 0) := (blk_cell BK105.out 0).trans rfl; have hcz18_1 : w17.cell? ⟨gb105, 1, none⟩ = some (.string (⟨#[]⟩ : ByteArray)) := (blk_cell BK105.out 1).trans rfl; have hcz18_2 : w17.cell? ⟨gb105, 2, none⟩ = some (.int .i64 0) := (blk_cell BK105.out 2).trans rfl; have hcz18_3 : w17.cell? ⟨gb105, 3, none⟩ = some (.int .i64 0) := (blk_cell BK105.out 3).trans rfl; have hcz18_4 : w17.cell? ⟨gb105, 4, none⟩ = some (.int .i64 0) := (blk_cell BK105.out 4).trans rfl; have hcz18_5 : w17.cell? ⟨gb105, 5, none⟩ = some (.int .i64 0) := (blk_cell BK105.out 5).trans rfl; have hcz18_6 : w17.cell? ⟨gb105, 6, none⟩ = some (.int .i64 0) := (blk_cell BK105.out 6).trans rfl; have hcz18_7 : w17.cell? ⟨gb105, 7, none⟩ = some (.int .i64 0) := (blk_cell BK105.out 7).trans rfl; have hfz18_0 := blk_frozen BK105.out 0; have hfz18_1 := blk_frozen BK105.out 1; have hfz18_2 := blk_frozen BK105.out 2; have hfz18_3 := blk_frozen BK105.out 3; have hfz18_4 := blk_frozen BK105.out 4; have hfz18_5 := blk_frozen BK105.out 5; have hfz18_6 := blk_frozen BK105.out 6; have hfz18_7 := blk_frozen BK105.out 7) | ((with_reducible refine gate_callee (f := 86) rfl ?_); refine goesL_ (some 42) rfl rfl Tryd.func86 (by kernel_rfl) rfl #[.int .i64 ((rd_T41 l0 t101).f6), .int .i64 2] rfl (by (try simp only [List.map_toArray, List.map_cons, List.map_nil]); first | done | rfl | (simp only [List.length_drop, List.length_take]; rfl)) ?_; (with_reducible refine (impl_ceilDiv.calls ((rd_T41 l0 t101).f6) 2 t106 _ A14.out).mono ?_); rintro e w' ⟨rfl, ⟨nd, rfl⟩⟩; refine ⟨_, rfl, ?_⟩) | ((with_reducible refine gate_callee (f := 85) rfl ?_); refine goesL_ (some 55) rfl rfl Tryd.func85 (by kernel_rfl) rfl #[.slice (some ad104) l0.length c0, .int .i64 t101, .agg #[.int .i64 ((rd_T41 l0 t101).f0), .string ((rd_T41 l0 t101).f1), .int .i64 ((rd_T41 l0 t101).f2), .int .i64 ((rd_T41 l0 t101).f3), .int .i64 5, .int .i64 ((rd_T41 l0 t101).f5), .int .i64 (wrap64 (((rd_T41 l0 t101).f6) - t106)), .int .i64 a2]] rfl (by (try simp only [List.map_toArray, List.map_cons, List.map_nil]); first | done | rfl | (simp only [List.length_drop, List.length_take]; rfl)) ?_; (with_reducible refine (impl_withOrder.calls kj4 _ _ l0 t101 ((rd_T41 l0 t101).f0) ((rd_T41 l0 t101).f1) ((rd_T41 l0 t101).f2) ((rd_T41 l0 t101).f3) 5 ((rd_T41 l0 t101).f5) (wrap64 (((rd_T41 l0 t101).f6) - t106)) a2 t107 true _ ?side1 ?side2 A15.out).mono ?_); (case side1 => exact Kd.C_below HR0.out (by repeat (first | (with_reducible first | exact HB.out | apply below_alloc | apply pw_below_drewN | apply below_drew1 | refine below_set ?_ GE105.out) | exact HB.out))); (case side2 => exact HC0.out); rintro e w19 ⟨v108, rfl, ho0, hb⟩; refine ⟨_, rfl, ?_⟩; have n0_ := Aside0.mk (Kd.R_lower (Kd.R_newB ho0 (g := gb105) (o := .cells #[.int .i64 ((rd_T41 l0 t101).f0), .string ((rd_T41 l0 t101).f1), .int .i64 ((rd_T41 l0 t101).f2), .int .i64 ((rd_T41 l0 t101).f3), .int .i64 5, .int .i64 ((rd_T41 l0 t101).f5), .int .i64 (wrap64 (((rd_T41 l0 t101).f6) - t106)), .int .i64 a2] 41 (0, 0)) (by (with_reducible repeat (first | refine blk_drewN ?_ _ | refine blk_drew ?_ | refine blk_alloc ?_ _)); refine blk_put (cs := #[.int .i64 ((rd_T41 l0 t101).f0), .string ((rd_T41 l0 t101).f1), .int .i64 ((rd_T41 l0 t101).f2), .int .i64 ((rd_T41 l0 t101).f3), .int .i64 5, .int .i64 ((rd_T41 l0 t101).f5), .int .i64 (wrap64 (((rd_T41 l0 t101).f6) - t106)), .int .i64 ((rd_T41 l0 t101).f7)]) ?_ 7 _ rfl; (with_reducible repeat (first | refine blk_drewN ?_ _ | refine blk_drew ?_ | refine blk_alloc ?_ _)); refine blk_put (cs := #[.int .i64 ((rd_T41 l0 t101).f0), .string ((rd_T41 l0 t101).f1), .int .i64 ((rd_T41 l0 t101).f2), .int .i64 ((rd_T41 l0 t101).f3), .int .i64 5, .int .i64 ((rd_T41 l0 t101).f5), .int .i64 ((rd_T41 l0 t101).f6), .int .i64 ((rd_T41 l0 t101).f7)]) ?_ 6 _ rfl; (with_reducible repeat (first | refine blk_drewN ?_ _ | refine blk_drew ?_ | refine blk_alloc ?_ _)); refine blk_put (cs := #[.int .i64 ((rd_T41 l0 t101).f0), .string ((rd_T41 l0 t101).f1), .int .i64 ((rd_T41 l0 t101).f2), .int .i64 ((rd_T41 l0 t101).f3), .int .i64 ((rd_T41 l0 t101).f4), .int .i64 ((rd_T41 l0 t101).f5), .int .i64 ((rd_T41 l0 t101).f6), .int .i64 ((rd_T41 l0 t101).f7)]) ?_ 4 _ rfl; (with_reducible repeat (first | refine blk_drewN ?_ _ | refine blk_drew ?_ | refine blk_alloc ?_ _)); refine blk_put (cs := #[.int .i64 ((rd_T41 l0 t101).f0), .string ((rd_T41 l0 t101).f1), .int .i64 ((rd_T41 l0 t101).f2), .int .i64 ((rd_T41 l0 t101).f3), .int .i64 ((rd_T41 l0 t101).f4), .int .i64 ((rd_T41 l0 t101).f5), .int .i64 ((rd_T41 l0 t101).f6), .int .i64 0]) ?_ 7 _ rfl; (with_reducible repeat (first | refine blk_drewN ?_ _ | refine blk_drew ?_ | refine blk_alloc ?_ _)); refine blk_put (cs := #[.int .i64 ((rd_T41 l0 t101).f0), .string ((rd_T41 l0 t101).f1), .int .i64 ((rd_T41 l0 t101).f2), .int .i64 ((rd_T41 l0 t101).f3), .int .i64 ((rd_T41 l0 t101).f4), .int .i64 ((rd_T41 l0 t101).f5), .int .i64 0, .int .i64 0]) ?_ 6 _ rfl; (with_reducible repeat (first | refine blk_drewN ?_ _ | refine blk_drew ?_ | refine blk_alloc ?_ _)); refine blk_put (cs := #[.int .i64 ((rd_T41 l0 t101).f0), .string ((rd_T41 l0 t101).f1), .int .i64 ((rd_T41 l0 t101).f2), .int .i64 ((rd_T41 l0 t101).f3), .int .i64 ((rd_T41 l0 t101).f4), .int .i64 0, .int .i64 0, .int .i64 0]) ?_ 5 _ rfl; (with_reducible repeat (first | refine blk_drewN ?_ _ | refine blk_drew ?_ | refine blk_alloc ?_ _)); refine blk_put (cs := #[.int .i64 ((rd_T41 l0 t101).f0), .string ((rd_T41 l0 t101).f1), .int .i64 ((rd_T41 l0 t101).f2), .int .i64 ((rd_T41 l0 t101).f3), .int .i64 0, .int .i64 0, .int .i64 0, .int .i64 0]) ?_ 4 _ rfl; (with_reducible repeat (first | refine blk_drewN ?_ _ | refine blk_drew ?_ | refine blk_alloc ?_ _)); refine blk_put (cs := #[.int .i64 ((rd_T41 l0 t101).f0), .string ((rd_T41 l0 t101).f1), .int .i64 ((rd_T41 l0 t101).f2), .int .i64 0, .int .i64 0, .int .i64 0, .int .i64 0, .int .i64 0]) ?_ 3 _ rfl; (with_reducible repeat (first | refine blk_drewN ?_ _ | refine blk_drew ?_ | refine blk_alloc ?_ _)); refine blk_put (cs := #[.int .i64 ((rd_T41 l0 t101).f0), .string ((rd_T41 l0 t101).f1), .int .i64 0, .int .i64 0, .int .i64 0, .int .i64 0, .int .i64 0, .int .i64 0]) ?_ 2 _ rfl; (with_reducible repeat (first | refine blk_drewN ?_ _ | refine blk_drew ?_ | refine blk_alloc ?_ _)); refine blk_put (cs := #[.int .i64 ((rd_T41 l0 t101).f0), .string (⟨#[]⟩ : ByteArray), .int .i64 0, .int .i64 0, .int .i64 0, .int .i64 0, .int .i64 0, .int .i64 0]) ?_ 1 _ rfl; (with_reducible repeat (first | refine blk_drewN ?_ _ | refine blk_drew ?_ | refine blk_alloc ?_ _)); refine blk_put (cs := #[.int .i64 0, .string (⟨#[]⟩ : ByteArray), .int .i64 0, .int .i64 0, .int .i64 0, .int .i64 0, .int .i64 0, .int .i64 0]) ?_ 0 _ rfl; exact bS BK105.out)) (below_size (by repeat (first | (with_reducible first | exact HB.out | apply below_alloc | apply pw_below_drewN | apply below_drew1 | refine below_set ?_ GE105.out) | exact HB.out)))); have n1_ := Aside0.mk (blk_below (g := gb105) (o := .cells #[.int .i64 ((rd_T41 l0 t101).f0), .string ((rd_T41 l0 t101).f1), .int .i64 ((rd_T41 l0 t101).f2), .int .i64 ((rd_T41 l0 t101).f3), .int .i64 5, .int .i64 ((rd_T41 l0 t101).f5), .int .i64 (wrap64 (((rd_T41 l0 t101).f6) - t106)), .int .i64 a2] 41 (0, 0)) (by (with_reducible repeat (first | refine blk_drewN ?_ _ | refine blk_drew ?_ | refine blk_alloc ?_ _)); refine blk_put (cs := #[.int .i64 ((rd_T41 l0 t101).f0), .string ((rd_T41 l0 t101).f1), .int .i64 ((rd_T41 l0 t101).f2), .int .i64 ((rd_T41 l0 t101).f3), .int .i64 5, .int .i64 ((rd_T41 l0 t101).f5), .int .i64 (wrap64 (((rd_T41 l0 t101).f6) - t106)), .int .i64 ((rd_T41 l0 t101).f7)]) ?_ 7 _ rfl; (with_reducible repeat (first | refine blk_drewN ?_ _ | refine blk_drew ?_ | refine blk_alloc ?_ _)); refine blk_put (cs := #[.int .i64 ((rd_T41 l0 t101).f0), .string ((rd_T41 l0 t101).f1), .int .i64 ((rd_T41 l0 t101).f2), .int .i64 ((rd_T41 l0 t101).f3), .int .i64 5, .int .i64 ((rd_T41 l0 t101).f5), .int .i64 ((rd_T41 l0 t101).f6), .int .i64 ((rd_T41 l0 t101).f7)]) ?_ 6 _ rfl; (with_reducible repeat (first | refine blk_drewN ?_ _ | refine blk_drew ?_ | refine blk_alloc ?_ _)); refine blk_put (cs := #[.int .i64 ((rd_T41 l0 t101).f0), .string ((rd_T41 l0 t101).f1), .int .i64 ((rd_T41 l0 t101).f2), .int .i64 ((rd_T41 l0 t101).f3), .int .i64 ((rd_T41 l0 t101).f4), .int .i64 ((rd_T41 l0 t101).f5), .int .i64 ((rd_T41 l0 t101).f6), .int .i64 ((rd_T41 l0 t101).f7)]) ?_ 4 _ rfl; (with_reducible repeat (first | refine blk_drewN ?_ _ | refine blk_drew ?_ | refine blk_alloc ?_ _)); refine blk_put (cs := #[.int .i64 ((rd_T41 l0 t101).f0), .string ((rd_T41 l0 t101).f1), .int .i64 ((rd_T41 l0 t101).f2), .int .i64 ((rd_T41 l0 t101).f3), .int .i64 ((rd_T41 l0 t101).f4), .int .i64 ((rd_T41 l0 t101).f5), .int .i64 ((rd_T41 l0 t101).f6), .int .i64 0]) ?_ 7 _ rfl; (with_reducible repeat (first | refine blk_drewN ?_ _ | refine blk_drew ?_ | refine blk_alloc ?_ _)); refine blk_put (cs := #[.int .i64 ((rd_T41 l0 t101).f0), .string ((rd_T41 l0 t101).f1), .int .i64 ((rd_T41 l0 t101).f2), .int .i64 ((rd_T41 l0 t101).f3), .int .i64 ((rd_T41 l0 t101).f4), .int .i64 ((rd_T41 l0 t101).f5), .int .i64 0, .int .i64 0]) ?_ 6 _ rfl; (with_reducible repeat (first | refine blk_drewN ?_ _ | refine blk_drew ?_ | refine blk_alloc ?_ _)); refine blk_put (cs := #[.int .i64 ((rd_T41 l0 t101).f0), .string ((rd_T41 l0 t101).f1), .int .i64 ((rd_T41 l0 t101).f2), .int .i64 ((rd_T41 l0 t101).f3), .int .i64 ((rd_T41 l0 t101).f4), .int .i64 0, .int .i64 0, .int .i64 0]) ?_ 5 _ rfl; (with_reducible repeat (first | refine blk_drewN ?_ _ | refine blk_drew ?_ | refine blk_alloc ?_ _)); refine blk_put (cs := #[.int .i64 ((rd_T41 l0 t101).f0), .string ((rd_T41 l0 t101).f1), .int .i64 ((rd_T41 l0 t101).f2), .int .i64 ((rd_T41 l0 t101).f3), .int .i64 0, .int .i64 0, .int .i64 0, .int .i64 0]) ?_ 4 _ rfl; (with_reducible repeat (first | refine blk_drewN ?_ _ | refine blk_drew ?_ | refine blk_alloc ?_ _)); refine blk_put (cs := #[.int .i64 ((rd_T41 l0 t101).f0), .string ((rd_T41 l0 t101).f1), .int .i64 ((rd_T41 l0 t101).f2), .int .i64 0, .int .i64 0, .int .i64 0, .int .i64 0, .int .i64 0]) ?_ 3 _ rfl; (with_reducible repeat (first | refine blk_drewN ?_ _ | refine blk_drew ?_ | refine blk_alloc ?_ _)); refine blk_put (cs := #[.int .i64 ((rd_T41 l0 t101).f0), .string ((rd_T41 l0 t101).f1), .int .i64 0, .int .i64 0, .int .i64 0, .int .i64 0, .int .i64 0, .int .i64 0]) ?_ 2 _ rfl; (with_reducible repeat (first | refine blk_drewN ?_ _ | refine blk_drew ?_ | refine blk_alloc ?_ _)); refine blk_put (cs := #[.int .i64 ((rd_T41 l0 t101).f0), .string (⟨#[]⟩ : ByteArray), .int .i64 0, .int .i64 0, .int .i64 0, .int .i64 0, .int .i64 0, .int .i64 0]) ?_ 1 _ rfl; (with_reducible repeat (first | refine blk_drewN ?_ _ | refine blk_drew ?_ | refine blk_alloc ?_ _)); refine blk_put (cs := #[.int .i64 0, .string (⟨#[]⟩ : ByteArray), .int .i64 0, .int .i64 0, .int .i64 0, .int .i64 0, .int .i64 0, .int .i64 0]) ?_ 0 _ rfl; exact bS BK105.out) hb); have n2_ := Aside0.mk (below_step (by repeat (first | (with_reducible first | exact HB.out | apply below_alloc | apply pw_below_drewN | apply below_drew1 | refine below_set ?_ GE105.out) | exact HB.out)) hb); clear BK105; clear HB; have HO109 := n0_; have BK105 := n1_; have HB := n2_; clear n0_ n1_ n2_; (try clear hb); (try clear hb2); (try clear hk); (try clear hi); (try clear ho0)))
              go_ret3
              exact ⟨_, by first | rfl | (simp [errW_none, errW_some] <;> rfl) | (simp [*, errW_none, errW_some] <;> rfl), by exact Ho.RS <| Kd.R_mono HO109.out (fun _ hk => trivial), by exact eS HB.out⟩
            · replace c16 := Bool.eq_false_iff.mpr c16
              subst c16
              have H1 : (some (([] : List (S41)), 0, false)) = some (r1, r2, r3) := by rw [if_neg (show ¬ (false = true) by decide)] at H; exact H
              clear H
              have H := H1
              clear H1
              simp only [Option.some.injEq, Prod.mk.injEq] at H
              obtain ⟨rfl, rfl, rfl⟩ := H
              have p104 : 0 ≤ (t101 : Int) := of_decide_eq_true (by first | (with_reducible assumption) | assumption)
              have q104 : t101 < (l0.length : Int) := of_decide_eq_true (by first | (with_reducible assumption) | assumption)
              obtain ⟨ad104, e104, hx104_0, hx104_1, hx104_2, hx104_3, hx104_4, hx104_5, hx104_6, hx104_7⟩ := at_T41 HR0.out t101 p104 q104
              cases e104
              replace hx104_0 := (HB.out.cell (World.block_lt_of_cell? w _ hx104_0)).trans hx104_0
              replace hx104_1 := (HB.out.cell (World.block_lt_of_cell? w _ hx104_1)).trans hx104_1
              replace hx104_2 := (HB.out.cell (World.block_lt_of_cell? w _ hx104_2)).trans hx104_2
              replace hx104_3 := (HB.out.cell (World.block_lt_of_cell? w _ hx104_3)).trans hx104_3
              replace hx104_4 := (HB.out.cell (World.block_lt_of_cell? w _ hx104_4)).trans hx104_4
              replace hx104_5 := (HB.out.cell (World.block_lt_of_cell? w _ hx104_5)).trans hx104_5
              replace hx104_6 := (HB.out.cell (World.block_lt_of_cell? w _ hx104_6)).trans hx104_6
              replace hx104_7 := (HB.out.cell (World.block_lt_of_cell? w _ hx104_7)).trans hx104_7
              replace p104 := eq_true p104
              replace q104 := eq_true q104
              go_wp2_with (first | ((with_reducible refine gate_dst (N := 10) rfl ?_); refine box_event ?hg (N := 10) ?hd (cs := #[.int .i64 0, .string (⟨#[]⟩ : ByteArray), .int .i64 0, .int .i64 0, .int .i64 0, .int .i64 0, .int .i64 0, .int .i64 0]) (t := 41) ?hr ?_; (case hd => rfl); (case hg => rfl); (case hr => first | (go_simp; done) | (go_simp; rfl)); intro gb105 hg w20 hbox hb; have n0_ := Aside0.mk (below_step (by exact eS HB.out) hb); have n1_ := Aside0.mk (hbox); have n2_ := Aside0.mk ((by rw [hg]; exact (below_size (by exact eS HB.out)) : w.heap.size ≤ gb105)); have n3_ := Aside0.mk ((by rw [hg]; exact (below_size (by exact eS HB.out)) : w.heap.size ≤ gb105)); clear HB; have HB := n0_; have BK105 := n1_; have GW105 := n2_; have GE105 := n3_; clear n0_ n1_ n2_ n3_; clear hb hbox hg; have hcz21_0 : w20.cell? ⟨gb105, 0, none⟩ = some (.int .i64 0) := (blk_cell BK105.out 0).trans rfl; have hcz21_1 : w20.cell? ⟨gb105, 1, none⟩ = some (.string (⟨#[]⟩ : ByteArray)) := (blk_cell BK105.out 1).trans rfl; have hcz21_2 : w20.cell? ⟨gb105, 2, none⟩ = some (.int .i64 0) := (blk_cell BK105.out 2).trans rfl; have hcz21_3 : w20.cell? ⟨gb105, 3, none⟩ = some (.int .i64 0) := (blk_cell BK105.out 3).trans rfl; have hcz21_4 : w20.cell? ⟨gb105, 4, none⟩ = some (.int .i64 0) := (blk_cell BK105.out 4).trans rfl; have hcz21_5 : w20.cell? ⟨gb105, 5, none⟩ = some (.int .i64 0) := (blk_cell BK105.out 5).trans rfl; have hcz21_6 : w20.cell? ⟨gb105, 6, none⟩ = some (.int .i64 0) := (blk_cell BK105.out 6).trans rfl; have hcz21_7 : w20.cell? ⟨gb105, 7, none⟩ = some (.int .i64 0) := (blk_cell BK105.out 7).trans rfl; have hfz21_0 := blk_frozen BK105.out 0; have hfz21_1 := blk_frozen BK105.out 1; have hfz21_2 := blk_frozen BK105.out 2; have hfz21_3 := blk_frozen BK105.out 3; have hfz21_4 := blk_frozen BK105.out 4; have hfz21_5 := blk_frozen BK105.out 5; have hfz21_6 := blk_frozen BK105.out 6; have hfz21_7 := blk_frozen BK105.out 7) | ((with_reducible refine gate_callee (f := 86) rfl ?_); refine goesL_ (some 42) rfl rfl Tryd.func86 (by kernel_rfl) rfl #[.int .i64 ((rd_T41 l0 t101).f6), .int .i64 2] rfl (by (try simp only [List.map_toArray, List.map_cons, List.map_nil]); first | done | rfl | (simp only [List.length_drop, List.length_take]; rfl)) ?_; (with_reducible refine (impl_ceilDiv.calls ((rd_T41 l0 t101).f6) 2 t106 _ A14.out).mono ?_); rintro e w' ⟨rfl, ⟨nd, rfl⟩⟩; refine ⟨_, rfl, ?_⟩) | ((with_reducible refine gate_callee (f := 85) rfl ?_); refine goesL_ (some 55) rfl rfl Tryd.func85 (by kernel_rfl) rfl #[.slice (some ad104) l0.length c0, .int .i64 t101, .agg #[.int .i64 ((rd_T41 l0 t101).f0), .string ((rd_T41 l0 t101).f1), .int .i64 ((rd_T41 l0 t101).f2), .int .i64 ((rd_T41 l0 t101).f3), .int .i64 5, .int .i64 ((rd_T41 l0 t101).f5), .int .i64 (wrap64 (((rd_T41 l0 t101).f6) - t106)), .int .i64 a2]] rfl (by (try simp only [List.map_toArray, List.map_cons, List.map_nil]); first | done | rfl | (simp only [List.length_drop, List.length_take]; rfl)) ?_; (with_reducible refine (impl_withOrder.calls kj4 _ _ l0 t101 ((rd_T41 l0 t101).f0) ((rd_T41 l0 t101).f1) ((rd_T41 l0 t101).f2) ((rd_T41 l0 t101).f3) 5 ((rd_T41 l0 t101).f5) (wrap64 (((rd_T41 l0 t101).f6) - t106)) a2 t107 false _ ?side1 ?side2 A15.out).mono ?_); (case side1 => exact Kd.C_below HR0.out (by repeat (first | (with_reducible first | exact HB.out | apply below_alloc | apply pw_below_drewN | apply below_drew1 | refine below_set ?_ GE105.out) | exact HB.out))); (case side2 => exact HC0.out); rintro e w22 ⟨v108, rfl, ho0, hb⟩; refine ⟨_, rfl, ?_⟩; have n0_ := Aside0.mk (Kd.R_lower (Kd.R_newB ho0 (g := gb105) (o := .cells #[.int .i64 ((rd_T41 l0 t101).f0), .string ((rd_T41 l0 t101).f1), .int .i64 ((rd_T41 l0 t101).f2), .int .i64 ((rd_T41 l0 t101).f3), .int .i64 5, .int .i64 ((rd_T41 l0 t101).f5), .int .i64 (wrap64 (((rd_T41 l0 t101).f6) - t106)), .int .i64 a2] 41 (0, 0)) (by (with_reducible repeat (first | refine blk_drewN ?_ _ | refine blk_drew ?_ | refine blk_alloc ?_ _)); refine blk_put (cs := #[.int .i64 ((rd_T41 l0 t101).f0), .string ((rd_T41 l0 t101).f1), .int .i64 ((rd_T41 l0 t101).f2), .int .i64 ((rd_T41 l0 t101).f3), .int .i64 5, .int .i64 ((rd_T41 l0 t101).f5), .int .i64 (wrap64 (((rd_T41 l0 t101).f6) - t106)), .int .i64 ((rd_T41 l0 t101).f7)]) ?_ 7 _ rfl; (with_reducible repeat (first | refine blk_drewN ?_ _ | refine blk_drew ?_ | refine blk_alloc ?_ _)); refine blk_put (cs := #[.int .i64 ((rd_T41 l0 t101).f0), .string ((rd_T41 l0 t101).f1), .int .i64 ((rd_T41 l0 t101).f2), .int .i64 ((rd_T41 l0 t101).f3), .int .i64 5, .int .i64 ((rd_T41 l0 t101).f5), .int .i64 ((rd_T41 l0 t101).f6), .int .i64 ((rd_T41 l0 t101).f7)]) ?_ 6 _ rfl; (with_reducible repeat (first | refine blk_drewN ?_ _ | refine blk_drew ?_ | refine blk_alloc ?_ _)); refine blk_put (cs := #[.int .i64 ((rd_T41 l0 t101).f0), .string ((rd_T41 l0 t101).f1), .int .i64 ((rd_T41 l0 t101).f2), .int .i64 ((rd_T41 l0 t101).f3), .int .i64 ((rd_T41 l0 t101).f4), .int .i64 ((rd_T41 l0 t101).f5), .int .i64 ((rd_T41 l0 t101).f6), .int .i64 ((rd_T41 l0 t101).f7)]) ?_ 4 _ rfl; (with_reducible repeat (first | refine blk_drewN ?_ _ | refine blk_drew ?_ | refine blk_alloc ?_ _)); refine blk_put (cs := #[.int .i64 ((rd_T41 l0 t101).f0), .string ((rd_T41 l0 t101).f1), .int .i64 ((rd_T41 l0 t101).f2), .int .i64 ((rd_T41 l0 t101).f3), .int .i64 ((rd_T41 l0 t101).f4), .int .i64 ((rd_T41 l0 t101).f5), .int .i64 ((rd_T41 l0 t101).f6), .int .i64 0]) ?_ 7 _ rfl; (with_reducible repeat (first | refine blk_drewN ?_ _ | refine blk_drew ?_ | refine blk_alloc ?_ _)); refine blk_put (cs := #[.int .i64 ((rd_T41 l0 t101).f0), .string ((rd_T41 l0 t101).f1), .int .i64 ((rd_T41 l0 t101).f2), .int .i64 ((rd_T41 l0 t101).f3), .int .i64 ((rd_T41 l0 t101).f4), .int .i64 ((rd_T41 l0 t101).f5), .int .i64 0, .int .i64 0]) ?_ 6 _ rfl; (with_reducible repeat (first | refine blk_drewN ?_ _ | refine blk_drew ?_ | refine blk_alloc ?_ _)); refine blk_put (cs := #[.int .i64 ((rd_T41 l0 t101).f0), .string ((rd_T41 l0 t101).f1), .int .i64 ((rd_T41 l0 t101).f2), .int .i64 ((rd_T41 l0 t101).f3), .int .i64 ((rd_T41 l0 t101).f4), .int .i64 0, .int .i64 0, .int .i64 0]) ?_ 5 _ rfl; (with_reducible repeat (first | refine blk_drewN ?_ _ | refine blk_drew ?_ | refine blk_alloc ?_ _)); refine blk_put (cs := #[.int .i64 ((rd_T41 l0 t101).f0), .string ((rd_T41 l0 t101).f1), .int .i64 ((rd_T41 l0 t101).f2), .int .i64 ((rd_T41 l0 t101).f3), .int .i64 0, .int .i64 0, .int .i64 0, .int .i64 0]) ?_ 4 _ rfl; (with_reducible repeat (first | refine blk_drewN ?_ _ | refine blk_drew ?_ | refine blk_alloc ?_ _)); refine blk_put (cs := #[.int .i64 ((rd_T41 l0 t101).f0), .string ((rd_T41 l0 t101).f1), .int .i64 ((rd_T41 l0 t101).f2), .int .i64 0, .int .i64 0, .int .i64 0, .int .i64 0, .int .i64 0]) ?_ 3 _ rfl; (with_reducible repeat (first | refine blk_drewN ?_ _ | refine blk_drew ?_ | refine blk_alloc ?_ _)); refine blk_put (cs := #[.int .i64 ((rd_T41 l0 t101).f0), .string ((rd_T41 l0 t101).f1), .int .i64 0, .int .i64 0, .int .i64 0, .int .i64 0, .int .i64 0, .int .i64 0]) ?_ 2 _ rfl; (with_reducible repeat (first | refine blk_drewN ?_ _ | refine blk_drew ?_ | refine blk_alloc ?_ _)); refine blk_put (cs := #[.int .i64 ((rd_T41 l0 t101).f0), .string (⟨#[]⟩ : ByteArray), .int .i64 0, .int .i64 0, .int .i64 0, .int .i64 0, .int .i64 0, .int .i64 0]) ?_ 1 _ rfl; (with_reducible repeat (first | refine blk_drewN ?_ _ | refine blk_drew ?_ | refine blk_alloc ?_ _)); refine blk_put (cs := #[.int .i64 0, .string (⟨#[]⟩ : ByteArray), .int .i64 0, .int .i64 0, .int .i64 0, .int .i64 0, .int .i64 0, .int .i64 0]) ?_ 0 _ rfl; exact bS BK105.out)) (below_size (by repeat (first | (with_reducible first | exact HB.out | apply below_alloc | apply pw_below_drewN | apply below_drew1 | refine below_set ?_ GE105.out) | exact HB.out)))); have n1_ := Aside0.mk (blk_below (g := gb105) (o := .cells #[.int .i64 ((rd_T41 l0 t101).f0), .string ((rd_T41 l0 t101).f1), .int .i64 ((rd_T41 l0 t101).f2), .int .i64 ((rd_T41 l0 t101).f3), .int .i64 5, .int .i64 ((rd_T41 l0 t101).f5), .int .i64 (wrap64 (((rd_T41 l0 t101).f6) - t106)), .int .i64 a2] 41 (0, 0)) (by (with_reducible repeat (first | refine blk_drewN ?_ _ | refine blk_drew ?_ | refine blk_alloc ?_ _)); refine blk_put (cs := #[.int .i64 ((rd_T41 l0 t101).f0), .string ((rd_T41 l0 t101).f1), .int .i64 ((rd_T41 l0 t101).f2), .int .i64 ((rd_T41 l0 t101).f3), .int .i64 5, .int .i64 ((rd_T41 l0 t101).f5), .int .i64 (wrap64 (((rd_T41 l0 t101).f6) - t106)), .int .i64 ((rd_T41 l0 t101).f7)]) ?_ 7 _ rfl; (with_reducible repeat (first | refine blk_drewN ?_ _ | refine blk_drew ?_ | refine blk_alloc ?_ _)); refine blk_put (cs := #[.int .i64 ((rd_T41 l0 t101).f0), .string ((rd_T41 l0 t101).f1), .int .i64 ((rd_T41 l0 t101).f2), .int .i64 ((rd_T41 l0 t101).f3), .int .i64 5, .int .i64 ((rd_T41 l0 t101).f5), .int .i64 ((rd_T41 l0 t101).f6), .int .i64 ((rd_T41 l0 t101).f7)]) ?_ 6 _ rfl; (with_reducible repeat (first | refine blk_drewN ?_ _ | refine blk_drew ?_ | refine blk_alloc ?_ _)); refine blk_put (cs := #[.int .i64 ((rd_T41 l0 t101).f0), .string ((rd_T41 l0 t101).f1), .int .i64 ((rd_T41 l0 t101).f2), .int .i64 ((rd_T41 l0 t101).f3), .int .i64 ((rd_T41 l0 t101).f4), .int .i64 ((rd_T41 l0 t101).f5), .int .i64 ((rd_T41 l0 t101).f6), .int .i64 ((rd_T41 l0 t101).f7)]) ?_ 4 _ rfl; (with_reducible repeat (first | refine blk_drewN ?_ _ | refine blk_drew ?_ | refine blk_alloc ?_ _)); refine blk_put (cs := #[.int .i64 ((rd_T41 l0 t101).f0), .string ((rd_T41 l0 t101).f1), .int .i64 ((rd_T41 l0 t101).f2), .int .i64 ((rd_T41 l0 t101).f3), .int .i64 ((rd_T41 l0 t101).f4), .int .i64 ((rd_T41 l0 t101).f5), .int .i64 ((rd_T41 l0 t101).f6), .int .i64 0]) ?_ 7 _ rfl; (with_reducible repeat (first | refine blk_drewN ?_ _ | refine blk_drew ?_ | refine blk_alloc ?_ _)); refine blk_put (cs := #[.int .i64 ((rd_T41 l0 t101).f0), .string ((rd_T41 l0 t101).f1), .int .i64 ((rd_T41 l0 t101).f2), .int .i64 ((rd_T41 l0 t101).f3), .int .i64 ((rd_T41 l0 t101).f4), .int .i64 ((rd_T41 l0 t101).f5), .int .i64 0, .int .i64 0]) ?_ 6 _ rfl; (with_reducible repeat (first | refine blk_drewN ?_ _ | refine blk_drew ?_ | refine blk_alloc ?_ _)); refine blk_put (cs := #[.int .i64 ((rd_T41 l0 t101).f0), .string ((rd_T41 l0 t101).f1), .int .i64 ((rd_T41 l0 t101).f2), .int .i64 ((rd_T41 l0 t101).f3), .int .i64 ((rd_T41 l0 t101).f4), .int .i64 0, .int .i64 0, .int .i64 0]) ?_ 5 _ rfl; (with_reducible repeat (first | refine blk_drewN ?_ _ | refine blk_drew ?_ | refine blk_alloc ?_ _)); refine blk_put (cs := #[.int .i64 ((rd_T41 l0 t101).f0), .string ((rd_T41 l0 t101).f1), .int .i64 ((rd_T41 l0 t101).f2), .int .i64 ((rd_T41 l0 t101).f3), .int .i64 0, .int .i64 0, .int .i64 0, .int .i64 0]) ?_ 4 _ rfl; (with_reducible repeat (first | refine blk_drewN ?_ _ | refine blk_drew ?_ | refine blk_alloc ?_ _)); refine blk_put (cs := #[.int .i64 ((rd_T41 l0 t101).f0), .string ((rd_T41 l0 t101).f1), .int .i64 ((rd_T41 l0 t101).f2), .int .i64 0, .int .i64 0, .int .i64 0, .int .i64 0, .int .i64 0]) ?_ 3 _ rfl; (with_reducible repeat (first | refine blk_drewN ?_ _ | refine blk_drew ?_ | refine blk_alloc ?_ _)); refine blk_put (cs := #[.int .i64 ((rd_T41 l0 t101).f0), .string ((rd_T41 l0 t101).f1), .int .i64 0, .int .i64 0, .int .i64 0, .int .i64 0, .int .i64 0, .int .i64 0]) ?_ 2 _ rfl; (with_reducible repeat (first | refine blk_drewN ?_ _ | refine blk_drew ?_ | refine blk_alloc ?_ _)); refine blk_put (cs := #[.int .i64 ((rd_T41 l0 t101).f0), .string (⟨#[]⟩ : ByteArray), .int .i64 0, .int .i64 0, .int .i64 0, .int .i64 0, .int .i64 0, .int .i64 0]) ?_ 1 _ rfl; (with_reducible repeat (first | refine blk_drewN ?_ _ | refine blk_drew ?_ | refine blk_alloc ?_ _)); refine blk_put (cs := #[.int .i64 0, .string (⟨#[]⟩ : ByteArray), .int .i64 0, .int .i64 0, .int .i64 0, .int .i64 0, .int .i64 0, .int .i64 0]) ?_ 0 _ rfl; exact bS BK105.out) hb); have n2_ := Aside0.mk (below_step (by repeat (first | (with_reducible first | exact HB.out | apply below_alloc | apply pw_below_drewN | apply below_drew1 | refine below_set ?_ GE105.out) | exact HB.out)) hb); clear BK105; clear HB; have HO109 := n0_; have BK105 := n1_; have HB := n2_; clear n0_ n1_ n2_; (try clear hb); (try clear hb2); (try clear hk); (try clear hi); (try clear ho0)))
              go_ret3
              exact ⟨_, by first | rfl | (simp [errW_none, errW_some] <;> rfl) | (simp [*, errW_none, errW_some] <;> rfl), by first | exact Kd.R_nil _ _ _ _ _ | exact Kd.N_nil _ _ _ _ _ | exact Kd.V_nil _ _ _ _ _ | exact Kd.Q_nil _ _ _ _ _ | exact Kd.S_nil _ _ _ _ _, by exact eS HB.out⟩
          · rw [if_neg c13] at H
            exact absurd H (by simp)
        · rw [if_neg c12] at H
          exact absurd H (by simp)

end Go.Proofs.YtahfahlbdgbfeaaDoor.X

-- XspecCallOffF41
namespace Go.Proofs.YtahfahlbdgbfeaaDoor.X
open Ho (bS eS)
open Go.RowKit Go.Proofs.YtahfahlbdgbfeaaDoorW.PrintWords Go.Proofs.YtahfahlbdgbfeaaDoorW.PrintLast Go.Proofs.YtahfahlbdgbfeaaDoorW.PrintMore
attribute [local go_sem] max2_int min2_int max_two min_two max_three min_three max_four min_four   -- for this text's walks alone
set_option linter.unusedVariables false
set_option linter.unusedSimpArgs false

attribute [local go_sem ↓] Ho.isSome_setCell_   -- a store leaves all places there
/-! ### spec_CallOff: function 41 -/
def spec_CallOff.j0 : Nat → List (S41) → Int → Int → Bool → Option ((List (S41)) × Int × Bool)
  | 0, _, _, _, _ => none
  | k + 1, x0, x2, x9, x35 => if x35 = true then (some ((([] : List (S41))), 0, false)) else (if 0 ≤ x9 then (if x9 < (x0.length : Int) then ((spec_l17With.f k x0 x9 ((rd_T41 x0 x9).f0) ((rd_T41 x0 x9).f1) ((rd_T41 x0 x9).f2) ((rd_T41 x0 x9).f3) 5 ((rd_T41 x0 x9).f5) (wrap64 (((rd_T41 x0 x9).f6) - (wrap64 (Int.tdiv (wrap64 (((rd_T41 x0 x9).f6) + 1)) 2)))) x2).bind fun bt109 => (if bt109.2 = true then (some (bt109.1, wrap64 (Int.tdiv (wrap64 (((rd_T41 x0 x9).f6) + 1)) 2), true)) else (some ((([] : List (S41))), 0, false)))) else (none)) else (none))
def spec_CallOff.f (k : Nat) (l0 : List (S41)) (a1 : Int) (a2 : Int) : Option ((List (S41)) × Int × Bool) := (spec_l17Find.f k l0 a1).bind fun t101 => (if t101 < 0 then (spec_CallOff.j0 k l0 a2 t101 true) else (if 0 ≤ t101 then (if t101 < (l0.length : Int) then (if ((rd_T41 l0 t101).f4) > 1 then (spec_CallOff.j0 k l0 a2 t101 true) else (spec_CallOff.j0 k l0 a2 t101 (decide (a2 < ((rd_T41 l0 t101).f7))))) else (none)) else (none)))
theorem spec_CallOff.mono_l : ∀ k, (∀ y0 y1 y2 y3, LeO (spec_CallOff.j0 k y0 y1 y2 y3) (spec_CallOff.j0 (k + 1) y0 y1 y2 y3))
  | 0 => fun _ _ _ _ r h => by simp [spec_CallOff.j0] at h
  | k + 1 => by
    have ih0 := spec_CallOff.mono_l k
    · intro y0 y1 y2 y3
      unfold spec_CallOff.j0
      repeat' first
      | (with_reducible exact ih0 _ _ _ _)
      | (with_reducible exact spec_l17Find.mono _ _ _)
      | (with_reducible exact spec_l17With.mono _ _ _ _ _ _ _ _ _ _ _)
      | (with_reducible exact LeO.refl _)
      | (with_reducible exact LeO.none _)
      | (with_reducible refine LeO.ite ?_ ?_)
      | (with_reducible refine LeO.bind ?_ (fun _ => ?_))
      | exact ih0 _ _ _ _
      | exact spec_l17Find.mono _ _ _
      | exact spec_l17With.mono _ _ _ _ _ _ _ _ _ _ _
      | exact LeO.none _
      | refine LeO.ite ?_ ?_
      | refine LeO.bind ?_ (fun _ => ?_)
theorem spec_CallOff.mono : ∀ a0 a1 a2 k, LeO (spec_CallOff.f k a0 a1 a2) (spec_CallOff.f (k + 1) a0 a1 a2) := by
  intro a0 a1 a2 k
  have ih0 := spec_CallOff.mono_l k
  unfold spec_CallOff.f
  repeat' first
      | (with_reducible exact ih0 _ _ _ _)
      | (with_reducible exact spec_l17Find.mono _ _ _)
      | (with_reducible exact spec_l17With.mono _ _ _ _ _ _ _ _ _ _ _)
      | (with_reducible exact LeO.refl _)
      | (with_reducible exact LeO.none _)
      | (with_reducible refine LeO.ite ?_ ?_)
      | (with_reducible refine LeO.bind ?_ (fun _ => ?_))
      | exact ih0 _ _ _ _
      | exact spec_l17Find.mono _ _ _
      | exact spec_l17With.mono _ _ _ _ _ _ _ _ _ _ _
      | exact LeO.none _
      | refine LeO.ite ?_ ?_
      | refine LeO.bind ?_ (fun _ => ?_)
set_option maxHeartbeats 8000000 in
set_option maxRecDepth 100000 in
theorem spec_CallOff.calls (k : Nat) (A0 : Option Addr) (c0 : Nat) (l0 : List (S41)) (a1 : Int) (a2 : Int) (r1 : List (S41)) (r2 : Int) (r3 : Bool) (w : World) (hr0 : Kd.C k41 w A0 l0.length l0) (hc0 : l0.length ≤ c0) (h : spec_CallOff.f k l0 a1 a2 = some (r1, r2, r3)) :
    Calls Tryd.prog 41 #[.slice A0 l0.length c0, .int .i64 a1, .int .i64 a2] w fun e w' => ∃ v0_ : Value, e = .returned (.tuple #[v0_, .int .i64 r2, .bool r3]) ∧ Kd.R k41 41 w' w.heap.size (fun _ => True) v0_ r1 ∧ Below w.heap.size w w' := by
  have hu41 := Tryd.underlying41
  have HR0 := Aside0.mk hr0
  have HC0 := Aside0.mk hc0
  clear hr0 hc0
  have HB := Aside0.mk (Below.refl w.heap.size w)
  have H : ((spec_l17Find.f k l0 a1).bind fun t101 => (if t101 < 0 then (spec_CallOff.j0 k l0 a2 t101 true) else (if 0 ≤ t101 then (if t101 < (l0.length : Int) then (if ((rd_T41 l0 t101).f4) > 1 then (spec_CallOff.j0 k l0 a2 t101 true) else (spec_CallOff.j0 k l0 a2 t101 (decide (a2 < ((rd_T41 l0 t101).f7))))) else (none)) else (none)))) = some (r1, r2, r3) := h
  clear h
  replace H := Option.bind_eq_some_iff.mp H
  obtain ⟨t101, A40, H⟩ := H
  replace H : (if t101 < 0 then (spec_CallOff.j0 k l0 a2 t101 true) else (if 0 ≤ t101 then (if t101 < (l0.length : Int) then (if ((rd_T41 l0 t101).f4) > 1 then (spec_CallOff.j0 k l0 a2 t101 true) else (spec_CallOff.j0 k l0 a2 t101 (decide (a2 < ((rd_T41 l0 t101).f7))))) else (none)) else (none))) = some (r1, r2, r3) := H
  have A4 := Aside0.mk A40
  clear A40
  have HC5 := Aside0.mk H
  clear H
  go_enter Tryd.func41, Tryd.ntmps41
  go_upto_region 2 with (first | ((with_reducible refine gate_callee (f := 81) rfl ?_); refine goesL_ (some 16) rfl rfl Tryd.func81 (by kernel_rfl) rfl #[.slice A0 l0.length c0, .int .i64 a1] rfl (by (try simp only [List.map_toArray, List.map_cons, List.map_nil]); first | done | rfl | (simp only [List.length_drop, List.length_take]; rfl)) ?_; (with_reducible refine (spec_l17Find.calls k _ _ l0 a1 t101 _ ?side1 ?side2 A4.out).mono ?_); (case side1 => repeat (first | exact HR0.out | (with_reducible refine Kd.C_alloc ?_ _) | (with_reducible refine Kd.C_drewN ?_ _) | (with_reducible refine Kd.C_drew ?_))); (case side2 => exact HC0.out); rintro e w6 ⟨rfl, hb⟩; refine ⟨_, rfl, ?_⟩; have n0_ := Aside0.mk (below_step (by exact eS HB.out) hb); clear HB; have HB := n0_; clear n0_; (try clear hb); (try clear hb2); (try clear hk); (try clear hi)))
  (try simp only [Act.put, List.setIfInBounds_toArray, List.set_cons_zero, List.set_cons_succ])
  go_cut [35] (fun v35 wc => ∃ (kq : Nat) (x35_4 : Bool), v35 = .bool x35_4 ∧ Aside0 (spec_CallOff.j0 kq l0 a2 t101 x35_4 = some (r1, r2, r3)) ∧ Aside0 (kq ≤ k) ∧ Aside0 (Below w.heap.size w wc))
  case first =>
    have H := HC5.out
    clear HC5
    by_cases c7 : t101 < 0
    · rw [if_pos c7] at H
      have c7b0 : decide (t101 < 0) = true := decide_eq_true c7
      clear c7
      (first | rw [c7b0] | (simp only [i64_w, i32_w]; rw [c7b0]) | skip)
      have H' := Aside0.mk H
      clear H
      go_wp2
      go_meet
      case rel => exact ⟨_, (true), (by first | rfl | (simp; done) | (simp [*]; done)), H', ⟨by first | omega | exact Nat.le_refl _⟩, ⟨by exact eS HB.out⟩⟩
    · rw [if_neg c7] at H
      have c7b0 : decide (t101 < 0) = false := decide_eq_false c7
      clear c7
      (first | rw [c7b0] | (simp only [i64_w, i32_w]; rw [c7b0]) | skip)
      by_cases c8 : 0 ≤ t101
      · rw [if_pos c8] at H
        have c8b0 : decide (0 ≤ t101) = true := decide_eq_true c8
        clear c8
        by_cases c9 : t101 < (l0.length : Int)
        · rw [if_pos c9] at H
          have c9b0 : decide (t101 < (l0.length : Int)) = true := decide_eq_true c9
          clear c9
          by_cases c10 : ((rd_T41 l0 t101).f4) > 1
          · rw [if_pos c10] at H
            have c10b0 : decide (1 < ((rd_T41 l0 t101).f4)) = true := decide_eq_true c10
            clear c10
            have H' := Aside0.mk H
            clear H
            have p102 : 0 ≤ (t101 : Int) := of_decide_eq_true (by first | (with_reducible assumption) | assumption)
            have q102 : t101 < (l0.length : Int) := of_decide_eq_true (by first | (with_reducible assumption) | assumption)
            obtain ⟨ad102, e102, hx102_0, hx102_1, hx102_2, hx102_3, hx102_4, hx102_5, hx102_6, hx102_7⟩ := at_T41 HR0.out t101 p102 q102
            cases e102
            replace hx102_0 := (HB.out.cell (World.block_lt_of_cell? w _ hx102_0)).trans hx102_0
            replace hx102_1 := (HB.out.cell (World.block_lt_of_cell? w _ hx102_1)).trans hx102_1
            replace hx102_2 := (HB.out.cell (World.block_lt_of_cell? w _ hx102_2)).trans hx102_2
            replace hx102_3 := (HB.out.cell (World.block_lt_of_cell? w _ hx102_3)).trans hx102_3
            replace hx102_4 := (HB.out.cell (World.block_lt_of_cell? w _ hx102_4)).trans hx102_4
            replace hx102_5 := (HB.out.cell (World.block_lt_of_cell? w _ hx102_5)).trans hx102_5
            replace hx102_6 := (HB.out.cell (World.block_lt_of_cell? w _ hx102_6)).trans hx102_6
            replace hx102_7 := (HB.out.cell (World.block_lt_of_cell? w _ hx102_7)).trans hx102_7
            replace p102 := eq_true p102
            replace q102 := eq_true q102
            go_wp2
            go_meet
            case rel => exact ⟨_, (true), (by first | rfl | (simp; done) | (simp [*]; done)), H', ⟨by first | omega | exact Nat.le_refl _⟩, ⟨by exact eS HB.out⟩⟩
          · rw [if_neg c10] at H
            have c10b0 : decide (1 < ((rd_T41 l0 t101).f4)) = false := decide_eq_false c10
            clear c10
            have H' := Aside0.mk H
            clear H
            have p102 : 0 ≤ (t101 : Int) := of_decide_eq_true (by first | (with_reducible assumption) | assumption)
            have q102 : t101 < (l0.length : Int) := of_decide_eq_true (by first | (with_reducible assumption) | assumption)
            obtain ⟨ad102, e102, hx102_0, hx102_1, hx102_2, hx102_3, hx102_4, hx102_5, hx102_6, hx102_7⟩ := at_T41 HR0.out t101 p102 q102
            cases e102
            replace hx102_0 := (HB.out.cell (World.block_lt_of_cell? w _ hx102_0)).trans hx102_0
            replace hx102_1 := (HB.out.cell (World.block_lt_of_cell? w _ hx102_1)).trans hx102_1
            replace hx102_2 := (HB.out.cell (World.block_lt_of_cell? w _ hx102_2)).trans hx102_2
            replace hx102_3 := (HB.out.cell (World.block_lt_of_cell? w _ hx102_3)).trans hx102_3
            replace hx102_4 := (HB.out.cell (World.block_lt_of_cell? w _ hx102_4)).trans hx102_4
            replace hx102_5 := (HB.out.cell (World.block_lt_of_cell? w _ hx102_5)).trans hx102_5
            replace hx102_6 := (HB.out.cell (World.block_lt_of_cell? w _ hx102_6)).trans hx102_6
            replace hx102_7 := (HB.out.cell (World.block_lt_of_cell? w _ hx102_7)).trans hx102_7
            replace p102 := eq_true p102
            replace q102 := eq_true q102
            have p103 : 0 ≤ (t101 : Int) := of_decide_eq_true (by first | (with_reducible assumption) | assumption)
            have q103 : t101 < (l0.length : Int) := of_decide_eq_true (by first | (with_reducible assumption) | assumption)
            obtain ⟨ad103, e103, hx103_0, hx103_1, hx103_2, hx103_3, hx103_4, hx103_5, hx103_6, hx103_7⟩ := at_T41 HR0.out t101 p103 q103
            obtain rfl : ad102 = ad103 := (by injection e103)
            replace hx103_0 := (HB.out.cell (World.block_lt_of_cell? w _ hx103_0)).trans hx103_0
            replace hx103_1 := (HB.out.cell (World.block_lt_of_cell? w _ hx103_1)).trans hx103_1
            replace hx103_2 := (HB.out.cell (World.block_lt_of_cell? w _ hx103_2)).trans hx103_2
            replace hx103_3 := (HB.out.cell (World.block_lt_of_cell? w _ hx103_3)).trans hx103_3
            replace hx103_4 := (HB.out.cell (World.block_lt_of_cell? w _ hx103_4)).trans hx103_4
            replace hx103_5 := (HB.out.cell (World.block_lt_of_cell? w _ hx103_5)).trans hx103_5
            replace hx103_6 := (HB.out.cell (World.block_lt_of_cell? w _ hx103_6)).trans hx103_6
            replace hx103_7 := (HB.out.cell (World.block_lt_of_cell? w _ hx103_7)).trans hx103_7
            replace p103 := eq_true p103
            replace q103 := eq_true q103
            go_wp2
            go_meet
            case rel => exact ⟨_, (decide (a2 < ((rd_T41 l0 t101).f7))), (by first | rfl | (simp; done) | (simp [*]; done)), H', ⟨by first | omega | exact Nat.le_refl _⟩, ⟨by exact eS HB.out⟩⟩
        · rw [if_neg c9] at H
          exact absurd H (by simp)
      · rw [if_neg c8] at H
        exact absurd H (by simp)
  case rest =>
    clear HC5
    try clear c1
    try clear p1
    try clear q1
    try clear hx1
    try clear p2
    try clear c4
    try clear c7
    try clear c7b0
    try clear c8
    try clear c8b0
    try clear c9
    try clear c9b0
    try clear c10
    try clear c10b0
    try clear p10
    try clear q10
    try clear hx10
    try clear hx102_0
    try clear hx102_1
    try clear hx102_2
    try clear hx102_3
    try clear hx102_4
    try clear hx102_5
    try clear hx102_6
    try clear hx102_7
    try clear hx103_0
    try clear hx103_1
    try clear hx103_2
    try clear hx103_3
    try clear hx103_4
    try clear hx103_5
    try clear hx103_6
    try clear hx103_7
    try clear p102
    try clear p103
    try clear q102
    try clear q103
    obtain ⟨kq, x35_4, rfl, HA, HJ4, HB⟩ := hcut
    cases kq with
    | zero => exact absurd HA.out (by simp [spec_CallOff.j0])
    | succ kj4 =>
      have H := HA.out
      clear HA
      simp only [spec_CallOff.j0] at H
      by_cases c11 : x35_4 = true
      · subst c11
        have H1 : (some ((([] : List (S41))), 0, false)) = some (r1, r2, r3) := by rw [if_pos rfl] at H; exact H
        clear H
        have H := H1
        clear H1
        obtain ⟨y104, hy104⟩ : ∃ y_ : List (S41), y_ = (([] : List (S41))) := ⟨_, rfl⟩
        replace H : (some (y104, 0, false)) = some (r1, r2, r3) := by first | (rw [hy104]; with_reducible exact H) | (have H2_ := (Option.bind_some _ _).symm.trans H; rw [hy104]; with_reducible exact H2_) | (have H2_ := (Option.bind_some _ _).symm.trans H; with_reducible exact H2_) | with_reducible exact H | (rw [hy104]; exact H) | exact H
        have Ny104 := Aside0.mk hy104
        clear hy104
        simp only [Option.some.injEq, Prod.mk.injEq] at H
        obtain ⟨rfl, rfl, rfl⟩ := H
        go_wp2_with (first | ((with_reducible refine gate_dst (N := 36) rfl ?_); refine Kd.R_lit k41 _ 41 ?hg (N := 36) ?hd (xs := ([] : List (S41))) (inner := []) (ok := fun _ => True) (okp := fun _ => True) ?hr ?hp (fun _ hk => hk) trivial (Below.refl _ _) (Nat.le_refl _) (by simp) ?_; (case hd => rfl); (case hg => rfl); (case hr => first | (go_simp; done) | (go_simp; rfl)); (case hp => exact (Reps.none _ _)); intro v105 w12 ho13 hb hg_ hnew_; clear hg_ hnew_; (first | rw [← Ny104.out] at ho13 | (simp only [Int.reduceToNat] at ho13; rw [← Ny104.out] at ho13)); have n0_ := Aside0.mk (Kd.R_lower ho13 (below_size (by exact eS HB.out))); have n1_ := Aside0.mk (below_step (by exact eS HB.out) hb); clear HB; have HO106 := n0_; have HB := n1_; clear n0_ n1_; clear hb ho13))
        go_ret3
        exact ⟨_, by first | rfl | (simp [errW_none, errW_some] <;> rfl) | (simp [*, errW_none, errW_some] <;> rfl), by exact Ho.RS <| HO106.out, by exact eS HB.out⟩
      · replace c11 := Bool.eq_false_iff.mpr c11
        subst c11
        have H1 : (if 0 ≤ t101 then (if t101 < (l0.length : Int) then ((spec_l17With.f kj4 l0 t101 ((rd_T41 l0 t101).f0) ((rd_T41 l0 t101).f1) ((rd_T41 l0 t101).f2) ((rd_T41 l0 t101).f3) 5 ((rd_T41 l0 t101).f5) (wrap64 (((rd_T41 l0 t101).f6) - (wrap64 (Int.tdiv (wrap64 (((rd_T41 l0 t101).f6) + 1)) 2)))) a2).bind fun bt109 => (if bt109.2 = true then (some (bt109.1, wrap64 (Int.tdiv (wrap64 (((rd_T41 l0 t101).f6) + 1)) 2), true)) else (some ((([] : List (S41))), 0, false)))) else (none)) else (none)) = some (r1, r2, r3) := by rw [if_neg (show ¬ (false = true) by decide)] at H; exact H
        clear H
        have H := H1
        clear H1
        by_cases c14 : 0 ≤ t101
        · rw [if_pos c14] at H
          have c14b0 : decide (0 ≤ t101) = true := decide_eq_true c14
          clear c14
          by_cases c15 : t101 < (l0.length : Int)
          · rw [if_pos c15] at H
            have c15b0 : decide (t101 < (l0.length : Int)) = true := decide_eq_true c15
            clear c15
            replace H := Option.bind_eq_some_iff.mp H
            obtain ⟨⟨t109, t112⟩, A160, H⟩ := H
            replace H : (if t112 = true then (some (t109, wrap64 (Int.tdiv (wrap64 (((rd_T41 l0 t101).f6) + 1)) 2), true)) else (some ((([] : List (S41))), 0, false))) = some (r1, r2, r3) := H
            have A16 := Aside0.mk A160
            clear A160
            by_cases c17 : t112 = true
            · subst c17
              have H1 : (some (t109, wrap64 (Int.tdiv (wrap64 (((rd_T41 l0 t101).f6) + 1)) 2), true)) = some (r1, r2, r3) := by rw [if_pos rfl] at H; exact H
              clear H
              have H := H1
              clear H1
              simp only [Option.some.injEq, Prod.mk.injEq] at H
              obtain ⟨rfl, rfl, rfl⟩ := H
              have p107 : 0 ≤ (t101 : Int) := of_decide_eq_true (by first | (with_reducible assumption) | assumption)
              have q107 : t101 < (l0.length : Int) := of_decide_eq_true (by first | (with_reducible assumption) | assumption)
              obtain ⟨ad107, e107, hx107_0, hx107_1, hx107_2, hx107_3, hx107_4, hx107_5, hx107_6, hx107_7⟩ := at_T41 HR0.out t101 p107 q107
              cases e107
              replace hx107_0 := (HB.out.cell (World.block_lt_of_cell? w _ hx107_0)).trans hx107_0
              replace hx107_1 := (HB.out.cell (World.block_lt_of_cell? w _ hx107_1)).trans hx107_1
              replace hx107_2 := (HB.out.cell (World.block_lt_of_cell? w _ hx107_2)).trans hx107_2
              replace hx107_3 := (HB.out.cell (World.block_lt_of_cell? w _ hx107_3)).trans hx107_3
              replace hx107_4 := (HB.out.cell (World.block_lt_of_cell? w _ hx107_4)).trans hx107_4
              replace hx107_5 := (HB.out.cell (World.block_lt_of_cell? w _ hx107_5)).trans hx107_5
              replace hx107_6 := (HB.out.cell (World.block_lt_of_cell? w _ hx107_6)).trans hx107_6
              replace hx107_7 := (HB.out.cell (World.block_lt_of_cell? w _ hx107_7)).trans hx107_7
              replace p107 := eq_true p107
              replace q107 := eq_true q107
              go_wp2_with (first | ((with_reducible refine gate_dst (N := 10) rfl ?_); refine box_event ?hg (N := 10) ?hd (cs := #[.int .i64 0, .string (⟨#[]⟩ : ByteArray), .int .i64 0, .int .i64 0, .int .i64 0, .int .i64 0, .int .i64 0, .int .i64 0]) (t := 41) ?hr ?_; (case hd => rfl); (case hg => rfl); (case hr => first | (go_simp; done) | (go_simp; rfl)); intro gb108 hg w18 hbox hb; have n0_ := Aside0.mk (below_step (by exact eS HB.out) hb); have n1_ := Aside0.mk (hbox); have n2_ := Aside0.mk ((by rw [hg]; exact (below_size (by exact eS HB.out)) : w.heap.size ≤ gb108)); have n3_ := Aside0.mk ((by rw [hg]; exact (below_size (by exact eS HB.out)) : w.heap.size ≤ gb108)); clear HB; have HB := n0_; have BK108 := n1_; have GW108 := n2_; have GE108 := n3_; clear n0_ n1_ n2_ n3_; clear hb hbox hg; have hcz19_0 : w18.cell? ⟨gb108, 0, none⟩ = some (.int .i64 0) := (blk_cell BK108.out 0).trans rfl; have hcz19_1 : w18.cell? ⟨gb108, 1, none⟩ = some (.string (⟨#[]⟩ : ByteArray)) := (blk_cell BK108.out 1).trans rfl; have hcz19_2 : w18.cell? ⟨gb108, 2, none⟩ = some (.int .i64 0) := (blk_cell BK108.out 2).trans rfl; have hcz19_3 : w18.cell? ⟨gb108, 3, none⟩ = some (.int .i64 0) := (blk_cell BK108.out 3).trans rfl; have hcz19_4 : w18.cell? ⟨gb108, 4, none⟩ = some (.int .i64 0) := (blk_cell BK108.out 4).trans rfl; have hcz19_5 : w18.cell? ⟨gb108, 5, none⟩ = some (.int .i64 0) := (blk_cell BK108.out 5).trans rfl; have hcz19_6 : w18.cell? ⟨gb108, 6, none⟩ = some (.int .i64 0) := (blk_cell BK108.out 6).trans rfl; have hcz19_7 : w18.cell? ⟨gb108, 7, none⟩ = some (.int .i64 0) := (blk_cell BK108.out 7).trans rfl; have hfz19_0 := blk_frozen BK108.out 0; have hfz19_1 := blk_frozen BK108.out 1; have hfz19_2 := blk_frozen BK108.out 2; have hfz19_3 := blk_frozen BK108.out 3; have hfz19_4 := blk_frozen BK108.out 4; have hfz19_5 := blk_frozen BK108.out 5; have hfz19_6 := blk_frozen BK108.out 6; have hfz19_7 := blk_frozen BK108.out 7) | ((with_reducible refine gate_callee (f := 83) rfl ?_); refine goesL_ (some 57) rfl rfl Tryd.func83 (by kernel_rfl) rfl #[.slice (some ad107) l0.length c0, .int .i64 t101, .agg #[.int .i64 ((rd_T41 l0 t101).f0), .string ((rd_T41 l0 t101).f1), .int .i64 ((rd_T41 l0 t101).f2), .int .i64 ((rd_T41 l0 t101).f3), .int .i64 5, .int .i64 ((rd_T41 l0 t101).f5), .int .i64 (wrap64 (((rd_T41 l0 t101).f6) - (wrap64 (Int.tdiv (wrap64 (((rd_T41 l0 t101).f6) + 1)) 2)))), .int .i64 a2]] rfl (by (try simp only [List.map_toArray, List.map_cons, List.map_nil]); first | done | rfl | (simp only [List.length_drop, List.length_take]; rfl)) ?_; (with_reducible refine (spec_l17With.calls kj4 _ _ l0 t101 ((rd_T41 l0 t101).f0) ((rd_T41 l0 t101).f1) ((rd_T41 l0 t101).f2) ((rd_T41 l0 t101).f3) 5 ((rd_T41 l0 t101).f5) (wrap64 (((rd_T41 l0 t101).f6) - (wrap64 (Int.tdiv (wrap64 (((rd_T41 l0 t101).f6) + 1)) 2)))) a2 t109 true _ ?side1 ?side2 A16.out).mono ?_); (case side1 => exact Kd.C_below HR0.out (by repeat (first | (with_reducible first | exact HB.out | apply below_alloc | apply pw_below_drewN | apply below_drew1 | refine below_set ?_ GE108.out) | exact HB.out))); (case side2 => exact HC0.out); rintro e w20 ⟨v110, rfl, ho0, hb⟩; refine ⟨_, rfl, ?_⟩; have n0_ := Aside0.mk (Kd.R_lower (Kd.R_newB ho0 (g := gb108) (o := .cells #[.int .i64 ((rd_T41 l0 t101).f0), .string ((rd_T41 l0 t101).f1), .int .i64 ((rd_T41 l0 t101).f2), .int .i64 ((rd_T41 l0 t101).f3), .int .i64 5, .int .i64 ((rd_T41 l0 t101).f5), .int .i64 (wrap64 (((rd_T41 l0 t101).f6) - (wrap64 (Int.tdiv (wrap64 (((rd_T41 l0 t101).f6) + 1)) 2)))), .int .i64 a2] 41 (0, 0)) (by (with_reducible repeat (first | refine blk_drewN ?_ _ | refine blk_drew ?_ | refine blk_alloc ?_ _)); refine blk_put (cs := #[.int .i64 ((rd_T41 l0 t101).f0), .string ((rd_T41 l0 t101).f1), .int .i64 ((rd_T41 l0 t101).f2), .int .i64 ((rd_T41 l0 t101).f3), .int .i64 5, .int .i64 ((rd_T41 l0 t101).f5), .int .i64 (wrap64 (((rd_T41 l0 t101).f6) - (wrap64 (Int.tdiv (wrap64 (((rd_T41 l0 t101).f6) + 1)) 2)))), .int .i64 ((rd_T41 l0 t101).f7)]) ?_ 7 _ rfl; (with_reducible repeat (first | refine blk_drewN ?_ _ | refine blk_drew ?_ | refine blk_alloc ?_ _)); refine blk_put (cs := #[.int .i64 ((rd_T41 l0 t101).f0), .string ((rd_T41 l0 t101).f1), .int .i64 ((rd_T41 l0 t101).f2), .int .i64 ((rd_T41 l0 t101).f3), .int .i64 ((rd_T41 l0 t101).f4), .int .i64 ((rd_T41 l0 t101).f5), .int .i64 (wrap64 (((rd_T41 l0 t101).f6) - (wrap64 (Int.tdiv (wrap64 (((rd_T41 l0 t101).f6) + 1)) 2)))), .int .i64 ((rd_T41 l0 t101).f7)]) ?_ 4 _ rfl; (with_reducible repeat (first | refine blk_drewN ?_ _ | refine blk_drew ?_ | refine blk_alloc ?_ _)); refine blk_put (cs := #[.int .i64 ((rd_T41 l0 t101).f0), .string ((rd_T41 l0 t101).f1), .int .i64 ((rd_T41 l0 t101).f2), .int .i64 ((rd_T41 l0 t101).f3), .int .i64 ((rd_T41 l0 t101).f4), .int .i64 ((rd_T41 l0 t101).f5), .int .i64 ((rd_T41 l0 t101).f6), .int .i64 ((rd_T41 l0 t101).f7)]) ?_ 6 _ rfl; (with_reducible repeat (first | refine blk_drewN ?_ _ | refine blk_drew ?_ | refine blk_alloc ?_ _)); refine blk_put (cs := #[.int .i64 ((rd_T41 l0 t101).f0), .string ((rd_T41 l0 t101).f1), .int .i64 ((rd_T41 l0 t101).f2), .int .i64 ((rd_T41 l0 t101).f3), .int .i64 ((rd_T41 l0 t101).f4), .int .i64 ((rd_T41 l0 t101).f5), .int .i64 ((rd_T41 l0 t101).f6), .int .i64 0]) ?_ 7 _ rfl; (with_reducible repeat (first | refine blk_drewN ?_ _ | refine blk_drew ?_ | refine blk_alloc ?_ _)); refine blk_put (cs := #[.int .i64 ((rd_T41 l0 t101).f0), .string ((rd_T41 l0 t101).f1), .int .i64 ((rd_T41 l0 t101).f2), .int .i64 ((rd_T41 l0 t101).f3), .int .i64 ((rd_T41 l0 t101).f4), .int .i64 ((rd_T41 l0 t101).f5), .int .i64 0, .int .i64 0]) ?_ 6 _ rfl; (with_reducible repeat (first | refine blk_drewN ?_ _ | refine blk_drew ?_ | refine blk_alloc ?_ _)); refine blk_put (cs := #[.int .i64 ((rd_T41 l0 t101).f0), .string ((rd_T41 l0 t101).f1), .int .i64 ((rd_T41 l0 t101).f2), .int .i64 ((rd_T41 l0 t101).f3), .int .i64 ((rd_T41 l0 t101).f4), .int .i64 0, .int .i64 0, .int .i64 0]) ?_ 5 _ rfl; (with_reducible repeat (first | refine blk_drewN ?_ _ | refine blk_drew ?_ | refine blk_alloc ?_ _)); refine blk_put (cs := #[.int .i64 ((rd_T41 l0 t101).f0), .string ((rd_T41 l0 t101).f1), .int .i64 ((rd_T41 l0 t101).f2), .int .i64 ((rd_T41 l0 t101).f3), .int .i64 0, .int .i64 0, .int .i64 0, .int .i64 0]) ?_ 4 _ rfl; (with_reducible repeat (first | refine blk_drewN ?_ _ | refine blk_drew ?_ | refine blk_alloc ?_ _)); refine blk_put (cs := #[.int .i64 ((rd_T41 l0 t101).f0), .string ((rd_T41 l0 t101).f1), .int .i64 ((rd_T41 l0 t101).f2), .int .i64 0, .int .i64 0, .int .i64 0, .int .i64 0, .int .i64 0]) ?_ 3 _ rfl; (with_reducible repeat (first | refine blk_drewN ?_ _ | refine blk_drew ?_ | refine blk_alloc ?_ _)); refine blk_put (cs := #[.int .i64 ((rd_T41 l0 t101).f0), .string ((rd_T41 l0 t101).f1), .int .i64 0, .int .i64 0, .int .i64 0, .int .i64 0, .int .i64 0, .int .i64 0]) ?_ 2 _ rfl; (with_reducible repeat (first | refine blk_drewN ?_ _ | refine blk_drew ?_ | refine blk_alloc ?_ _)); refine blk_put (cs := #[.int .i64 ((rd_T41 l0 t101).f0), .string (⟨#[]⟩ : ByteArray), .int .i64 0, .int .i64 0, .int .i64 0, .int .i64 0, .int .i64 0, .int .i64 0]) ?_ 1 _ rfl; (with_reducible repeat (first | refine blk_drewN ?_ _ | refine blk_drew ?_ | refine blk_alloc ?_ _)); refine blk_put (cs := #[.int .i64 0, .string (⟨#[]⟩ : ByteArray), .int .i64 0, .int .i64 0, .int .i64 0, .int .i64 0, .int .i64 0, .int .i64 0]) ?_ 0 _ rfl; exact bS BK108.out)) (below_size (by repeat (first | (with_reducible first | exact HB.out | apply below_alloc | apply pw_below_drewN | apply below_drew1 | refine below_set ?_ GE108.out) | exact HB.out)))); have n1_ := Aside0.mk (blk_below (g := gb108) (o := .cells #[.int .i64 ((rd_T41 l0 t101).f0), .string ((rd_T41 l0 t101).f1), .int .i64 ((rd_T41 l0 t101).f2), .int .i64 ((rd_T41 l0 t101).f3), .int .i64 5, .int .i64 ((rd_T41 l0 t101).f5), .int .i64 (wrap64 (((rd_T41 l0 t101).f6) - (wrap64 (Int.tdiv (wrap64 (((rd_T41 l0 t101).f6) + 1)) 2)))), .int .i64 a2] 41 (0, 0)) (by (with_reducible repeat (first | refine blk_drewN ?_ _ | refine blk_drew ?_ | refine blk_alloc ?_ _)); refine blk_put (cs := #[.int .i64 ((rd_T41 l0 t101).f0), .string ((rd_T41 l0 t101).f1), .int .i64 ((rd_T41 l0 t101).f2), .int .i64 ((rd_T41 l0 t101).f3), .int .i64 5, .int .i64 ((rd_T41 l0 t101).f5), .int .i64 (wrap64 (((rd_T41 l0 t101).f6) - (wrap64 (Int.tdiv (wrap64 (((rd_T41 l0 t101).f6) + 1)) 2)))), .int .i64 ((rd_T41 l0 t101).f7)]) ?_ 7 _ rfl; (with_reducible repeat (first | refine blk_drewN ?_ _ | refine blk_drew ?_ | refine blk_alloc ?_ _)); refine blk_put (cs := #[.int .i64 ((rd_T41 l0 t101).f0), .string ((rd_T41 l0 t101).f1), .int .i64 ((rd_T41 l0 t101).f2), .int .i64 ((rd_T41 l0 t101).f3), .int .i64 ((rd_T41 l0 t101).f4), .int .i64 ((rd_T41 l0 t101).f5), .int .i64 (wrap64 (((rd_T41 l0 t101).f6) - (wrap64 (Int.tdiv (wrap64 (((rd_T41 l0 t101).f6) + 1)) 2)))), .int .i64 ((rd_T41 l0 t101).f7)]) ?_ 4 _ rfl; (with_reducible repeat (first | refine blk_drewN ?_ _ | refine blk_drew ?_ | refine blk_alloc ?_ _)); refine blk_put (cs := #[.int .i64 ((rd_T41 l0 t101).f0), .string ((rd_T41 l0 t101).f1), .int .i64 ((rd_T41 l0 t101).f2), .int .i64 ((rd_T41 l0 t101).f3), .int .i64 ((rd_T41 l0 t101).f4), .int .i64 ((rd_T41 l0 t101).f5), .int .i64 ((rd_T41 l0 t101).f6), .int .i64 ((rd_T41 l0 t101).f7)]) ?_ 6 _ rfl; (with_reducible repeat (first | refine blk_drewN ?_ _ | refine blk_drew ?_ | refine blk_alloc ?_ _)); refine blk_put (cs := #[.int .i64 ((rd_T41 l0 t101).f0), .string ((rd_T41 l0 t101).f1), .int .i64 ((rd_T41 l0 t101).f2), .int .i64 ((rd_T41 l0 t101).f3), .int .i64 ((rd_T41 l0 t101).f4), .int .i64 ((rd_T41 l0 t101).f5), .int .i64 ((rd_T41 l0 t101).f6), .int .i64 0]) ?_ 7 _ rfl; (with_reducible repeat (first | refine blk_drewN ?_ _ | refine blk_drew ?_ | refine blk_alloc ?_ _)); refine blk_put (cs := #[.int .i64 ((rd_T41 l0 t101).f0), .string ((rd_T41 l0 t101).f1), .int .i64 ((rd_T41 l0 t101).f2), .int .i64 ((rd_T41 l0 t101).f3), .int .i64 ((rd_T41 l0 t101).f4), .int .i64 ((rd_T41 l0 t101).f5), .int .i64 0, .int .i64 0]) ?_ 6 _ rfl; (with_reducible repeat (first | refine blk_drewN ?_ _ | refine blk_drew ?_ | refine blk_alloc ?_ _)); refine blk_put (cs := #[.int .i64 ((rd_T41 l0 t101).f0), .string ((rd_T41 l0 t101).f1), .int .i64 ((rd_T41 l0 t101).f2), .int .i64 ((rd_T41 l0 t101).f3), .int .i64 ((rd_T41 l0 t101).f4), .int .i64 0, .int .i64 0, .int .i64 0]) ?_ 5 _ rfl; (with_reducible repeat (first | refine blk_drewN ?_ _ | refine blk_drew ?_ | refine blk_alloc ?_ _)); refine blk_put (cs := #[.int .i64 ((rd_T41 l0 t101).f0), .string ((rd_T41 l0 t101).f1), .int .i64 ((rd_T41 l0 t101).f2), .int .i64 ((rd_T41 l0 t101).f3), .int .i64 0, .int .i64 0, .int .i64 0, .int .i64 0]) ?_ 4 _ rfl; (with_reducible repeat (first | refine blk_drewN ?_ _ | refine blk_drew ?_ | refine blk_alloc ?_ _)); refine blk_put (cs := #[.int .i64 ((rd_T41 l0 t101).f0), .string ((rd_T41 l0 t101).f1), .int .i64 ((rd_T41 l0 t101).f2), .int .i64 0, .int .i64 0, .int .i64 0, .int .i64 0, .int .i64 0]) ?_ 3 _ rfl; (with_reducible repeat (first | refine blk_drewN ?_ _ | refine blk_drew ?_ | refine blk_alloc ?_ _)); refine blk_put (cs := #[.int .i64 ((rd_T41 l0 t101).f0), .string ((rd_T41 l0 t101).f1), .int .i64 0, .int .i64 0, .int .i64 0, .int .i64 0, .int .i64 0, .int .i64 0]) ?_ 2 _ rfl; (with_reducible repeat (first | refine blk_drewN ?_ _ | refine blk_drew ?_ | refine blk_alloc ?_ _)); refine blk_put (cs := #[.int .i64 ((rd_T41 l0 t101).f0), .string (⟨#[]⟩ : ByteArray), .int .i64 0, .int .i64 0, .int .i64 0, .int .i64 0, .int .i64 0, .int .i64 0]) ?_ 1 _ rfl; (with_reducible repeat (first | refine blk_drewN ?_ _ | refine blk_drew ?_ | refine blk_alloc ?_ _)); refine blk_put (cs := #[.int .i64 0, .string (⟨#[]⟩ : ByteArray), .int .i64 0, .int .i64 0, .int .i64 0, .int .i64 0, .int .i64 0, .int .i64 0]) ?_ 0 _ rfl; exact bS BK108.out) hb); have n2_ := Aside0.mk (below_step (by repeat (first | (with_reducible first | exact HB.out | apply below_alloc | apply pw_below_drewN | apply below_drew1 | refine below_set ?_ GE108.out) | exact HB.out)) hb); clear BK108; clear HB; have HO111 := n0_; have BK108 := n1_; have HB := n2_; clear n0_ n1_ n2_; (try clear hb); (try clear hb2); (try clear hk); (try clear hi); (try clear ho0)))
              go_ret3
              exact ⟨_, by first | rfl | (simp [errW_none, errW_some] <;> rfl) | (simp [*, errW_none, errW_some] <;> rfl), by exact Ho.RS <| Kd.R_mono HO111.out (fun _ hk => trivial), by exact eS HB.out⟩
            · replace c17 := Bool.eq_false_iff.mpr c17
              subst c17
              have H1 : (some ((([] : List (S41))), 0, false)) = some (r1, r2, r3) := by rw [if_neg (show ¬ (false = true) by decide)] at H; exact H
              clear H
              have H := H1
              clear H1
              obtain ⟨y113, hy113⟩ : ∃ y_ : List (S41), y_ = (([] : List (S41))) := ⟨_, rfl⟩
              replace H : (some (y113, 0, false)) = some (r1, r2, r3) := by first | (rw [hy113]; with_reducible exact H) | (have H2_ := (Option.bind_some _ _).symm.trans H; rw [hy113]; with_reducible exact H2_) | (have H2_ := (Option.bind_some _ _).symm.trans H; with_reducible exact H2_) | with_reducible exact H | (rw [hy113]; exact H) | exact H
              have Ny113 := Aside0.mk hy113
              clear hy113
              simp only [Option.some.injEq, Prod.mk.injEq] at H
              obtain ⟨rfl, rfl, rfl⟩ := H
              have p107 : 0 ≤ (t101 : Int) := of_decide_eq_true (by first | (with_reducible assumption) | assumption)
              have q107 : t101 < (l0.length : Int) := of_decide_eq_true (by first | (with_reducible assumption) | assumption)
              obtain ⟨ad107, e107, hx107_0, hx107_1, hx107_2, hx107_3, hx107_4, hx107_5, hx107_6, hx107_7⟩ := at_T41 HR0.out t101 p107 q107
              cases e107
              replace hx107_0 := (HB.out.cell (World.block_lt_of_cell? w _ hx107_0)).trans hx107_0
              replace hx107_1 := (HB.out.cell (World.block_lt_of_cell? w _ hx107_1)).trans hx107_1
              replace hx107_2 := (HB.out.cell (World.block_lt_of_cell? w _ hx107_2)).trans hx107_2
              replace hx107_3 := (HB.out.cell (World.block_lt_of_cell? w _ hx107_3)).trans hx107_3
              replace hx107_4 := (HB.out.cell (World.block_lt_of_cell? w _ hx107_4)).trans hx107_4
              replace hx107_5 := (HB.out.cell (World.block_lt_of_cell? w _ hx107_5)).trans hx107_5
              replace hx107_6 := (HB.out.cell (World.block_lt_of_cell? w _ hx107_6)).trans hx107_6
              replace hx107_7 := (HB.out.cell (World.block_lt_of_cell? w _ hx107_7)).trans hx107_7
              replace p107 := eq_true p107
              replace q107 := eq_true q107
              go_wp2_with (first | ((with_reducible refine gate_dst (N := 10) rfl ?_); refine box_event ?hg (N := 10) ?hd (cs := #[.int .i64 0, .string (⟨#[]⟩ : ByteArray), .int .i64 0, .int .i64 0, .int .i64 0, .int .i64 0, .int .i64 0, .int .i64 0]) (t := 41) ?hr ?_; (case hd => rfl); (case hg => rfl); (case hr => first | (go_simp; done) | (go_simp; rfl)); intro gb108 hg w21 hbox hb; have n0_ := Aside0.mk (below_step (by exact eS HB.out) hb); have n1_ := Aside0.mk (hbox); have n2_ := Aside0.mk ((by rw [hg]; exact (below_size (by exact eS HB.out)) : w.heap.size ≤ gb108)); have n3_ := Aside0.mk ((by rw [hg]; exact (below_size (by exact eS HB.out)) : w.heap.size ≤ gb108)); clear HB; have HB := n0_; have BK108 := n1_; have GW108 := n2_; have GE108 := n3_; clear n0_ n1_ n2_ n3_; clear hb hbox hg; have hcz22_0 : w21.cell? ⟨gb108, 0, none⟩ = some (.int .i64 0) := (blk_cell BK108.out 0).trans rfl; have hcz22_1 : w21.cell? ⟨gb108, 1, none⟩ = some (.string (⟨#[]⟩ : ByteArray)) := (blk_cell BK108.out 1).trans rfl; have hcz22_2 : w21.cell? ⟨gb108, 2, none⟩ = some (.int .i64 0) := (blk_cell BK108.out 2).trans rfl; have hcz22_3 : w21.cell? ⟨gb108, 3, none⟩ = some (.int .i64 0) := (blk_cell BK108.out 3).trans rfl; have hcz22_4 : w21.cell? ⟨gb108, 4, none⟩ = some (.int .i64 0) := (blk_cell BK108.out 4).trans rfl; have hcz22_5 : w21.cell? ⟨gb108, 5, none⟩ = some (.int .i64 0) := (blk_cell BK108.out 5).trans rfl; have hcz22_6 : w21.cell? ⟨gb108, 6, none⟩ = some (.int .i64 0) := (blk_cell BK108.out 6).trans rfl; have hcz22_7 : w21.cell? ⟨gb108, 7, none⟩ = some (.int .i64 0) := (blk_cell BK108.out 7).trans rfl; have hfz22_0 := blk_frozen BK108.out 0; have hfz22_1 := blk_frozen BK108.out 1; have hfz22_2 := blk_frozen BK108.out 2; have hfz22_3 := blk_frozen BK108.out 3; have hfz22_4 := blk_frozen BK108.out 4; have hfz22_5 := blk_frozen BK108.out 5; have hfz22_6 := blk_frozen BK108.out 6; have hfz22_7 := blk_frozen BK108.out 7) | ((with_reducible refine gate_callee (f := 83) rfl ?_); refine goesL_ (some 57) rfl rfl Tryd.func83 (by kernel_rfl) rfl #[.slice (some ad107) l0.length c0, .int .i64 t101, .agg #[.int .i64 ((rd_T41 l0 t101).f0), .string ((rd_T41 l0 t101).f1), .int .i64 ((rd_T41 l0 t101).f2), .int .i64 ((rd_T41 l0 t101).f3), .int .i64 5, .int .i64 ((rd_T41 l0 t101).f5), .int .i64 (wrap64 (((rd_T41 l0 t101).f6) - (wrap64 (Int.tdiv (wrap64 (((rd_T41 l0 t101).f6) + 1)) 2)))), .int .i64 a2]] rfl (by (try simp only [List.map_toArray, List.map_cons, List.map_nil]); first | done | rfl | (simp only [List.length_drop, List.length_take]; rfl)) ?_; (with_reducible refine (spec_l17With.calls kj4 _ _ l0 t101 ((rd_T41 l0 t101).f0) ((rd_T41 l0 t101).f1) ((rd_T41 l0 t101).f2) ((rd_T41 l0 t101).f3) 5 ((rd_T41 l0 t101).f5) (wrap64 (((rd_T41 l0 t101).f6) - (wrap64 (Int.tdiv (wrap64 (((rd_T41 l0 t101).f6) + 1)) 2)))) a2 t109 false _ ?side1 ?side2 A16.out).mono ?_); (case side1 => exact Kd.C_below HR0.out (by repeat (first | (with_reducible first | exact HB.out | apply below_alloc | apply pw_below_drewN | apply below_drew1 | refine below_set ?_ GE108.out) | exact HB.out))); (case side2 => exact HC0.out); rintro e w23 ⟨v110, rfl, ho0, hb⟩; refine ⟨_, rfl, ?_⟩; have n0_ := Aside0.mk (Kd.R_lower (Kd.R_newB ho0 (g := gb108) (o := .cells #[.int .i64 ((rd_T41 l0 t101).f0), .string ((rd_T41 l0 t101).f1), .int .i64 ((rd_T41 l0 t101).f2), .int .i64 ((rd_T41 l0 t101).f3), .int .i64 5, .int .i64 ((rd_T41 l0 t101).f5), .int .i64 (wrap64 (((rd_T41 l0 t101).f6) - (wrap64 (Int.tdiv (wrap64 (((rd_T41 l0 t101).f6) + 1)) 2)))), .int .i64 a2] 41 (0, 0)) (by (with_reducible repeat (first | refine blk_drewN ?_ _ | refine blk_drew ?_ | refine blk_alloc ?_ _)); refine blk_put (cs := #[.int .i64 ((rd_T41 l0 t101).f0), .string ((rd_T41 l0 t101).f1), .int .i64 ((rd_T41 l0 t101).f2), .int .i64 ((rd_T41 l0 t101).f3), .int .i64 5, .int .i64 ((rd_T41 l0 t101).f5), .int .i64 (wrap64 (((rd_T41 l0 t101).f6) - (wrap64 (Int.tdiv (wrap64 (((rd_T41 l0 t101).f6) + 1)) 2)))), .int .i64 ((rd_T41 l0 t101).f7)]) ?_ 7 _ rfl; (with_reducible repeat (first | refine blk_drewN ?_ _ | refine blk_drew ?_ | refine blk_alloc ?_ _)); refine blk_put (cs := #[.int .i64 ((rd_T41 l0 t101).f0), .string ((rd_T41 l0 t101).f1), .int .i64 ((rd_T41 l0 t101).f2), .int .i64 ((rd_T41 l0 t101).f3), .int .i64 ((rd_T41 l0 t101).f4), .int .i64 ((rd_T41 l0 t101).f5), .int .i64 (wrap64 (((rd_T41 l0 t101).f6) - (wrap64 (Int.tdiv (wrap64 (((rd_T41 l0 t101).f6) + 1)) 2)))), .int .i64 ((rd_T41 l0 t101).f7)]) ?_ 4 _ rfl; (with_reducible repeat (first | refine blk_drewN ?_ _ | refine blk_drew ?_ | refine blk_alloc ?_ _)); refine blk_put (cs := #[.int .i64 ((rd_T41 l0 t101).f0), .string ((rd_T41 l0 t101).f1), .int .i64 ((rd_T41 l0 t101).f2), .int .i64 ((rd_T41 l0 t101).f3), .int .i64 ((rd_T41 l0 t101).f4), .int .i64 ((rd_T41 l0 t101).f5), .int .i64 ((rd_T41 l0 t101).f6), .int .i64 ((rd_T41 l0 t101).f7)]) ?_ 6 _ rfl; (with_reducible repeat (first | refine blk_drewN ?_ _ | refine blk_drew ?_ | refine blk_alloc ?_ _)); refine blk_put (cs := #[.int .i64 ((rd_T41 l0 t101).f0), .string ((rd_T41 l0 t101).f1), .int .i64 ((rd_T41 l0 t101).f2), .int .i64 ((rd_T41 l0 t101).f3), .int .i64 ((rd_T41 l0 t101).f4), .int .i64 ((rd_T41 l0 t101).f5), .int .i64 ((rd_T41 l0 t101).f6), .int .i64 0]) ?_ 7 _ rfl; (with_reducible repeat (first | refine blk_drewN ?_ _ | refine blk_drew ?_ | refine blk_alloc ?_ _)); refine blk_put (cs := #[.int .i64 ((rd_T41 l0 t101).f0), .string ((rd_T41 l0 t101).f1), .int .i64 ((rd_T41 l0 t101).f2), .int .i64 ((rd_T41 l0 t101).f3), .int .i64 ((rd_T41 l0 t101).f4), .int .i64 ((rd_T41 l0 t101).f5), .int .i64 0, .int .i64 0]) ?_ 6 _ rfl; (with_reducible repeat (first | refine blk_drewN ?_ _ | refine blk_drew ?_ | refine blk_alloc ?_ _)); refine blk_put (cs := #[.int .i64 ((rd_T41 l0 t101).f0), .string ((rd_T41 l0 t101).f1), .int .i64 ((rd_T41 l0 t101).f2), .int .i64 ((rd_T41 l0 t101).f3), .int .i64 ((rd_T41 l0 t101).f4), .int .i64 0, .int .i64 0, .int .i64 0]) ?_ 5 _ rfl; (with_reducible repeat (first | refine blk_drewN ?_ _ | refine blk_drew ?_ | refine blk_alloc ?_ _)); refine blk_put (cs := #[.int .i64 ((rd_T41 l0 t101).f0), .string ((rd_T41 l0 t101).f1), .int .i64 ((rd_T41 l0 t101).f2), .int .i64 ((rd_T41 l0 t101).f3), .int .i64 0, .int .i64 0, .int .i64 0, .int .i64 0]) ?_ 4 _ rfl; (with_reducible repeat (first | refine blk_drewN ?_ _ | refine blk_drew ?_ | refine blk_alloc ?_ _)); refine blk_put (cs := #[.int .i64 ((rd_T41 l0 t101).f0), .string ((rd_T41 l0 t101).f1), .int .i64 ((rd_T41 l0 t101).f2), .int .i64 0, .int .i64 0, .int .i64 0, .int .i64 0, .int .i64 0]) ?_ 3 _ rfl; (with_reducible repeat (first | refine blk_drewN ?_ _ | refine blk_drew ?_ | refine blk_alloc ?_ _)); refine blk_put (cs := #[.int .i64 ((rd_T41 l0 t101).f0), .string ((rd_T41 l0 t101).f1), .int .i64 0, .int .i64 0, .int .i64 0, .int .i64 0, .int .i64 0, .int .i64 0]) ?_ 2 _ rfl; (with_reducible repeat (first | refine blk_drewN ?_ _ | refine blk_drew ?_ | refine blk_alloc ?_ _)); refine blk_put (cs := #[.int .i64 ((rd_T41 l0 t101).f0), .string (⟨#[]⟩ : ByteArray), .int .i64 0, .int .i64 0, .int .i64 0, .int .i64 0, .int .i64 0, .int .i64 0]) ?_ 1 _ rfl; (with_reducible repeat (first | refine blk_drewN ?_ _ | refine blk_drew ?_ | refine blk_alloc ?_ _)); refine blk_put (cs := #[.int .i64 0, .string (⟨#[]⟩ : ByteArray), .int .i64 0, .int .i64 0, .int .i64 0, .int .i64 0, .int .i64 0, .int .i64 0]) ?_ 0 _ rfl; exact bS BK108.out)) (below_size (by repeat (first | (with_reducible first | exact HB.out | apply below_alloc | apply pw_below_drewN | apply below_drew1 | refine below_set ?_ GE108.out) | exact HB.out)))); have n1_ := Aside0.mk (blk_below (g := gb108) (o := .cells #[.int .i64 ((rd_T41 l0 t101).f0), .string ((rd_T41 l0 t101).f1), .int .i64 ((rd_T41 l0 t101).f2), .int .i64 ((rd_T41 l0 t101).f3), .int .i64 5, .int .i64 ((rd_T41 l0 t101).f5), .int .i64 (wrap64 (((rd_T41 l0 t101).f6) - (wrap64 (Int.tdiv (wrap64 (((rd_T41 l0 t101).f6) + 1)) 2)))), .int .i64 a2] 41 (0, 0)) (by (with_reducible repeat (first | refine blk_drewN ?_ _ | refine blk_drew ?_ | refine blk_alloc ?_ _)); refine blk_put (cs := #[.int .i64 ((rd_T41 l0 t101).f0), .string ((rd_T41 l0 t101).f1), .int .i64 ((rd_T41 l0 t101).f2), .int .i64 ((rd_T41 l0 t101).f3), .int .i64 5, .int .i64 ((rd_T41 l0 t101).f5), .int .i64 (wrap64 (((rd_T41 l0 t101).f6) - (wrap64 (Int.tdiv (wrap64 (((rd_T41 l0 t101).f6) + 1)) 2)))), .int .i64 ((rd_T41 l0 t101).f7)]) ?_ 7 _ rfl; (with_reducible repeat (first | refine blk_drewN ?_ _ | refine blk_drew ?_ | refine blk_alloc ?_ _)); refine blk_put (cs := #[.int .i64 ((rd_T41 l0 t101).f0), .string ((rd_T41 l0 t101).f1), .int .i64 ((rd_T41 l0 t101).f2), .int .i64 ((rd_T41 l0 t101).f3), .int .i64 ((rd_T41 l0 t101).f4), .int .i64 ((rd_T41 l0 t101).f5), .int .i64 (wrap64 (((rd_T41 l0 t101).f6) - (wrap64 (Int.tdiv (wrap64 (((rd_T41 l0 t101).f6) + 1)) 2)))), .int .i64 ((rd_T41 l0 t101).f7)]) ?_ 4 _ rfl; (with_reducible repeat (first | refine blk_drewN ?_ _ | refine blk_drew ?_ | refine blk_alloc ?_ _)); refine blk_put (cs := #[.int .i64 ((rd_T41 l0 t101).f0), .string ((rd_T41 l0 t101).f1), .int .i64 ((rd_T41 l0 t101).f2), .int .i64 ((rd_T41 l0 t101).f3), .int .i64 ((rd_T41 l0 t101).f4), .int .i64 ((rd_T41 l0 t101).f5), .int .i64 ((rd_T41 l0 t101).f6), .int .i64 ((rd_T41 l0 t101).f7)]) ?_ 6 _ rfl; (with_reducible repeat (first | refine blk_drewN ?_ _ | refine blk_drew ?_ | refine blk_alloc ?_ _)); refine blk_put (cs := #[.int .i64 ((rd_T41 l0 t101).f0), .string ((rd_T41 l0 t101).f1), .int .i64 ((rd_T41 l0 t101).f2), .int .i64 ((rd_T41 l0 t101).f3), .int .i64 ((rd_T41 l0 t101).f4), .int .i64 ((rd_T41 l0 t101).f5), .int .i64 ((rd_T41 l0 t101).f6), .int .i64 0]) ?_ 7 _ rfl; (with_reducible repeat (first | refine blk_drewN ?_ _ | refine blk_drew ?_ | refine blk_alloc ?_ _)); refine blk_put (cs := #[.int .i64 ((rd_T41 l0 t101).f0), .string ((rd_T41 l0 t101).f1), .int .i64 ((rd_T41 l0 t101).f2), .int .i64 ((rd_T41 l0 t101).f3), .int .i64 ((rd_T41 l0 t101).f4), .int .i64 ((rd_T41 l0 t101).f5), .int .i64 0, .int .i64 0]) ?_ 6 _ rfl; (with_reducible repeat (first | refine blk_drewN ?_ _ | refine blk_drew ?_ | refine blk_alloc ?_ _)); refine blk_put (cs := #[.int .i64 ((rd_T41 l0 t101).f0), .string ((rd_T41 l0 t101).f1), .int .i64 ((rd_T41 l0 t101).f2), .int .i64 ((rd_T41 l0 t101).f3), .int .i64 ((rd_T41 l0 t101).f4), .int .i64 0, .int .i64 0, .int .i64 0]) ?_ 5 _ rfl; (with_reducible repeat (first | refine blk_drewN ?_ _ | refine blk_drew ?_ | refine blk_alloc ?_ _)); refine blk_put (cs := #[.int .i64 ((rd_T41 l0 t101).f0), .string ((rd_T41 l0 t101).f1), .int .i64 ((rd_T41 l0 t101).f2), .int .i64 ((rd_T41 l0 t101).f3), .int .i64 0, .int .i64 0, .int .i64 0, .int .i64 0]) ?_ 4 _ rfl; (with_reducible repeat (first | refine blk_drewN ?_ _ | refine blk_drew ?_ | refine blk_alloc ?_ _)); refine blk_put (cs := #[.int .i64 ((rd_T41 l0 t101).f0), .string ((rd_T41 l0 t101).f1), .int .i64 ((rd_T41 l0 t101).f2), .int .i64 0, .int .i64 0, .int .i64 0, .int .i64 0, .int .i64 0]) ?_ 3 _ rfl; (with_reducible repeat (first | refine blk_drewN ?_ _ | refine blk_drew ?_ | refine blk_alloc ?_ _)); refine blk_put (cs := #[.int .i64 ((rd_T41 l0 t101).f0), .string ((rd_T41 l0 t101).f1), .int .i64 0, .int .i64 0, .int .i64 0, .int .i64 0, .int .i64 0, .int .i64 0]) ?_ 2 _ rfl; (with_reducible repeat (first | refine blk_drewN ?_ _ | refine blk_drew ?_ | refine blk_alloc ?_ _)); refine blk_put (cs := #[.int .i64 ((rd_T41 l0 t101).f0), .string (⟨#[]⟩ : ByteArray), .int .i64 0, .int .i64 0, .int .i64 0, .int .i64 0, .int .i64 0, .int .i64 0]) ?_ 1 _ rfl; (with_reducible repeat (first | refine blk_drewN ?_ _ | refine blk_drew ?_ | refine blk_alloc ?_ _)); refine blk_put (cs := #[.int .i64 0, .string (⟨#[]⟩ : ByteArray), .int .i64 0, .int .i64 0, .int .i64 0, .int .i64 0, .int .i64 0, .int .i64 0]) ?_ 0 _ rfl; exact bS BK108.out) hb); have n2_ := Aside0.mk (below_step (by repeat (first | (with_reducible first | exact HB.out | apply below_alloc | apply pw_below_drewN | apply below_drew1 | refine below_set ?_ GE108.out) | exact HB.out)) hb); clear BK108; clear HB; have HO111 := n0_; have BK108 := n1_; have HB := n2_; clear n0_ n1_ n2_; (try clear hb); (try clear hb2); (try clear hk); (try clear hi); (try clear ho0)) | ((with_reducible refine gate_dst (N := 62) rfl ?_); refine Kd.R_lit k41 _ 41 ?hg (N := 62) ?hd (xs := ([] : List (S41))) (inner := []) (ok := fun _ => True) (okp := fun _ => True) ?hr ?hp (fun _ hk => hk) trivial (Below.refl _ _) (Nat.le_refl _) (by simp) ?_; (case hd => rfl); (case hg => rfl); (case hr => first | (go_simp; done) | (go_simp; rfl)); (case hp => exact (Reps.none _ _)); intro v114 w24 ho25 hb hg_ hnew_; clear hg_ hnew_; (first | rw [← Ny113.out] at ho25 | (simp only [Int.reduceToNat] at ho25; rw [← Ny113.out] at ho25)); have n0_ := Aside0.mk (Kd.R_elder' (by exact Ho.RS <| HO111.out) (Kd.R_base ho25) hb); have n1_ := Aside0.mk (Kd.R_lower (Kd.R_newB (Kd.R_new' ho25 (Kd.R_lt (by exact Ho.RS <| HO111.out))) (bS BK108.out)) (below_size (by exact eS HB.out))); have n2_ := Aside0.mk (blk_below (bS BK108.out) hb); have n3_ := Aside0.mk (below_step (by exact eS HB.out) hb); clear HO111; clear BK108; clear HB; have HO111 := n0_; have HO115 := n1_; have BK108 := n2_; have HB := n3_; clear n0_ n1_ n2_ n3_; clear hb ho25))
              go_ret3
              exact ⟨_, by first | rfl | (simp [errW_none, errW_some] <;> rfl) | (simp [*, errW_none, errW_some] <;> rfl), by exact Ho.RS <| Kd.R_mono HO115.out (fun _ hk => trivial), by exact eS HB.out⟩
          · rw [if_neg c15] at H
            exact absurd H (by simp)
        · rw [if_neg c14] at H
          exact absurd H (by simp)

end Go.Proofs.YtahfahlbdgbfeaaDoor.X

-- XlawsFnExactCallOffF10
namespace Go.Proofs.YtahfahlbdgbfeaaDoor.X
open Ho (bS eS)
open Go.RowKit Go.Proofs.YtahfahlbdgbfeaaDoorW.PrintWords Go.Proofs.YtahfahlbdgbfeaaDoorW.PrintLast Go.Proofs.YtahfahlbdgbfeaaDoorW.PrintMore
attribute [local go_sem] max2_int min2_int max_two min_two max_three min_three max_four min_four   -- for this text's walks alone
set_option linter.unusedVariables false
set_option linter.unusedSimpArgs false

/-! ### laws_FnExactCallOff: function 10 -/
mutual
def laws_FnExactCallOff.j0 : Nat → List (S38) → Int → Int → List (S41) → Int → Bool → List (S41) → List (S41) → Int → Bool → Bool → Option (Bool)
  | 0, _, _, _, _, _, _, _, _, _, _, _ => none
  | k + 1, x0, x1, x2, x8, x9, x10, x11, x12, x13, x14, x58 => if x58 = true then (some false) else ((laws_toCarpetOrderS.f k x0).bind fun t119 => ((laws_eqCarpetOrderS.f k x11 t119).bind fun t122 => (if t122 = true then ((laws_markCarpetOrderS.f k x11 1).bind fun bt123 => (if bt123.1 < 0 then (laws_FnExactCallOff.j1 k x0 x1 x2 x8 x9 x10 x12 true) else ((laws_eqCarpetOrderS.f k x12 x8).bind fun t125 => (if t125 = true then (if x13 = x9 then (laws_FnExactCallOff.j1 k x0 x1 x2 x8 x9 x10 x12 (x14 != x10)) else (laws_FnExactCallOff.j1 k x0 x1 x2 x8 x9 x10 x12 true)) else (laws_FnExactCallOff.j1 k x0 x1 x2 x8 x9 x10 x12 true))))) else (some false))))
def laws_FnExactCallOff.j1 : Nat → List (S38) → Int → Int → List (S41) → Int → Bool → List (S41) → Bool → Option (Bool)
  | 0, _, _, _, _, _, _, _, _ => none
  | k + 1, x0, x1, x2, x8, x9, x10, x12, x84 => if x84 = true then (some false) else ((laws_markCarpetOrderS.f k x12 1).bind fun bt126 => ((laws_heldCarpetOrderS.f k bt126.2 1).bind fun t128 => (if t128 < 0 then (some false) else (if t128 = bt126.1 then ((laws_toCarpetOrderS.f k x0).bind fun t129 => ((impl_CallOff.f k t129 x1 x2).bind fun bt132 => ((laws_eqCarpetOrderS.f k bt132.1 x8).bind fun t137 => (if t137 = true then (if bt132.2.1 = x9 then (laws_FnExactCallOff.j2 k bt126.2 bt126.1 (bt132.2.2 != x10)) else (laws_FnExactCallOff.j2 k bt126.2 bt126.1 true)) else (laws_FnExactCallOff.j2 k bt126.2 bt126.1 true))))) else (some false)))))
def laws_FnExactCallOff.j2 : Nat → List (S41) → Int → Bool → Option (Bool)
  | 0, _, _, _ => none
  | k + 1, x12, x16, x118 => if x118 = true then (some false) else ((laws_heldCarpetOrderS.f k x12 1).bind fun t138 => (if t138 < 0 then (some false) else (if t138 = x16 then (some true) else (some false))))
end
def laws_FnExactCallOff.f (k : Nat) (l0 : List (S38)) (a1 : Int) (a2 : Int) : Option (Bool) := (laws_szCarpetOrderS.f k l0 1048576).bind fun t101 => (if t101 < 0 then (some true) else ((laws_toCarpetOrderS.f k l0).bind fun t102 => ((spec_CallOff.f k t102 a1 a2).bind fun bt105 => ((laws_toCarpetOrderS.f k l0).bind fun t110 => ((impl_CallOff.f k t110 a1 a2).bind fun bt113 => ((laws_eqCarpetOrderS.f k bt113.1 bt105.1).bind fun t118 => (if t118 = true then (if bt113.2.1 = bt105.2.1 then (laws_FnExactCallOff.j0 k l0 a1 a2 bt105.1 bt105.2.1 bt105.2.2 t110 bt113.1 bt113.2.1 bt113.2.2 (bt113.2.2 != bt105.2.2)) else (laws_FnExactCallOff.j0 k l0 a1 a2 bt105.1 bt105.2.1 bt105.2.2 t110 bt113.1 bt113.2.1 bt113.2.2 true)) else (laws_FnExactCallOff.j0 k l0 a1 a2 bt105.1 bt105.2.1 bt105.2.2 t110 bt113.1 bt113.2.1 bt113.2.2 true))))))))
theorem laws_FnExactCallOff.mono_l : ∀ k, (∀ y0 y1 y2 y3 y4 y5 y6 y7 y8 y9 y10, LeO (laws_FnExactCallOff.j0 k y0 y1 y2 y3 y4 y5 y6 y7 y8 y9 y10) (laws_FnExactCallOff.j0 (k + 1) y0 y1 y2 y3 y4 y5 y6 y7 y8 y9 y10)) ∧ (∀ y0 y1 y2 y3 y4 y5 y6 y7, LeO (laws_FnExactCallOff.j1 k y0 y1 y2 y3 y4 y5 y6 y7) (laws_FnExactCallOff.j1 (k + 1) y0 y1 y2 y3 y4 y5 y6 y7)) ∧ (∀ y0 y1 y2, LeO (laws_FnExactCallOff.j2 k y0 y1 y2) (laws_FnExactCallOff.j2 (k + 1) y0 y1 y2))
  | 0 => ⟨fun _ _ _ _ _ _ _ _ _ _ _ r h => by simp [laws_FnExactCallOff.j0] at h, fun _ _ _ _ _ _ _ _ r h => by simp [laws_FnExactCallOff.j1] at h, fun _ _ _ r h => by simp [laws_FnExactCallOff.j2] at h⟩
  | k + 1 => by
    obtain ⟨ih0, ih1, ih2⟩ := laws_FnExactCallOff.mono_l k
    refine ⟨?_, ?_, ?_⟩
    · intro y0 y1 y2 y3 y4 y5 y6 y7 y8 y9 y10
      unfold laws_FnExactCallOff.j0
      repeat' first
      | (with_reducible exact ih0 _ _ _ _ _ _ _ _ _ _ _)
      | (with_reducible exact ih1 _ _ _ _ _ _ _ _)
      | (with_reducible exact ih2 _ _ _)
      | (with_reducible exact impl_CallOff.mono _ _ _ _)
      | (with_reducible exact laws_eqCarpetOrderS.mono _ _ _)
      | (with_reducible exact laws_heldCarpetOrderS.mono _ _ _)
      | (with_reducible exact laws_markCarpetOrderS.mono _ _ _)
      | (with_reducible exact laws_szCarpetOrderS.mono _ _ _)
      | (with_reducible exact laws_toCarpetOrderS.mono _ _)
      | (with_reducible exact spec_CallOff.mono _ _ _ _)
      | (with_reducible exact LeO.refl _)
      | (with_reducible exact LeO.none _)
      | (with_reducible refine LeO.ite ?_ ?_)
      | (with_reducible refine LeO.bind ?_ (fun _ => ?_))
      | exact ih0 _ _ _ _ _ _ _ _ _ _ _
      | exact ih1 _ _ _ _ _ _ _ _
      | exact ih2 _ _ _
      | exact impl_CallOff.mono _ _ _ _
      | exact laws_eqCarpetOrderS.mono _ _ _
      | exact laws_heldCarpetOrderS.mono _ _ _
      | exact laws_markCarpetOrderS.mono _ _ _
      | exact laws_szCarpetOrderS.mono _ _ _
      | exact laws_toCarpetOrderS.mono _ _
      | exact spec_CallOff.mono _ _ _ _
      | exact LeO.none _
      | refine LeO.ite ?_ ?_
      | refine LeO.bind ?_ (fun _ => ?_)
    · intro y0 y1 y2 y3 y4 y5 y6 y7
      unfold laws_FnExactCallOff.j1
      repeat' first
      | (with_reducible exact ih0 _ _ _ _ _ _ _ _ _ _ _)
      | (with_reducible exact ih1 _ _ _ _ _ _ _ _)
      | (with_reducible exact ih2 _ _ _)
      | (with_reducible exact impl_CallOff.mono _ _ _ _)
      | (with_reducible exact laws_eqCarpetOrderS.mono _ _ _)
      | (with_reducible exact laws_heldCarpetOrderS.mono _ _ _)
      | (with_reducible exact laws_markCarpetOrderS.mono _ _ _)
      | (with_reducible exact laws_szCarpetOrderS.mono _ _ _)
      | (with_reducible exact laws_toCarpetOrderS.mono _ _)
      | (with_reducible exact spec_CallOff.mono _ _ _ _)
      | (with_reducible exact LeO.refl _)
      | (with_reducible exact LeO.none _)
      | (with_reducible refine LeO.ite ?_ ?_)
      | (with_reducible refine LeO.bind ?_ (fun _ => ?_))
      | exact ih0 _ _ _ _ _ _ _ _ _ _ _
      | exact ih1 _ _ _ _ _ _ _ _
      | exact ih2 _ _ _
      | exact impl_CallOff.mono _ _ _ _
      | exact laws_eqCarpetOrderS.mono _ _ _
      | exact laws_heldCarpetOrderS.mono _ _ _
      | exact laws_markCarpetOrderS.mono _ _ _
      | exact laws_szCarpetOrderS.mono _ _ _
      | exact laws_toCarpetOrderS.mono _ _
      | exact spec_CallOff.mono _ _ _ _
      | exact LeO.none _
      | refine LeO.ite ?_ ?_
      | refine LeO.bind ?_ (fun _ => ?_)
    · intro y0 y1 y2
      unfold laws_FnExactCallOff.j2
      repeat' first
      | (with_reducible exact ih0 _ _ _ _ _ _ _ _ _ _ _)
      | (with_reducible exact ih1 _ _ _ _ _ _ _ _)
      | (with_reducible exact ih2 _ _ _)
      | (with_reducible exact impl_CallOff.mono _ _ _ _)
      | (with_reducible exact laws_eqCarpetOrderS.mono _ _ _)
      | (with_reducible exact laws_heldCarpetOrderS.mono _ _ _)
      | (with_reducible exact laws_markCarpetOrderS.mono _ _ _)
      | (with_reducible exact laws_szCarpetOrderS.mono _ _ _)
      | (with_reducible exact laws_toCarpetOrderS.mono _ _)
      | (with_reducible exact spec_CallOff.mono _ _ _ _)
      | (with_reducible exact LeO.refl _)
      | (with_reducible exact LeO.none _)
      | (with_reducible refine LeO.ite ?_ ?_)
      | (with_reducible refine LeO.bind ?_ (fun _ => ?_))
      | exact ih0 _ _ _ _ _ _ _ _ _ _ _
      | exact ih1 _ _ _ _ _ _ _ _
      | exact ih2 _ _ _
      | exact impl_CallOff.mono _ _ _ _
      | exact laws_eqCarpetOrderS.mono _ _ _
      | exact laws_heldCarpetOrderS.mono _ _ _
      | exact laws_markCarpetOrderS.mono _ _ _
      | exact laws_szCarpetOrderS.mono _ _ _
      | exact laws_toCarpetOrderS.mono _ _
      | exact spec_CallOff.mono _ _ _ _
      | exact LeO.none _
      | refine LeO.ite ?_ ?_
      | refine LeO.bind ?_ (fun _ => ?_)
theorem laws_FnExactCallOff.mono : ∀ a0 a1 a2 k, LeO (laws_FnExactCallOff.f k a0 a1 a2) (laws_FnExactCallOff.f (k + 1) a0 a1 a2) := by
  intro a0 a1 a2 k
  obtain ⟨ih0, ih1, ih2⟩ := laws_FnExactCallOff.mono_l k
  unfold laws_FnExactCallOff.f
  repeat' first
      | (with_reducible exact ih0 _ _ _ _ _ _ _ _ _ _ _)
      | (with_reducible exact ih1 _ _ _ _ _ _ _ _)
      | (with_reducible exact ih2 _ _ _)
      | (with_reducible exact impl_CallOff.mono _ _ _ _)
      | (with_reducible exact laws_eqCarpetOrderS.mono _ _ _)
      | (with_reducible exact laws_heldCarpetOrderS.mono _ _ _)
      | (with_reducible exact laws_markCarpetOrderS.mono _ _ _)
      | (with_reducible exact laws_szCarpetOrderS.mono _ _ _)
      | (with_reducible exact laws_toCarpetOrderS.mono _ _)
      | (with_reducible exact spec_CallOff.mono _ _ _ _)
      | (with_reducible exact LeO.refl _)
      | (with_reducible exact LeO.none _)
      | (with_reducible refine LeO.ite ?_ ?_)
      | (with_reducible refine LeO.bind ?_ (fun _ => ?_))
      | exact ih0 _ _ _ _ _ _ _ _ _ _ _
      | exact ih1 _ _ _ _ _ _ _ _
      | exact ih2 _ _ _
      | exact impl_CallOff.mono _ _ _ _
      | exact laws_eqCarpetOrderS.mono _ _ _
      | exact laws_heldCarpetOrderS.mono _ _ _
      | exact laws_markCarpetOrderS.mono _ _ _
      | exact laws_szCarpetOrderS.mono _ _ _
      | exact laws_toCarpetOrderS.mono _ _
      | exact spec_CallOff.mono _ _ _ _
      | exact LeO.none _
      | refine LeO.ite ?_ ?_
      | refine LeO.bind ?_ (fun _ => ?_)
set_option maxHeartbeats 8000000 in
set_option maxRecDepth 100000 in
theorem laws_FnExactCallOff.calls (k : Nat) (A0 : Option Addr) (c0 : Nat) (l0 : List (S38)) (a1 : Int) (a2 : Int) (r : Bool) (w : World) (hr0 : Kd.C k38 w A0 l0.length l0) (hc0 : l0.length ≤ c0) (ht : r = true) (h : laws_FnExactCallOff.f k l0 a1 a2 = some r) :
  Calls Tryd.prog 10 #[.slice A0 l0.length c0, .int .i64 a1, .int .i64 a2] w fun e w' => e = .returned (.bool r) ∧ Below w.heap.size w w' := by
 have HR0 := Aside0.mk hr0
 have HC0 := Aside0.mk hc0
 clear hr0 hc0
 have HB := Aside0.mk (Below.refl w.heap.size w)
 have HT := Aside0.mk ht
 clear ht
 have H : ((laws_szCarpetOrderS.f k l0 1048576).bind fun t101 => (if t101 < 0 then (some true) else ((laws_toCarpetOrderS.f k l0).bind fun t102 => ((spec_CallOff.f k t102 a1 a2).bind fun bt105 => ((laws_toCarpetOrderS.f k l0).bind fun t110 => ((impl_CallOff.f k t110 a1 a2).bind fun bt113 => ((laws_eqCarpetOrderS.f k bt113.1 bt105.1).bind fun t118 => (if t118 = true then (if bt113.2.1 = bt105.2.1 then (laws_FnExactCallOff.j0 k l0 a1 a2 bt105.1 bt105.2.1 bt105.2.2 t110 bt113.1 bt113.2.1 bt113.2.2 (bt113.2.2 != bt105.2.2)) else (laws_FnExactCallOff.j0 k l0 a1 a2 bt105.1 bt105.2.1 bt105.2.2 t110 bt113.1 bt113.2.1 bt113.2.2 true)) else (laws_FnExactCallOff.j0 k l0 a1 a2 bt105.1 bt105.2.1 bt105.2.2 t110 bt113.1 bt113.2.1 bt113.2.2 true))))))))) = some r := h
 clear h
 replace H := Option.bind_eq_some_iff.mp H
 obtain ⟨t101, A40, H⟩ := H
 replace H : (if t101 < 0 then (some true) else ((laws_toCarpetOrderS.f k l0).bind fun t102 => ((spec_CallOff.f k t102 a1 a2).bind fun bt105 => ((laws_toCarpetOrderS.f k l0).bind fun t110 => ((impl_CallOff.f k t110 a1 a2).bind fun bt113 => ((laws_eqCarpetOrderS.f k bt113.1 bt105.1).bind fun t118 => (if t118 = true then (if bt113.2.1 = bt105.2.1 then (laws_FnExactCallOff.j0 k l0 a1 a2 bt105.1 bt105.2.1 bt105.2.2 t110 bt113.1 bt113.2.1 bt113.2.2 (bt113.2.2 != bt105.2.2)) else (laws_FnExactCallOff.j0 k l0 a1 a2 bt105.1 bt105.2.1 bt105.2.2 t110 bt113.1 bt113.2.1 bt113.2.2 true)) else (laws_FnExactCallOff.j0 k l0 a1 a2 bt105.1 bt105.2.1 bt105.2.2 t110 bt113.1 bt113.2.1 bt113.2.2 true)))))))) = some r := H
 have A4 := Aside0.mk A40
 clear A40
 by_cases c5 : t101 < 0
 ·rw [if_pos c5] at H
  have c5b0 : decide (t101 < 0) = true := decide_eq_true c5
  clear c5
  as_aux_lemma =>
   obtain rfl := Option.some.inj H
   go_enter Tryd.func10, Tryd.ntmps10
   go_wp2_with (first | ((with_reducible refine gate_callee (f := 14) rfl ?_); refine goesL_ (some 23) rfl rfl Tryd.func14 (by kernel_rfl) rfl #[.slice A0 l0.length c0, .int .i64 1048576] rfl (by (try simp only [List.map_toArray, List.map_cons, List.map_nil]); first | done | rfl | (simp only [List.length_drop, List.length_take]; rfl)) ?_; (with_reducible refine (laws_szCarpetOrderS.calls k _ _ l0 1048576 t101 _ ?side1 ?side2 A4.out).mono ?_); (case side1 => repeat (first | exact HR0.out | (with_reducible refine Kd.C_alloc ?_ _) | (with_reducible refine Kd.C_drewN ?_ _) | (with_reducible refine Kd.C_drew ?_))); (case side2 => exact HC0.out); rintro e w6 ⟨rfl, hb⟩; refine ⟨_, rfl, ?_⟩; have n0_ := Aside0.mk (below_step (by exact eS HB.out) hb); clear HB; have HB := n0_; clear n0_; (try clear hb); (try clear hb2); (try clear hk); (try clear hi)))
   go_ret
   exact ⟨by first | rfl | (simp [errW_none, errW_some] <;> rfl) | (simp [*, errW_none, errW_some] <;> rfl), by exact eS HB.out⟩
 ·rw [if_neg c5] at H
  have c5b0 : decide (t101 < 0) = false := decide_eq_false c5
  clear c5
  replace H := Option.bind_eq_some_iff.mp H
  obtain ⟨t102, A70, H⟩ := H
  replace H : ((spec_CallOff.f k t102 a1 a2).bind fun bt105 => ((laws_toCarpetOrderS.f k l0).bind fun t110 => ((impl_CallOff.f k t110 a1 a2).bind fun bt113 => ((laws_eqCarpetOrderS.f k bt113.1 bt105.1).bind fun t118 => (if t118 = true then (if bt113.2.1 = bt105.2.1 then (laws_FnExactCallOff.j0 k l0 a1 a2 bt105.1 bt105.2.1 bt105.2.2 t110 bt113.1 bt113.2.1 bt113.2.2 (bt113.2.2 != bt105.2.2)) else (laws_FnExactCallOff.j0 k l0 a1 a2 bt105.1 bt105.2.1 bt105.2.2 t110 bt113.1 bt113.2.1 bt113.2.2 true)) else (laws_FnExactCallOff.j0 k l0 a1 a2 bt105.1 bt105.2.1 bt105.2.2 t110 bt113.1 bt113.2.1 bt113.2.2 true)))))) = some r := H
  have A7 := Aside0.mk A70
  clear A70
  replace H := Option.bind_eq_some_iff.mp H
  obtain ⟨⟨t105, t106, t107⟩, A80, H⟩ := H
  replace H : ((laws_toCarpetOrderS.f k l0).bind fun t110 => ((impl_CallOff.f k t110 a1 a2).bind fun bt113 => ((laws_eqCarpetOrderS.f k bt113.1 t105).bind fun t118 => (if t118 = true then (if bt113.2.1 = t106 then (laws_FnExactCallOff.j0 k l0 a1 a2 t105 t106 t107 t110 bt113.1 bt113.2.1 bt113.2.2 (bt113.2.2 != t107)) else (laws_FnExactCallOff.j0 k l0 a1 a2 t105 t106 t107 t110 bt113.1 bt113.2.1 bt113.2.2 true)) else (laws_FnExactCallOff.j0 k l0 a1 a2 t105 t106 t107 t110 bt113.1 bt113.2.1 bt113.2.2 true))))) = some r := H
  have A8 := Aside0.mk A80
  clear A80
  replace H := Option.bind_eq_some_iff.mp H
  obtain ⟨t110, A90, H⟩ := H
  replace H : ((impl_CallOff.f k t110 a1 a2).bind fun bt113 => ((laws_eqCarpetOrderS.f k bt113.1 t105).bind fun t118 => (if t118 = true then (if bt113.2.1 = t106 then (laws_FnExactCallOff.j0 k l0 a1 a2 t105 t106 t107 t110 bt113.1 bt113.2.1 bt113.2.2 (bt113.2.2 != t107)) else (laws_FnExactCallOff.j0 k l0 a1 a2 t105 t106 t107 t110 bt113.1 bt113.2.1 bt113.2.2 true)) else (laws_FnExactCallOff.j0 k l0 a1 a2 t105 t106 t107 t110 bt113.1 bt113.2.1 bt113.2.2 true)))) = some r := H
  have A9 := Aside0.mk A90
  clear A90
  replace H := Option.bind_eq_some_iff.mp H
  obtain ⟨⟨t113, t114, t115⟩, A100, H⟩ := H
  replace H : ((laws_eqCarpetOrderS.f k t113 t105).bind fun t118 => (if t118 = true then (if t114 = t106 then (laws_FnExactCallOff.j0 k l0 a1 a2 t105 t106 t107 t110 t113 t114 t115 (t115 != t107)) else (laws_FnExactCallOff.j0 k l0 a1 a2 t105 t106 t107 t110 t113 t114 t115 true)) else (laws_FnExactCallOff.j0 k l0 a1 a2 t105 t106 t107 t110 t113 t114 t115 true))) = some r := H
  have A10 := Aside0.mk A100
  clear A100
  have HC11 := Aside0.mk H
  clear H
  go_enter Tryd.func10, Tryd.ntmps10
  go_upto_region 8 with (first | ((with_reducible refine gate_callee (f := 14) rfl ?_); refine goesL_ (some 23) rfl rfl Tryd.func14 (by kernel_rfl) rfl #[.slice A0 l0.length c0, .int .i64 1048576] rfl (by (try simp only [List.map_toArray, List.map_cons, List.map_nil]); first | done | rfl | (simp only [List.length_drop, List.length_take]; rfl)) ?_; (with_reducible refine (laws_szCarpetOrderS.calls k _ _ l0 1048576 t101 _ ?side1 ?side2 A4.out).mono ?_); (case side1 => repeat (first | exact HR0.out | (with_reducible refine Kd.C_alloc ?_ _) | (with_reducible refine Kd.C_drewN ?_ _) | (with_reducible refine Kd.C_drew ?_))); (case side2 => exact HC0.out); rintro e w12 ⟨rfl, hb⟩; refine ⟨_, rfl, ?_⟩; have n0_ := Aside0.mk (below_step (by exact eS HB.out) hb); clear HB; have HB := n0_; clear n0_; (try clear hb); (try clear hb2); (try clear hk); (try clear hi)) | ((with_reducible refine gate_callee (f := 16) rfl ?_); refine goesL_ (some 28) rfl rfl Tryd.func16 (by kernel_rfl) rfl #[.slice A0 l0.length c0] rfl (by (try simp only [List.map_toArray, List.map_cons, List.map_nil]); first | done | rfl | (simp only [List.length_drop, List.length_take]; rfl)) ?_; (with_reducible refine (laws_toCarpetOrderS.calls k _ _ l0 t102 _ ?side1 ?side2 A7.out).mono ?_); (case side1 => repeat (first | exact (Kd.C_below HR0.out HB.out) | (with_reducible refine Kd.C_alloc ?_ _) | (with_reducible refine Kd.C_drewN ?_ _) | (with_reducible refine Kd.C_drew ?_))); (case side2 => exact HC0.out); rintro e w13 ⟨v103, rfl, ho0, hb⟩; refine ⟨_, rfl, ?_⟩; have n0_ := Aside0.mk (Kd.R_lower ho0 (below_size (by exact eS HB.out))); have n1_ := Aside0.mk (below_step (by exact eS HB.out) hb); clear HB; have HO104 := n0_; have HB := n1_; clear n0_ n1_; (try clear hb); (try clear hb2); (try clear hk); (try clear hi); (try clear ho0); obtain ⟨Ao14, co14, eo14⟩ := Kd.R_slice HO104.out; subst eo14) | ((with_reducible refine gate_callee (f := 41) rfl ?_); refine goesL_ (some 31) rfl rfl Tryd.func41 (by kernel_rfl) rfl #[.slice Ao14 t102.length co14, .int .i64 a1, .int .i64 a2] rfl (by (try simp only [List.map_toArray, List.map_cons, List.map_nil]); first | done | rfl | (simp only [List.length_drop, List.length_take]; rfl)) ?_; (with_reducible refine (spec_CallOff.calls k _ _ t102 a1 a2 t105 t106 t107 _ ?side1 ?side2 A8.out).mono ?_); (case side1 => repeat (first | exact (Kd.R_reads' HO104.out).2.2 | (with_reducible refine Kd.C_alloc ?_ _) | (with_reducible refine Kd.C_drewN ?_ _) | (with_reducible refine Kd.C_drew ?_))); (case side2 => exact (Kd.R_reads' HO104.out).2.1); rintro e w15 ⟨v108, rfl, ho0, hb⟩; refine ⟨_, rfl, ?_⟩; have n0_ := Aside0.mk (Kd.R_elder' (by exact Ho.RS <| HO104.out) (Kd.R_base ho0) hb); have n1_ := Aside0.mk (Kd.R_lower (Kd.R_new' ho0 (Kd.R_lt (by exact Ho.RS <| HO104.out))) (below_size (by exact eS HB.out))); have n2_ := Aside0.mk (below_step (by exact eS HB.out) hb); clear HO104; clear HB; have HO104 := n0_; have HO109 := n1_; have HB := n2_; clear n0_ n1_ n2_; (try clear hb); (try clear hb2); (try clear hk); (try clear hi); (try clear ho0)) | ((with_reducible refine gate_callee (f := 16) rfl ?_); refine goesL_ (some 36) rfl rfl Tryd.func16 (by kernel_rfl) rfl #[.slice A0 l0.length c0] rfl (by (try simp only [List.map_toArray, List.map_cons, List.map_nil]); first | done | rfl | (simp only [List.length_drop, List.length_take]; rfl)) ?_; (with_reducible refine (laws_toCarpetOrderS.calls k _ _ l0 t110 _ ?side1 ?side2 A9.out).mono ?_); (case side1 => repeat (first | exact (Kd.C_below HR0.out HB.out) | (with_reducible refine Kd.C_alloc ?_ _) | (with_reducible refine Kd.C_drewN ?_ _) | (with_reducible refine Kd.C_drew ?_))); (case side2 => exact HC0.out); rintro e w16 ⟨v111, rfl, ho0, hb⟩; refine ⟨_, rfl, ?_⟩; have n0_ := Aside0.mk (Kd.R_elder' (by exact Ho.RS <| HO104.out) (Kd.R_base ho0) hb); have n1_ := Aside0.mk (Kd.R_elder' (by exact Ho.RS <| HO109.out) (Kd.R_base ho0) hb); have n2_ := Aside0.mk (Kd.R_lower (Kd.R_new' (Kd.R_new' ho0 (Kd.R_lt (by exact Ho.RS <| HO104.out))) (Kd.R_lt (by exact Ho.RS <| HO109.out))) (below_size (by exact eS HB.out))); have n3_ := Aside0.mk (below_step (by exact eS HB.out) hb); clear HO104; clear HO109; clear HB; have HO104 := n0_; have HO109 := n1_; have HO112 := n2_; have HB := n3_; clear n0_ n1_ n2_ n3_; (try clear hb); (try clear hb2); (try clear hk); (try clear hi); (try clear ho0); obtain ⟨Ao17, co17, eo17⟩ := Kd.R_slice HO112.out; subst eo17) | ((with_reducible refine gate_callee (f := 42) rfl ?_); refine goesL_ (some 41) rfl rfl Tryd.func42 (by kernel_rfl) rfl #[.slice Ao17 t110.length co17, .int .i64 a1, .int .i64 a2] rfl (by (try simp only [List.map_toArray, List.map_cons, List.map_nil]); first | done | rfl | (simp only [List.length_drop, List.length_take]; rfl)) ?_; (with_reducible refine (impl_CallOff.calls k _ _ t110 a1 a2 t113 t114 t115 _ ?side1 ?side2 A10.out).mono ?_); (case side1 => repeat (first | exact (Kd.R_reads' HO112.out).2.2 | (with_reducible refine Kd.C_alloc ?_ _) | (with_reducible refine Kd.C_drewN ?_ _) | (with_reducible refine Kd.C_drew ?_))); (case side2 => exact (Kd.R_reads' HO112.out).2.1); rintro e w18 ⟨v116, rfl, ho0, hb⟩; refine ⟨_, rfl, ?_⟩; have n0_ := Aside0.mk (Kd.R_elder' (by exact Ho.RS <| HO104.out) (Kd.R_base ho0) hb); have n1_ := Aside0.mk (Kd.R_elder' (by exact Ho.RS <| HO109.out) (Kd.R_base ho0) hb); have n2_ := Aside0.mk (Kd.R_elder' (by exact Ho.RS <| HO112.out) (Kd.R_base ho0) hb); have n3_ := Aside0.mk (Kd.R_lower (Kd.R_new' (Kd.R_new' (Kd.R_new' ho0 (Kd.R_lt (by exact Ho.RS <| HO104.out))) (Kd.R_lt (by exact Ho.RS <| HO109.out))) (Kd.R_lt (by exact Ho.RS <| HO112.out))) (below_size (by exact eS HB.out))); have n4_ := Aside0.mk (below_step (by exact eS HB.out) hb); clear HO104; clear HO109; clear HO112; clear HB; have HO104 := n0_; have HO109 := n1_; have HO112 := n2_; have HO117 := n3_; have HB := n4_; clear n0_ n1_ n2_ n3_ n4_; (try clear hb); (try clear hb2); (try clear hk); (try clear hi); (try clear ho0)))
  (try simp only [Act.put, List.setIfInBounds_toArray, List.set_cons_zero, List.set_cons_succ])
  go_cut [58] (fun v58 wc => ∃ (kq : Nat) (x58_10 : Bool), v58 = .bool x58_10 ∧ Aside0 (laws_FnExactCallOff.j0 kq l0 a1 a2 t105 t106 t107 t110 t113 t114 t115 x58_10 = some r) ∧ Aside0 (kq ≤ k) ∧ Aside0 (Kd.R k41 41 wc w.heap.size (fun k_ => some k_ ≠ ((.slice Ao17 t110.length co17) : Value).ownBlock ∧ some k_ ≠ (v116 : Value).ownBlock) v108 t105) ∧ Aside0 (Kd.R k41 41 wc w.heap.size (fun k_ => some k_ ≠ (v108 : Value).ownBlock ∧ some k_ ≠ (v116 : Value).ownBlock) (.slice Ao17 t110.length co17) t110) ∧ Aside0 (Kd.R k41 41 wc w.heap.size (fun k_ => some k_ ≠ (v108 : Value).ownBlock ∧ some k_ ≠ ((.slice Ao17 t110.length co17) : Value).ownBlock) v116 t113) ∧ Aside0 (Below w.heap.size w wc))
  case first =>
   have H := HC11.out
   clear HC11
   replace H := Option.bind_eq_some_iff.mp H
   obtain ⟨t118, A190, H⟩ := H
   replace H : (if t118 = true then (if t114 = t106 then (laws_FnExactCallOff.j0 k l0 a1 a2 t105 t106 t107 t110 t113 t114 t115 (t115 != t107)) else (laws_FnExactCallOff.j0 k l0 a1 a2 t105 t106 t107 t110 t113 t114 t115 true)) else (laws_FnExactCallOff.j0 k l0 a1 a2 t105 t106 t107 t110 t113 t114 t115 true)) = some r := H
   have A19 := Aside0.mk A190
   clear A190
   by_cases c20 : t118 = true
   ·subst c20
    have H1 : (if t114 = t106 then (laws_FnExactCallOff.j0 k l0 a1 a2 t105 t106 t107 t110 t113 t114 t115 (t115 != t107)) else (laws_FnExactCallOff.j0 k l0 a1 a2 t105 t106 t107 t110 t113 t114 t115 true)) = some r := by rw [if_pos rfl] at H; exact H
    clear H
    have H := H1
    clear H1
    by_cases c21 : t114 = t106
    ·rw [if_pos c21] at H
     have c21b0 : (t114 == t106) = true := beq_iff_eq.mpr c21
     have c21b1 : (t114 != t106) = false := bne_eq_false_iff_eq.mpr c21
     clear c21
     (first | rw [c21b0] | (simp only [i64_w, i32_w]; rw [c21b0]) | skip)
     as_aux_lemma =>
      have H' := Aside0.mk H
      clear H
      obtain ⟨Ao22, co22, eo22⟩ := Kd.R_slice HO117.out
      subst eo22
      obtain ⟨Ao23, co23, eo23⟩ := Kd.R_slice HO109.out
      subst eo23
      go_wp2_with (first | ((with_reducible refine gate_callee (f := 20) rfl ?_); refine goesL_ (some 47) rfl rfl Tryd.func20 (by kernel_rfl) rfl #[.slice Ao22 t113.length co22, .slice Ao23 t105.length co23] rfl (by (try simp only [List.map_toArray, List.map_cons, List.map_nil]); first | done | rfl | (simp only [List.length_drop, List.length_take]; rfl)) ?_; (with_reducible refine (laws_eqCarpetOrderS.calls k _ _ t113 _ _ t105 true _ ?side1 ?side2 ?side3 ?side4 A19.out).mono ?_); (case side1 => repeat (first | exact (Kd.R_reads' HO117.out).2.2 | (with_reducible refine Kd.C_alloc ?_ _) | (with_reducible refine Kd.C_drewN ?_ _) | (with_reducible refine Kd.C_drew ?_))); (case side2 => exact (Kd.R_reads' HO117.out).2.1); (case side3 => repeat (first | exact (Kd.R_reads' HO109.out).2.2 | (with_reducible refine Kd.C_alloc ?_ _) | (with_reducible refine Kd.C_drewN ?_ _) | (with_reducible refine Kd.C_drew ?_))); (case side4 => exact (Kd.R_reads' HO109.out).2.1); rintro e w24 ⟨rfl, hb⟩; refine ⟨_, rfl, ?_⟩; have n0_ := Aside0.mk (Kd.R_below (by exact Ho.RS <| HO104.out) hb); have n1_ := Aside0.mk (Kd.R_below (by exact Ho.RS <| HO109.out) hb); have n2_ := Aside0.mk (Kd.R_below (by exact Ho.RS <| HO112.out) hb); have n3_ := Aside0.mk (Kd.R_below (by exact Ho.RS <| HO117.out) hb); have n4_ := Aside0.mk (below_step (by exact eS HB.out) hb); clear HO104; clear HO109; clear HO112; clear HO117; clear HB; have HO104 := n0_; have HO109 := n1_; have HO112 := n2_; have HO117 := n3_; have HB := n4_; clear n0_ n1_ n2_ n3_ n4_; (try clear hb); (try clear hb2); (try clear hk); (try clear hi)))
      go_meet
      case rel => exact ⟨_, ((t115 != t107)), (by first | rfl | (simp; done) | (simp [*]; done)), H', ⟨by first | omega | exact Nat.le_refl _⟩, ⟨by exact Ho.RS <| Kd.R_mono HO109.out (fun _ hk => ⟨hk.1.2, hk.2⟩)⟩, ⟨by exact Ho.RS <| Kd.R_mono HO112.out (fun _ hk => ⟨hk.1.2, hk.2⟩)⟩, ⟨by exact Ho.RS <| Kd.R_mono HO117.out (fun _ hk => ⟨hk.1.2, hk.2⟩)⟩, ⟨by exact eS HB.out⟩⟩
    ·rw [if_neg c21] at H
     have c21b0 : (t114 == t106) = false := beq_eq_false_iff_ne.mpr c21
     have c21b1 : (t114 != t106) = true := bne_iff_ne.mpr c21
     (first | rw [c21b0] | (simp only [i64_w, i32_w]; rw [c21b0]) | skip)
     as_aux_lemma =>
      have H' := Aside0.mk H
      clear H
      obtain ⟨Ao25, co25, eo25⟩ := Kd.R_slice HO117.out
      subst eo25
      obtain ⟨Ao26, co26, eo26⟩ := Kd.R_slice HO109.out
      subst eo26
      go_wp2_with (first | ((with_reducible refine gate_callee (f := 20) rfl ?_); refine goesL_ (some 47) rfl rfl Tryd.func20 (by kernel_rfl) rfl #[.slice Ao25 t113.length co25, .slice Ao26 t105.length co26] rfl (by (try simp only [List.map_toArray, List.map_cons, List.map_nil]); first | done | rfl | (simp only [List.length_drop, List.length_take]; rfl)) ?_; (with_reducible refine (laws_eqCarpetOrderS.calls k _ _ t113 _ _ t105 true _ ?side1 ?side2 ?side3 ?side4 A19.out).mono ?_); (case side1 => repeat (first | exact (Kd.R_reads' HO117.out).2.2 | (with_reducible refine Kd.C_alloc ?_ _) | (with_reducible refine Kd.C_drewN ?_ _) | (with_reducible refine Kd.C_drew ?_))); (case side2 => exact (Kd.R_reads' HO117.out).2.1); (case side3 => repeat (first | exact (Kd.R_reads' HO109.out).2.2 | (with_reducible refine Kd.C_alloc ?_ _) | (with_reducible refine Kd.C_drewN ?_ _) | (with_reducible refine Kd.C_drew ?_))); (case side4 => exact (Kd.R_reads' HO109.out).2.1); rintro e w27 ⟨rfl, hb⟩; refine ⟨_, rfl, ?_⟩; have n0_ := Aside0.mk (Kd.R_below (by exact Ho.RS <| HO104.out) hb); have n1_ := Aside0.mk (Kd.R_below (by exact Ho.RS <| HO109.out) hb); have n2_ := Aside0.mk (Kd.R_below (by exact Ho.RS <| HO112.out) hb); have n3_ := Aside0.mk (Kd.R_below (by exact Ho.RS <| HO117.out) hb); have n4_ := Aside0.mk (below_step (by exact eS HB.out) hb); clear HO104; clear HO109; clear HO112; clear HO117; clear HB; have HO104 := n0_; have HO109 := n1_; have HO112 := n2_; have HO117 := n3_; have HB := n4_; clear n0_ n1_ n2_ n3_ n4_; (try clear hb); (try clear hb2); (try clear hk); (try clear hi)))
      go_meet
      case rel => exact ⟨_, (true), (by first | rfl | (simp; done) | (simp [*]; done)), H', ⟨by first | omega | exact Nat.le_refl _⟩, ⟨by exact Ho.RS <| Kd.R_mono HO109.out (fun _ hk => ⟨hk.1.2, hk.2⟩)⟩, ⟨by exact Ho.RS <| Kd.R_mono HO112.out (fun _ hk => ⟨hk.1.2, hk.2⟩)⟩, ⟨by exact Ho.RS <| Kd.R_mono HO117.out (fun _ hk => ⟨hk.1.2, hk.2⟩)⟩, ⟨by exact eS HB.out⟩⟩
   ·replace c20 := Bool.eq_false_iff.mpr c20
    subst c20
    have H1 : (laws_FnExactCallOff.j0 k l0 a1 a2 t105 t106 t107 t110 t113 t114 t115 true) = some r := by rw [if_neg (show ¬ (false = true) by decide)] at H; exact H
    clear H
    have H := H1
    clear H1
    as_aux_lemma =>
     have H' := Aside0.mk H
     clear H
     obtain ⟨Ao28, co28, eo28⟩ := Kd.R_slice HO117.out
     subst eo28
     obtain ⟨Ao29, co29, eo29⟩ := Kd.R_slice HO109.out
     subst eo29
     go_wp2_with (first | ((with_reducible refine gate_callee (f := 20) rfl ?_); refine goesL_ (some 47) rfl rfl Tryd.func20 (by kernel_rfl) rfl #[.slice Ao28 t113.length co28, .slice Ao29 t105.length co29] rfl (by (try simp only [List.map_toArray, List.map_cons, List.map_nil]); first | done | rfl | (simp only [List.length_drop, List.length_take]; rfl)) ?_; (with_reducible refine (laws_eqCarpetOrderS.calls k _ _ t113 _ _ t105 false _ ?side1 ?side2 ?side3 ?side4 A19.out).mono ?_); (case side1 => repeat (first | exact (Kd.R_reads' HO117.out).2.2 | (with_reducible refine Kd.C_alloc ?_ _) | (with_reducible refine Kd.C_drewN ?_ _) | (with_reducible refine Kd.C_drew ?_))); (case side2 => exact (Kd.R_reads' HO117.out).2.1); (case side3 => repeat (first | exact (Kd.R_reads' HO109.out).2.2 | (with_reducible refine Kd.C_alloc ?_ _) | (with_reducible refine Kd.C_drewN ?_ _) | (with_reducible refine Kd.C_drew ?_))); (case side4 => exact (Kd.R_reads' HO109.out).2.1); rintro e w30 ⟨rfl, hb⟩; refine ⟨_, rfl, ?_⟩; have n0_ := Aside0.mk (Kd.R_below (by exact Ho.RS <| HO104.out) hb); have n1_ := Aside0.mk (Kd.R_below (by exact Ho.RS <| HO109.out) hb); have n2_ := Aside0.mk (Kd.R_below (by exact Ho.RS <| HO112.out) hb); have n3_ := Aside0.mk (Kd.R_below (by exact Ho.RS <| HO117.out) hb); have n4_ := Aside0.mk (below_step (by exact eS HB.out) hb); clear HO104; clear HO109; clear HO112; clear HO117; clear HB; have HO104 := n0_; have HO109 := n1_; have HO112 := n2_; have HO117 := n3_; have HB := n4_; clear n0_ n1_ n2_ n3_ n4_; (try clear hb); (try clear hb2); (try clear hk); (try clear hi)))
     go_meet
     case rel => exact ⟨_, (true), (by first | rfl | (simp; done) | (simp [*]; done)), H', ⟨by first | omega | exact Nat.le_refl _⟩, ⟨by exact Ho.RS <| Kd.R_mono HO109.out (fun _ hk => ⟨hk.1.2, hk.2⟩)⟩, ⟨by exact Ho.RS <| Kd.R_mono HO112.out (fun _ hk => ⟨hk.1.2, hk.2⟩)⟩, ⟨by exact Ho.RS <| Kd.R_mono HO117.out (fun _ hk => ⟨hk.1.2, hk.2⟩)⟩, ⟨by exact eS HB.out⟩⟩
  case rest =>
   clear HC11
   try clear c1
   try clear c2
   try clear p2
   try clear c4
   try clear c5
   try clear c5b0
   try clear c10
   try clear c14
   try clear c16
   try clear c20
   try clear c21
   try clear c21b0
   try clear c21b1
   obtain ⟨kq, x58_10, rfl, HA, HJ10, HO_8, HO_11, HO_12, HB⟩ := hcut
   cases kq with
   | zero => exact absurd HA.out (by simp [laws_FnExactCallOff.j0])
   | succ kj10 =>
    have H := HA.out
    clear HA
    simp only [laws_FnExactCallOff.j0] at H
    by_cases c31 : x58_10 = true
    ·subst c31
     have H1 : (some false) = some r := by rw [if_pos rfl] at H; exact H
     clear H
     have H := H1
     clear H1
     as_aux_lemma =>
      exact absurd ((Option.some.inj H).trans HT.out) (by decide)
    ·replace c31 := Bool.eq_false_iff.mpr c31
     subst c31
     have H1 : ((laws_toCarpetOrderS.f kj10 l0).bind fun t119 => ((laws_eqCarpetOrderS.f kj10 t110 t119).bind fun t122 => (if t122 = true then ((laws_markCarpetOrderS.f kj10 t110 1).bind fun bt123 => (if bt123.1 < 0 then (laws_FnExactCallOff.j1 kj10 l0 a1 a2 t105 t106 t107 t113 true) else ((laws_eqCarpetOrderS.f kj10 t113 t105).bind fun t125 => (if t125 = true then (if t114 = t106 then (laws_FnExactCallOff.j1 kj10 l0 a1 a2 t105 t106 t107 t113 (t115 != t107)) else (laws_FnExactCallOff.j1 kj10 l0 a1 a2 t105 t106 t107 t113 true)) else (laws_FnExactCallOff.j1 kj10 l0 a1 a2 t105 t106 t107 t113 true))))) else (some false)))) = some r := by rw [if_neg (show ¬ (false = true) by decide)] at H; exact H
     clear H
     have H := H1
     clear H1
     replace H := Option.bind_eq_some_iff.mp H
     obtain ⟨t119, A320, H⟩ := H
     replace H : ((laws_eqCarpetOrderS.f kj10 t110 t119).bind fun t122 => (if t122 = true then ((laws_markCarpetOrderS.f kj10 t110 1).bind fun bt123 => (if bt123.1 < 0 then (laws_FnExactCallOff.j1 kj10 l0 a1 a2 t105 t106 t107 t113 true) else ((laws_eqCarpetOrderS.f kj10 t113 t105).bind fun t125 => (if t125 = true then (if t114 = t106 then (laws_FnExactCallOff.j1 kj10 l0 a1 a2 t105 t106 t107 t113 (t115 != t107)) else (laws_FnExactCallOff.j1 kj10 l0 a1 a2 t105 t106 t107 t113 true)) else (laws_FnExactCallOff.j1 kj10 l0 a1 a2 t105 t106 t107 t113 true))))) else (some false))) = some r := H
     have A32 := Aside0.mk A320
     clear A320
     replace H := Option.bind_eq_some_iff.mp H
     obtain ⟨t122, A330, H⟩ := H
     replace H : (if t122 = true then ((laws_markCarpetOrderS.f kj10 t110 1).bind fun bt123 => (if bt123.1 < 0 then (laws_FnExactCallOff.j1 kj10 l0 a1 a2 t105 t106 t107 t113 true) else ((laws_eqCarpetOrderS.f kj10 t113 t105).bind fun t125 => (if t125 = true then (if t114 = t106 then (laws_FnExactCallOff.j1 kj10 l0 a1 a2 t105 t106 t107 t113 (t115 != t107)) else (laws_FnExactCallOff.j1 kj10 l0 a1 a2 t105 t106 t107 t113 true)) else (laws_FnExactCallOff.j1 kj10 l0 a1 a2 t105 t106 t107 t113 true))))) else (some false)) = some r := H
     have A33 := Aside0.mk A330
     clear A330
     by_cases c34 : t122 = true
     ·subst c34
      have H1 : ((laws_markCarpetOrderS.f kj10 t110 1).bind fun bt123 => (if bt123.1 < 0 then (laws_FnExactCallOff.j1 kj10 l0 a1 a2 t105 t106 t107 t113 true) else ((laws_eqCarpetOrderS.f kj10 t113 t105).bind fun t125 => (if t125 = true then (if t114 = t106 then (laws_FnExactCallOff.j1 kj10 l0 a1 a2 t105 t106 t107 t113 (t115 != t107)) else (laws_FnExactCallOff.j1 kj10 l0 a1 a2 t105 t106 t107 t113 true)) else (laws_FnExactCallOff.j1 kj10 l0 a1 a2 t105 t106 t107 t113 true))))) = some r := by rw [if_pos rfl] at H; exact H
      clear H
      have H := H1
      clear H1
      replace H := Option.bind_eq_some_iff.mp H
      obtain ⟨⟨t123, t124⟩, A350, H⟩ := H
      replace H : (if t123 < 0 then (laws_FnExactCallOff.j1 kj10 l0 a1 a2 t105 t106 t107 t113 true) else ((laws_eqCarpetOrderS.f kj10 t113 t105).bind fun t125 => (if t125 = true then (if t114 = t106 then (laws_FnExactCallOff.j1 kj10 l0 a1 a2 t105 t106 t107 t113 (t115 != t107)) else (laws_FnExactCallOff.j1 kj10 l0 a1 a2 t105 t106 t107 t113 true)) else (laws_FnExactCallOff.j1 kj10 l0 a1 a2 t105 t106 t107 t113 true)))) = some r := H
      have A35 := Aside0.mk A350
      clear A350
      have HC36 := Aside0.mk H
      clear H
      go_upto_region 14 with (first | ((with_reducible refine gate_callee (f := 16) rfl ?_); refine goesL_ (some 61) rfl rfl Tryd.func16 (by kernel_rfl) rfl #[.slice A0 l0.length c0] rfl (by (try simp only [List.map_toArray, List.map_cons, List.map_nil]); first | done | rfl | (simp only [List.length_drop, List.length_take]; rfl)) ?_; (with_reducible refine (laws_toCarpetOrderS.calls kj10 _ _ l0 t119 _ ?side1 ?side2 A32.out).mono ?_); (case side1 => repeat (first | exact (Kd.C_below HR0.out HB.out) | (with_reducible refine Kd.C_alloc ?_ _) | (with_reducible refine Kd.C_drewN ?_ _) | (with_reducible refine Kd.C_drew ?_))); (case side2 => exact HC0.out); rintro e w37 ⟨v120, rfl, ho0, hb⟩; refine ⟨_, rfl, ?_⟩; have n0_ := Aside0.mk (Kd.R_elder' (by exact Ho.RS <| HO_8.out) (Kd.R_base ho0) hb); have n1_ := Aside0.mk (Kd.R_elder' (by exact Ho.RS <| HO_11.out) (Kd.R_base ho0) hb); have n2_ := Aside0.mk (Kd.R_elder' (by exact Ho.RS <| HO_12.out) (Kd.R_base ho0) hb); have n3_ := Aside0.mk (Kd.R_lower (Kd.R_new' (Kd.R_new' (Kd.R_new' ho0 (Kd.R_lt (by exact Ho.RS <| HO_8.out))) (Kd.R_lt (by exact Ho.RS <| HO_11.out))) (Kd.R_lt (by exact Ho.RS <| HO_12.out))) (below_size (by exact eS HB.out))); have n4_ := Aside0.mk (below_step (by exact eS HB.out) hb); clear HO_8; clear HO_11; clear HO_12; clear HB; have HO_8 := n0_; have HO_11 := n1_; have HO_12 := n2_; have HO121 := n3_; have HB := n4_; clear n0_ n1_ n2_ n3_ n4_; (try clear hb); (try clear hb2); (try clear hk); (try clear hi); (try clear ho0); obtain ⟨Ao38, co38, eo38⟩ := Kd.R_slice HO121.out; subst eo38) | ((with_reducible refine gate_callee (f := 20) rfl ?_); refine goesL_ (some 62) rfl rfl Tryd.func20 (by kernel_rfl) rfl #[.slice Ao17 t110.length co17, .slice Ao38 t119.length co38] rfl (by (try simp only [List.map_toArray, List.map_cons, List.map_nil]); first | done | rfl | (simp only [List.length_drop, List.length_take]; rfl)) ?_; (with_reducible refine (laws_eqCarpetOrderS.calls kj10 _ _ t110 _ _ t119 true _ ?side1 ?side2 ?side3 ?side4 A33.out).mono ?_); (case side1 => repeat (first | exact (Kd.R_reads' HO_11.out).2.2 | (with_reducible refine Kd.C_alloc ?_ _) | (with_reducible refine Kd.C_drewN ?_ _) | (with_reducible refine Kd.C_drew ?_))); (case side2 => exact (Kd.R_reads' HO_11.out).2.1); (case side3 => repeat (first | exact (Kd.R_reads' HO121.out).2.2 | (with_reducible refine Kd.C_alloc ?_ _) | (with_reducible refine Kd.C_drewN ?_ _) | (with_reducible refine Kd.C_drew ?_))); (case side4 => exact (Kd.R_reads' HO121.out).2.1); rintro e w39 ⟨rfl, hb⟩; refine ⟨_, rfl, ?_⟩; have n0_ := Aside0.mk (Kd.R_below (by exact Ho.RS <| HO_8.out) hb); have n1_ := Aside0.mk (Kd.R_below (by exact Ho.RS <| HO_11.out) hb); have n2_ := Aside0.mk (Kd.R_below (by exact Ho.RS <| HO_12.out) hb); have n3_ := Aside0.mk (Kd.R_below (by exact Ho.RS <| HO121.out) hb); have n4_ := Aside0.mk (below_step (by exact eS HB.out) hb); clear HO_8; clear HO_11; clear HO_12; clear HO121; clear HB; have HO_8 := n0_; have HO_11 := n1_; have HO_12 := n2_; have HO121 := n3_; have HB := n4_; clear n0_ n1_ n2_ n3_ n4_; (try clear hb); (try clear hb2); (try clear hk); (try clear hi)) | ((with_reducible refine gate_callee (f := 21) rfl ?_); refine goesL_ (some 66) rfl rfl Tryd.func21 (by kernel_rfl) rfl #[.slice Ao17 t110.length co17, .int .i64 1] rfl (by (try simp only [List.map_toArray, List.map_cons, List.map_nil]); first | done | rfl | (simp only [List.length_drop, List.length_take]; rfl)) ?_; (with_reducible refine (laws_markCarpetOrderS.calls kj10 (fun k_ => some k_ = (.slice Ao17 t110.length co17 : Value).ownBlock) (.slice Ao17 t110.length co17) t110 1 t123 t124 w _ ?side1 ?side2 A35.out).mono ?_); (case side1 => exact eS HB.out); (case side2 => exact Kd.R_tight rfl HO_11.out); rintro e w40 ⟨rfl, hy0, hb, hkp⟩; refine ⟨_, rfl, ?_⟩; have n0_ := Aside0.mk (Kd.R_mono (ok' := fun k_ => some k_ ≠ (.slice Ao17 t110.length co17 : Value).ownBlock ∧ some k_ ≠ (v116 : Value).ownBlock ∧ some k_ ≠ (.slice Ao38 t119.length co38 : Value).ownBlock) (Kd.R_keptB (HO_8.out) hkp (fun k_ hk_ hs_ => (hk_.1.1) hs_)) (fun k_ hk_ => ⟨hk_.1.1.1, hk_.1.1.2, hk_.1.2⟩)); have n1_ := Aside0.mk (Kd.R_reok rfl hy0 (fun k_ e_ => HO_11.out.1 k_ e_)); have n2_ := Aside0.mk (Kd.R_mono (ok' := fun k_ => some k_ ≠ (v108 : Value).ownBlock ∧ some k_ ≠ (.slice Ao17 t110.length co17 : Value).ownBlock ∧ some k_ ≠ (.slice Ao38 t119.length co38 : Value).ownBlock) (Kd.R_keptB (HO_12.out) hkp (fun k_ hk_ hs_ => (hk_.1.2) hs_)) (fun k_ hk_ => ⟨hk_.1.1.1, hk_.1.1.2, hk_.1.2⟩)); have n3_ := Aside0.mk (Kd.R_mono (ok' := fun k_ => some k_ ≠ (v108 : Value).ownBlock ∧ some k_ ≠ (.slice Ao17 t110.length co17 : Value).ownBlock ∧ some k_ ≠ (v116 : Value).ownBlock) (Kd.R_keptB (HO121.out) hkp (fun k_ hk_ hs_ => (hk_.1.2) hs_)) (fun k_ hk_ => ⟨hk_.1.1.1.2, hk_.1.1.2, hk_.1.2⟩)); have n4_ := Aside0.mk (hb); clear HO_8; clear HO_11; clear HO_12; clear HO121; clear HB; have HO_8 := n0_; have HO_11 := n1_; have HO_12 := n2_; have HO121 := n3_; have HB := n4_; clear n0_ n1_ n2_ n3_ n4_; (try clear hb); (try clear hkp); (try clear hy0)))
      (try simp only [Act.put, List.setIfInBounds_toArray, List.set_cons_zero, List.set_cons_succ])
      go_cut [84] (fun v84 wc => ∃ (kq : Nat) (x84_35 : Bool), v84 = .bool x84_35 ∧ Aside0 (laws_FnExactCallOff.j1 kq l0 a1 a2 t105 t106 t107 t113 x84_35 = some r) ∧ Aside0 (kq ≤ kj10) ∧ Aside0 (Kd.R k41 41 wc w.heap.size (fun k_ => some k_ ≠ (v116 : Value).ownBlock) v108 t105) ∧ Aside0 (Kd.R k41 41 wc w.heap.size (fun k_ => some k_ ≠ (v108 : Value).ownBlock) v116 t113) ∧ Aside0 (Below w.heap.size w wc))
      case first =>
       have H := HC36.out
       clear HC36
       by_cases c41 : t123 < 0
       ·rw [if_pos c41] at H
        have c41b0 : decide (t123 < 0) = true := decide_eq_true c41
        clear c41
        (first | rw [c41b0] | (simp only [i64_w, i32_w]; rw [c41b0]) | skip)
        as_aux_lemma =>
         have H' := Aside0.mk H
         clear H
         go_wp2
         go_meet
         case rel => exact ⟨_, (true), (by first | rfl | (simp; done) | (simp [*]; done)), H', ⟨by have := HJ10.out; first | omega | exact Nat.le_refl _⟩, ⟨by exact Ho.RS <| Kd.R_mono HO_8.out (fun _ hk => hk.2.1)⟩, ⟨by exact Ho.RS <| Kd.R_mono HO_12.out (fun _ hk => hk.1)⟩, ⟨by exact eS HB.out⟩⟩
       ·rw [if_neg c41] at H
        have c41b0 : decide (t123 < 0) = false := decide_eq_false c41
        clear c41
        (first | rw [c41b0] | (simp only [i64_w, i32_w]; rw [c41b0]) | skip)
        replace H := Option.bind_eq_some_iff.mp H
        obtain ⟨t125, A420, H⟩ := H
        replace H : (if t125 = true then (if t114 = t106 then (laws_FnExactCallOff.j1 kj10 l0 a1 a2 t105 t106 t107 t113 (t115 != t107)) else (laws_FnExactCallOff.j1 kj10 l0 a1 a2 t105 t106 t107 t113 true)) else (laws_FnExactCallOff.j1 kj10 l0 a1 a2 t105 t106 t107 t113 true)) = some r := H
        have A42 := Aside0.mk A420
        clear A420
        by_cases c43 : t125 = true
        ·subst c43
         have H1 : (if t114 = t106 then (laws_FnExactCallOff.j1 kj10 l0 a1 a2 t105 t106 t107 t113 (t115 != t107)) else (laws_FnExactCallOff.j1 kj10 l0 a1 a2 t105 t106 t107 t113 true)) = some r := by rw [if_pos rfl] at H; exact H
         clear H
         have H := H1
         clear H1
         by_cases c44 : t114 = t106
         ·rw [if_pos c44] at H
          have c44b0 : (t114 == t106) = true := beq_iff_eq.mpr c44
          have c44b1 : (t114 != t106) = false := bne_eq_false_iff_eq.mpr c44
          clear c44
          as_aux_lemma =>
           have H' := Aside0.mk H
           clear H
           obtain ⟨Ao45, co45, eo45⟩ := Kd.R_slice HO_12.out
           subst eo45
           obtain ⟨Ao46, co46, eo46⟩ := Kd.R_slice HO_8.out
           subst eo46
           go_wp2_with (first | (go_at_call 20; (with_reducible refine (laws_eqCarpetOrderS.calls kj10 _ _ t113 _ _ t105 true _ ?side1 ?side2 ?side3 ?side4 A42.out).mono ?_); (case side1 => repeat (first | exact (Kd.R_reads' HO_12.out).2.2 | (with_reducible refine Kd.C_alloc ?_ _) | (with_reducible refine Kd.C_drewN ?_ _) | (with_reducible refine Kd.C_drew ?_))); (case side2 => exact (Kd.R_reads' HO_12.out).2.1); (case side3 => repeat (first | exact (Kd.R_reads' HO_8.out).2.2 | (with_reducible refine Kd.C_alloc ?_ _) | (with_reducible refine Kd.C_drewN ?_ _) | (with_reducible refine Kd.C_drew ?_))); (case side4 => exact (Kd.R_reads' HO_8.out).2.1); rintro e w47 ⟨rfl, hb⟩; have n0_ := Aside0.mk (Kd.R_below (by exact Ho.RS <| HO_8.out) hb); have n1_ := Aside0.mk (Kd.R_below (by exact Ho.RS <| HO_11.out) hb); have n2_ := Aside0.mk (Kd.R_below (by exact Ho.RS <| HO_12.out) hb); have n3_ := Aside0.mk (Kd.R_below (by exact Ho.RS <| HO121.out) hb); have n4_ := Aside0.mk (below_step (by exact eS HB.out) hb); clear HO_8; clear HO_11; clear HO_12; clear HO121; clear HB; have HO_8 := n0_; have HO_11 := n1_; have HO_12 := n2_; have HO121 := n3_; have HB := n4_; clear n0_ n1_ n2_ n3_ n4_; (try clear hb); (try clear hb2); (try clear hk); (try clear hi)))
           go_meet
           case rel => exact ⟨_, ((t115 != t107)), (by first | rfl | (simp; done) | (simp [*]; done)), H', ⟨by have := HJ10.out; first | omega | exact Nat.le_refl _⟩, ⟨by exact Ho.RS <| Kd.R_mono HO_8.out (fun _ hk => hk.2.1)⟩, ⟨by exact Ho.RS <| Kd.R_mono HO_12.out (fun _ hk => hk.1)⟩, ⟨by exact eS HB.out⟩⟩
         ·rw [if_neg c44] at H
          have c44b0 : (t114 == t106) = false := beq_eq_false_iff_ne.mpr c44
          have c44b1 : (t114 != t106) = true := bne_iff_ne.mpr c44
          as_aux_lemma =>
           have H' := Aside0.mk H
           clear H
           obtain ⟨Ao48, co48, eo48⟩ := Kd.R_slice HO_12.out
           subst eo48
           obtain ⟨Ao49, co49, eo49⟩ := Kd.R_slice HO_8.out
           subst eo49
           go_wp2_with (first | (go_at_call 20; (with_reducible refine (laws_eqCarpetOrderS.calls kj10 _ _ t113 _ _ t105 true _ ?side1 ?side2 ?side3 ?side4 A42.out).mono ?_); (case side1 => repeat (first | exact (Kd.R_reads' HO_12.out).2.2 | (with_reducible refine Kd.C_alloc ?_ _) | (with_reducible refine Kd.C_drewN ?_ _) | (with_reducible refine Kd.C_drew ?_))); (case side2 => exact (Kd.R_reads' HO_12.out).2.1); (case side3 => repeat (first | exact (Kd.R_reads' HO_8.out).2.2 | (with_reducible refine Kd.C_alloc ?_ _) | (with_reducible refine Kd.C_drewN ?_ _) | (with_reducible refine Kd.C_drew ?_))); (case side4 => exact (Kd.R_reads' HO_8.out).2.1); rintro e w50 ⟨rfl, hb⟩; have n0_ := Aside0.mk (Kd.R_below (by exact Ho.RS <| HO_8.out) hb); have n1_ := Aside0.mk (Kd.R_below (by exact Ho.RS <| HO_11.out) hb); have n2_ := Aside0.mk (Kd.R_below (by exact Ho.RS <| HO_12.out) hb); have n3_ := Aside0.mk (Kd.R_below (by exact Ho.RS <| HO121.out) hb); have n4_ := Aside0.mk (below_step (by exact eS HB.out) hb); clear HO_8; clear HO_11; clear HO_12; clear HO121; clear HB; have HO_8 := n0_; have HO_11 := n1_; have HO_12 := n2_; have HO121 := n3_; have HB := n4_; clear n0_ n1_ n2_ n3_ n4_; (try clear hb); (try clear hb2); (try clear hk); (try clear hi)))
           go_meet
           case rel => exact ⟨_, (true), (by first | rfl | (simp; done) | (simp [*]; done)), H', ⟨by have := HJ10.out; first | omega | exact Nat.le_refl _⟩, ⟨by exact Ho.RS <| Kd.R_mono HO_8.out (fun _ hk => hk.2.1)⟩, ⟨by exact Ho.RS <| Kd.R_mono HO_12.out (fun _ hk => hk.1)⟩, ⟨by exact eS HB.out⟩⟩
        ·replace c43 := Bool.eq_false_iff.mpr c43
         subst c43
         have H1 : (laws_FnExactCallOff.j1 kj10 l0 a1 a2 t105 t106 t107 t113 true) = some r := by rw [if_neg (show ¬ (false = true) by decide)] at H; exact H
         clear H
         have H := H1
         clear H1
         as_aux_lemma =>
          have H' := Aside0.mk H
          clear H
          obtain ⟨Ao51, co51, eo51⟩ := Kd.R_slice HO_12.out
          subst eo51
          obtain ⟨Ao52, co52, eo52⟩ := Kd.R_slice HO_8.out
          subst eo52
          go_wp2_with (first | (go_at_call 20; (with_reducible refine (laws_eqCarpetOrderS.calls kj10 _ _ t113 _ _ t105 false _ ?side1 ?side2 ?side3 ?side4 A42.out).mono ?_); (case side1 => repeat (first | exact (Kd.R_reads' HO_12.out).2.2 | (with_reducible refine Kd.C_alloc ?_ _) | (with_reducible refine Kd.C_drewN ?_ _) | (with_reducible refine Kd.C_drew ?_))); (case side2 => exact (Kd.R_reads' HO_12.out).2.1); (case side3 => repeat (first | exact (Kd.R_reads' HO_8.out).2.2 | (with_reducible refine Kd.C_alloc ?_ _) | (with_reducible refine Kd.C_drewN ?_ _) | (with_reducible refine Kd.C_drew ?_))); (case side4 => exact (Kd.R_reads' HO_8.out).2.1); rintro e w53 ⟨rfl, hb⟩; have n0_ := Aside0.mk (Kd.R_below (by exact Ho.RS <| HO_8.out) hb); have n1_ := Aside0.mk (Kd.R_below (by exact Ho.RS <| HO_11.out) hb); have n2_ := Aside0.mk (Kd.R_below (by exact Ho.RS <| HO_12.out) hb); have n3_ := Aside0.mk (Kd.R_below (by exact Ho.RS <| HO121.out) hb); have n4_ := Aside0.mk (below_step (by exact eS HB.out) hb); clear HO_8; clear HO_11; clear HO_12; clear HO121; clear HB; have HO_8 := n0_; have HO_11 := n1_; have HO_12 := n2_; have HO121 := n3_; have HB := n4_; clear n0_ n1_ n2_ n3_ n4_; (try clear hb); (try clear hb2); (try clear hk); (try clear hi)))
          go_meet
          case rel => exact ⟨_, (true), (by first | rfl | (simp; done) | (simp [*]; done)), H', ⟨by have := HJ10.out; first | omega | exact Nat.le_refl _⟩, ⟨by exact Ho.RS <| Kd.R_mono HO_8.out (fun _ hk => hk.2.1)⟩, ⟨by exact Ho.RS <| Kd.R_mono HO_12.out (fun _ hk => hk.1)⟩, ⟨by exact eS HB.out⟩⟩
      case rest =>
       clear HC36
       try clear c1
       try clear c2
       try clear p2
       try clear c3
       try clear c4
       try clear c5
       try clear c5b0
       try clear c10
       try clear c14
       try clear c16
       try clear c20
       try clear c21
       try clear c21b0
       try clear c21b1
       try clear c31
       try clear c34
       try clear c41
       try clear c41b0
       try clear c42
       try clear c43
       try clear c44
       try clear c44b0
       try clear c44b1
       try clear p2
       obtain ⟨kq, x84_35, rfl, HA, HJ35, HO_8, HO_12, HB⟩ := hcut
       cases kq with
       | zero => exact absurd HA.out (by simp [laws_FnExactCallOff.j1])
       | succ kj35 =>
        have H := HA.out
        clear HA
        simp only [laws_FnExactCallOff.j1] at H
        by_cases c54 : x84_35 = true
        ·subst c54
         have H1 : (some false) = some r := by rw [if_pos rfl] at H; exact H
         clear H
         have H := H1
         clear H1
         as_aux_lemma =>
          exact absurd ((Option.some.inj H).trans HT.out) (by decide)
        ·replace c54 := Bool.eq_false_iff.mpr c54
         subst c54
         have H1 : ((laws_markCarpetOrderS.f kj35 t113 1).bind fun bt126 => ((laws_heldCarpetOrderS.f kj35 bt126.2 1).bind fun t128 => (if t128 < 0 then (some false) else (if t128 = bt126.1 then ((laws_toCarpetOrderS.f kj35 l0).bind fun t129 => ((impl_CallOff.f kj35 t129 a1 a2).bind fun bt132 => ((laws_eqCarpetOrderS.f kj35 bt132.1 t105).bind fun t137 => (if t137 = true then (if bt132.2.1 = t106 then (laws_FnExactCallOff.j2 kj35 bt126.2 bt126.1 (bt132.2.2 != t107)) else (laws_FnExactCallOff.j2 kj35 bt126.2 bt126.1 true)) else (laws_FnExactCallOff.j2 kj35 bt126.2 bt126.1 true))))) else (some false))))) = some r := by rw [if_neg (show ¬ (false = true) by decide)] at H; exact H
         clear H
         have H := H1
         clear H1
         replace H := Option.bind_eq_some_iff.mp H
         obtain ⟨⟨t126, t127⟩, A550, H⟩ := H
         replace H : ((laws_heldCarpetOrderS.f kj35 t127 1).bind fun t128 => (if t128 < 0 then (some false) else (if t128 = t126 then ((laws_toCarpetOrderS.f kj35 l0).bind fun t129 => ((impl_CallOff.f kj35 t129 a1 a2).bind fun bt132 => ((laws_eqCarpetOrderS.f kj35 bt132.1 t105).bind fun t137 => (if t137 = true then (if bt132.2.1 = t106 then (laws_FnExactCallOff.j2 kj35 t127 t126 (bt132.2.2 != t107)) else (laws_FnExactCallOff.j2 kj35 t127 t126 true)) else (laws_FnExactCallOff.j2 kj35 t127 t126 true))))) else (some false)))) = some r := H
         have A55 := Aside0.mk A550
         clear A550
         replace H := Option.bind_eq_some_iff.mp H
         obtain ⟨t128, A560, H⟩ := H
         replace H : (if t128 < 0 then (some false) else (if t128 = t126 then ((laws_toCarpetOrderS.f kj35 l0).bind fun t129 => ((impl_CallOff.f kj35 t129 a1 a2).bind fun bt132 => ((laws_eqCarpetOrderS.f kj35 bt132.1 t105).bind fun t137 => (if t137 = true then (if bt132.2.1 = t106 then (laws_FnExactCallOff.j2 kj35 t127 t126 (bt132.2.2 != t107)) else (laws_FnExactCallOff.j2 kj35 t127 t126 true)) else (laws_FnExactCallOff.j2 kj35 t127 t126 true))))) else (some false))) = some r := H
         have A56 := Aside0.mk A560
         clear A560
         by_cases c57 : t128 < 0
         ·rw [if_pos c57] at H
          have c57b0 : decide (t128 < 0) = true := decide_eq_true c57
          clear c57
          as_aux_lemma =>
           exact absurd ((Option.some.inj H).trans HT.out) (by decide)
         ·rw [if_neg c57] at H
          have c57b0 : decide (t128 < 0) = false := decide_eq_false c57
          clear c57
          by_cases c58 : t128 = t126
          ·rw [if_pos c58] at H
           have c58b0 : (t128 == t126) = true := beq_iff_eq.mpr c58
           have c58b1 : (t128 != t126) = false := bne_eq_false_iff_eq.mpr c58
           clear c58
           replace H := Option.bind_eq_some_iff.mp H
           obtain ⟨t129, A590, H⟩ := H
           replace H : ((impl_CallOff.f kj35 t129 a1 a2).bind fun bt132 => ((laws_eqCarpetOrderS.f kj35 bt132.1 t105).bind fun t137 => (if t137 = true then (if bt132.2.1 = t106 then (laws_FnExactCallOff.j2 kj35 t127 t126 (bt132.2.2 != t107)) else (laws_FnExactCallOff.j2 kj35 t127 t126 true)) else (laws_FnExactCallOff.j2 kj35 t127 t126 true)))) = some r := H
           have A59 := Aside0.mk A590
           clear A590
           replace H := Option.bind_eq_some_iff.mp H
           obtain ⟨⟨t132, t133, t134⟩, A600, H⟩ := H
           replace H : ((laws_eqCarpetOrderS.f kj35 t132 t105).bind fun t137 => (if t137 = true then (if t133 = t106 then (laws_FnExactCallOff.j2 kj35 t127 t126 (t134 != t107)) else (laws_FnExactCallOff.j2 kj35 t127 t126 true)) else (laws_FnExactCallOff.j2 kj35 t127 t126 true))) = some r := H
           have A60 := Aside0.mk A600
           clear A600
           have HC61 := Aside0.mk H
           clear H
           obtain ⟨Ao62, co62, eo62⟩ := Kd.R_slice HO_12.out
           subst eo62
           go_upto_region 25 with (first | ((with_reducible refine gate_callee (f := 21) rfl ?_); refine goesL_ (some 87) rfl rfl Tryd.func21 (by kernel_rfl) rfl #[.slice Ao62 t113.length co62, .int .i64 1] rfl (by (try simp only [List.map_toArray, List.map_cons, List.map_nil]); first | done | rfl | (simp only [List.length_drop, List.length_take]; rfl)) ?_; (with_reducible refine (laws_markCarpetOrderS.calls kj35 (fun k_ => some k_ = (.slice Ao62 t113.length co62 : Value).ownBlock) (.slice Ao62 t113.length co62) t113 1 t126 t127 w _ ?side1 ?side2 A55.out).mono ?_); (case side1 => exact eS HB.out); (case side2 => exact Kd.R_tight rfl HO_12.out); rintro e w63 ⟨rfl, hy0, hb, hkp⟩; refine ⟨_, rfl, ?_⟩; have n0_ := Aside0.mk (Kd.R_mono (ok' := fun k_ => some k_ ≠ (.slice Ao62 t113.length co62 : Value).ownBlock) (Kd.R_keptB (HO_8.out) hkp (fun k_ hk_ hs_ => (hk_) hs_)) (fun k_ hk_ => hk_.1)); have n1_ := Aside0.mk (Kd.R_reok rfl hy0 (fun k_ e_ => HO_12.out.1 k_ e_)); have n2_ := Aside0.mk (hb); clear HO_8; clear HO_12; clear HB; have HO_8 := n0_; have HO_12 := n1_; have HB := n2_; clear n0_ n1_ n2_; (try clear hb); (try clear hkp); (try clear hy0)) | ((with_reducible refine gate_callee (f := 40) rfl ?_); refine goesL_ (some 90) rfl rfl Tryd.func40 (by kernel_rfl) rfl #[.slice Ao62 t127.length co62, .int .i64 1] rfl (by (try simp only [List.map_toArray, List.map_cons, List.map_nil]); first | done | (rw [show t127.length = t113.length from (Kd.R_reads' HO_12.out).1.symm] <;> rfl) | rfl | (simp only [List.length_drop, List.length_take]; rfl)) ?_; (with_reducible refine (laws_heldCarpetOrderS.calls kj35 _ _ t127 1 t128 _ ?side1 ?side2 A56.out).mono ?_); (case side1 => repeat (first | exact (Kd.R_reads' HO_12.out).2.2 | (with_reducible refine Kd.C_alloc ?_ _) | (with_reducible refine Kd.C_drewN ?_ _) | (with_reducible refine Kd.C_drew ?_))); (case side2 => rw [show t127.length = t113.length from (Kd.R_reads' HO_12.out).1.symm]; exact (Kd.R_reads' HO_12.out).2.1); rintro e w64 ⟨rfl, hb⟩; refine ⟨_, rfl, ?_⟩; have n0_ := Aside0.mk (Kd.R_below (by exact Ho.RS <| HO_8.out) hb); have n1_ := Aside0.mk (Kd.R_below (by exact Ho.RS <| HO_12.out) hb); have n2_ := Aside0.mk (below_step (by exact eS HB.out) hb); clear HO_8; clear HO_12; clear HB; have HO_8 := n0_; have HO_12 := n1_; have HB := n2_; clear n0_ n1_ n2_; (try clear hb); (try clear hb2); (try clear hk); (try clear hi)) | ((with_reducible refine gate_callee (f := 16) rfl ?_); refine goesL_ (some 98) rfl rfl Tryd.func16 (by kernel_rfl) rfl #[.slice A0 l0.length c0] rfl (by (try simp only [List.map_toArray, List.map_cons, List.map_nil]); first | done | rfl | (simp only [List.length_drop, List.length_take]; rfl)) ?_; (with_reducible refine (laws_toCarpetOrderS.calls kj35 _ _ l0 t129 _ ?side1 ?side2 A59.out).mono ?_); (case side1 => repeat (first | exact (Kd.C_below HR0.out HB.out) | (with_reducible refine Kd.C_alloc ?_ _) | (with_reducible refine Kd.C_drewN ?_ _) | (with_reducible refine Kd.C_drew ?_))); (case side2 => exact HC0.out); rintro e w65 ⟨v130, rfl, ho0, hb⟩; refine ⟨_, rfl, ?_⟩; have n0_ := Aside0.mk (Kd.R_elder' (by exact Ho.RS <| HO_8.out) (Kd.R_base ho0) hb); have n1_ := Aside0.mk (Kd.R_elder' (by exact Ho.RS <| HO_12.out) (Kd.R_base ho0) hb); have n2_ := Aside0.mk (Kd.R_lower (Kd.R_new' (Kd.R_new' ho0 (Kd.R_lt (by exact Ho.RS <| HO_8.out))) (Kd.R_lt (by exact Ho.RS <| HO_12.out))) (below_size (by exact eS HB.out))); have n3_ := Aside0.mk (below_step (by exact eS HB.out) hb); clear HO_8; clear HO_12; clear HB; have HO_8 := n0_; have HO_12 := n1_; have HO131 := n2_; have HB := n3_; clear n0_ n1_ n2_ n3_; (try clear hb); (try clear hb2); (try clear hk); (try clear hi); (try clear ho0); obtain ⟨Ao66, co66, eo66⟩ := Kd.R_slice HO131.out; subst eo66) | ((with_reducible refine gate_callee (f := 42) rfl ?_); refine goesL_ (some 101) rfl rfl Tryd.func42 (by kernel_rfl) rfl #[.slice Ao66 t129.length co66, .int .i64 a1, .int .i64 a2] rfl (by (try simp only [List.map_toArray, List.map_cons, List.map_nil]); first | done | rfl | (simp only [List.length_drop, List.length_take]; rfl)) ?_; (with_reducible refine (impl_CallOff.calls kj35 _ _ t129 a1 a2 t132 t133 t134 _ ?side1 ?side2 A60.out).mono ?_); (case side1 => repeat (first | exact (Kd.R_reads' HO131.out).2.2 | (with_reducible refine Kd.C_alloc ?_ _) | (with_reducible refine Kd.C_drewN ?_ _) | (with_reducible refine Kd.C_drew ?_))); (case side2 => exact (Kd.R_reads' HO131.out).2.1); rintro e w67 ⟨v135, rfl, ho0, hb⟩; refine ⟨_, rfl, ?_⟩; have n0_ := Aside0.mk (Kd.R_elder' (by exact Ho.RS <| HO_8.out) (Kd.R_base ho0) hb); have n1_ := Aside0.mk (Kd.R_elder' (by exact Ho.RS <| HO_12.out) (Kd.R_base ho0) hb); have n2_ := Aside0.mk (Kd.R_elder' (by exact Ho.RS <| HO131.out) (Kd.R_base ho0) hb); have n3_ := Aside0.mk (Kd.R_lower (Kd.R_new' (Kd.R_new' (Kd.R_new' ho0 (Kd.R_lt (by exact Ho.RS <| HO_8.out))) (Kd.R_lt (by exact Ho.RS <| HO_12.out))) (Kd.R_lt (by exact Ho.RS <| HO131.out))) (below_size (by exact eS HB.out))); have n4_ := Aside0.mk (below_step (by exact eS HB.out) hb); clear HO_8; clear HO_12; clear HO131; clear HB; have HO_8 := n0_; have HO_12 := n1_; have HO131 := n2_; have HO136 := n3_; have HB := n4_; clear n0_ n1_ n2_ n3_ n4_; (try clear hb); (try clear hb2); (try clear hk); (try clear hi); (try clear ho0)))
           (try simp only [Act.put, List.setIfInBounds_toArray, List.set_cons_zero, List.set_cons_succ])
           go_cut [118] (fun v118 wc => ∃ (kq : Nat) (x118_60 : Bool), v118 = .bool x118_60 ∧ Aside0 (laws_FnExactCallOff.j2 kq t127 t126 x118_60 = some r) ∧ Aside0 (kq ≤ kj35) ∧ Aside0 (Kd.R k41 41 wc w.heap.size (fun _ => True) (.slice Ao62 t113.length co62) t127) ∧ Aside0 (Below w.heap.size w wc))
           case first =>
            have H := HC61.out
            clear HC61
            replace H := Option.bind_eq_some_iff.mp H
            obtain ⟨t137, A680, H⟩ := H
            replace H : (if t137 = true then (if t133 = t106 then (laws_FnExactCallOff.j2 kj35 t127 t126 (t134 != t107)) else (laws_FnExactCallOff.j2 kj35 t127 t126 true)) else (laws_FnExactCallOff.j2 kj35 t127 t126 true)) = some r := H
            have A68 := Aside0.mk A680
            clear A680
            by_cases c69 : t137 = true
            ·subst c69
             have H1 : (if t133 = t106 then (laws_FnExactCallOff.j2 kj35 t127 t126 (t134 != t107)) else (laws_FnExactCallOff.j2 kj35 t127 t126 true)) = some r := by rw [if_pos rfl] at H; exact H
             clear H
             have H := H1
             clear H1
             by_cases c70 : t133 = t106
             ·rw [if_pos c70] at H
              have c70b0 : (t133 == t106) = true := beq_iff_eq.mpr c70
              have c70b1 : (t133 != t106) = false := bne_eq_false_iff_eq.mpr c70
              clear c70
              (first | rw [c70b0] | (simp only [i64_w, i32_w]; rw [c70b0]) | skip)
              as_aux_lemma =>
               have H' := Aside0.mk H
               clear H
               obtain ⟨Ao71, co71, eo71⟩ := Kd.R_slice HO136.out
               subst eo71
               obtain ⟨Ao72, co72, eo72⟩ := Kd.R_slice HO_8.out
               subst eo72
               go_wp2_with (first | ((with_reducible refine gate_callee (f := 20) rfl ?_); refine goesL_ (some 107) rfl rfl Tryd.func20 (by kernel_rfl) rfl #[.slice Ao71 t132.length co71, .slice Ao72 t105.length co72] rfl (by (try simp only [List.map_toArray, List.map_cons, List.map_nil]); first | done | rfl | (simp only [List.length_drop, List.length_take]; rfl)) ?_; (with_reducible refine (laws_eqCarpetOrderS.calls kj35 _ _ t132 _ _ t105 true _ ?side1 ?side2 ?side3 ?side4 A68.out).mono ?_); (case side1 => repeat (first | exact (Kd.R_reads' HO136.out).2.2 | (with_reducible refine Kd.C_alloc ?_ _) | (with_reducible refine Kd.C_drewN ?_ _) | (with_reducible refine Kd.C_drew ?_))); (case side2 => exact (Kd.R_reads' HO136.out).2.1); (case side3 => repeat (first | exact (Kd.R_reads' HO_8.out).2.2 | (with_reducible refine Kd.C_alloc ?_ _) | (with_reducible refine Kd.C_drewN ?_ _) | (with_reducible refine Kd.C_drew ?_))); (case side4 => exact (Kd.R_reads' HO_8.out).2.1); rintro e w73 ⟨rfl, hb⟩; refine ⟨_, rfl, ?_⟩; have n0_ := Aside0.mk (Kd.R_below (by exact Ho.RS <| HO_8.out) hb); have n1_ := Aside0.mk (Kd.R_below (by exact Ho.RS <| HO_12.out) hb); have n2_ := Aside0.mk (Kd.R_below (by exact Ho.RS <| HO131.out) hb); have n3_ := Aside0.mk (Kd.R_below (by exact Ho.RS <| HO136.out) hb); have n4_ := Aside0.mk (below_step (by exact eS HB.out) hb); clear HO_8; clear HO_12; clear HO131; clear HO136; clear HB; have HO_8 := n0_; have HO_12 := n1_; have HO131 := n2_; have HO136 := n3_; have HB := n4_; clear n0_ n1_ n2_ n3_ n4_; (try clear hb); (try clear hb2); (try clear hk); (try clear hi)))
               go_meet
               case rel => exact ⟨_, ((t134 != t107)), (by first | rfl | (simp; done) | (simp [*]; done)), H', ⟨by have := HJ10.out; have := HJ35.out; first | omega | exact Nat.le_refl _⟩, ⟨by exact Ho.RS <| Kd.R_mono HO_12.out (fun _ hk => trivial)⟩, ⟨by exact eS HB.out⟩⟩
             ·rw [if_neg c70] at H
              have c70b0 : (t133 == t106) = false := beq_eq_false_iff_ne.mpr c70
              have c70b1 : (t133 != t106) = true := bne_iff_ne.mpr c70
              (first | rw [c70b0] | (simp only [i64_w, i32_w]; rw [c70b0]) | skip)
              as_aux_lemma =>
               have H' := Aside0.mk H
               clear H
               obtain ⟨Ao74, co74, eo74⟩ := Kd.R_slice HO136.out
               subst eo74
               obtain ⟨Ao75, co75, eo75⟩ := Kd.R_slice HO_8.out
               subst eo75
               go_wp2_with (first | ((with_reducible refine gate_callee (f := 20) rfl ?_); refine goesL_ (some 107) rfl rfl Tryd.func20 (by kernel_rfl) rfl #[.slice Ao74 t132.length co74, .slice Ao75 t105.length co75] rfl (by (try simp only [List.map_toArray, List.map_cons, List.map_nil]); first | done | rfl | (simp only [List.length_drop, List.length_take]; rfl)) ?_; (with_reducible refine (laws_eqCarpetOrderS.calls kj35 _ _ t132 _ _ t105 true _ ?side1 ?side2 ?side3 ?side4 A68.out).mono ?_); (case side1 => repeat (first | exact (Kd.R_reads' HO136.out).2.2 | (with_reducible refine Kd.C_alloc ?_ _) | (with_reducible refine Kd.C_drewN ?_ _) | (with_reducible refine Kd.C_drew ?_))); (case side2 => exact (Kd.R_reads' HO136.out).2.1); (case side3 => repeat (first | exact (Kd.R_reads' HO_8.out).2.2 | (with_reducible refine Kd.C_alloc ?_ _) | (with_reducible refine Kd.C_drewN ?_ _) | (with_reducible refine Kd.C_drew ?_))); (case side4 => exact (Kd.R_reads' HO_8.out).2.1); rintro e w76 ⟨rfl, hb⟩; refine ⟨_, rfl, ?_⟩; have n0_ := Aside0.mk (Kd.R_below (by exact Ho.RS <| HO_8.out) hb); have n1_ := Aside0.mk (Kd.R_below (by exact Ho.RS <| HO_12.out) hb); have n2_ := Aside0.mk (Kd.R_below (by exact Ho.RS <| HO131.out) hb); have n3_ := Aside0.mk (Kd.R_below (by exact Ho.RS <| HO136.out) hb); have n4_ := Aside0.mk (below_step (by exact eS HB.out) hb); clear HO_8; clear HO_12; clear HO131; clear HO136; clear HB; have HO_8 := n0_; have HO_12 := n1_; have HO131 := n2_; have HO136 := n3_; have HB := n4_; clear n0_ n1_ n2_ n3_ n4_; (try clear hb); (try clear hb2); (try clear hk); (try clear hi)))
               go_meet
               case rel => exact ⟨_, (true), (by first | rfl | (simp; done) | (simp [*]; done)), H', ⟨by have := HJ10.out; have := HJ35.out; first | omega | exact Nat.le_refl _⟩, ⟨by exact Ho.RS <| Kd.R_mono HO_12.out (fun _ hk => trivial)⟩, ⟨by exact eS HB.out⟩⟩
            ·replace c69 := Bool.eq_false_iff.mpr c69
             subst c69
             have H1 : (laws_FnExactCallOff.j2 kj35 t127 t126 true) = some r := by rw [if_neg (show ¬ (false = true) by decide)] at H; exact H
             clear H
             have H := H1
             clear H1
             as_aux_lemma =>
              have H' := Aside0.mk H
              clear H
              obtain ⟨Ao77, co77, eo77⟩ := Kd.R_slice HO136.out
              subst eo77
              obtain ⟨Ao78, co78, eo78⟩ := Kd.R_slice HO_8.out
              subst eo78
              go_wp2_with (first | ((with_reducible refine gate_callee (f := 20) rfl ?_); refine goesL_ (some 107) rfl rfl Tryd.func20 (by kernel_rfl) rfl #[.slice Ao77 t132.length co77, .slice Ao78 t105.length co78] rfl (by (try simp only [List.map_toArray, List.map_cons, List.map_nil]); first | done | rfl | (simp only [List.length_drop, List.length_take]; rfl)) ?_; (with_reducible refine (laws_eqCarpetOrderS.calls kj35 _ _ t132 _ _ t105 false _ ?side1 ?side2 ?side3 ?side4 A68.out).mono ?_); (case side1 => repeat (first | exact (Kd.R_reads' HO136.out).2.2 | (with_reducible refine Kd.C_alloc ?_ _) | (with_reducible refine Kd.C_drewN ?_ _) | (with_reducible refine Kd.C_drew ?_))); (case side2 => exact (Kd.R_reads' HO136.out).2.1); (case side3 => repeat (first | exact (Kd.R_reads' HO_8.out).2.2 | (with_reducible refine Kd.C_alloc ?_ _) | (with_reducible refine Kd.C_drewN ?_ _) | (with_reducible refine Kd.C_drew ?_))); (case side4 => exact (Kd.R_reads' HO_8.out).2.1); rintro e w79 ⟨rfl, hb⟩; refine ⟨_, rfl, ?_⟩; have n0_ := Aside0.mk (Kd.R_below (by exact Ho.RS <| HO_8.out) hb); have n1_ := Aside0.mk (Kd.R_below (by exact Ho.RS <| HO_12.out) hb); have n2_ := Aside0.mk (Kd.R_below (by exact Ho.RS <| HO131.out) hb); have n3_ := Aside0.mk (Kd.R_below (by exact Ho.RS <| HO136.out) hb); have n4_ := Aside0.mk (below_step (by exact eS HB.out) hb); clear HO_8; clear HO_12; clear HO131; clear HO136; clear HB; have HO_8 := n0_; have HO_12 := n1_; have HO131 := n2_; have HO136 := n3_; have HB := n4_; clear n0_ n1_ n2_ n3_ n4_; (try clear hb); (try clear hb2); (try clear hk); (try clear hi)))
              go_meet
              case rel => exact ⟨_, (true), (by first | rfl | (simp; done) | (simp [*]; done)), H', ⟨by have := HJ10.out; have := HJ35.out; first | omega | exact Nat.le_refl _⟩, ⟨by exact Ho.RS <| Kd.R_mono HO_12.out (fun _ hk => trivial)⟩, ⟨by exact eS HB.out⟩⟩
           case rest =>
            clear HC61
            try clear c1
            try clear c2
            try clear p2
            try clear c3
            try clear c4
            try clear c5
            try clear c5b0
            try clear c6
            try clear c7
            try clear c10
            try clear c14
            try clear c16
            try clear c20
            try clear c21
            try clear c21b0
            try clear c21b1
            try clear c31
            try clear c34
            try clear c40
            try clear c41
            try clear c41b0
            try clear c42
            try clear c43
            try clear c44
            try clear c44b0
            try clear c44b1
            try clear c54
            try clear c57
            try clear c57b0
            try clear c58
            try clear c58b0
            try clear c58b1
            try clear c69
            try clear c70
            try clear c70b0
            try clear c70b1
            try clear p2
            obtain ⟨kq, x118_60, rfl, HA, HJ60, HO_12, HB⟩ := hcut
            have hl12_60 := (Kd.R_reads' HO_12.out).1
            rw [hl12_60] at HO_12
            (try simp only [hl12_60])
            cases kq with
            | zero => exact absurd HA.out (by simp [laws_FnExactCallOff.j2])
            | succ kj60 =>
             have H := HA.out
             clear HA
             simp only [laws_FnExactCallOff.j2] at H
             by_cases c80 : x118_60 = true
             ·subst c80
              have H1 : (some false) = some r := by rw [if_pos rfl] at H; exact H
              clear H
              have H := H1
              clear H1
              as_aux_lemma =>
               exact absurd ((Option.some.inj H).trans HT.out) (by decide)
             ·replace c80 := Bool.eq_false_iff.mpr c80
              subst c80
              have H1 : ((laws_heldCarpetOrderS.f kj60 t127 1).bind fun t138 => (if t138 < 0 then (some false) else (if t138 = t126 then (some true) else (some false)))) = some r := by rw [if_neg (show ¬ (false = true) by decide)] at H; exact H
              clear H
              have H := H1
              clear H1
              replace H := Option.bind_eq_some_iff.mp H
              obtain ⟨t138, A810, H⟩ := H
              replace H : (if t138 < 0 then (some false) else (if t138 = t126 then (some true) else (some false))) = some r := H
              have A81 := Aside0.mk A810
              clear A810
              by_cases c82 : t138 < 0
              ·rw [if_pos c82] at H
               have c82b0 : decide (t138 < 0) = true := decide_eq_true c82
               clear c82
               as_aux_lemma =>
                exact absurd ((Option.some.inj H).trans HT.out) (by decide)
              ·rw [if_neg c82] at H
               have c82b0 : decide (t138 < 0) = false := decide_eq_false c82
               clear c82
               by_cases c83 : t138 = t126
               ·rw [if_pos c83] at H
                have c83b0 : (t138 == t126) = true := beq_iff_eq.mpr c83
                have c83b1 : (t138 != t126) = false := bne_eq_false_iff_eq.mpr c83
                clear c83
                as_aux_lemma =>
                 obtain rfl := Option.some.inj H
                 go_wp2_with (first | ((with_reducible refine gate_callee (f := 40) rfl ?_); refine goesL_ (some 121) rfl rfl Tryd.func40 (by kernel_rfl) rfl #[.slice Ao62 t127.length co62, .int .i64 1] rfl (by (try simp only [List.map_toArray, List.map_cons, List.map_nil]); first | done | rfl | (simp only [List.length_drop, List.length_take]; rfl)) ?_; (with_reducible refine (laws_heldCarpetOrderS.calls kj60 _ _ t127 1 t138 _ ?side1 ?side2 A81.out).mono ?_); (case side1 => repeat (first | exact (Kd.R_reads' HO_12.out).2.2 | (with_reducible refine Kd.C_alloc ?_ _) | (with_reducible refine Kd.C_drewN ?_ _) | (with_reducible refine Kd.C_drew ?_))); (case side2 => exact (Kd.R_reads' HO_12.out).2.1); rintro e w84 ⟨rfl, hb⟩; refine ⟨_, rfl, ?_⟩; have n0_ := Aside0.mk (Kd.R_below (by exact Ho.RS <| HO_12.out) hb); have n1_ := Aside0.mk (below_step (by exact eS HB.out) hb); clear HO_12; clear HB; have HO_12 := n0_; have HB := n1_; clear n0_ n1_; (try clear hb); (try clear hb2); (try clear hk); (try clear hi)))
                 go_ret
                 exact ⟨by first | rfl | (simp [errW_none, errW_some] <;> rfl) | (simp [*, errW_none, errW_some] <;> rfl), by exact eS HB.out⟩
               ·rw [if_neg c83] at H
                have c83b0 : (t138 == t126) = false := beq_eq_false_iff_ne.mpr c83
                have c83b1 : (t138 != t126) = true := bne_iff_ne.mpr c83
                as_aux_lemma =>
                 exact absurd ((Option.some.inj H).trans HT.out) (by decide)
          ·rw [if_neg c58] at H
           have c58b0 : (t128 == t126) = false := beq_eq_false_iff_ne.mpr c58
           have c58b1 : (t128 != t126) = true := bne_iff_ne.mpr c58
           as_aux_lemma =>
            exact absurd ((Option.some.inj H).trans HT.out) (by decide)
     ·replace c34 := Bool.eq_false_iff.mpr c34
      subst c34
      have H1 : (some false) = some r := by rw [if_neg (show ¬ (false = true) by decide)] at H; exact H
      clear H
      have H := H1
      clear H1
      as_aux_lemma =>
       exact absurd ((Option.some.inj H).trans HT.out) (by decide)

/-- THE ONE PURE STATEMENT of laws_FnExactCallOff: yours. -/
def laws_FnExactCallOff.Pure : Prop := ∀ (l0 : List (S38)) (a1 : Int) (a2 : Int), (l0.length ≤ 9223372036854775807 ∧ ∀ y_ ∈ l0, ok38 y_) → (Lit.int .i64 a1).wf = true → (Lit.int .i64 a2).wf = true → ∃ k, laws_FnExactCallOff.f k l0 a1 a2 = some true

end Go.Proofs.YtahfahlbdgbfeaaDoor.X

-- Qcalloff
namespace Go.Proofs.YtahfahlbdgbfeaaDoor.Pure
open Go Go.RowKit Go.Proofs Go.Proofs.YtahfahlbdgbfeaaDoor.X Go.Proofs.YtahfahlbdgbfeaaDoorW.PrintWords Go.Proofs.YtahfahlbdgbfeaaDoorW.PrintLast
set_option linter.unusedVariables false
set_option linter.unusedSimpArgs false

def callM (l : List S41) (id d : Int) : List S41 × Int × Bool :=
  let i := findM l id
  let x := l.getD i.toNat z41
  if i < 0 then ([], 0, false) else if x.f4 > 1 ∨ d < x.f7 then ([], 0, false) else
  let y := withM l i ⟨x.f0, x.f1, x.f2, x.f3, 5, x.f5, x.f6 - (x.f6 + 1) / 2, d⟩
  if y.2 = true then (y.1, (x.f6 + 1) / 2, true) else ([], 0, false)
theorem callM_len (l : List S41) (id c : Int) : (callM l id c).1.length ≤ 10 := by
  unfold callM
  simp only
  (repeat' split) <;> first | exact withM_len _ _ _ | simp
theorem callS_eq {k : Nat} {l : List S41} {id d : Int} (hk : 4000000 < k) (hs : sizesOk l) : spec_CallOff.f k l id d = some (callM l id d) := by
  have hlen := hs.1
  obtain ⟨k, rfl, hk⟩ := succ_of hk
  simp only [spec_CallOff.f, findS_eq (k := k + 1) (l := l) (id := id) (by omega) hs, Option.bind_some, callM]
  rcases findM_cases l id with h | ⟨j, h, hj, _, ho⟩
  · rw [h]; simp [spec_CallOff.j0]
  rw [h]
  simp only [rdIOrder_nat, Int.toNat_natCast]
  simp only [if_neg (show ¬ (j : Int) < 0 by omega)]
  rw [if_pos (by omega), if_pos (by omega)]
  simp only [spec_CallOff.j0, rdIOrder_nat]
  obtain ⟨x, hx⟩ : ∃ x, l.getD j z41 = x := ⟨_, rfl⟩
  rw [hx] at ho ⊢
  have hb := order_of ho
  have hw := withS_eq (k := k) (l := l) (i := (j : Int)) ⟨x.f0, x.f1, x.f2, x.f3, 5, x.f5, x.f6 - (x.f6 + 1) / 2, d⟩ (by omega) hs (by have := word_size hb.2.1; simp only; omega) (by omega)
  simp only at hw
  have hd : Int.tdiv (x.f6 + 1) 2 = (x.f6 + 1) / 2 := Int.tdiv_eq_ediv_of_nonneg (by omega)
  rw [w64 (x := x.f6 + 1) (by omega) (by omega), hd, w64 (x := (x.f6 + 1) / 2) (by omega) (by omega), w64 (x := x.f6 - (x.f6 + 1) / 2) (by omega) (by omega), hw]
  simp only [Option.bind_some]
  by_cases g1 : x.f4 > 1
  · rw [if_pos g1, if_pos trivial, if_pos (.inl g1)]
  rw [if_neg g1]
  by_cases g2 : d < x.f7
  · rw [decide_eq_true g2, if_pos rfl, if_pos (.inr g2)]
  rw [decide_eq_false g2, if_neg (by simp), if_pos (by omega), if_pos (by omega), if_neg (show ¬ (x.f4 > 1 ∨ d < x.f7) by omega)]
  split <;> rfl
theorem callI_eq {k : Nat} {l : List S41} {id d : Int} (hk : 4000000 < k) (hlen : l.length ≤ 1048576) : impl_CallOff.f k l id d = some (callM l id d) := by
  obtain ⟨k, rfl, hk⟩ := succ_of hk
  simp only [impl_CallOff.f, findO_eq (k := k + 1) (l := l) (id := id) (by omega) hlen, Option.bind_some, callM]
  rcases findM_cases l id with h | ⟨j, h, hj, _, ho⟩
  · rw [h]; simp [impl_CallOff.j0]
  rw [h]
  simp only [rdIOrder_nat, Int.toNat_natCast]
  simp only [if_neg (show ¬ (j : Int) < 0 by omega)]
  rw [if_pos (by omega), if_pos (by omega)]
  simp only [impl_CallOff.j0, rdIOrder_nat, impl_ceilDiv.f]
  obtain ⟨x, hx⟩ : ∃ x, l.getD j z41 = x := ⟨_, rfl⟩
  rw [hx] at ho ⊢
  have hb := order_of ho
  have hw := withI_eq (k := k) (l := l) (i := (j : Int)) ⟨x.f0, x.f1, x.f2, x.f3, 5, x.f5, x.f6 - (x.f6 + 1) / 2, d⟩ (by omega) hlen (by omega)
  simp only at hw
  have hd : Int.tdiv (x.f6 + 1) 2 = (x.f6 + 1) / 2 := Int.tdiv_eq_ediv_of_nonneg (by omega)
  rw [if_neg (show ¬ (2 : Int) = 0 by omega), w64 (x := x.f6 + 2) (by omega) (by omega), show x.f6 + 2 - 1 = x.f6 + 1 by omega, w64 (x := x.f6 + 1) (by omega) (by omega), hd, w64 (x := (x.f6 + 1) / 2) (by omega) (by omega)]
  simp only [Option.bind_some]
  rw [w64 (x := x.f6 - (x.f6 + 1) / 2) (by omega) (by omega), hw]
  simp only [Option.bind_some]
  by_cases g1 : x.f4 > 1
  · rw [if_pos g1, if_pos trivial, if_pos (.inl g1)]
  rw [if_neg g1]
  by_cases g2 : d < x.f7
  · rw [decide_eq_true g2, if_pos rfl, if_pos (.inr g2)]
  rw [decide_eq_false g2, if_neg (by simp), if_pos (by omega), if_pos (by omega), if_neg (show ¬ (x.f4 > 1 ∨ d < x.f7) by omega)]
  split <;> rfl

end Go.Proofs.YtahfahlbdgbfeaaDoor.Pure

-- PureFnExactCallOff
namespace Go.Proofs.YtahfahlbdgbfeaaDoor.Pure
open Go Go.RowKit Go.Proofs Go.Proofs.YtahfahlbdgbfeaaDoor.X Go.Proofs.YtahfahlbdgbfeaaDoorW.PrintWords Go.Proofs.YtahfahlbdgbfeaaDoorW.PrintLast
set_option linter.unusedVariables false
set_option linter.unusedSimpArgs false

theorem FnExactCallOff : laws_FnExactCallOff.Pure := by
  intro l id c hl _ _
  refine ⟨8000003, ?_⟩
  obtain ⟨r, hr, hor⟩ := szOrderS_ex (k := 8000003) (l := l) (by omega) hl.1 (fun x hx => (hl.2 x hx).2.1)
  simp only [laws_FnExactCallOff.f, hr, Option.bind_some]
  by_cases h : r < 0
  · rw [if_pos h]
  rw [if_neg h]
  have hs := hor.resolve_left h
  have hm := sizesOk_map hs
  have hlen := callM_len (l.map toOrder) id c
  simp only [toOrderS_eq (k := 8000003) (l := l) (by omega) hs.1, Option.bind_some, callS_eq (k := 8000003) (l := l.map toOrder) (id := id) (d := c) (by omega) hm, callI_eq (k := 8000003) (l := l.map toOrder) (id := id) (d := c) (by omega) hm.1, eqOrderS_refl (k := 8000003) (l := (callM (l.map toOrder) id c).1) (by omega) (by omega), if_true, bne_self_eq_false, laws_FnExactCallOff.j0, Bool.false_eq_true, if_false, toOrderS_eq (k := 8000002) (l := l) (by omega) hs.1, eqOrderS_refl (k := 8000002) (l := l.map toOrder) (by omega) (by omega), markOrderS_eq (k := 8000002) (l := l.map toOrder) (s := 1) (by omega) hm.1 (by omega), eqOrderS_refl (k := 8000002) (l := (callM (l.map toOrder) id c).1) (by omega) (by omega)]
  rw [if_neg (by omega)]
  simp only [laws_FnExactCallOff.j1, Bool.false_eq_true, if_false, markOrderS_eq (k := 8000001) (l := (callM (l.map toOrder) id c).1) (s := 1) (by omega) (by omega) (by omega), Option.bind_some, heldOrderS_eq (k := 8000001) (m := (callM (l.map toOrder) id c).1.length) (s := 1) (by omega) (by omega) (by omega), if_true, toOrderS_eq (k := 8000001) (l := l) (by omega) hs.1, callI_eq (k := 8000001) (l := l.map toOrder) (id := id) (d := c) (by omega) hm.1, eqOrderS_refl (k := 8000001) (l := (callM (l.map toOrder) id c).1) (by omega) (by omega), bne_self_eq_false]
  rw [if_neg (by omega)]
  simp only [laws_FnExactCallOff.j2, Bool.false_eq_true, if_false, heldOrderS_eq (k := 8000000) (m := (callM (l.map toOrder) id c).1.length) (s := 1) (by omega) (by omega) (by omega), Option.bind_some, if_true]
  rw [if_neg (by omega)]

end Go.Proofs.YtahfahlbdgbfeaaDoor.Pure
