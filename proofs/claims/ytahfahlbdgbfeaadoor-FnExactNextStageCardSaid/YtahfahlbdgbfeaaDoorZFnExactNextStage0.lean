/- What the law FnExactNextStage needs, part 5 of 5: what each function of the program that it reaches returns (printed by this session's own program, checked by Lean), and plain mathematics about it. Conditions: those of each theorem. -/
import Derived.Test.YtahfahlbdgbfeaaDoorZBD
-- XimplCarpetOrdercanGoOnF87
namespace Go.Proofs.YtahfahlbdgbfeaaDoor.X
open Ho (bS eS)
open Go.RowKit Go.Proofs.YtahfahlbdgbfeaaDoorW.PrintWords Go.Proofs.YtahfahlbdgbfeaaDoorW.PrintLast Go.Proofs.YtahfahlbdgbfeaaDoorW.PrintMore
attribute [local go_sem] max2_int min2_int max_two min_two max_three min_three max_four min_four   -- for this text's walks alone
set_option linter.unusedVariables false
set_option linter.unusedSimpArgs false

attribute [local go_sem ↓] Ho.isSome_setCell_   -- a store leaves all places there
/-! ### impl_CarpetOrder_canGoOn: function 87 -/
def impl_CarpetOrder_canGoOn.j0 : Nat → Int → Bool → Int → ByteArray → Int → Int → Int → Int → Int → Int → Option (Bool)
  | 0, _, _, _, _, _, _, _, _, _, _ => none
  | k + 1, x4, x13, x102000, x102001, x102002, x102003, x102004, x102005, x102006, x102007 => if x13 = true then (some true) else (if x4 = 3 then (some (x102006 == x102005)) else (some false))
def impl_CarpetOrder_canGoOn.f (k : Nat) (a0_0 : Int) (a0_1 : ByteArray) (a0_2 : Int) (a0_3 : Int) (a0_4 : Int) (a0_5 : Int) (a0_6 : Int) (a0_7 : Int) : Option (Bool) := if a0_4 = 0 then (some (decide ((wrap64 (3 * a0_6)) ≥ a0_5))) else (if a0_4 = 1 then (impl_CarpetOrder_canGoOn.j0 k a0_4 (a0_4 == 1) a0_0 a0_1 a0_2 a0_3 a0_4 a0_5 a0_6 a0_7) else (impl_CarpetOrder_canGoOn.j0 k a0_4 (a0_4 == 2) a0_0 a0_1 a0_2 a0_3 a0_4 a0_5 a0_6 a0_7))
theorem impl_CarpetOrder_canGoOn.mono_l : ∀ k, (∀ y0 y1 y2 y3 y4 y5 y6 y7 y8 y9, LeO (impl_CarpetOrder_canGoOn.j0 k y0 y1 y2 y3 y4 y5 y6 y7 y8 y9) (impl_CarpetOrder_canGoOn.j0 (k + 1) y0 y1 y2 y3 y4 y5 y6 y7 y8 y9))
  | 0 => fun _ _ _ _ _ _ _ _ _ _ r h => by simp [impl_CarpetOrder_canGoOn.j0] at h
  | k + 1 => by
    have ih0 := impl_CarpetOrder_canGoOn.mono_l k
    · intro y0 y1 y2 y3 y4 y5 y6 y7 y8 y9
      unfold impl_CarpetOrder_canGoOn.j0
      repeat' first
      | (with_reducible exact ih0 _ _ _ _ _ _ _ _ _ _)
      | (with_reducible exact LeO.refl _)
      | (with_reducible exact LeO.none _)
      | (with_reducible refine LeO.ite ?_ ?_)
      | (with_reducible refine LeO.bind ?_ (fun _ => ?_))
      | exact ih0 _ _ _ _ _ _ _ _ _ _
      | exact LeO.none _
      | refine LeO.ite ?_ ?_
      | refine LeO.bind ?_ (fun _ => ?_)
theorem impl_CarpetOrder_canGoOn.mono : ∀ a0 a1 a2 a3 a4 a5 a6 a7 k, LeO (impl_CarpetOrder_canGoOn.f k a0 a1 a2 a3 a4 a5 a6 a7) (impl_CarpetOrder_canGoOn.f (k + 1) a0 a1 a2 a3 a4 a5 a6 a7) := by
  intro a0 a1 a2 a3 a4 a5 a6 a7 k
  have ih0 := impl_CarpetOrder_canGoOn.mono_l k
  unfold impl_CarpetOrder_canGoOn.f
  repeat' first
      | (with_reducible exact ih0 _ _ _ _ _ _ _ _ _ _)
      | (with_reducible exact LeO.refl _)
      | (with_reducible exact LeO.none _)
      | (with_reducible refine LeO.ite ?_ ?_)
      | (with_reducible refine LeO.bind ?_ (fun _ => ?_))
      | exact ih0 _ _ _ _ _ _ _ _ _ _
      | exact LeO.none _
      | refine LeO.ite ?_ ?_
      | refine LeO.bind ?_ (fun _ => ?_)
set_option maxHeartbeats 8000000 in
set_option maxRecDepth 100000 in
theorem impl_CarpetOrder_canGoOn.calls (k : Nat) (a0_0 : Int) (a0_1 : ByteArray) (a0_2 : Int) (a0_3 : Int) (a0_4 : Int) (a0_5 : Int) (a0_6 : Int) (a0_7 : Int) (r : Bool) (w : World) (h : impl_CarpetOrder_canGoOn.f k a0_0 a0_1 a0_2 a0_3 a0_4 a0_5 a0_6 a0_7 = some r) :
    Calls Tryd.prog 87 #[.agg #[.int .i64 a0_0, .string a0_1, .int .i64 a0_2, .int .i64 a0_3, .int .i64 a0_4, .int .i64 a0_5, .int .i64 a0_6, .int .i64 a0_7]] w fun e w' => e = .returned (.bool r) ∧ Below w.heap.size w w' := by
  have hu41 := Tryd.underlying41
  have HB := Aside0.mk (Below.refl w.heap.size w)
  have H : (if a0_4 = 0 then (some (decide ((wrap64 (3 * a0_6)) ≥ a0_5))) else (if a0_4 = 1 then (impl_CarpetOrder_canGoOn.j0 k a0_4 (a0_4 == 1) a0_0 a0_1 a0_2 a0_3 a0_4 a0_5 a0_6 a0_7) else (impl_CarpetOrder_canGoOn.j0 k a0_4 (a0_4 == 2) a0_0 a0_1 a0_2 a0_3 a0_4 a0_5 a0_6 a0_7))) = some r := h
  clear h
  by_cases c2 : a0_4 = 0
  · rw [if_pos c2] at H
    have c2b0 : (a0_4 == 0) = true := beq_iff_eq.mpr c2
    have c2b1 : (a0_4 != 0) = false := bne_eq_false_iff_eq.mpr c2
    clear c2
    obtain rfl := Option.some.inj H
    go_enter Tryd.func87, Tryd.ntmps87
    go_wp2_with (first | ((with_reducible refine gate_dst (N := 1) rfl ?_); refine box_event ?hg (N := 1) ?hd (cs := #[.int .i64 a0_0, .string a0_1, .int .i64 a0_2, .int .i64 a0_3, .int .i64 a0_4, .int .i64 a0_5, .int .i64 a0_6, .int .i64 a0_7]) (t := 41) ?hr ?_; (case hd => rfl); (case hg => rfl); (case hr => first | (go_simp; done) | (go_simp; rfl)); intro gb101 hg w3 hbox hb; have n0_ := Aside0.mk (below_step (by exact eS HB.out) hb); have n1_ := Aside0.mk (hbox); have n2_ := Aside0.mk ((by rw [hg]; exact (below_size (by exact eS HB.out)) : w.heap.size ≤ gb101)); have n3_ := Aside0.mk ((by rw [hg]; exact (below_size (by exact eS HB.out)) : w.heap.size ≤ gb101)); clear HB; have HB := n0_; have BK101 := n1_; have GW101 := n2_; have GE101 := n3_; clear n0_ n1_ n2_ n3_; clear hb hbox hg; have hcz4_0 : w3.cell? ⟨gb101, 0, none⟩ = some (.int .i64 a0_0) := (blk_cell BK101.out 0).trans rfl; have hcz4_1 : w3.cell? ⟨gb101, 1, none⟩ = some (.string a0_1) := (blk_cell BK101.out 1).trans rfl; have hcz4_2 : w3.cell? ⟨gb101, 2, none⟩ = some (.int .i64 a0_2) := (blk_cell BK101.out 2).trans rfl; have hcz4_3 : w3.cell? ⟨gb101, 3, none⟩ = some (.int .i64 a0_3) := (blk_cell BK101.out 3).trans rfl; have hcz4_4 : w3.cell? ⟨gb101, 4, none⟩ = some (.int .i64 a0_4) := (blk_cell BK101.out 4).trans rfl; have hcz4_5 : w3.cell? ⟨gb101, 5, none⟩ = some (.int .i64 a0_5) := (blk_cell BK101.out 5).trans rfl; have hcz4_6 : w3.cell? ⟨gb101, 6, none⟩ = some (.int .i64 a0_6) := (blk_cell BK101.out 6).trans rfl; have hcz4_7 : w3.cell? ⟨gb101, 7, none⟩ = some (.int .i64 a0_7) := (blk_cell BK101.out 7).trans rfl; have hfz4_0 := blk_frozen BK101.out 0; have hfz4_1 := blk_frozen BK101.out 1; have hfz4_2 := blk_frozen BK101.out 2; have hfz4_3 := blk_frozen BK101.out 3; have hfz4_4 := blk_frozen BK101.out 4; have hfz4_5 := blk_frozen BK101.out 5; have hfz4_6 := blk_frozen BK101.out 6; have hfz4_7 := blk_frozen BK101.out 7))
    go_ret
    exact ⟨by first | rfl | (simp [errW_none, errW_some] <;> rfl) | (simp [*, errW_none, errW_some] <;> rfl), by exact eS HB.out⟩
  · rw [if_neg c2] at H
    have c2b0 : (a0_4 == 0) = false := beq_eq_false_iff_ne.mpr c2
    have c2b1 : (a0_4 != 0) = true := bne_iff_ne.mpr c2
    have HC5 := Aside0.mk H
    clear H
    go_enter Tryd.func87, Tryd.ntmps87
    go_upto_if 13 with (first | ((with_reducible refine gate_dst (N := 1) rfl ?_); refine box_event ?hg (N := 1) ?hd (cs := #[.int .i64 a0_0, .string a0_1, .int .i64 a0_2, .int .i64 a0_3, .int .i64 a0_4, .int .i64 a0_5, .int .i64 a0_6, .int .i64 a0_7]) (t := 41) ?hr ?_; (case hd => rfl); (case hg => rfl); (case hr => first | (go_simp; done) | (go_simp; rfl)); intro gb101 hg w6 hbox hb; have n0_ := Aside0.mk (below_step (by exact eS HB.out) hb); have n1_ := Aside0.mk (hbox); have n2_ := Aside0.mk ((by rw [hg]; exact (below_size (by exact eS HB.out)) : w.heap.size ≤ gb101)); have n3_ := Aside0.mk ((by rw [hg]; exact (below_size (by exact eS HB.out)) : w.heap.size ≤ gb101)); clear HB; have HB := n0_; have BK101 := n1_; have GW101 := n2_; have GE101 := n3_; clear n0_ n1_ n2_ n3_; clear hb hbox hg; have hcz7_0 : w6.cell? ⟨gb101, 0, none⟩ = some (.int .i64 a0_0) := (blk_cell BK101.out 0).trans rfl; have hcz7_1 : w6.cell? ⟨gb101, 1, none⟩ = some (.string a0_1) := (blk_cell BK101.out 1).trans rfl; have hcz7_2 : w6.cell? ⟨gb101, 2, none⟩ = some (.int .i64 a0_2) := (blk_cell BK101.out 2).trans rfl; have hcz7_3 : w6.cell? ⟨gb101, 3, none⟩ = some (.int .i64 a0_3) := (blk_cell BK101.out 3).trans rfl; have hcz7_4 : w6.cell? ⟨gb101, 4, none⟩ = some (.int .i64 a0_4) := (blk_cell BK101.out 4).trans rfl; have hcz7_5 : w6.cell? ⟨gb101, 5, none⟩ = some (.int .i64 a0_5) := (blk_cell BK101.out 5).trans rfl; have hcz7_6 : w6.cell? ⟨gb101, 6, none⟩ = some (.int .i64 a0_6) := (blk_cell BK101.out 6).trans rfl; have hcz7_7 : w6.cell? ⟨gb101, 7, none⟩ = some (.int .i64 a0_7) := (blk_cell BK101.out 7).trans rfl; have hfz7_0 := blk_frozen BK101.out 0; have hfz7_1 := blk_frozen BK101.out 1; have hfz7_2 := blk_frozen BK101.out 2; have hfz7_3 := blk_frozen BK101.out 3; have hfz7_4 := blk_frozen BK101.out 4; have hfz7_5 := blk_frozen BK101.out 5; have hfz7_6 := blk_frozen BK101.out 6; have hfz7_7 := blk_frozen BK101.out 7))
    (try simp only [Act.put, List.setIfInBounds_toArray, List.set_cons_zero, List.set_cons_succ])
    go_cut [13] (fun v13 wc => ∃ (kq : Nat) (x13_4 : Bool), v13 = .bool x13_4 ∧ Aside0 (impl_CarpetOrder_canGoOn.j0 kq a0_4 x13_4 a0_0 a0_1 a0_2 a0_3 a0_4 a0_5 a0_6 a0_7 = some r) ∧ Aside0 (kq ≤ k) ∧ Aside0 (wc.heap[gb101]? = some (.cells #[.int .i64 a0_0, .string a0_1, .int .i64 a0_2, .int .i64 a0_3, .int .i64 a0_4, .int .i64 a0_5, .int .i64 a0_6, .int .i64 a0_7] 41 (0, 0))) ∧ Aside0 (Below w.heap.size w wc))
    case first =>
      have H := HC5.out
      clear HC5
      by_cases c8 : a0_4 = 1
      · rw [if_pos c8] at H
        have c8b0 : (a0_4 == 1) = true := beq_iff_eq.mpr c8
        have c8b1 : (a0_4 != 1) = false := bne_eq_false_iff_eq.mpr c8
        clear c8
        (first | rw [c8b0] | (simp only [i64_w, i32_w]; rw [c8b0]) | skip)
        have H' := Aside0.mk H
        clear H
        go_wp2
        go_meet
        case rel => exact ⟨_, ((a0_4 == 1)), (by first | rfl | (simp; done) | (simp [*]; done)), H', ⟨by first | omega | exact Nat.le_refl _⟩, ⟨by exact bS BK101.out⟩, ⟨by exact eS HB.out⟩⟩
      · rw [if_neg c8] at H
        have c8b0 : (a0_4 == 1) = false := beq_eq_false_iff_ne.mpr c8
        have c8b1 : (a0_4 != 1) = true := bne_iff_ne.mpr c8
        (first | rw [c8b0] | (simp only [i64_w, i32_w]; rw [c8b0]) | skip)
        have H' := Aside0.mk H
        clear H
        go_wp2
        go_meet
        case rel => exact ⟨_, ((a0_4 == 2)), (by first | rfl | (simp; done) | (simp [*]; done)), H', ⟨by first | omega | exact Nat.le_refl _⟩, ⟨by exact bS BK101.out⟩, ⟨by exact eS HB.out⟩⟩
    case rest =>
      clear HC5
      try clear c2
      try clear c2b0
      try clear c2b1
      try clear p2
      try clear p6
      try clear c8
      try clear c8b0
      try clear c8b1
      try clear hcz4_0
      try clear hcz4_1
      try clear hcz4_2
      try clear hcz4_3
      try clear hcz4_4
      try clear hcz4_5
      try clear hcz4_6
      try clear hcz4_7
      try clear hcz7_0
      try clear hcz7_1
      try clear hcz7_2
      try clear hcz7_3
      try clear hcz7_4
      try clear hcz7_5
      try clear hcz7_6
      try clear hcz7_7
      try clear hfz4_0
      try clear hfz4_1
      try clear hfz4_2
      try clear hfz4_3
      try clear hfz4_4
      try clear hfz4_5
      try clear hfz4_6
      try clear hfz4_7
      try clear hfz7_0
      try clear hfz7_1
      try clear hfz7_2
      try clear hfz7_3
      try clear hfz7_4
      try clear hfz7_5
      try clear hfz7_6
      try clear hfz7_7
      obtain ⟨kq, x13_4, rfl, HA, HJ4, BK101, HB⟩ := hcut
      cases kq with
      | zero => exact absurd HA.out (by simp [impl_CarpetOrder_canGoOn.j0])
      | succ kj4 =>
        have H := HA.out
        clear HA
        simp only [impl_CarpetOrder_canGoOn.j0] at H
        by_cases c9 : x13_4 = true
        · subst c9
          have H1 : (some true) = some r := by rw [if_pos rfl] at H; exact H
          clear H
          have H := H1
          clear H1
          obtain rfl := Option.some.inj H
          go_wp2
          go_ret
          exact ⟨by first | rfl | (simp [errW_none, errW_some] <;> rfl) | (simp [*, errW_none, errW_some] <;> rfl), by exact eS HB.out⟩
        · replace c9 := Bool.eq_false_iff.mpr c9
          subst c9
          have H1 : (if a0_4 = 3 then (some (a0_6 == a0_5)) else (some false)) = some r := by rw [if_neg (show ¬ (false = true) by decide)] at H; exact H
          clear H
          have H := H1
          clear H1
          by_cases c10 : a0_4 = 3
          · rw [if_pos c10] at H
            have c10b0 : (a0_4 == 3) = true := beq_iff_eq.mpr c10
            have c10b1 : (a0_4 != 3) = false := bne_eq_false_iff_eq.mpr c10
            clear c10
            obtain rfl := Option.some.inj H
            have hcz11_0 : wc.cell? ⟨gb101, 0, none⟩ = some (.int .i64 a0_0) := (blk_cell BK101.out 0).trans rfl
            have hcz11_1 : wc.cell? ⟨gb101, 1, none⟩ = some (.string a0_1) := (blk_cell BK101.out 1).trans rfl
            have hcz11_2 : wc.cell? ⟨gb101, 2, none⟩ = some (.int .i64 a0_2) := (blk_cell BK101.out 2).trans rfl
            have hcz11_3 : wc.cell? ⟨gb101, 3, none⟩ = some (.int .i64 a0_3) := (blk_cell BK101.out 3).trans rfl
            have hcz11_4 : wc.cell? ⟨gb101, 4, none⟩ = some (.int .i64 a0_4) := (blk_cell BK101.out 4).trans rfl
            have hcz11_5 : wc.cell? ⟨gb101, 5, none⟩ = some (.int .i64 a0_5) := (blk_cell BK101.out 5).trans rfl
            have hcz11_6 : wc.cell? ⟨gb101, 6, none⟩ = some (.int .i64 a0_6) := (blk_cell BK101.out 6).trans rfl
            have hcz11_7 : wc.cell? ⟨gb101, 7, none⟩ = some (.int .i64 a0_7) := (blk_cell BK101.out 7).trans rfl
            have hfz11_0 := blk_frozen BK101.out 0
            have hfz11_1 := blk_frozen BK101.out 1
            have hfz11_2 := blk_frozen BK101.out 2
            have hfz11_3 := blk_frozen BK101.out 3
            have hfz11_4 := blk_frozen BK101.out 4
            have hfz11_5 := blk_frozen BK101.out 5
            have hfz11_6 := blk_frozen BK101.out 6
            have hfz11_7 := blk_frozen BK101.out 7
            go_wp2
            go_ret
            exact ⟨by first | rfl | (simp [errW_none, errW_some] <;> rfl) | (simp [*, errW_none, errW_some] <;> rfl), by exact eS HB.out⟩
          · rw [if_neg c10] at H
            have c10b0 : (a0_4 == 3) = false := beq_eq_false_iff_ne.mpr c10
            have c10b1 : (a0_4 != 3) = true := bne_iff_ne.mpr c10
            obtain rfl := Option.some.inj H
            go_wp2
            go_ret
            exact ⟨by first | rfl | (simp [errW_none, errW_some] <;> rfl) | (simp [*, errW_none, errW_some] <;> rfl), by exact eS HB.out⟩

end Go.Proofs.YtahfahlbdgbfeaaDoor.X

-- XimplNextStageF44
namespace Go.Proofs.YtahfahlbdgbfeaaDoor.X
open Ho (bS eS)
open Go.RowKit Go.Proofs.YtahfahlbdgbfeaaDoorW.PrintWords Go.Proofs.YtahfahlbdgbfeaaDoorW.PrintLast Go.Proofs.YtahfahlbdgbfeaaDoorW.PrintMore
attribute [local go_sem] max2_int min2_int max_two min_two max_three min_three max_four min_four   -- for this text's walks alone
set_option linter.unusedVariables false
set_option linter.unusedSimpArgs false

attribute [local go_sem ↓] Ho.isSome_setCell_   -- a store leaves all places there
/-! ### impl_NextStage: function 44 -/
def impl_NextStage.f (k : Nat) (l0 : List (S41)) (a1 : Int) (a2 : Int) : Option ((List (S41)) × Bool) := (impl_findOrder.f k l0 a1).bind fun t101 => (if t101 < 0 then (some (([] : List (S41)), false)) else (if 0 ≤ t101 then (if t101 < (l0.length : Int) then ((impl_CarpetOrder_canGoOn.f k ((rd_T41 l0 t101).f0) ((rd_T41 l0 t101).f1) ((rd_T41 l0 t101).f2) ((rd_T41 l0 t101).f3) ((rd_T41 l0 t101).f4) ((rd_T41 l0 t101).f5) ((rd_T41 l0 t101).f6) ((rd_T41 l0 t101).f7)).bind fun t103 => (if t103 = true then (if a2 < ((rd_T41 l0 t101).f7) then (some (([] : List (S41)), false)) else ((impl_withOrder.f k l0 t101 ((rd_T41 l0 t101).f0) ((rd_T41 l0 t101).f1) ((rd_T41 l0 t101).f2) ((rd_T41 l0 t101).f3) (wrap64 (((rd_T41 l0 t101).f4) + 1)) ((rd_T41 l0 t101).f5) ((rd_T41 l0 t101).f6) a2).bind fun bt107 => (some (bt107.1, bt107.2)))) else (some (([] : List (S41)), false)))) else (none)) else (none)))
theorem impl_NextStage.mono : ∀ a0 a1 a2 k, LeO (impl_NextStage.f k a0 a1 a2) (impl_NextStage.f (k + 1) a0 a1 a2) := by
  intro a0 a1 a2 k
  unfold impl_NextStage.f
  repeat' first
      | (with_reducible exact impl_CarpetOrder_canGoOn.mono _ _ _ _ _ _ _ _ _)
      | (with_reducible exact impl_findOrder.mono _ _ _)
      | (with_reducible exact impl_withOrder.mono _ _ _ _ _ _ _ _ _ _ _)
      | (with_reducible exact LeO.refl _)
      | (with_reducible exact LeO.none _)
      | (with_reducible refine LeO.ite ?_ ?_)
      | (with_reducible refine LeO.bind ?_ (fun _ => ?_))
      | exact impl_CarpetOrder_canGoOn.mono _ _ _ _ _ _ _ _ _
      | exact impl_findOrder.mono _ _ _
      | exact impl_withOrder.mono _ _ _ _ _ _ _ _ _ _ _
      | exact LeO.none _
      | refine LeO.ite ?_ ?_
      | refine LeO.bind ?_ (fun _ => ?_)
set_option maxHeartbeats 8000000 in
set_option maxRecDepth 100000 in
theorem impl_NextStage.calls (k : Nat) (A0 : Option Addr) (c0 : Nat) (l0 : List (S41)) (a1 : Int) (a2 : Int) (r1 : List (S41)) (r2 : Bool) (w : World) (hr0 : Kd.C k41 w A0 l0.length l0) (hc0 : l0.length ≤ c0) (h : impl_NextStage.f k l0 a1 a2 = some (r1, r2)) :
    Calls Tryd.prog 44 #[.slice A0 l0.length c0, .int .i64 a1, .int .i64 a2] w fun e w' => ∃ v0_ : Value, e = .returned (.tuple #[v0_, .bool r2]) ∧ Kd.R k41 41 w' w.heap.size (fun _ => True) v0_ r1 ∧ Below w.heap.size w w' := by
  have hu41 := Tryd.underlying41
  have HR0 := Aside0.mk hr0
  have HC0 := Aside0.mk hc0
  clear hr0 hc0
  have HB := Aside0.mk (Below.refl w.heap.size w)
  have H : ((impl_findOrder.f k l0 a1).bind fun t101 => (if t101 < 0 then (some (([] : List (S41)), false)) else (if 0 ≤ t101 then (if t101 < (l0.length : Int) then ((impl_CarpetOrder_canGoOn.f k ((rd_T41 l0 t101).f0) ((rd_T41 l0 t101).f1) ((rd_T41 l0 t101).f2) ((rd_T41 l0 t101).f3) ((rd_T41 l0 t101).f4) ((rd_T41 l0 t101).f5) ((rd_T41 l0 t101).f6) ((rd_T41 l0 t101).f7)).bind fun t103 => (if t103 = true then (if a2 < ((rd_T41 l0 t101).f7) then (some (([] : List (S41)), false)) else ((impl_withOrder.f k l0 t101 ((rd_T41 l0 t101).f0) ((rd_T41 l0 t101).f1) ((rd_T41 l0 t101).f2) ((rd_T41 l0 t101).f3) (wrap64 (((rd_T41 l0 t101).f4) + 1)) ((rd_T41 l0 t101).f5) ((rd_T41 l0 t101).f6) a2).bind fun bt107 => (some (bt107.1, bt107.2)))) else (some (([] : List (S41)), false)))) else (none)) else (none)))) = some (r1, r2) := h
  clear h
  replace H := Option.bind_eq_some_iff.mp H
  obtain ⟨t101, A40, H⟩ := H
  replace H : (if t101 < 0 then (some (([] : List (S41)), false)) else (if 0 ≤ t101 then (if t101 < (l0.length : Int) then ((impl_CarpetOrder_canGoOn.f k ((rd_T41 l0 t101).f0) ((rd_T41 l0 t101).f1) ((rd_T41 l0 t101).f2) ((rd_T41 l0 t101).f3) ((rd_T41 l0 t101).f4) ((rd_T41 l0 t101).f5) ((rd_T41 l0 t101).f6) ((rd_T41 l0 t101).f7)).bind fun t103 => (if t103 = true then (if a2 < ((rd_T41 l0 t101).f7) then (some (([] : List (S41)), false)) else ((impl_withOrder.f k l0 t101 ((rd_T41 l0 t101).f0) ((rd_T41 l0 t101).f1) ((rd_T41 l0 t101).f2) ((rd_T41 l0 t101).f3) (wrap64 (((rd_T41 l0 t101).f4) + 1)) ((rd_T41 l0 t101).f5) ((rd_T41 l0 t101).f6) a2).bind fun bt107 => (some (bt107.1, bt107.2)))) else (some (([] : List (S41)), false)))) else (none)) else (none))) = some (r1, r2) := H
  have A4 := Aside0.mk A40
  clear A40
  by_cases c5 : t101 < 0
  · rw [if_pos c5] at H
    have c5b0 : decide (t101 < 0) = true := decide_eq_true c5
    clear c5
    simp only [Option.some.injEq, Prod.mk.injEq] at H
    obtain ⟨rfl, rfl⟩ := H
    go_enter Tryd.func44, Tryd.ntmps44
    go_wp2_with (first | ((with_reducible refine gate_callee (f := 84) rfl ?_); refine goesL_ (some 12) rfl rfl Tryd.func84 (by kernel_rfl) rfl #[.slice A0 l0.length c0, .int .i64 a1] rfl (by (try simp only [List.map_toArray, List.map_cons, List.map_nil]); first | done | rfl | (simp only [List.length_drop, List.length_take]; rfl)) ?_; (with_reducible refine (impl_findOrder.calls k _ _ l0 a1 t101 _ ?side1 ?side2 A4.out).mono ?_); (case side1 => repeat (first | exact HR0.out | (with_reducible refine Kd.C_alloc ?_ _) | (with_reducible refine Kd.C_drewN ?_ _) | (with_reducible refine Kd.C_drew ?_))); (case side2 => exact HC0.out); rintro e w6 ⟨rfl, hb⟩; refine ⟨_, rfl, ?_⟩; have n0_ := Aside0.mk (below_step (by exact eS HB.out) hb); clear HB; have HB := n0_; clear n0_; (try clear hb); (try clear hb2); (try clear hk); (try clear hi)))
    go_ret2
    exact ⟨_, by first | rfl | (simp [errW_none, errW_some] <;> rfl) | (simp [*, errW_none, errW_some] <;> rfl), by first | exact Kd.R_nil _ _ _ _ _ | exact Kd.N_nil _ _ _ _ _ | exact Kd.V_nil _ _ _ _ _ | exact Kd.Q_nil _ _ _ _ _ | exact Kd.S_nil _ _ _ _ _, by exact eS HB.out⟩
  · rw [if_neg c5] at H
    have c5b0 : decide (t101 < 0) = false := decide_eq_false c5
    clear c5
    by_cases c7 : 0 ≤ t101
    · rw [if_pos c7] at H
      have c7b0 : decide (0 ≤ t101) = true := decide_eq_true c7
      clear c7
      by_cases c8 : t101 < (l0.length : Int)
      · rw [if_pos c8] at H
        have c8b0 : decide (t101 < (l0.length : Int)) = true := decide_eq_true c8
        clear c8
        replace H := Option.bind_eq_some_iff.mp H
        obtain ⟨t103, A90, H⟩ := H
        replace H : (if t103 = true then (if a2 < ((rd_T41 l0 t101).f7) then (some (([] : List (S41)), false)) else ((impl_withOrder.f k l0 t101 ((rd_T41 l0 t101).f0) ((rd_T41 l0 t101).f1) ((rd_T41 l0 t101).f2) ((rd_T41 l0 t101).f3) (wrap64 (((rd_T41 l0 t101).f4) + 1)) ((rd_T41 l0 t101).f5) ((rd_T41 l0 t101).f6) a2).bind fun bt107 => (some (bt107.1, bt107.2)))) else (some (([] : List (S41)), false))) = some (r1, r2) := H
        have A9 := Aside0.mk A90
        clear A90
        by_cases c10 : t103 = true
        · subst c10
          have H1 : (if a2 < ((rd_T41 l0 t101).f7) then (some (([] : List (S41)), false)) else ((impl_withOrder.f k l0 t101 ((rd_T41 l0 t101).f0) ((rd_T41 l0 t101).f1) ((rd_T41 l0 t101).f2) ((rd_T41 l0 t101).f3) (wrap64 (((rd_T41 l0 t101).f4) + 1)) ((rd_T41 l0 t101).f5) ((rd_T41 l0 t101).f6) a2).bind fun bt107 => (some (bt107.1, bt107.2)))) = some (r1, r2) := by rw [if_pos rfl] at H; exact H
          clear H
          have H := H1
          clear H1
          by_cases c11 : a2 < ((rd_T41 l0 t101).f7)
          · rw [if_pos c11] at H
            have c11b0 : decide (a2 < ((rd_T41 l0 t101).f7)) = true := decide_eq_true c11
            clear c11
            simp only [Option.some.injEq, Prod.mk.injEq] at H
            obtain ⟨rfl, rfl⟩ := H
            go_enter Tryd.func44, Tryd.ntmps44
            go_wp2_with (first | ((with_reducible refine gate_callee (f := 84) rfl ?_); refine goesL_ (some 12) rfl rfl Tryd.func84 (by kernel_rfl) rfl #[.slice A0 l0.length c0, .int .i64 a1] rfl (by (try simp only [List.map_toArray, List.map_cons, List.map_nil]); first | done | rfl | (simp only [List.length_drop, List.length_take]; rfl)) ?_; (with_reducible refine (impl_findOrder.calls k _ _ l0 a1 t101 _ ?side1 ?side2 A4.out).mono ?_); (case side1 => repeat (first | exact HR0.out | (with_reducible refine Kd.C_alloc ?_ _) | (with_reducible refine Kd.C_drewN ?_ _) | (with_reducible refine Kd.C_drew ?_))); (case side2 => exact HC0.out); rintro e w12 ⟨rfl, hb⟩; refine ⟨_, rfl, ?_⟩; have n0_ := Aside0.mk (below_step (by exact eS HB.out) hb); clear HB; have HB := n0_; clear n0_; (try clear hb); (try clear hb2); (try clear hk); (try clear hi); have p102 : 0 ≤ (t101 : Int) := of_decide_eq_true (by first | (with_reducible assumption) | assumption); have q102 : t101 < (l0.length : Int) := of_decide_eq_true (by first | (with_reducible assumption) | assumption); obtain ⟨ad102, e102, hx102_0, hx102_1, hx102_2, hx102_3, hx102_4, hx102_5, hx102_6, hx102_7⟩ := at_T41 HR0.out t101 p102 q102; cases e102; replace hx102_0 := (HB.out.cell (World.block_lt_of_cell? w _ hx102_0)).trans hx102_0; replace hx102_1 := (HB.out.cell (World.block_lt_of_cell? w _ hx102_1)).trans hx102_1; replace hx102_2 := (HB.out.cell (World.block_lt_of_cell? w _ hx102_2)).trans hx102_2; replace hx102_3 := (HB.out.cell (World.block_lt_of_cell? w _ hx102_3)).trans hx102_3; replace hx102_4 := (HB.out.cell (World.block_lt_of_cell? w _ hx102_4)).trans hx102_4; replace hx102_5 := (HB.out.cell (World.block_lt_of_cell? w _ hx102_5)).trans hx102_5; replace hx102_6 := (HB.out.cell (World.block_lt_of_cell? w _ hx102_6)).trans hx102_6; replace hx102_7 := (HB.out.cell (World.block_lt_of_cell? w _ hx102_7)).trans hx102_7; replace p102 := eq_true p102; replace q102 := eq_true q102) | (go_at_call 87; (with_reducible refine (impl_CarpetOrder_canGoOn.calls k ((rd_T41 l0 t101).f0) ((rd_T41 l0 t101).f1) ((rd_T41 l0 t101).f2) ((rd_T41 l0 t101).f3) ((rd_T41 l0 t101).f4) ((rd_T41 l0 t101).f5) ((rd_T41 l0 t101).f6) ((rd_T41 l0 t101).f7) true _ A9.out).mono ?_); rintro e w13 ⟨rfl, hb⟩; have n0_ := Aside0.mk (below_step (by exact eS HB.out) hb); clear HB; have HB := n0_; clear n0_; (try clear hb); (try clear hb2); (try clear hk); (try clear hi); have p104 : 0 ≤ (t101 : Int) := of_decide_eq_true (by first | (with_reducible assumption) | assumption); have q104 : t101 < (l0.length : Int) := of_decide_eq_true (by first | (with_reducible assumption) | assumption); obtain ⟨ad104, e104, hx104_0, hx104_1, hx104_2, hx104_3, hx104_4, hx104_5, hx104_6, hx104_7⟩ := at_T41 HR0.out t101 p104 q104; obtain rfl : ad102 = ad104 := (by injection e104); replace hx104_0 := (HB.out.cell (World.block_lt_of_cell? w _ hx104_0)).trans hx104_0; replace hx104_1 := (HB.out.cell (World.block_lt_of_cell? w _ hx104_1)).trans hx104_1; replace hx104_2 := (HB.out.cell (World.block_lt_of_cell? w _ hx104_2)).trans hx104_2; replace hx104_3 := (HB.out.cell (World.block_lt_of_cell? w _ hx104_3)).trans hx104_3; replace hx104_4 := (HB.out.cell (World.block_lt_of_cell? w _ hx104_4)).trans hx104_4; replace hx104_5 := (HB.out.cell (World.block_lt_of_cell? w _ hx104_5)).trans hx104_5; replace hx104_6 := (HB.out.cell (World.block_lt_of_cell? w _ hx104_6)).trans hx104_6; replace hx104_7 := (HB.out.cell (World.block_lt_of_cell? w _ hx104_7)).trans hx104_7; replace p104 := eq_true p104; replace q104 := eq_true q104))
            go_ret2
            exact ⟨_, by first | rfl | (simp [errW_none, errW_some] <;> rfl) | (simp [*, errW_none, errW_some] <;> rfl), by first | exact Kd.R_nil _ _ _ _ _ | exact Kd.N_nil _ _ _ _ _ | exact Kd.V_nil _ _ _ _ _ | exact Kd.Q_nil _ _ _ _ _ | exact Kd.S_nil _ _ _ _ _, by exact eS HB.out⟩
          · rw [if_neg c11] at H
            have c11b0 : decide (a2 < ((rd_T41 l0 t101).f7)) = false := decide_eq_false c11
            clear c11
            replace H := Option.bind_eq_some_iff.mp H
            obtain ⟨⟨t107, t110⟩, A140, H⟩ := H
            replace H : (some (t107, t110)) = some (r1, r2) := H
            have A14 := Aside0.mk A140
            clear A140
            simp only [Option.some.injEq, Prod.mk.injEq] at H
            obtain ⟨rfl, rfl⟩ := H
            go_enter Tryd.func44, Tryd.ntmps44
            go_wp2_with (first | ((with_reducible refine gate_callee (f := 84) rfl ?_); refine goesL_ (some 12) rfl rfl Tryd.func84 (by kernel_rfl) rfl #[.slice A0 l0.length c0, .int .i64 a1] rfl (by (try simp only [List.map_toArray, List.map_cons, List.map_nil]); first | done | rfl | (simp only [List.length_drop, List.length_take]; rfl)) ?_; (with_reducible refine (impl_findOrder.calls k _ _ l0 a1 t101 _ ?side1 ?side2 A4.out).mono ?_); (case side1 => repeat (first | exact HR0.out | (with_reducible refine Kd.C_alloc ?_ _) | (with_reducible refine Kd.C_drewN ?_ _) | (with_reducible refine Kd.C_drew ?_))); (case side2 => exact HC0.out); rintro e w15 ⟨rfl, hb⟩; refine ⟨_, rfl, ?_⟩; have n0_ := Aside0.mk (below_step (by exact eS HB.out) hb); clear HB; have HB := n0_; clear n0_; (try clear hb); (try clear hb2); (try clear hk); (try clear hi); have p102 : 0 ≤ (t101 : Int) := of_decide_eq_true (by first | (with_reducible assumption) | assumption); have q102 : t101 < (l0.length : Int) := of_decide_eq_true (by first | (with_reducible assumption) | assumption); obtain ⟨ad102, e102, hx102_0, hx102_1, hx102_2, hx102_3, hx102_4, hx102_5, hx102_6, hx102_7⟩ := at_T41 HR0.out t101 p102 q102; cases e102; replace hx102_0 := (HB.out.cell (World.block_lt_of_cell? w _ hx102_0)).trans hx102_0; replace hx102_1 := (HB.out.cell (World.block_lt_of_cell? w _ hx102_1)).trans hx102_1; replace hx102_2 := (HB.out.cell (World.block_lt_of_cell? w _ hx102_2)).trans hx102_2; replace hx102_3 := (HB.out.cell (World.block_lt_of_cell? w _ hx102_3)).trans hx102_3; replace hx102_4 := (HB.out.cell (World.block_lt_of_cell? w _ hx102_4)).trans hx102_4; replace hx102_5 := (HB.out.cell (World.block_lt_of_cell? w _ hx102_5)).trans hx102_5; replace hx102_6 := (HB.out.cell (World.block_lt_of_cell? w _ hx102_6)).trans hx102_6; replace hx102_7 := (HB.out.cell (World.block_lt_of_cell? w _ hx102_7)).trans hx102_7; replace p102 := eq_true p102; replace q102 := eq_true q102) | (go_at_call 87; (with_reducible refine (impl_CarpetOrder_canGoOn.calls k ((rd_T41 l0 t101).f0) ((rd_T41 l0 t101).f1) ((rd_T41 l0 t101).f2) ((rd_T41 l0 t101).f3) ((rd_T41 l0 t101).f4) ((rd_T41 l0 t101).f5) ((rd_T41 l0 t101).f6) ((rd_T41 l0 t101).f7) true _ A9.out).mono ?_); rintro e w16 ⟨rfl, hb⟩; have n0_ := Aside0.mk (below_step (by exact eS HB.out) hb); clear HB; have HB := n0_; clear n0_; (try clear hb); (try clear hb2); (try clear hk); (try clear hi); have p104 : 0 ≤ (t101 : Int) := of_decide_eq_true (by first | (with_reducible assumption) | assumption); have q104 : t101 < (l0.length : Int) := of_decide_eq_true (by first | (with_reducible assumption) | assumption); obtain ⟨ad104, e104, hx104_0, hx104_1, hx104_2, hx104_3, hx104_4, hx104_5, hx104_6, hx104_7⟩ := at_T41 HR0.out t101 p104 q104; obtain rfl : ad102 = ad104 := (by injection e104); replace hx104_0 := (HB.out.cell (World.block_lt_of_cell? w _ hx104_0)).trans hx104_0; replace hx104_1 := (HB.out.cell (World.block_lt_of_cell? w _ hx104_1)).trans hx104_1; replace hx104_2 := (HB.out.cell (World.block_lt_of_cell? w _ hx104_2)).trans hx104_2; replace hx104_3 := (HB.out.cell (World.block_lt_of_cell? w _ hx104_3)).trans hx104_3; replace hx104_4 := (HB.out.cell (World.block_lt_of_cell? w _ hx104_4)).trans hx104_4; replace hx104_5 := (HB.out.cell (World.block_lt_of_cell? w _ hx104_5)).trans hx104_5; replace hx104_6 := (HB.out.cell (World.block_lt_of_cell? w _ hx104_6)).trans hx104_6; replace hx104_7 := (HB.out.cell (World.block_lt_of_cell? w _ hx104_7)).trans hx104_7; replace p104 := eq_true p104; replace q104 := eq_true q104; have p105 : 0 ≤ (t101 : Int) := of_decide_eq_true (by first | (with_reducible assumption) | assumption); have q105 : t101 < (l0.length : Int) := of_decide_eq_true (by first | (with_reducible assumption) | assumption); obtain ⟨ad105, e105, hx105_0, hx105_1, hx105_2, hx105_3, hx105_4, hx105_5, hx105_6, hx105_7⟩ := at_T41 HR0.out t101 p105 q105; obtain rfl : ad102 = ad105 := (by injection e105); replace hx105_0 := (HB.out.cell (World.block_lt_of_cell? w _ hx105_0)).trans hx105_0; replace hx105_1 := (HB.out.cell (World.block_lt_of_cell? w _ hx105_1)).trans hx105_1; replace hx105_2 := (HB.out.cell (World.block_lt_of_cell? w _ hx105_2)).trans hx105_2; replace hx105_3 := (HB.out.cell (World.block_lt_of_cell? w _ hx105_3)).trans hx105_3; replace hx105_4 := (HB.out.cell (World.block_lt_of_cell? w _ hx105_4)).trans hx105_4; replace hx105_5 := (HB.out.cell (World.block_lt_of_cell? w _ hx105_5)).trans hx105_5; replace hx105_6 := (HB.out.cell (World.block_lt_of_cell? w _ hx105_6)).trans hx105_6; replace hx105_7 := (HB.out.cell (World.block_lt_of_cell? w _ hx105_7)).trans hx105_7; replace p105 := eq_true p105; replace q105 := eq_true q105) | ((with_reducible refine gate_dst (N := 9) rfl ?_); refine box_event ?hg (N := 9) ?hd (cs := #[.int .i64 0, .string (⟨#[]⟩ : ByteArray), .int .i64 0, .int .i64 0, .int .i64 0, .int .i64 0, .int .i64 0, .int .i64 0]) (t := 41) ?hr ?_; (case hd => rfl); (case hg => rfl); (case hr => first | (go_simp; done) | (go_simp; rfl)); intro gb106 hg w17 hbox hb; have n0_ := Aside0.mk (below_step (by exact eS HB.out) hb); have n1_ := Aside0.mk (hbox); have n2_ := Aside0.mk ((by rw [hg]; exact (below_size (by exact eS HB.out)) : w.heap.size ≤ gb106)); have n3_ := Aside0.mk ((by rw [hg]; exact (below_size (by exact eS HB.out)) : w.heap.size ≤ gb106)); clear HB; have HB := n0_; have BK106 := n1_; have GW106 := n2_; have GE106 := n3_; clear n0_ n1_ n2_ n3_; clear hb hbox hg; have hcz18_0 : w17.cell? ⟨gb106, 0, none⟩ = some (.int .i64 0) := (blk_cell BK106.out 0).trans rfl; have hcz18_1 : w17.cell? ⟨gb106, 1, none⟩ = some (.string (⟨#[]⟩ : ByteArray)) := (blk_cell BK106.out 1).trans rfl; have hcz18_2 : w17.cell? ⟨gb106, 2, none⟩ = some (.int .i64 0) := (blk_cell BK106.out 2).trans rfl; have hcz18_3 : w17.cell? ⟨gb106, 3, none⟩ = some (.int .i64 0) := (blk_cell BK106.out 3).trans rfl; have hcz18_4 : w17.cell? ⟨gb106, 4, none⟩ = some (.int .i64 0) := (blk_cell BK106.out 4).trans rfl; have hcz18_5 : w17.cell? ⟨gb106, 5, none⟩ = some (.int .i64 0) := (blk_cell BK106.out 5).trans rfl; have hcz18_6 : w17.cell? ⟨gb106, 6, none⟩ = some (.int .i64 0) := (blk_cell BK106.out 6).trans rfl; have hcz18_7 : w17.cell? ⟨gb106, 7, none⟩ = some (.int .i64 0) := (blk_cell BK106.out 7).trans rfl; have hfz18_0 := blk_frozen BK106.out 0; have hfz18_1 := blk_frozen BK106.out 1; have hfz18_2 := blk_frozen BK106.out 2; have hfz18_3 := blk_frozen BK106.out 3; have hfz18_4 := blk_frozen BK106.out 4; have hfz18_5 := blk_frozen BK106.out 5; have hfz18_6 := blk_frozen BK106.out 6; have hfz18_7 := blk_frozen BK106.out 7) | ((with_reducible refine gate_callee (f := 85) rfl ?_); refine goesL_ (some 45) rfl rfl Tryd.func85 (by kernel_rfl) rfl #[.slice (some ad102) l0.length c0, .int .i64 t101, .agg #[.int .i64 ((rd_T41 l0 t101).f0), .string ((rd_T41 l0 t101).f1), .int .i64 ((rd_T41 l0 t101).f2), .int .i64 ((rd_T41 l0 t101).f3), .int .i64 (wrap64 (((rd_T41 l0 t101).f4) + 1)), .int .i64 ((rd_T41 l0 t101).f5), .int .i64 ((rd_T41 l0 t101).f6), .int .i64 a2]] rfl (by (try simp only [List.map_toArray, List.map_cons, List.map_nil]); first | done | rfl | (simp only [List.length_drop, List.length_take]; rfl)) ?_; (with_reducible refine (impl_withOrder.calls k _ _ l0 t101 ((rd_T41 l0 t101).f0) ((rd_T41 l0 t101).f1) ((rd_T41 l0 t101).f2) ((rd_T41 l0 t101).f3) (wrap64 (((rd_T41 l0 t101).f4) + 1)) ((rd_T41 l0 t101).f5) ((rd_T41 l0 t101).f6) a2 t107 t110 _ ?side1 ?side2 A14.out).mono ?_); (case side1 => exact Kd.C_below HR0.out (by repeat (first | (with_reducible first | exact HB.out | apply below_alloc | apply pw_below_drewN | apply below_drew1 | refine below_set ?_ GE106.out) | exact HB.out))); (case side2 => exact HC0.out); rintro e w19 ⟨v108, rfl, ho0, hb⟩; refine ⟨_, rfl, ?_⟩; have n0_ := Aside0.mk (Kd.R_lower (Kd.R_newB ho0 (g := gb106) (o := .cells #[.int .i64 ((rd_T41 l0 t101).f0), .string ((rd_T41 l0 t101).f1), .int .i64 ((rd_T41 l0 t101).f2), .int .i64 ((rd_T41 l0 t101).f3), .int .i64 (wrap64 (((rd_T41 l0 t101).f4) + 1)), .int .i64 ((rd_T41 l0 t101).f5), .int .i64 ((rd_T41 l0 t101).f6), .int .i64 a2] 41 (0, 0)) (by (with_reducible repeat (first | refine blk_drewN ?_ _ | refine blk_drew ?_ | refine blk_alloc ?_ _)); refine blk_put (cs := #[.int .i64 ((rd_T41 l0 t101).f0), .string ((rd_T41 l0 t101).f1), .int .i64 ((rd_T41 l0 t101).f2), .int .i64 ((rd_T41 l0 t101).f3), .int .i64 (wrap64 (((rd_T41 l0 t101).f4) + 1)), .int .i64 ((rd_T41 l0 t101).f5), .int .i64 ((rd_T41 l0 t101).f6), .int .i64 ((rd_T41 l0 t101).f7)]) ?_ 7 _ rfl; (with_reducible repeat (first | refine blk_drewN ?_ _ | refine blk_drew ?_ | refine blk_alloc ?_ _)); refine blk_put (cs := #[.int .i64 ((rd_T41 l0 t101).f0), .string ((rd_T41 l0 t101).f1), .int .i64 ((rd_T41 l0 t101).f2), .int .i64 ((rd_T41 l0 t101).f3), .int .i64 ((rd_T41 l0 t101).f4), .int .i64 ((rd_T41 l0 t101).f5), .int .i64 ((rd_T41 l0 t101).f6), .int .i64 ((rd_T41 l0 t101).f7)]) ?_ 4 _ rfl; (with_reducible repeat (first | refine blk_drewN ?_ _ | refine blk_drew ?_ | refine blk_alloc ?_ _)); refine blk_put (cs := #[.int .i64 ((rd_T41 l0 t101).f0), .string ((rd_T41 l0 t101).f1), .int .i64 ((rd_T41 l0 t101).f2), .int .i64 ((rd_T41 l0 t101).f3), .int .i64 ((rd_T41 l0 t101).f4), .int .i64 ((rd_T41 l0 t101).f5), .int .i64 ((rd_T41 l0 t101).f6), .int .i64 0]) ?_ 7 _ rfl; (with_reducible repeat (first | refine blk_drewN ?_ _ | refine blk_drew ?_ | refine blk_alloc ?_ _)); refine blk_put (cs := #[.int .i64 ((rd_T41 l0 t101).f0), .string ((rd_T41 l0 t101).f1), .int .i64 ((rd_T41 l0 t101).f2), .int .i64 ((rd_T41 l0 t101).f3), .int .i64 ((rd_T41 l0 t101).f4), .int .i64 ((rd_T41 l0 t101).f5), .int .i64 0, .int .i64 0]) ?_ 6 _ rfl; (with_reducible repeat (first | refine blk_drewN ?_ _ | refine blk_drew ?_ | refine blk_alloc ?_ _)); refine blk_put (cs := #[.int .i64 ((rd_T41 l0 t101).f0), .string ((rd_T41 l0 t101).f1), .int .i64 ((rd_T41 l0 t101).f2), .int .i64 ((rd_T41 l0 t101).f3), .int .i64 ((rd_T41 l0 t101).f4), .int .i64 0, .int .i64 0, .int .i64 0]) ?_ 5 _ rfl; (with_reducible repeat (first | refine blk_drewN ?_ _ | refine blk_drew ?_ | refine blk_alloc ?_ _)); refine blk_put (cs := #[.int .i64 ((rd_T41 l0 t101).f0), .string ((rd_T41 l0 t101).f1), .int .i64 ((rd_T41 l0 t101).f2), .int .i64 ((rd_T41 l0 t101).f3), .int .i64 0, .int .i64 0, .int .i64 0, .int .i64 0]) ?_ 4 _ rfl; (with_reducible repeat (first | refine blk_drewN ?_ _ | refine blk_drew ?_ | refine blk_alloc ?_ _)); refine blk_put (cs := #[.int .i64 ((rd_T41 l0 t101).f0), .string ((rd_T41 l0 t101).f1), .int .i64 ((rd_T41 l0 t101).f2), .int .i64 0, .int .i64 0, .int .i64 0, .int .i64 0, .int .i64 0]) ?_ 3 _ rfl; (with_reducible repeat (first | refine blk_drewN ?_ _ | refine blk_drew ?_ | refine blk_alloc ?_ _)); refine blk_put (cs := #[.int .i64 ((rd_T41 l0 t101).f0), .string ((rd_T41 l0 t101).f1), .int .i64 0, .int .i64 0, .int .i64 0, .int .i64 0, .int .i64 0, .int .i64 0]) ?_ 2 _ rfl; (with_reducible repeat (first | refine blk_drewN ?_ _ | refine blk_drew ?_ | refine blk_alloc ?_ _)); refine blk_put (cs := #[.int .i64 ((rd_T41 l0 t101).f0), .string (⟨#[]⟩ : ByteArray), .int .i64 0, .int .i64 0, .int .i64 0, .int .i64 0, .int .i64 0, .int .i64 0]) ?_ 1 _ rfl; (with_reducible repeat (first | refine blk_drewN ?_ _ | refine blk_drew ?_ | refine blk_alloc ?_ _)); refine blk_put (cs := #[.int .i64 0, .string (⟨#[]⟩ : ByteArray), .int .i64 0, .int .i64 0, .int .i64 0, .int .i64 0, .int .i64 0, .int .i64 0]) ?_ 0 _ rfl; exact bS BK106.out)) (below_size (by repeat (first | (with_reducible first | exact HB.out | apply below_alloc | apply pw_below_drewN | apply below_drew1 | refine below_set ?_ GE106.out) | exact HB.out)))); have n1_ := Aside0.mk (blk_below (g := gb106) (o := .cells #[.int .i64 ((rd_T41 l0 t101).f0), .string ((rd_T41 l0 t101).f1), .int .i64 ((rd_T41 l0 t101).f2), .int .i64 ((rd_T41 l0 t101).f3), .int .i64 (wrap64 (((rd_T41 l0 t101).f4) + 1)), .int .i64 ((rd_T41 l0 t101).f5), .int .i64 ((rd_T41 l0 t101).f6), .int .i64 a2] 41 (0, 0)) (by (with_reducible repeat (first | refine blk_drewN ?_ _ | refine blk_drew ?_ | refine blk_alloc ?_ _)); refine blk_put (cs := #[.int .i64 ((rd_T41 l0 t101).f0), .string ((rd_T41 l0 t101).f1), .int .i64 ((rd_T41 l0 t101).f2), .int .i64 ((rd_T41 l0 t101).f3), .int .i64 (wrap64 (((rd_T41 l0 t101).f4) + 1)), .int .i64 ((rd_T41 l0 t101).f5), .int .i64 ((rd_T41 l0 t101).f6), .int .i64 ((rd_T41 l0 t101).f7)]) ?_ 7 _ rfl; (with_reducible repeat (first | refine blk_drewN ?_ _ | refine blk_drew ?_ | refine blk_alloc ?_ _)); refine blk_put (cs := #[.int .i64 ((rd_T41 l0 t101).f0), .string ((rd_T41 l0 t101).f1), .int .i64 ((rd_T41 l0 t101).f2), .int .i64 ((rd_T41 l0 t101).f3), .int .i64 ((rd_T41 l0 t101).f4), .int .i64 ((rd_T41 l0 t101).f5), .int .i64 ((rd_T41 l0 t101).f6), .int .i64 ((rd_T41 l0 t101).f7)]) ?_ 4 _ rfl; (with_reducible repeat (first | refine blk_drewN ?_ _ | refine blk_drew ?_ | refine blk_alloc ?_ _)); refine blk_put (cs := #[.int .i64 ((rd_T41 l0 t101).f0), .string ((rd_T41 l0 t101).f1), .int .i64 ((rd_T41 l0 t101).f2), .int .i64 ((rd_T41 l0 t101).f3), .int .i64 ((rd_T41 l0 t101).f4), .int .i64 ((rd_T41 l0 t101).f5), .int .i64 ((rd_T41 l0 t101).f6), .int .i64 0]) ?_ 7 _ rfl; (with_reducible repeat (first | refine blk_drewN ?_ _ | refine blk_drew ?_ | refine blk_alloc ?_ _)); refine blk_put (cs := #[.int .i64 ((rd_T41 l0 t101).f0), .string ((rd_T41 l0 t101).f1), .int .i64 ((rd_T41 l0 t101).f2), .int .i64 ((rd_T41 l0 t101).f3), .int .i64 ((rd_T41 l0 t101).f4), .int .i64 ((rd_T41 l0 t101).f5), .int .i64 0, .int .i64 0]) ?_ 6 _ rfl; (with_reducible repeat (first | refine blk_drewN ?_ _ | refine blk_drew ?_ | refine blk_alloc ?_ _)); refine blk_put (cs := #[.int .i64 ((rd_T41 l0 t101).f0), .string ((rd_T41 l0 t101).f1), .int .i64 ((rd_T41 l0 t101).f2), .int .i64 ((rd_T41 l0 t101).f3), .int .i64 ((rd_T41 l0 t101).f4), .int .i64 0, .int .i64 0, .int .i64 0]) ?_ 5 _ rfl; (with_reducible repeat (first | refine blk_drewN ?_ _ | refine blk_drew ?_ | refine blk_alloc ?_ _)); refine blk_put (cs := #[.int .i64 ((rd_T41 l0 t101).f0), .string ((rd_T41 l0 t101).f1), .int .i64 ((rd_T41 l0 t101).f2), .int .i64 ((rd_T41 l0 t101).f3), .int .i64 0, .int .i64 0, .int .i64 0, .int .i64 0]) ?_ 4 _ rfl; (with_reducible repeat (first | refine blk_drewN ?_ _ | refine blk_drew ?_ | refine blk_alloc ?_ _)); refine blk_put (cs := #[.int .i64 ((rd_T41 l0 t101).f0), .string ((rd_T41 l0 t101).f1), .int .i64 ((rd_T41 l0 t101).f2), .int .i64 0, .int .i64 0, .int .i64 0, .int .i64 0, .int .i64 0]) ?_ 3 _ rfl; (with_reducible repeat (first | refine blk_drewN ?_ _ | refine blk_drew ?_ | refine blk_alloc ?_ _)); refine blk_put (cs := #[.int .i64 ((rd_T41 l0 t101).f0), .string ((rd_T41 l0 t101).f1), .int .i64 0, .int .i64 0, .int .i64 0, .int .i64 0, .int .i64 0, .int .i64 0]) ?_ 2 _ rfl; (with_reducible repeat (first | refine blk_drewN ?_ _ | refine blk_drew ?_ | refine blk_alloc ?_ _)); refine blk_put (cs := #[.int .i64 ((rd_T41 l0 t101).f0), .string (⟨#[]⟩ : ByteArray), .int .i64 0, .int .i64 0, .int .i64 0, .int .i64 0, .int .i64 0, .int .i64 0]) ?_ 1 _ rfl; (with_reducible repeat (first | refine blk_drewN ?_ _ | refine blk_drew ?_ | refine blk_alloc ?_ _)); refine blk_put (cs := #[.int .i64 0, .string (⟨#[]⟩ : ByteArray), .int .i64 0, .int .i64 0, .int .i64 0, .int .i64 0, .int .i64 0, .int .i64 0]) ?_ 0 _ rfl; exact bS BK106.out) hb); have n2_ := Aside0.mk (below_step (by repeat (first | (with_reducible first | exact HB.out | apply below_alloc | apply pw_below_drewN | apply below_drew1 | refine below_set ?_ GE106.out) | exact HB.out)) hb); clear BK106; clear HB; have HO109 := n0_; have BK106 := n1_; have HB := n2_; clear n0_ n1_ n2_; (try clear hb); (try clear hb2); (try clear hk); (try clear hi); (try clear ho0)))
            go_ret2
            exact ⟨_, by first | rfl | (simp [errW_none, errW_some] <;> rfl) | (simp [*, errW_none, errW_some] <;> rfl), by exact Ho.RS <| Kd.R_mono HO109.out (fun _ hk => trivial), by exact eS HB.out⟩
        · replace c10 := Bool.eq_false_iff.mpr c10
          subst c10
          have H1 : (some (([] : List (S41)), false)) = some (r1, r2) := by rw [if_neg (show ¬ (false = true) by decide)] at H; exact H
          clear H
          have H := H1
          clear H1
          simp only [Option.some.injEq, Prod.mk.injEq] at H
          obtain ⟨rfl, rfl⟩ := H
          go_enter Tryd.func44, Tryd.ntmps44
          go_wp2_with (first | ((with_reducible refine gate_callee (f := 84) rfl ?_); refine goesL_ (some 12) rfl rfl Tryd.func84 (by kernel_rfl) rfl #[.slice A0 l0.length c0, .int .i64 a1] rfl (by (try simp only [List.map_toArray, List.map_cons, List.map_nil]); first | done | rfl | (simp only [List.length_drop, List.length_take]; rfl)) ?_; (with_reducible refine (impl_findOrder.calls k _ _ l0 a1 t101 _ ?side1 ?side2 A4.out).mono ?_); (case side1 => repeat (first | exact HR0.out | (with_reducible refine Kd.C_alloc ?_ _) | (with_reducible refine Kd.C_drewN ?_ _) | (with_reducible refine Kd.C_drew ?_))); (case side2 => exact HC0.out); rintro e w20 ⟨rfl, hb⟩; refine ⟨_, rfl, ?_⟩; have n0_ := Aside0.mk (below_step (by exact eS HB.out) hb); clear HB; have HB := n0_; clear n0_; (try clear hb); (try clear hb2); (try clear hk); (try clear hi); have p102 : 0 ≤ (t101 : Int) := of_decide_eq_true (by first | (with_reducible assumption) | assumption); have q102 : t101 < (l0.length : Int) := of_decide_eq_true (by first | (with_reducible assumption) | assumption); obtain ⟨ad102, e102, hx102_0, hx102_1, hx102_2, hx102_3, hx102_4, hx102_5, hx102_6, hx102_7⟩ := at_T41 HR0.out t101 p102 q102; cases e102; replace hx102_0 := (HB.out.cell (World.block_lt_of_cell? w _ hx102_0)).trans hx102_0; replace hx102_1 := (HB.out.cell (World.block_lt_of_cell? w _ hx102_1)).trans hx102_1; replace hx102_2 := (HB.out.cell (World.block_lt_of_cell? w _ hx102_2)).trans hx102_2; replace hx102_3 := (HB.out.cell (World.block_lt_of_cell? w _ hx102_3)).trans hx102_3; replace hx102_4 := (HB.out.cell (World.block_lt_of_cell? w _ hx102_4)).trans hx102_4; replace hx102_5 := (HB.out.cell (World.block_lt_of_cell? w _ hx102_5)).trans hx102_5; replace hx102_6 := (HB.out.cell (World.block_lt_of_cell? w _ hx102_6)).trans hx102_6; replace hx102_7 := (HB.out.cell (World.block_lt_of_cell? w _ hx102_7)).trans hx102_7; replace p102 := eq_true p102; replace q102 := eq_true q102) | (go_at_call 87; (with_reducible refine (impl_CarpetOrder_canGoOn.calls k ((rd_T41 l0 t101).f0) ((rd_T41 l0 t101).f1) ((rd_T41 l0 t101).f2) ((rd_T41 l0 t101).f3) ((rd_T41 l0 t101).f4) ((rd_T41 l0 t101).f5) ((rd_T41 l0 t101).f6) ((rd_T41 l0 t101).f7) false _ A9.out).mono ?_); rintro e w21 ⟨rfl, hb⟩; have n0_ := Aside0.mk (below_step (by exact eS HB.out) hb); clear HB; have HB := n0_; clear n0_; (try clear hb); (try clear hb2); (try clear hk); (try clear hi)))
          go_ret2
          exact ⟨_, by first | rfl | (simp [errW_none, errW_some] <;> rfl) | (simp [*, errW_none, errW_some] <;> rfl), by first | exact Kd.R_nil _ _ _ _ _ | exact Kd.N_nil _ _ _ _ _ | exact Kd.V_nil _ _ _ _ _ | exact Kd.Q_nil _ _ _ _ _ | exact Kd.S_nil _ _ _ _ _, by exact eS HB.out⟩
      · rw [if_neg c8] at H
        exact absurd H (by simp)
    · rw [if_neg c7] at H
      exact absurd H (by simp)

end Go.Proofs.YtahfahlbdgbfeaaDoor.X

-- Xspecl17OpenF75
namespace Go.Proofs.YtahfahlbdgbfeaaDoor.X
open Ho (bS eS)
open Go.RowKit Go.Proofs.YtahfahlbdgbfeaaDoorW.PrintWords Go.Proofs.YtahfahlbdgbfeaaDoorW.PrintLast Go.Proofs.YtahfahlbdgbfeaaDoorW.PrintMore
attribute [local go_sem] max2_int min2_int max_two min_two max_three min_three max_four min_four   -- for this text's walks alone
set_option linter.unusedVariables false
set_option linter.unusedSimpArgs false

attribute [local go_sem ↓] Ho.isSome_setCell_   -- a store leaves all places there
/-! ### spec_l17Open: function 75 -/
def spec_l17Open.f (a0_0 : Int) (a0_1 : ByteArray) (a0_2 : Int) (a0_3 : Int) (a0_4 : Int) (a0_5 : Int) (a0_6 : Int) (a0_7 : Int) : Option (Bool) := some (decide (a0_4 ≤ 3))
set_option maxHeartbeats 8000000 in
set_option maxRecDepth 100000 in
theorem spec_l17Open.calls (a0_0 : Int) (a0_1 : ByteArray) (a0_2 : Int) (a0_3 : Int) (a0_4 : Int) (a0_5 : Int) (a0_6 : Int) (a0_7 : Int) (r : Bool) (w : World) (h : spec_l17Open.f a0_0 a0_1 a0_2 a0_3 a0_4 a0_5 a0_6 a0_7 = some r) :
    Calls Tryd.prog 75 #[.agg #[.int .i64 a0_0, .string a0_1, .int .i64 a0_2, .int .i64 a0_3, .int .i64 a0_4, .int .i64 a0_5, .int .i64 a0_6, .int .i64 a0_7]] w fun e w' => e = .returned (.bool r) ∧ Below w.heap.size w w' := by
  have hu41 := Tryd.underlying41
  have HB := Aside0.mk (Below.refl w.heap.size w)
  have H : (some (decide (a0_4 ≤ 3))) = some r := h
  clear h
  obtain rfl := Option.some.inj H
  go_enter Tryd.func75, Tryd.ntmps75
  go_wp2_with (first | ((with_reducible refine gate_dst (N := 1) rfl ?_); refine box_event ?hg (N := 1) ?hd (cs := #[.int .i64 a0_0, .string a0_1, .int .i64 a0_2, .int .i64 a0_3, .int .i64 a0_4, .int .i64 a0_5, .int .i64 a0_6, .int .i64 a0_7]) (t := 41) ?hr ?_; (case hd => rfl); (case hg => rfl); (case hr => first | (go_simp; done) | (go_simp; rfl)); intro gb101 hg w2 hbox hb; have n0_ := Aside0.mk (below_step (by exact eS HB.out) hb); have n1_ := Aside0.mk (hbox); have n2_ := Aside0.mk ((by rw [hg]; exact (below_size (by exact eS HB.out)) : w.heap.size ≤ gb101)); have n3_ := Aside0.mk ((by rw [hg]; exact (below_size (by exact eS HB.out)) : w.heap.size ≤ gb101)); clear HB; have HB := n0_; have BK101 := n1_; have GW101 := n2_; have GE101 := n3_; clear n0_ n1_ n2_ n3_; clear hb hbox hg; have hcz3_0 : w2.cell? ⟨gb101, 0, none⟩ = some (.int .i64 a0_0) := (blk_cell BK101.out 0).trans rfl; have hcz3_1 : w2.cell? ⟨gb101, 1, none⟩ = some (.string a0_1) := (blk_cell BK101.out 1).trans rfl; have hcz3_2 : w2.cell? ⟨gb101, 2, none⟩ = some (.int .i64 a0_2) := (blk_cell BK101.out 2).trans rfl; have hcz3_3 : w2.cell? ⟨gb101, 3, none⟩ = some (.int .i64 a0_3) := (blk_cell BK101.out 3).trans rfl; have hcz3_4 : w2.cell? ⟨gb101, 4, none⟩ = some (.int .i64 a0_4) := (blk_cell BK101.out 4).trans rfl; have hcz3_5 : w2.cell? ⟨gb101, 5, none⟩ = some (.int .i64 a0_5) := (blk_cell BK101.out 5).trans rfl; have hcz3_6 : w2.cell? ⟨gb101, 6, none⟩ = some (.int .i64 a0_6) := (blk_cell BK101.out 6).trans rfl; have hcz3_7 : w2.cell? ⟨gb101, 7, none⟩ = some (.int .i64 a0_7) := (blk_cell BK101.out 7).trans rfl; have hfz3_0 := blk_frozen BK101.out 0; have hfz3_1 := blk_frozen BK101.out 1; have hfz3_2 := blk_frozen BK101.out 2; have hfz3_3 := blk_frozen BK101.out 3; have hfz3_4 := blk_frozen BK101.out 4; have hfz3_5 := blk_frozen BK101.out 5; have hfz3_6 := blk_frozen BK101.out 6; have hfz3_7 := blk_frozen BK101.out 7))
  go_ret
  exact ⟨by first | rfl | (simp [errW_none, errW_some] <;> rfl) | (simp [*, errW_none, errW_some] <;> rfl), by exact eS HB.out⟩

end Go.Proofs.YtahfahlbdgbfeaaDoor.X

-- XspecNextStageF43
namespace Go.Proofs.YtahfahlbdgbfeaaDoor.X
open Ho (bS eS)
open Go.RowKit Go.Proofs.YtahfahlbdgbfeaaDoorW.PrintWords Go.Proofs.YtahfahlbdgbfeaaDoorW.PrintLast Go.Proofs.YtahfahlbdgbfeaaDoorW.PrintMore
attribute [local go_sem] max2_int min2_int max_two min_two max_three min_three max_four min_four   -- for this text's walks alone
set_option linter.unusedVariables false
set_option linter.unusedSimpArgs false

attribute [local go_sem ↓] Ho.isSome_setCell_   -- a store leaves all places there
/-! ### spec_NextStage: function 43 -/
def spec_NextStage.j0 : Nat → List (S41) → Int → Int → Bool → Option ((List (S41)) × Bool)
  | 0, _, _, _, _ => none
  | k + 1, x0, x2, x8, x33 => if x33 = true then (some ((([] : List (S41))), false)) else (if 0 ≤ x8 then (if x8 < (x0.length : Int) then (if ((rd_T41 x0 x8).f4) = 0 then (if (wrap64 (3 * ((rd_T41 x0 x8).f6))) < ((rd_T41 x0 x8).f5) then (some ((([] : List (S41))), false)) else (if ((rd_T41 x0 x8).f4) = 3 then (if ((rd_T41 x0 x8).f6) < ((rd_T41 x0 x8).f5) then (some ((([] : List (S41))), false)) else ((spec_l17With.f k x0 x8 ((rd_T41 x0 x8).f0) ((rd_T41 x0 x8).f1) ((rd_T41 x0 x8).f2) ((rd_T41 x0 x8).f3) (wrap64 (((rd_T41 x0 x8).f4) + 1)) ((rd_T41 x0 x8).f5) ((rd_T41 x0 x8).f6) x2).bind fun bt116 => (some (bt116.1, bt116.2)))) else ((spec_l17With.f k x0 x8 ((rd_T41 x0 x8).f0) ((rd_T41 x0 x8).f1) ((rd_T41 x0 x8).f2) ((rd_T41 x0 x8).f3) (wrap64 (((rd_T41 x0 x8).f4) + 1)) ((rd_T41 x0 x8).f5) ((rd_T41 x0 x8).f6) x2).bind fun bt120 => (some (bt120.1, bt120.2))))) else (if ((rd_T41 x0 x8).f4) = 3 then (if ((rd_T41 x0 x8).f6) < ((rd_T41 x0 x8).f5) then (some ((([] : List (S41))), false)) else ((spec_l17With.f k x0 x8 ((rd_T41 x0 x8).f0) ((rd_T41 x0 x8).f1) ((rd_T41 x0 x8).f2) ((rd_T41 x0 x8).f3) (wrap64 (((rd_T41 x0 x8).f4) + 1)) ((rd_T41 x0 x8).f5) ((rd_T41 x0 x8).f6) x2).bind fun bt127 => (some (bt127.1, bt127.2)))) else ((spec_l17With.f k x0 x8 ((rd_T41 x0 x8).f0) ((rd_T41 x0 x8).f1) ((rd_T41 x0 x8).f2) ((rd_T41 x0 x8).f3) (wrap64 (((rd_T41 x0 x8).f4) + 1)) ((rd_T41 x0 x8).f5) ((rd_T41 x0 x8).f6) x2).bind fun bt131 => (some (bt131.1, bt131.2))))) else (none)) else (none))
def spec_NextStage.f (k : Nat) (l0 : List (S41)) (a1 : Int) (a2 : Int) : Option ((List (S41)) × Bool) := (spec_l17Find.f k l0 a1).bind fun t101 => (if t101 < 0 then (spec_NextStage.j0 k l0 a2 t101 true) else (if 0 ≤ t101 then (if t101 < (l0.length : Int) then ((spec_l17Open.f ((rd_T41 l0 t101).f0) ((rd_T41 l0 t101).f1) ((rd_T41 l0 t101).f2) ((rd_T41 l0 t101).f3) ((rd_T41 l0 t101).f4) ((rd_T41 l0 t101).f5) ((rd_T41 l0 t101).f6) ((rd_T41 l0 t101).f7)).bind fun t103 => (if t103 = true then (spec_NextStage.j0 k l0 a2 t101 (decide (a2 < ((rd_T41 l0 t101).f7)))) else (spec_NextStage.j0 k l0 a2 t101 true))) else (none)) else (none)))
theorem spec_NextStage.mono_l : ∀ k, (∀ y0 y1 y2 y3, LeO (spec_NextStage.j0 k y0 y1 y2 y3) (spec_NextStage.j0 (k + 1) y0 y1 y2 y3))
  | 0 => fun _ _ _ _ r h => by simp [spec_NextStage.j0] at h
  | k + 1 => by
    have ih0 := spec_NextStage.mono_l k
    · intro y0 y1 y2 y3
      unfold spec_NextStage.j0
      repeat' first
      | (with_reducible exact ih0 _ _ _ _)
      | (with_reducible exact spec_l17Find.mono _ _ _)
      | (with_reducible exact spec_l17With.mono _ _ _ _ _ _ _ _ _ _ _)
      | (with_reducible exact LeO.refl _)
      | (with_reducible exact LeO.none _)
      | (with_reducible refine LeO.ite ?_ ?_)
      | (with_reducible refine LeO.bind ?_ (fun _ => ?_))
      | exact ih0 _ _ _ _
      | exact spec_l17Find.mono _ _ _
      | exact spec_l17With.mono _ _ _ _ _ _ _ _ _ _ _
      | exact LeO.none _
      | refine LeO.ite ?_ ?_
      | refine LeO.bind ?_ (fun _ => ?_)
theorem spec_NextStage.mono : ∀ a0 a1 a2 k, LeO (spec_NextStage.f k a0 a1 a2) (spec_NextStage.f (k + 1) a0 a1 a2) := by
  intro a0 a1 a2 k
  have ih0 := spec_NextStage.mono_l k
  unfold spec_NextStage.f
  repeat' first
      | (with_reducible exact ih0 _ _ _ _)
      | (with_reducible exact spec_l17Find.mono _ _ _)
      | (with_reducible exact spec_l17With.mono _ _ _ _ _ _ _ _ _ _ _)
      | (with_reducible exact LeO.refl _)
      | (with_reducible exact LeO.none _)
      | (with_reducible refine LeO.ite ?_ ?_)
      | (with_reducible refine LeO.bind ?_ (fun _ => ?_))
      | exact ih0 _ _ _ _
      | exact spec_l17Find.mono _ _ _
      | exact spec_l17With.mono _ _ _ _ _ _ _ _ _ _ _
      | exact LeO.none _
      | refine LeO.ite ?_ ?_
      | refine LeO.bind ?_ (fun _ => ?_)
set_option maxHeartbeats 8000000 in
set_option maxRecDepth 100000 in
theorem spec_NextStage.calls (k : Nat) (A0 : Option Addr) (c0 : Nat) (l0 : List (S41)) (a1 : Int) (a2 : Int) (r1 : List (S41)) (r2 : Bool) (w : World) (hr0 : Kd.C k41 w A0 l0.length l0) (hc0 : l0.length ≤ c0) (h : spec_NextStage.f k l0 a1 a2 = some (r1, r2)) :
  Calls Tryd.prog 43 #[.slice A0 l0.length c0, .int .i64 a1, .int .i64 a2] w fun e w' => ∃ v0_ : Value, e = .returned (.tuple #[v0_, .bool r2]) ∧ Kd.R k41 41 w' w.heap.size (fun _ => True) v0_ r1 ∧ Below w.heap.size w w' := by
 have hu41 := Tryd.underlying41
 have HR0 := Aside0.mk hr0
 have HC0 := Aside0.mk hc0
 clear hr0 hc0
 have HB := Aside0.mk (Below.refl w.heap.size w)
 have H : ((spec_l17Find.f k l0 a1).bind fun t101 => (if t101 < 0 then (spec_NextStage.j0 k l0 a2 t101 true) else (if 0 ≤ t101 then (if t101 < (l0.length : Int) then ((spec_l17Open.f ((rd_T41 l0 t101).f0) ((rd_T41 l0 t101).f1) ((rd_T41 l0 t101).f2) ((rd_T41 l0 t101).f3) ((rd_T41 l0 t101).f4) ((rd_T41 l0 t101).f5) ((rd_T41 l0 t101).f6) ((rd_T41 l0 t101).f7)).bind fun t103 => (if t103 = true then (spec_NextStage.j0 k l0 a2 t101 (decide (a2 < ((rd_T41 l0 t101).f7)))) else (spec_NextStage.j0 k l0 a2 t101 true))) else (none)) else (none)))) = some (r1, r2) := h
 clear h
 replace H := Option.bind_eq_some_iff.mp H
 obtain ⟨t101, A40, H⟩ := H
 replace H : (if t101 < 0 then (spec_NextStage.j0 k l0 a2 t101 true) else (if 0 ≤ t101 then (if t101 < (l0.length : Int) then ((spec_l17Open.f ((rd_T41 l0 t101).f0) ((rd_T41 l0 t101).f1) ((rd_T41 l0 t101).f2) ((rd_T41 l0 t101).f3) ((rd_T41 l0 t101).f4) ((rd_T41 l0 t101).f5) ((rd_T41 l0 t101).f6) ((rd_T41 l0 t101).f7)).bind fun t103 => (if t103 = true then (spec_NextStage.j0 k l0 a2 t101 (decide (a2 < ((rd_T41 l0 t101).f7)))) else (spec_NextStage.j0 k l0 a2 t101 true))) else (none)) else (none))) = some (r1, r2) := H
 have A4 := Aside0.mk A40
 clear A40
 have HC5 := Aside0.mk H
 clear H
 go_enter Tryd.func43, Tryd.ntmps43
 go_upto_region 2 with (first | ((with_reducible refine gate_callee (f := 81) rfl ?_); refine goesL_ (some 14) rfl rfl Tryd.func81 (by kernel_rfl) rfl #[.slice A0 l0.length c0, .int .i64 a1] rfl (by (try simp only [List.map_toArray, List.map_cons, List.map_nil]); first | done | rfl | (simp only [List.length_drop, List.length_take]; rfl)) ?_; (with_reducible refine (spec_l17Find.calls k _ _ l0 a1 t101 _ ?side1 ?side2 A4.out).mono ?_); (case side1 => repeat (first | exact HR0.out | (with_reducible refine Kd.C_alloc ?_ _) | (with_reducible refine Kd.C_drewN ?_ _) | (with_reducible refine Kd.C_drew ?_))); (case side2 => exact HC0.out); rintro e w6 ⟨rfl, hb⟩; refine ⟨_, rfl, ?_⟩; have n0_ := Aside0.mk (below_step (by exact eS HB.out) hb); clear HB; have HB := n0_; clear n0_; (try clear hb); (try clear hb2); (try clear hk); (try clear hi)))
 (try simp only [Act.put, List.setIfInBounds_toArray, List.set_cons_zero, List.set_cons_succ])
 go_cut [33] (fun v33 wc => ∃ (kq : Nat) (x33_4 : Bool), v33 = .bool x33_4 ∧ Aside0 (spec_NextStage.j0 kq l0 a2 t101 x33_4 = some (r1, r2)) ∧ Aside0 (kq ≤ k) ∧ Aside0 (Below w.heap.size w wc))
 case first =>
  have H := HC5.out
  clear HC5
  by_cases c7 : t101 < 0
  ·rw [if_pos c7] at H
   have c7b0 : decide (t101 < 0) = true := decide_eq_true c7
   clear c7
   (first | rw [c7b0] | (simp only [i64_w, i32_w]; rw [c7b0]) | skip)
   have H' := Aside0.mk H
   clear H
   go_wp2
   go_meet
   case rel => exact ⟨_, (true), (by first | rfl | (simp; done) | (simp [*]; done)), H', ⟨by first | omega | exact Nat.le_refl _⟩, ⟨by exact eS HB.out⟩⟩
  ·rw [if_neg c7] at H
   have c7b0 : decide (t101 < 0) = false := decide_eq_false c7
   clear c7
   (first | rw [c7b0] | (simp only [i64_w, i32_w]; rw [c7b0]) | skip)
   by_cases c8 : 0 ≤ t101
   ·rw [if_pos c8] at H
    have c8b0 : decide (0 ≤ t101) = true := decide_eq_true c8
    clear c8
    by_cases c9 : t101 < (l0.length : Int)
    ·rw [if_pos c9] at H
     have c9b0 : decide (t101 < (l0.length : Int)) = true := decide_eq_true c9
     clear c9
     replace H := Option.bind_eq_some_iff.mp H
     obtain ⟨t103, A100, H⟩ := H
     replace H : (if t103 = true then (spec_NextStage.j0 k l0 a2 t101 (decide (a2 < ((rd_T41 l0 t101).f7)))) else (spec_NextStage.j0 k l0 a2 t101 true)) = some (r1, r2) := H
     have A10 := Aside0.mk A100
     clear A100
     by_cases c11 : t103 = true
     ·subst c11
      have H1 : (spec_NextStage.j0 k l0 a2 t101 (decide (a2 < ((rd_T41 l0 t101).f7)))) = some (r1, r2) := by rw [if_pos rfl] at H; exact H
      clear H
      have H := H1
      clear H1
      have H' := Aside0.mk H
      clear H
      have p102 : 0 ≤ (t101 : Int) := of_decide_eq_true (by first | (with_reducible assumption) | assumption)
      have q102 : t101 < (l0.length : Int) := of_decide_eq_true (by first | (with_reducible assumption) | assumption)
      obtain ⟨ad102, e102, hx102_0, hx102_1, hx102_2, hx102_3, hx102_4, hx102_5, hx102_6, hx102_7⟩ := at_T41 HR0.out t101 p102 q102
      cases e102
      replace hx102_0 := (HB.out.cell (World.block_lt_of_cell? w _ hx102_0)).trans hx102_0
      replace hx102_1 := (HB.out.cell (World.block_lt_of_cell? w _ hx102_1)).trans hx102_1
      replace hx102_2 := (HB.out.cell (World.block_lt_of_cell? w _ hx102_2)).trans hx102_2
      replace hx102_3 := (HB.out.cell (World.block_lt_of_cell? w _ hx102_3)).trans hx102_3
      replace hx102_4 := (HB.out.cell (World.block_lt_of_cell? w _ hx102_4)).trans hx102_4
      replace hx102_5 := (HB.out.cell (World.block_lt_of_cell? w _ hx102_5)).trans hx102_5
      replace hx102_6 := (HB.out.cell (World.block_lt_of_cell? w _ hx102_6)).trans hx102_6
      replace hx102_7 := (HB.out.cell (World.block_lt_of_cell? w _ hx102_7)).trans hx102_7
      replace p102 := eq_true p102
      replace q102 := eq_true q102
      go_wp2_with (first | (go_at_call 75; (with_reducible refine (spec_l17Open.calls ((rd_T41 l0 t101).f0) ((rd_T41 l0 t101).f1) ((rd_T41 l0 t101).f2) ((rd_T41 l0 t101).f3) ((rd_T41 l0 t101).f4) ((rd_T41 l0 t101).f5) ((rd_T41 l0 t101).f6) ((rd_T41 l0 t101).f7) true _ A10.out).mono ?_); rintro e w12 ⟨rfl, hb⟩; have n0_ := Aside0.mk (below_step (by exact eS HB.out) hb); clear HB; have HB := n0_; clear n0_; (try clear hb); (try clear hb2); (try clear hk); (try clear hi); have p104 : 0 ≤ (t101 : Int) := of_decide_eq_true (by first | (with_reducible assumption) | assumption); have q104 : t101 < (l0.length : Int) := of_decide_eq_true (by first | (with_reducible assumption) | assumption); obtain ⟨ad104, e104, hx104_0, hx104_1, hx104_2, hx104_3, hx104_4, hx104_5, hx104_6, hx104_7⟩ := at_T41 HR0.out t101 p104 q104; obtain rfl : ad102 = ad104 := (by injection e104); replace hx104_0 := (HB.out.cell (World.block_lt_of_cell? w _ hx104_0)).trans hx104_0; replace hx104_1 := (HB.out.cell (World.block_lt_of_cell? w _ hx104_1)).trans hx104_1; replace hx104_2 := (HB.out.cell (World.block_lt_of_cell? w _ hx104_2)).trans hx104_2; replace hx104_3 := (HB.out.cell (World.block_lt_of_cell? w _ hx104_3)).trans hx104_3; replace hx104_4 := (HB.out.cell (World.block_lt_of_cell? w _ hx104_4)).trans hx104_4; replace hx104_5 := (HB.out.cell (World.block_lt_of_cell? w _ hx104_5)).trans hx104_5; replace hx104_6 := (HB.out.cell (World.block_lt_of_cell? w _ hx104_6)).trans hx104_6; replace hx104_7 := (HB.out.cell (World.block_lt_of_cell? w _ hx104_7)).trans hx104_7; replace p104 := eq_true p104; replace q104 := eq_true q104))
      go_meet
      case rel => exact ⟨_, (decide (a2 < ((rd_T41 l0 t101).f7))), (by first | rfl | (simp; done) | (simp [*]; done)), H', ⟨by first | omega | exact Nat.le_refl _⟩, ⟨by exact eS HB.out⟩⟩
     ·replace c11 := Bool.eq_false_iff.mpr c11
      subst c11
      have H1 : (spec_NextStage.j0 k l0 a2 t101 true) = some (r1, r2) := by rw [if_neg (show ¬ (false = true) by decide)] at H; exact H
      clear H
      have H := H1
      clear H1
      have H' := Aside0.mk H
      clear H
      have p102 : 0 ≤ (t101 : Int) := of_decide_eq_true (by first | (with_reducible assumption) | assumption)
      have q102 : t101 < (l0.length : Int) := of_decide_eq_true (by first | (with_reducible assumption) | assumption)
      obtain ⟨ad102, e102, hx102_0, hx102_1, hx102_2, hx102_3, hx102_4, hx102_5, hx102_6, hx102_7⟩ := at_T41 HR0.out t101 p102 q102
      cases e102
      replace hx102_0 := (HB.out.cell (World.block_lt_of_cell? w _ hx102_0)).trans hx102_0
      replace hx102_1 := (HB.out.cell (World.block_lt_of_cell? w _ hx102_1)).trans hx102_1
      replace hx102_2 := (HB.out.cell (World.block_lt_of_cell? w _ hx102_2)).trans hx102_2
      replace hx102_3 := (HB.out.cell (World.block_lt_of_cell? w _ hx102_3)).trans hx102_3
      replace hx102_4 := (HB.out.cell (World.block_lt_of_cell? w _ hx102_4)).trans hx102_4
      replace hx102_5 := (HB.out.cell (World.block_lt_of_cell? w _ hx102_5)).trans hx102_5
      replace hx102_6 := (HB.out.cell (World.block_lt_of_cell? w _ hx102_6)).trans hx102_6
      replace hx102_7 := (HB.out.cell (World.block_lt_of_cell? w _ hx102_7)).trans hx102_7
      replace p102 := eq_true p102
      replace q102 := eq_true q102
      go_wp2_with (first | (go_at_call 75; (with_reducible refine (spec_l17Open.calls ((rd_T41 l0 t101).f0) ((rd_T41 l0 t101).f1) ((rd_T41 l0 t101).f2) ((rd_T41 l0 t101).f3) ((rd_T41 l0 t101).f4) ((rd_T41 l0 t101).f5) ((rd_T41 l0 t101).f6) ((rd_T41 l0 t101).f7) false _ A10.out).mono ?_); rintro e w13 ⟨rfl, hb⟩; have n0_ := Aside0.mk (below_step (by exact eS HB.out) hb); clear HB; have HB := n0_; clear n0_; (try clear hb); (try clear hb2); (try clear hk); (try clear hi)))
      go_meet
      case rel => exact ⟨_, (true), (by first | rfl | (simp; done) | (simp [*]; done)), H', ⟨by first | omega | exact Nat.le_refl _⟩, ⟨by exact eS HB.out⟩⟩
    ·rw [if_neg c9] at H
     exact absurd H (by simp)
   ·rw [if_neg c8] at H
    exact absurd H (by simp)
 case rest =>
  clear HC5
  try clear c1
  try clear p1
  try clear q1
  try clear hx1
  try clear p2
  try clear c4
  try clear c7
  try clear c7b0
  try clear c8
  try clear c8b0
  try clear c9
  try clear c9b0
  try clear p10
  try clear q10
  try clear hx10
  try clear c11
  try clear hx102_0
  try clear hx102_1
  try clear hx102_2
  try clear hx102_3
  try clear hx102_4
  try clear hx102_5
  try clear hx102_6
  try clear hx102_7
  try clear hx104_0
  try clear hx104_1
  try clear hx104_2
  try clear hx104_3
  try clear hx104_4
  try clear hx104_5
  try clear hx104_6
  try clear hx104_7
  try clear p102
  try clear p104
  try clear q102
  try clear q104
  obtain ⟨kq, x33_4, rfl, HA, HJ4, HB⟩ := hcut
  cases kq with
  | zero => exact absurd HA.out (by simp [spec_NextStage.j0])
  | succ kj4 =>
   have H := HA.out
   clear HA
   simp only [spec_NextStage.j0] at H
   by_cases c14 : x33_4 = true
   ·subst c14
    have H1 : (some ((([] : List (S41))), false)) = some (r1, r2) := by rw [if_pos rfl] at H; exact H
    clear H
    have H := H1
    clear H1
    obtain ⟨y105, hy105⟩ : ∃ y_ : List (S41), y_ = (([] : List (S41))) := ⟨_, rfl⟩
    replace H : (some (y105, false)) = some (r1, r2) := by first | (rw [hy105]; with_reducible exact H) | (have H2_ := (Option.bind_some _ _).symm.trans H; rw [hy105]; with_reducible exact H2_) | (have H2_ := (Option.bind_some _ _).symm.trans H; with_reducible exact H2_) | with_reducible exact H | (rw [hy105]; exact H) | exact H
    have Ny105 := Aside0.mk hy105
    clear hy105
    simp only [Option.some.injEq, Prod.mk.injEq] at H
    obtain ⟨rfl, rfl⟩ := H
    go_wp2_with (first | ((with_reducible refine gate_dst (N := 34) rfl ?_); refine Kd.R_lit k41 _ 41 ?hg (N := 34) ?hd (xs := ([] : List (S41))) (inner := []) (ok := fun _ => True) (okp := fun _ => True) ?hr ?hp (fun _ hk => hk) trivial (Below.refl _ _) (Nat.le_refl _) (by simp) ?_; (case hd => rfl); (case hg => rfl); (case hr => first | (go_simp; done) | (go_simp; rfl)); (case hp => exact (Reps.none _ _)); intro v106 w15 ho16 hb hg_ hnew_; clear hg_ hnew_; (first | rw [← Ny105.out] at ho16 | (simp only [Int.reduceToNat] at ho16; rw [← Ny105.out] at ho16)); have n0_ := Aside0.mk (Kd.R_lower ho16 (below_size (by exact eS HB.out))); have n1_ := Aside0.mk (below_step (by exact eS HB.out) hb); clear HB; have HO107 := n0_; have HB := n1_; clear n0_ n1_; clear hb ho16))
    go_ret2
    exact ⟨_, by first | rfl | (simp [errW_none, errW_some] <;> rfl) | (simp [*, errW_none, errW_some] <;> rfl), by exact Ho.RS <| HO107.out, by exact eS HB.out⟩
   ·replace c14 := Bool.eq_false_iff.mpr c14
    subst c14
    have H1 : (if 0 ≤ t101 then (if t101 < (l0.length : Int) then (if ((rd_T41 l0 t101).f4) = 0 then (if (wrap64 (3 * ((rd_T41 l0 t101).f6))) < ((rd_T41 l0 t101).f5) then (some ((([] : List (S41))), false)) else (if ((rd_T41 l0 t101).f4) = 3 then (if ((rd_T41 l0 t101).f6) < ((rd_T41 l0 t101).f5) then (some ((([] : List (S41))), false)) else ((spec_l17With.f kj4 l0 t101 ((rd_T41 l0 t101).f0) ((rd_T41 l0 t101).f1) ((rd_T41 l0 t101).f2) ((rd_T41 l0 t101).f3) (wrap64 (((rd_T41 l0 t101).f4) + 1)) ((rd_T41 l0 t101).f5) ((rd_T41 l0 t101).f6) a2).bind fun bt116 => (some (bt116.1, bt116.2)))) else ((spec_l17With.f kj4 l0 t101 ((rd_T41 l0 t101).f0) ((rd_T41 l0 t101).f1) ((rd_T41 l0 t101).f2) ((rd_T41 l0 t101).f3) (wrap64 (((rd_T41 l0 t101).f4) + 1)) ((rd_T41 l0 t101).f5) ((rd_T41 l0 t101).f6) a2).bind fun bt120 => (some (bt120.1, bt120.2))))) else (if ((rd_T41 l0 t101).f4) = 3 then (if ((rd_T41 l0 t101).f6) < ((rd_T41 l0 t101).f5) then (some ((([] : List (S41))), false)) else ((spec_l17With.f kj4 l0 t101 ((rd_T41 l0 t101).f0) ((rd_T41 l0 t101).f1) ((rd_T41 l0 t101).f2) ((rd_T41 l0 t101).f3) (wrap64 (((rd_T41 l0 t101).f4) + 1)) ((rd_T41 l0 t101).f5) ((rd_T41 l0 t101).f6) a2).bind fun bt127 => (some (bt127.1, bt127.2)))) else ((spec_l17With.f kj4 l0 t101 ((rd_T41 l0 t101).f0) ((rd_T41 l0 t101).f1) ((rd_T41 l0 t101).f2) ((rd_T41 l0 t101).f3) (wrap64 (((rd_T41 l0 t101).f4) + 1)) ((rd_T41 l0 t101).f5) ((rd_T41 l0 t101).f6) a2).bind fun bt131 => (some (bt131.1, bt131.2))))) else (none)) else (none)) = some (r1, r2) := by rw [if_neg (show ¬ (false = true) by decide)] at H; exact H
    clear H
    have H := H1
    clear H1
    by_cases c17 : 0 ≤ t101
    ·rw [if_pos c17] at H
     have c17b0 : decide (0 ≤ t101) = true := decide_eq_true c17
     clear c17
     by_cases c18 : t101 < (l0.length : Int)
     ·rw [if_pos c18] at H
      have c18b0 : decide (t101 < (l0.length : Int)) = true := decide_eq_true c18
      clear c18
      by_cases c19 : ((rd_T41 l0 t101).f4) = 0
      ·rw [if_pos c19] at H
       have c19b0 : (((rd_T41 l0 t101).f4) == 0) = true := beq_iff_eq.mpr c19
       have c19b1 : (((rd_T41 l0 t101).f4) != 0) = false := bne_eq_false_iff_eq.mpr c19
       clear c19
       by_cases c20 : (wrap64 (3 * ((rd_T41 l0 t101).f6))) < ((rd_T41 l0 t101).f5)
       ·rw [if_pos c20] at H
        have c20b0 : decide ((wrap64 (3 * ((rd_T41 l0 t101).f6))) < ((rd_T41 l0 t101).f5)) = true := decide_eq_true c20
        clear c20
        obtain ⟨y110, hy110⟩ : ∃ y_ : List (S41), y_ = (([] : List (S41))) := ⟨_, rfl⟩
        replace H : (some (y110, false)) = some (r1, r2) := by first | (rw [hy110]; with_reducible exact H) | (have H2_ := (Option.bind_some _ _).symm.trans H; rw [hy110]; with_reducible exact H2_) | (have H2_ := (Option.bind_some _ _).symm.trans H; with_reducible exact H2_) | with_reducible exact H | (rw [hy110]; exact H) | exact H
        have Ny110 := Aside0.mk hy110
        clear hy110
        simp only [Option.some.injEq, Prod.mk.injEq] at H
        obtain ⟨rfl, rfl⟩ := H
        have p108 : 0 ≤ (t101 : Int) := of_decide_eq_true (by first | (with_reducible assumption) | assumption)
        have q108 : t101 < (l0.length : Int) := of_decide_eq_true (by first | (with_reducible assumption) | assumption)
        obtain ⟨ad108, e108, hx108_0, hx108_1, hx108_2, hx108_3, hx108_4, hx108_5, hx108_6, hx108_7⟩ := at_T41 HR0.out t101 p108 q108
        cases e108
        replace hx108_0 := (HB.out.cell (World.block_lt_of_cell? w _ hx108_0)).trans hx108_0
        replace hx108_1 := (HB.out.cell (World.block_lt_of_cell? w _ hx108_1)).trans hx108_1
        replace hx108_2 := (HB.out.cell (World.block_lt_of_cell? w _ hx108_2)).trans hx108_2
        replace hx108_3 := (HB.out.cell (World.block_lt_of_cell? w _ hx108_3)).trans hx108_3
        replace hx108_4 := (HB.out.cell (World.block_lt_of_cell? w _ hx108_4)).trans hx108_4
        replace hx108_5 := (HB.out.cell (World.block_lt_of_cell? w _ hx108_5)).trans hx108_5
        replace hx108_6 := (HB.out.cell (World.block_lt_of_cell? w _ hx108_6)).trans hx108_6
        replace hx108_7 := (HB.out.cell (World.block_lt_of_cell? w _ hx108_7)).trans hx108_7
        replace p108 := eq_true p108
        replace q108 := eq_true q108
        go_wp2_with (first | ((with_reducible refine gate_dst (N := 9) rfl ?_); refine box_event ?hg (N := 9) ?hd (cs := #[.int .i64 0, .string (⟨#[]⟩ : ByteArray), .int .i64 0, .int .i64 0, .int .i64 0, .int .i64 0, .int .i64 0, .int .i64 0]) (t := 41) ?hr ?_; (case hd => rfl); (case hg => rfl); (case hr => first | (go_simp; done) | (go_simp; rfl)); intro gb109 hg w21 hbox hb; have n0_ := Aside0.mk (below_step (by exact eS HB.out) hb); have n1_ := Aside0.mk (hbox); have n2_ := Aside0.mk ((by rw [hg]; exact (below_size (by exact eS HB.out)) : w.heap.size ≤ gb109)); have n3_ := Aside0.mk ((by rw [hg]; exact (below_size (by exact eS HB.out)) : w.heap.size ≤ gb109)); clear HB; have HB := n0_; have BK109 := n1_; have GW109 := n2_; have GE109 := n3_; clear n0_ n1_ n2_ n3_; clear hb hbox hg; have hcz22_0 : w21.cell? ⟨gb109, 0, none⟩ = some (.int .i64 0) := (blk_cell BK109.out 0).trans rfl; have hcz22_1 : w21.cell? ⟨gb109, 1, none⟩ = some (.string (⟨#[]⟩ : ByteArray)) := (blk_cell BK109.out 1).trans rfl; have hcz22_2 : w21.cell? ⟨gb109, 2, none⟩ = some (.int .i64 0) := (blk_cell BK109.out 2).trans rfl; have hcz22_3 : w21.cell? ⟨gb109, 3, none⟩ = some (.int .i64 0) := (blk_cell BK109.out 3).trans rfl; have hcz22_4 : w21.cell? ⟨gb109, 4, none⟩ = some (.int .i64 0) := (blk_cell BK109.out 4).trans rfl; have hcz22_5 : w21.cell? ⟨gb109, 5, none⟩ = some (.int .i64 0) := (blk_cell BK109.out 5).trans rfl; have hcz22_6 : w21.cell? ⟨gb109, 6, none⟩ = some (.int .i64 0) := (blk_cell BK109.out 6).trans rfl; have hcz22_7 : w21.cell? ⟨gb109, 7, none⟩ = some (.int .i64 0) := (blk_cell BK109.out 7).trans rfl; have hfz22_0 := blk_frozen BK109.out 0; have hfz22_1 := blk_frozen BK109.out 1; have hfz22_2 := blk_frozen BK109.out 2; have hfz22_3 := blk_frozen BK109.out 3; have hfz22_4 := blk_frozen BK109.out 4; have hfz22_5 := blk_frozen BK109.out 5; have hfz22_6 := blk_frozen BK109.out 6; have hfz22_7 := blk_frozen BK109.out 7) | ((with_reducible refine gate_dst (N := 62) rfl ?_); refine Kd.R_lit k41 _ 41 ?hg (N := 62) ?hd (xs := ([] : List (S41))) (inner := []) (ok := fun _ => True) (okp := fun _ => True) ?hr ?hp (fun _ hk => hk) trivial (Below.refl _ _) (Nat.le_refl _) (by simp) ?_; (case hd => rfl); (case hg => rfl); (case hr => first | (go_simp; done) | (go_simp; rfl)); (case hp => exact (Reps.none _ _)); intro v111 w23 ho24 hb hg_ hnew_; clear hg_ hnew_; (first | rw [← Ny110.out] at ho24 | (simp only [Int.reduceToNat] at ho24; rw [← Ny110.out] at ho24)); have n0_ := Aside0.mk (Kd.R_lower (Kd.R_newB ho24 (g := gb109) (o := .cells #[.int .i64 ((rd_T41 l0 t101).f0), .string ((rd_T41 l0 t101).f1), .int .i64 ((rd_T41 l0 t101).f2), .int .i64 ((rd_T41 l0 t101).f3), .int .i64 ((rd_T41 l0 t101).f4), .int .i64 ((rd_T41 l0 t101).f5), .int .i64 ((rd_T41 l0 t101).f6), .int .i64 ((rd_T41 l0 t101).f7)] 41 (0, 0)) (by (with_reducible repeat (first | refine blk_drewN ?_ _ | refine blk_drew ?_ | refine blk_alloc ?_ _)); refine blk_put (cs := #[.int .i64 ((rd_T41 l0 t101).f0), .string ((rd_T41 l0 t101).f1), .int .i64 ((rd_T41 l0 t101).f2), .int .i64 ((rd_T41 l0 t101).f3), .int .i64 ((rd_T41 l0 t101).f4), .int .i64 ((rd_T41 l0 t101).f5), .int .i64 ((rd_T41 l0 t101).f6), .int .i64 0]) ?_ 7 _ rfl; (with_reducible repeat (first | refine blk_drewN ?_ _ | refine blk_drew ?_ | refine blk_alloc ?_ _)); refine blk_put (cs := #[.int .i64 ((rd_T41 l0 t101).f0), .string ((rd_T41 l0 t101).f1), .int .i64 ((rd_T41 l0 t101).f2), .int .i64 ((rd_T41 l0 t101).f3), .int .i64 ((rd_T41 l0 t101).f4), .int .i64 ((rd_T41 l0 t101).f5), .int .i64 0, .int .i64 0]) ?_ 6 _ rfl; (with_reducible repeat (first | refine blk_drewN ?_ _ | refine blk_drew ?_ | refine blk_alloc ?_ _)); refine blk_put (cs := #[.int .i64 ((rd_T41 l0 t101).f0), .string ((rd_T41 l0 t101).f1), .int .i64 ((rd_T41 l0 t101).f2), .int .i64 ((rd_T41 l0 t101).f3), .int .i64 ((rd_T41 l0 t101).f4), .int .i64 0, .int .i64 0, .int .i64 0]) ?_ 5 _ rfl; (with_reducible repeat (first | refine blk_drewN ?_ _ | refine blk_drew ?_ | refine blk_alloc ?_ _)); refine blk_put (cs := #[.int .i64 ((rd_T41 l0 t101).f0), .string ((rd_T41 l0 t101).f1), .int .i64 ((rd_T41 l0 t101).f2), .int .i64 ((rd_T41 l0 t101).f3), .int .i64 0, .int .i64 0, .int .i64 0, .int .i64 0]) ?_ 4 _ rfl; (with_reducible repeat (first | refine blk_drewN ?_ _ | refine blk_drew ?_ | refine blk_alloc ?_ _)); refine blk_put (cs := #[.int .i64 ((rd_T41 l0 t101).f0), .string ((rd_T41 l0 t101).f1), .int .i64 ((rd_T41 l0 t101).f2), .int .i64 0, .int .i64 0, .int .i64 0, .int .i64 0, .int .i64 0]) ?_ 3 _ rfl; (with_reducible repeat (first | refine blk_drewN ?_ _ | refine blk_drew ?_ | refine blk_alloc ?_ _)); refine blk_put (cs := #[.int .i64 ((rd_T41 l0 t101).f0), .string ((rd_T41 l0 t101).f1), .int .i64 0, .int .i64 0, .int .i64 0, .int .i64 0, .int .i64 0, .int .i64 0]) ?_ 2 _ rfl; (with_reducible repeat (first | refine blk_drewN ?_ _ | refine blk_drew ?_ | refine blk_alloc ?_ _)); refine blk_put (cs := #[.int .i64 ((rd_T41 l0 t101).f0), .string (⟨#[]⟩ : ByteArray), .int .i64 0, .int .i64 0, .int .i64 0, .int .i64 0, .int .i64 0, .int .i64 0]) ?_ 1 _ rfl; (with_reducible repeat (first | refine blk_drewN ?_ _ | refine blk_drew ?_ | refine blk_alloc ?_ _)); refine blk_put (cs := #[.int .i64 0, .string (⟨#[]⟩ : ByteArray), .int .i64 0, .int .i64 0, .int .i64 0, .int .i64 0, .int .i64 0, .int .i64 0]) ?_ 0 _ rfl; exact bS BK109.out)) (below_size (by repeat (first | (with_reducible first | exact HB.out | apply below_alloc | apply pw_below_drewN | apply below_drew1 | refine below_set ?_ GE109.out) | exact HB.out)))); have n1_ := Aside0.mk (blk_below (g := gb109) (o := .cells #[.int .i64 ((rd_T41 l0 t101).f0), .string ((rd_T41 l0 t101).f1), .int .i64 ((rd_T41 l0 t101).f2), .int .i64 ((rd_T41 l0 t101).f3), .int .i64 ((rd_T41 l0 t101).f4), .int .i64 ((rd_T41 l0 t101).f5), .int .i64 ((rd_T41 l0 t101).f6), .int .i64 ((rd_T41 l0 t101).f7)] 41 (0, 0)) (by (with_reducible repeat (first | refine blk_drewN ?_ _ | refine blk_drew ?_ | refine blk_alloc ?_ _)); refine blk_put (cs := #[.int .i64 ((rd_T41 l0 t101).f0), .string ((rd_T41 l0 t101).f1), .int .i64 ((rd_T41 l0 t101).f2), .int .i64 ((rd_T41 l0 t101).f3), .int .i64 ((rd_T41 l0 t101).f4), .int .i64 ((rd_T41 l0 t101).f5), .int .i64 ((rd_T41 l0 t101).f6), .int .i64 0]) ?_ 7 _ rfl; (with_reducible repeat (first | refine blk_drewN ?_ _ | refine blk_drew ?_ | refine blk_alloc ?_ _)); refine blk_put (cs := #[.int .i64 ((rd_T41 l0 t101).f0), .string ((rd_T41 l0 t101).f1), .int .i64 ((rd_T41 l0 t101).f2), .int .i64 ((rd_T41 l0 t101).f3), .int .i64 ((rd_T41 l0 t101).f4), .int .i64 ((rd_T41 l0 t101).f5), .int .i64 0, .int .i64 0]) ?_ 6 _ rfl; (with_reducible repeat (first | refine blk_drewN ?_ _ | refine blk_drew ?_ | refine blk_alloc ?_ _)); refine blk_put (cs := #[.int .i64 ((rd_T41 l0 t101).f0), .string ((rd_T41 l0 t101).f1), .int .i64 ((rd_T41 l0 t101).f2), .int .i64 ((rd_T41 l0 t101).f3), .int .i64 ((rd_T41 l0 t101).f4), .int .i64 0, .int .i64 0, .int .i64 0]) ?_ 5 _ rfl; (with_reducible repeat (first | refine blk_drewN ?_ _ | refine blk_drew ?_ | refine blk_alloc ?_ _)); refine blk_put (cs := #[.int .i64 ((rd_T41 l0 t101).f0), .string ((rd_T41 l0 t101).f1), .int .i64 ((rd_T41 l0 t101).f2), .int .i64 ((rd_T41 l0 t101).f3), .int .i64 0, .int .i64 0, .int .i64 0, .int .i64 0]) ?_ 4 _ rfl; (with_reducible repeat (first | refine blk_drewN ?_ _ | refine blk_drew ?_ | refine blk_alloc ?_ _)); refine blk_put (cs := #[.int .i64 ((rd_T41 l0 t101).f0), .string ((rd_T41 l0 t101).f1), .int .i64 ((rd_T41 l0 t101).f2), .int .i64 0, .int .i64 0, .int .i64 0, .int .i64 0, .int .i64 0]) ?_ 3 _ rfl; (with_reducible repeat (first | refine blk_drewN ?_ _ | refine blk_drew ?_ | refine blk_alloc ?_ _)); refine blk_put (cs := #[.int .i64 ((rd_T41 l0 t101).f0), .string ((rd_T41 l0 t101).f1), .int .i64 0, .int .i64 0, .int .i64 0, .int .i64 0, .int .i64 0, .int .i64 0]) ?_ 2 _ rfl; (with_reducible repeat (first | refine blk_drewN ?_ _ | refine blk_drew ?_ | refine blk_alloc ?_ _)); refine blk_put (cs := #[.int .i64 ((rd_T41 l0 t101).f0), .string (⟨#[]⟩ : ByteArray), .int .i64 0, .int .i64 0, .int .i64 0, .int .i64 0, .int .i64 0, .int .i64 0]) ?_ 1 _ rfl; (with_reducible repeat (first | refine blk_drewN ?_ _ | refine blk_drew ?_ | refine blk_alloc ?_ _)); refine blk_put (cs := #[.int .i64 0, .string (⟨#[]⟩ : ByteArray), .int .i64 0, .int .i64 0, .int .i64 0, .int .i64 0, .int .i64 0, .int .i64 0]) ?_ 0 _ rfl; exact bS BK109.out) hb); have n2_ := Aside0.mk (below_step (by repeat (first | (with_reducible first | exact HB.out | apply below_alloc | apply pw_below_drewN | apply below_drew1 | refine below_set ?_ GE109.out) | exact HB.out)) hb); clear BK109; clear HB; have HO112 := n0_; have BK109 := n1_; have HB := n2_; clear n0_ n1_ n2_; clear hb ho24))
        go_ret2
        exact ⟨_, by first | rfl | (simp [errW_none, errW_some] <;> rfl) | (simp [*, errW_none, errW_some] <;> rfl), by exact Ho.RS <| Kd.R_mono HO112.out (fun _ hk => trivial), by exact eS HB.out⟩
       ·rw [if_neg c20] at H
        have c20b0 : decide ((wrap64 (3 * ((rd_T41 l0 t101).f6))) < ((rd_T41 l0 t101).f5)) = false := decide_eq_false c20
        clear c20
        by_cases c25 : ((rd_T41 l0 t101).f4) = 3
        ·rw [if_pos c25] at H
         have c25b0 : (((rd_T41 l0 t101).f4) == 3) = true := beq_iff_eq.mpr c25
         have c25b1 : (((rd_T41 l0 t101).f4) != 3) = false := bne_eq_false_iff_eq.mpr c25
         clear c25
         by_cases c26 : ((rd_T41 l0 t101).f6) < ((rd_T41 l0 t101).f5)
         ·rw [if_pos c26] at H
          have c26b0 : decide (((rd_T41 l0 t101).f6) < ((rd_T41 l0 t101).f5)) = true := decide_eq_true c26
          clear c26
          obtain ⟨y113, hy113⟩ : ∃ y_ : List (S41), y_ = (([] : List (S41))) := ⟨_, rfl⟩
          replace H : (some (y113, false)) = some (r1, r2) := by first | (rw [hy113]; with_reducible exact H) | (have H2_ := (Option.bind_some _ _).symm.trans H; rw [hy113]; with_reducible exact H2_) | (have H2_ := (Option.bind_some _ _).symm.trans H; with_reducible exact H2_) | with_reducible exact H | (rw [hy113]; exact H) | exact H
          have Ny113 := Aside0.mk hy113
          clear hy113
          simp only [Option.some.injEq, Prod.mk.injEq] at H
          obtain ⟨rfl, rfl⟩ := H
          have p108 : 0 ≤ (t101 : Int) := of_decide_eq_true (by first | (with_reducible assumption) | assumption)
          have q108 : t101 < (l0.length : Int) := of_decide_eq_true (by first | (with_reducible assumption) | assumption)
          obtain ⟨ad108, e108, hx108_0, hx108_1, hx108_2, hx108_3, hx108_4, hx108_5, hx108_6, hx108_7⟩ := at_T41 HR0.out t101 p108 q108
          cases e108
          replace hx108_0 := (HB.out.cell (World.block_lt_of_cell? w _ hx108_0)).trans hx108_0
          replace hx108_1 := (HB.out.cell (World.block_lt_of_cell? w _ hx108_1)).trans hx108_1
          replace hx108_2 := (HB.out.cell (World.block_lt_of_cell? w _ hx108_2)).trans hx108_2
          replace hx108_3 := (HB.out.cell (World.block_lt_of_cell? w _ hx108_3)).trans hx108_3
          replace hx108_4 := (HB.out.cell (World.block_lt_of_cell? w _ hx108_4)).trans hx108_4
          replace hx108_5 := (HB.out.cell (World.block_lt_of_cell? w _ hx108_5)).trans hx108_5
          replace hx108_6 := (HB.out.cell (World.block_lt_of_cell? w _ hx108_6)).trans hx108_6
          replace hx108_7 := (HB.out.cell (World.block_lt_of_cell? w _ hx108_7)).trans hx108_7
          replace p108 := eq_true p108
          replace q108 := eq_true q108
          go_wp2_with (first | ((with_reducible refine gate_dst (N := 9) rfl ?_); refine box_event ?hg (N := 9) ?hd (cs := #[.int .i64 0, .string (⟨#[]⟩ : ByteArray), .int .i64 0, .int .i64 0, .int .i64 0, .int .i64 0, .int .i64 0, .int .i64 0]) (t := 41) ?hr ?_; (case hd => rfl); (case hg => rfl); (case hr => first | (go_simp; done) | (go_simp; rfl)); intro gb109 hg w27 hbox hb; have n0_ := Aside0.mk (below_step (by exact eS HB.out) hb); have n1_ := Aside0.mk (hbox); have n2_ := Aside0.mk ((by rw [hg]; exact (below_size (by exact eS HB.out)) : w.heap.size ≤ gb109)); have n3_ := Aside0.mk ((by rw [hg]; exact (below_size (by exact eS HB.out)) : w.heap.size ≤ gb109)); clear HB; have HB := n0_; have BK109 := n1_; have GW109 := n2_; have GE109 := n3_; clear n0_ n1_ n2_ n3_; clear hb hbox hg; have hcz28_0 : w27.cell? ⟨gb109, 0, none⟩ = some (.int .i64 0) := (blk_cell BK109.out 0).trans rfl; have hcz28_1 : w27.cell? ⟨gb109, 1, none⟩ = some (.string (⟨#[]⟩ : ByteArray)) := (blk_cell BK109.out 1).trans rfl; have hcz28_2 : w27.cell? ⟨gb109, 2, none⟩ = some (.int .i64 0) := (blk_cell BK109.out 2).trans rfl; have hcz28_3 : w27.cell? ⟨gb109, 3, none⟩ = some (.int .i64 0) := (blk_cell BK109.out 3).trans rfl; have hcz28_4 : w27.cell? ⟨gb109, 4, none⟩ = some (.int .i64 0) := (blk_cell BK109.out 4).trans rfl; have hcz28_5 : w27.cell? ⟨gb109, 5, none⟩ = some (.int .i64 0) := (blk_cell BK109.out 5).trans rfl; have hcz28_6 : w27.cell? ⟨gb109, 6, none⟩ = some (.int .i64 0) := (blk_cell BK109.out 6).trans rfl; have hcz28_7 : w27.cell? ⟨gb109, 7, none⟩ = some (.int .i64 0) := (blk_cell BK109.out 7).trans rfl; have hfz28_0 := blk_frozen BK109.out 0; have hfz28_1 := blk_frozen BK109.out 1; have hfz28_2 := blk_frozen BK109.out 2; have hfz28_3 := blk_frozen BK109.out 3; have hfz28_4 := blk_frozen BK109.out 4; have hfz28_5 := blk_frozen BK109.out 5; have hfz28_6 := blk_frozen BK109.out 6; have hfz28_7 := blk_frozen BK109.out 7) | ((with_reducible refine gate_dst (N := 62) rfl ?_); refine Kd.R_lit k41 _ 41 ?hg (N := 62) ?hd (xs := ([] : List (S41))) (inner := []) (ok := fun _ => True) (okp := fun _ => True) ?hr ?hp (fun _ hk => hk) trivial (Below.refl _ _) (Nat.le_refl _) (by simp) ?_; (case hd => rfl); (case hg => rfl); (case hr => first | (go_simp; done) | (go_simp; rfl)); (case hp => exact (Reps.none _ _)); intro v114 w29 ho30 hb hg_ hnew_; clear hg_ hnew_; (first | rw [← Ny113.out] at ho30 | (simp only [Int.reduceToNat] at ho30; rw [← Ny113.out] at ho30)); have n0_ := Aside0.mk (Kd.R_lower (Kd.R_newB ho30 (g := gb109) (o := .cells #[.int .i64 ((rd_T41 l0 t101).f0), .string ((rd_T41 l0 t101).f1), .int .i64 ((rd_T41 l0 t101).f2), .int .i64 ((rd_T41 l0 t101).f3), .int .i64 ((rd_T41 l0 t101).f4), .int .i64 ((rd_T41 l0 t101).f5), .int .i64 ((rd_T41 l0 t101).f6), .int .i64 ((rd_T41 l0 t101).f7)] 41 (0, 0)) (by (with_reducible repeat (first | refine blk_drewN ?_ _ | refine blk_drew ?_ | refine blk_alloc ?_ _)); refine blk_put (cs := #[.int .i64 ((rd_T41 l0 t101).f0), .string ((rd_T41 l0 t101).f1), .int .i64 ((rd_T41 l0 t101).f2), .int .i64 ((rd_T41 l0 t101).f3), .int .i64 ((rd_T41 l0 t101).f4), .int .i64 ((rd_T41 l0 t101).f5), .int .i64 ((rd_T41 l0 t101).f6), .int .i64 0]) ?_ 7 _ rfl; (with_reducible repeat (first | refine blk_drewN ?_ _ | refine blk_drew ?_ | refine blk_alloc ?_ _)); refine blk_put (cs := #[.int .i64 ((rd_T41 l0 t101).f0), .string ((rd_T41 l0 t101).f1), .int .i64 ((rd_T41 l0 t101).f2), .int .i64 ((rd_T41 l0 t101).f3), .int .i64 ((rd_T41 l0 t101).f4), .int .i64 ((rd_T41 l0 t101).f5), .int .i64 0, .int .i64 0]) ?_ 6 _ rfl; (with_reducible repeat (first | refine blk_drewN ?_ _ | refine blk_drew ?_ | refine blk_alloc ?_ _)); refine blk_put (cs := #[.int .i64 ((rd_T41 l0 t101).f0), .string ((rd_T41 l0 t101).f1), .int .i64 ((rd_T41 l0 t101).f2), .int .i64 ((rd_T41 l0 t101).f3), .int .i64 ((rd_T41 l0 t101).f4), .int .i64 0, .int .i64 0, .int .i64 0]) ?_ 5 _ rfl; (with_reducible repeat (first | refine blk_drewN ?_ _ | refine blk_drew ?_ | refine blk_alloc ?_ _)); refine blk_put (cs := #[.int .i64 ((rd_T41 l0 t101).f0), .string ((rd_T41 l0 t101).f1), .int .i64 ((rd_T41 l0 t101).f2), .int .i64 ((rd_T41 l0 t101).f3), .int .i64 0, .int .i64 0, .int .i64 0, .int .i64 0]) ?_ 4 _ rfl; (with_reducible repeat (first | refine blk_drewN ?_ _ | refine blk_drew ?_ | refine blk_alloc ?_ _)); refine blk_put (cs := #[.int .i64 ((rd_T41 l0 t101).f0), .string ((rd_T41 l0 t101).f1), .int .i64 ((rd_T41 l0 t101).f2), .int .i64 0, .int .i64 0, .int .i64 0, .int .i64 0, .int .i64 0]) ?_ 3 _ rfl; (with_reducible repeat (first | refine blk_drewN ?_ _ | refine blk_drew ?_ | refine blk_alloc ?_ _)); refine blk_put (cs := #[.int .i64 ((rd_T41 l0 t101).f0), .string ((rd_T41 l0 t101).f1), .int .i64 0, .int .i64 0, .int .i64 0, .int .i64 0, .int .i64 0, .int .i64 0]) ?_ 2 _ rfl; (with_reducible repeat (first | refine blk_drewN ?_ _ | refine blk_drew ?_ | refine blk_alloc ?_ _)); refine blk_put (cs := #[.int .i64 ((rd_T41 l0 t101).f0), .string (⟨#[]⟩ : ByteArray), .int .i64 0, .int .i64 0, .int .i64 0, .int .i64 0, .int .i64 0, .int .i64 0]) ?_ 1 _ rfl; (with_reducible repeat (first | refine blk_drewN ?_ _ | refine blk_drew ?_ | refine blk_alloc ?_ _)); refine blk_put (cs := #[.int .i64 0, .string (⟨#[]⟩ : ByteArray), .int .i64 0, .int .i64 0, .int .i64 0, .int .i64 0, .int .i64 0, .int .i64 0]) ?_ 0 _ rfl; exact bS BK109.out)) (below_size (by repeat (first | (with_reducible first | exact HB.out | apply below_alloc | apply pw_below_drewN | apply below_drew1 | refine below_set ?_ GE109.out) | exact HB.out)))); have n1_ := Aside0.mk (blk_below (g := gb109) (o := .cells #[.int .i64 ((rd_T41 l0 t101).f0), .string ((rd_T41 l0 t101).f1), .int .i64 ((rd_T41 l0 t101).f2), .int .i64 ((rd_T41 l0 t101).f3), .int .i64 ((rd_T41 l0 t101).f4), .int .i64 ((rd_T41 l0 t101).f5), .int .i64 ((rd_T41 l0 t101).f6), .int .i64 ((rd_T41 l0 t101).f7)] 41 (0, 0)) (by (with_reducible repeat (first | refine blk_drewN ?_ _ | refine blk_drew ?_ | refine blk_alloc ?_ _)); refine blk_put (cs := #[.int .i64 ((rd_T41 l0 t101).f0), .string ((rd_T41 l0 t101).f1), .int .i64 ((rd_T41 l0 t101).f2), .int .i64 ((rd_T41 l0 t101).f3), .int .i64 ((rd_T41 l0 t101).f4), .int .i64 ((rd_T41 l0 t101).f5), .int .i64 ((rd_T41 l0 t101).f6), .int .i64 0]) ?_ 7 _ rfl; (with_reducible repeat (first | refine blk_drewN ?_ _ | refine blk_drew ?_ | refine blk_alloc ?_ _)); refine blk_put (cs := #[.int .i64 ((rd_T41 l0 t101).f0), .string ((rd_T41 l0 t101).f1), .int .i64 ((rd_T41 l0 t101).f2), .int .i64 ((rd_T41 l0 t101).f3), .int .i64 ((rd_T41 l0 t101).f4), .int .i64 ((rd_T41 l0 t101).f5), .int .i64 0, .int .i64 0]) ?_ 6 _ rfl; (with_reducible repeat (first | refine blk_drewN ?_ _ | refine blk_drew ?_ | refine blk_alloc ?_ _)); refine blk_put (cs := #[.int .i64 ((rd_T41 l0 t101).f0), .string ((rd_T41 l0 t101).f1), .int .i64 ((rd_T41 l0 t101).f2), .int .i64 ((rd_T41 l0 t101).f3), .int .i64 ((rd_T41 l0 t101).f4), .int .i64 0, .int .i64 0, .int .i64 0]) ?_ 5 _ rfl; (with_reducible repeat (first | refine blk_drewN ?_ _ | refine blk_drew ?_ | refine blk_alloc ?_ _)); refine blk_put (cs := #[.int .i64 ((rd_T41 l0 t101).f0), .string ((rd_T41 l0 t101).f1), .int .i64 ((rd_T41 l0 t101).f2), .int .i64 ((rd_T41 l0 t101).f3), .int .i64 0, .int .i64 0, .int .i64 0, .int .i64 0]) ?_ 4 _ rfl; (with_reducible repeat (first | refine blk_drewN ?_ _ | refine blk_drew ?_ | refine blk_alloc ?_ _)); refine blk_put (cs := #[.int .i64 ((rd_T41 l0 t101).f0), .string ((rd_T41 l0 t101).f1), .int .i64 ((rd_T41 l0 t101).f2), .int .i64 0, .int .i64 0, .int .i64 0, .int .i64 0, .int .i64 0]) ?_ 3 _ rfl; (with_reducible repeat (first | refine blk_drewN ?_ _ | refine blk_drew ?_ | refine blk_alloc ?_ _)); refine blk_put (cs := #[.int .i64 ((rd_T41 l0 t101).f0), .string ((rd_T41 l0 t101).f1), .int .i64 0, .int .i64 0, .int .i64 0, .int .i64 0, .int .i64 0, .int .i64 0]) ?_ 2 _ rfl; (with_reducible repeat (first | refine blk_drewN ?_ _ | refine blk_drew ?_ | refine blk_alloc ?_ _)); refine blk_put (cs := #[.int .i64 ((rd_T41 l0 t101).f0), .string (⟨#[]⟩ : ByteArray), .int .i64 0, .int .i64 0, .int .i64 0, .int .i64 0, .int .i64 0, .int .i64 0]) ?_ 1 _ rfl; (with_reducible repeat (first | refine blk_drewN ?_ _ | refine blk_drew ?_ | refine blk_alloc ?_ _)); refine blk_put (cs := #[.int .i64 0, .string (⟨#[]⟩ : ByteArray), .int .i64 0, .int .i64 0, .int .i64 0, .int .i64 0, .int .i64 0, .int .i64 0]) ?_ 0 _ rfl; exact bS BK109.out) hb); have n2_ := Aside0.mk (below_step (by repeat (first | (with_reducible first | exact HB.out | apply below_alloc | apply pw_below_drewN | apply below_drew1 | refine below_set ?_ GE109.out) | exact HB.out)) hb); clear BK109; clear HB; have HO115 := n0_; have BK109 := n1_; have HB := n2_; clear n0_ n1_ n2_; clear hb ho30))
          go_ret2
          exact ⟨_, by first | rfl | (simp [errW_none, errW_some] <;> rfl) | (simp [*, errW_none, errW_some] <;> rfl), by exact Ho.RS <| Kd.R_mono HO115.out (fun _ hk => trivial), by exact eS HB.out⟩
         ·rw [if_neg c26] at H
          have c26b0 : decide (((rd_T41 l0 t101).f6) < ((rd_T41 l0 t101).f5)) = false := decide_eq_false c26
          clear c26
          replace H := Option.bind_eq_some_iff.mp H
          obtain ⟨⟨t116, t119⟩, A310, H⟩ := H
          replace H : (some (t116, t119)) = some (r1, r2) := H
          have A31 := Aside0.mk A310
          clear A310
          simp only [Option.some.injEq, Prod.mk.injEq] at H
          obtain ⟨rfl, rfl⟩ := H
          have p108 : 0 ≤ (t101 : Int) := of_decide_eq_true (by first | (with_reducible assumption) | assumption)
          have q108 : t101 < (l0.length : Int) := of_decide_eq_true (by first | (with_reducible assumption) | assumption)
          obtain ⟨ad108, e108, hx108_0, hx108_1, hx108_2, hx108_3, hx108_4, hx108_5, hx108_6, hx108_7⟩ := at_T41 HR0.out t101 p108 q108
          cases e108
          replace hx108_0 := (HB.out.cell (World.block_lt_of_cell? w _ hx108_0)).trans hx108_0
          replace hx108_1 := (HB.out.cell (World.block_lt_of_cell? w _ hx108_1)).trans hx108_1
          replace hx108_2 := (HB.out.cell (World.block_lt_of_cell? w _ hx108_2)).trans hx108_2
          replace hx108_3 := (HB.out.cell (World.block_lt_of_cell? w _ hx108_3)).trans hx108_3
          replace hx108_4 := (HB.out.cell (World.block_lt_of_cell? w _ hx108_4)).trans hx108_4
          replace hx108_5 := (HB.out.cell (World.block_lt_of_cell? w _ hx108_5)).trans hx108_5
          replace hx108_6 := (HB.out.cell (World.block_lt_of_cell? w _ hx108_6)).trans hx108_6
          replace hx108_7 := (HB.out.cell (World.block_lt_of_cell? w _ hx108_7)).trans hx108_7
          replace p108 := eq_true p108
          replace q108 := eq_true q108
          go_wp2_with (first | ((with_reducible refine gate_dst (N := 9) rfl ?_); refine box_event ?hg (N := 9) ?hd (cs := #[.int .i64 0, .string (⟨#[]⟩ : ByteArray), .int .i64 0, .int .i64 0, .int .i64 0, .int .i64 0, .int .i64 0, .int .i64 0]) (t := 41) ?hr ?_; (case hd => rfl); (case hg => rfl); (case hr => first | (go_simp; done) | (go_simp; rfl)); intro gb109 hg w32 hbox hb; have n0_ := Aside0.mk (below_step (by exact eS HB.out) hb); have n1_ := Aside0.mk (hbox); have n2_ := Aside0.mk ((by rw [hg]; exact (below_size (by exact eS HB.out)) : w.heap.size ≤ gb109)); have n3_ := Aside0.mk ((by rw [hg]; exact (below_size (by exact eS HB.out)) : w.heap.size ≤ gb109)); clear HB; have HB := n0_; have BK109 := n1_; have GW109 := n2_; have GE109 := n3_; clear n0_ n1_ n2_ n3_; clear hb hbox hg; have hcz33_0 : w32.cell? ⟨gb109, 0, none⟩ = some (.int .i64 0) := (blk_cell BK109.out 0).trans rfl; have hcz33_1 : w32.cell? ⟨gb109, 1, none⟩ = some (.string (⟨#[]⟩ : ByteArray)) := (blk_cell BK109.out 1).trans rfl; have hcz33_2 : w32.cell? ⟨gb109, 2, none⟩ = some (.int .i64 0) := (blk_cell BK109.out 2).trans rfl; have hcz33_3 : w32.cell? ⟨gb109, 3, none⟩ = some (.int .i64 0) := (blk_cell BK109.out 3).trans rfl; have hcz33_4 : w32.cell? ⟨gb109, 4, none⟩ = some (.int .i64 0) := (blk_cell BK109.out 4).trans rfl; have hcz33_5 : w32.cell? ⟨gb109, 5, none⟩ = some (.int .i64 0) := (blk_cell BK109.out 5).trans rfl; have hcz33_6 : w32.cell? ⟨gb109, 6, none⟩ = some (.int .i64 0) := (blk_cell BK109.out 6).trans rfl; have hcz33_7 : w32.cell? ⟨gb109, 7, none⟩ = some (.int .i64 0) := (blk_cell BK109.out 7).trans rfl; have hfz33_0 := blk_frozen BK109.out 0; have hfz33_1 := blk_frozen BK109.out 1; have hfz33_2 := blk_frozen BK109.out 2; have hfz33_3 := blk_frozen BK109.out 3; have hfz33_4 := blk_frozen BK109.out 4; have hfz33_5 := blk_frozen BK109.out 5; have hfz33_6 := blk_frozen BK109.out 6; have hfz33_7 := blk_frozen BK109.out 7) | ((with_reducible refine gate_callee (f := 83) rfl ?_); refine goesL_ (some 73) rfl rfl Tryd.func83 (by kernel_rfl) rfl #[.slice (some ad108) l0.length c0, .int .i64 t101, .agg #[.int .i64 ((rd_T41 l0 t101).f0), .string ((rd_T41 l0 t101).f1), .int .i64 ((rd_T41 l0 t101).f2), .int .i64 ((rd_T41 l0 t101).f3), .int .i64 (wrap64 (((rd_T41 l0 t101).f4) + 1)), .int .i64 ((rd_T41 l0 t101).f5), .int .i64 ((rd_T41 l0 t101).f6), .int .i64 a2]] rfl (by (try simp only [List.map_toArray, List.map_cons, List.map_nil]); first | done | rfl | (simp only [List.length_drop, List.length_take]; rfl)) ?_; (with_reducible refine (spec_l17With.calls kj4 _ _ l0 t101 ((rd_T41 l0 t101).f0) ((rd_T41 l0 t101).f1) ((rd_T41 l0 t101).f2) ((rd_T41 l0 t101).f3) (wrap64 (((rd_T41 l0 t101).f4) + 1)) ((rd_T41 l0 t101).f5) ((rd_T41 l0 t101).f6) a2 t116 t119 _ ?side1 ?side2 A31.out).mono ?_); (case side1 => exact Kd.C_below HR0.out (by repeat (first | (with_reducible first | exact HB.out | apply below_alloc | apply pw_below_drewN | apply below_drew1 | refine below_set ?_ GE109.out) | exact HB.out))); (case side2 => exact HC0.out); rintro e w34 ⟨v117, rfl, ho0, hb⟩; refine ⟨_, rfl, ?_⟩; have n0_ := Aside0.mk (Kd.R_lower (Kd.R_newB ho0 (g := gb109) (o := .cells #[.int .i64 ((rd_T41 l0 t101).f0), .string ((rd_T41 l0 t101).f1), .int .i64 ((rd_T41 l0 t101).f2), .int .i64 ((rd_T41 l0 t101).f3), .int .i64 (wrap64 (((rd_T41 l0 t101).f4) + 1)), .int .i64 ((rd_T41 l0 t101).f5), .int .i64 ((rd_T41 l0 t101).f6), .int .i64 a2] 41 (0, 0)) (by (with_reducible repeat (first | refine blk_drewN ?_ _ | refine blk_drew ?_ | refine blk_alloc ?_ _)); refine blk_put (cs := #[.int .i64 ((rd_T41 l0 t101).f0), .string ((rd_T41 l0 t101).f1), .int .i64 ((rd_T41 l0 t101).f2), .int .i64 ((rd_T41 l0 t101).f3), .int .i64 (wrap64 (((rd_T41 l0 t101).f4) + 1)), .int .i64 ((rd_T41 l0 t101).f5), .int .i64 ((rd_T41 l0 t101).f6), .int .i64 ((rd_T41 l0 t101).f7)]) ?_ 7 _ rfl; (with_reducible repeat (first | refine blk_drewN ?_ _ | refine blk_drew ?_ | refine blk_alloc ?_ _)); refine blk_put (cs := #[.int .i64 ((rd_T41 l0 t101).f0), .string ((rd_T41 l0 t101).f1), .int .i64 ((rd_T41 l0 t101).f2), .int .i64 ((rd_T41 l0 t101).f3), .int .i64 ((rd_T41 l0 t101).f4), .int .i64 ((rd_T41 l0 t101).f5), .int .i64 ((rd_T41 l0 t101).f6), .int .i64 ((rd_T41 l0 t101).f7)]) ?_ 4 _ rfl; (with_reducible repeat (first | refine blk_drewN ?_ _ | refine blk_drew ?_ | refine blk_alloc ?_ _)); refine blk_put (cs := #[.int .i64 ((rd_T41 l0 t101).f0), .string ((rd_T41 l0 t101).f1), .int .i64 ((rd_T41 l0 t101).f2), .int .i64 ((rd_T41 l0 t101).f3), .int .i64 ((rd_T41 l0 t101).f4), .int .i64 ((rd_T41 l0 t101).f5), .int .i64 ((rd_T41 l0 t101).f6), .int .i64 0]) ?_ 7 _ rfl; (with_reducible repeat (first | refine blk_drewN ?_ _ | refine blk_drew ?_ | refine blk_alloc ?_ _)); refine blk_put (cs := #[.int .i64 ((rd_T41 l0 t101).f0), .string ((rd_T41 l0 t101).f1), .int .i64 ((rd_T41 l0 t101).f2), .int .i64 ((rd_T41 l0 t101).f3), .int .i64 ((rd_T41 l0 t101).f4), .int .i64 ((rd_T41 l0 t101).f5), .int .i64 0, .int .i64 0]) ?_ 6 _ rfl; (with_reducible repeat (first | refine blk_drewN ?_ _ | refine blk_drew ?_ | refine blk_alloc ?_ _)); refine blk_put (cs := #[.int .i64 ((rd_T41 l0 t101).f0), .string ((rd_T41 l0 t101).f1), .int .i64 ((rd_T41 l0 t101).f2), .int .i64 ((rd_T41 l0 t101).f3), .int .i64 ((rd_T41 l0 t101).f4), .int .i64 0, .int .i64 0, .int .i64 0]) ?_ 5 _ rfl; (with_reducible repeat (first | refine blk_drewN ?_ _ | refine blk_drew ?_ | refine blk_alloc ?_ _)); refine blk_put (cs := #[.int .i64 ((rd_T41 l0 t101).f0), .string ((rd_T41 l0 t101).f1), .int .i64 ((rd_T41 l0 t101).f2), .int .i64 ((rd_T41 l0 t101).f3), .int .i64 0, .int .i64 0, .int .i64 0, .int .i64 0]) ?_ 4 _ rfl; (with_reducible repeat (first | refine blk_drewN ?_ _ | refine blk_drew ?_ | refine blk_alloc ?_ _)); refine blk_put (cs := #[.int .i64 ((rd_T41 l0 t101).f0), .string ((rd_T41 l0 t101).f1), .int .i64 ((rd_T41 l0 t101).f2), .int .i64 0, .int .i64 0, .int .i64 0, .int .i64 0, .int .i64 0]) ?_ 3 _ rfl; (with_reducible repeat (first | refine blk_drewN ?_ _ | refine blk_drew ?_ | refine blk_alloc ?_ _)); refine blk_put (cs := #[.int .i64 ((rd_T41 l0 t101).f0), .string ((rd_T41 l0 t101).f1), .int .i64 0, .int .i64 0, .int .i64 0, .int .i64 0, .int .i64 0, .int .i64 0]) ?_ 2 _ rfl; (with_reducible repeat (first | refine blk_drewN ?_ _ | refine blk_drew ?_ | refine blk_alloc ?_ _)); refine blk_put (cs := #[.int .i64 ((rd_T41 l0 t101).f0), .string (⟨#[]⟩ : ByteArray), .int .i64 0, .int .i64 0, .int .i64 0, .int .i64 0, .int .i64 0, .int .i64 0]) ?_ 1 _ rfl; (with_reducible repeat (first | refine blk_drewN ?_ _ | refine blk_drew ?_ | refine blk_alloc ?_ _)); refine blk_put (cs := #[.int .i64 0, .string (⟨#[]⟩ : ByteArray), .int .i64 0, .int .i64 0, .int .i64 0, .int .i64 0, .int .i64 0, .int .i64 0]) ?_ 0 _ rfl; exact bS BK109.out)) (below_size (by repeat (first | (with_reducible first | exact HB.out | apply below_alloc | apply pw_below_drewN | apply below_drew1 | refine below_set ?_ GE109.out) | exact HB.out)))); have n1_ := Aside0.mk (blk_below (g := gb109) (o := .cells #[.int .i64 ((rd_T41 l0 t101).f0), .string ((rd_T41 l0 t101).f1), .int .i64 ((rd_T41 l0 t101).f2), .int .i64 ((rd_T41 l0 t101).f3), .int .i64 (wrap64 (((rd_T41 l0 t101).f4) + 1)), .int .i64 ((rd_T41 l0 t101).f5), .int .i64 ((rd_T41 l0 t101).f6), .int .i64 a2] 41 (0, 0)) (by (with_reducible repeat (first | refine blk_drewN ?_ _ | refine blk_drew ?_ | refine blk_alloc ?_ _)); refine blk_put (cs := #[.int .i64 ((rd_T41 l0 t101).f0), .string ((rd_T41 l0 t101).f1), .int .i64 ((rd_T41 l0 t101).f2), .int .i64 ((rd_T41 l0 t101).f3), .int .i64 (wrap64 (((rd_T41 l0 t101).f4) + 1)), .int .i64 ((rd_T41 l0 t101).f5), .int .i64 ((rd_T41 l0 t101).f6), .int .i64 ((rd_T41 l0 t101).f7)]) ?_ 7 _ rfl; (with_reducible repeat (first | refine blk_drewN ?_ _ | refine blk_drew ?_ | refine blk_alloc ?_ _)); refine blk_put (cs := #[.int .i64 ((rd_T41 l0 t101).f0), .string ((rd_T41 l0 t101).f1), .int .i64 ((rd_T41 l0 t101).f2), .int .i64 ((rd_T41 l0 t101).f3), .int .i64 ((rd_T41 l0 t101).f4), .int .i64 ((rd_T41 l0 t101).f5), .int .i64 ((rd_T41 l0 t101).f6), .int .i64 ((rd_T41 l0 t101).f7)]) ?_ 4 _ rfl; (with_reducible repeat (first | refine blk_drewN ?_ _ | refine blk_drew ?_ | refine blk_alloc ?_ _)); refine blk_put (cs := #[.int .i64 ((rd_T41 l0 t101).f0), .string ((rd_T41 l0 t101).f1), .int .i64 ((rd_T41 l0 t101).f2), .int .i64 ((rd_T41 l0 t101).f3), .int .i64 ((rd_T41 l0 t101).f4), .int .i64 ((rd_T41 l0 t101).f5), .int .i64 ((rd_T41 l0 t101).f6), .int .i64 0]) ?_ 7 _ rfl; (with_reducible repeat (first | refine blk_drewN ?_ _ | refine blk_drew ?_ | refine blk_alloc ?_ _)); refine blk_put (cs := #[.int .i64 ((rd_T41 l0 t101).f0), .string ((rd_T41 l0 t101).f1), .int .i64 ((rd_T41 l0 t101).f2), .int .i64 ((rd_T41 l0 t101).f3), .int .i64 ((rd_T41 l0 t101).f4), .int .i64 ((rd_T41 l0 t101).f5), .int .i64 0, .int .i64 0]) ?_ 6 _ rfl; (with_reducible repeat (first | refine blk_drewN ?_ _ | refine blk_drew ?_ | refine blk_alloc ?_ _)); refine blk_put (cs := #[.int .i64 ((rd_T41 l0 t101).f0), .string ((rd_T41 l0 t101).f1), .int .i64 ((rd_T41 l0 t101).f2), .int .i64 ((rd_T41 l0 t101).f3), .int .i64 ((rd_T41 l0 t101).f4), .int .i64 0, .int .i64 0, .int .i64 0]) ?_ 5 _ rfl; (with_reducible repeat (first | refine blk_drewN ?_ _ | refine blk_drew ?_ | refine blk_alloc ?_ _)); refine blk_put (cs := #[.int .i64 ((rd_T41 l0 t101).f0), .string ((rd_T41 l0 t101).f1), .int .i64 ((rd_T41 l0 t101).f2), .int .i64 ((rd_T41 l0 t101).f3), .int .i64 0, .int .i64 0, .int .i64 0, .int .i64 0]) ?_ 4 _ rfl; (with_reducible repeat (first | refine blk_drewN ?_ _ | refine blk_drew ?_ | refine blk_alloc ?_ _)); refine blk_put (cs := #[.int .i64 ((rd_T41 l0 t101).f0), .string ((rd_T41 l0 t101).f1), .int .i64 ((rd_T41 l0 t101).f2), .int .i64 0, .int .i64 0, .int .i64 0, .int .i64 0, .int .i64 0]) ?_ 3 _ rfl; (with_reducible repeat (first | refine blk_drewN ?_ _ | refine blk_drew ?_ | refine blk_alloc ?_ _)); refine blk_put (cs := #[.int .i64 ((rd_T41 l0 t101).f0), .string ((rd_T41 l0 t101).f1), .int .i64 0, .int .i64 0, .int .i64 0, .int .i64 0, .int .i64 0, .int .i64 0]) ?_ 2 _ rfl; (with_reducible repeat (first | refine blk_drewN ?_ _ | refine blk_drew ?_ | refine blk_alloc ?_ _)); refine blk_put (cs := #[.int .i64 ((rd_T41 l0 t101).f0), .string (⟨#[]⟩ : ByteArray), .int .i64 0, .int .i64 0, .int .i64 0, .int .i64 0, .int .i64 0, .int .i64 0]) ?_ 1 _ rfl; (with_reducible repeat (first | refine blk_drewN ?_ _ | refine blk_drew ?_ | refine blk_alloc ?_ _)); refine blk_put (cs := #[.int .i64 0, .string (⟨#[]⟩ : ByteArray), .int .i64 0, .int .i64 0, .int .i64 0, .int .i64 0, .int .i64 0, .int .i64 0]) ?_ 0 _ rfl; exact bS BK109.out) hb); have n2_ := Aside0.mk (below_step (by repeat (first | (with_reducible first | exact HB.out | apply below_alloc | apply pw_below_drewN | apply below_drew1 | refine below_set ?_ GE109.out) | exact HB.out)) hb); clear BK109; clear HB; have HO118 := n0_; have BK109 := n1_; have HB := n2_; clear n0_ n1_ n2_; (try clear hb); (try clear hb2); (try clear hk); (try clear hi); (try clear ho0)))
          go_ret2
          exact ⟨_, by first | rfl | (simp [errW_none, errW_some] <;> rfl) | (simp [*, errW_none, errW_some] <;> rfl), by exact Ho.RS <| Kd.R_mono HO118.out (fun _ hk => trivial), by exact eS HB.out⟩
        ·rw [if_neg c25] at H
         have c25b0 : (((rd_T41 l0 t101).f4) == 3) = false := beq_eq_false_iff_ne.mpr c25
         have c25b1 : (((rd_T41 l0 t101).f4) != 3) = true := bne_iff_ne.mpr c25
         replace H := Option.bind_eq_some_iff.mp H
         obtain ⟨⟨t120, t123⟩, A350, H⟩ := H
         replace H : (some (t120, t123)) = some (r1, r2) := H
         have A35 := Aside0.mk A350
         clear A350
         simp only [Option.some.injEq, Prod.mk.injEq] at H
         obtain ⟨rfl, rfl⟩ := H
         have p108 : 0 ≤ (t101 : Int) := of_decide_eq_true (by first | (with_reducible assumption) | assumption)
         have q108 : t101 < (l0.length : Int) := of_decide_eq_true (by first | (with_reducible assumption) | assumption)
         obtain ⟨ad108, e108, hx108_0, hx108_1, hx108_2, hx108_3, hx108_4, hx108_5, hx108_6, hx108_7⟩ := at_T41 HR0.out t101 p108 q108
         cases e108
         replace hx108_0 := (HB.out.cell (World.block_lt_of_cell? w _ hx108_0)).trans hx108_0
         replace hx108_1 := (HB.out.cell (World.block_lt_of_cell? w _ hx108_1)).trans hx108_1
         replace hx108_2 := (HB.out.cell (World.block_lt_of_cell? w _ hx108_2)).trans hx108_2
         replace hx108_3 := (HB.out.cell (World.block_lt_of_cell? w _ hx108_3)).trans hx108_3
         replace hx108_4 := (HB.out.cell (World.block_lt_of_cell? w _ hx108_4)).trans hx108_4
         replace hx108_5 := (HB.out.cell (World.block_lt_of_cell? w _ hx108_5)).trans hx108_5
         replace hx108_6 := (HB.out.cell (World.block_lt_of_cell? w _ hx108_6)).trans hx108_6
         replace hx108_7 := (HB.out.cell (World.block_lt_of_cell? w _ hx108_7)).trans hx108_7
         replace p108 := eq_true p108
         replace q108 := eq_true q108
         go_wp2_with (first | ((with_reducible refine gate_dst (N := 9) rfl ?_); refine box_event ?hg (N := 9) ?hd (cs := #[.int .i64 0, .string (⟨#[]⟩ : ByteArray), .int .i64 0, .int .i64 0, .int .i64 0, .int .i64 0, .int .i64 0, .int .i64 0]) (t := 41) ?hr ?_; (case hd => rfl); (case hg => rfl); (case hr => first | (go_simp; done) | (go_simp; rfl)); intro gb109 hg w36 hbox hb; have n0_ := Aside0.mk (below_step (by exact eS HB.out) hb); have n1_ := Aside0.mk (hbox); have n2_ := Aside0.mk ((by rw [hg]; exact (below_size (by exact eS HB.out)) : w.heap.size ≤ gb109)); have n3_ := Aside0.mk ((by rw [hg]; exact (below_size (by exact eS HB.out)) : w.heap.size ≤ gb109)); clear HB; have HB := n0_; have BK109 := n1_; have GW109 := n2_; have GE109 := n3_; clear n0_ n1_ n2_ n3_; clear hb hbox hg; have hcz37_0 : w36.cell? ⟨gb109, 0, none⟩ = some (.int .i64 0) := (blk_cell BK109.out 0).trans rfl; have hcz37_1 : w36.cell? ⟨gb109, 1, none⟩ = some (.string (⟨#[]⟩ : ByteArray)) := (blk_cell BK109.out 1).trans rfl; have hcz37_2 : w36.cell? ⟨gb109, 2, none⟩ = some (.int .i64 0) := (blk_cell BK109.out 2).trans rfl; have hcz37_3 : w36.cell? ⟨gb109, 3, none⟩ = some (.int .i64 0) := (blk_cell BK109.out 3).trans rfl; have hcz37_4 : w36.cell? ⟨gb109, 4, none⟩ = some (.int .i64 0) := (blk_cell BK109.out 4).trans rfl; have hcz37_5 : w36.cell? ⟨gb109, 5, none⟩ = some (.int .i64 0) := (blk_cell BK109.out 5).trans rfl; have hcz37_6 : w36.cell? ⟨gb109, 6, none⟩ = some (.int .i64 0) := (blk_cell BK109.out 6).trans rfl; have hcz37_7 : w36.cell? ⟨gb109, 7, none⟩ = some (.int .i64 0) := (blk_cell BK109.out 7).trans rfl; have hfz37_0 := blk_frozen BK109.out 0; have hfz37_1 := blk_frozen BK109.out 1; have hfz37_2 := blk_frozen BK109.out 2; have hfz37_3 := blk_frozen BK109.out 3; have hfz37_4 := blk_frozen BK109.out 4; have hfz37_5 := blk_frozen BK109.out 5; have hfz37_6 := blk_frozen BK109.out 6; have hfz37_7 := blk_frozen BK109.out 7) | ((with_reducible refine gate_callee (f := 83) rfl ?_); refine goesL_ (some 73) rfl rfl Tryd.func83 (by kernel_rfl) rfl #[.slice (some ad108) l0.length c0, .int .i64 t101, .agg #[.int .i64 ((rd_T41 l0 t101).f0), .string ((rd_T41 l0 t101).f1), .int .i64 ((rd_T41 l0 t101).f2), .int .i64 ((rd_T41 l0 t101).f3), .int .i64 (wrap64 (((rd_T41 l0 t101).f4) + 1)), .int .i64 ((rd_T41 l0 t101).f5), .int .i64 ((rd_T41 l0 t101).f6), .int .i64 a2]] rfl (by (try simp only [List.map_toArray, List.map_cons, List.map_nil]); first | done | rfl | (simp only [List.length_drop, List.length_take]; rfl)) ?_; (with_reducible refine (spec_l17With.calls kj4 _ _ l0 t101 ((rd_T41 l0 t101).f0) ((rd_T41 l0 t101).f1) ((rd_T41 l0 t101).f2) ((rd_T41 l0 t101).f3) (wrap64 (((rd_T41 l0 t101).f4) + 1)) ((rd_T41 l0 t101).f5) ((rd_T41 l0 t101).f6) a2 t120 t123 _ ?side1 ?side2 A35.out).mono ?_); (case side1 => exact Kd.C_below HR0.out (by repeat (first | (with_reducible first | exact HB.out | apply below_alloc | apply pw_below_drewN | apply below_drew1 | refine below_set ?_ GE109.out) | exact HB.out))); (case side2 => exact HC0.out); rintro e w38 ⟨v121, rfl, ho0, hb⟩; refine ⟨_, rfl, ?_⟩; have n0_ := Aside0.mk (Kd.R_lower (Kd.R_newB ho0 (g := gb109) (o := .cells #[.int .i64 ((rd_T41 l0 t101).f0), .string ((rd_T41 l0 t101).f1), .int .i64 ((rd_T41 l0 t101).f2), .int .i64 ((rd_T41 l0 t101).f3), .int .i64 (wrap64 (((rd_T41 l0 t101).f4) + 1)), .int .i64 ((rd_T41 l0 t101).f5), .int .i64 ((rd_T41 l0 t101).f6), .int .i64 a2] 41 (0, 0)) (by (with_reducible repeat (first | refine blk_drewN ?_ _ | refine blk_drew ?_ | refine blk_alloc ?_ _)); refine blk_put (cs := #[.int .i64 ((rd_T41 l0 t101).f0), .string ((rd_T41 l0 t101).f1), .int .i64 ((rd_T41 l0 t101).f2), .int .i64 ((rd_T41 l0 t101).f3), .int .i64 (wrap64 (((rd_T41 l0 t101).f4) + 1)), .int .i64 ((rd_T41 l0 t101).f5), .int .i64 ((rd_T41 l0 t101).f6), .int .i64 ((rd_T41 l0 t101).f7)]) ?_ 7 _ rfl; (with_reducible repeat (first | refine blk_drewN ?_ _ | refine blk_drew ?_ | refine blk_alloc ?_ _)); refine blk_put (cs := #[.int .i64 ((rd_T41 l0 t101).f0), .string ((rd_T41 l0 t101).f1), .int .i64 ((rd_T41 l0 t101).f2), .int .i64 ((rd_T41 l0 t101).f3), .int .i64 ((rd_T41 l0 t101).f4), .int .i64 ((rd_T41 l0 t101).f5), .int .i64 ((rd_T41 l0 t101).f6), .int .i64 ((rd_T41 l0 t101).f7)]) ?_ 4 _ rfl; (with_reducible repeat (first | refine blk_drewN ?_ _ | refine blk_drew ?_ | refine blk_alloc ?_ _)); refine blk_put (cs := #[.int .i64 ((rd_T41 l0 t101).f0), .string ((rd_T41 l0 t101).f1), .int .i64 ((rd_T41 l0 t101).f2), .int .i64 ((rd_T41 l0 t101).f3), .int .i64 ((rd_T41 l0 t101).f4), .int .i64 ((rd_T41 l0 t101).f5), .int .i64 ((rd_T41 l0 t101).f6), .int .i64 0]) ?_ 7 _ rfl; (with_reducible repeat (first | refine blk_drewN ?_ _ | refine blk_drew ?_ | refine blk_alloc ?_ _)); refine blk_put (cs := #[.int .i64 ((rd_T41 l0 t101).f0), .string ((rd_T41 l0 t101).f1), .int .i64 ((rd_T41 l0 t101).f2), .int .i64 ((rd_T41 l0 t101).f3), .int .i64 ((rd_T41 l0 t101).f4), .int .i64 ((rd_T41 l0 t101).f5), .int .i64 0, .int .i64 0]) ?_ 6 _ rfl; (with_reducible repeat (first | refine blk_drewN ?_ _ | refine blk_drew ?_ | refine blk_alloc ?_ _)); refine blk_put (cs := #[.int .i64 ((rd_T41 l0 t101).f0), .string ((rd_T41 l0 t101).f1), .int .i64 ((rd_T41 l0 t101).f2), .int .i64 ((rd_T41 l0 t101).f3), .int .i64 ((rd_T41 l0 t101).f4), .int .i64 0, .int .i64 0, .int .i64 0]) ?_ 5 _ rfl; (with_reducible repeat (first | refine blk_drewN ?_ _ | refine blk_drew ?_ | refine blk_alloc ?_ _)); refine blk_put (cs := #[.int .i64 ((rd_T41 l0 t101).f0), .string ((rd_T41 l0 t101).f1), .int .i64 ((rd_T41 l0 t101).f2), .int .i64 ((rd_T41 l0 t101).f3), .int .i64 0, .int .i64 0, .int .i64 0, .int .i64 0]) ?_ 4 _ rfl; (with_reducible repeat (first | refine blk_drewN ?_ _ | refine blk_drew ?_ | refine blk_alloc ?_ _)); refine blk_put (cs := #[.int .i64 ((rd_T41 l0 t101).f0), .string ((rd_T41 l0 t101).f1), .int .i64 ((rd_T41 l0 t101).f2), .int .i64 0, .int .i64 0, .int .i64 0, .int .i64 0, .int .i64 0]) ?_ 3 _ rfl; (with_reducible repeat (first | refine blk_drewN ?_ _ | refine blk_drew ?_ | refine blk_alloc ?_ _)); refine blk_put (cs := #[.int .i64 ((rd_T41 l0 t101).f0), .string ((rd_T41 l0 t101).f1), .int .i64 0, .int .i64 0, .int .i64 0, .int .i64 0, .int .i64 0, .int .i64 0]) ?_ 2 _ rfl; (with_reducible repeat (first | refine blk_drewN ?_ _ | refine blk_drew ?_ | refine blk_alloc ?_ _)); refine blk_put (cs := #[.int .i64 ((rd_T41 l0 t101).f0), .string (⟨#[]⟩ : ByteArray), .int .i64 0, .int .i64 0, .int .i64 0, .int .i64 0, .int .i64 0, .int .i64 0]) ?_ 1 _ rfl; (with_reducible repeat (first | refine blk_drewN ?_ _ | refine blk_drew ?_ | refine blk_alloc ?_ _)); refine blk_put (cs := #[.int .i64 0, .string (⟨#[]⟩ : ByteArray), .int .i64 0, .int .i64 0, .int .i64 0, .int .i64 0, .int .i64 0, .int .i64 0]) ?_ 0 _ rfl; exact bS BK109.out)) (below_size (by repeat (first | (with_reducible first | exact HB.out | apply below_alloc | apply pw_below_drewN | apply below_drew1 | refine below_set ?_ GE109.out) | exact HB.out)))); have n1_ := Aside0.mk (blk_below (g := gb109) (o := .cells #[.int .i64 ((rd_T41 l0 t101).f0), .string ((rd_T41 l0 t101).f1), .int .i64 ((rd_T41 l0 t101).f2), .int .i64 ((rd_T41 l0 t101).f3), .int .i64 (wrap64 (((rd_T41 l0 t101).f4) + 1)), .int .i64 ((rd_T41 l0 t101).f5), .int .i64 ((rd_T41 l0 t101).f6), .int .i64 a2] 41 (0, 0)) (by (with_reducible repeat (first | refine blk_drewN ?_ _ | refine blk_drew ?_ | refine blk_alloc ?_ _)); refine blk_put (cs := #[.int .i64 ((rd_T41 l0 t101).f0), .string ((rd_T41 l0 t101).f1), .int .i64 ((rd_T41 l0 t101).f2), .int .i64 ((rd_T41 l0 t101).f3), .int .i64 (wrap64 (((rd_T41 l0 t101).f4) + 1)), .int .i64 ((rd_T41 l0 t101).f5), .int .i64 ((rd_T41 l0 t101).f6), .int .i64 ((rd_T41 l0 t101).f7)]) ?_ 7 _ rfl; (with_reducible repeat (first | refine blk_drewN ?_ _ | refine blk_drew ?_ | refine blk_alloc ?_ _)); refine blk_put (cs := #[.int .i64 ((rd_T41 l0 t101).f0), .string ((rd_T41 l0 t101).f1), .int .i64 ((rd_T41 l0 t101).f2), .int .i64 ((rd_T41 l0 t101).f3), .int .i64 ((rd_T41 l0 t101).f4), .int .i64 ((rd_T41 l0 t101).f5), .int .i64 ((rd_T41 l0 t101).f6), .int .i64 ((rd_T41 l0 t101).f7)]) ?_ 4 _ rfl; (with_reducible repeat (first | refine blk_drewN ?_ _ | refine blk_drew ?_ | refine blk_alloc ?_ _)); refine blk_put (cs := #[.int .i64 ((rd_T41 l0 t101).f0), .string ((rd_T41 l0 t101).f1), .int .i64 ((rd_T41 l0 t101).f2), .int .i64 ((rd_T41 l0 t101).f3), .int .i64 ((rd_T41 l0 t101).f4), .int .i64 ((rd_T41 l0 t101).f5), .int .i64 ((rd_T41 l0 t101).f6), .int .i64 0]) ?_ 7 _ rfl; (with_reducible repeat (first | refine blk_drewN ?_ _ | refine blk_drew ?_ | refine blk_alloc ?_ _)); refine blk_put (cs := #[.int .i64 ((rd_T41 l0 t101).f0), .string ((rd_T41 l0 t101).f1), .int .i64 ((rd_T41 l0 t101).f2), .int .i64 ((rd_T41 l0 t101).f3), .int .i64 ((rd_T41 l0 t101).f4), .int .i64 ((rd_T41 l0 t101).f5), .int .i64 0, .int .i64 0]) ?_ 6 _ rfl; (with_reducible repeat (first | refine blk_drewN ?_ _ | refine blk_drew ?_ | refine blk_alloc ?_ _)); refine blk_put (cs := #[.int .i64 ((rd_T41 l0 t101).f0), .string ((rd_T41 l0 t101).f1), .int .i64 ((rd_T41 l0 t101).f2), .int .i64 ((rd_T41 l0 t101).f3), .int .i64 ((rd_T41 l0 t101).f4), .int .i64 0, .int .i64 0, .int .i64 0]) ?_ 5 _ rfl; (with_reducible repeat (first | refine blk_drewN ?_ _ | refine blk_drew ?_ | refine blk_alloc ?_ _)); refine blk_put (cs := #[.int .i64 ((rd_T41 l0 t101).f0), .string ((rd_T41 l0 t101).f1), .int .i64 ((rd_T41 l0 t101).f2), .int .i64 ((rd_T41 l0 t101).f3), .int .i64 0, .int .i64 0, .int .i64 0, .int .i64 0]) ?_ 4 _ rfl; (with_reducible repeat (first | refine blk_drewN ?_ _ | refine blk_drew ?_ | refine blk_alloc ?_ _)); refine blk_put (cs := #[.int .i64 ((rd_T41 l0 t101).f0), .string ((rd_T41 l0 t101).f1), .int .i64 ((rd_T41 l0 t101).f2), .int .i64 0, .int .i64 0, .int .i64 0, .int .i64 0, .int .i64 0]) ?_ 3 _ rfl; (with_reducible repeat (first | refine blk_drewN ?_ _ | refine blk_drew ?_ | refine blk_alloc ?_ _)); refine blk_put (cs := #[.int .i64 ((rd_T41 l0 t101).f0), .string ((rd_T41 l0 t101).f1), .int .i64 0, .int .i64 0, .int .i64 0, .int .i64 0, .int .i64 0, .int .i64 0]) ?_ 2 _ rfl; (with_reducible repeat (first | refine blk_drewN ?_ _ | refine blk_drew ?_ | refine blk_alloc ?_ _)); refine blk_put (cs := #[.int .i64 ((rd_T41 l0 t101).f0), .string (⟨#[]⟩ : ByteArray), .int .i64 0, .int .i64 0, .int .i64 0, .int .i64 0, .int .i64 0, .int .i64 0]) ?_ 1 _ rfl; (with_reducible repeat (first | refine blk_drewN ?_ _ | refine blk_drew ?_ | refine blk_alloc ?_ _)); refine blk_put (cs := #[.int .i64 0, .string (⟨#[]⟩ : ByteArray), .int .i64 0, .int .i64 0, .int .i64 0, .int .i64 0, .int .i64 0, .int .i64 0]) ?_ 0 _ rfl; exact bS BK109.out) hb); have n2_ := Aside0.mk (below_step (by repeat (first | (with_reducible first | exact HB.out | apply below_alloc | apply pw_below_drewN | apply below_drew1 | refine below_set ?_ GE109.out) | exact HB.out)) hb); clear BK109; clear HB; have HO122 := n0_; have BK109 := n1_; have HB := n2_; clear n0_ n1_ n2_; (try clear hb); (try clear hb2); (try clear hk); (try clear hi); (try clear ho0)))
         go_ret2
         exact ⟨_, by first | rfl | (simp [errW_none, errW_some] <;> rfl) | (simp [*, errW_none, errW_some] <;> rfl), by exact Ho.RS <| Kd.R_mono HO122.out (fun _ hk => trivial), by exact eS HB.out⟩
      ·rw [if_neg c19] at H
       have c19b0 : (((rd_T41 l0 t101).f4) == 0) = false := beq_eq_false_iff_ne.mpr c19
       have c19b1 : (((rd_T41 l0 t101).f4) != 0) = true := bne_iff_ne.mpr c19
       by_cases c39 : ((rd_T41 l0 t101).f4) = 3
       ·rw [if_pos c39] at H
        have c39b0 : (((rd_T41 l0 t101).f4) == 3) = true := beq_iff_eq.mpr c39
        have c39b1 : (((rd_T41 l0 t101).f4) != 3) = false := bne_eq_false_iff_eq.mpr c39
        clear c39
        by_cases c40 : ((rd_T41 l0 t101).f6) < ((rd_T41 l0 t101).f5)
        ·rw [if_pos c40] at H
         have c40b0 : decide (((rd_T41 l0 t101).f6) < ((rd_T41 l0 t101).f5)) = true := decide_eq_true c40
         clear c40
         obtain ⟨y124, hy124⟩ : ∃ y_ : List (S41), y_ = (([] : List (S41))) := ⟨_, rfl⟩
         replace H : (some (y124, false)) = some (r1, r2) := by first | (rw [hy124]; with_reducible exact H) | (have H2_ := (Option.bind_some _ _).symm.trans H; rw [hy124]; with_reducible exact H2_) | (have H2_ := (Option.bind_some _ _).symm.trans H; with_reducible exact H2_) | with_reducible exact H | (rw [hy124]; exact H) | exact H
         have Ny124 := Aside0.mk hy124
         clear hy124
         simp only [Option.some.injEq, Prod.mk.injEq] at H
         obtain ⟨rfl, rfl⟩ := H
         have p108 : 0 ≤ (t101 : Int) := of_decide_eq_true (by first | (with_reducible assumption) | assumption)
         have q108 : t101 < (l0.length : Int) := of_decide_eq_true (by first | (with_reducible assumption) | assumption)
         obtain ⟨ad108, e108, hx108_0, hx108_1, hx108_2, hx108_3, hx108_4, hx108_5, hx108_6, hx108_7⟩ := at_T41 HR0.out t101 p108 q108
         cases e108
         replace hx108_0 := (HB.out.cell (World.block_lt_of_cell? w _ hx108_0)).trans hx108_0
         replace hx108_1 := (HB.out.cell (World.block_lt_of_cell? w _ hx108_1)).trans hx108_1
         replace hx108_2 := (HB.out.cell (World.block_lt_of_cell? w _ hx108_2)).trans hx108_2
         replace hx108_3 := (HB.out.cell (World.block_lt_of_cell? w _ hx108_3)).trans hx108_3
         replace hx108_4 := (HB.out.cell (World.block_lt_of_cell? w _ hx108_4)).trans hx108_4
         replace hx108_5 := (HB.out.cell (World.block_lt_of_cell? w _ hx108_5)).trans hx108_5
         replace hx108_6 := (HB.out.cell (World.block_lt_of_cell? w _ hx108_6)).trans hx108_6
         replace hx108_7 := (HB.out.cell (World.block_lt_of_cell? w _ hx108_7)).trans hx108_7
         replace p108 := eq_true p108
         replace q108 := eq_true q108
         go_wp2_with (first | ((with_reducible refine gate_dst (N := 9) rfl ?_); refine box_event ?hg (N := 9) ?hd (cs := #[.int .i64 0, .string (⟨#[]⟩ : ByteArray), .int .i64 0, .int .i64 0, .int .i64 0, .int .i64 0, .int .i64 0, .int .i64 0]) (t := 41) ?hr ?_; (case hd => rfl); (case hg => rfl); (case hr => first | (go_simp; done) | (go_simp; rfl)); intro gb109 hg w41 hbox hb; have n0_ := Aside0.mk (below_step (by exact eS HB.out) hb); have n1_ := Aside0.mk (hbox); have n2_ := Aside0.mk ((by rw [hg]; exact (below_size (by exact eS HB.out)) : w.heap.size ≤ gb109)); have n3_ := Aside0.mk ((by rw [hg]; exact (below_size (by exact eS HB.out)) : w.heap.size ≤ gb109)); clear HB; have HB := n0_; have BK109 := n1_; have GW109 := n2_; have GE109 := n3_; clear n0_ n1_ n2_ n3_; clear hb hbox hg; have hcz42_0 : w41.cell? ⟨gb109, 0, none⟩ = some (.int .i64 0) := (blk_cell BK109.out 0).trans rfl; have hcz42_1 : w41.cell? ⟨gb109, 1, none⟩ = some (.string (⟨#[]⟩ : ByteArray)) := (blk_cell BK109.out 1).trans rfl; have hcz42_2 : w41.cell? ⟨gb109, 2, none⟩ = some (.int .i64 0) := (blk_cell BK109.out 2).trans rfl; have hcz42_3 : w41.cell? ⟨gb109, 3, none⟩ = some (.int .i64 0) := (blk_cell BK109.out 3).trans rfl; have hcz42_4 : w41.cell? ⟨gb109, 4, none⟩ = some (.int .i64 0) := (blk_cell BK109.out 4).trans rfl; have hcz42_5 : w41.cell? ⟨gb109, 5, none⟩ = some (.int .i64 0) := (blk_cell BK109.out 5).trans rfl; have hcz42_6 : w41.cell? ⟨gb109, 6, none⟩ = some (.int .i64 0) := (blk_cell BK109.out 6).trans rfl; have hcz42_7 : w41.cell? ⟨gb109, 7, none⟩ = some (.int .i64 0) := (blk_cell BK109.out 7).trans rfl; have hfz42_0 := blk_frozen BK109.out 0; have hfz42_1 := blk_frozen BK109.out 1; have hfz42_2 := blk_frozen BK109.out 2; have hfz42_3 := blk_frozen BK109.out 3; have hfz42_4 := blk_frozen BK109.out 4; have hfz42_5 := blk_frozen BK109.out 5; have hfz42_6 := blk_frozen BK109.out 6; have hfz42_7 := blk_frozen BK109.out 7) | ((with_reducible refine gate_dst (N := 62) rfl ?_); refine Kd.R_lit k41 _ 41 ?hg (N := 62) ?hd (xs := ([] : List (S41))) (inner := []) (ok := fun _ => True) (okp := fun _ => True) ?hr ?hp (fun _ hk => hk) trivial (Below.refl _ _) (Nat.le_refl _) (by simp) ?_; (case hd => rfl); (case hg => rfl); (case hr => first | (go_simp; done) | (go_simp; rfl)); (case hp => exact (Reps.none _ _)); intro v125 w43 ho44 hb hg_ hnew_; clear hg_ hnew_; (first | rw [← Ny124.out] at ho44 | (simp only [Int.reduceToNat] at ho44; rw [← Ny124.out] at ho44)); have n0_ := Aside0.mk (Kd.R_lower (Kd.R_newB ho44 (g := gb109) (o := .cells #[.int .i64 ((rd_T41 l0 t101).f0), .string ((rd_T41 l0 t101).f1), .int .i64 ((rd_T41 l0 t101).f2), .int .i64 ((rd_T41 l0 t101).f3), .int .i64 ((rd_T41 l0 t101).f4), .int .i64 ((rd_T41 l0 t101).f5), .int .i64 ((rd_T41 l0 t101).f6), .int .i64 ((rd_T41 l0 t101).f7)] 41 (0, 0)) (by (with_reducible repeat (first | refine blk_drewN ?_ _ | refine blk_drew ?_ | refine blk_alloc ?_ _)); refine blk_put (cs := #[.int .i64 ((rd_T41 l0 t101).f0), .string ((rd_T41 l0 t101).f1), .int .i64 ((rd_T41 l0 t101).f2), .int .i64 ((rd_T41 l0 t101).f3), .int .i64 ((rd_T41 l0 t101).f4), .int .i64 ((rd_T41 l0 t101).f5), .int .i64 ((rd_T41 l0 t101).f6), .int .i64 0]) ?_ 7 _ rfl; (with_reducible repeat (first | refine blk_drewN ?_ _ | refine blk_drew ?_ | refine blk_alloc ?_ _)); refine blk_put (cs := #[.int .i64 ((rd_T41 l0 t101).f0), .string ((rd_T41 l0 t101).f1), .int .i64 ((rd_T41 l0 t101).f2), .int .i64 ((rd_T41 l0 t101).f3), .int .i64 ((rd_T41 l0 t101).f4), .int .i64 ((rd_T41 l0 t101).f5), .int .i64 0, .int .i64 0]) ?_ 6 _ rfl; (with_reducible repeat (first | refine blk_drewN ?_ _ | refine blk_drew ?_ | refine blk_alloc ?_ _)); refine blk_put (cs := #[.int .i64 ((rd_T41 l0 t101).f0), .string ((rd_T41 l0 t101).f1), .int .i64 ((rd_T41 l0 t101).f2), .int .i64 ((rd_T41 l0 t101).f3), .int .i64 ((rd_T41 l0 t101).f4), .int .i64 0, .int .i64 0, .int .i64 0]) ?_ 5 _ rfl; (with_reducible repeat (first | refine blk_drewN ?_ _ | refine blk_drew ?_ | refine blk_alloc ?_ _)); refine blk_put (cs := #[.int .i64 ((rd_T41 l0 t101).f0), .string ((rd_T41 l0 t101).f1), .int .i64 ((rd_T41 l0 t101).f2), .int .i64 ((rd_T41 l0 t101).f3), .int .i64 0, .int .i64 0, .int .i64 0, .int .i64 0]) ?_ 4 _ rfl; (with_reducible repeat (first | refine blk_drewN ?_ _ | refine blk_drew ?_ | refine blk_alloc ?_ _)); refine blk_put (cs := #[.int .i64 ((rd_T41 l0 t101).f0), .string ((rd_T41 l0 t101).f1), .int .i64 ((rd_T41 l0 t101).f2), .int .i64 0, .int .i64 0, .int .i64 0, .int .i64 0, .int .i64 0]) ?_ 3 _ rfl; (with_reducible repeat (first | refine blk_drewN ?_ _ | refine blk_drew ?_ | refine blk_alloc ?_ _)); refine blk_put (cs := #[.int .i64 ((rd_T41 l0 t101).f0), .string ((rd_T41 l0 t101).f1), .int .i64 0, .int .i64 0, .int .i64 0, .int .i64 0, .int .i64 0, .int .i64 0]) ?_ 2 _ rfl; (with_reducible repeat (first | refine blk_drewN ?_ _ | refine blk_drew ?_ | refine blk_alloc ?_ _)); refine blk_put (cs := #[.int .i64 ((rd_T41 l0 t101).f0), .string (⟨#[]⟩ : ByteArray), .int .i64 0, .int .i64 0, .int .i64 0, .int .i64 0, .int .i64 0, .int .i64 0]) ?_ 1 _ rfl; (with_reducible repeat (first | refine blk_drewN ?_ _ | refine blk_drew ?_ | refine blk_alloc ?_ _)); refine blk_put (cs := #[.int .i64 0, .string (⟨#[]⟩ : ByteArray), .int .i64 0, .int .i64 0, .int .i64 0, .int .i64 0, .int .i64 0, .int .i64 0]) ?_ 0 _ rfl; exact bS BK109.out)) (below_size (by repeat (first | (with_reducible first | exact HB.out | apply below_alloc | apply pw_below_drewN | apply below_drew1 | refine below_set ?_ GE109.out) | exact HB.out)))); have n1_ := Aside0.mk (blk_below (g := gb109) (o := .cells #[.int .i64 ((rd_T41 l0 t101).f0), .string ((rd_T41 l0 t101).f1), .int .i64 ((rd_T41 l0 t101).f2), .int .i64 ((rd_T41 l0 t101).f3), .int .i64 ((rd_T41 l0 t101).f4), .int .i64 ((rd_T41 l0 t101).f5), .int .i64 ((rd_T41 l0 t101).f6), .int .i64 ((rd_T41 l0 t101).f7)] 41 (0, 0)) (by (with_reducible repeat (first | refine blk_drewN ?_ _ | refine blk_drew ?_ | refine blk_alloc ?_ _)); refine blk_put (cs := #[.int .i64 ((rd_T41 l0 t101).f0), .string ((rd_T41 l0 t101).f1), .int .i64 ((rd_T41 l0 t101).f2), .int .i64 ((rd_T41 l0 t101).f3), .int .i64 ((rd_T41 l0 t101).f4), .int .i64 ((rd_T41 l0 t101).f5), .int .i64 ((rd_T41 l0 t101).f6), .int .i64 0]) ?_ 7 _ rfl; (with_reducible repeat (first | refine blk_drewN ?_ _ | refine blk_drew ?_ | refine blk_alloc ?_ _)); refine blk_put (cs := #[.int .i64 ((rd_T41 l0 t101).f0), .string ((rd_T41 l0 t101).f1), .int .i64 ((rd_T41 l0 t101).f2), .int .i64 ((rd_T41 l0 t101).f3), .int .i64 ((rd_T41 l0 t101).f4), .int .i64 ((rd_T41 l0 t101).f5), .int .i64 0, .int .i64 0]) ?_ 6 _ rfl; (with_reducible repeat (first | refine blk_drewN ?_ _ | refine blk_drew ?_ | refine blk_alloc ?_ _)); refine blk_put (cs := #[.int .i64 ((rd_T41 l0 t101).f0), .string ((rd_T41 l0 t101).f1), .int .i64 ((rd_T41 l0 t101).f2), .int .i64 ((rd_T41 l0 t101).f3), .int .i64 ((rd_T41 l0 t101).f4), .int .i64 0, .int .i64 0, .int .i64 0]) ?_ 5 _ rfl; (with_reducible repeat (first | refine blk_drewN ?_ _ | refine blk_drew ?_ | refine blk_alloc ?_ _)); refine blk_put (cs := #[.int .i64 ((rd_T41 l0 t101).f0), .string ((rd_T41 l0 t101).f1), .int .i64 ((rd_T41 l0 t101).f2), .int .i64 ((rd_T41 l0 t101).f3), .int .i64 0, .int .i64 0, .int .i64 0, .int .i64 0]) ?_ 4 _ rfl; (with_reducible repeat (first | refine blk_drewN ?_ _ | refine blk_drew ?_ | refine blk_alloc ?_ _)); refine blk_put (cs := #[.int .i64 ((rd_T41 l0 t101).f0), .string ((rd_T41 l0 t101).f1), .int .i64 ((rd_T41 l0 t101).f2), .int .i64 0, .int .i64 0, .int .i64 0, .int .i64 0, .int .i64 0]) ?_ 3 _ rfl; (with_reducible repeat (first | refine blk_drewN ?_ _ | refine blk_drew ?_ | refine blk_alloc ?_ _)); refine blk_put (cs := #[.int .i64 ((rd_T41 l0 t101).f0), .string ((rd_T41 l0 t101).f1), .int .i64 0, .int .i64 0, .int .i64 0, .int .i64 0, .int .i64 0, .int .i64 0]) ?_ 2 _ rfl; (with_reducible repeat (first | refine blk_drewN ?_ _ | refine blk_drew ?_ | refine blk_alloc ?_ _)); refine blk_put (cs := #[.int .i64 ((rd_T41 l0 t101).f0), .string (⟨#[]⟩ : ByteArray), .int .i64 0, .int .i64 0, .int .i64 0, .int .i64 0, .int .i64 0, .int .i64 0]) ?_ 1 _ rfl; (with_reducible repeat (first | refine blk_drewN ?_ _ | refine blk_drew ?_ | refine blk_alloc ?_ _)); refine blk_put (cs := #[.int .i64 0, .string (⟨#[]⟩ : ByteArray), .int .i64 0, .int .i64 0, .int .i64 0, .int .i64 0, .int .i64 0, .int .i64 0]) ?_ 0 _ rfl; exact bS BK109.out) hb); have n2_ := Aside0.mk (below_step (by repeat (first | (with_reducible first | exact HB.out | apply below_alloc | apply pw_below_drewN | apply below_drew1 | refine below_set ?_ GE109.out) | exact HB.out)) hb); clear BK109; clear HB; have HO126 := n0_; have BK109 := n1_; have HB := n2_; clear n0_ n1_ n2_; clear hb ho44))
         go_ret2
         exact ⟨_, by first | rfl | (simp [errW_none, errW_some] <;> rfl) | (simp [*, errW_none, errW_some] <;> rfl), by exact Ho.RS <| Kd.R_mono HO126.out (fun _ hk => trivial), by exact eS HB.out⟩
        ·rw [if_neg c40] at H
         have c40b0 : decide (((rd_T41 l0 t101).f6) < ((rd_T41 l0 t101).f5)) = false := decide_eq_false c40
         clear c40
         replace H := Option.bind_eq_some_iff.mp H
         obtain ⟨⟨t127, t130⟩, A450, H⟩ := H
         replace H : (some (t127, t130)) = some (r1, r2) := H
         have A45 := Aside0.mk A450
         clear A450
         simp only [Option.some.injEq, Prod.mk.injEq] at H
         obtain ⟨rfl, rfl⟩ := H
         have p108 : 0 ≤ (t101 : Int) := of_decide_eq_true (by first | (with_reducible assumption) | assumption)
         have q108 : t101 < (l0.length : Int) := of_decide_eq_true (by first | (with_reducible assumption) | assumption)
         obtain ⟨ad108, e108, hx108_0, hx108_1, hx108_2, hx108_3, hx108_4, hx108_5, hx108_6, hx108_7⟩ := at_T41 HR0.out t101 p108 q108
         cases e108
         replace hx108_0 := (HB.out.cell (World.block_lt_of_cell? w _ hx108_0)).trans hx108_0
         replace hx108_1 := (HB.out.cell (World.block_lt_of_cell? w _ hx108_1)).trans hx108_1
         replace hx108_2 := (HB.out.cell (World.block_lt_of_cell? w _ hx108_2)).trans hx108_2
         replace hx108_3 := (HB.out.cell (World.block_lt_of_cell? w _ hx108_3)).trans hx108_3
         replace hx108_4 := (HB.out.cell (World.block_lt_of_cell? w _ hx108_4)).trans hx108_4
         replace hx108_5 := (HB.out.cell (World.block_lt_of_cell? w _ hx108_5)).trans hx108_5
         replace hx108_6 := (HB.out.cell (World.block_lt_of_cell? w _ hx108_6)).trans hx108_6
         replace hx108_7 := (HB.out.cell (World.block_lt_of_cell? w _ hx108_7)).trans hx108_7
         replace p108 := eq_true p108
         replace q108 := eq_true q108
         go_wp2_with (first | ((with_reducible refine gate_dst (N := 9) rfl ?_); refine box_event ?hg (N := 9) ?hd (cs := #[.int .i64 0, .string (⟨#[]⟩ : ByteArray), .int .i64 0, .int .i64 0, .int .i64 0, .int .i64 0, .int .i64 0, .int .i64 0]) (t := 41) ?hr ?_; (case hd => rfl); (case hg => rfl); (case hr => first | (go_simp; done) | (go_simp; rfl)); intro gb109 hg w46 hbox hb; have n0_ := Aside0.mk (below_step (by exact eS HB.out) hb); have n1_ := Aside0.mk (hbox); have n2_ := Aside0.mk ((by rw [hg]; exact (below_size (by exact eS HB.out)) : w.heap.size ≤ gb109)); have n3_ := Aside0.mk ((by rw [hg]; exact (below_size (by exact eS HB.out)) : w.heap.size ≤ gb109)); clear HB; have HB := n0_; have BK109 := n1_; have GW109 := n2_; have GE109 := n3_; clear n0_ n1_ n2_ n3_; clear hb hbox hg; have hcz47_0 : w46.cell? ⟨gb109, 0, none⟩ = some (.int .i64 0) := (blk_cell BK109.out 0).trans rfl; have hcz47_1 : w46.cell? ⟨gb109, 1, none⟩ = some (.string (⟨#[]⟩ : ByteArray)) := (blk_cell BK109.out 1).trans rfl; have hcz47_2 : w46.cell? ⟨gb109, 2, none⟩ = some (.int .i64 0) := (blk_cell BK109.out 2).trans rfl; have hcz47_3 : w46.cell? ⟨gb109, 3, none⟩ = some (.int .i64 0) := (blk_cell BK109.out 3).trans rfl; have hcz47_4 : w46.cell? ⟨gb109, 4, none⟩ = some (.int .i64 0) := (blk_cell BK109.out 4).trans rfl; have hcz47_5 : w46.cell? ⟨gb109, 5, none⟩ = some (.int .i64 0) := (blk_cell BK109.out 5).trans rfl; have hcz47_6 : w46.cell? ⟨gb109, 6, none⟩ = some (.int .i64 0) := (blk_cell BK109.out 6).trans rfl; have hcz47_7 : w46.cell? ⟨gb109, 7, none⟩ = some (.int .i64 0) := (blk_cell BK109.out 7).trans rfl; have hfz47_0 := blk_frozen BK109.out 0; have hfz47_1 := blk_frozen BK109.out 1; have hfz47_2 := blk_frozen BK109.out 2; have hfz47_3 := blk_frozen BK109.out 3; have hfz47_4 := blk_frozen BK109.out 4; have hfz47_5 := blk_frozen BK109.out 5; have hfz47_6 := blk_frozen BK109.out 6; have hfz47_7 := blk_frozen BK109.out 7) | ((with_reducible refine gate_callee (f := 83) rfl ?_); refine goesL_ (some 73) rfl rfl Tryd.func83 (by kernel_rfl) rfl #[.slice (some ad108) l0.length c0, .int .i64 t101, .agg #[.int .i64 ((rd_T41 l0 t101).f0), .string ((rd_T41 l0 t101).f1), .int .i64 ((rd_T41 l0 t101).f2), .int .i64 ((rd_T41 l0 t101).f3), .int .i64 (wrap64 (((rd_T41 l0 t101).f4) + 1)), .int .i64 ((rd_T41 l0 t101).f5), .int .i64 ((rd_T41 l0 t101).f6), .int .i64 a2]] rfl (by (try simp only [List.map_toArray, List.map_cons, List.map_nil]); first | done | rfl | (simp only [List.length_drop, List.length_take]; rfl)) ?_; (with_reducible refine (spec_l17With.calls kj4 _ _ l0 t101 ((rd_T41 l0 t101).f0) ((rd_T41 l0 t101).f1) ((rd_T41 l0 t101).f2) ((rd_T41 l0 t101).f3) (wrap64 (((rd_T41 l0 t101).f4) + 1)) ((rd_T41 l0 t101).f5) ((rd_T41 l0 t101).f6) a2 t127 t130 _ ?side1 ?side2 A45.out).mono ?_); (case side1 => exact Kd.C_below HR0.out (by repeat (first | (with_reducible first | exact HB.out | apply below_alloc | apply pw_below_drewN | apply below_drew1 | refine below_set ?_ GE109.out) | exact HB.out))); (case side2 => exact HC0.out); rintro e w48 ⟨v128, rfl, ho0, hb⟩; refine ⟨_, rfl, ?_⟩; have n0_ := Aside0.mk (Kd.R_lower (Kd.R_newB ho0 (g := gb109) (o := .cells #[.int .i64 ((rd_T41 l0 t101).f0), .string ((rd_T41 l0 t101).f1), .int .i64 ((rd_T41 l0 t101).f2), .int .i64 ((rd_T41 l0 t101).f3), .int .i64 (wrap64 (((rd_T41 l0 t101).f4) + 1)), .int .i64 ((rd_T41 l0 t101).f5), .int .i64 ((rd_T41 l0 t101).f6), .int .i64 a2] 41 (0, 0)) (by (with_reducible repeat (first | refine blk_drewN ?_ _ | refine blk_drew ?_ | refine blk_alloc ?_ _)); refine blk_put (cs := #[.int .i64 ((rd_T41 l0 t101).f0), .string ((rd_T41 l0 t101).f1), .int .i64 ((rd_T41 l0 t101).f2), .int .i64 ((rd_T41 l0 t101).f3), .int .i64 (wrap64 (((rd_T41 l0 t101).f4) + 1)), .int .i64 ((rd_T41 l0 t101).f5), .int .i64 ((rd_T41 l0 t101).f6), .int .i64 ((rd_T41 l0 t101).f7)]) ?_ 7 _ rfl; (with_reducible repeat (first | refine blk_drewN ?_ _ | refine blk_drew ?_ | refine blk_alloc ?_ _)); refine blk_put (cs := #[.int .i64 ((rd_T41 l0 t101).f0), .string ((rd_T41 l0 t101).f1), .int .i64 ((rd_T41 l0 t101).f2), .int .i64 ((rd_T41 l0 t101).f3), .int .i64 ((rd_T41 l0 t101).f4), .int .i64 ((rd_T41 l0 t101).f5), .int .i64 ((rd_T41 l0 t101).f6), .int .i64 ((rd_T41 l0 t101).f7)]) ?_ 4 _ rfl; (with_reducible repeat (first | refine blk_drewN ?_ _ | refine blk_drew ?_ | refine blk_alloc ?_ _)); refine blk_put (cs := #[.int .i64 ((rd_T41 l0 t101).f0), .string ((rd_T41 l0 t101).f1), .int .i64 ((rd_T41 l0 t101).f2), .int .i64 ((rd_T41 l0 t101).f3), .int .i64 ((rd_T41 l0 t101).f4), .int .i64 ((rd_T41 l0 t101).f5), .int .i64 ((rd_T41 l0 t101).f6), .int .i64 0]) ?_ 7 _ rfl; (with_reducible repeat (first | refine blk_drewN ?_ _ | refine blk_drew ?_ | refine blk_alloc ?_ _)); refine blk_put (cs := #[.int .i64 ((rd_T41 l0 t101).f0), .string ((rd_T41 l0 t101).f1), .int .i64 ((rd_T41 l0 t101).f2), .int .i64 ((rd_T41 l0 t101).f3), .int .i64 ((rd_T41 l0 t101).f4), .int .i64 ((rd_T41 l0 t101).f5), .int .i64 0, .int .i64 0]) ?_ 6 _ rfl; (with_reducible repeat (first | refine blk_drewN ?_ _ | refine blk_drew ?_ | refine blk_alloc ?_ _)); refine blk_put (cs := #[.int .i64 ((rd_T41 l0 t101).f0), .string ((rd_T41 l0 t101).f1), .int .i64 ((rd_T41 l0 t101).f2), .int .i64 ((rd_T41 l0 t101).f3), .int .i64 ((rd_T41 l0 t101).f4), .int .i64 0, .int .i64 0, .int .i64 0]) ?_ 5 _ rfl; (with_reducible repeat (first | refine blk_drewN ?_ _ | refine blk_drew ?_ | refine blk_alloc ?_ _)); refine blk_put (cs := #[.int .i64 ((rd_T41 l0 t101).f0), .string ((rd_T41 l0 t101).f1), .int .i64 ((rd_T41 l0 t101).f2), .int .i64 ((rd_T41 l0 t101).f3), .int .i64 0, .int .i64 0, .int .i64 0, .int .i64 0]) ?_ 4 _ rfl; (with_reducible repeat (first | refine blk_drewN ?_ _ | refine blk_drew ?_ | refine blk_alloc ?_ _)); refine blk_put (cs := #[.int .i64 ((rd_T41 l0 t101).f0), .string ((rd_T41 l0 t101).f1), .int .i64 ((rd_T41 l0 t101).f2), .int .i64 0, .int .i64 0, .int .i64 0, .int .i64 0, .int .i64 0]) ?_ 3 _ rfl; (with_reducible repeat (first | refine blk_drewN ?_ _ | refine blk_drew ?_ | refine blk_alloc ?_ _)); refine blk_put (cs := #[.int .i64 ((rd_T41 l0 t101).f0), .string ((rd_T41 l0 t101).f1), .int .i64 0, .int .i64 0, .int .i64 0, .int .i64 0, .int .i64 0, .int .i64 0]) ?_ 2 _ rfl; (with_reducible repeat (first | refine blk_drewN ?_ _ | refine blk_drew ?_ | refine blk_alloc ?_ _)); refine blk_put (cs := #[.int .i64 ((rd_T41 l0 t101).f0), .string (⟨#[]⟩ : ByteArray), .int .i64 0, .int .i64 0, .int .i64 0, .int .i64 0, .int .i64 0, .int .i64 0]) ?_ 1 _ rfl; (with_reducible repeat (first | refine blk_drewN ?_ _ | refine blk_drew ?_ | refine blk_alloc ?_ _)); refine blk_put (cs := #[.int .i64 0, .string (⟨#[]⟩ : ByteArray), .int .i64 0, .int .i64 0, .int .i64 0, .int .i64 0, .int .i64 0, .int .i64 0]) ?_ 0 _ rfl; exact bS BK109.out)) (below_size (by repeat (first | (with_reducible first | exact HB.out | apply below_alloc | apply pw_below_drewN | apply below_drew1 | refine below_set ?_ GE109.out) | exact HB.out)))); have n1_ := Aside0.mk (blk_below (g := gb109) (o := .cells #[.int .i64 ((rd_T41 l0 t101).f0), .string ((rd_T41 l0 t101).f1), .int .i64 ((rd_T41 l0 t101).f2), .int .i64 ((rd_T41 l0 t101).f3), .int .i64 (wrap64 (((rd_T41 l0 t101).f4) + 1)), .int .i64 ((rd_T41 l0 t101).f5), .int .i64 ((rd_T41 l0 t101).f6), .int .i64 a2] 41 (0, 0)) (by (with_reducible repeat (first | refine blk_drewN ?_ _ | refine blk_drew ?_ | refine blk_alloc ?_ _)); refine blk_put (cs := #[.int .i64 ((rd_T41 l0 t101).f0), .string ((rd_T41 l0 t101).f1), .int .i64 ((rd_T41 l0 t101).f2), .int .i64 ((rd_T41 l0 t101).f3), .int .i64 (wrap64 (((rd_T41 l0 t101).f4) + 1)), .int .i64 ((rd_T41 l0 t101).f5), .int .i64 ((rd_T41 l0 t101).f6), .int .i64 ((rd_T41 l0 t101).f7)]) ?_ 7 _ rfl; (with_reducible repeat (first | refine blk_drewN ?_ _ | refine blk_drew ?_ | refine blk_alloc ?_ _)); refine blk_put (cs := #[.int .i64 ((rd_T41 l0 t101).f0), .string ((rd_T41 l0 t101).f1), .int .i64 ((rd_T41 l0 t101).f2), .int .i64 ((rd_T41 l0 t101).f3), .int .i64 ((rd_T41 l0 t101).f4), .int .i64 ((rd_T41 l0 t101).f5), .int .i64 ((rd_T41 l0 t101).f6), .int .i64 ((rd_T41 l0 t101).f7)]) ?_ 4 _ rfl; (with_reducible repeat (first | refine blk_drewN ?_ _ | refine blk_drew ?_ | refine blk_alloc ?_ _)); refine blk_put (cs := #[.int .i64 ((rd_T41 l0 t101).f0), .string ((rd_T41 l0 t101).f1), .int .i64 ((rd_T41 l0 t101).f2), .int .i64 ((rd_T41 l0 t101).f3), .int .i64 ((rd_T41 l0 t101).f4), .int .i64 ((rd_T41 l0 t101).f5), .int .i64 ((rd_T41 l0 t101).f6), .int .i64 0]) ?_ 7 _ rfl; (with_reducible repeat (first | refine blk_drewN ?_ _ | refine blk_drew ?_ | refine blk_alloc ?_ _)); refine blk_put (cs := #[.int .i64 ((rd_T41 l0 t101).f0), .string ((rd_T41 l0 t101).f1), .int .i64 ((rd_T41 l0 t101).f2), .int .i64 ((rd_T41 l0 t101).f3), .int .i64 ((rd_T41 l0 t101).f4), .int .i64 ((rd_T41 l0 t101).f5), .int .i64 0, .int .i64 0]) ?_ 6 _ rfl; (with_reducible repeat (first | refine blk_drewN ?_ _ | refine blk_drew ?_ | refine blk_alloc ?_ _)); refine blk_put (cs := #[.int .i64 ((rd_T41 l0 t101).f0), .string ((rd_T41 l0 t101).f1), .int .i64 ((rd_T41 l0 t101).f2), .int .i64 ((rd_T41 l0 t101).f3), .int .i64 ((rd_T41 l0 t101).f4), .int .i64 0, .int .i64 0, .int .i64 0]) ?_ 5 _ rfl; (with_reducible repeat (first | refine blk_drewN ?_ _ | refine blk_drew ?_ | refine blk_alloc ?_ _)); refine blk_put (cs := #[.int .i64 ((rd_T41 l0 t101).f0), .string ((rd_T41 l0 t101).f1), .int .i64 ((rd_T41 l0 t101).f2), .int .i64 ((rd_T41 l0 t101).f3), .int .i64 0, .int .i64 0, .int .i64 0, .int .i64 0]) ?_ 4 _ rfl; (with_reducible repeat (first | refine blk_drewN ?_ _ | refine blk_drew ?_ | refine blk_alloc ?_ _)); refine blk_put (cs := #[.int .i64 ((rd_T41 l0 t101).f0), .string ((rd_T41 l0 t101).f1), .int .i64 ((rd_T41 l0 t101).f2), .int .i64 0, .int .i64 0, .int .i64 0, .int .i64 0, .int .i64 0]) ?_ 3 _ rfl; (with_reducible repeat (first | refine blk_drewN ?_ _ | refine blk_drew ?_ | refine blk_alloc ?_ _)); refine blk_put (cs := #[.int .i64 ((rd_T41 l0 t101).f0), .string ((rd_T41 l0 t101).f1), .int .i64 0, .int .i64 0, .int .i64 0, .int .i64 0, .int .i64 0, .int .i64 0]) ?_ 2 _ rfl; (with_reducible repeat (first | refine blk_drewN ?_ _ | refine blk_drew ?_ | refine blk_alloc ?_ _)); refine blk_put (cs := #[.int .i64 ((rd_T41 l0 t101).f0), .string (⟨#[]⟩ : ByteArray), .int .i64 0, .int .i64 0, .int .i64 0, .int .i64 0, .int .i64 0, .int .i64 0]) ?_ 1 _ rfl; (with_reducible repeat (first | refine blk_drewN ?_ _ | refine blk_drew ?_ | refine blk_alloc ?_ _)); refine blk_put (cs := #[.int .i64 0, .string (⟨#[]⟩ : ByteArray), .int .i64 0, .int .i64 0, .int .i64 0, .int .i64 0, .int .i64 0, .int .i64 0]) ?_ 0 _ rfl; exact bS BK109.out) hb); have n2_ := Aside0.mk (below_step (by repeat (first | (with_reducible first | exact HB.out | apply below_alloc | apply pw_below_drewN | apply below_drew1 | refine below_set ?_ GE109.out) | exact HB.out)) hb); clear BK109; clear HB; have HO129 := n0_; have BK109 := n1_; have HB := n2_; clear n0_ n1_ n2_; (try clear hb); (try clear hb2); (try clear hk); (try clear hi); (try clear ho0)))
         go_ret2
         exact ⟨_, by first | rfl | (simp [errW_none, errW_some] <;> rfl) | (simp [*, errW_none, errW_some] <;> rfl), by exact Ho.RS <| Kd.R_mono HO129.out (fun _ hk => trivial), by exact eS HB.out⟩
       ·rw [if_neg c39] at H
        have c39b0 : (((rd_T41 l0 t101).f4) == 3) = false := beq_eq_false_iff_ne.mpr c39
        have c39b1 : (((rd_T41 l0 t101).f4) != 3) = true := bne_iff_ne.mpr c39
        replace H := Option.bind_eq_some_iff.mp H
        obtain ⟨⟨t131, t134⟩, A490, H⟩ := H
        replace H : (some (t131, t134)) = some (r1, r2) := H
        have A49 := Aside0.mk A490
        clear A490
        simp only [Option.some.injEq, Prod.mk.injEq] at H
        obtain ⟨rfl, rfl⟩ := H
        have p108 : 0 ≤ (t101 : Int) := of_decide_eq_true (by first | (with_reducible assumption) | assumption)
        have q108 : t101 < (l0.length : Int) := of_decide_eq_true (by first | (with_reducible assumption) | assumption)
        obtain ⟨ad108, e108, hx108_0, hx108_1, hx108_2, hx108_3, hx108_4, hx108_5, hx108_6, hx108_7⟩ := at_T41 HR0.out t101 p108 q108
        cases e108
        replace hx108_0 := (HB.out.cell (World.block_lt_of_cell? w _ hx108_0)).trans hx108_0
        replace hx108_1 := (HB.out.cell (World.block_lt_of_cell? w _ hx108_1)).trans hx108_1
        replace hx108_2 := (HB.out.cell (World.block_lt_of_cell? w _ hx108_2)).trans hx108_2
        replace hx108_3 := (HB.out.cell (World.block_lt_of_cell? w _ hx108_3)).trans hx108_3
        replace hx108_4 := (HB.out.cell (World.block_lt_of_cell? w _ hx108_4)).trans hx108_4
        replace hx108_5 := (HB.out.cell (World.block_lt_of_cell? w _ hx108_5)).trans hx108_5
        replace hx108_6 := (HB.out.cell (World.block_lt_of_cell? w _ hx108_6)).trans hx108_6
        replace hx108_7 := (HB.out.cell (World.block_lt_of_cell? w _ hx108_7)).trans hx108_7
        replace p108 := eq_true p108
        replace q108 := eq_true q108
        go_wp2_with (first | ((with_reducible refine gate_dst (N := 9) rfl ?_); refine box_event ?hg (N := 9) ?hd (cs := #[.int .i64 0, .string (⟨#[]⟩ : ByteArray), .int .i64 0, .int .i64 0, .int .i64 0, .int .i64 0, .int .i64 0, .int .i64 0]) (t := 41) ?hr ?_; (case hd => rfl); (case hg => rfl); (case hr => first | (go_simp; done) | (go_simp; rfl)); intro gb109 hg w50 hbox hb; have n0_ := Aside0.mk (below_step (by exact eS HB.out) hb); have n1_ := Aside0.mk (hbox); have n2_ := Aside0.mk ((by rw [hg]; exact (below_size (by exact eS HB.out)) : w.heap.size ≤ gb109)); have n3_ := Aside0.mk ((by rw [hg]; exact (below_size (by exact eS HB.out)) : w.heap.size ≤ gb109)); clear HB; have HB := n0_; have BK109 := n1_; have GW109 := n2_; have GE109 := n3_; clear n0_ n1_ n2_ n3_; clear hb hbox hg; have hcz51_0 : w50.cell? ⟨gb109, 0, none⟩ = some (.int .i64 0) := (blk_cell BK109.out 0).trans rfl; have hcz51_1 : w50.cell? ⟨gb109, 1, none⟩ = some (.string (⟨#[]⟩ : ByteArray)) := (blk_cell BK109.out 1).trans rfl; have hcz51_2 : w50.cell? ⟨gb109, 2, none⟩ = some (.int .i64 0) := (blk_cell BK109.out 2).trans rfl; have hcz51_3 : w50.cell? ⟨gb109, 3, none⟩ = some (.int .i64 0) := (blk_cell BK109.out 3).trans rfl; have hcz51_4 : w50.cell? ⟨gb109, 4, none⟩ = some (.int .i64 0) := (blk_cell BK109.out 4).trans rfl; have hcz51_5 : w50.cell? ⟨gb109, 5, none⟩ = some (.int .i64 0) := (blk_cell BK109.out 5).trans rfl; have hcz51_6 : w50.cell? ⟨gb109, 6, none⟩ = some (.int .i64 0) := (blk_cell BK109.out 6).trans rfl; have hcz51_7 : w50.cell? ⟨gb109, 7, none⟩ = some (.int .i64 0) := (blk_cell BK109.out 7).trans rfl; have hfz51_0 := blk_frozen BK109.out 0; have hfz51_1 := blk_frozen BK109.out 1; have hfz51_2 := blk_frozen BK109.out 2; have hfz51_3 := blk_frozen BK109.out 3; have hfz51_4 := blk_frozen BK109.out 4; have hfz51_5 := blk_frozen BK109.out 5; have hfz51_6 := blk_frozen BK109.out 6; have hfz51_7 := blk_frozen BK109.out 7) | ((with_reducible refine gate_callee (f := 83) rfl ?_); refine goesL_ (some 73) rfl rfl Tryd.func83 (by kernel_rfl) rfl #[.slice (some ad108) l0.length c0, .int .i64 t101, .agg #[.int .i64 ((rd_T41 l0 t101).f0), .string ((rd_T41 l0 t101).f1), .int .i64 ((rd_T41 l0 t101).f2), .int .i64 ((rd_T41 l0 t101).f3), .int .i64 (wrap64 (((rd_T41 l0 t101).f4) + 1)), .int .i64 ((rd_T41 l0 t101).f5), .int .i64 ((rd_T41 l0 t101).f6), .int .i64 a2]] rfl (by (try simp only [List.map_toArray, List.map_cons, List.map_nil]); first | done | rfl | (simp only [List.length_drop, List.length_take]; rfl)) ?_; (with_reducible refine (spec_l17With.calls kj4 _ _ l0 t101 ((rd_T41 l0 t101).f0) ((rd_T41 l0 t101).f1) ((rd_T41 l0 t101).f2) ((rd_T41 l0 t101).f3) (wrap64 (((rd_T41 l0 t101).f4) + 1)) ((rd_T41 l0 t101).f5) ((rd_T41 l0 t101).f6) a2 t131 t134 _ ?side1 ?side2 A49.out).mono ?_); (case side1 => exact Kd.C_below HR0.out (by repeat (first | (with_reducible first | exact HB.out | apply below_alloc | apply pw_below_drewN | apply below_drew1 | refine below_set ?_ GE109.out) | exact HB.out))); (case side2 => exact HC0.out); rintro e w52 ⟨v132, rfl, ho0, hb⟩; refine ⟨_, rfl, ?_⟩; have n0_ := Aside0.mk (Kd.R_lower (Kd.R_newB ho0 (g := gb109) (o := .cells #[.int .i64 ((rd_T41 l0 t101).f0), .string ((rd_T41 l0 t101).f1), .int .i64 ((rd_T41 l0 t101).f2), .int .i64 ((rd_T41 l0 t101).f3), .int .i64 (wrap64 (((rd_T41 l0 t101).f4) + 1)), .int .i64 ((rd_T41 l0 t101).f5), .int .i64 ((rd_T41 l0 t101).f6), .int .i64 a2] 41 (0, 0)) (by (with_reducible repeat (first | refine blk_drewN ?_ _ | refine blk_drew ?_ | refine blk_alloc ?_ _)); refine blk_put (cs := #[.int .i64 ((rd_T41 l0 t101).f0), .string ((rd_T41 l0 t101).f1), .int .i64 ((rd_T41 l0 t101).f2), .int .i64 ((rd_T41 l0 t101).f3), .int .i64 (wrap64 (((rd_T41 l0 t101).f4) + 1)), .int .i64 ((rd_T41 l0 t101).f5), .int .i64 ((rd_T41 l0 t101).f6), .int .i64 ((rd_T41 l0 t101).f7)]) ?_ 7 _ rfl; (with_reducible repeat (first | refine blk_drewN ?_ _ | refine blk_drew ?_ | refine blk_alloc ?_ _)); refine blk_put (cs := #[.int .i64 ((rd_T41 l0 t101).f0), .string ((rd_T41 l0 t101).f1), .int .i64 ((rd_T41 l0 t101).f2), .int .i64 ((rd_T41 l0 t101).f3), .int .i64 ((rd_T41 l0 t101).f4), .int .i64 ((rd_T41 l0 t101).f5), .int .i64 ((rd_T41 l0 t101).f6), .int .i64 ((rd_T41 l0 t101).f7)]) ?_ 4 _ rfl; (with_reducible repeat (first | refine blk_drewN ?_ _ | refine blk_drew ?_ | refine blk_alloc ?_ _)); refine blk_put (cs := #[.int .i64 ((rd_T41 l0 t101).f0), .string ((rd_T41 l0 t101).f1), .int .i64 ((rd_T41 l0 t101).f2), .int .i64 ((rd_T41 l0 t101).f3), .int .i64 ((rd_T41 l0 t101).f4), .int .i64 ((rd_T41 l0 t101).f5), .int .i64 ((rd_T41 l0 t101).f6), .int .i64 0]) ?_ 7 _ rfl; (with_reducible repeat (first | refine blk_drewN ?_ _ | refine blk_drew ?_ | refine blk_alloc ?_ _)); refine blk_put (cs := #[.int .i64 ((rd_T41 l0 t101).f0), .string ((rd_T41 l0 t101).f1), .int .i64 ((rd_T41 l0 t101).f2), .int .i64 ((rd_T41 l0 t101).f3), .int .i64 ((rd_T41 l0 t101).f4), .int .i64 ((rd_T41 l0 t101).f5), .int .i64 0, .int .i64 0]) ?_ 6 _ rfl; (with_reducible repeat (first | refine blk_drewN ?_ _ | refine blk_drew ?_ | refine blk_alloc ?_ _)); refine blk_put (cs := #[.int .i64 ((rd_T41 l0 t101).f0), .string ((rd_T41 l0 t101).f1), .int .i64 ((rd_T41 l0 t101).f2), .int .i64 ((rd_T41 l0 t101).f3), .int .i64 ((rd_T41 l0 t101).f4), .int .i64 0, .int .i64 0, .int .i64 0]) ?_ 5 _ rfl; (with_reducible repeat (first | refine blk_drewN ?_ _ | refine blk_drew ?_ | refine blk_alloc ?_ _)); refine blk_put (cs := #[.int .i64 ((rd_T41 l0 t101).f0), .string ((rd_T41 l0 t101).f1), .int .i64 ((rd_T41 l0 t101).f2), .int .i64 ((rd_T41 l0 t101).f3), .int .i64 0, .int .i64 0, .int .i64 0, .int .i64 0]) ?_ 4 _ rfl; (with_reducible repeat (first | refine blk_drewN ?_ _ | refine blk_drew ?_ | refine blk_alloc ?_ _)); refine blk_put (cs := #[.int .i64 ((rd_T41 l0 t101).f0), .string ((rd_T41 l0 t101).f1), .int .i64 ((rd_T41 l0 t101).f2), .int .i64 0, .int .i64 0, .int .i64 0, .int .i64 0, .int .i64 0]) ?_ 3 _ rfl; (with_reducible repeat (first | refine blk_drewN ?_ _ | refine blk_drew ?_ | refine blk_alloc ?_ _)); refine blk_put (cs := #[.int .i64 ((rd_T41 l0 t101).f0), .string ((rd_T41 l0 t101).f1), .int .i64 0, .int .i64 0, .int .i64 0, .int .i64 0, .int .i64 0, .int .i64 0]) ?_ 2 _ rfl; (with_reducible repeat (first | refine blk_drewN ?_ _ | refine blk_drew ?_ | refine blk_alloc ?_ _)); refine blk_put (cs := #[.int .i64 ((rd_T41 l0 t101).f0), .string (⟨#[]⟩ : ByteArray), .int .i64 0, .int .i64 0, .int .i64 0, .int .i64 0, .int .i64 0, .int .i64 0]) ?_ 1 _ rfl; (with_reducible repeat (first | refine blk_drewN ?_ _ | refine blk_drew ?_ | refine blk_alloc ?_ _)); refine blk_put (cs := #[.int .i64 0, .string (⟨#[]⟩ : ByteArray), .int .i64 0, .int .i64 0, .int .i64 0, .int .i64 0, .int .i64 0, .int .i64 0]) ?_ 0 _ rfl; exact bS BK109.out)) (below_size (by repeat (first | (with_reducible first | exact HB.out | apply below_alloc | apply pw_below_drewN | apply below_drew1 | refine below_set ?_ GE109.out) | exact HB.out)))); have n1_ := Aside0.mk (blk_below (g := gb109) (o := .cells #[.int .i64 ((rd_T41 l0 t101).f0), .string ((rd_T41 l0 t101).f1), .int .i64 ((rd_T41 l0 t101).f2), .int .i64 ((rd_T41 l0 t101).f3), .int .i64 (wrap64 (((rd_T41 l0 t101).f4) + 1)), .int .i64 ((rd_T41 l0 t101).f5), .int .i64 ((rd_T41 l0 t101).f6), .int .i64 a2] 41 (0, 0)) (by (with_reducible repeat (first | refine blk_drewN ?_ _ | refine blk_drew ?_ | refine blk_alloc ?_ _)); refine blk_put (cs := #[.int .i64 ((rd_T41 l0 t101).f0), .string ((rd_T41 l0 t101).f1), .int .i64 ((rd_T41 l0 t101).f2), .int .i64 ((rd_T41 l0 t101).f3), .int .i64 (wrap64 (((rd_T41 l0 t101).f4) + 1)), .int .i64 ((rd_T41 l0 t101).f5), .int .i64 ((rd_T41 l0 t101).f6), .int .i64 ((rd_T41 l0 t101).f7)]) ?_ 7 _ rfl; (with_reducible repeat (first | refine blk_drewN ?_ _ | refine blk_drew ?_ | refine blk_alloc ?_ _)); refine blk_put (cs := #[.int .i64 ((rd_T41 l0 t101).f0), .string ((rd_T41 l0 t101).f1), .int .i64 ((rd_T41 l0 t101).f2), .int .i64 ((rd_T41 l0 t101).f3), .int .i64 ((rd_T41 l0 t101).f4), .int .i64 ((rd_T41 l0 t101).f5), .int .i64 ((rd_T41 l0 t101).f6), .int .i64 ((rd_T41 l0 t101).f7)]) ?_ 4 _ rfl; (with_reducible repeat (first | refine blk_drewN ?_ _ | refine blk_drew ?_ | refine blk_alloc ?_ _)); refine blk_put (cs := #[.int .i64 ((rd_T41 l0 t101).f0), .string ((rd_T41 l0 t101).f1), .int .i64 ((rd_T41 l0 t101).f2), .int .i64 ((rd_T41 l0 t101).f3), .int .i64 ((rd_T41 l0 t101).f4), .int .i64 ((rd_T41 l0 t101).f5), .int .i64 ((rd_T41 l0 t101).f6), .int .i64 0]) ?_ 7 _ rfl; (with_reducible repeat (first | refine blk_drewN ?_ _ | refine blk_drew ?_ | refine blk_alloc ?_ _)); refine blk_put (cs := #[.int .i64 ((rd_T41 l0 t101).f0), .string ((rd_T41 l0 t101).f1), .int .i64 ((rd_T41 l0 t101).f2), .int .i64 ((rd_T41 l0 t101).f3), .int .i64 ((rd_T41 l0 t101).f4), .int .i64 ((rd_T41 l0 t101).f5), .int .i64 0, .int .i64 0]) ?_ 6 _ rfl; (with_reducible repeat (first | refine blk_drewN ?_ _ | refine blk_drew ?_ | refine blk_alloc ?_ _)); refine blk_put (cs := #[.int .i64 ((rd_T41 l0 t101).f0), .string ((rd_T41 l0 t101).f1), .int .i64 ((rd_T41 l0 t101).f2), .int .i64 ((rd_T41 l0 t101).f3), .int .i64 ((rd_T41 l0 t101).f4), .int .i64 0, .int .i64 0, .int .i64 0]) ?_ 5 _ rfl; (with_reducible repeat (first | refine blk_drewN ?_ _ | refine blk_drew ?_ | refine blk_alloc ?_ _)); refine blk_put (cs := #[.int .i64 ((rd_T41 l0 t101).f0), .string ((rd_T41 l0 t101).f1), .int .i64 ((rd_T41 l0 t101).f2), .int .i64 ((rd_T41 l0 t101).f3), .int .i64 0, .int .i64 0, .int .i64 0, .int .i64 0]) ?_ 4 _ rfl; (with_reducible repeat (first | refine blk_drewN ?_ _ | refine blk_drew ?_ | refine blk_alloc ?_ _)); refine blk_put (cs := #[.int .i64 ((rd_T41 l0 t101).f0), .string ((rd_T41 l0 t101).f1), .int .i64 ((rd_T41 l0 t101).f2), .int .i64 0, .int .i64 0, .int .i64 0, .int .i64 0, .int .i64 0]) ?_ 3 _ rfl; (with_reducible repeat (first | refine blk_drewN ?_ _ | refine blk_drew ?_ | refine blk_alloc ?_ _)); refine blk_put (cs := #[.int .i64 ((rd_T41 l0 t101).f0), .string ((rd_T41 l0 t101).f1), .int .i64 0, .int .i64 0, .int .i64 0, .int .i64 0, .int .i64 0, .int .i64 0]) ?_ 2 _ rfl; (with_reducible repeat (first | refine blk_drewN ?_ _ | refine blk_drew ?_ | refine blk_alloc ?_ _)); refine blk_put (cs := #[.int .i64 ((rd_T41 l0 t101).f0), .string (⟨#[]⟩ : ByteArray), .int .i64 0, .int .i64 0, .int .i64 0, .int .i64 0, .int .i64 0, .int .i64 0]) ?_ 1 _ rfl; (with_reducible repeat (first | refine blk_drewN ?_ _ | refine blk_drew ?_ | refine blk_alloc ?_ _)); refine blk_put (cs := #[.int .i64 0, .string (⟨#[]⟩ : ByteArray), .int .i64 0, .int .i64 0, .int .i64 0, .int .i64 0, .int .i64 0, .int .i64 0]) ?_ 0 _ rfl; exact bS BK109.out) hb); have n2_ := Aside0.mk (below_step (by repeat (first | (with_reducible first | exact HB.out | apply below_alloc | apply pw_below_drewN | apply below_drew1 | refine below_set ?_ GE109.out) | exact HB.out)) hb); clear BK109; clear HB; have HO133 := n0_; have BK109 := n1_; have HB := n2_; clear n0_ n1_ n2_; (try clear hb); (try clear hb2); (try clear hk); (try clear hi); (try clear ho0)))
        go_ret2
        exact ⟨_, by first | rfl | (simp [errW_none, errW_some] <;> rfl) | (simp [*, errW_none, errW_some] <;> rfl), by exact Ho.RS <| Kd.R_mono HO133.out (fun _ hk => trivial), by exact eS HB.out⟩
     ·rw [if_neg c18] at H
      exact absurd H (by simp)
    ·rw [if_neg c17] at H
     exact absurd H (by simp)

end Go.Proofs.YtahfahlbdgbfeaaDoor.X

-- XlawsFnExactNextStageF11
namespace Go.Proofs.YtahfahlbdgbfeaaDoor.X
open Ho (bS eS)
open Go.RowKit Go.Proofs.YtahfahlbdgbfeaaDoorW.PrintWords Go.Proofs.YtahfahlbdgbfeaaDoorW.PrintLast Go.Proofs.YtahfahlbdgbfeaaDoorW.PrintMore
attribute [local go_sem] max2_int min2_int max_two min_two max_three min_three max_four min_four   -- for this text's walks alone
set_option linter.unusedVariables false
set_option linter.unusedSimpArgs false

/-! ### laws_FnExactNextStage: function 11 -/
mutual
def laws_FnExactNextStage.j0 : Nat → List (S38) → Int → Int → List (S41) → Bool → List (S41) → List (S41) → Bool → Bool → Option (Bool)
  | 0, _, _, _, _, _, _, _, _, _ => none
  | k + 1, x0, x1, x2, x8, x9, x10, x11, x12, x48 => if x48 = true then (some false) else ((laws_toCarpetOrderS.f k x0).bind fun t117 => ((laws_eqCarpetOrderS.f k x10 t117).bind fun t120 => (if t120 = true then ((laws_markCarpetOrderS.f k x10 1).bind fun bt121 => (if bt121.1 < 0 then (laws_FnExactNextStage.j1 k x0 x1 x2 x8 x9 x11 true) else ((laws_eqCarpetOrderS.f k x11 x8).bind fun t123 => (if t123 = true then (laws_FnExactNextStage.j1 k x0 x1 x2 x8 x9 x11 (x12 != x9)) else (laws_FnExactNextStage.j1 k x0 x1 x2 x8 x9 x11 true))))) else (some false))))
def laws_FnExactNextStage.j1 : Nat → List (S38) → Int → Int → List (S41) → Bool → List (S41) → Bool → Option (Bool)
  | 0, _, _, _, _, _, _, _ => none
  | k + 1, x0, x1, x2, x8, x9, x11, x69 => if x69 = true then (some false) else ((laws_markCarpetOrderS.f k x11 1).bind fun bt124 => ((laws_heldCarpetOrderS.f k bt124.2 1).bind fun t126 => (if t126 < 0 then (some false) else (if t126 = bt124.1 then ((laws_toCarpetOrderS.f k x0).bind fun t127 => ((impl_NextStage.f k t127 x1 x2).bind fun bt130 => ((laws_eqCarpetOrderS.f k bt130.1 x8).bind fun t134 => (if t134 = true then (laws_FnExactNextStage.j2 k bt124.2 bt124.1 (bt130.2 != x9)) else (laws_FnExactNextStage.j2 k bt124.2 bt124.1 true))))) else (some false)))))
def laws_FnExactNextStage.j2 : Nat → List (S41) → Int → Bool → Option (Bool)
  | 0, _, _, _ => none
  | k + 1, x11, x14, x97 => if x97 = true then (some false) else ((laws_heldCarpetOrderS.f k x11 1).bind fun t135 => (if t135 < 0 then (some false) else (if t135 = x14 then (some true) else (some false))))
end
def laws_FnExactNextStage.f (k : Nat) (l0 : List (S38)) (a1 : Int) (a2 : Int) : Option (Bool) := (laws_szCarpetOrderS.f k l0 1048576).bind fun t101 => (if t101 < 0 then (some true) else ((laws_toCarpetOrderS.f k l0).bind fun t102 => ((spec_NextStage.f k t102 a1 a2).bind fun bt105 => ((laws_toCarpetOrderS.f k l0).bind fun t109 => ((impl_NextStage.f k t109 a1 a2).bind fun bt112 => ((laws_eqCarpetOrderS.f k bt112.1 bt105.1).bind fun t116 => (if t116 = true then (laws_FnExactNextStage.j0 k l0 a1 a2 bt105.1 bt105.2 t109 bt112.1 bt112.2 (bt112.2 != bt105.2)) else (laws_FnExactNextStage.j0 k l0 a1 a2 bt105.1 bt105.2 t109 bt112.1 bt112.2 true))))))))
theorem laws_FnExactNextStage.mono_l : ∀ k, (∀ y0 y1 y2 y3 y4 y5 y6 y7 y8, LeO (laws_FnExactNextStage.j0 k y0 y1 y2 y3 y4 y5 y6 y7 y8) (laws_FnExactNextStage.j0 (k + 1) y0 y1 y2 y3 y4 y5 y6 y7 y8)) ∧ (∀ y0 y1 y2 y3 y4 y5 y6, LeO (laws_FnExactNextStage.j1 k y0 y1 y2 y3 y4 y5 y6) (laws_FnExactNextStage.j1 (k + 1) y0 y1 y2 y3 y4 y5 y6)) ∧ (∀ y0 y1 y2, LeO (laws_FnExactNextStage.j2 k y0 y1 y2) (laws_FnExactNextStage.j2 (k + 1) y0 y1 y2))
  | 0 => ⟨fun _ _ _ _ _ _ _ _ _ r h => by simp [laws_FnExactNextStage.j0] at h, fun _ _ _ _ _ _ _ r h => by simp [laws_FnExactNextStage.j1] at h, fun _ _ _ r h => by simp [laws_FnExactNextStage.j2] at h⟩
  | k + 1 => by
    obtain ⟨ih0, ih1, ih2⟩ := laws_FnExactNextStage.mono_l k
    refine ⟨?_, ?_, ?_⟩
    · intro y0 y1 y2 y3 y4 y5 y6 y7 y8
      unfold laws_FnExactNextStage.j0
      repeat' first
      | (with_reducible exact ih0 _ _ _ _ _ _ _ _ _)
      | (with_reducible exact ih1 _ _ _ _ _ _ _)
      | (with_reducible exact ih2 _ _ _)
      | (with_reducible exact impl_NextStage.mono _ _ _ _)
      | (with_reducible exact laws_eqCarpetOrderS.mono _ _ _)
      | (with_reducible exact laws_heldCarpetOrderS.mono _ _ _)
      | (with_reducible exact laws_markCarpetOrderS.mono _ _ _)
      | (with_reducible exact laws_szCarpetOrderS.mono _ _ _)
      | (with_reducible exact laws_toCarpetOrderS.mono _ _)
      | (with_reducible exact spec_NextStage.mono _ _ _ _)
      | (with_reducible exact LeO.refl _)
      | (with_reducible exact LeO.none _)
      | (with_reducible refine LeO.ite ?_ ?_)
      | (with_reducible refine LeO.bind ?_ (fun _ => ?_))
      | exact ih0 _ _ _ _ _ _ _ _ _
      | exact ih1 _ _ _ _ _ _ _
      | exact ih2 _ _ _
      | exact impl_NextStage.mono _ _ _ _
      | exact laws_eqCarpetOrderS.mono _ _ _
      | exact laws_heldCarpetOrderS.mono _ _ _
      | exact laws_markCarpetOrderS.mono _ _ _
      | exact laws_szCarpetOrderS.mono _ _ _
      | exact laws_toCarpetOrderS.mono _ _
      | exact spec_NextStage.mono _ _ _ _
      | exact LeO.none _
      | refine LeO.ite ?_ ?_
      | refine LeO.bind ?_ (fun _ => ?_)
    · intro y0 y1 y2 y3 y4 y5 y6
      unfold laws_FnExactNextStage.j1
      repeat' first
      | (with_reducible exact ih0 _ _ _ _ _ _ _ _ _)
      | (with_reducible exact ih1 _ _ _ _ _ _ _)
      | (with_reducible exact ih2 _ _ _)
      | (with_reducible exact impl_NextStage.mono _ _ _ _)
      | (with_reducible exact laws_eqCarpetOrderS.mono _ _ _)
      | (with_reducible exact laws_heldCarpetOrderS.mono _ _ _)
      | (with_reducible exact laws_markCarpetOrderS.mono _ _ _)
      | (with_reducible exact laws_szCarpetOrderS.mono _ _ _)
      | (with_reducible exact laws_toCarpetOrderS.mono _ _)
      | (with_reducible exact spec_NextStage.mono _ _ _ _)
      | (with_reducible exact LeO.refl _)
      | (with_reducible exact LeO.none _)
      | (with_reducible refine LeO.ite ?_ ?_)
      | (with_reducible refine LeO.bind ?_ (fun _ => ?_))
      | exact ih0 _ _ _ _ _ _ _ _ _
      | exact ih1 _ _ _ _ _ _ _
      | exact ih2 _ _ _
      | exact impl_NextStage.mono _ _ _ _
      | exact laws_eqCarpetOrderS.mono _ _ _
      | exact laws_heldCarpetOrderS.mono _ _ _
      | exact laws_markCarpetOrderS.mono _ _ _
      | exact laws_szCarpetOrderS.mono _ _ _
      | exact laws_toCarpetOrderS.mono _ _
      | exact spec_NextStage.mono _ _ _ _
      | exact LeO.none _
      | refine LeO.ite ?_ ?_
      | refine LeO.bind ?_ (fun _ => ?_)
    · intro y0 y1 y2
      unfold laws_FnExactNextStage.j2
      repeat' first
      | (with_reducible exact ih0 _ _ _ _ _ _ _ _ _)
      | (with_reducible exact ih1 _ _ _ _ _ _ _)
      | (with_reducible exact ih2 _ _ _)
      | (with_reducible exact impl_NextStage.mono _ _ _ _)
      | (with_reducible exact laws_eqCarpetOrderS.mono _ _ _)
      | (with_reducible exact laws_heldCarpetOrderS.mono _ _ _)
      | (with_reducible exact laws_markCarpetOrderS.mono _ _ _)
      | (with_reducible exact laws_szCarpetOrderS.mono _ _ _)
      | (with_reducible exact laws_toCarpetOrderS.mono _ _)
      | (with_reducible exact spec_NextStage.mono _ _ _ _)
      | (with_reducible exact LeO.refl _)
      | (with_reducible exact LeO.none _)
      | (with_reducible refine LeO.ite ?_ ?_)
      | (with_reducible refine LeO.bind ?_ (fun _ => ?_))
      | exact ih0 _ _ _ _ _ _ _ _ _
      | exact ih1 _ _ _ _ _ _ _
      | exact ih2 _ _ _
      | exact impl_NextStage.mono _ _ _ _
      | exact laws_eqCarpetOrderS.mono _ _ _
      | exact laws_heldCarpetOrderS.mono _ _ _
      | exact laws_markCarpetOrderS.mono _ _ _
      | exact laws_szCarpetOrderS.mono _ _ _
      | exact laws_toCarpetOrderS.mono _ _
      | exact spec_NextStage.mono _ _ _ _
      | exact LeO.none _
      | refine LeO.ite ?_ ?_
      | refine LeO.bind ?_ (fun _ => ?_)
theorem laws_FnExactNextStage.mono : ∀ a0 a1 a2 k, LeO (laws_FnExactNextStage.f k a0 a1 a2) (laws_FnExactNextStage.f (k + 1) a0 a1 a2) := by
  intro a0 a1 a2 k
  obtain ⟨ih0, ih1, ih2⟩ := laws_FnExactNextStage.mono_l k
  unfold laws_FnExactNextStage.f
  repeat' first
      | (with_reducible exact ih0 _ _ _ _ _ _ _ _ _)
      | (with_reducible exact ih1 _ _ _ _ _ _ _)
      | (with_reducible exact ih2 _ _ _)
      | (with_reducible exact impl_NextStage.mono _ _ _ _)
      | (with_reducible exact laws_eqCarpetOrderS.mono _ _ _)
      | (with_reducible exact laws_heldCarpetOrderS.mono _ _ _)
      | (with_reducible exact laws_markCarpetOrderS.mono _ _ _)
      | (with_reducible exact laws_szCarpetOrderS.mono _ _ _)
      | (with_reducible exact laws_toCarpetOrderS.mono _ _)
      | (with_reducible exact spec_NextStage.mono _ _ _ _)
      | (with_reducible exact LeO.refl _)
      | (with_reducible exact LeO.none _)
      | (with_reducible refine LeO.ite ?_ ?_)
      | (with_reducible refine LeO.bind ?_ (fun _ => ?_))
      | exact ih0 _ _ _ _ _ _ _ _ _
      | exact ih1 _ _ _ _ _ _ _
      | exact ih2 _ _ _
      | exact impl_NextStage.mono _ _ _ _
      | exact laws_eqCarpetOrderS.mono _ _ _
      | exact laws_heldCarpetOrderS.mono _ _ _
      | exact laws_markCarpetOrderS.mono _ _ _
      | exact laws_szCarpetOrderS.mono _ _ _
      | exact laws_toCarpetOrderS.mono _ _
      | exact spec_NextStage.mono _ _ _ _
      | exact LeO.none _
      | refine LeO.ite ?_ ?_
      | refine LeO.bind ?_ (fun _ => ?_)
set_option maxHeartbeats 8000000 in
set_option maxRecDepth 100000 in
theorem laws_FnExactNextStage.calls (k : Nat) (A0 : Option Addr) (c0 : Nat) (l0 : List (S38)) (a1 : Int) (a2 : Int) (r : Bool) (w : World) (hr0 : Kd.C k38 w A0 l0.length l0) (hc0 : l0.length ≤ c0) (ht : r = true) (h : laws_FnExactNextStage.f k l0 a1 a2 = some r) :
  Calls Tryd.prog 11 #[.slice A0 l0.length c0, .int .i64 a1, .int .i64 a2] w fun e w' => e = .returned (.bool r) ∧ Below w.heap.size w w' := by
 have HR0 := Aside0.mk hr0
 have HC0 := Aside0.mk hc0
 clear hr0 hc0
 have HB := Aside0.mk (Below.refl w.heap.size w)
 have HT := Aside0.mk ht
 clear ht
 have H : ((laws_szCarpetOrderS.f k l0 1048576).bind fun t101 => (if t101 < 0 then (some true) else ((laws_toCarpetOrderS.f k l0).bind fun t102 => ((spec_NextStage.f k t102 a1 a2).bind fun bt105 => ((laws_toCarpetOrderS.f k l0).bind fun t109 => ((impl_NextStage.f k t109 a1 a2).bind fun bt112 => ((laws_eqCarpetOrderS.f k bt112.1 bt105.1).bind fun t116 => (if t116 = true then (laws_FnExactNextStage.j0 k l0 a1 a2 bt105.1 bt105.2 t109 bt112.1 bt112.2 (bt112.2 != bt105.2)) else (laws_FnExactNextStage.j0 k l0 a1 a2 bt105.1 bt105.2 t109 bt112.1 bt112.2 true))))))))) = some r := h
 clear h
 replace H := Option.bind_eq_some_iff.mp H
 obtain ⟨t101, A40, H⟩ := H
 replace H : (if t101 < 0 then (some true) else ((laws_toCarpetOrderS.f k l0).bind fun t102 => ((spec_NextStage.f k t102 a1 a2).bind fun bt105 => ((laws_toCarpetOrderS.f k l0).bind fun t109 => ((impl_NextStage.f k t109 a1 a2).bind fun bt112 => ((laws_eqCarpetOrderS.f k bt112.1 bt105.1).bind fun t116 => (if t116 = true then (laws_FnExactNextStage.j0 k l0 a1 a2 bt105.1 bt105.2 t109 bt112.1 bt112.2 (bt112.2 != bt105.2)) else (laws_FnExactNextStage.j0 k l0 a1 a2 bt105.1 bt105.2 t109 bt112.1 bt112.2 true)))))))) = some r := H
 have A4 := Aside0.mk A40
 clear A40
 by_cases c5 : t101 < 0
 ·rw [if_pos c5] at H
  have c5b0 : decide (t101 < 0) = true := decide_eq_true c5
  clear c5
  as_aux_lemma =>
   obtain rfl := Option.some.inj H
   go_enter Tryd.func11, Tryd.ntmps11
   go_wp2_with (first | ((with_reducible refine gate_callee (f := 14) rfl ?_); refine goesL_ (some 20) rfl rfl Tryd.func14 (by kernel_rfl) rfl #[.slice A0 l0.length c0, .int .i64 1048576] rfl (by (try simp only [List.map_toArray, List.map_cons, List.map_nil]); first | done | rfl | (simp only [List.length_drop, List.length_take]; rfl)) ?_; (with_reducible refine (laws_szCarpetOrderS.calls k _ _ l0 1048576 t101 _ ?side1 ?side2 A4.out).mono ?_); (case side1 => repeat (first | exact HR0.out | (with_reducible refine Kd.C_alloc ?_ _) | (with_reducible refine Kd.C_drewN ?_ _) | (with_reducible refine Kd.C_drew ?_))); (case side2 => exact HC0.out); rintro e w6 ⟨rfl, hb⟩; refine ⟨_, rfl, ?_⟩; have n0_ := Aside0.mk (below_step (by exact eS HB.out) hb); clear HB; have HB := n0_; clear n0_; (try clear hb); (try clear hb2); (try clear hk); (try clear hi)))
   go_ret
   exact ⟨by first | rfl | (simp [errW_none, errW_some] <;> rfl) | (simp [*, errW_none, errW_some] <;> rfl), by exact eS HB.out⟩
 ·rw [if_neg c5] at H
  have c5b0 : decide (t101 < 0) = false := decide_eq_false c5
  clear c5
  replace H := Option.bind_eq_some_iff.mp H
  obtain ⟨t102, A70, H⟩ := H
  replace H : ((spec_NextStage.f k t102 a1 a2).bind fun bt105 => ((laws_toCarpetOrderS.f k l0).bind fun t109 => ((impl_NextStage.f k t109 a1 a2).bind fun bt112 => ((laws_eqCarpetOrderS.f k bt112.1 bt105.1).bind fun t116 => (if t116 = true then (laws_FnExactNextStage.j0 k l0 a1 a2 bt105.1 bt105.2 t109 bt112.1 bt112.2 (bt112.2 != bt105.2)) else (laws_FnExactNextStage.j0 k l0 a1 a2 bt105.1 bt105.2 t109 bt112.1 bt112.2 true)))))) = some r := H
  have A7 := Aside0.mk A70
  clear A70
  replace H := Option.bind_eq_some_iff.mp H
  obtain ⟨⟨t105, t106⟩, A80, H⟩ := H
  replace H : ((laws_toCarpetOrderS.f k l0).bind fun t109 => ((impl_NextStage.f k t109 a1 a2).bind fun bt112 => ((laws_eqCarpetOrderS.f k bt112.1 t105).bind fun t116 => (if t116 = true then (laws_FnExactNextStage.j0 k l0 a1 a2 t105 t106 t109 bt112.1 bt112.2 (bt112.2 != t106)) else (laws_FnExactNextStage.j0 k l0 a1 a2 t105 t106 t109 bt112.1 bt112.2 true))))) = some r := H
  have A8 := Aside0.mk A80
  clear A80
  replace H := Option.bind_eq_some_iff.mp H
  obtain ⟨t109, A90, H⟩ := H
  replace H : ((impl_NextStage.f k t109 a1 a2).bind fun bt112 => ((laws_eqCarpetOrderS.f k bt112.1 t105).bind fun t116 => (if t116 = true then (laws_FnExactNextStage.j0 k l0 a1 a2 t105 t106 t109 bt112.1 bt112.2 (bt112.2 != t106)) else (laws_FnExactNextStage.j0 k l0 a1 a2 t105 t106 t109 bt112.1 bt112.2 true)))) = some r := H
  have A9 := Aside0.mk A90
  clear A90
  replace H := Option.bind_eq_some_iff.mp H
  obtain ⟨⟨t112, t113⟩, A100, H⟩ := H
  replace H : ((laws_eqCarpetOrderS.f k t112 t105).bind fun t116 => (if t116 = true then (laws_FnExactNextStage.j0 k l0 a1 a2 t105 t106 t109 t112 t113 (t113 != t106)) else (laws_FnExactNextStage.j0 k l0 a1 a2 t105 t106 t109 t112 t113 true))) = some r := H
  have A10 := Aside0.mk A100
  clear A100
  have HC11 := Aside0.mk H
  clear H
  go_enter Tryd.func11, Tryd.ntmps11
  go_upto_region 8 with (first | ((with_reducible refine gate_callee (f := 14) rfl ?_); refine goesL_ (some 20) rfl rfl Tryd.func14 (by kernel_rfl) rfl #[.slice A0 l0.length c0, .int .i64 1048576] rfl (by (try simp only [List.map_toArray, List.map_cons, List.map_nil]); first | done | rfl | (simp only [List.length_drop, List.length_take]; rfl)) ?_; (with_reducible refine (laws_szCarpetOrderS.calls k _ _ l0 1048576 t101 _ ?side1 ?side2 A4.out).mono ?_); (case side1 => repeat (first | exact HR0.out | (with_reducible refine Kd.C_alloc ?_ _) | (with_reducible refine Kd.C_drewN ?_ _) | (with_reducible refine Kd.C_drew ?_))); (case side2 => exact HC0.out); rintro e w12 ⟨rfl, hb⟩; refine ⟨_, rfl, ?_⟩; have n0_ := Aside0.mk (below_step (by exact eS HB.out) hb); clear HB; have HB := n0_; clear n0_; (try clear hb); (try clear hb2); (try clear hk); (try clear hi)) | ((with_reducible refine gate_callee (f := 16) rfl ?_); refine goesL_ (some 25) rfl rfl Tryd.func16 (by kernel_rfl) rfl #[.slice A0 l0.length c0] rfl (by (try simp only [List.map_toArray, List.map_cons, List.map_nil]); first | done | rfl | (simp only [List.length_drop, List.length_take]; rfl)) ?_; (with_reducible refine (laws_toCarpetOrderS.calls k _ _ l0 t102 _ ?side1 ?side2 A7.out).mono ?_); (case side1 => repeat (first | exact (Kd.C_below HR0.out HB.out) | (with_reducible refine Kd.C_alloc ?_ _) | (with_reducible refine Kd.C_drewN ?_ _) | (with_reducible refine Kd.C_drew ?_))); (case side2 => exact HC0.out); rintro e w13 ⟨v103, rfl, ho0, hb⟩; refine ⟨_, rfl, ?_⟩; have n0_ := Aside0.mk (Kd.R_lower ho0 (below_size (by exact eS HB.out))); have n1_ := Aside0.mk (below_step (by exact eS HB.out) hb); clear HB; have HO104 := n0_; have HB := n1_; clear n0_ n1_; (try clear hb); (try clear hb2); (try clear hk); (try clear hi); (try clear ho0); obtain ⟨Ao14, co14, eo14⟩ := Kd.R_slice HO104.out; subst eo14) | ((with_reducible refine gate_callee (f := 43) rfl ?_); refine goesL_ (some 28) rfl rfl Tryd.func43 (by kernel_rfl) rfl #[.slice Ao14 t102.length co14, .int .i64 a1, .int .i64 a2] rfl (by (try simp only [List.map_toArray, List.map_cons, List.map_nil]); first | done | rfl | (simp only [List.length_drop, List.length_take]; rfl)) ?_; (with_reducible refine (spec_NextStage.calls k _ _ t102 a1 a2 t105 t106 _ ?side1 ?side2 A8.out).mono ?_); (case side1 => repeat (first | exact (Kd.R_reads' HO104.out).2.2 | (with_reducible refine Kd.C_alloc ?_ _) | (with_reducible refine Kd.C_drewN ?_ _) | (with_reducible refine Kd.C_drew ?_))); (case side2 => exact (Kd.R_reads' HO104.out).2.1); rintro e w15 ⟨v107, rfl, ho0, hb⟩; refine ⟨_, rfl, ?_⟩; have n0_ := Aside0.mk (Kd.R_elder' (by exact Ho.RS <| HO104.out) (Kd.R_base ho0) hb); have n1_ := Aside0.mk (Kd.R_lower (Kd.R_new' ho0 (Kd.R_lt (by exact Ho.RS <| HO104.out))) (below_size (by exact eS HB.out))); have n2_ := Aside0.mk (below_step (by exact eS HB.out) hb); clear HO104; clear HB; have HO104 := n0_; have HO108 := n1_; have HB := n2_; clear n0_ n1_ n2_; (try clear hb); (try clear hb2); (try clear hk); (try clear hi); (try clear ho0)) | ((with_reducible refine gate_callee (f := 16) rfl ?_); refine goesL_ (some 32) rfl rfl Tryd.func16 (by kernel_rfl) rfl #[.slice A0 l0.length c0] rfl (by (try simp only [List.map_toArray, List.map_cons, List.map_nil]); first | done | rfl | (simp only [List.length_drop, List.length_take]; rfl)) ?_; (with_reducible refine (laws_toCarpetOrderS.calls k _ _ l0 t109 _ ?side1 ?side2 A9.out).mono ?_); (case side1 => repeat (first | exact (Kd.C_below HR0.out HB.out) | (with_reducible refine Kd.C_alloc ?_ _) | (with_reducible refine Kd.C_drewN ?_ _) | (with_reducible refine Kd.C_drew ?_))); (case side2 => exact HC0.out); rintro e w16 ⟨v110, rfl, ho0, hb⟩; refine ⟨_, rfl, ?_⟩; have n0_ := Aside0.mk (Kd.R_elder' (by exact Ho.RS <| HO104.out) (Kd.R_base ho0) hb); have n1_ := Aside0.mk (Kd.R_elder' (by exact Ho.RS <| HO108.out) (Kd.R_base ho0) hb); have n2_ := Aside0.mk (Kd.R_lower (Kd.R_new' (Kd.R_new' ho0 (Kd.R_lt (by exact Ho.RS <| HO104.out))) (Kd.R_lt (by exact Ho.RS <| HO108.out))) (below_size (by exact eS HB.out))); have n3_ := Aside0.mk (below_step (by exact eS HB.out) hb); clear HO104; clear HO108; clear HB; have HO104 := n0_; have HO108 := n1_; have HO111 := n2_; have HB := n3_; clear n0_ n1_ n2_ n3_; (try clear hb); (try clear hb2); (try clear hk); (try clear hi); (try clear ho0); obtain ⟨Ao17, co17, eo17⟩ := Kd.R_slice HO111.out; subst eo17) | ((with_reducible refine gate_callee (f := 44) rfl ?_); refine goesL_ (some 37) rfl rfl Tryd.func44 (by kernel_rfl) rfl #[.slice Ao17 t109.length co17, .int .i64 a1, .int .i64 a2] rfl (by (try simp only [List.map_toArray, List.map_cons, List.map_nil]); first | done | rfl | (simp only [List.length_drop, List.length_take]; rfl)) ?_; (with_reducible refine (impl_NextStage.calls k _ _ t109 a1 a2 t112 t113 _ ?side1 ?side2 A10.out).mono ?_); (case side1 => repeat (first | exact (Kd.R_reads' HO111.out).2.2 | (with_reducible refine Kd.C_alloc ?_ _) | (with_reducible refine Kd.C_drewN ?_ _) | (with_reducible refine Kd.C_drew ?_))); (case side2 => exact (Kd.R_reads' HO111.out).2.1); rintro e w18 ⟨v114, rfl, ho0, hb⟩; refine ⟨_, rfl, ?_⟩; have n0_ := Aside0.mk (Kd.R_elder' (by exact Ho.RS <| HO104.out) (Kd.R_base ho0) hb); have n1_ := Aside0.mk (Kd.R_elder' (by exact Ho.RS <| HO108.out) (Kd.R_base ho0) hb); have n2_ := Aside0.mk (Kd.R_elder' (by exact Ho.RS <| HO111.out) (Kd.R_base ho0) hb); have n3_ := Aside0.mk (Kd.R_lower (Kd.R_new' (Kd.R_new' (Kd.R_new' ho0 (Kd.R_lt (by exact Ho.RS <| HO104.out))) (Kd.R_lt (by exact Ho.RS <| HO108.out))) (Kd.R_lt (by exact Ho.RS <| HO111.out))) (below_size (by exact eS HB.out))); have n4_ := Aside0.mk (below_step (by exact eS HB.out) hb); clear HO104; clear HO108; clear HO111; clear HB; have HO104 := n0_; have HO108 := n1_; have HO111 := n2_; have HO115 := n3_; have HB := n4_; clear n0_ n1_ n2_ n3_ n4_; (try clear hb); (try clear hb2); (try clear hk); (try clear hi); (try clear ho0)))
  (try simp only [Act.put, List.setIfInBounds_toArray, List.set_cons_zero, List.set_cons_succ])
  go_cut [48] (fun v48 wc => ∃ (kq : Nat) (x48_10 : Bool), v48 = .bool x48_10 ∧ Aside0 (laws_FnExactNextStage.j0 kq l0 a1 a2 t105 t106 t109 t112 t113 x48_10 = some r) ∧ Aside0 (kq ≤ k) ∧ Aside0 (Kd.R k41 41 wc w.heap.size (fun k_ => some k_ ≠ ((.slice Ao17 t109.length co17) : Value).ownBlock ∧ some k_ ≠ (v114 : Value).ownBlock) v107 t105) ∧ Aside0 (Kd.R k41 41 wc w.heap.size (fun k_ => some k_ ≠ (v107 : Value).ownBlock ∧ some k_ ≠ (v114 : Value).ownBlock) (.slice Ao17 t109.length co17) t109) ∧ Aside0 (Kd.R k41 41 wc w.heap.size (fun k_ => some k_ ≠ (v107 : Value).ownBlock ∧ some k_ ≠ ((.slice Ao17 t109.length co17) : Value).ownBlock) v114 t112) ∧ Aside0 (Below w.heap.size w wc))
  case first =>
   have H := HC11.out
   clear HC11
   replace H := Option.bind_eq_some_iff.mp H
   obtain ⟨t116, A190, H⟩ := H
   replace H : (if t116 = true then (laws_FnExactNextStage.j0 k l0 a1 a2 t105 t106 t109 t112 t113 (t113 != t106)) else (laws_FnExactNextStage.j0 k l0 a1 a2 t105 t106 t109 t112 t113 true)) = some r := H
   have A19 := Aside0.mk A190
   clear A190
   by_cases c20 : t116 = true
   ·subst c20
    have H1 : (laws_FnExactNextStage.j0 k l0 a1 a2 t105 t106 t109 t112 t113 (t113 != t106)) = some r := by rw [if_pos rfl] at H; exact H
    clear H
    have H := H1
    clear H1
    as_aux_lemma =>
     have H' := Aside0.mk H
     clear H
     obtain ⟨Ao21, co21, eo21⟩ := Kd.R_slice HO115.out
     subst eo21
     obtain ⟨Ao22, co22, eo22⟩ := Kd.R_slice HO108.out
     subst eo22
     go_wp2_with (first | ((with_reducible refine gate_callee (f := 20) rfl ?_); refine goesL_ (some 42) rfl rfl Tryd.func20 (by kernel_rfl) rfl #[.slice Ao21 t112.length co21, .slice Ao22 t105.length co22] rfl (by (try simp only [List.map_toArray, List.map_cons, List.map_nil]); first | done | rfl | (simp only [List.length_drop, List.length_take]; rfl)) ?_; (with_reducible refine (laws_eqCarpetOrderS.calls k _ _ t112 _ _ t105 true _ ?side1 ?side2 ?side3 ?side4 A19.out).mono ?_); (case side1 => repeat (first | exact (Kd.R_reads' HO115.out).2.2 | (with_reducible refine Kd.C_alloc ?_ _) | (with_reducible refine Kd.C_drewN ?_ _) | (with_reducible refine Kd.C_drew ?_))); (case side2 => exact (Kd.R_reads' HO115.out).2.1); (case side3 => repeat (first | exact (Kd.R_reads' HO108.out).2.2 | (with_reducible refine Kd.C_alloc ?_ _) | (with_reducible refine Kd.C_drewN ?_ _) | (with_reducible refine Kd.C_drew ?_))); (case side4 => exact (Kd.R_reads' HO108.out).2.1); rintro e w23 ⟨rfl, hb⟩; refine ⟨_, rfl, ?_⟩; have n0_ := Aside0.mk (Kd.R_below (by exact Ho.RS <| HO104.out) hb); have n1_ := Aside0.mk (Kd.R_below (by exact Ho.RS <| HO108.out) hb); have n2_ := Aside0.mk (Kd.R_below (by exact Ho.RS <| HO111.out) hb); have n3_ := Aside0.mk (Kd.R_below (by exact Ho.RS <| HO115.out) hb); have n4_ := Aside0.mk (below_step (by exact eS HB.out) hb); clear HO104; clear HO108; clear HO111; clear HO115; clear HB; have HO104 := n0_; have HO108 := n1_; have HO111 := n2_; have HO115 := n3_; have HB := n4_; clear n0_ n1_ n2_ n3_ n4_; (try clear hb); (try clear hb2); (try clear hk); (try clear hi)))
     go_meet
     case rel => exact ⟨_, ((t113 != t106)), (by first | rfl | (simp; done) | (simp [*]; done)), H', ⟨by first | omega | exact Nat.le_refl _⟩, ⟨by exact Ho.RS <| Kd.R_mono HO108.out (fun _ hk => ⟨hk.1.2, hk.2⟩)⟩, ⟨by exact Ho.RS <| Kd.R_mono HO111.out (fun _ hk => ⟨hk.1.2, hk.2⟩)⟩, ⟨by exact Ho.RS <| Kd.R_mono HO115.out (fun _ hk => ⟨hk.1.2, hk.2⟩)⟩, ⟨by exact eS HB.out⟩⟩
   ·replace c20 := Bool.eq_false_iff.mpr c20
    subst c20
    have H1 : (laws_FnExactNextStage.j0 k l0 a1 a2 t105 t106 t109 t112 t113 true) = some r := by rw [if_neg (show ¬ (false = true) by decide)] at H; exact H
    clear H
    have H := H1
    clear H1
    as_aux_lemma =>
     have H' := Aside0.mk H
     clear H
     obtain ⟨Ao24, co24, eo24⟩ := Kd.R_slice HO115.out
     subst eo24
     obtain ⟨Ao25, co25, eo25⟩ := Kd.R_slice HO108.out
     subst eo25
     go_wp2_with (first | ((with_reducible refine gate_callee (f := 20) rfl ?_); refine goesL_ (some 42) rfl rfl Tryd.func20 (by kernel_rfl) rfl #[.slice Ao24 t112.length co24, .slice Ao25 t105.length co25] rfl (by (try simp only [List.map_toArray, List.map_cons, List.map_nil]); first | done | rfl | (simp only [List.length_drop, List.length_take]; rfl)) ?_; (with_reducible refine (laws_eqCarpetOrderS.calls k _ _ t112 _ _ t105 false _ ?side1 ?side2 ?side3 ?side4 A19.out).mono ?_); (case side1 => repeat (first | exact (Kd.R_reads' HO115.out).2.2 | (with_reducible refine Kd.C_alloc ?_ _) | (with_reducible refine Kd.C_drewN ?_ _) | (with_reducible refine Kd.C_drew ?_))); (case side2 => exact (Kd.R_reads' HO115.out).2.1); (case side3 => repeat (first | exact (Kd.R_reads' HO108.out).2.2 | (with_reducible refine Kd.C_alloc ?_ _) | (with_reducible refine Kd.C_drewN ?_ _) | (with_reducible refine Kd.C_drew ?_))); (case side4 => exact (Kd.R_reads' HO108.out).2.1); rintro e w26 ⟨rfl, hb⟩; refine ⟨_, rfl, ?_⟩; have n0_ := Aside0.mk (Kd.R_below (by exact Ho.RS <| HO104.out) hb); have n1_ := Aside0.mk (Kd.R_below (by exact Ho.RS <| HO108.out) hb); have n2_ := Aside0.mk (Kd.R_below (by exact Ho.RS <| HO111.out) hb); have n3_ := Aside0.mk (Kd.R_below (by exact Ho.RS <| HO115.out) hb); have n4_ := Aside0.mk (below_step (by exact eS HB.out) hb); clear HO104; clear HO108; clear HO111; clear HO115; clear HB; have HO104 := n0_; have HO108 := n1_; have HO111 := n2_; have HO115 := n3_; have HB := n4_; clear n0_ n1_ n2_ n3_ n4_; (try clear hb); (try clear hb2); (try clear hk); (try clear hi)))
     go_meet
     case rel => exact ⟨_, (true), (by first | rfl | (simp; done) | (simp [*]; done)), H', ⟨by first | omega | exact Nat.le_refl _⟩, ⟨by exact Ho.RS <| Kd.R_mono HO108.out (fun _ hk => ⟨hk.1.2, hk.2⟩)⟩, ⟨by exact Ho.RS <| Kd.R_mono HO111.out (fun _ hk => ⟨hk.1.2, hk.2⟩)⟩, ⟨by exact Ho.RS <| Kd.R_mono HO115.out (fun _ hk => ⟨hk.1.2, hk.2⟩)⟩, ⟨by exact eS HB.out⟩⟩
  case rest =>
   clear HC11
   try clear c1
   try clear c2
   try clear p2
   try clear c4
   try clear c5
   try clear c5b0
   try clear c11
   try clear c14
   try clear c16
   try clear c20
   obtain ⟨kq, x48_10, rfl, HA, HJ10, HO_8, HO_10, HO_11, HB⟩ := hcut
   cases kq with
   | zero => exact absurd HA.out (by simp [laws_FnExactNextStage.j0])
   | succ kj10 =>
    have H := HA.out
    clear HA
    simp only [laws_FnExactNextStage.j0] at H
    by_cases c27 : x48_10 = true
    ·subst c27
     have H1 : (some false) = some r := by rw [if_pos rfl] at H; exact H
     clear H
     have H := H1
     clear H1
     as_aux_lemma =>
      exact absurd ((Option.some.inj H).trans HT.out) (by decide)
    ·replace c27 := Bool.eq_false_iff.mpr c27
     subst c27
     have H1 : ((laws_toCarpetOrderS.f kj10 l0).bind fun t117 => ((laws_eqCarpetOrderS.f kj10 t109 t117).bind fun t120 => (if t120 = true then ((laws_markCarpetOrderS.f kj10 t109 1).bind fun bt121 => (if bt121.1 < 0 then (laws_FnExactNextStage.j1 kj10 l0 a1 a2 t105 t106 t112 true) else ((laws_eqCarpetOrderS.f kj10 t112 t105).bind fun t123 => (if t123 = true then (laws_FnExactNextStage.j1 kj10 l0 a1 a2 t105 t106 t112 (t113 != t106)) else (laws_FnExactNextStage.j1 kj10 l0 a1 a2 t105 t106 t112 true))))) else (some false)))) = some r := by rw [if_neg (show ¬ (false = true) by decide)] at H; exact H
     clear H
     have H := H1
     clear H1
     replace H := Option.bind_eq_some_iff.mp H
     obtain ⟨t117, A280, H⟩ := H
     replace H : ((laws_eqCarpetOrderS.f kj10 t109 t117).bind fun t120 => (if t120 = true then ((laws_markCarpetOrderS.f kj10 t109 1).bind fun bt121 => (if bt121.1 < 0 then (laws_FnExactNextStage.j1 kj10 l0 a1 a2 t105 t106 t112 true) else ((laws_eqCarpetOrderS.f kj10 t112 t105).bind fun t123 => (if t123 = true then (laws_FnExactNextStage.j1 kj10 l0 a1 a2 t105 t106 t112 (t113 != t106)) else (laws_FnExactNextStage.j1 kj10 l0 a1 a2 t105 t106 t112 true))))) else (some false))) = some r := H
     have A28 := Aside0.mk A280
     clear A280
     replace H := Option.bind_eq_some_iff.mp H
     obtain ⟨t120, A290, H⟩ := H
     replace H : (if t120 = true then ((laws_markCarpetOrderS.f kj10 t109 1).bind fun bt121 => (if bt121.1 < 0 then (laws_FnExactNextStage.j1 kj10 l0 a1 a2 t105 t106 t112 true) else ((laws_eqCarpetOrderS.f kj10 t112 t105).bind fun t123 => (if t123 = true then (laws_FnExactNextStage.j1 kj10 l0 a1 a2 t105 t106 t112 (t113 != t106)) else (laws_FnExactNextStage.j1 kj10 l0 a1 a2 t105 t106 t112 true))))) else (some false)) = some r := H
     have A29 := Aside0.mk A290
     clear A290
     by_cases c30 : t120 = true
     ·subst c30
      have H1 : ((laws_markCarpetOrderS.f kj10 t109 1).bind fun bt121 => (if bt121.1 < 0 then (laws_FnExactNextStage.j1 kj10 l0 a1 a2 t105 t106 t112 true) else ((laws_eqCarpetOrderS.f kj10 t112 t105).bind fun t123 => (if t123 = true then (laws_FnExactNextStage.j1 kj10 l0 a1 a2 t105 t106 t112 (t113 != t106)) else (laws_FnExactNextStage.j1 kj10 l0 a1 a2 t105 t106 t112 true))))) = some r := by rw [if_pos rfl] at H; exact H
      clear H
      have H := H1
      clear H1
      replace H := Option.bind_eq_some_iff.mp H
      obtain ⟨⟨t121, t122⟩, A310, H⟩ := H
      replace H : (if t121 < 0 then (laws_FnExactNextStage.j1 kj10 l0 a1 a2 t105 t106 t112 true) else ((laws_eqCarpetOrderS.f kj10 t112 t105).bind fun t123 => (if t123 = true then (laws_FnExactNextStage.j1 kj10 l0 a1 a2 t105 t106 t112 (t113 != t106)) else (laws_FnExactNextStage.j1 kj10 l0 a1 a2 t105 t106 t112 true)))) = some r := H
      have A31 := Aside0.mk A310
      clear A310
      have HC32 := Aside0.mk H
      clear H
      go_upto_region 14 with (first | ((with_reducible refine gate_callee (f := 16) rfl ?_); refine goesL_ (some 51) rfl rfl Tryd.func16 (by kernel_rfl) rfl #[.slice A0 l0.length c0] rfl (by (try simp only [List.map_toArray, List.map_cons, List.map_nil]); first | done | rfl | (simp only [List.length_drop, List.length_take]; rfl)) ?_; (with_reducible refine (laws_toCarpetOrderS.calls kj10 _ _ l0 t117 _ ?side1 ?side2 A28.out).mono ?_); (case side1 => repeat (first | exact (Kd.C_below HR0.out HB.out) | (with_reducible refine Kd.C_alloc ?_ _) | (with_reducible refine Kd.C_drewN ?_ _) | (with_reducible refine Kd.C_drew ?_))); (case side2 => exact HC0.out); rintro e w33 ⟨v118, rfl, ho0, hb⟩; refine ⟨_, rfl, ?_⟩; have n0_ := Aside0.mk (Kd.R_elder' (by exact Ho.RS <| HO_8.out) (Kd.R_base ho0) hb); have n1_ := Aside0.mk (Kd.R_elder' (by exact Ho.RS <| HO_10.out) (Kd.R_base ho0) hb); have n2_ := Aside0.mk (Kd.R_elder' (by exact Ho.RS <| HO_11.out) (Kd.R_base ho0) hb); have n3_ := Aside0.mk (Kd.R_lower (Kd.R_new' (Kd.R_new' (Kd.R_new' ho0 (Kd.R_lt (by exact Ho.RS <| HO_8.out))) (Kd.R_lt (by exact Ho.RS <| HO_10.out))) (Kd.R_lt (by exact Ho.RS <| HO_11.out))) (below_size (by exact eS HB.out))); have n4_ := Aside0.mk (below_step (by exact eS HB.out) hb); clear HO_8; clear HO_10; clear HO_11; clear HB; have HO_8 := n0_; have HO_10 := n1_; have HO_11 := n2_; have HO119 := n3_; have HB := n4_; clear n0_ n1_ n2_ n3_ n4_; (try clear hb); (try clear hb2); (try clear hk); (try clear hi); (try clear ho0); obtain ⟨Ao34, co34, eo34⟩ := Kd.R_slice HO119.out; subst eo34) | ((with_reducible refine gate_callee (f := 20) rfl ?_); refine goesL_ (some 52) rfl rfl Tryd.func20 (by kernel_rfl) rfl #[.slice Ao17 t109.length co17, .slice Ao34 t117.length co34] rfl (by (try simp only [List.map_toArray, List.map_cons, List.map_nil]); first | done | rfl | (simp only [List.length_drop, List.length_take]; rfl)) ?_; (with_reducible refine (laws_eqCarpetOrderS.calls kj10 _ _ t109 _ _ t117 true _ ?side1 ?side2 ?side3 ?side4 A29.out).mono ?_); (case side1 => repeat (first | exact (Kd.R_reads' HO_10.out).2.2 | (with_reducible refine Kd.C_alloc ?_ _) | (with_reducible refine Kd.C_drewN ?_ _) | (with_reducible refine Kd.C_drew ?_))); (case side2 => exact (Kd.R_reads' HO_10.out).2.1); (case side3 => repeat (first | exact (Kd.R_reads' HO119.out).2.2 | (with_reducible refine Kd.C_alloc ?_ _) | (with_reducible refine Kd.C_drewN ?_ _) | (with_reducible refine Kd.C_drew ?_))); (case side4 => exact (Kd.R_reads' HO119.out).2.1); rintro e w35 ⟨rfl, hb⟩; refine ⟨_, rfl, ?_⟩; have n0_ := Aside0.mk (Kd.R_below (by exact Ho.RS <| HO_8.out) hb); have n1_ := Aside0.mk (Kd.R_below (by exact Ho.RS <| HO_10.out) hb); have n2_ := Aside0.mk (Kd.R_below (by exact Ho.RS <| HO_11.out) hb); have n3_ := Aside0.mk (Kd.R_below (by exact Ho.RS <| HO119.out) hb); have n4_ := Aside0.mk (below_step (by exact eS HB.out) hb); clear HO_8; clear HO_10; clear HO_11; clear HO119; clear HB; have HO_8 := n0_; have HO_10 := n1_; have HO_11 := n2_; have HO119 := n3_; have HB := n4_; clear n0_ n1_ n2_ n3_ n4_; (try clear hb); (try clear hb2); (try clear hk); (try clear hi)) | ((with_reducible refine gate_callee (f := 21) rfl ?_); refine goesL_ (some 56) rfl rfl Tryd.func21 (by kernel_rfl) rfl #[.slice Ao17 t109.length co17, .int .i64 1] rfl (by (try simp only [List.map_toArray, List.map_cons, List.map_nil]); first | done | rfl | (simp only [List.length_drop, List.length_take]; rfl)) ?_; (with_reducible refine (laws_markCarpetOrderS.calls kj10 (fun k_ => some k_ = (.slice Ao17 t109.length co17 : Value).ownBlock) (.slice Ao17 t109.length co17) t109 1 t121 t122 w _ ?side1 ?side2 A31.out).mono ?_); (case side1 => exact eS HB.out); (case side2 => exact Kd.R_tight rfl HO_10.out); rintro e w36 ⟨rfl, hy0, hb, hkp⟩; refine ⟨_, rfl, ?_⟩; have n0_ := Aside0.mk (Kd.R_mono (ok' := fun k_ => some k_ ≠ (.slice Ao17 t109.length co17 : Value).ownBlock ∧ some k_ ≠ (v114 : Value).ownBlock ∧ some k_ ≠ (.slice Ao34 t117.length co34 : Value).ownBlock) (Kd.R_keptB (HO_8.out) hkp (fun k_ hk_ hs_ => (hk_.1.1) hs_)) (fun k_ hk_ => ⟨hk_.1.1.1, hk_.1.1.2, hk_.1.2⟩)); have n1_ := Aside0.mk (Kd.R_reok rfl hy0 (fun k_ e_ => HO_10.out.1 k_ e_)); have n2_ := Aside0.mk (Kd.R_mono (ok' := fun k_ => some k_ ≠ (v107 : Value).ownBlock ∧ some k_ ≠ (.slice Ao17 t109.length co17 : Value).ownBlock ∧ some k_ ≠ (.slice Ao34 t117.length co34 : Value).ownBlock) (Kd.R_keptB (HO_11.out) hkp (fun k_ hk_ hs_ => (hk_.1.2) hs_)) (fun k_ hk_ => ⟨hk_.1.1.1, hk_.1.1.2, hk_.1.2⟩)); have n3_ := Aside0.mk (Kd.R_mono (ok' := fun k_ => some k_ ≠ (v107 : Value).ownBlock ∧ some k_ ≠ (.slice Ao17 t109.length co17 : Value).ownBlock ∧ some k_ ≠ (v114 : Value).ownBlock) (Kd.R_keptB (HO119.out) hkp (fun k_ hk_ hs_ => (hk_.1.2) hs_)) (fun k_ hk_ => ⟨hk_.1.1.1.2, hk_.1.1.2, hk_.1.2⟩)); have n4_ := Aside0.mk (hb); clear HO_8; clear HO_10; clear HO_11; clear HO119; clear HB; have HO_8 := n0_; have HO_10 := n1_; have HO_11 := n2_; have HO119 := n3_; have HB := n4_; clear n0_ n1_ n2_ n3_ n4_; (try clear hb); (try clear hkp); (try clear hy0)))
      (try simp only [Act.put, List.setIfInBounds_toArray, List.set_cons_zero, List.set_cons_succ])
      go_cut [69] (fun v69 wc => ∃ (kq : Nat) (x69_31 : Bool), v69 = .bool x69_31 ∧ Aside0 (laws_FnExactNextStage.j1 kq l0 a1 a2 t105 t106 t112 x69_31 = some r) ∧ Aside0 (kq ≤ kj10) ∧ Aside0 (Kd.R k41 41 wc w.heap.size (fun k_ => some k_ ≠ (v114 : Value).ownBlock) v107 t105) ∧ Aside0 (Kd.R k41 41 wc w.heap.size (fun k_ => some k_ ≠ (v107 : Value).ownBlock) v114 t112) ∧ Aside0 (Below w.heap.size w wc))
      case first =>
       have H := HC32.out
       clear HC32
       by_cases c37 : t121 < 0
       ·rw [if_pos c37] at H
        have c37b0 : decide (t121 < 0) = true := decide_eq_true c37
        clear c37
        (first | rw [c37b0] | (simp only [i64_w, i32_w]; rw [c37b0]) | skip)
        as_aux_lemma =>
         have H' := Aside0.mk H
         clear H
         go_wp2
         go_meet
         case rel => exact ⟨_, (true), (by first | rfl | (simp; done) | (simp [*]; done)), H', ⟨by have := HJ10.out; first | omega | exact Nat.le_refl _⟩, ⟨by exact Ho.RS <| Kd.R_mono HO_8.out (fun _ hk => hk.2.1)⟩, ⟨by exact Ho.RS <| Kd.R_mono HO_11.out (fun _ hk => hk.1)⟩, ⟨by exact eS HB.out⟩⟩
       ·rw [if_neg c37] at H
        have c37b0 : decide (t121 < 0) = false := decide_eq_false c37
        clear c37
        (first | rw [c37b0] | (simp only [i64_w, i32_w]; rw [c37b0]) | skip)
        replace H := Option.bind_eq_some_iff.mp H
        obtain ⟨t123, A380, H⟩ := H
        replace H : (if t123 = true then (laws_FnExactNextStage.j1 kj10 l0 a1 a2 t105 t106 t112 (t113 != t106)) else (laws_FnExactNextStage.j1 kj10 l0 a1 a2 t105 t106 t112 true)) = some r := H
        have A38 := Aside0.mk A380
        clear A380
        by_cases c39 : t123 = true
        ·subst c39
         have H1 : (laws_FnExactNextStage.j1 kj10 l0 a1 a2 t105 t106 t112 (t113 != t106)) = some r := by rw [if_pos rfl] at H; exact H
         clear H
         have H := H1
         clear H1
         as_aux_lemma =>
          have H' := Aside0.mk H
          clear H
          obtain ⟨Ao40, co40, eo40⟩ := Kd.R_slice HO_11.out
          subst eo40
          obtain ⟨Ao41, co41, eo41⟩ := Kd.R_slice HO_8.out
          subst eo41
          go_wp2_with (first | (go_at_call 20; (with_reducible refine (laws_eqCarpetOrderS.calls kj10 _ _ t112 _ _ t105 true _ ?side1 ?side2 ?side3 ?side4 A38.out).mono ?_); (case side1 => repeat (first | exact (Kd.R_reads' HO_11.out).2.2 | (with_reducible refine Kd.C_alloc ?_ _) | (with_reducible refine Kd.C_drewN ?_ _) | (with_reducible refine Kd.C_drew ?_))); (case side2 => exact (Kd.R_reads' HO_11.out).2.1); (case side3 => repeat (first | exact (Kd.R_reads' HO_8.out).2.2 | (with_reducible refine Kd.C_alloc ?_ _) | (with_reducible refine Kd.C_drewN ?_ _) | (with_reducible refine Kd.C_drew ?_))); (case side4 => exact (Kd.R_reads' HO_8.out).2.1); rintro e w42 ⟨rfl, hb⟩; have n0_ := Aside0.mk (Kd.R_below (by exact Ho.RS <| HO_8.out) hb); have n1_ := Aside0.mk (Kd.R_below (by exact Ho.RS <| HO_10.out) hb); have n2_ := Aside0.mk (Kd.R_below (by exact Ho.RS <| HO_11.out) hb); have n3_ := Aside0.mk (Kd.R_below (by exact Ho.RS <| HO119.out) hb); have n4_ := Aside0.mk (below_step (by exact eS HB.out) hb); clear HO_8; clear HO_10; clear HO_11; clear HO119; clear HB; have HO_8 := n0_; have HO_10 := n1_; have HO_11 := n2_; have HO119 := n3_; have HB := n4_; clear n0_ n1_ n2_ n3_ n4_; (try clear hb); (try clear hb2); (try clear hk); (try clear hi)))
          go_meet
          case rel => exact ⟨_, ((t113 != t106)), (by first | rfl | (simp; done) | (simp [*]; done)), H', ⟨by have := HJ10.out; first | omega | exact Nat.le_refl _⟩, ⟨by exact Ho.RS <| Kd.R_mono HO_8.out (fun _ hk => hk.2.1)⟩, ⟨by exact Ho.RS <| Kd.R_mono HO_11.out (fun _ hk => hk.1)⟩, ⟨by exact eS HB.out⟩⟩
        ·replace c39 := Bool.eq_false_iff.mpr c39
         subst c39
         have H1 : (laws_FnExactNextStage.j1 kj10 l0 a1 a2 t105 t106 t112 true) = some r := by rw [if_neg (show ¬ (false = true) by decide)] at H; exact H
         clear H
         have H := H1
         clear H1
         as_aux_lemma =>
          have H' := Aside0.mk H
          clear H
          obtain ⟨Ao43, co43, eo43⟩ := Kd.R_slice HO_11.out
          subst eo43
          obtain ⟨Ao44, co44, eo44⟩ := Kd.R_slice HO_8.out
          subst eo44
          go_wp2_with (first | (go_at_call 20; (with_reducible refine (laws_eqCarpetOrderS.calls kj10 _ _ t112 _ _ t105 false _ ?side1 ?side2 ?side3 ?side4 A38.out).mono ?_); (case side1 => repeat (first | exact (Kd.R_reads' HO_11.out).2.2 | (with_reducible refine Kd.C_alloc ?_ _) | (with_reducible refine Kd.C_drewN ?_ _) | (with_reducible refine Kd.C_drew ?_))); (case side2 => exact (Kd.R_reads' HO_11.out).2.1); (case side3 => repeat (first | exact (Kd.R_reads' HO_8.out).2.2 | (with_reducible refine Kd.C_alloc ?_ _) | (with_reducible refine Kd.C_drewN ?_ _) | (with_reducible refine Kd.C_drew ?_))); (case side4 => exact (Kd.R_reads' HO_8.out).2.1); rintro e w45 ⟨rfl, hb⟩; have n0_ := Aside0.mk (Kd.R_below (by exact Ho.RS <| HO_8.out) hb); have n1_ := Aside0.mk (Kd.R_below (by exact Ho.RS <| HO_10.out) hb); have n2_ := Aside0.mk (Kd.R_below (by exact Ho.RS <| HO_11.out) hb); have n3_ := Aside0.mk (Kd.R_below (by exact Ho.RS <| HO119.out) hb); have n4_ := Aside0.mk (below_step (by exact eS HB.out) hb); clear HO_8; clear HO_10; clear HO_11; clear HO119; clear HB; have HO_8 := n0_; have HO_10 := n1_; have HO_11 := n2_; have HO119 := n3_; have HB := n4_; clear n0_ n1_ n2_ n3_ n4_; (try clear hb); (try clear hb2); (try clear hk); (try clear hi)))
          go_meet
          case rel => exact ⟨_, (true), (by first | rfl | (simp; done) | (simp [*]; done)), H', ⟨by have := HJ10.out; first | omega | exact Nat.le_refl _⟩, ⟨by exact Ho.RS <| Kd.R_mono HO_8.out (fun _ hk => hk.2.1)⟩, ⟨by exact Ho.RS <| Kd.R_mono HO_11.out (fun _ hk => hk.1)⟩, ⟨by exact eS HB.out⟩⟩
      case rest =>
       clear HC32
       try clear c1
       try clear c2
       try clear p2
       try clear c3
       try clear c4
       try clear c5
       try clear c5b0
       try clear c11
       try clear c14
       try clear c16
       try clear c20
       try clear c21
       try clear c27
       try clear c30
       try clear c37
       try clear c37b0
       try clear c39
       try clear c43
       try clear c44
       try clear p2
       obtain ⟨kq, x69_31, rfl, HA, HJ31, HO_8, HO_11, HB⟩ := hcut
       cases kq with
       | zero => exact absurd HA.out (by simp [laws_FnExactNextStage.j1])
       | succ kj31 =>
        have H := HA.out
        clear HA
        simp only [laws_FnExactNextStage.j1] at H
        by_cases c46 : x69_31 = true
        ·subst c46
         have H1 : (some false) = some r := by rw [if_pos rfl] at H; exact H
         clear H
         have H := H1
         clear H1
         as_aux_lemma =>
          exact absurd ((Option.some.inj H).trans HT.out) (by decide)
        ·replace c46 := Bool.eq_false_iff.mpr c46
         subst c46
         have H1 : ((laws_markCarpetOrderS.f kj31 t112 1).bind fun bt124 => ((laws_heldCarpetOrderS.f kj31 bt124.2 1).bind fun t126 => (if t126 < 0 then (some false) else (if t126 = bt124.1 then ((laws_toCarpetOrderS.f kj31 l0).bind fun t127 => ((impl_NextStage.f kj31 t127 a1 a2).bind fun bt130 => ((laws_eqCarpetOrderS.f kj31 bt130.1 t105).bind fun t134 => (if t134 = true then (laws_FnExactNextStage.j2 kj31 bt124.2 bt124.1 (bt130.2 != t106)) else (laws_FnExactNextStage.j2 kj31 bt124.2 bt124.1 true))))) else (some false))))) = some r := by rw [if_neg (show ¬ (false = true) by decide)] at H; exact H
         clear H
         have H := H1
         clear H1
         replace H := Option.bind_eq_some_iff.mp H
         obtain ⟨⟨t124, t125⟩, A470, H⟩ := H
         replace H : ((laws_heldCarpetOrderS.f kj31 t125 1).bind fun t126 => (if t126 < 0 then (some false) else (if t126 = t124 then ((laws_toCarpetOrderS.f kj31 l0).bind fun t127 => ((impl_NextStage.f kj31 t127 a1 a2).bind fun bt130 => ((laws_eqCarpetOrderS.f kj31 bt130.1 t105).bind fun t134 => (if t134 = true then (laws_FnExactNextStage.j2 kj31 t125 t124 (bt130.2 != t106)) else (laws_FnExactNextStage.j2 kj31 t125 t124 true))))) else (some false)))) = some r := H
         have A47 := Aside0.mk A470
         clear A470
         replace H := Option.bind_eq_some_iff.mp H
         obtain ⟨t126, A480, H⟩ := H
         replace H : (if t126 < 0 then (some false) else (if t126 = t124 then ((laws_toCarpetOrderS.f kj31 l0).bind fun t127 => ((impl_NextStage.f kj31 t127 a1 a2).bind fun bt130 => ((laws_eqCarpetOrderS.f kj31 bt130.1 t105).bind fun t134 => (if t134 = true then (laws_FnExactNextStage.j2 kj31 t125 t124 (bt130.2 != t106)) else (laws_FnExactNextStage.j2 kj31 t125 t124 true))))) else (some false))) = some r := H
         have A48 := Aside0.mk A480
         clear A480
         by_cases c49 : t126 < 0
         ·rw [if_pos c49] at H
          have c49b0 : decide (t126 < 0) = true := decide_eq_true c49
          clear c49
          as_aux_lemma =>
           exact absurd ((Option.some.inj H).trans HT.out) (by decide)
         ·rw [if_neg c49] at H
          have c49b0 : decide (t126 < 0) = false := decide_eq_false c49
          clear c49
          by_cases c50 : t126 = t124
          ·rw [if_pos c50] at H
           have c50b0 : (t126 == t124) = true := beq_iff_eq.mpr c50
           have c50b1 : (t126 != t124) = false := bne_eq_false_iff_eq.mpr c50
           clear c50
           replace H := Option.bind_eq_some_iff.mp H
           obtain ⟨t127, A510, H⟩ := H
           replace H : ((impl_NextStage.f kj31 t127 a1 a2).bind fun bt130 => ((laws_eqCarpetOrderS.f kj31 bt130.1 t105).bind fun t134 => (if t134 = true then (laws_FnExactNextStage.j2 kj31 t125 t124 (bt130.2 != t106)) else (laws_FnExactNextStage.j2 kj31 t125 t124 true)))) = some r := H
           have A51 := Aside0.mk A510
           clear A510
           replace H := Option.bind_eq_some_iff.mp H
           obtain ⟨⟨t130, t131⟩, A520, H⟩ := H
           replace H : ((laws_eqCarpetOrderS.f kj31 t130 t105).bind fun t134 => (if t134 = true then (laws_FnExactNextStage.j2 kj31 t125 t124 (t131 != t106)) else (laws_FnExactNextStage.j2 kj31 t125 t124 true))) = some r := H
           have A52 := Aside0.mk A520
           clear A520
           have HC53 := Aside0.mk H
           clear H
           obtain ⟨Ao54, co54, eo54⟩ := Kd.R_slice HO_11.out
           subst eo54
           go_upto_region 25 with (first | ((with_reducible refine gate_callee (f := 21) rfl ?_); refine goesL_ (some 72) rfl rfl Tryd.func21 (by kernel_rfl) rfl #[.slice Ao54 t112.length co54, .int .i64 1] rfl (by (try simp only [List.map_toArray, List.map_cons, List.map_nil]); first | done | rfl | (simp only [List.length_drop, List.length_take]; rfl)) ?_; (with_reducible refine (laws_markCarpetOrderS.calls kj31 (fun k_ => some k_ = (.slice Ao54 t112.length co54 : Value).ownBlock) (.slice Ao54 t112.length co54) t112 1 t124 t125 w _ ?side1 ?side2 A47.out).mono ?_); (case side1 => exact eS HB.out); (case side2 => exact Kd.R_tight rfl HO_11.out); rintro e w55 ⟨rfl, hy0, hb, hkp⟩; refine ⟨_, rfl, ?_⟩; have n0_ := Aside0.mk (Kd.R_mono (ok' := fun k_ => some k_ ≠ (.slice Ao54 t112.length co54 : Value).ownBlock) (Kd.R_keptB (HO_8.out) hkp (fun k_ hk_ hs_ => (hk_) hs_)) (fun k_ hk_ => hk_.1)); have n1_ := Aside0.mk (Kd.R_reok rfl hy0 (fun k_ e_ => HO_11.out.1 k_ e_)); have n2_ := Aside0.mk (hb); clear HO_8; clear HO_11; clear HB; have HO_8 := n0_; have HO_11 := n1_; have HB := n2_; clear n0_ n1_ n2_; (try clear hb); (try clear hkp); (try clear hy0)) | ((with_reducible refine gate_callee (f := 40) rfl ?_); refine goesL_ (some 75) rfl rfl Tryd.func40 (by kernel_rfl) rfl #[.slice Ao54 t125.length co54, .int .i64 1] rfl (by (try simp only [List.map_toArray, List.map_cons, List.map_nil]); first | done | (rw [show t125.length = t112.length from (Kd.R_reads' HO_11.out).1.symm] <;> rfl) | rfl | (simp only [List.length_drop, List.length_take]; rfl)) ?_; (with_reducible refine (laws_heldCarpetOrderS.calls kj31 _ _ t125 1 t126 _ ?side1 ?side2 A48.out).mono ?_); (case side1 => repeat (first | exact (Kd.R_reads' HO_11.out).2.2 | (with_reducible refine Kd.C_alloc ?_ _) | (with_reducible refine Kd.C_drewN ?_ _) | (with_reducible refine Kd.C_drew ?_))); (case side2 => rw [show t125.length = t112.length from (Kd.R_reads' HO_11.out).1.symm]; exact (Kd.R_reads' HO_11.out).2.1); rintro e w56 ⟨rfl, hb⟩; refine ⟨_, rfl, ?_⟩; have n0_ := Aside0.mk (Kd.R_below (by exact Ho.RS <| HO_8.out) hb); have n1_ := Aside0.mk (Kd.R_below (by exact Ho.RS <| HO_11.out) hb); have n2_ := Aside0.mk (below_step (by exact eS HB.out) hb); clear HO_8; clear HO_11; clear HB; have HO_8 := n0_; have HO_11 := n1_; have HB := n2_; clear n0_ n1_ n2_; (try clear hb); (try clear hb2); (try clear hk); (try clear hi)) | ((with_reducible refine gate_callee (f := 16) rfl ?_); refine goesL_ (some 83) rfl rfl Tryd.func16 (by kernel_rfl) rfl #[.slice A0 l0.length c0] rfl (by (try simp only [List.map_toArray, List.map_cons, List.map_nil]); first | done | rfl | (simp only [List.length_drop, List.length_take]; rfl)) ?_; (with_reducible refine (laws_toCarpetOrderS.calls kj31 _ _ l0 t127 _ ?side1 ?side2 A51.out).mono ?_); (case side1 => repeat (first | exact (Kd.C_below HR0.out HB.out) | (with_reducible refine Kd.C_alloc ?_ _) | (with_reducible refine Kd.C_drewN ?_ _) | (with_reducible refine Kd.C_drew ?_))); (case side2 => exact HC0.out); rintro e w57 ⟨v128, rfl, ho0, hb⟩; refine ⟨_, rfl, ?_⟩; have n0_ := Aside0.mk (Kd.R_elder' (by exact Ho.RS <| HO_8.out) (Kd.R_base ho0) hb); have n1_ := Aside0.mk (Kd.R_elder' (by exact Ho.RS <| HO_11.out) (Kd.R_base ho0) hb); have n2_ := Aside0.mk (Kd.R_lower (Kd.R_new' (Kd.R_new' ho0 (Kd.R_lt (by exact Ho.RS <| HO_8.out))) (Kd.R_lt (by exact Ho.RS <| HO_11.out))) (below_size (by exact eS HB.out))); have n3_ := Aside0.mk (below_step (by exact eS HB.out) hb); clear HO_8; clear HO_11; clear HB; have HO_8 := n0_; have HO_11 := n1_; have HO129 := n2_; have HB := n3_; clear n0_ n1_ n2_ n3_; (try clear hb); (try clear hb2); (try clear hk); (try clear hi); (try clear ho0); obtain ⟨Ao58, co58, eo58⟩ := Kd.R_slice HO129.out; subst eo58) | ((with_reducible refine gate_callee (f := 44) rfl ?_); refine goesL_ (some 86) rfl rfl Tryd.func44 (by kernel_rfl) rfl #[.slice Ao58 t127.length co58, .int .i64 a1, .int .i64 a2] rfl (by (try simp only [List.map_toArray, List.map_cons, List.map_nil]); first | done | rfl | (simp only [List.length_drop, List.length_take]; rfl)) ?_; (with_reducible refine (impl_NextStage.calls kj31 _ _ t127 a1 a2 t130 t131 _ ?side1 ?side2 A52.out).mono ?_); (case side1 => repeat (first | exact (Kd.R_reads' HO129.out).2.2 | (with_reducible refine Kd.C_alloc ?_ _) | (with_reducible refine Kd.C_drewN ?_ _) | (with_reducible refine Kd.C_drew ?_))); (case side2 => exact (Kd.R_reads' HO129.out).2.1); rintro e w59 ⟨v132, rfl, ho0, hb⟩; refine ⟨_, rfl, ?_⟩; have n0_ := Aside0.mk (Kd.R_elder' (by exact Ho.RS <| HO_8.out) (Kd.R_base ho0) hb); have n1_ := Aside0.mk (Kd.R_elder' (by exact Ho.RS <| HO_11.out) (Kd.R_base ho0) hb); have n2_ := Aside0.mk (Kd.R_elder' (by exact Ho.RS <| HO129.out) (Kd.R_base ho0) hb); have n3_ := Aside0.mk (Kd.R_lower (Kd.R_new' (Kd.R_new' (Kd.R_new' ho0 (Kd.R_lt (by exact Ho.RS <| HO_8.out))) (Kd.R_lt (by exact Ho.RS <| HO_11.out))) (Kd.R_lt (by exact Ho.RS <| HO129.out))) (below_size (by exact eS HB.out))); have n4_ := Aside0.mk (below_step (by exact eS HB.out) hb); clear HO_8; clear HO_11; clear HO129; clear HB; have HO_8 := n0_; have HO_11 := n1_; have HO129 := n2_; have HO133 := n3_; have HB := n4_; clear n0_ n1_ n2_ n3_ n4_; (try clear hb); (try clear hb2); (try clear hk); (try clear hi); (try clear ho0)))
           (try simp only [Act.put, List.setIfInBounds_toArray, List.set_cons_zero, List.set_cons_succ])
           go_cut [97] (fun v97 wc => ∃ (kq : Nat) (x97_52 : Bool), v97 = .bool x97_52 ∧ Aside0 (laws_FnExactNextStage.j2 kq t125 t124 x97_52 = some r) ∧ Aside0 (kq ≤ kj31) ∧ Aside0 (Kd.R k41 41 wc w.heap.size (fun _ => True) (.slice Ao54 t112.length co54) t125) ∧ Aside0 (Below w.heap.size w wc))
           case first =>
            have H := HC53.out
            clear HC53
            replace H := Option.bind_eq_some_iff.mp H
            obtain ⟨t134, A600, H⟩ := H
            replace H : (if t134 = true then (laws_FnExactNextStage.j2 kj31 t125 t124 (t131 != t106)) else (laws_FnExactNextStage.j2 kj31 t125 t124 true)) = some r := H
            have A60 := Aside0.mk A600
            clear A600
            by_cases c61 : t134 = true
            ·subst c61
             have H1 : (laws_FnExactNextStage.j2 kj31 t125 t124 (t131 != t106)) = some r := by rw [if_pos rfl] at H; exact H
             clear H
             have H := H1
             clear H1
             as_aux_lemma =>
              have H' := Aside0.mk H
              clear H
              obtain ⟨Ao62, co62, eo62⟩ := Kd.R_slice HO133.out
              subst eo62
              obtain ⟨Ao63, co63, eo63⟩ := Kd.R_slice HO_8.out
              subst eo63
              go_wp2_with (first | ((with_reducible refine gate_callee (f := 20) rfl ?_); refine goesL_ (some 91) rfl rfl Tryd.func20 (by kernel_rfl) rfl #[.slice Ao62 t130.length co62, .slice Ao63 t105.length co63] rfl (by (try simp only [List.map_toArray, List.map_cons, List.map_nil]); first | done | rfl | (simp only [List.length_drop, List.length_take]; rfl)) ?_; (with_reducible refine (laws_eqCarpetOrderS.calls kj31 _ _ t130 _ _ t105 true _ ?side1 ?side2 ?side3 ?side4 A60.out).mono ?_); (case side1 => repeat (first | exact (Kd.R_reads' HO133.out).2.2 | (with_reducible refine Kd.C_alloc ?_ _) | (with_reducible refine Kd.C_drewN ?_ _) | (with_reducible refine Kd.C_drew ?_))); (case side2 => exact (Kd.R_reads' HO133.out).2.1); (case side3 => repeat (first | exact (Kd.R_reads' HO_8.out).2.2 | (with_reducible refine Kd.C_alloc ?_ _) | (with_reducible refine Kd.C_drewN ?_ _) | (with_reducible refine Kd.C_drew ?_))); (case side4 => exact (Kd.R_reads' HO_8.out).2.1); rintro e w64 ⟨rfl, hb⟩; refine ⟨_, rfl, ?_⟩; have n0_ := Aside0.mk (Kd.R_below (by exact Ho.RS <| HO_8.out) hb); have n1_ := Aside0.mk (Kd.R_below (by exact Ho.RS <| HO_11.out) hb); have n2_ := Aside0.mk (Kd.R_below (by exact Ho.RS <| HO129.out) hb); have n3_ := Aside0.mk (Kd.R_below (by exact Ho.RS <| HO133.out) hb); have n4_ := Aside0.mk (below_step (by exact eS HB.out) hb); clear HO_8; clear HO_11; clear HO129; clear HO133; clear HB; have HO_8 := n0_; have HO_11 := n1_; have HO129 := n2_; have HO133 := n3_; have HB := n4_; clear n0_ n1_ n2_ n3_ n4_; (try clear hb); (try clear hb2); (try clear hk); (try clear hi)))
              go_meet
              case rel => exact ⟨_, ((t131 != t106)), (by first | rfl | (simp; done) | (simp [*]; done)), H', ⟨by have := HJ10.out; have := HJ31.out; first | omega | exact Nat.le_refl _⟩, ⟨by exact Ho.RS <| Kd.R_mono HO_11.out (fun _ hk => trivial)⟩, ⟨by exact eS HB.out⟩⟩
            ·replace c61 := Bool.eq_false_iff.mpr c61
             subst c61
             have H1 : (laws_FnExactNextStage.j2 kj31 t125 t124 true) = some r := by rw [if_neg (show ¬ (false = true) by decide)] at H; exact H
             clear H
             have H := H1
             clear H1
             as_aux_lemma =>
              have H' := Aside0.mk H
              clear H
              obtain ⟨Ao65, co65, eo65⟩ := Kd.R_slice HO133.out
              subst eo65
              obtain ⟨Ao66, co66, eo66⟩ := Kd.R_slice HO_8.out
              subst eo66
              go_wp2_with (first | ((with_reducible refine gate_callee (f := 20) rfl ?_); refine goesL_ (some 91) rfl rfl Tryd.func20 (by kernel_rfl) rfl #[.slice Ao65 t130.length co65, .slice Ao66 t105.length co66] rfl (by (try simp only [List.map_toArray, List.map_cons, List.map_nil]); first | done | rfl | (simp only [List.length_drop, List.length_take]; rfl)) ?_; (with_reducible refine (laws_eqCarpetOrderS.calls kj31 _ _ t130 _ _ t105 false _ ?side1 ?side2 ?side3 ?side4 A60.out).mono ?_); (case side1 => repeat (first | exact (Kd.R_reads' HO133.out).2.2 | (with_reducible refine Kd.C_alloc ?_ _) | (with_reducible refine Kd.C_drewN ?_ _) | (with_reducible refine Kd.C_drew ?_))); (case side2 => exact (Kd.R_reads' HO133.out).2.1); (case side3 => repeat (first | exact (Kd.R_reads' HO_8.out).2.2 | (with_reducible refine Kd.C_alloc ?_ _) | (with_reducible refine Kd.C_drewN ?_ _) | (with_reducible refine Kd.C_drew ?_))); (case side4 => exact (Kd.R_reads' HO_8.out).2.1); rintro e w67 ⟨rfl, hb⟩; refine ⟨_, rfl, ?_⟩; have n0_ := Aside0.mk (Kd.R_below (by exact Ho.RS <| HO_8.out) hb); have n1_ := Aside0.mk (Kd.R_below (by exact Ho.RS <| HO_11.out) hb); have n2_ := Aside0.mk (Kd.R_below (by exact Ho.RS <| HO129.out) hb); have n3_ := Aside0.mk (Kd.R_below (by exact Ho.RS <| HO133.out) hb); have n4_ := Aside0.mk (below_step (by exact eS HB.out) hb); clear HO_8; clear HO_11; clear HO129; clear HO133; clear HB; have HO_8 := n0_; have HO_11 := n1_; have HO129 := n2_; have HO133 := n3_; have HB := n4_; clear n0_ n1_ n2_ n3_ n4_; (try clear hb); (try clear hb2); (try clear hk); (try clear hi)))
              go_meet
              case rel => exact ⟨_, (true), (by first | rfl | (simp; done) | (simp [*]; done)), H', ⟨by have := HJ10.out; have := HJ31.out; first | omega | exact Nat.le_refl _⟩, ⟨by exact Ho.RS <| Kd.R_mono HO_11.out (fun _ hk => trivial)⟩, ⟨by exact eS HB.out⟩⟩
           case rest =>
            clear HC53
            try clear c1
            try clear c2
            try clear p2
            try clear c3
            try clear c4
            try clear c5
            try clear c5b0
            try clear c6
            try clear c11
            try clear c14
            try clear c16
            try clear c20
            try clear c21
            try clear c27
            try clear c30
            try clear c37
            try clear c37b0
            try clear c39
            try clear c40
            try clear c43
            try clear c44
            try clear c46
            try clear c49
            try clear c49b0
            try clear c50
            try clear c50b0
            try clear c50b1
            try clear c61
            try clear p2
            obtain ⟨kq, x97_52, rfl, HA, HJ52, HO_11, HB⟩ := hcut
            have hl11_52 := (Kd.R_reads' HO_11.out).1
            rw [hl11_52] at HO_11
            (try simp only [hl11_52])
            cases kq with
            | zero => exact absurd HA.out (by simp [laws_FnExactNextStage.j2])
            | succ kj52 =>
             have H := HA.out
             clear HA
             simp only [laws_FnExactNextStage.j2] at H
             by_cases c68 : x97_52 = true
             ·subst c68
              have H1 : (some false) = some r := by rw [if_pos rfl] at H; exact H
              clear H
              have H := H1
              clear H1
              as_aux_lemma =>
               exact absurd ((Option.some.inj H).trans HT.out) (by decide)
             ·replace c68 := Bool.eq_false_iff.mpr c68
              subst c68
              have H1 : ((laws_heldCarpetOrderS.f kj52 t125 1).bind fun t135 => (if t135 < 0 then (some false) else (if t135 = t124 then (some true) else (some false)))) = some r := by rw [if_neg (show ¬ (false = true) by decide)] at H; exact H
              clear H
              have H := H1
              clear H1
              replace H := Option.bind_eq_some_iff.mp H
              obtain ⟨t135, A690, H⟩ := H
              replace H : (if t135 < 0 then (some false) else (if t135 = t124 then (some true) else (some false))) = some r := H
              have A69 := Aside0.mk A690
              clear A690
              by_cases c70 : t135 < 0
              ·rw [if_pos c70] at H
               have c70b0 : decide (t135 < 0) = true := decide_eq_true c70
               clear c70
               as_aux_lemma =>
                exact absurd ((Option.some.inj H).trans HT.out) (by decide)
              ·rw [if_neg c70] at H
               have c70b0 : decide (t135 < 0) = false := decide_eq_false c70
               clear c70
               by_cases c71 : t135 = t124
               ·rw [if_pos c71] at H
                have c71b0 : (t135 == t124) = true := beq_iff_eq.mpr c71
                have c71b1 : (t135 != t124) = false := bne_eq_false_iff_eq.mpr c71
                clear c71
                as_aux_lemma =>
                 obtain rfl := Option.some.inj H
                 go_wp2_with (first | ((with_reducible refine gate_callee (f := 40) rfl ?_); refine goesL_ (some 100) rfl rfl Tryd.func40 (by kernel_rfl) rfl #[.slice Ao54 t125.length co54, .int .i64 1] rfl (by (try simp only [List.map_toArray, List.map_cons, List.map_nil]); first | done | rfl | (simp only [List.length_drop, List.length_take]; rfl)) ?_; (with_reducible refine (laws_heldCarpetOrderS.calls kj52 _ _ t125 1 t135 _ ?side1 ?side2 A69.out).mono ?_); (case side1 => repeat (first | exact (Kd.R_reads' HO_11.out).2.2 | (with_reducible refine Kd.C_alloc ?_ _) | (with_reducible refine Kd.C_drewN ?_ _) | (with_reducible refine Kd.C_drew ?_))); (case side2 => exact (Kd.R_reads' HO_11.out).2.1); rintro e w72 ⟨rfl, hb⟩; refine ⟨_, rfl, ?_⟩; have n0_ := Aside0.mk (Kd.R_below (by exact Ho.RS <| HO_11.out) hb); have n1_ := Aside0.mk (below_step (by exact eS HB.out) hb); clear HO_11; clear HB; have HO_11 := n0_; have HB := n1_; clear n0_ n1_; (try clear hb); (try clear hb2); (try clear hk); (try clear hi)))
                 go_ret
                 exact ⟨by first | rfl | (simp [errW_none, errW_some] <;> rfl) | (simp [*, errW_none, errW_some] <;> rfl), by exact eS HB.out⟩
               ·rw [if_neg c71] at H
                have c71b0 : (t135 == t124) = false := beq_eq_false_iff_ne.mpr c71
                have c71b1 : (t135 != t124) = true := bne_iff_ne.mpr c71
                as_aux_lemma =>
                 exact absurd ((Option.some.inj H).trans HT.out) (by decide)
          ·rw [if_neg c50] at H
           have c50b0 : (t126 == t124) = false := beq_eq_false_iff_ne.mpr c50
           have c50b1 : (t126 != t124) = true := bne_iff_ne.mpr c50
           as_aux_lemma =>
            exact absurd ((Option.some.inj H).trans HT.out) (by decide)
     ·replace c30 := Bool.eq_false_iff.mpr c30
      subst c30
      have H1 : (some false) = some r := by rw [if_neg (show ¬ (false = true) by decide)] at H; exact H
      clear H
      have H := H1
      clear H1
      as_aux_lemma =>
       exact absurd ((Option.some.inj H).trans HT.out) (by decide)

/-- THE ONE PURE STATEMENT of laws_FnExactNextStage: yours. -/
def laws_FnExactNextStage.Pure : Prop := ∀ (l0 : List (S38)) (a1 : Int) (a2 : Int), (l0.length ≤ 9223372036854775807 ∧ ∀ y_ ∈ l0, ok38 y_) → (Lit.int .i64 a1).wf = true → (Lit.int .i64 a2).wf = true → ∃ k, laws_FnExactNextStage.f k l0 a1 a2 = some true

end Go.Proofs.YtahfahlbdgbfeaaDoor.X

-- Qnextstage
namespace Go.Proofs.YtahfahlbdgbfeaaDoor.Pure
open Go Go.RowKit Go.Proofs Go.Proofs.YtahfahlbdgbfeaaDoor.X Go.Proofs.YtahfahlbdgbfeaaDoorW.PrintWords Go.Proofs.YtahfahlbdgbfeaaDoorW.PrintLast
set_option linter.unusedVariables false
set_option linter.unusedSimpArgs false

def nextM (l : List S41) (id d : Int) : List S41 × Bool :=
  let i := findM l id
  let x := l.getD i.toNat z41
  if i < 0 then ([], false) else if x.f4 > 3 ∨ d < x.f7 ∨ (x.f4 = 0 ∧ 3 * x.f6 < x.f5) ∨ (x.f4 = 3 ∧ x.f6 < x.f5) then ([], false) else withM l i ⟨x.f0, x.f1, x.f2, x.f3, x.f4 + 1, x.f5, x.f6, d⟩
theorem nextM_len (l : List S41) (id c : Int) : (nextM l id c).1.length ≤ 10 := by
  unfold nextM
  simp only
  (repeat' split) <;> first | exact withM_len _ _ _ | simp
theorem nextS_eq {k : Nat} {l : List S41} {id d : Int} (hk : 4000000 < k) (hs : sizesOk l) : spec_NextStage.f k l id d = some (nextM l id d) := by
  have hlen := hs.1
  obtain ⟨k, rfl, hk⟩ := succ_of hk
  simp only [spec_NextStage.f, findS_eq (k := k + 1) (l := l) (id := id) (by omega) hs, Option.bind_some, nextM]
  rcases findM_cases l id with h | ⟨j, h, hj, _, ho⟩
  · rw [h]; simp [spec_NextStage.j0]
  rw [h]
  simp only [rdIOrder_nat, Int.toNat_natCast, spec_l17Open.f, Option.bind_some]
  simp only [if_neg (show ¬ (j : Int) < 0 by omega)]
  rw [if_pos (by omega), if_pos (by omega)]
  simp only [spec_NextStage.j0, rdIOrder_nat]
  obtain ⟨x, hx⟩ : ∃ x, l.getD j z41 = x := ⟨_, rfl⟩
  rw [hx] at ho ⊢
  have hb := order_of ho
  have hw := withS_eq (k := k) (l := l) (i := (j : Int)) ⟨x.f0, x.f1, x.f2, x.f3, x.f4 + 1, x.f5, x.f6, d⟩ (by omega) hs (by have := word_size hb.2.1; simp only; omega) (by omega)
  simp only at hw
  have hw2 : (spec_l17With.f k l (j : Int) x.f0 x.f1 x.f2 x.f3 (x.f4 + 1) x.f5 x.f6 d).bind (fun bt => some (bt.1, bt.2)) = some (withM l (j : Int) ⟨x.f0, x.f1, x.f2, x.f3, x.f4 + 1, x.f5, x.f6, d⟩) := by rw [hw]; rfl
  rw [w64 (x := x.f4 + 1) (by omega) (by omega), w64 (x := 3 * x.f6) (by omega) (by omega)]
  simp only [hw2]
  by_cases g1 : x.f4 ≤ 3
  · rw [decide_eq_true g1]
    by_cases g2 : d < x.f7
    · rw [decide_eq_true g2]
      simp only [if_true]
      rw [if_pos (.inr (.inl g2))]
    · rw [decide_eq_false g2]
      simp only [if_true, Bool.false_eq_true, if_false]
      rw [if_pos (by omega), if_pos (by omega)]
      by_cases g3 : x.f4 = 0
      · rw [if_pos g3, if_neg (show ¬ x.f4 = 3 by omega)]
        by_cases g4 : 3 * x.f6 < x.f5
        · rw [if_pos g4, if_pos (by omega)]
        · rw [if_neg g4, if_neg (by omega)]
      · rw [if_neg g3]
        by_cases g5 : x.f4 = 3
        · rw [if_pos g5]
          by_cases g6 : x.f6 < x.f5
          · rw [if_pos g6, if_pos (by omega)]
          · rw [if_neg g6, if_neg (by omega)]
        · rw [if_neg g5, if_neg (by omega)]
  · rw [decide_eq_false g1]
    simp only [Bool.false_eq_true, if_false, if_true]
    rw [if_pos (by omega)]
theorem nextI_eq {k : Nat} {l : List S41} {id d : Int} (hk : 4000000 < k) (hlen : l.length ≤ 1048576) : impl_NextStage.f k l id d = some (nextM l id d) := by
  obtain ⟨k, rfl, hk⟩ := succ_of hk
  simp only [impl_NextStage.f, findO_eq (k := k + 1) (l := l) (id := id) (by omega) hlen, Option.bind_some, nextM]
  rcases findM_cases l id with h | ⟨j, h, hj, _, ho⟩
  · rw [h]; simp
  rw [h]
  simp only [rdIOrder_nat, Int.toNat_natCast]
  simp only [if_neg (show ¬ (j : Int) < 0 by omega)]
  rw [if_pos (by omega), if_pos (by omega)]
  obtain ⟨x, hx⟩ : ∃ x, l.getD j z41 = x := ⟨_, rfl⟩
  rw [hx] at ho ⊢
  have hb := order_of ho
  have hw := withI_eq (k := k + 1) (l := l) (i := (j : Int)) ⟨x.f0, x.f1, x.f2, x.f3, x.f4 + 1, x.f5, x.f6, d⟩ (by omega) hlen (by omega)
  simp only at hw
  have hgo : impl_CarpetOrder_canGoOn.f (k + 1) x.f0 x.f1 x.f2 x.f3 x.f4 x.f5 x.f6 x.f7 = some (!decide (x.f4 > 3 ∨ (x.f4 = 0 ∧ 3 * x.f6 < x.f5) ∨ (x.f4 = 3 ∧ x.f6 < x.f5))) := by
    simp only [impl_CarpetOrder_canGoOn.f, impl_CarpetOrder_canGoOn.j0]
    rw [w64 (x := 3 * x.f6) (by omega) (by omega)]
    rcases (show x.f4 = 0 ∨ x.f4 = 1 ∨ x.f4 = 2 ∨ x.f4 = 3 ∨ x.f4 = 4 ∨ x.f4 = 5 by omega) with e | e | e | e | e | e
    · rw [e]
      simp only [if_true]
      by_cases g : 3 * x.f6 < x.f5
      · rw [decide_eq_false (by omega), decide_eq_true (.inr (.inl ⟨trivial, g⟩))]; rfl
      · rw [decide_eq_true (by omega), decide_eq_false (fun h => by rcases h with h | ⟨_, h⟩ | ⟨h, _⟩ <;> first | exact g h | (exact absurd h (by decide)) | omega)]; rfl
    · rw [e]; simp
    · rw [e]; simp
    · rw [e]
      by_cases g : x.f6 < x.f5
      · simp [g, show ¬ x.f6 = x.f5 by omega]
      · have : x.f6 = x.f5 := by omega
        simp [this]
    · rw [e]; simp
    · rw [e]; simp
  have hw2 : (impl_withOrder.f (k + 1) l (j : Int) x.f0 x.f1 x.f2 x.f3 (x.f4 + 1) x.f5 x.f6 d).bind (fun bt => some (bt.1, bt.2)) = some (withM l (j : Int) ⟨x.f0, x.f1, x.f2, x.f3, x.f4 + 1, x.f5, x.f6, d⟩) := by rw [hw]; rfl
  rw [hgo, w64 (x := x.f4 + 1) (by omega) (by omega)]
  simp only [hw2, Option.bind_some]
  by_cases g1 : x.f4 > 3 ∨ (x.f4 = 0 ∧ 3 * x.f6 < x.f5) ∨ (x.f4 = 3 ∧ x.f6 < x.f5)
  · rw [decide_eq_true g1]
    simp only [Bool.not_true, Bool.false_eq_true, if_false]
    rw [if_pos (by omega)]
  · rw [decide_eq_false g1]
    simp only [Bool.not_false, if_true]
    by_cases g2 : d < x.f7
    · rw [if_pos g2, if_pos (.inr (.inl g2))]
    · rw [if_neg g2, if_neg (by omega)]

end Go.Proofs.YtahfahlbdgbfeaaDoor.Pure

-- PureFnExactNextStage
namespace Go.Proofs.YtahfahlbdgbfeaaDoor.Pure
open Go Go.RowKit Go.Proofs Go.Proofs.YtahfahlbdgbfeaaDoor.X Go.Proofs.YtahfahlbdgbfeaaDoorW.PrintWords Go.Proofs.YtahfahlbdgbfeaaDoorW.PrintLast
set_option linter.unusedVariables false
set_option linter.unusedSimpArgs false

theorem FnExactNextStage : laws_FnExactNextStage.Pure := by
  intro l id c hl _ _
  refine ⟨8000003, ?_⟩
  obtain ⟨r, hr, hor⟩ := szOrderS_ex (k := 8000003) (l := l) (by omega) hl.1 (fun x hx => (hl.2 x hx).2.1)
  simp only [laws_FnExactNextStage.f, hr, Option.bind_some]
  by_cases h : r < 0
  · rw [if_pos h]
  rw [if_neg h]
  have hs := hor.resolve_left h
  have hm := sizesOk_map hs
  have hlen := nextM_len (l.map toOrder) id c
  simp only [toOrderS_eq (k := 8000003) (l := l) (by omega) hs.1, Option.bind_some, nextS_eq (k := 8000003) (l := l.map toOrder) (id := id) (d := c) (by omega) hm, nextI_eq (k := 8000003) (l := l.map toOrder) (id := id) (d := c) (by omega) hm.1, eqOrderS_refl (k := 8000003) (l := (nextM (l.map toOrder) id c).1) (by omega) (by omega), if_true, bne_self_eq_false, laws_FnExactNextStage.j0, Bool.false_eq_true, if_false, toOrderS_eq (k := 8000002) (l := l) (by omega) hs.1, eqOrderS_refl (k := 8000002) (l := l.map toOrder) (by omega) (by omega), markOrderS_eq (k := 8000002) (l := l.map toOrder) (s := 1) (by omega) hm.1 (by omega), eqOrderS_refl (k := 8000002) (l := (nextM (l.map toOrder) id c).1) (by omega) (by omega)]
  rw [if_neg (by omega)]
  simp only [laws_FnExactNextStage.j1, Bool.false_eq_true, if_false, markOrderS_eq (k := 8000001) (l := (nextM (l.map toOrder) id c).1) (s := 1) (by omega) (by omega) (by omega), Option.bind_some, heldOrderS_eq (k := 8000001) (m := (nextM (l.map toOrder) id c).1.length) (s := 1) (by omega) (by omega) (by omega), if_true, toOrderS_eq (k := 8000001) (l := l) (by omega) hs.1, nextI_eq (k := 8000001) (l := l.map toOrder) (id := id) (d := c) (by omega) hm.1, eqOrderS_refl (k := 8000001) (l := (nextM (l.map toOrder) id c).1) (by omega) (by omega), bne_self_eq_false]
  rw [if_neg (by omega)]
  simp only [laws_FnExactNextStage.j2, Bool.false_eq_true, if_false, heldOrderS_eq (k := 8000000) (m := (nextM (l.map toOrder) id c).1.length) (s := 1) (by omega) (by omega) (by omega), Option.bind_some, if_true]
  rw [if_neg (by omega)]

end Go.Proofs.YtahfahlbdgbfeaaDoor.Pure
