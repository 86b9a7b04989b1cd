/- What the law FnExactMistakesIn needs, part 6 of 6: what each function of the program that it reaches returns (printed by this session's own program, checked by Lean), and plain mathematics about it. Conditions: those of each theorem. -/
import Derived.Test.YtfibaganajembaaZVE
-- XimplMistakesInF48
namespace Go.Proofs.Ytfibaganajembaa.X
open Ho (bS eS)
open Go.RowKit Go.Proofs.YtfibaganajembaaW.PrintWords Go.Proofs.YtfibaganajembaaW.PrintLast Go.Proofs.YtfibaganajembaaW.PrintMore
attribute [local go_sem] max2_int min2_int max_two min_two max_three min_three max_four min_four   -- for this text's walks alone
set_option linter.unusedVariables false
set_option linter.unusedSimpArgs false

attribute [local go_sem ↓] Ho.isSome_setCell_   -- a store leaves all places there
/-! ### impl_MistakesIn: function 48 -/
def impl_MistakesIn.f (k : Nat) (a0_0 : Int) (a0_1 : Int) (l0_2 : List Int) (l0_3 : List Int) (a0_4 : Int) (l0_5 : List (S89)) (a0_6 : Bool) : Option (List Int × Bool) := (impl_IsWeaving.f k a0_0 a0_1 l0_2 l0_3 a0_4 l0_5 a0_6).bind fun t102 => (if t102 = true then ((impl_Weaving_mistakes.f k a0_0 a0_1 l0_2 l0_3 a0_4 l0_5 a0_6).bind fun t103 => (some (t103, true))) else (some (([] : List Int), false)))
theorem impl_MistakesIn.mono : ∀ a0 a1 a2 a3 a4 a5 a6 k, LeO (impl_MistakesIn.f k a0 a1 a2 a3 a4 a5 a6) (impl_MistakesIn.f (k + 1) a0 a1 a2 a3 a4 a5 a6) := by
  intro a0 a1 a2 a3 a4 a5 a6 k
  unfold impl_MistakesIn.f
  repeat' first
      | (with_reducible exact impl_IsWeaving.mono _ _ _ _ _ _ _ _)
      | (with_reducible exact impl_Weaving_mistakes.mono _ _ _ _ _ _ _ _)
      | (with_reducible exact LeO.refl _)
      | (with_reducible exact LeO.none _)
      | (with_reducible refine LeO.ite ?_ ?_)
      | (with_reducible refine LeO.bind ?_ (fun _ => ?_))
      | exact impl_IsWeaving.mono _ _ _ _ _ _ _ _
      | exact impl_Weaving_mistakes.mono _ _ _ _ _ _ _ _
      | exact LeO.none _
      | refine LeO.ite ?_ ?_
      | refine LeO.bind ?_ (fun _ => ?_)
set_option maxHeartbeats 8000000 in
set_option maxRecDepth 100000 in
theorem impl_MistakesIn.calls (k : Nat) (a0_0 : Int) (a0_1 : Int) (A0_2 : Option Addr) (c0_2 : Nat) (l0_2 : List Int) (A0_3 : Option Addr) (c0_3 : Nat) (l0_3 : List Int) (a0_4 : Int) (A0_5 : Option Addr) (c0_5 : Nat) (l0_5 : List (S89)) (a0_6 : Bool) (r1 : List Int) (r2 : Bool) (w : World) (hr0_2 : Kd.C (Kd.int .i64) w A0_2 l0_2.length l0_2) (hc0_2 : l0_2.length ≤ c0_2) (hr0_3 : Kd.C (Kd.int .i64) w A0_3 l0_3.length l0_3) (hc0_3 : l0_3.length ≤ c0_3) (hr0_5 : Kd.C k89 w A0_5 l0_5.length l0_5) (hc0_5 : l0_5.length ≤ c0_5) (h : impl_MistakesIn.f k a0_0 a0_1 l0_2 l0_3 a0_4 l0_5 a0_6 = some (r1, r2)) :
    Calls Try.prog 48 #[.agg #[.int .i64 a0_0, .int .i64 a0_1, .slice A0_2 l0_2.length c0_2, .slice A0_3 l0_3.length c0_3, .int .i64 a0_4, .slice A0_5 l0_5.length c0_5, .bool a0_6]] w fun e w' => ∃ v0_ : Value, e = .returned (.tuple #[v0_, .bool r2]) ∧ Kd.R (Kd.int .i64) 3 w' w.heap.size (fun _ => True) v0_ r1 ∧ Below w.heap.size w w' := by
  have hu59 := Try.underlying59
  have HR0_2 := Aside0.mk hr0_2
  have HC0_2 := Aside0.mk hc0_2
  clear hr0_2 hc0_2
  have HR0_3 := Aside0.mk hr0_3
  have HC0_3 := Aside0.mk hc0_3
  clear hr0_3 hc0_3
  have HR0_5 := Aside0.mk hr0_5
  have HC0_5 := Aside0.mk hc0_5
  clear hr0_5 hc0_5
  have HB := Aside0.mk (Below.refl w.heap.size w)
  have H : ((impl_IsWeaving.f k a0_0 a0_1 l0_2 l0_3 a0_4 l0_5 a0_6).bind fun t102 => (if t102 = true then ((impl_Weaving_mistakes.f k a0_0 a0_1 l0_2 l0_3 a0_4 l0_5 a0_6).bind fun t103 => (some (t103, true))) else (some (([] : List Int), false)))) = some (r1, r2) := h
  clear h
  replace H := Option.bind_eq_some_iff.mp H
  obtain ⟨t102, A20, H⟩ := H
  replace H : (if t102 = true then ((impl_Weaving_mistakes.f k a0_0 a0_1 l0_2 l0_3 a0_4 l0_5 a0_6).bind fun t103 => (some (t103, true))) else (some (([] : List Int), false))) = some (r1, r2) := H
  have A2 := Aside0.mk A20
  clear A20
  by_cases c3 : t102 = true
  · subst c3
    have H1 : ((impl_Weaving_mistakes.f k a0_0 a0_1 l0_2 l0_3 a0_4 l0_5 a0_6).bind fun t103 => (some (t103, true))) = some (r1, r2) := by rw [if_pos rfl] at H; exact H
    clear H
    have H := H1
    clear H1
    replace H := Option.bind_eq_some_iff.mp H
    obtain ⟨t103, A40, H⟩ := H
    replace H : (some (t103, true)) = some (r1, r2) := H
    have A4 := Aside0.mk A40
    clear A40
    simp only [Option.some.injEq, Prod.mk.injEq] at H
    obtain ⟨rfl, rfl⟩ := H
    go_enter Try.func48, Try.ntmps48
    go_wp2_with (first | ((with_reducible refine gate_dst (N := 1) rfl ?_); refine box_event ?hg (N := 1) ?hd (cs := #[.int .i64 a0_0, .int .i64 a0_1, .slice A0_2 l0_2.length c0_2, .slice A0_3 l0_3.length c0_3, .int .i64 a0_4, .slice A0_5 l0_5.length c0_5, .bool a0_6]) (t := 59) ?hr ?_; (case hd => rfl); (case hg => rfl); (case hr => first | (go_simp; done) | (go_simp; rfl)); intro gb101 hg w5 hbox hb; have n0_ := Aside0.mk (below_step (by exact eS HB.out) hb); have n1_ := Aside0.mk (hbox); have n2_ := Aside0.mk ((by rw [hg]; exact (below_size (by exact eS HB.out)) : w.heap.size ≤ gb101)); have n3_ := Aside0.mk ((by rw [hg]; exact (below_size (by exact eS HB.out)) : w.heap.size ≤ gb101)); clear HB; have HB := n0_; have BK101 := n1_; have GW101 := n2_; have GE101 := n3_; clear n0_ n1_ n2_ n3_; clear hb hbox hg; have hcz6_0 : w5.cell? ⟨gb101, 0, none⟩ = some (.int .i64 a0_0) := (blk_cell BK101.out 0).trans rfl; have hcz6_1 : w5.cell? ⟨gb101, 1, none⟩ = some (.int .i64 a0_1) := (blk_cell BK101.out 1).trans rfl; have hcz6_2 : w5.cell? ⟨gb101, 2, none⟩ = some (.slice A0_2 l0_2.length c0_2) := (blk_cell BK101.out 2).trans rfl; have hcz6_3 : w5.cell? ⟨gb101, 3, none⟩ = some (.slice A0_3 l0_3.length c0_3) := (blk_cell BK101.out 3).trans rfl; have hcz6_4 : w5.cell? ⟨gb101, 4, none⟩ = some (.int .i64 a0_4) := (blk_cell BK101.out 4).trans rfl; have hcz6_5 : w5.cell? ⟨gb101, 5, none⟩ = some (.slice A0_5 l0_5.length c0_5) := (blk_cell BK101.out 5).trans rfl; have hcz6_6 : w5.cell? ⟨gb101, 6, none⟩ = some (.bool a0_6) := (blk_cell BK101.out 6).trans rfl; have hfz6_0 := blk_frozen BK101.out 0; have hfz6_1 := blk_frozen BK101.out 1; have hfz6_2 := blk_frozen BK101.out 2; have hfz6_3 := blk_frozen BK101.out 3; have hfz6_4 := blk_frozen BK101.out 4; have hfz6_5 := blk_frozen BK101.out 5; have hfz6_6 := blk_frozen BK101.out 6) | ((with_reducible refine gate_callee (f := 41) rfl ?_); refine goesL_ (some 5) rfl rfl Try.func41 (by kernel_rfl) rfl #[.agg #[.int .i64 a0_0, .int .i64 a0_1, .slice A0_2 l0_2.length c0_2, .slice A0_3 l0_3.length c0_3, .int .i64 a0_4, .slice A0_5 l0_5.length c0_5, .bool a0_6]] rfl (by (try simp only [List.map_toArray, List.map_cons, List.map_nil]); first | done | rfl | (simp only [List.length_drop, List.length_take]; rfl)) ?_; (with_reducible refine (impl_IsWeaving.calls k a0_0 a0_1 _ _ l0_2 _ _ l0_3 a0_4 _ _ l0_5 a0_6 true _ ?side1 ?side2 ?side3 ?side4 ?side5 ?side6 A2.out).mono ?_); (case side1 => repeat (first | exact (Kd.C_below HR0_2.out HB.out) | (with_reducible refine Kd.C_alloc ?_ _) | (with_reducible refine Kd.C_drewN ?_ _) | (with_reducible refine Kd.C_drew ?_))); (case side2 => exact HC0_2.out); (case side3 => repeat (first | exact (Kd.C_below HR0_3.out HB.out) | (with_reducible refine Kd.C_alloc ?_ _) | (with_reducible refine Kd.C_drewN ?_ _) | (with_reducible refine Kd.C_drew ?_))); (case side4 => exact HC0_3.out); (case side5 => repeat (first | exact (Kd.C_below HR0_5.out HB.out) | (with_reducible refine Kd.C_alloc ?_ _) | (with_reducible refine Kd.C_drewN ?_ _) | (with_reducible refine Kd.C_drew ?_))); (case side6 => exact HC0_5.out); rintro e w7 ⟨rfl, hb⟩; refine ⟨_, rfl, ?_⟩; have n0_ := Aside0.mk (blk_below (bS BK101.out) hb); have n1_ := Aside0.mk (below_step (by exact eS HB.out) hb); clear BK101; clear HB; have BK101 := n0_; have HB := n1_; clear n0_ n1_; (try clear hb); (try clear hb2); (try clear hk); (try clear hi); have hcz8_0 : w7.cell? ⟨gb101, 0, none⟩ = some (.int .i64 a0_0) := (blk_cell BK101.out 0).trans rfl; have hcz8_1 : w7.cell? ⟨gb101, 1, none⟩ = some (.int .i64 a0_1) := (blk_cell BK101.out 1).trans rfl; have hcz8_2 : w7.cell? ⟨gb101, 2, none⟩ = some (.slice A0_2 l0_2.length c0_2) := (blk_cell BK101.out 2).trans rfl; have hcz8_3 : w7.cell? ⟨gb101, 3, none⟩ = some (.slice A0_3 l0_3.length c0_3) := (blk_cell BK101.out 3).trans rfl; have hcz8_4 : w7.cell? ⟨gb101, 4, none⟩ = some (.int .i64 a0_4) := (blk_cell BK101.out 4).trans rfl; have hcz8_5 : w7.cell? ⟨gb101, 5, none⟩ = some (.slice A0_5 l0_5.length c0_5) := (blk_cell BK101.out 5).trans rfl; have hcz8_6 : w7.cell? ⟨gb101, 6, none⟩ = some (.bool a0_6) := (blk_cell BK101.out 6).trans rfl; have hfz8_0 := blk_frozen BK101.out 0; have hfz8_1 := blk_frozen BK101.out 1; have hfz8_2 := blk_frozen BK101.out 2; have hfz8_3 := blk_frozen BK101.out 3; have hfz8_4 := blk_frozen BK101.out 4; have hfz8_5 := blk_frozen BK101.out 5; have hfz8_6 := blk_frozen BK101.out 6) | ((with_reducible refine gate_callee (f := 84) rfl ?_); refine goesL_ (some 8) rfl rfl Try.func84 (by kernel_rfl) rfl #[.agg #[.int .i64 a0_0, .int .i64 a0_1, .slice A0_2 l0_2.length c0_2, .slice A0_3 l0_3.length c0_3, .int .i64 a0_4, .slice A0_5 l0_5.length c0_5, .bool a0_6]] rfl (by (try simp only [List.map_toArray, List.map_cons, List.map_nil]); first | done | rfl | (simp only [List.length_drop, List.length_take]; rfl)) ?_; (with_reducible refine (impl_Weaving_mistakes.calls k a0_0 a0_1 _ _ l0_2 _ _ l0_3 a0_4 _ _ l0_5 a0_6 t103 _ ?side1 ?side2 ?side3 ?side4 ?side5 ?side6 A4.out).mono ?_); (case side1 => repeat (first | exact (Kd.C_below HR0_2.out HB.out) | (with_reducible refine Kd.C_alloc ?_ _) | (with_reducible refine Kd.C_drewN ?_ _) | (with_reducible refine Kd.C_drew ?_))); (case side2 => exact HC0_2.out); (case side3 => repeat (first | exact (Kd.C_below HR0_3.out HB.out) | (with_reducible refine Kd.C_alloc ?_ _) | (with_reducible refine Kd.C_drewN ?_ _) | (with_reducible refine Kd.C_drew ?_))); (case side4 => exact HC0_3.out); (case side5 => repeat (first | exact (Kd.C_below HR0_5.out HB.out) | (with_reducible refine Kd.C_alloc ?_ _) | (with_reducible refine Kd.C_drewN ?_ _) | (with_reducible refine Kd.C_drew ?_))); (case side6 => exact HC0_5.out); rintro e w9 ⟨v104, rfl, ho0, hb⟩; refine ⟨_, rfl, ?_⟩; have n0_ := Aside0.mk (Kd.R_lower ho0 (below_size (by exact eS HB.out))); have n1_ := Aside0.mk (blk_below (bS BK101.out) hb); have n2_ := Aside0.mk (below_step (by exact eS HB.out) hb); clear BK101; clear HB; have HO105 := n0_; have BK101 := n1_; have HB := n2_; clear n0_ n1_ n2_; (try clear hb); (try clear hb2); (try clear hk); (try clear hi); (try clear ho0)))
    go_ret2
    exact ⟨_, by first | rfl | (simp [errW_none, errW_some] <;> rfl) | (simp [*, errW_none, errW_some] <;> rfl), by exact Ho.RS <| HO105.out, by exact eS HB.out⟩
  · replace c3 := Bool.eq_false_iff.mpr c3
    subst c3
    have H1 : (some (([] : List Int), false)) = some (r1, r2) := by rw [if_neg (show ¬ (false = true) by decide)] at H; exact H
    clear H
    have H := H1
    clear H1
    simp only [Option.some.injEq, Prod.mk.injEq] at H
    obtain ⟨rfl, rfl⟩ := H
    go_enter Try.func48, Try.ntmps48
    go_wp2_with (first | ((with_reducible refine gate_dst (N := 1) rfl ?_); refine box_event ?hg (N := 1) ?hd (cs := #[.int .i64 a0_0, .int .i64 a0_1, .slice A0_2 l0_2.length c0_2, .slice A0_3 l0_3.length c0_3, .int .i64 a0_4, .slice A0_5 l0_5.length c0_5, .bool a0_6]) (t := 59) ?hr ?_; (case hd => rfl); (case hg => rfl); (case hr => first | (go_simp; done) | (go_simp; rfl)); intro gb101 hg w10 hbox hb; have n0_ := Aside0.mk (below_step (by exact eS HB.out) hb); have n1_ := Aside0.mk (hbox); have n2_ := Aside0.mk ((by rw [hg]; exact (below_size (by exact eS HB.out)) : w.heap.size ≤ gb101)); have n3_ := Aside0.mk ((by rw [hg]; exact (below_size (by exact eS HB.out)) : w.heap.size ≤ gb101)); clear HB; have HB := n0_; have BK101 := n1_; have GW101 := n2_; have GE101 := n3_; clear n0_ n1_ n2_ n3_; clear hb hbox hg; have hcz11_0 : w10.cell? ⟨gb101, 0, none⟩ = some (.int .i64 a0_0) := (blk_cell BK101.out 0).trans rfl; have hcz11_1 : w10.cell? ⟨gb101, 1, none⟩ = some (.int .i64 a0_1) := (blk_cell BK101.out 1).trans rfl; have hcz11_2 : w10.cell? ⟨gb101, 2, none⟩ = some (.slice A0_2 l0_2.length c0_2) := (blk_cell BK101.out 2).trans rfl; have hcz11_3 : w10.cell? ⟨gb101, 3, none⟩ = some (.slice A0_3 l0_3.length c0_3) := (blk_cell BK101.out 3).trans rfl; have hcz11_4 : w10.cell? ⟨gb101, 4, none⟩ = some (.int .i64 a0_4) := (blk_cell BK101.out 4).trans rfl; have hcz11_5 : w10.cell? ⟨gb101, 5, none⟩ = some (.slice A0_5 l0_5.length c0_5) := (blk_cell BK101.out 5).trans rfl; have hcz11_6 : w10.cell? ⟨gb101, 6, none⟩ = some (.bool a0_6) := (blk_cell BK101.out 6).trans rfl; have hfz11_0 := blk_frozen BK101.out 0; have hfz11_1 := blk_frozen BK101.out 1; have hfz11_2 := blk_frozen BK101.out 2; have hfz11_3 := blk_frozen BK101.out 3; have hfz11_4 := blk_frozen BK101.out 4; have hfz11_5 := blk_frozen BK101.out 5; have hfz11_6 := blk_frozen BK101.out 6) | ((with_reducible refine gate_callee (f := 41) rfl ?_); refine goesL_ (some 5) rfl rfl Try.func41 (by kernel_rfl) rfl #[.agg #[.int .i64 a0_0, .int .i64 a0_1, .slice A0_2 l0_2.length c0_2, .slice A0_3 l0_3.length c0_3, .int .i64 a0_4, .slice A0_5 l0_5.length c0_5, .bool a0_6]] rfl (by (try simp only [List.map_toArray, List.map_cons, List.map_nil]); first | done | rfl | (simp only [List.length_drop, List.length_take]; rfl)) ?_; (with_reducible refine (impl_IsWeaving.calls k a0_0 a0_1 _ _ l0_2 _ _ l0_3 a0_4 _ _ l0_5 a0_6 false _ ?side1 ?side2 ?side3 ?side4 ?side5 ?side6 A2.out).mono ?_); (case side1 => repeat (first | exact (Kd.C_below HR0_2.out HB.out) | (with_reducible refine Kd.C_alloc ?_ _) | (with_reducible refine Kd.C_drewN ?_ _) | (with_reducible refine Kd.C_drew ?_))); (case side2 => exact HC0_2.out); (case side3 => repeat (first | exact (Kd.C_below HR0_3.out HB.out) | (with_reducible refine Kd.C_alloc ?_ _) | (with_reducible refine Kd.C_drewN ?_ _) | (with_reducible refine Kd.C_drew ?_))); (case side4 => exact HC0_3.out); (case side5 => repeat (first | exact (Kd.C_below HR0_5.out HB.out) | (with_reducible refine Kd.C_alloc ?_ _) | (with_reducible refine Kd.C_drewN ?_ _) | (with_reducible refine Kd.C_drew ?_))); (case side6 => exact HC0_5.out); rintro e w12 ⟨rfl, hb⟩; refine ⟨_, rfl, ?_⟩; have n0_ := Aside0.mk (blk_below (bS BK101.out) hb); have n1_ := Aside0.mk (below_step (by exact eS HB.out) hb); clear BK101; clear HB; have BK101 := n0_; have HB := n1_; clear n0_ n1_; (try clear hb); (try clear hb2); (try clear hk); (try clear hi)))
    go_ret2
    exact ⟨_, by first | rfl | (simp [errW_none, errW_some] <;> rfl) | (simp [*, errW_none, errW_some] <;> rfl), by first | exact Kd.R_nil _ _ _ _ _ | exact Kd.N_nil _ _ _ _ _ | exact Kd.V_nil _ _ _ _ _ | exact Kd.Q_nil _ _ _ _ _ | exact Kd.S_nil _ _ _ _ _, by exact eS HB.out⟩

end Go.Proofs.Ytfibaganajembaa.X

-- XlawsheldIntSF33
namespace Go.Proofs.Ytfibaganajembaa.X
open Ho (bS eS)
open Go.RowKit Go.Proofs.YtfibaganajembaaW.PrintWords Go.Proofs.YtfibaganajembaaW.PrintLast Go.Proofs.YtfibaganajembaaW.PrintMore
attribute [local go_sem] max2_int min2_int max_two min_two max_three min_three max_four min_four   -- for this text's walks alone
set_option linter.unusedVariables false
set_option linter.unusedSimpArgs false

/-! ### laws_heldIntS: function 33 -/
def laws_heldIntS.l0 : Nat → List Int → Int → Int → Option (Int)
  | 0, _, _, _ => none
  | k + 1, x0, x1, x5 => if x5 < (x0.length : Int) then (if 0 ≤ x5 then (if (rd x0 x5) = x1 then (laws_heldIntS.l0 k x0 (wrap64 (x1 + 1)) (wrap64 (x5 + 1))) else (some (-1))) else (none)) else (some x1)
def laws_heldIntS.f (k : Nat) (l0 : List Int) (a1 : Int) : Option (Int) := laws_heldIntS.l0 k l0 a1 0
theorem laws_heldIntS.mono_l : ∀ k, (∀ y0 y1 y2, LeO (laws_heldIntS.l0 k y0 y1 y2) (laws_heldIntS.l0 (k + 1) y0 y1 y2))
  | 0 => fun _ _ _ r h => by simp [laws_heldIntS.l0] at h
  | k + 1 => by
    have ih0 := laws_heldIntS.mono_l k
    · intro y0 y1 y2
      unfold laws_heldIntS.l0
      repeat' first
      | (with_reducible exact ih0 _ _ _)
      | (with_reducible exact LeO.refl _)
      | (with_reducible exact LeO.none _)
      | (with_reducible refine LeO.ite ?_ ?_)
      | (with_reducible refine LeO.bind ?_ (fun _ => ?_))
      | exact ih0 _ _ _
      | exact LeO.none _
      | refine LeO.ite ?_ ?_
      | refine LeO.bind ?_ (fun _ => ?_)
theorem laws_heldIntS.mono : ∀ a0 a1 k, LeO (laws_heldIntS.f k a0 a1) (laws_heldIntS.f (k + 1) a0 a1) := by
  intro a0 a1 k
  have ih0 := laws_heldIntS.mono_l k
  unfold laws_heldIntS.f
  repeat' first
      | (with_reducible exact ih0 _ _ _)
      | (with_reducible exact LeO.refl _)
      | (with_reducible exact LeO.none _)
      | (with_reducible refine LeO.ite ?_ ?_)
      | (with_reducible refine LeO.bind ?_ (fun _ => ?_))
      | exact ih0 _ _ _
      | exact LeO.none _
      | refine LeO.ite ?_ ?_
      | refine LeO.bind ?_ (fun _ => ?_)
set_option maxHeartbeats 8000000 in
set_option maxRecDepth 100000 in
theorem laws_heldIntS.calls (k : Nat) (A0 : Option Addr) (c0 : Nat) (l0 : List Int) (a1 : Int) (r : Int) (w : World) (hr0 : Kd.C (Kd.int .i64) w A0 l0.length l0) (hc0 : l0.length ≤ c0) (h : laws_heldIntS.f k l0 a1 = some r) :
    Calls Try.prog 33 #[.slice A0 l0.length c0, .int .i64 a1] w fun e w' => e = .returned (.int .i64 r) ∧ Drawn0 w w' := by
  have HR0 := Aside0.mk hr0
  have HC0 := Aside0.mk hc0
  clear hr0 hc0
  have H : (laws_heldIntS.l0 k l0 a1 0) = some r := h
  clear h
  have H' := Aside0.mk H
  clear H
  go_enter Try.func33, Try.ntmps33
  go_wp2
  go_loopg [1, 5] k (fun kq v1 v5 w' => ∃ (x1_1 : Int) (x5_1 : Int), v1 = .int .i64 x1_1 ∧ v5 = .int .i64 x5_1 ∧ Aside0 (laws_heldIntS.l0 kq l0 x1_1 x5_1 = some r) ∧ Aside0 (kq ≤ k) ∧ Drawn0 w w')
  case atStart => exact ⟨(a1), (0), (by first | rfl | (simp; done) | (simp [*]; done)), (by first | rfl | (simp; done) | (simp [*]; done)), H', ⟨Nat.le_refl _⟩, by repeat (first | exact Drawn0.refl _ | apply Drawn0.step)⟩
  case round =>
    clear H'
    try clear p2
    obtain ⟨x1_1, x5_1, rfl, rfl, HA, HK1, ⟨m1, rfl⟩⟩ := hrel
    cases gk with
    | zero => exact absurd HA.out (by simp [laws_heldIntS.l0])
    | succ k1 =>
      have H := HA.out
      clear HA
      simp only [laws_heldIntS.l0] at H
      by_cases c3 : x5_1 < (l0.length : Int)
      · rw [if_pos c3] at H
        have c3b0 : decide (x5_1 < (l0.length : Int)) = true := decide_eq_true c3
        clear c3
        by_cases c4 : 0 ≤ x5_1
        · rw [if_pos c4] at H
          have c4b0 : decide (0 ≤ x5_1) = true := decide_eq_true c4
          clear c4
          by_cases c5 : (rd l0 x5_1) = x1_1
          · rw [if_pos c5] at H
            have c5b0 : ((rd l0 x5_1) == x1_1) = true := beq_iff_eq.mpr c5
            have c5b1 : ((rd l0 x5_1) != x1_1) = false := bne_eq_false_iff_eq.mpr c5
            clear c5
            have H' := Aside0.mk H
            clear H
            have p101 : 0 ≤ (x5_1 : Int) := of_decide_eq_true (by first | (with_reducible assumption) | assumption)
            have q101 : x5_1 < (l0.length : Int) := of_decide_eq_true (by first | (with_reducible assumption) | assumption)
            obtain ⟨ad101, e101, hx101_0⟩ := Kd.at_int HR0.out x5_1 p101 q101
            cases e101
            replace p101 := eq_true p101
            replace q101 := eq_true q101
            go_wp2
            go_roundg k1
            case measure => have := HK1.out; omega
            case rel => exact ⟨(wrap64 (x1_1 + 1)), (wrap64 (x5_1 + 1)), (by first | rfl | (simp; done) | (simp [*]; done)), (by first | rfl | (simp; done) | (simp [*]; done)), H', ⟨by have := HK1.out; omega⟩, by repeat (first | exact Drawn0.refl _ | apply Drawn0.step)⟩
          · rw [if_neg c5] at H
            have c5b0 : ((rd l0 x5_1) == x1_1) = false := beq_eq_false_iff_ne.mpr c5
            have c5b1 : ((rd l0 x5_1) != x1_1) = true := bne_iff_ne.mpr c5
            obtain rfl := Option.some.inj H
            have p101 : 0 ≤ (x5_1 : Int) := of_decide_eq_true (by first | (with_reducible assumption) | assumption)
            have q101 : x5_1 < (l0.length : Int) := of_decide_eq_true (by first | (with_reducible assumption) | assumption)
            obtain ⟨ad101, e101, hx101_0⟩ := Kd.at_int HR0.out x5_1 p101 q101
            cases e101
            replace p101 := eq_true p101
            replace q101 := eq_true q101
            go_wp2
            go_ret
            exact ⟨by first | rfl | (simp; done) | (simp [*]; done), by repeat (first | exact Drawn0.refl _ | apply Drawn0.step)⟩
        · rw [if_neg c4] at H
          exact absurd H (by simp)
      · rw [if_neg c3] at H
        have c3b0 : decide (x5_1 < (l0.length : Int)) = false := decide_eq_false c3
        clear c3
        obtain rfl := Option.some.inj H
        go_wp2
        go_ret
        exact ⟨by first | rfl | (simp; done) | (simp [*]; done), by repeat (first | exact Drawn0.refl _ | apply Drawn0.step)⟩

end Go.Proofs.Ytfibaganajembaa.X

-- XlawsmarkIntSF32
namespace Go.Proofs.Ytfibaganajembaa.X
open Ho (bS eS)
open Go.RowKit Go.Proofs.YtfibaganajembaaW.PrintWords Go.Proofs.YtfibaganajembaaW.PrintLast Go.Proofs.YtfibaganajembaaW.PrintMore
attribute [local go_sem] max2_int min2_int max_two min_two max_three min_three max_four min_four   -- for this text's walks alone
set_option linter.unusedVariables false
set_option linter.unusedSimpArgs false

/-! ### laws_markIntS: function 32 -/
def laws_markIntS.l0 : Nat → List Int → Int → Int → Option (Int × List Int)
  | 0, _, _, _ => none
  | k + 1, x0, x1, x5 => if x5 < (x0.length : Int) then (if 0 ≤ x5 then (laws_markIntS.l0 k (x0.set (x5 : Int).toNat x1) (wrap64 (x1 + 1)) (wrap64 (x5 + 1))) else (none)) else (some (x1, x0))
def laws_markIntS.f (k : Nat) (l0 : List Int) (a1 : Int) : Option (Int × List Int) := laws_markIntS.l0 k l0 a1 0
theorem laws_markIntS.mono_l : ∀ k, (∀ y0 y1 y2, LeO (laws_markIntS.l0 k y0 y1 y2) (laws_markIntS.l0 (k + 1) y0 y1 y2))
  | 0 => fun _ _ _ r h => by simp [laws_markIntS.l0] at h
  | k + 1 => by
    have ih0 := laws_markIntS.mono_l k
    · intro y0 y1 y2
      unfold laws_markIntS.l0
      repeat' first
      | (with_reducible exact ih0 _ _ _)
      | (with_reducible exact LeO.refl _)
      | (with_reducible exact LeO.none _)
      | (with_reducible refine LeO.ite ?_ ?_)
      | (with_reducible refine LeO.bind ?_ (fun _ => ?_))
      | exact ih0 _ _ _
      | exact LeO.none _
      | refine LeO.ite ?_ ?_
      | refine LeO.bind ?_ (fun _ => ?_)
theorem laws_markIntS.mono : ∀ a0 a1 k, LeO (laws_markIntS.f k a0 a1) (laws_markIntS.f (k + 1) a0 a1) := by
  intro a0 a1 k
  have ih0 := laws_markIntS.mono_l k
  unfold laws_markIntS.f
  repeat' first
      | (with_reducible exact ih0 _ _ _)
      | (with_reducible exact LeO.refl _)
      | (with_reducible exact LeO.none _)
      | (with_reducible refine LeO.ite ?_ ?_)
      | (with_reducible refine LeO.bind ?_ (fun _ => ?_))
      | exact ih0 _ _ _
      | exact LeO.none _
      | refine LeO.ite ?_ ?_
      | refine LeO.bind ?_ (fun _ => ?_)
set_option maxHeartbeats 8000000 in
set_option maxRecDepth 100000 in
theorem laws_markIntS.calls (k : Nat) (P0_ : Nat → Prop) (u9000_ : Value) (l0 : List Int) (a1 : Int) (r1 : Int) (r2 : List Int) (w0 w : World) (hB : Below w0.heap.size w0 w) (ho0 : Kd.R (Kd.int .i64) 3 w w0.heap.size P0_ u9000_ l0) (h : laws_markIntS.f k l0 a1 = some (r1, r2)) :
    Calls Try.prog 32 #[u9000_, .int .i64 a1] w fun e w' => e = .returned (.int .i64 r1) ∧ Kd.R (Kd.int .i64) 3 w' w0.heap.size (fun k_ => (P0_ k_ ∨ w.heap.size ≤ k_)) u9000_ r2 ∧ Below w0.heap.size w0 w' ∧ Kept w w' (fun k_ => P0_ k_) := by
  have HO0 := Aside0.mk (show Kd.R (Kd.int .i64) 3 w w0.heap.size (fun k_ => (P0_ k_ ∨ w.heap.size ≤ k_)) u9000_ l0 from Kd.R_mono ho0 (fun k_ hk => (.inl hk)))
  have HK := Aside0.mk (Kept.refl w (fun k_ => P0_ k_))
  have HW0 := Aside0.mk hB.size
  have HB := Aside0.mk hB
  clear hB
  have H : (laws_markIntS.l0 k l0 a1 0) = some (r1, r2) := h
  clear h
  have H' := Aside0.mk H
  clear H
  go_enter Try.func32, Try.ntmps32
  go_wp2
  go_loopg [1, 5] k (fun kq v1 v5 w' => ∃ (x0_1 : List Int) (x1_1 : Int) (x5_1 : Int), v1 = .int .i64 x1_1 ∧ v5 = .int .i64 x5_1 ∧ Aside0 (laws_markIntS.l0 kq x0_1 x1_1 x5_1 = some (r1, r2)) ∧ Aside0 (kq ≤ k) ∧ Aside0 (Kd.R (Kd.int .i64) 3 w' w0.heap.size (fun k_ => (P0_ k_ ∨ w.heap.size ≤ k_)) u9000_ x0_1) ∧ Aside0 (Kept w w' (fun k_ => P0_ k_)) ∧ Aside0 (Below w0.heap.size w0 w'))
  case atStart => exact ⟨(l0), (a1), (0), (by first | rfl | (simp; done) | (simp [*]; done)), (by first | rfl | (simp; done) | (simp [*]; done)), H', ⟨Nat.le_refl _⟩, ⟨by exact Ho.RS <| HO0.out⟩, ⟨by exact Ho.KS HK.out⟩, ⟨by exact eS HB.out⟩⟩
  case round =>
    clear H'
    try clear p2
    obtain ⟨x0_1, x1_1, x5_1, rfl, rfl, HA, HK1, HO_0, HK, HB⟩ := hrel
    cases gk with
    | zero => exact absurd HA.out (by simp [laws_markIntS.l0])
    | succ k1 =>
      have H := HA.out
      clear HA
      simp only [laws_markIntS.l0] at H
      by_cases c3 : x5_1 < (x0_1.length : Int)
      · rw [if_pos c3] at H
        have c3b0 : decide (x5_1 < (x0_1.length : Int)) = true := decide_eq_true c3
        clear c3
        by_cases c4 : 0 ≤ x5_1
        · rw [if_pos c4] at H
          have c4b0 : decide (0 ≤ x5_1) = true := decide_eq_true c4
          clear c4
          obtain ⟨y101, hy101⟩ : ∃ y_ : List Int, y_ = (x0_1.set (x5_1 : Int).toNat x1_1) := ⟨_, rfl⟩
          replace H : (laws_markIntS.l0 k1 y101 (wrap64 (x1_1 + 1)) (wrap64 (x5_1 + 1))) = some (r1, r2) := by first | (rw [hy101]; with_reducible exact H) | (have H2_ := (Option.bind_some _ _).symm.trans H; rw [hy101]; with_reducible exact H2_) | (have H2_ := (Option.bind_some _ _).symm.trans H; with_reducible exact H2_) | with_reducible exact H | (rw [hy101]; exact H) | exact H
          have Ny101 := Aside0.mk hy101
          clear hy101
          have H' := Aside0.mk H
          clear H
          obtain ⟨Ao6, co6, eo6⟩ := Kd.R_slice HO_0.out
          subst eo6
          have p5 : 0 ≤ (x5_1 : Int) := of_decide_eq_true (by first | (with_reducible assumption) | assumption)
          have q5 : (x5_1 : Int) < ((x0_1.length : Int) : Int) := of_decide_eq_true (by first | (with_reducible assumption) | assumption)
          obtain ⟨go5, co5, eo5, gb5, gl5, cl5, HG5⟩ := Kd.R_form HO_0.out (by omega)
          (first | cases eo5 | (injection eo5 with ea_ en_ ec_; (first | subst ea_ | (injection ea_ with ea_; subst ea_)); subst ec_; clear en_))
          have GB5 := Aside0.mk gb5
          have GG5 := Aside0.mk HG5
          clear gb5 gl5 HG5
          have HMgo5 := Aside0.mk (show (P0_ go5 ∨ w.heap.size ≤ go5) from (HO_0.out.1 _ rfl))
          obtain ⟨hx5_0, hf5_0⟩ := Kd.R_celln 0 HO_0.out (x5_1 : Int) p5 q5
          replace p5 := eq_true p5
          replace q5 := eq_true q5
          have HP7 := Kd.R_putg HO_0.out (x5_1 : Int) x1_1
          go_wp2_with (first | ((with_reducible refine gate_store (t := 3) (p := 15) rfl ?_); refine store_event (t := 3) (p := 15) (v := ?vo_w8) (w1 := (wr.setCell ⟨go5, (x5_1 : Int).toNat, none⟩ (.int .i64 x1_1))) ?hg ?ho ?hn ?hr ?_; (case ho => rfl); (case hg => rfl); (case hn => rfl); (case hr => first | (go_simp; done) | (go_simp; rfl)); intro w8 hw; have hg : wr.grownBy w8 (some go5) := (by rw [hw]; exact HP7.2); have hp_ : Kd.R (Kd.int .i64) 3 w8 w0.heap.size (fun k_ => (P0_ k_ ∨ w.heap.size ≤ k_)) (.slice (some ⟨go5, 0, none⟩) x0_1.length co6) y101 := (by rw [hw, Ny101.out]; exact HP7.1); clear HP7; have n0_ := Aside0.mk (hp_); have n1_ := Aside0.mk ((by rw [hw]; exact below_set (HB.out) GB5.out : Below w0.heap.size w0 w8)); have n2_ := Aside0.mk (Kept.of_grown (S := (fun k_ => P0_ k_)) hg (by exact Ho.KS HK.out) (fun k_ e_ => (HO_0.out.1 k_ e_))); clear HO_0; clear HB; clear HK; have HO_0 := n0_; have HB := n1_; have HK := n2_; clear n0_ n1_ n2_; clear hg hw hp_))
          go_roundg k1
          case measure => have := HK1.out; omega
          case rel => exact ⟨(y101), (wrap64 (x1_1 + 1)), (wrap64 (x5_1 + 1)), (by first | rfl | (simp; done) | (simp [*]; done)), (by first | rfl | (simp; done) | (simp [*]; done)), H', ⟨by have := HK1.out; omega⟩, ⟨by exact Ho.RS <| HO_0.out⟩, ⟨by exact Ho.KS HK.out⟩, ⟨by exact eS HB.out⟩⟩
        · rw [if_neg c4] at H
          exact absurd H (by simp)
      · rw [if_neg c3] at H
        have c3b0 : decide (x5_1 < (x0_1.length : Int)) = false := decide_eq_false c3
        clear c3
        simp only [Option.some.injEq, Prod.mk.injEq] at H
        obtain ⟨rfl, rfl⟩ := H
        obtain ⟨Ao9, co9, eo9⟩ := Kd.R_slice HO_0.out
        subst eo9
        go_wp2
        go_ret
        exact ⟨by first | rfl | (simp [errW_none, errW_some] <;> rfl) | (simp [*, errW_none, errW_some] <;> rfl), by exact Ho.RS <| HO_0.out, by exact eS HB.out, by exact Ho.KS HK.out⟩

end Go.Proofs.Ytfibaganajembaa.X

-- XlawsmarkChartF30
namespace Go.Proofs.Ytfibaganajembaa.X
open Ho (bS eS)
open Go.RowKit Go.Proofs.YtfibaganajembaaW.PrintWords Go.Proofs.YtfibaganajembaaW.PrintLast Go.Proofs.YtfibaganajembaaW.PrintMore
attribute [local go_sem] max2_int min2_int max_two min_two max_three min_three max_four min_four   -- for this text's walks alone
set_option linter.unusedVariables false
set_option linter.unusedSimpArgs false

attribute [local go_sem ↓] Ho.isSome_setCell_   -- a store leaves all places there
/-! ### laws_markChart: function 30 -/
def laws_markChart.f (k : Nat) (a0_0 : Int) (a0_1 : Int) (l0_2 : List Int) (a1 : Int) : Option (Int × List Int) := (laws_markIntS.f k l0_2 a1).bind fun bt102 => (some (bt102.1, bt102.2))
theorem laws_markChart.mono : ∀ a0 a1 a2 a3 k, LeO (laws_markChart.f k a0 a1 a2 a3) (laws_markChart.f (k + 1) a0 a1 a2 a3) := by
  intro a0 a1 a2 a3 k
  unfold laws_markChart.f
  repeat' first
      | (with_reducible exact laws_markIntS.mono _ _ _)
      | (with_reducible exact LeO.refl _)
      | (with_reducible exact LeO.none _)
      | (with_reducible refine LeO.ite ?_ ?_)
      | (with_reducible refine LeO.bind ?_ (fun _ => ?_))
      | exact laws_markIntS.mono _ _ _
      | exact LeO.none _
      | refine LeO.ite ?_ ?_
      | refine LeO.bind ?_ (fun _ => ?_)
set_option maxHeartbeats 8000000 in
set_option maxRecDepth 100000 in
theorem laws_markChart.calls (k : Nat) (a0_0 : Int) (a0_1 : Int) (P0_2_ : Nat → Prop) (u9000_ : Value) (l0_2 : List Int) (a1 : Int) (r1 : Int) (r2 : List Int) (w0 w : World) (hB : Below w0.heap.size w0 w) (ho0_2 : Kd.R (Kd.int .i64) 3 w w0.heap.size P0_2_ u9000_ l0_2) (h : laws_markChart.f k a0_0 a0_1 l0_2 a1 = some (r1, r2)) :
    Calls Try.prog 30 #[.agg #[.int .i64 a0_0, .int .i64 a0_1, u9000_], .int .i64 a1] w fun e w' => e = .returned (.int .i64 r1) ∧ Kd.R (Kd.int .i64) 3 w' w0.heap.size (fun k_ => (P0_2_ k_ ∨ w.heap.size ≤ k_)) u9000_ r2 ∧ Below w0.heap.size w0 w' ∧ Kept w w' (fun k_ => P0_2_ k_) := by
  have hu30 := Try.underlying30
  have HO0_2 := Aside0.mk (show Kd.R (Kd.int .i64) 3 w w0.heap.size (fun k_ => (P0_2_ k_ ∨ w.heap.size ≤ k_)) u9000_ l0_2 from Kd.R_mono ho0_2 (fun k_ hk => (.inl hk)))
  have HK := Aside0.mk (Kept.refl w (fun k_ => P0_2_ k_))
  have HW0 := Aside0.mk hB.size
  have HB := Aside0.mk hB
  clear hB
  have H : ((laws_markIntS.f k l0_2 a1).bind fun bt102 => (some (bt102.1, bt102.2))) = some (r1, r2) := h
  clear h
  replace H := Option.bind_eq_some_iff.mp H
  obtain ⟨⟨t102, t103⟩, A30, H⟩ := H
  replace H : (some (t102, t103)) = some (r1, r2) := H
  have A3 := Aside0.mk A30
  clear A30
  simp only [Option.some.injEq, Prod.mk.injEq] at H
  obtain ⟨rfl, rfl⟩ := H
  obtain ⟨Ao4, co4, eo4⟩ := Kd.R_slice HO0_2.out
  subst eo4
  go_enter Try.func30, Try.ntmps30
  go_wp2_with (first | ((with_reducible refine gate_dst (N := 2) rfl ?_); refine box_event ?hg (N := 2) ?hd (cs := #[.int .i64 a0_0, .int .i64 a0_1, .slice Ao4 l0_2.length co4]) (t := 30) ?hr ?_; (case hd => rfl); (case hg => rfl); (case hr => first | (go_simp; done) | (go_simp; rfl)); intro gb101 hg w5 hbox hb; have n0_ := Aside0.mk (Kd.R_below (by exact Ho.RS <| HO0_2.out) hb); have n1_ := Aside0.mk (Kept.below (S := (fun k_ => P0_2_ k_)) (by exact Ho.KS HK.out) hb); have n2_ := Aside0.mk (below_step (by exact eS HB.out) hb); have n3_ := Aside0.mk (hbox); have n4_ := Aside0.mk ((by rw [hg]; exact (by first | exact HK.out.1 | exact (show Kept w _ (fun k_ => P0_2_ k_) from by exact Ho.KS HK.out).1) : w.heap.size ≤ gb101)); have n5_ := Aside0.mk ((by rw [hg]; exact (below_size (by exact eS HB.out)) : w0.heap.size ≤ gb101)); clear HO0_2; clear HK; clear HB; have HO0_2 := n0_; have HK := n1_; have HB := n2_; have BK101 := n3_; have GW101 := n4_; have GE101 := n5_; clear n0_ n1_ n2_ n3_ n4_ n5_; clear hb hbox hg; have hcz6_0 : w5.cell? ⟨gb101, 0, none⟩ = some (.int .i64 a0_0) := (blk_cell BK101.out 0).trans rfl; have hcz6_1 : w5.cell? ⟨gb101, 1, none⟩ = some (.int .i64 a0_1) := (blk_cell BK101.out 1).trans rfl; have hcz6_2 : w5.cell? ⟨gb101, 2, none⟩ = some (.slice Ao4 l0_2.length co4) := (blk_cell BK101.out 2).trans rfl; have hfz6_0 := blk_frozen BK101.out 0; have hfz6_1 := blk_frozen BK101.out 1; have hfz6_2 := blk_frozen BK101.out 2) | ((with_reducible refine gate_callee (f := 32) rfl ?_); refine goesL_ (some 8) rfl rfl Try.func32 (by kernel_rfl) rfl #[.slice Ao4 l0_2.length co4, .int .i64 a1] rfl (by (try simp only [List.map_toArray, List.map_cons, List.map_nil]); first | done | rfl | (simp only [List.length_drop, List.length_take]; rfl)) ?_; (with_reducible refine (laws_markIntS.calls k (fun k_ => some k_ = (.slice Ao4 l0_2.length co4 : Value).ownBlock) (.slice Ao4 l0_2.length co4) l0_2 a1 t102 t103 w0 _ ?side1 ?side2 A3.out).mono ?_); (case side1 => exact eS HB.out); (case side2 => exact Kd.R_tight rfl HO0_2.out); rintro e w7 ⟨rfl, hy0, hb, hkp⟩; refine ⟨_, rfl, ?_⟩; have n0_ := Aside0.mk (Kd.R_reok rfl hy0 (fun k_ e_ => HO0_2.out.1 k_ e_)); have n1_ := Aside0.mk (blk_kept (by exact bS BK101.out) hkp (fun hs_ => (fun e_ => (Kd.R_ne HO0_2.out BK101.out (by decide)) e_) hs_)); have n2_ := Aside0.mk (Kept.then_ (S := (fun k_ => P0_2_ k_)) (by exact Ho.KS HK.out) hkp (fun k_ hs_ => (fun e_ => (HO0_2.out.1 k_ e_.symm)) hs_)); have n3_ := Aside0.mk (hb); clear HO0_2; clear BK101; clear HK; clear HB; have HO0_2 := n0_; have BK101 := n1_; have HK := n2_; have HB := n3_; clear n0_ n1_ n2_ n3_; (try clear hb); (try clear hkp); (try clear hy0)))
  go_ret
  exact ⟨by first | rfl | (simp [errW_none, errW_some] <;> rfl) | (simp [*, errW_none, errW_some] <;> rfl), by exact Ho.RS <| HO0_2.out, by exact eS HB.out, by exact Ho.KS HK.out⟩

end Go.Proofs.Ytfibaganajembaa.X

-- XlawsmarkDeviationSF85
namespace Go.Proofs.Ytfibaganajembaa.X
open Ho (bS eS)
open Go.RowKit Go.Proofs.YtfibaganajembaaW.PrintWords Go.Proofs.YtfibaganajembaaW.PrintLast Go.Proofs.YtfibaganajembaaW.PrintMore
attribute [local go_sem] max2_int min2_int max_two min_two max_three min_three max_four min_four   -- for this text's walks alone
set_option linter.unusedVariables false
set_option linter.unusedSimpArgs false

/-! ### laws_markDeviationS: function 85 -/
def laws_markDeviationS.l0 : Nat → List (S89) → Int → Int → Option (Int × (List (S89)))
  | 0, _, _, _ => none
  | k + 1, x0, x1, x5 => if x5 < (x0.length : Int) then (if 0 ≤ x5 then ((some (x0.set (x5 : Int).toNat (⟨x1, (rd_T89 x0 x5).f1⟩ : S89) : List (S89))).bind fun y101 => (laws_markDeviationS.l0 k (y101.set (x5 : Int).toNat (⟨(rd_T89 y101 x5).f0, wrap64 (x1 + 1)⟩ : S89)) (wrap64 ((wrap64 (x1 + 1)) + 1)) (wrap64 (x5 + 1)))) else (none)) else (some (x1, x0))
def laws_markDeviationS.f (k : Nat) (l0 : List (S89)) (a1 : Int) : Option (Int × (List (S89))) := laws_markDeviationS.l0 k l0 a1 0
theorem laws_markDeviationS.mono_l : ∀ k, (∀ y0 y1 y2, LeO (laws_markDeviationS.l0 k y0 y1 y2) (laws_markDeviationS.l0 (k + 1) y0 y1 y2))
  | 0 => fun _ _ _ r h => by simp [laws_markDeviationS.l0] at h
  | k + 1 => by
    have ih0 := laws_markDeviationS.mono_l k
    · intro y0 y1 y2
      unfold laws_markDeviationS.l0
      repeat' first
      | (with_reducible exact ih0 _ _ _)
      | (with_reducible exact LeO.refl _)
      | (with_reducible exact LeO.none _)
      | (with_reducible refine LeO.ite ?_ ?_)
      | (with_reducible refine LeO.bind ?_ (fun _ => ?_))
      | exact ih0 _ _ _
      | exact LeO.none _
      | refine LeO.ite ?_ ?_
      | refine LeO.bind ?_ (fun _ => ?_)
theorem laws_markDeviationS.mono : ∀ a0 a1 k, LeO (laws_markDeviationS.f k a0 a1) (laws_markDeviationS.f (k + 1) a0 a1) := by
  intro a0 a1 k
  have ih0 := laws_markDeviationS.mono_l k
  unfold laws_markDeviationS.f
  repeat' first
      | (with_reducible exact ih0 _ _ _)
      | (with_reducible exact LeO.refl _)
      | (with_reducible exact LeO.none _)
      | (with_reducible refine LeO.ite ?_ ?_)
      | (with_reducible refine LeO.bind ?_ (fun _ => ?_))
      | exact ih0 _ _ _
      | exact LeO.none _
      | refine LeO.ite ?_ ?_
      | refine LeO.bind ?_ (fun _ => ?_)
set_option maxHeartbeats 8000000 in
set_option maxRecDepth 100000 in
theorem laws_markDeviationS.calls (k : Nat) (P0_ : Nat → Prop) (u9000_ : Value) (l0 : List (S89)) (a1 : Int) (r1 : Int) (r2 : List (S89)) (w0 w : World) (hB : Below w0.heap.size w0 w) (ho0 : Kd.R k89 89 w w0.heap.size P0_ u9000_ l0) (h : laws_markDeviationS.f k l0 a1 = some (r1, r2)) :
    Calls Try.prog 85 #[u9000_, .int .i64 a1] w fun e w' => e = .returned (.int .i64 r1) ∧ Kd.R k89 89 w' w0.heap.size (fun k_ => (P0_ k_ ∨ w.heap.size ≤ k_)) u9000_ r2 ∧ Below w0.heap.size w0 w' ∧ Kept w w' (fun k_ => P0_ k_) := by
  have HO0 := Aside0.mk (show Kd.R k89 89 w w0.heap.size (fun k_ => (P0_ k_ ∨ w.heap.size ≤ k_)) u9000_ l0 from Kd.R_mono ho0 (fun k_ hk => (.inl hk)))
  have HK := Aside0.mk (Kept.refl w (fun k_ => P0_ k_))
  have HW0 := Aside0.mk hB.size
  have HB := Aside0.mk hB
  clear hB
  have H : (laws_markDeviationS.l0 k l0 a1 0) = some (r1, r2) := h
  clear h
  have H' := Aside0.mk H
  clear H
  go_enter Try.func85, Try.ntmps85
  go_wp2
  go_loopg [1, 5] k (fun kq v1 v5 w' => ∃ (x0_1 : List (S89)) (x1_1 : Int) (x5_1 : Int), v1 = .int .i64 x1_1 ∧ v5 = .int .i64 x5_1 ∧ Aside0 (laws_markDeviationS.l0 kq x0_1 x1_1 x5_1 = some (r1, r2)) ∧ Aside0 (kq ≤ k) ∧ Aside0 (Kd.R k89 89 w' w0.heap.size (fun k_ => (P0_ k_ ∨ w.heap.size ≤ k_)) u9000_ x0_1) ∧ Aside0 (Kept w w' (fun k_ => P0_ k_)) ∧ Aside0 (Below w0.heap.size w0 w'))
  case atStart => exact ⟨(l0), (a1), (0), (by first | rfl | (simp; done) | (simp [*]; done)), (by first | rfl | (simp; done) | (simp [*]; done)), H', ⟨Nat.le_refl _⟩, ⟨by exact Ho.RS <| HO0.out⟩, ⟨by exact Ho.KS HK.out⟩, ⟨by exact eS HB.out⟩⟩
  case round =>
    clear H'
    try clear p2
    obtain ⟨x0_1, x1_1, x5_1, rfl, rfl, HA, HK1, HO_0, HK, HB⟩ := hrel
    cases gk with
    | zero => exact absurd HA.out (by simp [laws_markDeviationS.l0])
    | succ k1 =>
      have H := HA.out
      clear HA
      simp only [laws_markDeviationS.l0] at H
      by_cases c3 : x5_1 < (x0_1.length : Int)
      · rw [if_pos c3] at H
        have c3b0 : decide (x5_1 < (x0_1.length : Int)) = true := decide_eq_true c3
        clear c3
        by_cases c4 : 0 ≤ x5_1
        · rw [if_pos c4] at H
          have c4b0 : decide (0 ≤ x5_1) = true := decide_eq_true c4
          clear c4
          obtain ⟨y101, hy101⟩ : ∃ y_ : List (S89), y_ = (x0_1.set (x5_1 : Int).toNat (⟨x1_1, (rd_T89 x0_1 x5_1).f1⟩ : S89)) := ⟨_, rfl⟩
          replace H : (laws_markDeviationS.l0 k1 (y101.set (x5_1 : Int).toNat (⟨(rd_T89 y101 x5_1).f0, wrap64 (x1_1 + 1)⟩ : S89)) (wrap64 ((wrap64 (x1_1 + 1)) + 1)) (wrap64 (x5_1 + 1))) = some (r1, r2) := by first | (rw [hy101]; with_reducible exact H) | (have H2_ := (Option.bind_some _ _).symm.trans H; rw [hy101]; with_reducible exact H2_) | (have H2_ := (Option.bind_some _ _).symm.trans H; with_reducible exact H2_) | with_reducible exact H | (rw [hy101]; exact H) | exact H
          have Ny101 := Aside0.mk hy101
          clear hy101
          obtain ⟨y102, hy102⟩ : ∃ y_ : List (S89), y_ = (y101.set (x5_1 : Int).toNat (⟨(rd_T89 y101 x5_1).f0, wrap64 (x1_1 + 1)⟩ : S89)) := ⟨_, rfl⟩
          replace H : (laws_markDeviationS.l0 k1 y102 (wrap64 ((wrap64 (x1_1 + 1)) + 1)) (wrap64 (x5_1 + 1))) = some (r1, r2) := by first | (rw [hy102]; with_reducible exact H) | (have H2_ := (Option.bind_some _ _).symm.trans H; rw [hy102]; with_reducible exact H2_) | (have H2_ := (Option.bind_some _ _).symm.trans H; with_reducible exact H2_) | with_reducible exact H | (rw [hy102]; exact H) | exact H
          have Ny102 := Aside0.mk hy102
          clear hy102
          have H' := Aside0.mk H
          clear H
          obtain ⟨Ao7, co7, eo7⟩ := Kd.R_slice HO_0.out
          subst eo7
          have p5 : 0 ≤ (x5_1 : Int) := of_decide_eq_true (by first | (with_reducible assumption) | assumption)
          have q5 : (x5_1 : Int) < ((x0_1.length : Int) : Int) := of_decide_eq_true (by first | (with_reducible assumption) | assumption)
          obtain ⟨go5, co5, eo5, gb5, gl5, cl5, HG5⟩ := Kd.R_form HO_0.out (by omega)
          (first | cases eo5 | (injection eo5 with ea_ en_ ec_; (first | subst ea_ | (injection ea_ with ea_; subst ea_)); subst ec_; clear en_))
          have GB5 := Aside0.mk gb5
          have GG5 := Aside0.mk HG5
          clear gb5 gl5 HG5
          have HMgo5 := Aside0.mk (show (P0_ go5 ∨ w.heap.size ≤ go5) from (HO_0.out.1 _ rfl))
          obtain ⟨ce5, hcl5, hM5, hcc5, hfr5⟩ := Kd.R_elem HO_0.out z89 (x5_1 : Int) p5 q5
          obtain rfl := k89_openM hM5
          have hx5_0 : wr.cell? ⟨go5, (x5_1 : Int).toNat * 2, none⟩ = some (.int .i64 ((rd_T89 x0_1 x5_1).f0)) := hcc5 0 _ rfl
          have hx5_1 : wr.cell? ⟨go5, (x5_1 : Int).toNat * 2 + 1, none⟩ = some (.int .i64 ((rd_T89 x0_1 x5_1).f1)) := hcc5 1 _ rfl
          have hf5_0 : wr.frozen? ⟨go5, (x5_1 : Int).toNat * 2, none⟩ = false := hfr5 0
          have hf5_1 : wr.frozen? ⟨go5, (x5_1 : Int).toNat * 2 + 1, none⟩ = false := hfr5 1
          clear hcl5 hcc5 hfr5 hM5
          replace p5 := eq_true p5
          replace q5 := eq_true q5
          have HX8 := Aside0.mk (show Kd.R k89 89 wr w0.heap.size (fun k_ => (P0_ k_ ∨ w.heap.size ≤ k_)) (.slice (some ⟨go5, 0, none⟩) x0_1.length co7) x0_1 from (by exact Ho.RS <| HO_0.out))
          obtain ⟨ce8, hcl8, hM8, hcc8, hfr8⟩ := Kd.R_elem HX8.out z89 (x5_1 : Int) (of_decide_eq_true (by first | (with_reducible assumption) | assumption)) (by have h_ : (x5_1 : Int) < ((x0_1.length : Int) : Int) := of_decide_eq_true (by first | (with_reducible assumption) | assumption); first | exact h_ | (have e_ := (Kd.R_reads' HO_0.out).1; omega) | simpa using h_)
          obtain rfl := k89_openM hM8
          have HP8 := Kd.R_seg HX8.out (x5_1 : Int) (of_decide_eq_true (by first | (with_reducible assumption) | assumption)) (by have h_ : (x5_1 : Int) < ((x0_1.length : Int) : Int) := of_decide_eq_true (by first | (with_reducible assumption) | assumption); first | exact h_ | (have e_ := (Kd.R_reads' HO_0.out).1; omega) | simpa using h_) (seg := [.int .i64 x1_1]) (j := 0) hcl8 hcc8 (show 1 ≤ 2 from by decide) (x' := (⟨x1_1, (rd_T89 x0_1 x5_1).f1⟩ : S89)) (k89_mkM _ _ _ (⟨x1_1, (rd_T89 x0_1 x5_1).f1⟩ : S89) ) (fun _ hk => hk)
          have hx8_0 := hcc8 0 _ rfl
          (try simp only [show (k89).sz = 2 from rfl, Nat.mul_one, Nat.add_zero] at hx8_0)
          have hf8_0 := hfr8 0
          (try simp only [show (k89).sz = 2 from rfl, Nat.mul_one, Nat.add_zero] at hf8_0)
          clear hcl8 hcc8 hfr8 hM8
          go_wp2_with (first | ((with_reducible refine gate_store (t := 3) (p := 16) rfl ?_); refine store_event (t := 3) (p := 16) (v := ?vo_w9) (w1 := (wr.setCell ⟨go5, (x5_1 : Int).toNat * 2, none⟩ (.int .i64 x1_1))) ?hg ?ho ?hn ?hr ?_; (case ho => rfl); (case hg => rfl); (case hn => rfl); (case hr => first | (go_simp; done) | (go_simp; rfl)); intro w9 hw; have hg : wr.grownBy w9 (some go5) := (by rw [hw]; exact HP8.2); have hp_ : Kd.R k89 89 w9 w0.heap.size (fun k_ => (P0_ k_ ∨ w.heap.size ≤ k_)) (.slice (some ⟨go5, 0, none⟩) x0_1.length co7) y101 := (by rw [hw, Ny101.out]; exact HP8.1); clear HP8; have n0_ := Aside0.mk (hp_); have n1_ := Aside0.mk ((by rw [hw]; exact below_set (HB.out) GB5.out : Below w0.heap.size w0 w9)); have n2_ := Aside0.mk (Kept.of_grown (S := (fun k_ => P0_ k_)) hg (by exact Ho.KS HK.out) (fun k_ e_ => (HO_0.out.1 k_ e_))); clear HO_0; clear HB; clear HK; have HO_0 := n0_; have HB := n1_; have HK := n2_; clear n0_ n1_ n2_; clear hg hw hp_; have p6 : 0 ≤ (x5_1 : Int) := of_decide_eq_true (by first | (with_reducible assumption) | assumption); have q6 : (x5_1 : Int) < ((x0_1.length : Int) : Int) := of_decide_eq_true (by first | (with_reducible assumption) | assumption); obtain ⟨ce6, hcl6, hM6, hcc6, hfr6⟩ := Kd.R_elem HO_0.out z89 (x5_1 : Int) p6 q6; obtain rfl := k89_openM hM6; have hx6_0 : w9.cell? ⟨go5, (x5_1 : Int).toNat * 2, none⟩ = some (.int .i64 ((rd_T89 y101 x5_1).f0)) := hcc6 0 _ rfl; have hx6_1 : w9.cell? ⟨go5, (x5_1 : Int).toNat * 2 + 1, none⟩ = some (.int .i64 ((rd_T89 y101 x5_1).f1)) := hcc6 1 _ rfl; have hf6_0 : w9.frozen? ⟨go5, (x5_1 : Int).toNat * 2, none⟩ = false := hfr6 0; have hf6_1 : w9.frozen? ⟨go5, (x5_1 : Int).toNat * 2 + 1, none⟩ = false := hfr6 1; clear hcl6 hcc6 hfr6 hM6; replace p6 := eq_true p6; replace q6 := eq_true q6; have HX10 := Aside0.mk (show Kd.R k89 89 w9 w0.heap.size (fun k_ => (P0_ k_ ∨ w.heap.size ≤ k_)) (.slice (some ⟨go5, 0, none⟩) x0_1.length co7) y101 from (by exact Ho.RS <| HO_0.out)); obtain ⟨ce10, hcl10, hM10, hcc10, hfr10⟩ := Kd.R_elem HX10.out z89 (x5_1 : Int) (of_decide_eq_true (by first | (with_reducible assumption) | assumption)) (by have h_ : (x5_1 : Int) < ((x0_1.length : Int) : Int) := of_decide_eq_true (by first | (with_reducible assumption) | assumption); first | exact h_ | (have e_ := (Kd.R_reads' HO_0.out).1; omega) | simpa using h_); obtain rfl := k89_openM hM10; have HP10 := Kd.R_seg HX10.out (x5_1 : Int) (of_decide_eq_true (by first | (with_reducible assumption) | assumption)) (by have h_ : (x5_1 : Int) < ((x0_1.length : Int) : Int) := of_decide_eq_true (by first | (with_reducible assumption) | assumption); first | exact h_ | (have e_ := (Kd.R_reads' HO_0.out).1; omega) | simpa using h_) (seg := [.int .i64 (wrap64 (x1_1 + 1))]) (j := 1) hcl10 hcc10 (show 2 ≤ 2 from by decide) (x' := (⟨(rd_T89 y101 x5_1).f0, wrap64 (x1_1 + 1)⟩ : S89)) (k89_mkM _ _ _ (⟨(rd_T89 y101 x5_1).f0, wrap64 (x1_1 + 1)⟩ : S89) ) (fun _ hk => hk); have hx10_1 := hcc10 1 _ rfl; (try simp only [show (k89).sz = 2 from rfl, Nat.mul_one, Nat.add_zero] at hx10_1); have hf10_1 := hfr10 1; (try simp only [show (k89).sz = 2 from rfl, Nat.mul_one, Nat.add_zero] at hf10_1); clear hcl10 hcc10 hfr10 hM10) | ((with_reducible refine gate_store (t := 3) (p := 23) rfl ?_); refine store_event (t := 3) (p := 23) (v := ?vo_w11) (w1 := (w9.setCell ⟨go5, (x5_1 : Int).toNat * 2 + 1, none⟩ (.int .i64 (wrap64 (x1_1 + 1))))) ?hg ?ho ?hn ?hr ?_; (case ho => rfl); (case hg => rfl); (case hn => rfl); (case hr => first | (go_simp; done) | (go_simp; rfl)); intro w11 hw; have hg : w9.grownBy w11 (some go5) := (by rw [hw]; exact HP10.2); have hp_ : Kd.R k89 89 w11 w0.heap.size (fun k_ => (P0_ k_ ∨ w.heap.size ≤ k_)) (.slice (some ⟨go5, 0, none⟩) x0_1.length co7) y102 := (by rw [hw, Ny102.out]; exact HP10.1); clear HP10; have n0_ := Aside0.mk (hp_); have n1_ := Aside0.mk ((by rw [hw]; exact below_set (HB.out) GB5.out : Below w0.heap.size w0 w11)); have n2_ := Aside0.mk (Kept.of_grown (S := (fun k_ => P0_ k_)) hg (by exact Ho.KS HK.out) (fun k_ e_ => (HO_0.out.1 k_ e_))); clear HO_0; clear HB; clear HK; have HO_0 := n0_; have HB := n1_; have HK := n2_; clear n0_ n1_ n2_; clear hg hw hp_))
          go_roundg k1
          case measure => have := HK1.out; omega
          case rel => exact ⟨(y102), (wrap64 ((wrap64 (x1_1 + 1)) + 1)), (wrap64 (x5_1 + 1)), (by first | rfl | (simp; done) | (simp [*]; done)), (by first | rfl | (simp; done) | (simp [*]; done)), H', ⟨by have := HK1.out; omega⟩, ⟨by exact Ho.RS <| HO_0.out⟩, ⟨by exact Ho.KS HK.out⟩, ⟨by exact eS HB.out⟩⟩
        · rw [if_neg c4] at H
          exact absurd H (by simp)
      · rw [if_neg c3] at H
        have c3b0 : decide (x5_1 < (x0_1.length : Int)) = false := decide_eq_false c3
        clear c3
        simp only [Option.some.injEq, Prod.mk.injEq] at H
        obtain ⟨rfl, rfl⟩ := H
        obtain ⟨Ao12, co12, eo12⟩ := Kd.R_slice HO_0.out
        subst eo12
        go_wp2
        go_ret
        exact ⟨by first | rfl | (simp [errW_none, errW_some] <;> rfl) | (simp [*, errW_none, errW_some] <;> rfl), by exact Ho.RS <| HO_0.out, by exact eS HB.out, by exact Ho.KS HK.out⟩

end Go.Proofs.Ytfibaganajembaa.X

-- XlawsmarkWeavingF49
namespace Go.Proofs.Ytfibaganajembaa.X
open Ho (bS eS)
open Go.RowKit Go.Proofs.YtfibaganajembaaW.PrintWords Go.Proofs.YtfibaganajembaaW.PrintLast Go.Proofs.YtfibaganajembaaW.PrintMore
attribute [local go_sem] max2_int min2_int max_two min_two max_three min_three max_four min_four   -- for this text's walks alone
set_option linter.unusedVariables false
set_option linter.unusedSimpArgs false

attribute [local go_sem ↓] Ho.isSome_setCell_   -- a store leaves all places there
/-! ### laws_markWeaving: function 49 -/
def laws_markWeaving.f (k : Nat) (a0_0 : Int) (a0_1 : Int) (l0_2 : List Int) (l0_3 : List Int) (a0_4 : Int) (l0_5 : List (S89)) (a0_6 : Bool) (a1 : Int) : Option (Int × List Int × List Int × (List (S89))) := (laws_markChart.f k a0_0 a0_1 l0_2 a1).bind fun bt102 => ((laws_markIntS.f k l0_3 bt102.1).bind fun bt104 => ((laws_markDeviationS.f k l0_5 bt104.1).bind fun bt106 => (some (bt106.1, bt102.2, bt104.2, bt106.2))))
theorem laws_markWeaving.mono : ∀ a0 a1 a2 a3 a4 a5 a6 a7 k, LeO (laws_markWeaving.f k a0 a1 a2 a3 a4 a5 a6 a7) (laws_markWeaving.f (k + 1) a0 a1 a2 a3 a4 a5 a6 a7) := by
  intro a0 a1 a2 a3 a4 a5 a6 a7 k
  unfold laws_markWeaving.f
  repeat' first
      | (with_reducible exact laws_markChart.mono _ _ _ _ _)
      | (with_reducible exact laws_markDeviationS.mono _ _ _)
      | (with_reducible exact laws_markIntS.mono _ _ _)
      | (with_reducible exact LeO.refl _)
      | (with_reducible exact LeO.none _)
      | (with_reducible refine LeO.ite ?_ ?_)
      | (with_reducible refine LeO.bind ?_ (fun _ => ?_))
      | exact laws_markChart.mono _ _ _ _ _
      | exact laws_markDeviationS.mono _ _ _
      | exact laws_markIntS.mono _ _ _
      | exact LeO.none _
      | refine LeO.ite ?_ ?_
      | refine LeO.bind ?_ (fun _ => ?_)
set_option maxHeartbeats 8000000 in
set_option maxRecDepth 100000 in
theorem laws_markWeaving.calls (k : Nat) (a0_0 : Int) (a0_1 : Int) (P0_2_ : Nat → Prop) (u9000_ : Value) (l0_2 : List Int) (P0_3_ : Nat → Prop) (u9001_ : Value) (l0_3 : List Int) (a0_4 : Int) (P0_5_ : Nat → Prop) (u9002_ : Value) (l0_5 : List (S89)) (a0_6 : Bool) (a1 : Int) (r1 : Int) (r2 : List Int) (r3 : List Int) (r4 : List (S89)) (w0 w : World) (hB : Below w0.heap.size w0 w) (ho0_2 : Kd.R (Kd.int .i64) 3 w w0.heap.size P0_2_ u9000_ l0_2) (hp0_2_0_3 : ∀ k_, P0_2_ k_ → ¬ P0_3_ k_) (ho0_3 : Kd.R (Kd.int .i64) 3 w w0.heap.size P0_3_ u9001_ l0_3) (hp0_3_0_2 : ∀ k_, P0_3_ k_ → ¬ P0_2_ k_) (ho0_5 : Kd.R k89 89 w w0.heap.size P0_5_ u9002_ l0_5) (h : laws_markWeaving.f k a0_0 a0_1 l0_2 l0_3 a0_4 l0_5 a0_6 a1 = some (r1, r2, r3, r4)) :
    Calls Try.prog 49 #[.agg #[.int .i64 a0_0, .int .i64 a0_1, u9000_, u9001_, .int .i64 a0_4, u9002_, .bool a0_6], .int .i64 a1] w fun e w' => e = .returned (.int .i64 r1) ∧ Kd.R (Kd.int .i64) 3 w' w0.heap.size (fun k_ => ((P0_2_ k_ ∨ P0_3_ k_ ∨ P0_5_ k_) ∨ w.heap.size ≤ k_)) u9000_ r2 ∧ Kd.R (Kd.int .i64) 3 w' w0.heap.size (fun k_ => ((P0_2_ k_ ∨ P0_3_ k_ ∨ P0_5_ k_) ∨ w.heap.size ≤ k_)) u9001_ r3 ∧ Kd.R k89 89 w' w0.heap.size (fun k_ => ((P0_2_ k_ ∨ P0_3_ k_ ∨ P0_5_ k_) ∨ w.heap.size ≤ k_)) u9002_ r4 ∧ Below w0.heap.size w0 w' ∧ Kept w w' (fun k_ => P0_2_ k_ ∨ P0_3_ k_ ∨ P0_5_ k_) := by
  have hu59 := Try.underlying59
  have hu30 := Try.underlying30
  have HO0_2 := Aside0.mk (show Kd.R (Kd.int .i64) 3 w w0.heap.size (fun k_ => ((P0_2_ k_ ∨ P0_3_ k_ ∨ P0_5_ k_) ∨ w.heap.size ≤ k_) ∧ some k_ ≠ (u9001_ : Value).ownBlock) u9000_ l0_2 from Kd.R_mono ho0_2 (fun k_ hk => ⟨(.inl (.inl hk)), fun e_ => hp0_2_0_3 k_ hk (ho0_3.1 k_ e_.symm)⟩))
  have HO0_3 := Aside0.mk (show Kd.R (Kd.int .i64) 3 w w0.heap.size (fun k_ => ((P0_2_ k_ ∨ P0_3_ k_ ∨ P0_5_ k_) ∨ w.heap.size ≤ k_) ∧ some k_ ≠ (u9000_ : Value).ownBlock) u9001_ l0_3 from Kd.R_mono ho0_3 (fun k_ hk => ⟨(.inl (.inr (.inl hk))), fun e_ => hp0_3_0_2 k_ hk (ho0_2.1 k_ e_.symm)⟩))
  have HO0_5 := Aside0.mk (show Kd.R k89 89 w w0.heap.size (fun k_ => ((P0_2_ k_ ∨ P0_3_ k_ ∨ P0_5_ k_) ∨ w.heap.size ≤ k_)) u9002_ l0_5 from Kd.R_mono ho0_5 (fun k_ hk => (.inl (.inr (.inr hk)))))
  have HK := Aside0.mk (Kept.refl w (fun k_ => P0_2_ k_ ∨ P0_3_ k_ ∨ P0_5_ k_))
  have HW0 := Aside0.mk hB.size
  have HB := Aside0.mk hB
  clear hB
  have H : ((laws_markChart.f k a0_0 a0_1 l0_2 a1).bind fun bt102 => ((laws_markIntS.f k l0_3 bt102.1).bind fun bt104 => ((laws_markDeviationS.f k l0_5 bt104.1).bind fun bt106 => (some (bt106.1, bt102.2, bt104.2, bt106.2))))) = some (r1, r2, r3, r4) := h
  clear h
  replace H := Option.bind_eq_some_iff.mp H
  obtain ⟨⟨t102, t103⟩, A30, H⟩ := H
  replace H : ((laws_markIntS.f k l0_3 t102).bind fun bt104 => ((laws_markDeviationS.f k l0_5 bt104.1).bind fun bt106 => (some (bt106.1, t103, bt104.2, bt106.2)))) = some (r1, r2, r3, r4) := H
  have A3 := Aside0.mk A30
  clear A30
  replace H := Option.bind_eq_some_iff.mp H
  obtain ⟨⟨t104, t105⟩, A40, H⟩ := H
  replace H : ((laws_markDeviationS.f k l0_5 t104).bind fun bt106 => (some (bt106.1, t103, t105, bt106.2))) = some (r1, r2, r3, r4) := H
  have A4 := Aside0.mk A40
  clear A40
  replace H := Option.bind_eq_some_iff.mp H
  obtain ⟨⟨t106, t107⟩, A50, H⟩ := H
  replace H : (some (t106, t103, t105, t107)) = some (r1, r2, r3, r4) := H
  have A5 := Aside0.mk A50
  clear A50
  simp only [Option.some.injEq, Prod.mk.injEq] at H
  obtain ⟨rfl, rfl, rfl, rfl⟩ := H
  obtain ⟨Ao6, co6, eo6⟩ := Kd.R_slice HO0_2.out
  subst eo6
  obtain ⟨Ao7, co7, eo7⟩ := Kd.R_slice HO0_3.out
  subst eo7
  obtain ⟨Ao8, co8, eo8⟩ := Kd.R_slice HO0_5.out
  subst eo8
  go_enter Try.func49, Try.ntmps49
  go_wp2_with (first | ((with_reducible refine gate_dst (N := 2) rfl ?_); refine box_event ?hg (N := 2) ?hd (cs := #[.int .i64 a0_0, .int .i64 a0_1, .slice Ao6 l0_2.length co6, .slice Ao7 l0_3.length co7, .int .i64 a0_4, .slice Ao8 l0_5.length co8, .bool a0_6]) (t := 59) ?hr ?_; (case hd => rfl); (case hg => rfl); (case hr => first | (go_simp; done) | (go_simp; rfl)); intro gb101 hg w9 hbox hb; have n0_ := Aside0.mk (Kd.R_below (by exact Ho.RS <| HO0_2.out) hb); have n1_ := Aside0.mk (Kd.R_below (by exact Ho.RS <| HO0_3.out) hb); have n2_ := Aside0.mk (Kd.R_below (by exact Ho.RS <| HO0_5.out) hb); have n3_ := Aside0.mk (Kept.below (S := (fun k_ => P0_2_ k_ ∨ P0_3_ k_ ∨ P0_5_ k_)) (by exact Ho.KS HK.out) hb); have n4_ := Aside0.mk (below_step (by exact eS HB.out) hb); have n5_ := Aside0.mk (hbox); have n6_ := Aside0.mk ((by rw [hg]; exact (by first | exact HK.out.1 | exact (show Kept w _ (fun k_ => P0_2_ k_ ∨ P0_3_ k_ ∨ P0_5_ k_) from by exact Ho.KS HK.out).1) : w.heap.size ≤ gb101)); have n7_ := Aside0.mk ((by rw [hg]; exact (below_size (by exact eS HB.out)) : w0.heap.size ≤ gb101)); clear HO0_2; clear HO0_3; clear HO0_5; clear HK; clear HB; have HO0_2 := n0_; have HO0_3 := n1_; have HO0_5 := n2_; have HK := n3_; have HB := n4_; have BK101 := n5_; have GW101 := n6_; have GE101 := n7_; clear n0_ n1_ n2_ n3_ n4_ n5_ n6_ n7_; clear hb hbox hg; have hcz10_0 : w9.cell? ⟨gb101, 0, none⟩ = some (.int .i64 a0_0) := (blk_cell BK101.out 0).trans rfl; have hcz10_1 : w9.cell? ⟨gb101, 1, none⟩ = some (.int .i64 a0_1) := (blk_cell BK101.out 1).trans rfl; have hcz10_2 : w9.cell? ⟨gb101, 2, none⟩ = some (.slice Ao6 l0_2.length co6) := (blk_cell BK101.out 2).trans rfl; have hcz10_3 : w9.cell? ⟨gb101, 3, none⟩ = some (.slice Ao7 l0_3.length co7) := (blk_cell BK101.out 3).trans rfl; have hcz10_4 : w9.cell? ⟨gb101, 4, none⟩ = some (.int .i64 a0_4) := (blk_cell BK101.out 4).trans rfl; have hcz10_5 : w9.cell? ⟨gb101, 5, none⟩ = some (.slice Ao8 l0_5.length co8) := (blk_cell BK101.out 5).trans rfl; have hcz10_6 : w9.cell? ⟨gb101, 6, none⟩ = some (.bool a0_6) := (blk_cell BK101.out 6).trans rfl; have hfz10_0 := blk_frozen BK101.out 0; have hfz10_1 := blk_frozen BK101.out 1; have hfz10_2 := blk_frozen BK101.out 2; have hfz10_3 := blk_frozen BK101.out 3; have hfz10_4 := blk_frozen BK101.out 4; have hfz10_5 := blk_frozen BK101.out 5; have hfz10_6 := blk_frozen BK101.out 6) | ((with_reducible refine gate_callee (f := 30) rfl ?_); refine goesL_ (some 8) rfl rfl Try.func30 (by kernel_rfl) rfl #[.agg #[.int .i64 a0_0, .int .i64 a0_1, .slice Ao6 l0_2.length co6], .int .i64 a1] rfl (by (try simp only [List.map_toArray, List.map_cons, List.map_nil]); first | done | rfl | (simp only [List.length_drop, List.length_take]; rfl)) ?_; (with_reducible refine (laws_markChart.calls k a0_0 a0_1 (fun k_ => some k_ = (.slice Ao6 l0_2.length co6 : Value).ownBlock) (.slice Ao6 l0_2.length co6) l0_2 a1 t102 t103 w0 _ ?side1 ?side2 A3.out).mono ?_); (case side1 => exact eS HB.out); (case side2 => exact Kd.R_tight rfl HO0_2.out); rintro e w11 ⟨rfl, hy0, hb, hkp⟩; refine ⟨_, rfl, ?_⟩; have n0_ := Aside0.mk (Kd.R_reok rfl hy0 (fun k_ e_ => HO0_2.out.1 k_ e_)); have n1_ := Aside0.mk (Kd.R_mono (ok' := fun k_ => ((P0_2_ k_ ∨ P0_3_ k_ ∨ P0_5_ k_) ∨ w.heap.size ≤ k_) ∧ some k_ ≠ (.slice Ao6 l0_2.length co6 : Value).ownBlock) (Kd.R_keptB (HO0_3.out) hkp (fun k_ hk_ hs_ => (hk_.2) hs_)) (fun k_ hk_ => ⟨hk_.1.1, hk_.1.2⟩)); have n2_ := Aside0.mk (Kd.R_mono (ok' := fun k_ => ((P0_2_ k_ ∨ P0_3_ k_ ∨ P0_5_ k_) ∨ w.heap.size ≤ k_)) (Kd.R_keptB ((Kd.R_apart' HO0_5.out (Kd.R_typed HO0_2.out) (by decide))) hkp (fun k_ hk_ hs_ => (hk_.2) hs_)) (fun k_ hk_ => hk_.1.1)); have n3_ := Aside0.mk (blk_kept (by exact bS BK101.out) hkp (fun hs_ => (fun e_ => (Kd.R_ne HO0_2.out BK101.out (by decide)) e_) hs_)); have n4_ := Aside0.mk (Kept.then_ (S := (fun k_ => P0_2_ k_ ∨ P0_3_ k_ ∨ P0_5_ k_)) (by exact Ho.KS HK.out) hkp (fun k_ hs_ => (fun e_ => (HO0_2.out.1 k_ e_.symm).1) hs_)); have n5_ := Aside0.mk (hb); clear HO0_2; clear HO0_3; clear HO0_5; clear BK101; clear HK; clear HB; have HO0_2 := n0_; have HO0_3 := n1_; have HO0_5 := n2_; have BK101 := n3_; have HK := n4_; have HB := n5_; clear n0_ n1_ n2_ n3_ n4_ n5_; (try clear hb); (try clear hkp); (try clear hy0); have hcz12_0 : w11.cell? ⟨gb101, 0, none⟩ = some (.int .i64 a0_0) := (blk_cell BK101.out 0).trans rfl; have hcz12_1 : w11.cell? ⟨gb101, 1, none⟩ = some (.int .i64 a0_1) := (blk_cell BK101.out 1).trans rfl; have hcz12_2 : w11.cell? ⟨gb101, 2, none⟩ = some (.slice Ao6 l0_2.length co6) := (blk_cell BK101.out 2).trans rfl; have hcz12_3 : w11.cell? ⟨gb101, 3, none⟩ = some (.slice Ao7 l0_3.length co7) := (blk_cell BK101.out 3).trans rfl; have hcz12_4 : w11.cell? ⟨gb101, 4, none⟩ = some (.int .i64 a0_4) := (blk_cell BK101.out 4).trans rfl; have hcz12_5 : w11.cell? ⟨gb101, 5, none⟩ = some (.slice Ao8 l0_5.length co8) := (blk_cell BK101.out 5).trans rfl; have hcz12_6 : w11.cell? ⟨gb101, 6, none⟩ = some (.bool a0_6) := (blk_cell BK101.out 6).trans rfl; have hfz12_0 := blk_frozen BK101.out 0; have hfz12_1 := blk_frozen BK101.out 1; have hfz12_2 := blk_frozen BK101.out 2; have hfz12_3 := blk_frozen BK101.out 3; have hfz12_4 := blk_frozen BK101.out 4; have hfz12_5 := blk_frozen BK101.out 5; have hfz12_6 := blk_frozen BK101.out 6) | ((with_reducible refine gate_callee (f := 32) rfl ?_); refine goesL_ (some 12) rfl rfl Try.func32 (by kernel_rfl) rfl #[.slice Ao7 l0_3.length co7, .int .i64 t102] rfl (by (try simp only [List.map_toArray, List.map_cons, List.map_nil]); first | done | rfl | (simp only [List.length_drop, List.length_take]; rfl)) ?_; (with_reducible refine (laws_markIntS.calls k (fun k_ => some k_ = (.slice Ao7 l0_3.length co7 : Value).ownBlock) (.slice Ao7 l0_3.length co7) l0_3 t102 t104 t105 w0 _ ?side1 ?side2 A4.out).mono ?_); (case side1 => exact eS HB.out); (case side2 => exact Kd.R_tight rfl HO0_3.out); rintro e w13 ⟨rfl, hy0, hb, hkp⟩; refine ⟨_, rfl, ?_⟩; have n0_ := Aside0.mk (Kd.R_mono (ok' := fun k_ => ((P0_2_ k_ ∨ P0_3_ k_ ∨ P0_5_ k_) ∨ w.heap.size ≤ k_) ∧ some k_ ≠ (.slice Ao7 l0_3.length co7 : Value).ownBlock) (Kd.R_keptB (HO0_2.out) hkp (fun k_ hk_ hs_ => (hk_.2) hs_)) (fun k_ hk_ => ⟨hk_.1.1, hk_.1.2⟩)); have n1_ := Aside0.mk (Kd.R_reok rfl hy0 (fun k_ e_ => HO0_3.out.1 k_ e_)); have n2_ := Aside0.mk (Kd.R_mono (ok' := fun k_ => ((P0_2_ k_ ∨ P0_3_ k_ ∨ P0_5_ k_) ∨ w.heap.size ≤ k_)) (Kd.R_keptB ((Kd.R_apart' HO0_5.out (Kd.R_typed HO0_3.out) (by decide))) hkp (fun k_ hk_ hs_ => (hk_.2) hs_)) (fun k_ hk_ => hk_.1.1)); have n3_ := Aside0.mk (blk_kept (by exact bS BK101.out) hkp (fun hs_ => (fun e_ => (Kd.R_ne HO0_3.out BK101.out (by decide)) e_) hs_)); have n4_ := Aside0.mk (Kept.then_ (S := (fun k_ => P0_2_ k_ ∨ P0_3_ k_ ∨ P0_5_ k_)) (by exact Ho.KS HK.out) hkp (fun k_ hs_ => (fun e_ => (HO0_3.out.1 k_ e_.symm).1) hs_)); have n5_ := Aside0.mk (hb); clear HO0_2; clear HO0_3; clear HO0_5; clear BK101; clear HK; clear HB; have HO0_2 := n0_; have HO0_3 := n1_; have HO0_5 := n2_; have BK101 := n3_; have HK := n4_; have HB := n5_; clear n0_ n1_ n2_ n3_ n4_ n5_; (try clear hb); (try clear hkp); (try clear hy0); have hcz14_0 : w13.cell? ⟨gb101, 0, none⟩ = some (.int .i64 a0_0) := (blk_cell BK101.out 0).trans rfl; have hcz14_1 : w13.cell? ⟨gb101, 1, none⟩ = some (.int .i64 a0_1) := (blk_cell BK101.out 1).trans rfl; have hcz14_2 : w13.cell? ⟨gb101, 2, none⟩ = some (.slice Ao6 l0_2.length co6) := (blk_cell BK101.out 2).trans rfl; have hcz14_3 : w13.cell? ⟨gb101, 3, none⟩ = some (.slice Ao7 l0_3.length co7) := (blk_cell BK101.out 3).trans rfl; have hcz14_4 : w13.cell? ⟨gb101, 4, none⟩ = some (.int .i64 a0_4) := (blk_cell BK101.out 4).trans rfl; have hcz14_5 : w13.cell? ⟨gb101, 5, none⟩ = some (.slice Ao8 l0_5.length co8) := (blk_cell BK101.out 5).trans rfl; have hcz14_6 : w13.cell? ⟨gb101, 6, none⟩ = some (.bool a0_6) := (blk_cell BK101.out 6).trans rfl; have hfz14_0 := blk_frozen BK101.out 0; have hfz14_1 := blk_frozen BK101.out 1; have hfz14_2 := blk_frozen BK101.out 2; have hfz14_3 := blk_frozen BK101.out 3; have hfz14_4 := blk_frozen BK101.out 4; have hfz14_5 := blk_frozen BK101.out 5; have hfz14_6 := blk_frozen BK101.out 6) | ((with_reducible refine gate_callee (f := 85) rfl ?_); refine goesL_ (some 16) rfl rfl Try.func85 (by kernel_rfl) rfl #[.slice Ao8 l0_5.length co8, .int .i64 t104] rfl (by (try simp only [List.map_toArray, List.map_cons, List.map_nil]); first | done | rfl | (simp only [List.length_drop, List.length_take]; rfl)) ?_; (with_reducible refine (laws_markDeviationS.calls k (fun k_ => some k_ = (.slice Ao8 l0_5.length co8 : Value).ownBlock) (.slice Ao8 l0_5.length co8) l0_5 t104 t106 t107 w0 _ ?side1 ?side2 A5.out).mono ?_); (case side1 => exact eS HB.out); (case side2 => exact Kd.R_tight rfl HO0_5.out); rintro e w15 ⟨rfl, hy0, hb, hkp⟩; refine ⟨_, rfl, ?_⟩; have n0_ := Aside0.mk (Kd.R_mono (ok' := fun k_ => ((P0_2_ k_ ∨ P0_3_ k_ ∨ P0_5_ k_) ∨ w.heap.size ≤ k_) ∧ some k_ ≠ (.slice Ao7 l0_3.length co7 : Value).ownBlock) (Kd.R_keptB ((Kd.R_apart' HO0_2.out (Kd.R_typed HO0_5.out) (by decide))) hkp (fun k_ hk_ hs_ => (hk_.2) hs_)) (fun k_ hk_ => ⟨hk_.1.1.1, hk_.1.1.2⟩)); have n1_ := Aside0.mk (Kd.R_mono (ok' := fun k_ => ((P0_2_ k_ ∨ P0_3_ k_ ∨ P0_5_ k_) ∨ w.heap.size ≤ k_) ∧ some k_ ≠ (.slice Ao6 l0_2.length co6 : Value).ownBlock) (Kd.R_keptB ((Kd.R_apart' HO0_3.out (Kd.R_typed HO0_5.out) (by decide))) hkp (fun k_ hk_ hs_ => (hk_.2) hs_)) (fun k_ hk_ => ⟨hk_.1.1.1, hk_.1.1.2⟩)); have n2_ := Aside0.mk (Kd.R_reok rfl hy0 (fun k_ e_ => HO0_5.out.1 k_ e_)); have n3_ := Aside0.mk (blk_kept (by exact bS BK101.out) hkp (fun hs_ => (fun e_ => (Kd.R_ne HO0_5.out BK101.out (by decide)) e_) hs_)); have n4_ := Aside0.mk (Kept.then_ (S := (fun k_ => P0_2_ k_ ∨ P0_3_ k_ ∨ P0_5_ k_)) (by exact Ho.KS HK.out) hkp (fun k_ hs_ => (fun e_ => (HO0_5.out.1 k_ e_.symm)) hs_)); have n5_ := Aside0.mk (hb); clear HO0_2; clear HO0_3; clear HO0_5; clear BK101; clear HK; clear HB; have HO0_2 := n0_; have HO0_3 := n1_; have HO0_5 := n2_; have BK101 := n3_; have HK := n4_; have HB := n5_; clear n0_ n1_ n2_ n3_ n4_ n5_; (try clear hb); (try clear hkp); (try clear hy0)))
  go_ret
  exact ⟨by first | rfl | (simp [errW_none, errW_some] <;> rfl) | (simp [*, errW_none, errW_some] <;> rfl), by exact Ho.RS <| Kd.R_mono HO0_2.out (fun _ hk => hk.1), by exact Ho.RS <| Kd.R_mono HO0_3.out (fun _ hk => hk.1), by exact Ho.RS <| HO0_5.out, by exact eS HB.out, by exact Ho.KS HK.out⟩

end Go.Proofs.Ytfibaganajembaa.X

-- XspecMistakesInF47
namespace Go.Proofs.Ytfibaganajembaa.X
open Ho (bS eS)
open Go.RowKit Go.Proofs.YtfibaganajembaaW.PrintWords Go.Proofs.YtfibaganajembaaW.PrintLast Go.Proofs.YtfibaganajembaaW.PrintMore
attribute [local go_sem] max2_int min2_int max_two min_two max_three min_three max_four min_four   -- for this text's walks alone
set_option linter.unusedVariables false
set_option linter.unusedSimpArgs false

attribute [local go_sem ↓] Ho.isSome_setCell_   -- a store leaves all places there
/-! ### spec_MistakesIn: function 47 -/
def spec_MistakesIn.f (k : Nat) (a0_0 : Int) (a0_1 : Int) (l0_2 : List Int) (l0_3 : List Int) (a0_4 : Int) (l0_5 : List (S89)) (a0_6 : Bool) : Option (List Int × Bool) := (spec_l19Good.f k a0_0 a0_1 l0_2 l0_3 a0_4 l0_5 a0_6).bind fun t102 => (if t102 = true then ((spec_l19Mistakes.f k a0_0 a0_1 l0_2 l0_3 a0_4 l0_5 a0_6).bind fun t103 => (some (t103, true))) else (some ((([] : List Int)), false)))
theorem spec_MistakesIn.mono : ∀ a0 a1 a2 a3 a4 a5 a6 k, LeO (spec_MistakesIn.f k a0 a1 a2 a3 a4 a5 a6) (spec_MistakesIn.f (k + 1) a0 a1 a2 a3 a4 a5 a6) := by
  intro a0 a1 a2 a3 a4 a5 a6 k
  unfold spec_MistakesIn.f
  repeat' first
      | (with_reducible exact spec_l19Good.mono _ _ _ _ _ _ _ _)
      | (with_reducible exact spec_l19Mistakes.mono _ _ _ _ _ _ _ _)
      | (with_reducible exact LeO.refl _)
      | (with_reducible exact LeO.none _)
      | (with_reducible refine LeO.ite ?_ ?_)
      | (with_reducible refine LeO.bind ?_ (fun _ => ?_))
      | exact spec_l19Good.mono _ _ _ _ _ _ _ _
      | exact spec_l19Mistakes.mono _ _ _ _ _ _ _ _
      | exact LeO.none _
      | refine LeO.ite ?_ ?_
      | refine LeO.bind ?_ (fun _ => ?_)
set_option maxHeartbeats 8000000 in
set_option maxRecDepth 100000 in
theorem spec_MistakesIn.calls (k : Nat) (a0_0 : Int) (a0_1 : Int) (A0_2 : Option Addr) (c0_2 : Nat) (l0_2 : List Int) (A0_3 : Option Addr) (c0_3 : Nat) (l0_3 : List Int) (a0_4 : Int) (A0_5 : Option Addr) (c0_5 : Nat) (l0_5 : List (S89)) (a0_6 : Bool) (r1 : List Int) (r2 : Bool) (w : World) (hr0_2 : Kd.C (Kd.int .i64) w A0_2 l0_2.length l0_2) (hc0_2 : l0_2.length ≤ c0_2) (hr0_3 : Kd.C (Kd.int .i64) w A0_3 l0_3.length l0_3) (hc0_3 : l0_3.length ≤ c0_3) (hr0_5 : Kd.C k89 w A0_5 l0_5.length l0_5) (hc0_5 : l0_5.length ≤ c0_5) (h : spec_MistakesIn.f k a0_0 a0_1 l0_2 l0_3 a0_4 l0_5 a0_6 = some (r1, r2)) :
    Calls Try.prog 47 #[.agg #[.int .i64 a0_0, .int .i64 a0_1, .slice A0_2 l0_2.length c0_2, .slice A0_3 l0_3.length c0_3, .int .i64 a0_4, .slice A0_5 l0_5.length c0_5, .bool a0_6]] w fun e w' => ∃ v0_ : Value, e = .returned (.tuple #[v0_, .bool r2]) ∧ Kd.R (Kd.int .i64) 3 w' w.heap.size (fun _ => True) v0_ r1 ∧ Below w.heap.size w w' := by
  have hu59 := Try.underlying59
  have HR0_2 := Aside0.mk hr0_2
  have HC0_2 := Aside0.mk hc0_2
  clear hr0_2 hc0_2
  have HR0_3 := Aside0.mk hr0_3
  have HC0_3 := Aside0.mk hc0_3
  clear hr0_3 hc0_3
  have HR0_5 := Aside0.mk hr0_5
  have HC0_5 := Aside0.mk hc0_5
  clear hr0_5 hc0_5
  have HB := Aside0.mk (Below.refl w.heap.size w)
  have H : ((spec_l19Good.f k a0_0 a0_1 l0_2 l0_3 a0_4 l0_5 a0_6).bind fun t102 => (if t102 = true then ((spec_l19Mistakes.f k a0_0 a0_1 l0_2 l0_3 a0_4 l0_5 a0_6).bind fun t103 => (some (t103, true))) else (some ((([] : List Int)), false)))) = some (r1, r2) := h
  clear h
  replace H := Option.bind_eq_some_iff.mp H
  obtain ⟨t102, A20, H⟩ := H
  replace H : (if t102 = true then ((spec_l19Mistakes.f k a0_0 a0_1 l0_2 l0_3 a0_4 l0_5 a0_6).bind fun t103 => (some (t103, true))) else (some ((([] : List Int)), false))) = some (r1, r2) := H
  have A2 := Aside0.mk A20
  clear A20
  by_cases c3 : t102 = true
  · subst c3
    have H1 : ((spec_l19Mistakes.f k a0_0 a0_1 l0_2 l0_3 a0_4 l0_5 a0_6).bind fun t103 => (some (t103, true))) = some (r1, r2) := by rw [if_pos rfl] at H; exact H
    clear H
    have H := H1
    clear H1
    replace H := Option.bind_eq_some_iff.mp H
    obtain ⟨t103, A40, H⟩ := H
    replace H : (some (t103, true)) = some (r1, r2) := H
    have A4 := Aside0.mk A40
    clear A40
    simp only [Option.some.injEq, Prod.mk.injEq] at H
    obtain ⟨rfl, rfl⟩ := H
    go_enter Try.func47, Try.ntmps47
    go_wp2_with (first | ((with_reducible refine gate_dst (N := 1) rfl ?_); refine box_event ?hg (N := 1) ?hd (cs := #[.int .i64 a0_0, .int .i64 a0_1, .slice A0_2 l0_2.length c0_2, .slice A0_3 l0_3.length c0_3, .int .i64 a0_4, .slice A0_5 l0_5.length c0_5, .bool a0_6]) (t := 59) ?hr ?_; (case hd => rfl); (case hg => rfl); (case hr => first | (go_simp; done) | (go_simp; rfl)); intro gb101 hg w5 hbox hb; have n0_ := Aside0.mk (below_step (by exact eS HB.out) hb); have n1_ := Aside0.mk (hbox); have n2_ := Aside0.mk ((by rw [hg]; exact (below_size (by exact eS HB.out)) : w.heap.size ≤ gb101)); have n3_ := Aside0.mk ((by rw [hg]; exact (below_size (by exact eS HB.out)) : w.heap.size ≤ gb101)); clear HB; have HB := n0_; have BK101 := n1_; have GW101 := n2_; have GE101 := n3_; clear n0_ n1_ n2_ n3_; clear hb hbox hg; have hcz6_0 : w5.cell? ⟨gb101, 0, none⟩ = some (.int .i64 a0_0) := (blk_cell BK101.out 0).trans rfl; have hcz6_1 : w5.cell? ⟨gb101, 1, none⟩ = some (.int .i64 a0_1) := (blk_cell BK101.out 1).trans rfl; have hcz6_2 : w5.cell? ⟨gb101, 2, none⟩ = some (.slice A0_2 l0_2.length c0_2) := (blk_cell BK101.out 2).trans rfl; have hcz6_3 : w5.cell? ⟨gb101, 3, none⟩ = some (.slice A0_3 l0_3.length c0_3) := (blk_cell BK101.out 3).trans rfl; have hcz6_4 : w5.cell? ⟨gb101, 4, none⟩ = some (.int .i64 a0_4) := (blk_cell BK101.out 4).trans rfl; have hcz6_5 : w5.cell? ⟨gb101, 5, none⟩ = some (.slice A0_5 l0_5.length c0_5) := (blk_cell BK101.out 5).trans rfl; have hcz6_6 : w5.cell? ⟨gb101, 6, none⟩ = some (.bool a0_6) := (blk_cell BK101.out 6).trans rfl; have hfz6_0 := blk_frozen BK101.out 0; have hfz6_1 := blk_frozen BK101.out 1; have hfz6_2 := blk_frozen BK101.out 2; have hfz6_3 := blk_frozen BK101.out 3; have hfz6_4 := blk_frozen BK101.out 4; have hfz6_5 := blk_frozen BK101.out 5; have hfz6_6 := blk_frozen BK101.out 6) | ((with_reducible refine gate_callee (f := 70) rfl ?_); refine goesL_ (some 5) rfl rfl Try.func70 (by kernel_rfl) rfl #[.agg #[.int .i64 a0_0, .int .i64 a0_1, .slice A0_2 l0_2.length c0_2, .slice A0_3 l0_3.length c0_3, .int .i64 a0_4, .slice A0_5 l0_5.length c0_5, .bool a0_6]] rfl (by (try simp only [List.map_toArray, List.map_cons, List.map_nil]); first | done | rfl | (simp only [List.length_drop, List.length_take]; rfl)) ?_; (with_reducible refine (spec_l19Good.calls k a0_0 a0_1 _ _ l0_2 _ _ l0_3 a0_4 _ _ l0_5 a0_6 true _ ?side1 ?side2 ?side3 ?side4 ?side5 ?side6 A2.out).mono ?_); (case side1 => repeat (first | exact (Kd.C_below HR0_2.out HB.out) | (with_reducible refine Kd.C_alloc ?_ _) | (with_reducible refine Kd.C_drewN ?_ _) | (with_reducible refine Kd.C_drew ?_))); (case side2 => exact HC0_2.out); (case side3 => repeat (first | exact (Kd.C_below HR0_3.out HB.out) | (with_reducible refine Kd.C_alloc ?_ _) | (with_reducible refine Kd.C_drewN ?_ _) | (with_reducible refine Kd.C_drew ?_))); (case side4 => exact HC0_3.out); (case side5 => repeat (first | exact (Kd.C_below HR0_5.out HB.out) | (with_reducible refine Kd.C_alloc ?_ _) | (with_reducible refine Kd.C_drewN ?_ _) | (with_reducible refine Kd.C_drew ?_))); (case side6 => exact HC0_5.out); rintro e w7 ⟨rfl, hb⟩; refine ⟨_, rfl, ?_⟩; have n0_ := Aside0.mk (blk_below (bS BK101.out) hb); have n1_ := Aside0.mk (below_step (by exact eS HB.out) hb); clear BK101; clear HB; have BK101 := n0_; have HB := n1_; clear n0_ n1_; (try clear hb); (try clear hb2); (try clear hk); (try clear hi); have hcz8_0 : w7.cell? ⟨gb101, 0, none⟩ = some (.int .i64 a0_0) := (blk_cell BK101.out 0).trans rfl; have hcz8_1 : w7.cell? ⟨gb101, 1, none⟩ = some (.int .i64 a0_1) := (blk_cell BK101.out 1).trans rfl; have hcz8_2 : w7.cell? ⟨gb101, 2, none⟩ = some (.slice A0_2 l0_2.length c0_2) := (blk_cell BK101.out 2).trans rfl; have hcz8_3 : w7.cell? ⟨gb101, 3, none⟩ = some (.slice A0_3 l0_3.length c0_3) := (blk_cell BK101.out 3).trans rfl; have hcz8_4 : w7.cell? ⟨gb101, 4, none⟩ = some (.int .i64 a0_4) := (blk_cell BK101.out 4).trans rfl; have hcz8_5 : w7.cell? ⟨gb101, 5, none⟩ = some (.slice A0_5 l0_5.length c0_5) := (blk_cell BK101.out 5).trans rfl; have hcz8_6 : w7.cell? ⟨gb101, 6, none⟩ = some (.bool a0_6) := (blk_cell BK101.out 6).trans rfl; have hfz8_0 := blk_frozen BK101.out 0; have hfz8_1 := blk_frozen BK101.out 1; have hfz8_2 := blk_frozen BK101.out 2; have hfz8_3 := blk_frozen BK101.out 3; have hfz8_4 := blk_frozen BK101.out 4; have hfz8_5 := blk_frozen BK101.out 5; have hfz8_6 := blk_frozen BK101.out 6) | ((with_reducible refine gate_callee (f := 83) rfl ?_); refine goesL_ (some 9) rfl rfl Try.func83 (by kernel_rfl) rfl #[.agg #[.int .i64 a0_0, .int .i64 a0_1, .slice A0_2 l0_2.length c0_2, .slice A0_3 l0_3.length c0_3, .int .i64 a0_4, .slice A0_5 l0_5.length c0_5, .bool a0_6]] rfl (by (try simp only [List.map_toArray, List.map_cons, List.map_nil]); first | done | rfl | (simp only [List.length_drop, List.length_take]; rfl)) ?_; (with_reducible refine (spec_l19Mistakes.calls k a0_0 a0_1 _ _ l0_2 _ _ l0_3 a0_4 _ _ l0_5 a0_6 t103 _ ?side1 ?side2 ?side3 ?side4 ?side5 ?side6 A4.out).mono ?_); (case side1 => repeat (first | exact (Kd.C_below HR0_2.out HB.out) | (with_reducible refine Kd.C_alloc ?_ _) | (with_reducible refine Kd.C_drewN ?_ _) | (with_reducible refine Kd.C_drew ?_))); (case side2 => exact HC0_2.out); (case side3 => repeat (first | exact (Kd.C_below HR0_3.out HB.out) | (with_reducible refine Kd.C_alloc ?_ _) | (with_reducible refine Kd.C_drewN ?_ _) | (with_reducible refine Kd.C_drew ?_))); (case side4 => exact HC0_3.out); (case side5 => repeat (first | exact (Kd.C_below HR0_5.out HB.out) | (with_reducible refine Kd.C_alloc ?_ _) | (with_reducible refine Kd.C_drewN ?_ _) | (with_reducible refine Kd.C_drew ?_))); (case side6 => exact HC0_5.out); rintro e w9 ⟨v104, rfl, ho0, hb⟩; refine ⟨_, rfl, ?_⟩; have n0_ := Aside0.mk (Kd.R_lower ho0 (below_size (by exact eS HB.out))); have n1_ := Aside0.mk (blk_below (bS BK101.out) hb); have n2_ := Aside0.mk (below_step (by exact eS HB.out) hb); clear BK101; clear HB; have HO105 := n0_; have BK101 := n1_; have HB := n2_; clear n0_ n1_ n2_; (try clear hb); (try clear hb2); (try clear hk); (try clear hi); (try clear ho0)))
    go_ret2
    exact ⟨_, by first | rfl | (simp [errW_none, errW_some] <;> rfl) | (simp [*, errW_none, errW_some] <;> rfl), by exact Ho.RS <| HO105.out, by exact eS HB.out⟩
  · replace c3 := Bool.eq_false_iff.mpr c3
    subst c3
    have H1 : (some ((([] : List Int)), false)) = some (r1, r2) := by rw [if_neg (show ¬ (false = true) by decide)] at H; exact H
    clear H
    have H := H1
    clear H1
    obtain ⟨y106, hy106⟩ : ∃ y_ : List Int, y_ = (([] : List Int)) := ⟨_, rfl⟩
    replace H : (some (y106, false)) = some (r1, r2) := by first | (rw [hy106]; with_reducible exact H) | (have H2_ := (Option.bind_some _ _).symm.trans H; rw [hy106]; with_reducible exact H2_) | (have H2_ := (Option.bind_some _ _).symm.trans H; with_reducible exact H2_) | with_reducible exact H | (rw [hy106]; exact H) | exact H
    have Ny106 := Aside0.mk hy106
    clear hy106
    simp only [Option.some.injEq, Prod.mk.injEq] at H
    obtain ⟨rfl, rfl⟩ := H
    go_enter Try.func47, Try.ntmps47
    go_wp2_with (first | ((with_reducible refine gate_dst (N := 1) rfl ?_); refine box_event ?hg (N := 1) ?hd (cs := #[.int .i64 a0_0, .int .i64 a0_1, .slice A0_2 l0_2.length c0_2, .slice A0_3 l0_3.length c0_3, .int .i64 a0_4, .slice A0_5 l0_5.length c0_5, .bool a0_6]) (t := 59) ?hr ?_; (case hd => rfl); (case hg => rfl); (case hr => first | (go_simp; done) | (go_simp; rfl)); intro gb101 hg w10 hbox hb; have n0_ := Aside0.mk (below_step (by exact eS HB.out) hb); have n1_ := Aside0.mk (hbox); have n2_ := Aside0.mk ((by rw [hg]; exact (below_size (by exact eS HB.out)) : w.heap.size ≤ gb101)); have n3_ := Aside0.mk ((by rw [hg]; exact (below_size (by exact eS HB.out)) : w.heap.size ≤ gb101)); clear HB; have HB := n0_; have BK101 := n1_; have GW101 := n2_; have GE101 := n3_; clear n0_ n1_ n2_ n3_; clear hb hbox hg; have hcz11_0 : w10.cell? ⟨gb101, 0, none⟩ = some (.int .i64 a0_0) := (blk_cell BK101.out 0).trans rfl; have hcz11_1 : w10.cell? ⟨gb101, 1, none⟩ = some (.int .i64 a0_1) := (blk_cell BK101.out 1).trans rfl; have hcz11_2 : w10.cell? ⟨gb101, 2, none⟩ = some (.slice A0_2 l0_2.length c0_2) := (blk_cell BK101.out 2).trans rfl; have hcz11_3 : w10.cell? ⟨gb101, 3, none⟩ = some (.slice A0_3 l0_3.length c0_3) := (blk_cell BK101.out 3).trans rfl; have hcz11_4 : w10.cell? ⟨gb101, 4, none⟩ = some (.int .i64 a0_4) := (blk_cell BK101.out 4).trans rfl; have hcz11_5 : w10.cell? ⟨gb101, 5, none⟩ = some (.slice A0_5 l0_5.length c0_5) := (blk_cell BK101.out 5).trans rfl; have hcz11_6 : w10.cell? ⟨gb101, 6, none⟩ = some (.bool a0_6) := (blk_cell BK101.out 6).trans rfl; have hfz11_0 := blk_frozen BK101.out 0; have hfz11_1 := blk_frozen BK101.out 1; have hfz11_2 := blk_frozen BK101.out 2; have hfz11_3 := blk_frozen BK101.out 3; have hfz11_4 := blk_frozen BK101.out 4; have hfz11_5 := blk_frozen BK101.out 5; have hfz11_6 := blk_frozen BK101.out 6) | ((with_reducible refine gate_callee (f := 70) rfl ?_); refine goesL_ (some 5) rfl rfl Try.func70 (by kernel_rfl) rfl #[.agg #[.int .i64 a0_0, .int .i64 a0_1, .slice A0_2 l0_2.length c0_2, .slice A0_3 l0_3.length c0_3, .int .i64 a0_4, .slice A0_5 l0_5.length c0_5, .bool a0_6]] rfl (by (try simp only [List.map_toArray, List.map_cons, List.map_nil]); first | done | rfl | (simp only [List.length_drop, List.length_take]; rfl)) ?_; (with_reducible refine (spec_l19Good.calls k a0_0 a0_1 _ _ l0_2 _ _ l0_3 a0_4 _ _ l0_5 a0_6 false _ ?side1 ?side2 ?side3 ?side4 ?side5 ?side6 A2.out).mono ?_); (case side1 => repeat (first | exact (Kd.C_below HR0_2.out HB.out) | (with_reducible refine Kd.C_alloc ?_ _) | (with_reducible refine Kd.C_drewN ?_ _) | (with_reducible refine Kd.C_drew ?_))); (case side2 => exact HC0_2.out); (case side3 => repeat (first | exact (Kd.C_below HR0_3.out HB.out) | (with_reducible refine Kd.C_alloc ?_ _) | (with_reducible refine Kd.C_drewN ?_ _) | (with_reducible refine Kd.C_drew ?_))); (case side4 => exact HC0_3.out); (case side5 => repeat (first | exact (Kd.C_below HR0_5.out HB.out) | (with_reducible refine Kd.C_alloc ?_ _) | (with_reducible refine Kd.C_drewN ?_ _) | (with_reducible refine Kd.C_drew ?_))); (case side6 => exact HC0_5.out); rintro e w12 ⟨rfl, hb⟩; refine ⟨_, rfl, ?_⟩; have n0_ := Aside0.mk (blk_below (bS BK101.out) hb); have n1_ := Aside0.mk (below_step (by exact eS HB.out) hb); clear BK101; clear HB; have BK101 := n0_; have HB := n1_; clear n0_ n1_; (try clear hb); (try clear hb2); (try clear hk); (try clear hi)) | ((with_reducible refine gate_dst (N := 7) rfl ?_); refine Kd.R_lit (Kd.int .i64) _ 3 ?hg (N := 7) ?hd (xs := ([] : List Int)) (inner := []) (ok := fun _ => True) (okp := fun _ => True) ?hr ?hp (fun _ hk => hk) trivial (Below.refl _ _) (Nat.le_refl _) (by simp) ?_; (case hd => rfl); (case hg => rfl); (case hr => first | (go_simp; done) | (go_simp; rfl)); (case hp => exact (Reps.none _ _)); intro v107 w13 ho14 hb hg_ hnew_; clear hg_ hnew_; (first | rw [← Ny106.out] at ho14 | (simp only [Int.reduceToNat] at ho14; rw [← Ny106.out] at ho14)); have n0_ := Aside0.mk (Kd.R_lower ho14 (below_size (by exact eS HB.out))); have n1_ := Aside0.mk (blk_below (bS BK101.out) hb); have n2_ := Aside0.mk (below_step (by exact eS HB.out) hb); clear BK101; clear HB; have HO108 := n0_; have BK101 := n1_; have HB := n2_; clear n0_ n1_ n2_; clear hb ho14))
    go_ret2
    exact ⟨_, by first | rfl | (simp [errW_none, errW_some] <;> rfl) | (simp [*, errW_none, errW_some] <;> rfl), by exact Ho.RS <| HO108.out, by exact eS HB.out⟩

end Go.Proofs.Ytfibaganajembaa.X

-- XlawsFnExactMistakesInF12
namespace Go.Proofs.Ytfibaganajembaa.X
open Ho (bS eS)
open Go.RowKit Go.Proofs.YtfibaganajembaaW.PrintWords Go.Proofs.YtfibaganajembaaW.PrintLast Go.Proofs.YtfibaganajembaaW.PrintMore
attribute [local go_sem] max2_int min2_int max_two min_two max_three min_three max_four min_four   -- for this text's walks alone
set_option linter.unusedVariables false
set_option linter.unusedSimpArgs false

attribute [local go_sem ↓] Ho.isSome_setCell_   -- a store leaves all places there
/-! ### laws_FnExactMistakesIn: function 12 -/
mutual
def laws_FnExactMistakesIn.j0 : Nat → List Int → Bool → List Int → Bool → Bool → Int → Int → List Int → List Int → Int → List (S106) → Bool → Int → Int → List Int → List Int → Int → List (S89) → Bool → Option (Bool)
  | 0, _, _, _, _, _, _, _, _, _, _, _, _, _, _, _, _, _, _, _ => none
  | k + 1, x4, x5, x7, x8, x40, x102000, x102001, x102002, x102003, x102004, x102005, x102006, x134000, x134001, x134002, x134003, x134004, x134005, x134006 => if x40 = true then (some false) else ((laws_toWeaving.f k x102000 x102001 x102002 x102003 x102004 x102005 x102006).bind fun bt139 => ((laws_eqWeaving.f k x134000 x134001 x134002 x134003 x134004 x134005 x134006 bt139.1 bt139.2.1 bt139.2.2.1 bt139.2.2.2.1 bt139.2.2.2.2.1 bt139.2.2.2.2.2.1 bt139.2.2.2.2.2.2).bind fun t152 => (if t152 = true then ((laws_markWeaving.f k x134000 x134001 x134002 x134003 x134004 x134005 x134006 1).bind fun bt153 => (if bt153.1 < 0 then (laws_FnExactMistakesIn.j1 k x4 x5 x7 true x102000 x102001 x102002 x102003 x102004 x102005 x102006) else ((laws_eqIntS.f k x7 x4).bind fun t157 => (if t157 = true then (laws_FnExactMistakesIn.j1 k x4 x5 x7 (x8 != x5) x102000 x102001 x102002 x102003 x102004 x102005 x102006) else (laws_FnExactMistakesIn.j1 k x4 x5 x7 true x102000 x102001 x102002 x102003 x102004 x102005 x102006))))) else (some false))))
def laws_FnExactMistakesIn.j1 : Nat → List Int → Bool → List Int → Bool → Int → Int → List Int → List Int → Int → List (S106) → Bool → Option (Bool)
  | 0, _, _, _, _, _, _, _, _, _, _, _ => none
  | k + 1, x4, x5, x7, x61, x102000, x102001, x102002, x102003, x102004, x102005, x102006 => if x61 = true then (some false) else ((laws_markIntS.f k x7 1).bind fun bt158 => ((laws_heldIntS.f k bt158.2 1).bind fun t160 => (if t160 < 0 then (some false) else (if t160 = bt158.1 then ((laws_toWeaving.f k x102000 x102001 x102002 x102003 x102004 x102005 x102006).bind fun bt161 => ((impl_MistakesIn.f k bt161.1 bt161.2.1 bt161.2.2.1 bt161.2.2.2.1 bt161.2.2.2.2.1 bt161.2.2.2.2.2.1 bt161.2.2.2.2.2.2).bind fun bt174 => ((laws_eqIntS.f k bt174.1 x4).bind fun t178 => (if t178 = true then (laws_FnExactMistakesIn.j2 k bt158.2 bt158.1 (bt174.2 != x5)) else (laws_FnExactMistakesIn.j2 k bt158.2 bt158.1 true))))) else (some false)))))
def laws_FnExactMistakesIn.j2 : Nat → List Int → Int → Bool → Option (Bool)
  | 0, _, _, _ => none
  | k + 1, x7, x10, x87 => if x87 = true then (some false) else ((laws_heldIntS.f k x7 1).bind fun t179 => (if t179 < 0 then (some false) else (if t179 = x10 then (some true) else (some false))))
end
def laws_FnExactMistakesIn.f (k : Nat) (a0_0 : Int) (a0_1 : Int) (l0_2 : List Int) (l0_3 : List Int) (a0_4 : Int) (l0_5 : List (S106)) (a0_6 : Bool) : Option (Bool) := (laws_szWeaving.f a0_0 a0_1 l0_2 l0_3 a0_4 l0_5 a0_6 1048576).bind fun t102 => (if t102 < 0 then (some true) else ((laws_toWeaving.f k a0_0 a0_1 l0_2 l0_3 a0_4 l0_5 a0_6).bind fun bt103 => ((spec_MistakesIn.f k bt103.1 bt103.2.1 bt103.2.2.1 bt103.2.2.2.1 bt103.2.2.2.2.1 bt103.2.2.2.2.2.1 bt103.2.2.2.2.2.2).bind fun bt116 => ((laws_toWeaving.f k a0_0 a0_1 l0_2 l0_3 a0_4 l0_5 a0_6).bind fun bt120 => ((impl_MistakesIn.f k bt120.1 bt120.2.1 bt120.2.2.1 bt120.2.2.2.1 bt120.2.2.2.2.1 bt120.2.2.2.2.2.1 bt120.2.2.2.2.2.2).bind fun bt134 => ((laws_eqIntS.f k bt134.1 bt116.1).bind fun t138 => (if t138 = true then (laws_FnExactMistakesIn.j0 k bt116.1 bt116.2 bt134.1 bt134.2 (bt134.2 != bt116.2) a0_0 a0_1 l0_2 l0_3 a0_4 l0_5 a0_6 bt120.1 bt120.2.1 bt120.2.2.1 bt120.2.2.2.1 bt120.2.2.2.2.1 bt120.2.2.2.2.2.1 bt120.2.2.2.2.2.2) else (laws_FnExactMistakesIn.j0 k bt116.1 bt116.2 bt134.1 bt134.2 true a0_0 a0_1 l0_2 l0_3 a0_4 l0_5 a0_6 bt120.1 bt120.2.1 bt120.2.2.1 bt120.2.2.2.1 bt120.2.2.2.2.1 bt120.2.2.2.2.2.1 bt120.2.2.2.2.2.2))))))))
theorem laws_FnExactMistakesIn.mono_l : ∀ k, (∀ y0 y1 y2 y3 y4 y5 y6 y7 y8 y9 y10 y11 y12 y13 y14 y15 y16 y17 y18, LeO (laws_FnExactMistakesIn.j0 k y0 y1 y2 y3 y4 y5 y6 y7 y8 y9 y10 y11 y12 y13 y14 y15 y16 y17 y18) (laws_FnExactMistakesIn.j0 (k + 1) y0 y1 y2 y3 y4 y5 y6 y7 y8 y9 y10 y11 y12 y13 y14 y15 y16 y17 y18)) ∧ (∀ y0 y1 y2 y3 y4 y5 y6 y7 y8 y9 y10, LeO (laws_FnExactMistakesIn.j1 k y0 y1 y2 y3 y4 y5 y6 y7 y8 y9 y10) (laws_FnExactMistakesIn.j1 (k + 1) y0 y1 y2 y3 y4 y5 y6 y7 y8 y9 y10)) ∧ (∀ y0 y1 y2, LeO (laws_FnExactMistakesIn.j2 k y0 y1 y2) (laws_FnExactMistakesIn.j2 (k + 1) y0 y1 y2))
  | 0 => ⟨fun _ _ _ _ _ _ _ _ _ _ _ _ _ _ _ _ _ _ _ r h => by simp [laws_FnExactMistakesIn.j0] at h, fun _ _ _ _ _ _ _ _ _ _ _ r h => by simp [laws_FnExactMistakesIn.j1] at h, fun _ _ _ r h => by simp [laws_FnExactMistakesIn.j2] at h⟩
  | k + 1 => by
    obtain ⟨ih0, ih1, ih2⟩ := laws_FnExactMistakesIn.mono_l k
    refine ⟨?_, ?_, ?_⟩
    · intro y0 y1 y2 y3 y4 y5 y6 y7 y8 y9 y10 y11 y12 y13 y14 y15 y16 y17 y18
      unfold laws_FnExactMistakesIn.j0
      repeat' first
      | (with_reducible exact ih0 _ _ _ _ _ _ _ _ _ _ _ _ _ _ _ _ _ _ _)
      | (with_reducible exact ih1 _ _ _ _ _ _ _ _ _ _ _)
      | (with_reducible exact ih2 _ _ _)
      | (with_reducible exact impl_MistakesIn.mono _ _ _ _ _ _ _ _)
      | (with_reducible exact laws_eqIntS.mono _ _ _)
      | (with_reducible exact laws_eqWeaving.mono _ _ _ _ _ _ _ _ _ _ _ _ _ _ _)
      | (with_reducible exact laws_heldIntS.mono _ _ _)
      | (with_reducible exact laws_markIntS.mono _ _ _)
      | (with_reducible exact laws_markWeaving.mono _ _ _ _ _ _ _ _ _)
      | (with_reducible exact laws_toWeaving.mono _ _ _ _ _ _ _ _)
      | (with_reducible exact spec_MistakesIn.mono _ _ _ _ _ _ _ _)
      | (with_reducible exact LeO.refl _)
      | (with_reducible exact LeO.none _)
      | (with_reducible refine LeO.ite ?_ ?_)
      | (with_reducible refine LeO.bind ?_ (fun _ => ?_))
      | exact ih0 _ _ _ _ _ _ _ _ _ _ _ _ _ _ _ _ _ _ _
      | exact ih1 _ _ _ _ _ _ _ _ _ _ _
      | exact ih2 _ _ _
      | exact impl_MistakesIn.mono _ _ _ _ _ _ _ _
      | exact laws_eqIntS.mono _ _ _
      | exact laws_eqWeaving.mono _ _ _ _ _ _ _ _ _ _ _ _ _ _ _
      | exact laws_heldIntS.mono _ _ _
      | exact laws_markIntS.mono _ _ _
      | exact laws_markWeaving.mono _ _ _ _ _ _ _ _ _
      | exact laws_toWeaving.mono _ _ _ _ _ _ _ _
      | exact spec_MistakesIn.mono _ _ _ _ _ _ _ _
      | exact LeO.none _
      | refine LeO.ite ?_ ?_
      | refine LeO.bind ?_ (fun _ => ?_)
    · intro y0 y1 y2 y3 y4 y5 y6 y7 y8 y9 y10
      unfold laws_FnExactMistakesIn.j1
      repeat' first
      | (with_reducible exact ih0 _ _ _ _ _ _ _ _ _ _ _ _ _ _ _ _ _ _ _)
      | (with_reducible exact ih1 _ _ _ _ _ _ _ _ _ _ _)
      | (with_reducible exact ih2 _ _ _)
      | (with_reducible exact impl_MistakesIn.mono _ _ _ _ _ _ _ _)
      | (with_reducible exact laws_eqIntS.mono _ _ _)
      | (with_reducible exact laws_eqWeaving.mono _ _ _ _ _ _ _ _ _ _ _ _ _ _ _)
      | (with_reducible exact laws_heldIntS.mono _ _ _)
      | (with_reducible exact laws_markIntS.mono _ _ _)
      | (with_reducible exact laws_markWeaving.mono _ _ _ _ _ _ _ _ _)
      | (with_reducible exact laws_toWeaving.mono _ _ _ _ _ _ _ _)
      | (with_reducible exact spec_MistakesIn.mono _ _ _ _ _ _ _ _)
      | (with_reducible exact LeO.refl _)
      | (with_reducible exact LeO.none _)
      | (with_reducible refine LeO.ite ?_ ?_)
      | (with_reducible refine LeO.bind ?_ (fun _ => ?_))
      | exact ih0 _ _ _ _ _ _ _ _ _ _ _ _ _ _ _ _ _ _ _
      | exact ih1 _ _ _ _ _ _ _ _ _ _ _
      | exact ih2 _ _ _
      | exact impl_MistakesIn.mono _ _ _ _ _ _ _ _
      | exact laws_eqIntS.mono _ _ _
      | exact laws_eqWeaving.mono _ _ _ _ _ _ _ _ _ _ _ _ _ _ _
      | exact laws_heldIntS.mono _ _ _
      | exact laws_markIntS.mono _ _ _
      | exact laws_markWeaving.mono _ _ _ _ _ _ _ _ _
      | exact laws_toWeaving.mono _ _ _ _ _ _ _ _
      | exact spec_MistakesIn.mono _ _ _ _ _ _ _ _
      | exact LeO.none _
      | refine LeO.ite ?_ ?_
      | refine LeO.bind ?_ (fun _ => ?_)
    · intro y0 y1 y2
      unfold laws_FnExactMistakesIn.j2
      repeat' first
      | (with_reducible exact ih0 _ _ _ _ _ _ _ _ _ _ _ _ _ _ _ _ _ _ _)
      | (with_reducible exact ih1 _ _ _ _ _ _ _ _ _ _ _)
      | (with_reducible exact ih2 _ _ _)
      | (with_reducible exact impl_MistakesIn.mono _ _ _ _ _ _ _ _)
      | (with_reducible exact laws_eqIntS.mono _ _ _)
      | (with_reducible exact laws_eqWeaving.mono _ _ _ _ _ _ _ _ _ _ _ _ _ _ _)
      | (with_reducible exact laws_heldIntS.mono _ _ _)
      | (with_reducible exact laws_markIntS.mono _ _ _)
      | (with_reducible exact laws_markWeaving.mono _ _ _ _ _ _ _ _ _)
      | (with_reducible exact laws_toWeaving.mono _ _ _ _ _ _ _ _)
      | (with_reducible exact spec_MistakesIn.mono _ _ _ _ _ _ _ _)
      | (with_reducible exact LeO.refl _)
      | (with_reducible exact LeO.none _)
      | (with_reducible refine LeO.ite ?_ ?_)
      | (with_reducible refine LeO.bind ?_ (fun _ => ?_))
      | exact ih0 _ _ _ _ _ _ _ _ _ _ _ _ _ _ _ _ _ _ _
      | exact ih1 _ _ _ _ _ _ _ _ _ _ _
      | exact ih2 _ _ _
      | exact impl_MistakesIn.mono _ _ _ _ _ _ _ _
      | exact laws_eqIntS.mono _ _ _
      | exact laws_eqWeaving.mono _ _ _ _ _ _ _ _ _ _ _ _ _ _ _
      | exact laws_heldIntS.mono _ _ _
      | exact laws_markIntS.mono _ _ _
      | exact laws_markWeaving.mono _ _ _ _ _ _ _ _ _
      | exact laws_toWeaving.mono _ _ _ _ _ _ _ _
      | exact spec_MistakesIn.mono _ _ _ _ _ _ _ _
      | exact LeO.none _
      | refine LeO.ite ?_ ?_
      | refine LeO.bind ?_ (fun _ => ?_)
theorem laws_FnExactMistakesIn.mono : ∀ a0 a1 a2 a3 a4 a5 a6 k, LeO (laws_FnExactMistakesIn.f k a0 a1 a2 a3 a4 a5 a6) (laws_FnExactMistakesIn.f (k + 1) a0 a1 a2 a3 a4 a5 a6) := by
  intro a0 a1 a2 a3 a4 a5 a6 k
  obtain ⟨ih0, ih1, ih2⟩ := laws_FnExactMistakesIn.mono_l k
  unfold laws_FnExactMistakesIn.f
  repeat' first
      | (with_reducible exact ih0 _ _ _ _ _ _ _ _ _ _ _ _ _ _ _ _ _ _ _)
      | (with_reducible exact ih1 _ _ _ _ _ _ _ _ _ _ _)
      | (with_reducible exact ih2 _ _ _)
      | (with_reducible exact impl_MistakesIn.mono _ _ _ _ _ _ _ _)
      | (with_reducible exact laws_eqIntS.mono _ _ _)
      | (with_reducible exact laws_eqWeaving.mono _ _ _ _ _ _ _ _ _ _ _ _ _ _ _)
      | (with_reducible exact laws_heldIntS.mono _ _ _)
      | (with_reducible exact laws_markIntS.mono _ _ _)
      | (with_reducible exact laws_markWeaving.mono _ _ _ _ _ _ _ _ _)
      | (with_reducible exact laws_toWeaving.mono _ _ _ _ _ _ _ _)
      | (with_reducible exact spec_MistakesIn.mono _ _ _ _ _ _ _ _)
      | (with_reducible exact LeO.refl _)
      | (with_reducible exact LeO.none _)
      | (with_reducible refine LeO.ite ?_ ?_)
      | (with_reducible refine LeO.bind ?_ (fun _ => ?_))
      | exact ih0 _ _ _ _ _ _ _ _ _ _ _ _ _ _ _ _ _ _ _
      | exact ih1 _ _ _ _ _ _ _ _ _ _ _
      | exact ih2 _ _ _
      | exact impl_MistakesIn.mono _ _ _ _ _ _ _ _
      | exact laws_eqIntS.mono _ _ _
      | exact laws_eqWeaving.mono _ _ _ _ _ _ _ _ _ _ _ _ _ _ _
      | exact laws_heldIntS.mono _ _ _
      | exact laws_markIntS.mono _ _ _
      | exact laws_markWeaving.mono _ _ _ _ _ _ _ _ _
      | exact laws_toWeaving.mono _ _ _ _ _ _ _ _
      | exact spec_MistakesIn.mono _ _ _ _ _ _ _ _
      | exact LeO.none _
      | refine LeO.ite ?_ ?_
      | refine LeO.bind ?_ (fun _ => ?_)
set_option maxHeartbeats 8000000 in
set_option maxRecDepth 100000 in
theorem laws_FnExactMistakesIn.calls (k : Nat) (a0_0 : Int) (a0_1 : Int) (A0_2 : Option Addr) (c0_2 : Nat) (l0_2 : List Int) (A0_3 : Option Addr) (c0_3 : Nat) (l0_3 : List Int) (a0_4 : Int) (A0_5 : Option Addr) (c0_5 : Nat) (l0_5 : List (S106)) (a0_6 : Bool) (r : Bool) (w : World) (hr0_2 : Kd.C (Kd.int .i64) w A0_2 l0_2.length l0_2) (hc0_2 : l0_2.length ≤ c0_2) (hr0_3 : Kd.C (Kd.int .i64) w A0_3 l0_3.length l0_3) (hc0_3 : l0_3.length ≤ c0_3) (hr0_5 : Kd.C k106 w A0_5 l0_5.length l0_5) (hc0_5 : l0_5.length ≤ c0_5) (ht : r = true) (h : laws_FnExactMistakesIn.f k a0_0 a0_1 l0_2 l0_3 a0_4 l0_5 a0_6 = some r) :
    Calls Try.prog 12 #[.agg #[.int .i64 a0_0, .int .i64 a0_1, .slice A0_2 l0_2.length c0_2, .slice A0_3 l0_3.length c0_3, .int .i64 a0_4, .slice A0_5 l0_5.length c0_5, .bool a0_6]] w fun e w' => e = .returned (.bool r) ∧ Below w.heap.size w w' := by
  have hu54 := Try.underlying54
  have hu59 := Try.underlying59
  have HR0_2 := Aside0.mk hr0_2
  have HC0_2 := Aside0.mk hc0_2
  clear hr0_2 hc0_2
  have HR0_3 := Aside0.mk hr0_3
  have HC0_3 := Aside0.mk hc0_3
  clear hr0_3 hc0_3
  have HR0_5 := Aside0.mk hr0_5
  have HC0_5 := Aside0.mk hc0_5
  clear hr0_5 hc0_5
  have HB := Aside0.mk (Below.refl w.heap.size w)
  have HT := Aside0.mk ht
  clear ht
  have H : ((laws_szWeaving.f a0_0 a0_1 l0_2 l0_3 a0_4 l0_5 a0_6 1048576).bind fun t102 => (if t102 < 0 then (some true) else ((laws_toWeaving.f k a0_0 a0_1 l0_2 l0_3 a0_4 l0_5 a0_6).bind fun bt103 => ((spec_MistakesIn.f k bt103.1 bt103.2.1 bt103.2.2.1 bt103.2.2.2.1 bt103.2.2.2.2.1 bt103.2.2.2.2.2.1 bt103.2.2.2.2.2.2).bind fun bt116 => ((laws_toWeaving.f k a0_0 a0_1 l0_2 l0_3 a0_4 l0_5 a0_6).bind fun bt120 => ((impl_MistakesIn.f k bt120.1 bt120.2.1 bt120.2.2.1 bt120.2.2.2.1 bt120.2.2.2.2.1 bt120.2.2.2.2.2.1 bt120.2.2.2.2.2.2).bind fun bt134 => ((laws_eqIntS.f k bt134.1 bt116.1).bind fun t138 => (if t138 = true then (laws_FnExactMistakesIn.j0 k bt116.1 bt116.2 bt134.1 bt134.2 (bt134.2 != bt116.2) a0_0 a0_1 l0_2 l0_3 a0_4 l0_5 a0_6 bt120.1 bt120.2.1 bt120.2.2.1 bt120.2.2.2.1 bt120.2.2.2.2.1 bt120.2.2.2.2.2.1 bt120.2.2.2.2.2.2) else (laws_FnExactMistakesIn.j0 k bt116.1 bt116.2 bt134.1 bt134.2 true a0_0 a0_1 l0_2 l0_3 a0_4 l0_5 a0_6 bt120.1 bt120.2.1 bt120.2.2.1 bt120.2.2.2.1 bt120.2.2.2.2.1 bt120.2.2.2.2.2.1 bt120.2.2.2.2.2.2))))))))) = some r := h
  clear h
  replace H := Option.bind_eq_some_iff.mp H
  obtain ⟨t102, A20, H⟩ := H
  replace H : (if t102 < 0 then (some true) else ((laws_toWeaving.f k a0_0 a0_1 l0_2 l0_3 a0_4 l0_5 a0_6).bind fun bt103 => ((spec_MistakesIn.f k bt103.1 bt103.2.1 bt103.2.2.1 bt103.2.2.2.1 bt103.2.2.2.2.1 bt103.2.2.2.2.2.1 bt103.2.2.2.2.2.2).bind fun bt116 => ((laws_toWeaving.f k a0_0 a0_1 l0_2 l0_3 a0_4 l0_5 a0_6).bind fun bt120 => ((impl_MistakesIn.f k bt120.1 bt120.2.1 bt120.2.2.1 bt120.2.2.2.1 bt120.2.2.2.2.1 bt120.2.2.2.2.2.1 bt120.2.2.2.2.2.2).bind fun bt134 => ((laws_eqIntS.f k bt134.1 bt116.1).bind fun t138 => (if t138 = true then (laws_FnExactMistakesIn.j0 k bt116.1 bt116.2 bt134.1 bt134.2 (bt134.2 != bt116.2) a0_0 a0_1 l0_2 l0_3 a0_4 l0_5 a0_6 bt120.1 bt120.2.1 bt120.2.2.1 bt120.2.2.2.1 bt120.2.2.2.2.1 bt120.2.2.2.2.2.1 bt120.2.2.2.2.2.2) else (laws_FnExactMistakesIn.j0 k bt116.1 bt116.2 bt134.1 bt134.2 true a0_0 a0_1 l0_2 l0_3 a0_4 l0_5 a0_6 bt120.1 bt120.2.1 bt120.2.2.1 bt120.2.2.2.1 bt120.2.2.2.2.1 bt120.2.2.2.2.2.1 bt120.2.2.2.2.2.2)))))))) = some r := H
  have A2 := Aside0.mk A20
  clear A20
  by_cases c3 : t102 < 0
  · rw [if_pos c3] at H
    have c3b0 : decide (t102 < 0) = true := decide_eq_true c3
    clear c3
    as_aux_lemma =>
      obtain rfl := Option.some.inj H
      go_enter Try.func12, Try.ntmps12
      go_wp2_with (first | ((with_reducible refine gate_dst (N := 1) rfl ?_); refine box_event ?hg (N := 1) ?hd (cs := #[.int .i64 a0_0, .int .i64 a0_1, .slice A0_2 l0_2.length c0_2, .slice A0_3 l0_3.length c0_3, .int .i64 a0_4, .slice A0_5 l0_5.length c0_5, .bool a0_6]) (t := 54) ?hr ?_; (case hd => rfl); (case hg => rfl); (case hr => first | (go_simp; done) | (go_simp; rfl)); intro gb101 hg w4 hbox hb; have n0_ := Aside0.mk (below_step (by exact eS HB.out) hb); have n1_ := Aside0.mk (hbox); have n2_ := Aside0.mk ((by rw [hg]; exact (below_size (by exact eS HB.out)) : w.heap.size ≤ gb101)); have n3_ := Aside0.mk ((by rw [hg]; exact (below_size (by exact eS HB.out)) : w.heap.size ≤ gb101)); clear HB; have HB := n0_; have BK101 := n1_; have GW101 := n2_; have GE101 := n3_; clear n0_ n1_ n2_ n3_; clear hb hbox hg; have hcz5_0 : w4.cell? ⟨gb101, 0, none⟩ = some (.int .i64 a0_0) := (blk_cell BK101.out 0).trans rfl; have hcz5_1 : w4.cell? ⟨gb101, 1, none⟩ = some (.int .i64 a0_1) := (blk_cell BK101.out 1).trans rfl; have hcz5_2 : w4.cell? ⟨gb101, 2, none⟩ = some (.slice A0_2 l0_2.length c0_2) := (blk_cell BK101.out 2).trans rfl; have hcz5_3 : w4.cell? ⟨gb101, 3, none⟩ = some (.slice A0_3 l0_3.length c0_3) := (blk_cell BK101.out 3).trans rfl; have hcz5_4 : w4.cell? ⟨gb101, 4, none⟩ = some (.int .i64 a0_4) := (blk_cell BK101.out 4).trans rfl; have hcz5_5 : w4.cell? ⟨gb101, 5, none⟩ = some (.slice A0_5 l0_5.length c0_5) := (blk_cell BK101.out 5).trans rfl; have hcz5_6 : w4.cell? ⟨gb101, 6, none⟩ = some (.bool a0_6) := (blk_cell BK101.out 6).trans rfl; have hfz5_0 := blk_frozen BK101.out 0; have hfz5_1 := blk_frozen BK101.out 1; have hfz5_2 := blk_frozen BK101.out 2; have hfz5_3 := blk_frozen BK101.out 3; have hfz5_4 := blk_frozen BK101.out 4; have hfz5_5 := blk_frozen BK101.out 5; have hfz5_6 := blk_frozen BK101.out 6) | ((with_reducible refine gate_callee (f := 38) rfl ?_); refine goesL_ (some 16) rfl rfl Try.func38 (by kernel_rfl) rfl #[.agg #[.int .i64 a0_0, .int .i64 a0_1, .slice A0_2 l0_2.length c0_2, .slice A0_3 l0_3.length c0_3, .int .i64 a0_4, .slice A0_5 l0_5.length c0_5, .bool a0_6], .int .i64 1048576] rfl (by (try simp only [List.map_toArray, List.map_cons, List.map_nil]); first | done | rfl | (simp only [List.length_drop, List.length_take]; rfl)) ?_; (with_reducible refine (laws_szWeaving.calls a0_0 a0_1 _ _ l0_2 _ _ l0_3 a0_4 _ _ l0_5 a0_6 1048576 t102 _ ?side1 ?side2 ?side3 ?side4 ?side5 ?side6 A2.out).mono ?_); (case side1 => repeat (first | exact (Kd.C_below HR0_2.out HB.out) | (with_reducible refine Kd.C_alloc ?_ _) | (with_reducible refine Kd.C_drewN ?_ _) | (with_reducible refine Kd.C_drew ?_))); (case side2 => exact HC0_2.out); (case side3 => repeat (first | exact (Kd.C_below HR0_3.out HB.out) | (with_reducible refine Kd.C_alloc ?_ _) | (with_reducible refine Kd.C_drewN ?_ _) | (with_reducible refine Kd.C_drew ?_))); (case side4 => exact HC0_3.out); (case side5 => repeat (first | exact (Kd.C_below HR0_5.out HB.out) | (with_reducible refine Kd.C_alloc ?_ _) | (with_reducible refine Kd.C_drewN ?_ _) | (with_reducible refine Kd.C_drew ?_))); (case side6 => exact HC0_5.out); rintro e w6 ⟨rfl, hb⟩; refine ⟨_, rfl, ?_⟩; have n0_ := Aside0.mk (blk_below (bS BK101.out) hb); have n1_ := Aside0.mk (below_step (by exact eS HB.out) hb); clear BK101; clear HB; have BK101 := n0_; have HB := n1_; clear n0_ n1_; (try clear hb); (try clear hb2); (try clear hk); (try clear hi)))
      go_ret
      exact ⟨by first | rfl | (simp [errW_none, errW_some] <;> rfl) | (simp [*, errW_none, errW_some] <;> rfl), by exact eS HB.out⟩
  · rw [if_neg c3] at H
    have c3b0 : decide (t102 < 0) = false := decide_eq_false c3
    clear c3
    replace H := Option.bind_eq_some_iff.mp H
    obtain ⟨⟨t103, t104, t105, t108, t111, t112, t115⟩, A70, H⟩ := H
    replace H : ((spec_MistakesIn.f k t103 t104 t105 t108 t111 t112 t115).bind fun bt116 => ((laws_toWeaving.f k a0_0 a0_1 l0_2 l0_3 a0_4 l0_5 a0_6).bind fun bt120 => ((impl_MistakesIn.f k bt120.1 bt120.2.1 bt120.2.2.1 bt120.2.2.2.1 bt120.2.2.2.2.1 bt120.2.2.2.2.2.1 bt120.2.2.2.2.2.2).bind fun bt134 => ((laws_eqIntS.f k bt134.1 bt116.1).bind fun t138 => (if t138 = true then (laws_FnExactMistakesIn.j0 k bt116.1 bt116.2 bt134.1 bt134.2 (bt134.2 != bt116.2) a0_0 a0_1 l0_2 l0_3 a0_4 l0_5 a0_6 bt120.1 bt120.2.1 bt120.2.2.1 bt120.2.2.2.1 bt120.2.2.2.2.1 bt120.2.2.2.2.2.1 bt120.2.2.2.2.2.2) else (laws_FnExactMistakesIn.j0 k bt116.1 bt116.2 bt134.1 bt134.2 true a0_0 a0_1 l0_2 l0_3 a0_4 l0_5 a0_6 bt120.1 bt120.2.1 bt120.2.2.1 bt120.2.2.2.1 bt120.2.2.2.2.1 bt120.2.2.2.2.2.1 bt120.2.2.2.2.2.2)))))) = some r := H
    have A7 := Aside0.mk A70
    clear A70
    replace H := Option.bind_eq_some_iff.mp H
    obtain ⟨⟨t116, t119⟩, A80, H⟩ := H
    replace H : ((laws_toWeaving.f k a0_0 a0_1 l0_2 l0_3 a0_4 l0_5 a0_6).bind fun bt120 => ((impl_MistakesIn.f k bt120.1 bt120.2.1 bt120.2.2.1 bt120.2.2.2.1 bt120.2.2.2.2.1 bt120.2.2.2.2.2.1 bt120.2.2.2.2.2.2).bind fun bt134 => ((laws_eqIntS.f k bt134.1 t116).bind fun t138 => (if t138 = true then (laws_FnExactMistakesIn.j0 k t116 t119 bt134.1 bt134.2 (bt134.2 != t119) a0_0 a0_1 l0_2 l0_3 a0_4 l0_5 a0_6 bt120.1 bt120.2.1 bt120.2.2.1 bt120.2.2.2.1 bt120.2.2.2.2.1 bt120.2.2.2.2.2.1 bt120.2.2.2.2.2.2) else (laws_FnExactMistakesIn.j0 k t116 t119 bt134.1 bt134.2 true a0_0 a0_1 l0_2 l0_3 a0_4 l0_5 a0_6 bt120.1 bt120.2.1 bt120.2.2.1 bt120.2.2.2.1 bt120.2.2.2.2.1 bt120.2.2.2.2.2.1 bt120.2.2.2.2.2.2))))) = some r := H
    have A8 := Aside0.mk A80
    clear A80
    replace H := Option.bind_eq_some_iff.mp H
    obtain ⟨⟨t120, t121, t122, t125, t128, t129, t132⟩, A90, H⟩ := H
    replace H : ((impl_MistakesIn.f k t120 t121 t122 t125 t128 t129 t132).bind fun bt134 => ((laws_eqIntS.f k bt134.1 t116).bind fun t138 => (if t138 = true then (laws_FnExactMistakesIn.j0 k t116 t119 bt134.1 bt134.2 (bt134.2 != t119) a0_0 a0_1 l0_2 l0_3 a0_4 l0_5 a0_6 t120 t121 t122 t125 t128 t129 t132) else (laws_FnExactMistakesIn.j0 k t116 t119 bt134.1 bt134.2 true a0_0 a0_1 l0_2 l0_3 a0_4 l0_5 a0_6 t120 t121 t122 t125 t128 t129 t132)))) = some r := H
    have A9 := Aside0.mk A90
    clear A90
    replace H := Option.bind_eq_some_iff.mp H
    obtain ⟨⟨t134, t137⟩, A100, H⟩ := H
    replace H : ((laws_eqIntS.f k t134 t116).bind fun t138 => (if t138 = true then (laws_FnExactMistakesIn.j0 k t116 t119 t134 t137 (t137 != t119) a0_0 a0_1 l0_2 l0_3 a0_4 l0_5 a0_6 t120 t121 t122 t125 t128 t129 t132) else (laws_FnExactMistakesIn.j0 k t116 t119 t134 t137 true a0_0 a0_1 l0_2 l0_3 a0_4 l0_5 a0_6 t120 t121 t122 t125 t128 t129 t132))) = some r := H
    have A10 := Aside0.mk A100
    clear A100
    have HC11 := Aside0.mk H
    clear H
    go_enter Try.func12, Try.ntmps12
    go_upto_region 8 with (first | ((with_reducible refine gate_dst (N := 1) rfl ?_); refine box_event ?hg (N := 1) ?hd (cs := #[.int .i64 a0_0, .int .i64 a0_1, .slice A0_2 l0_2.length c0_2, .slice A0_3 l0_3.length c0_3, .int .i64 a0_4, .slice A0_5 l0_5.length c0_5, .bool a0_6]) (t := 54) ?hr ?_; (case hd => rfl); (case hg => rfl); (case hr => first | (go_simp; done) | (go_simp; rfl)); intro gb101 hg w12 hbox hb; have n0_ := Aside0.mk (below_step (by exact eS HB.out) hb); have n1_ := Aside0.mk (hbox); have n2_ := Aside0.mk ((by rw [hg]; exact (below_size (by exact eS HB.out)) : w.heap.size ≤ gb101)); have n3_ := Aside0.mk ((by rw [hg]; exact (below_size (by exact eS HB.out)) : w.heap.size ≤ gb101)); clear HB; have HB := n0_; have BK101 := n1_; have GW101 := n2_; have GE101 := n3_; clear n0_ n1_ n2_ n3_; clear hb hbox hg; have hcz13_0 : w12.cell? ⟨gb101, 0, none⟩ = some (.int .i64 a0_0) := (blk_cell BK101.out 0).trans rfl; have hcz13_1 : w12.cell? ⟨gb101, 1, none⟩ = some (.int .i64 a0_1) := (blk_cell BK101.out 1).trans rfl; have hcz13_2 : w12.cell? ⟨gb101, 2, none⟩ = some (.slice A0_2 l0_2.length c0_2) := (blk_cell BK101.out 2).trans rfl; have hcz13_3 : w12.cell? ⟨gb101, 3, none⟩ = some (.slice A0_3 l0_3.length c0_3) := (blk_cell BK101.out 3).trans rfl; have hcz13_4 : w12.cell? ⟨gb101, 4, none⟩ = some (.int .i64 a0_4) := (blk_cell BK101.out 4).trans rfl; have hcz13_5 : w12.cell? ⟨gb101, 5, none⟩ = some (.slice A0_5 l0_5.length c0_5) := (blk_cell BK101.out 5).trans rfl; have hcz13_6 : w12.cell? ⟨gb101, 6, none⟩ = some (.bool a0_6) := (blk_cell BK101.out 6).trans rfl; have hfz13_0 := blk_frozen BK101.out 0; have hfz13_1 := blk_frozen BK101.out 1; have hfz13_2 := blk_frozen BK101.out 2; have hfz13_3 := blk_frozen BK101.out 3; have hfz13_4 := blk_frozen BK101.out 4; have hfz13_5 := blk_frozen BK101.out 5; have hfz13_6 := blk_frozen BK101.out 6) | ((with_reducible refine gate_callee (f := 38) rfl ?_); refine goesL_ (some 16) rfl rfl Try.func38 (by kernel_rfl) rfl #[.agg #[.int .i64 a0_0, .int .i64 a0_1, .slice A0_2 l0_2.length c0_2, .slice A0_3 l0_3.length c0_3, .int .i64 a0_4, .slice A0_5 l0_5.length c0_5, .bool a0_6], .int .i64 1048576] rfl (by (try simp only [List.map_toArray, List.map_cons, List.map_nil]); first | done | rfl | (simp only [List.length_drop, List.length_take]; rfl)) ?_; (with_reducible refine (laws_szWeaving.calls a0_0 a0_1 _ _ l0_2 _ _ l0_3 a0_4 _ _ l0_5 a0_6 1048576 t102 _ ?side1 ?side2 ?side3 ?side4 ?side5 ?side6 A2.out).mono ?_); (case side1 => repeat (first | exact (Kd.C_below HR0_2.out HB.out) | (with_reducible refine Kd.C_alloc ?_ _) | (with_reducible refine Kd.C_drewN ?_ _) | (with_reducible refine Kd.C_drew ?_))); (case side2 => exact HC0_2.out); (case side3 => repeat (first | exact (Kd.C_below HR0_3.out HB.out) | (with_reducible refine Kd.C_alloc ?_ _) | (with_reducible refine Kd.C_drewN ?_ _) | (with_reducible refine Kd.C_drew ?_))); (case side4 => exact HC0_3.out); (case side5 => repeat (first | exact (Kd.C_below HR0_5.out HB.out) | (with_reducible refine Kd.C_alloc ?_ _) | (with_reducible refine Kd.C_drewN ?_ _) | (with_reducible refine Kd.C_drew ?_))); (case side6 => exact HC0_5.out); rintro e w14 ⟨rfl, hb⟩; refine ⟨_, rfl, ?_⟩; have n0_ := Aside0.mk (blk_below (bS BK101.out) hb); have n1_ := Aside0.mk (below_step (by exact eS HB.out) hb); clear BK101; clear HB; have BK101 := n0_; have HB := n1_; clear n0_ n1_; (try clear hb); (try clear hb2); (try clear hk); (try clear hi); have hcz15_0 : w14.cell? ⟨gb101, 0, none⟩ = some (.int .i64 a0_0) := (blk_cell BK101.out 0).trans rfl; have hcz15_1 : w14.cell? ⟨gb101, 1, none⟩ = some (.int .i64 a0_1) := (blk_cell BK101.out 1).trans rfl; have hcz15_2 : w14.cell? ⟨gb101, 2, none⟩ = some (.slice A0_2 l0_2.length c0_2) := (blk_cell BK101.out 2).trans rfl; have hcz15_3 : w14.cell? ⟨gb101, 3, none⟩ = some (.slice A0_3 l0_3.length c0_3) := (blk_cell BK101.out 3).trans rfl; have hcz15_4 : w14.cell? ⟨gb101, 4, none⟩ = some (.int .i64 a0_4) := (blk_cell BK101.out 4).trans rfl; have hcz15_5 : w14.cell? ⟨gb101, 5, none⟩ = some (.slice A0_5 l0_5.length c0_5) := (blk_cell BK101.out 5).trans rfl; have hcz15_6 : w14.cell? ⟨gb101, 6, none⟩ = some (.bool a0_6) := (blk_cell BK101.out 6).trans rfl; have hfz15_0 := blk_frozen BK101.out 0; have hfz15_1 := blk_frozen BK101.out 1; have hfz15_2 := blk_frozen BK101.out 2; have hfz15_3 := blk_frozen BK101.out 3; have hfz15_4 := blk_frozen BK101.out 4; have hfz15_5 := blk_frozen BK101.out 5; have hfz15_6 := blk_frozen BK101.out 6) | ((with_reducible refine gate_callee (f := 40) rfl ?_); refine goesL_ (some 21) rfl rfl Try.func40 (by kernel_rfl) rfl #[.agg #[.int .i64 a0_0, .int .i64 a0_1, .slice A0_2 l0_2.length c0_2, .slice A0_3 l0_3.length c0_3, .int .i64 a0_4, .slice A0_5 l0_5.length c0_5, .bool a0_6]] rfl (by (try simp only [List.map_toArray, List.map_cons, List.map_nil]); first | done | rfl | (simp only [List.length_drop, List.length_take]; rfl)) ?_; (with_reducible refine (laws_toWeaving.calls k a0_0 a0_1 _ _ l0_2 _ _ l0_3 a0_4 _ _ l0_5 a0_6 t103 t104 t105 t108 t111 t112 t115 _ ?side1 ?side2 ?side3 ?side4 ?side5 ?side6 A7.out).mono ?_); (case side1 => repeat (first | exact (Kd.C_below HR0_2.out HB.out) | (with_reducible refine Kd.C_alloc ?_ _) | (with_reducible refine Kd.C_drewN ?_ _) | (with_reducible refine Kd.C_drew ?_))); (case side2 => exact HC0_2.out); (case side3 => repeat (first | exact (Kd.C_below HR0_3.out HB.out) | (with_reducible refine Kd.C_alloc ?_ _) | (with_reducible refine Kd.C_drewN ?_ _) | (with_reducible refine Kd.C_drew ?_))); (case side4 => exact HC0_3.out); (case side5 => repeat (first | exact (Kd.C_below HR0_5.out HB.out) | (with_reducible refine Kd.C_alloc ?_ _) | (with_reducible refine Kd.C_drewN ?_ _) | (with_reducible refine Kd.C_drew ?_))); (case side6 => exact HC0_5.out); rintro e w16 ⟨v106, v109, v113, rfl, ho0, ho1, ho2, hb⟩; refine ⟨_, rfl, ?_⟩; have n0_ := Aside0.mk (Kd.R_lower ho0 (below_size (by exact eS HB.out))); have n1_ := Aside0.mk (Kd.R_lower ho1 (below_size (by exact eS HB.out))); have n2_ := Aside0.mk (Kd.R_lower ho2 (below_size (by exact eS HB.out))); have n3_ := Aside0.mk (blk_below (bS BK101.out) hb); have n4_ := Aside0.mk (below_step (by exact eS HB.out) hb); clear BK101; clear HB; have HO107 := n0_; have HO110 := n1_; have HO114 := n2_; have BK101 := n3_; have HB := n4_; clear n0_ n1_ n2_ n3_ n4_; (try clear hb); (try clear hb2); (try clear hk); (try clear hi); (try clear ho0); (try clear ho1); (try clear ho2); obtain ⟨Ao17, co17, eo17⟩ := Kd.R_slice HO107.out; subst eo17; obtain ⟨Ao18, co18, eo18⟩ := Kd.R_slice HO110.out; subst eo18; obtain ⟨Ao19, co19, eo19⟩ := Kd.R_slice HO114.out; subst eo19) | ((with_reducible refine gate_callee (f := 47) rfl ?_); refine goesL_ (some 22) rfl rfl Try.func47 (by kernel_rfl) rfl #[.agg #[.int .i64 t103, .int .i64 t104, .slice Ao17 t105.length co17, .slice Ao18 t108.length co18, .int .i64 t111, .slice Ao19 t112.length co19, .bool t115]] rfl (by (try simp only [List.map_toArray, List.map_cons, List.map_nil]); first | done | rfl | (simp only [List.length_drop, List.length_take]; rfl)) ?_; (with_reducible refine (spec_MistakesIn.calls k t103 t104 _ _ t105 _ _ t108 t111 _ _ t112 t115 t116 t119 _ ?side1 ?side2 ?side3 ?side4 ?side5 ?side6 A8.out).mono ?_); (case side1 => repeat (first | exact (Kd.R_reads' HO107.out).2.2 | (with_reducible refine Kd.C_alloc ?_ _) | (with_reducible refine Kd.C_drewN ?_ _) | (with_reducible refine Kd.C_drew ?_))); (case side2 => exact (Kd.R_reads' HO107.out).2.1); (case side3 => repeat (first | exact (Kd.R_reads' HO110.out).2.2 | (with_reducible refine Kd.C_alloc ?_ _) | (with_reducible refine Kd.C_drewN ?_ _) | (with_reducible refine Kd.C_drew ?_))); (case side4 => exact (Kd.R_reads' HO110.out).2.1); (case side5 => repeat (first | exact (Kd.R_reads' HO114.out).2.2 | (with_reducible refine Kd.C_alloc ?_ _) | (with_reducible refine Kd.C_drewN ?_ _) | (with_reducible refine Kd.C_drew ?_))); (case side6 => exact (Kd.R_reads' HO114.out).2.1); rintro e w20 ⟨v117, rfl, ho0, hb⟩; refine ⟨_, rfl, ?_⟩; have n0_ := Aside0.mk (Kd.R_elder' (by exact Ho.RS <| HO107.out) (Kd.R_base ho0) hb); have n1_ := Aside0.mk (Kd.R_elder' (by exact Ho.RS <| HO110.out) (Kd.R_base ho0) hb); have n2_ := Aside0.mk (Kd.R_below (by exact Ho.RS <| HO114.out) hb); have n3_ := Aside0.mk (Kd.R_lower (Kd.R_new' (Kd.R_new' ho0 (Kd.R_lt (by exact Ho.RS <| HO107.out))) (Kd.R_lt (by exact Ho.RS <| HO110.out))) (below_size (by exact eS HB.out))); have n4_ := Aside0.mk (blk_below (bS BK101.out) hb); have n5_ := Aside0.mk (below_step (by exact eS HB.out) hb); clear HO107; clear HO110; clear HO114; clear BK101; clear HB; have HO107 := n0_; have HO110 := n1_; have HO114 := n2_; have HO118 := n3_; have BK101 := n4_; have HB := n5_; clear n0_ n1_ n2_ n3_ n4_ n5_; (try clear hb); (try clear hb2); (try clear hk); (try clear hi); (try clear ho0); have hcz21_0 : w20.cell? ⟨gb101, 0, none⟩ = some (.int .i64 a0_0) := (blk_cell BK101.out 0).trans rfl; have hcz21_1 : w20.cell? ⟨gb101, 1, none⟩ = some (.int .i64 a0_1) := (blk_cell BK101.out 1).trans rfl; have hcz21_2 : w20.cell? ⟨gb101, 2, none⟩ = some (.slice A0_2 l0_2.length c0_2) := (blk_cell BK101.out 2).trans rfl; have hcz21_3 : w20.cell? ⟨gb101, 3, none⟩ = some (.slice A0_3 l0_3.length c0_3) := (blk_cell BK101.out 3).trans rfl; have hcz21_4 : w20.cell? ⟨gb101, 4, none⟩ = some (.int .i64 a0_4) := (blk_cell BK101.out 4).trans rfl; have hcz21_5 : w20.cell? ⟨gb101, 5, none⟩ = some (.slice A0_5 l0_5.length c0_5) := (blk_cell BK101.out 5).trans rfl; have hcz21_6 : w20.cell? ⟨gb101, 6, none⟩ = some (.bool a0_6) := (blk_cell BK101.out 6).trans rfl; have hfz21_0 := blk_frozen BK101.out 0; have hfz21_1 := blk_frozen BK101.out 1; have hfz21_2 := blk_frozen BK101.out 2; have hfz21_3 := blk_frozen BK101.out 3; have hfz21_4 := blk_frozen BK101.out 4; have hfz21_5 := blk_frozen BK101.out 5; have hfz21_6 := blk_frozen BK101.out 6) | ((with_reducible refine gate_callee (f := 40) rfl ?_); refine goesL_ (some 26) rfl rfl Try.func40 (by kernel_rfl) rfl #[.agg #[.int .i64 a0_0, .int .i64 a0_1, .slice A0_2 l0_2.length c0_2, .slice A0_3 l0_3.length c0_3, .int .i64 a0_4, .slice A0_5 l0_5.length c0_5, .bool a0_6]] rfl (by (try simp only [List.map_toArray, List.map_cons, List.map_nil]); first | done | rfl | (simp only [List.length_drop, List.length_take]; rfl)) ?_; (with_reducible refine (laws_toWeaving.calls k a0_0 a0_1 _ _ l0_2 _ _ l0_3 a0_4 _ _ l0_5 a0_6 t120 t121 t122 t125 t128 t129 t132 _ ?side1 ?side2 ?side3 ?side4 ?side5 ?side6 A9.out).mono ?_); (case side1 => repeat (first | exact (Kd.C_below HR0_2.out HB.out) | (with_reducible refine Kd.C_alloc ?_ _) | (with_reducible refine Kd.C_drewN ?_ _) | (with_reducible refine Kd.C_drew ?_))); (case side2 => exact HC0_2.out); (case side3 => repeat (first | exact (Kd.C_below HR0_3.out HB.out) | (with_reducible refine Kd.C_alloc ?_ _) | (with_reducible refine Kd.C_drewN ?_ _) | (with_reducible refine Kd.C_drew ?_))); (case side4 => exact HC0_3.out); (case side5 => repeat (first | exact (Kd.C_below HR0_5.out HB.out) | (with_reducible refine Kd.C_alloc ?_ _) | (with_reducible refine Kd.C_drewN ?_ _) | (with_reducible refine Kd.C_drew ?_))); (case side6 => exact HC0_5.out); rintro e w22 ⟨v123, v126, v130, rfl, ho0, ho1, ho2, hb⟩; refine ⟨_, rfl, ?_⟩; have n0_ := Aside0.mk (Kd.R_mono (Kd.R_told (Kd.R_told (Kd.R_old (by exact Ho.RS <| HO107.out) hb) (Kd.R_base ho0)) (Kd.R_base ho1)) (fun _ h_ => h_.1)); have n1_ := Aside0.mk (Kd.R_mono (Kd.R_told (Kd.R_told (Kd.R_old (by exact Ho.RS <| HO110.out) hb) (Kd.R_base ho0)) (Kd.R_base ho1)) (fun _ h_ => h_.1)); have n2_ := Aside0.mk (Kd.R_elder' (by exact Ho.RS <| HO114.out) (Kd.R_base ho2) hb); have n3_ := Aside0.mk (Kd.R_mono (Kd.R_told (Kd.R_told (Kd.R_old (by exact Ho.RS <| HO118.out) hb) (Kd.R_base ho0)) (Kd.R_base ho1)) (fun _ h_ => h_.1)); have n4_ := Aside0.mk (Kd.R_lower (Kd.R_new' (Kd.R_new' (Kd.R_new' ho0 (Kd.R_lt (by exact Ho.RS <| HO107.out))) (Kd.R_lt (by exact Ho.RS <| HO110.out))) (Kd.R_lt (by exact Ho.RS <| HO118.out))) (below_size (by exact eS HB.out))); have n5_ := Aside0.mk (Kd.R_lower (Kd.R_new' (Kd.R_new' (Kd.R_new' ho1 (Kd.R_lt (by exact Ho.RS <| HO107.out))) (Kd.R_lt (by exact Ho.RS <| HO110.out))) (Kd.R_lt (by exact Ho.RS <| HO118.out))) (below_size (by exact eS HB.out))); have n6_ := Aside0.mk (Kd.R_lower (Kd.R_new' ho2 (Kd.R_lt (by exact Ho.RS <| HO114.out))) (below_size (by exact eS HB.out))); have n7_ := Aside0.mk (blk_below (bS BK101.out) hb); have n8_ := Aside0.mk (below_step (by exact eS HB.out) hb); clear HO107; clear HO110; clear HO114; clear HO118; clear BK101; clear HB; have HO107 := n0_; have HO110 := n1_; have HO114 := n2_; have HO118 := n3_; have HO124 := n4_; have HO127 := n5_; have HO131 := n6_; have BK101 := n7_; have HB := n8_; clear n0_ n1_ n2_ n3_ n4_ n5_ n6_ n7_ n8_; (try clear hb); (try clear hb2); (try clear hk); (try clear hi); (try clear ho0); (try clear ho1); (try clear ho2)) | ((with_reducible refine gate_dst (N := 6) rfl ?_); refine box_event ?hg (N := 6) ?hd (cs := #[.int .i64 0, .int .i64 0, .slice none 0 0, .slice none 0 0, .int .i64 0, .slice none 0 0, .bool false]) (t := 59) ?hr ?_; (case hd => rfl); (case hg => rfl); (case hr => first | (go_simp; done) | (go_simp; rfl)); intro gb133 hg w23 hbox hb; have n0_ := Aside0.mk (Kd.R_below (by exact Ho.RS <| HO107.out) hb); have n1_ := Aside0.mk (Kd.R_below (by exact Ho.RS <| HO110.out) hb); have n2_ := Aside0.mk (Kd.R_below (by exact Ho.RS <| HO114.out) hb); have n3_ := Aside0.mk (Kd.R_below (by exact Ho.RS <| HO118.out) hb); have n4_ := Aside0.mk (Kd.R_below (by exact Ho.RS <| HO124.out) hb); have n5_ := Aside0.mk (Kd.R_below (by exact Ho.RS <| HO127.out) hb); have n6_ := Aside0.mk (Kd.R_below (by exact Ho.RS <| HO131.out) hb); have n7_ := Aside0.mk (blk_below (bS BK101.out) hb); have n8_ := Aside0.mk (below_step (by exact eS HB.out) hb); have n9_ := Aside0.mk (hbox); have n10_ := Aside0.mk ((by rw [hg]; exact (below_size (by exact eS HB.out)) : w.heap.size ≤ gb133)); have n11_ := Aside0.mk ((by rw [hg]; exact (below_size (by exact eS HB.out)) : w.heap.size ≤ gb133)); have n12_ := Aside0.mk ((by rw [hg]; exact Nat.ne_of_lt (blk_lt (bS BK101.out)) : gb101 ≠ gb133)); have n13_ := Aside0.mk ((by rw [hg]; exact Nat.ne_of_gt (blk_lt (bS BK101.out)) : gb133 ≠ gb101)); clear HO107; clear HO110; clear HO114; clear HO118; clear HO124; clear HO127; clear HO131; clear BK101; clear HB; have HO107 := n0_; have HO110 := n1_; have HO114 := n2_; have HO118 := n3_; have HO124 := n4_; have HO127 := n5_; have HO131 := n6_; have BK101 := n7_; have HB := n8_; have BK133 := n9_; have GW133 := n10_; have GE133 := n11_; have NB101_133 := n12_; have NB133_101 := n13_; clear n0_ n1_ n2_ n3_ n4_ n5_ n6_ n7_ n8_ n9_ n10_ n11_ n12_ n13_; clear hb hbox hg; have hnb24 := NB133_101.out; have hnc24 := NB101_133.out; have hcz25_0 : w23.cell? ⟨gb133, 0, none⟩ = some (.int .i64 0) := (blk_cell BK133.out 0).trans rfl; have hcz25_1 : w23.cell? ⟨gb133, 1, none⟩ = some (.int .i64 0) := (blk_cell BK133.out 1).trans rfl; have hcz25_2 : w23.cell? ⟨gb133, 2, none⟩ = some (.slice none 0 0) := (blk_cell BK133.out 2).trans rfl; have hcz25_3 : w23.cell? ⟨gb133, 3, none⟩ = some (.slice none 0 0) := (blk_cell BK133.out 3).trans rfl; have hcz25_4 : w23.cell? ⟨gb133, 4, none⟩ = some (.int .i64 0) := (blk_cell BK133.out 4).trans rfl; have hcz25_5 : w23.cell? ⟨gb133, 5, none⟩ = some (.slice none 0 0) := (blk_cell BK133.out 5).trans rfl; have hcz25_6 : w23.cell? ⟨gb133, 6, none⟩ = some (.bool false) := (blk_cell BK133.out 6).trans rfl; have hfz25_0 := blk_frozen BK133.out 0; have hfz25_1 := blk_frozen BK133.out 1; have hfz25_2 := blk_frozen BK133.out 2; have hfz25_3 := blk_frozen BK133.out 3; have hfz25_4 := blk_frozen BK133.out 4; have hfz25_5 := blk_frozen BK133.out 5; have hfz25_6 := blk_frozen BK133.out 6; obtain ⟨Ao26, co26, eo26⟩ := Kd.R_slice HO124.out; subst eo26; obtain ⟨Ao27, co27, eo27⟩ := Kd.R_slice HO127.out; subst eo27; obtain ⟨Ao28, co28, eo28⟩ := Kd.R_slice HO131.out; subst eo28) | ((with_reducible refine gate_callee (f := 48) rfl ?_); refine goesL_ (some 29) rfl rfl Try.func48 (by kernel_rfl) rfl #[.agg #[.int .i64 t120, .int .i64 t121, .slice Ao26 t122.length co26, .slice Ao27 t125.length co27, .int .i64 t128, .slice Ao28 t129.length co28, .bool t132]] rfl (by (try simp only [List.map_toArray, List.map_cons, List.map_nil]); first | done | rfl | (simp only [List.length_drop, List.length_take]; rfl)) ?_; (with_reducible refine (impl_MistakesIn.calls k t120 t121 _ _ t122 _ _ t125 t128 _ _ t129 t132 t134 t137 _ ?side1 ?side2 ?side3 ?side4 ?side5 ?side6 A10.out).mono ?_); (case side1 => refine (Kd.R_reads' (e := 3) (base := w.heap.size) (ok := fun k_ => (((some k_ ≠ (.slice Ao27 t125.length co27 : Value).ownBlock ∧ some k_ ≠ (.slice Ao17 t105.length co17 : Value).ownBlock) ∧ some k_ ≠ (.slice Ao18 t108.length co18 : Value).ownBlock) ∧ some k_ ≠ (v117 : Value).ownBlock)) (n := t122.length) (c := co26) ?_).2.2; exact (by exact Ho.RS <| (Kd.R_mono (Kd.R_far (p := ⟨gb133, 6, none⟩) (Kd.R_far (p := ⟨gb133, 5, none⟩) (Kd.R_far (p := ⟨gb133, 4, none⟩) (Kd.R_far (p := ⟨gb133, 3, none⟩) (Kd.R_far (p := ⟨gb133, 2, none⟩) (Kd.R_far (p := ⟨gb133, 1, none⟩) (Kd.R_far (p := ⟨gb133, 0, none⟩) (Kd.R_types HO124.out BK133.out (by decide)) (fun _ hk => hk.2) (.int .i64 t120)) (fun _ hk => hk.2) (.int .i64 t121)) (fun _ hk => hk.2) (.slice Ao26 t122.length co26)) (fun _ hk => hk.2) (.slice Ao27 t125.length co27)) (fun _ hk => hk.2) (.int .i64 t128)) (fun _ hk => hk.2) (.slice Ao28 t129.length co28)) (fun _ hk => hk.2) (.bool t132)) (fun _ h_ => h_.1)))); (case side2 => exact (Kd.R_reads' HO124.out).2.1); (case side3 => refine (Kd.R_reads' (e := 3) (base := w.heap.size) (ok := fun k_ => (((some k_ ≠ (.slice Ao26 t122.length co26 : Value).ownBlock ∧ some k_ ≠ (.slice Ao17 t105.length co17 : Value).ownBlock) ∧ some k_ ≠ (.slice Ao18 t108.length co18 : Value).ownBlock) ∧ some k_ ≠ (v117 : Value).ownBlock)) (n := t125.length) (c := co27) ?_).2.2; exact (by exact Ho.RS <| (Kd.R_mono (Kd.R_far (p := ⟨gb133, 6, none⟩) (Kd.R_far (p := ⟨gb133, 5, none⟩) (Kd.R_far (p := ⟨gb133, 4, none⟩) (Kd.R_far (p := ⟨gb133, 3, none⟩) (Kd.R_far (p := ⟨gb133, 2, none⟩) (Kd.R_far (p := ⟨gb133, 1, none⟩) (Kd.R_far (p := ⟨gb133, 0, none⟩) (Kd.R_types HO127.out BK133.out (by decide)) (fun _ hk => hk.2) (.int .i64 t120)) (fun _ hk => hk.2) (.int .i64 t121)) (fun _ hk => hk.2) (.slice Ao26 t122.length co26)) (fun _ hk => hk.2) (.slice Ao27 t125.length co27)) (fun _ hk => hk.2) (.int .i64 t128)) (fun _ hk => hk.2) (.slice Ao28 t129.length co28)) (fun _ hk => hk.2) (.bool t132)) (fun _ h_ => h_.1)))); (case side4 => exact (Kd.R_reads' HO127.out).2.1); (case side5 => refine (Kd.R_reads' (e := 89) (base := w.heap.size) (ok := fun k_ => (True ∧ some k_ ≠ (.slice Ao19 t112.length co19 : Value).ownBlock)) (n := t129.length) (c := co28) ?_).2.2; exact (by exact Ho.RS <| (Kd.R_mono (Kd.R_far (p := ⟨gb133, 6, none⟩) (Kd.R_far (p := ⟨gb133, 5, none⟩) (Kd.R_far (p := ⟨gb133, 4, none⟩) (Kd.R_far (p := ⟨gb133, 3, none⟩) (Kd.R_far (p := ⟨gb133, 2, none⟩) (Kd.R_far (p := ⟨gb133, 1, none⟩) (Kd.R_far (p := ⟨gb133, 0, none⟩) (Kd.R_types HO131.out BK133.out (by decide)) (fun _ hk => hk.2) (.int .i64 t120)) (fun _ hk => hk.2) (.int .i64 t121)) (fun _ hk => hk.2) (.slice Ao26 t122.length co26)) (fun _ hk => hk.2) (.slice Ao27 t125.length co27)) (fun _ hk => hk.2) (.int .i64 t128)) (fun _ hk => hk.2) (.slice Ao28 t129.length co28)) (fun _ hk => hk.2) (.bool t132)) (fun _ h_ => h_.1)))); (case side6 => exact (Kd.R_reads' HO131.out).2.1); rintro e w29 ⟨v135, rfl, ho0, hb⟩; refine ⟨_, rfl, ?_⟩; have n0_ := Aside0.mk (Kd.R_elder' (by exact Ho.RS <| (Kd.R_mono (Kd.R_far (p := ⟨gb133, 6, none⟩) (Kd.R_far (p := ⟨gb133, 5, none⟩) (Kd.R_far (p := ⟨gb133, 4, none⟩) (Kd.R_far (p := ⟨gb133, 3, none⟩) (Kd.R_far (p := ⟨gb133, 2, none⟩) (Kd.R_far (p := ⟨gb133, 1, none⟩) (Kd.R_far (p := ⟨gb133, 0, none⟩) (Kd.R_types HO107.out BK133.out (by decide)) (fun _ hk => hk.2) (.int .i64 t120)) (fun _ hk => hk.2) (.int .i64 t121)) (fun _ hk => hk.2) (.slice Ao26 t122.length co26)) (fun _ hk => hk.2) (.slice Ao27 t125.length co27)) (fun _ hk => hk.2) (.int .i64 t128)) (fun _ hk => hk.2) (.slice Ao28 t129.length co28)) (fun _ hk => hk.2) (.bool t132)) (fun _ h_ => h_.1))) (Kd.R_base ho0) hb); have n1_ := Aside0.mk (Kd.R_elder' (by exact Ho.RS <| (Kd.R_mono (Kd.R_far (p := ⟨gb133, 6, none⟩) (Kd.R_far (p := ⟨gb133, 5, none⟩) (Kd.R_far (p := ⟨gb133, 4, none⟩) (Kd.R_far (p := ⟨gb133, 3, none⟩) (Kd.R_far (p := ⟨gb133, 2, none⟩) (Kd.R_far (p := ⟨gb133, 1, none⟩) (Kd.R_far (p := ⟨gb133, 0, none⟩) (Kd.R_types HO110.out BK133.out (by decide)) (fun _ hk => hk.2) (.int .i64 t120)) (fun _ hk => hk.2) (.int .i64 t121)) (fun _ hk => hk.2) (.slice Ao26 t122.length co26)) (fun _ hk => hk.2) (.slice Ao27 t125.length co27)) (fun _ hk => hk.2) (.int .i64 t128)) (fun _ hk => hk.2) (.slice Ao28 t129.length co28)) (fun _ hk => hk.2) (.bool t132)) (fun _ h_ => h_.1))) (Kd.R_base ho0) hb); have n2_ := Aside0.mk (Kd.R_below (by exact Ho.RS <| (Kd.R_mono (Kd.R_far (p := ⟨gb133, 6, none⟩) (Kd.R_far (p := ⟨gb133, 5, none⟩) (Kd.R_far (p := ⟨gb133, 4, none⟩) (Kd.R_far (p := ⟨gb133, 3, none⟩) (Kd.R_far (p := ⟨gb133, 2, none⟩) (Kd.R_far (p := ⟨gb133, 1, none⟩) (Kd.R_far (p := ⟨gb133, 0, none⟩) (Kd.R_types HO114.out BK133.out (by decide)) (fun _ hk => hk.2) (.int .i64 t120)) (fun _ hk => hk.2) (.int .i64 t121)) (fun _ hk => hk.2) (.slice Ao26 t122.length co26)) (fun _ hk => hk.2) (.slice Ao27 t125.length co27)) (fun _ hk => hk.2) (.int .i64 t128)) (fun _ hk => hk.2) (.slice Ao28 t129.length co28)) (fun _ hk => hk.2) (.bool t132)) (fun _ h_ => h_.1))) hb); have n3_ := Aside0.mk (Kd.R_elder' (by exact Ho.RS <| (Kd.R_mono (Kd.R_far (p := ⟨gb133, 6, none⟩) (Kd.R_far (p := ⟨gb133, 5, none⟩) (Kd.R_far (p := ⟨gb133, 4, none⟩) (Kd.R_far (p := ⟨gb133, 3, none⟩) (Kd.R_far (p := ⟨gb133, 2, none⟩) (Kd.R_far (p := ⟨gb133, 1, none⟩) (Kd.R_far (p := ⟨gb133, 0, none⟩) (Kd.R_types HO118.out BK133.out (by decide)) (fun _ hk => hk.2) (.int .i64 t120)) (fun _ hk => hk.2) (.int .i64 t121)) (fun _ hk => hk.2) (.slice Ao26 t122.length co26)) (fun _ hk => hk.2) (.slice Ao27 t125.length co27)) (fun _ hk => hk.2) (.int .i64 t128)) (fun _ hk => hk.2) (.slice Ao28 t129.length co28)) (fun _ hk => hk.2) (.bool t132)) (fun _ h_ => h_.1))) (Kd.R_base ho0) hb); have n4_ := Aside0.mk (Kd.R_elder' (by exact Ho.RS <| (Kd.R_mono (Kd.R_far (p := ⟨gb133, 6, none⟩) (Kd.R_far (p := ⟨gb133, 5, none⟩) (Kd.R_far (p := ⟨gb133, 4, none⟩) (Kd.R_far (p := ⟨gb133, 3, none⟩) (Kd.R_far (p := ⟨gb133, 2, none⟩) (Kd.R_far (p := ⟨gb133, 1, none⟩) (Kd.R_far (p := ⟨gb133, 0, none⟩) (Kd.R_types HO124.out BK133.out (by decide)) (fun _ hk => hk.2) (.int .i64 t120)) (fun _ hk => hk.2) (.int .i64 t121)) (fun _ hk => hk.2) (.slice Ao26 t122.length co26)) (fun _ hk => hk.2) (.slice Ao27 t125.length co27)) (fun _ hk => hk.2) (.int .i64 t128)) (fun _ hk => hk.2) (.slice Ao28 t129.length co28)) (fun _ hk => hk.2) (.bool t132)) (fun _ h_ => h_.1))) (Kd.R_base ho0) hb); have n5_ := Aside0.mk (Kd.R_elder' (by exact Ho.RS <| (Kd.R_mono (Kd.R_far (p := ⟨gb133, 6, none⟩) (Kd.R_far (p := ⟨gb133, 5, none⟩) (Kd.R_far (p := ⟨gb133, 4, none⟩) (Kd.R_far (p := ⟨gb133, 3, none⟩) (Kd.R_far (p := ⟨gb133, 2, none⟩) (Kd.R_far (p := ⟨gb133, 1, none⟩) (Kd.R_far (p := ⟨gb133, 0, none⟩) (Kd.R_types HO127.out BK133.out (by decide)) (fun _ hk => hk.2) (.int .i64 t120)) (fun _ hk => hk.2) (.int .i64 t121)) (fun _ hk => hk.2) (.slice Ao26 t122.length co26)) (fun _ hk => hk.2) (.slice Ao27 t125.length co27)) (fun _ hk => hk.2) (.int .i64 t128)) (fun _ hk => hk.2) (.slice Ao28 t129.length co28)) (fun _ hk => hk.2) (.bool t132)) (fun _ h_ => h_.1))) (Kd.R_base ho0) hb); have n6_ := Aside0.mk (Kd.R_below (by exact Ho.RS <| (Kd.R_mono (Kd.R_far (p := ⟨gb133, 6, none⟩) (Kd.R_far (p := ⟨gb133, 5, none⟩) (Kd.R_far (p := ⟨gb133, 4, none⟩) (Kd.R_far (p := ⟨gb133, 3, none⟩) (Kd.R_far (p := ⟨gb133, 2, none⟩) (Kd.R_far (p := ⟨gb133, 1, none⟩) (Kd.R_far (p := ⟨gb133, 0, none⟩) (Kd.R_types HO131.out BK133.out (by decide)) (fun _ hk => hk.2) (.int .i64 t120)) (fun _ hk => hk.2) (.int .i64 t121)) (fun _ hk => hk.2) (.slice Ao26 t122.length co26)) (fun _ hk => hk.2) (.slice Ao27 t125.length co27)) (fun _ hk => hk.2) (.int .i64 t128)) (fun _ hk => hk.2) (.slice Ao28 t129.length co28)) (fun _ hk => hk.2) (.bool t132)) (fun _ h_ => h_.1))) hb); have n7_ := Aside0.mk (Kd.R_lower (Kd.R_new' (Kd.R_new' (Kd.R_new' (Kd.R_new' (Kd.R_new' ho0 (Kd.R_lt (by exact Ho.RS <| (Kd.R_mono (Kd.R_far (p := ⟨gb133, 6, none⟩) (Kd.R_far (p := ⟨gb133, 5, none⟩) (Kd.R_far (p := ⟨gb133, 4, none⟩) (Kd.R_far (p := ⟨gb133, 3, none⟩) (Kd.R_far (p := ⟨gb133, 2, none⟩) (Kd.R_far (p := ⟨gb133, 1, none⟩) (Kd.R_far (p := ⟨gb133, 0, none⟩) (Kd.R_types HO107.out BK133.out (by decide)) (fun _ hk => hk.2) (.int .i64 t120)) (fun _ hk => hk.2) (.int .i64 t121)) (fun _ hk => hk.2) (.slice Ao26 t122.length co26)) (fun _ hk => hk.2) (.slice Ao27 t125.length co27)) (fun _ hk => hk.2) (.int .i64 t128)) (fun _ hk => hk.2) (.slice Ao28 t129.length co28)) (fun _ hk => hk.2) (.bool t132)) (fun _ h_ => h_.1))))) (Kd.R_lt (by exact Ho.RS <| (Kd.R_mono (Kd.R_far (p := ⟨gb133, 6, none⟩) (Kd.R_far (p := ⟨gb133, 5, none⟩) (Kd.R_far (p := ⟨gb133, 4, none⟩) (Kd.R_far (p := ⟨gb133, 3, none⟩) (Kd.R_far (p := ⟨gb133, 2, none⟩) (Kd.R_far (p := ⟨gb133, 1, none⟩) (Kd.R_far (p := ⟨gb133, 0, none⟩) (Kd.R_types HO110.out BK133.out (by decide)) (fun _ hk => hk.2) (.int .i64 t120)) (fun _ hk => hk.2) (.int .i64 t121)) (fun _ hk => hk.2) (.slice Ao26 t122.length co26)) (fun _ hk => hk.2) (.slice Ao27 t125.length co27)) (fun _ hk => hk.2) (.int .i64 t128)) (fun _ hk => hk.2) (.slice Ao28 t129.length co28)) (fun _ hk => hk.2) (.bool t132)) (fun _ h_ => h_.1))))) (Kd.R_lt (by exact Ho.RS <| (Kd.R_mono (Kd.R_far (p := ⟨gb133, 6, none⟩) (Kd.R_far (p := ⟨gb133, 5, none⟩) (Kd.R_far (p := ⟨gb133, 4, none⟩) (Kd.R_far (p := ⟨gb133, 3, none⟩) (Kd.R_far (p := ⟨gb133, 2, none⟩) (Kd.R_far (p := ⟨gb133, 1, none⟩) (Kd.R_far (p := ⟨gb133, 0, none⟩) (Kd.R_types HO118.out BK133.out (by decide)) (fun _ hk => hk.2) (.int .i64 t120)) (fun _ hk => hk.2) (.int .i64 t121)) (fun _ hk => hk.2) (.slice Ao26 t122.length co26)) (fun _ hk => hk.2) (.slice Ao27 t125.length co27)) (fun _ hk => hk.2) (.int .i64 t128)) (fun _ hk => hk.2) (.slice Ao28 t129.length co28)) (fun _ hk => hk.2) (.bool t132)) (fun _ h_ => h_.1))))) (Kd.R_lt (by exact Ho.RS <| (Kd.R_mono (Kd.R_far (p := ⟨gb133, 6, none⟩) (Kd.R_far (p := ⟨gb133, 5, none⟩) (Kd.R_far (p := ⟨gb133, 4, none⟩) (Kd.R_far (p := ⟨gb133, 3, none⟩) (Kd.R_far (p := ⟨gb133, 2, none⟩) (Kd.R_far (p := ⟨gb133, 1, none⟩) (Kd.R_far (p := ⟨gb133, 0, none⟩) (Kd.R_types HO124.out BK133.out (by decide)) (fun _ hk => hk.2) (.int .i64 t120)) (fun _ hk => hk.2) (.int .i64 t121)) (fun _ hk => hk.2) (.slice Ao26 t122.length co26)) (fun _ hk => hk.2) (.slice Ao27 t125.length co27)) (fun _ hk => hk.2) (.int .i64 t128)) (fun _ hk => hk.2) (.slice Ao28 t129.length co28)) (fun _ hk => hk.2) (.bool t132)) (fun _ h_ => h_.1))))) (Kd.R_lt (by exact Ho.RS <| (Kd.R_mono (Kd.R_far (p := ⟨gb133, 6, none⟩) (Kd.R_far (p := ⟨gb133, 5, none⟩) (Kd.R_far (p := ⟨gb133, 4, none⟩) (Kd.R_far (p := ⟨gb133, 3, none⟩) (Kd.R_far (p := ⟨gb133, 2, none⟩) (Kd.R_far (p := ⟨gb133, 1, none⟩) (Kd.R_far (p := ⟨gb133, 0, none⟩) (Kd.R_types HO127.out BK133.out (by decide)) (fun _ hk => hk.2) (.int .i64 t120)) (fun _ hk => hk.2) (.int .i64 t121)) (fun _ hk => hk.2) (.slice Ao26 t122.length co26)) (fun _ hk => hk.2) (.slice Ao27 t125.length co27)) (fun _ hk => hk.2) (.int .i64 t128)) (fun _ hk => hk.2) (.slice Ao28 t129.length co28)) (fun _ hk => hk.2) (.bool t132)) (fun _ h_ => h_.1))))) (below_size (by repeat (first | (with_reducible first | exact HB.out | apply below_alloc | apply pw_below_drewN | apply below_drew1 | refine below_set ?_ GE101.out | refine below_set ?_ GE133.out) | exact HB.out)))); have n8_ := Aside0.mk (blk_below (g := gb101) (o := .cells #[.int .i64 a0_0, .int .i64 a0_1, .slice A0_2 l0_2.length c0_2, .slice A0_3 l0_3.length c0_3, .int .i64 a0_4, .slice A0_5 l0_5.length c0_5, .bool a0_6] 54 (0, 0)) (by (with_reducible repeat (first | refine blk_drewN ?_ _ | refine blk_drew ?_ | refine blk_alloc ?_ _)); refine blk_far ?_ NB101_133.out _; (with_reducible repeat (first | refine blk_drewN ?_ _ | refine blk_drew ?_ | refine blk_alloc ?_ _)); refine blk_far ?_ NB101_133.out _; (with_reducible repeat (first | refine blk_drewN ?_ _ | refine blk_drew ?_ | refine blk_alloc ?_ _)); refine blk_far ?_ NB101_133.out _; (with_reducible repeat (first | refine blk_drewN ?_ _ | refine blk_drew ?_ | refine blk_alloc ?_ _)); refine blk_far ?_ NB101_133.out _; (with_reducible repeat (first | refine blk_drewN ?_ _ | refine blk_drew ?_ | refine blk_alloc ?_ _)); refine blk_far ?_ NB101_133.out _; (with_reducible repeat (first | refine blk_drewN ?_ _ | refine blk_drew ?_ | refine blk_alloc ?_ _)); refine blk_far ?_ NB101_133.out _; (with_reducible repeat (first | refine blk_drewN ?_ _ | refine blk_drew ?_ | refine blk_alloc ?_ _)); refine blk_far ?_ NB101_133.out _; exact bS BK101.out) hb); have n9_ := Aside0.mk (blk_below (g := gb133) (o := .cells #[.int .i64 t120, .int .i64 t121, .slice Ao26 t122.length co26, .slice Ao27 t125.length co27, .int .i64 t128, .slice Ao28 t129.length co28, .bool t132] 59 (0, 0)) (by (with_reducible repeat (first | refine blk_drewN ?_ _ | refine blk_drew ?_ | refine blk_alloc ?_ _)); refine blk_put (cs := #[.int .i64 t120, .int .i64 t121, .slice Ao26 t122.length co26, .slice Ao27 t125.length co27, .int .i64 t128, .slice Ao28 t129.length co28, .bool false]) ?_ 6 _ rfl; (with_reducible repeat (first | refine blk_drewN ?_ _ | refine blk_drew ?_ | refine blk_alloc ?_ _)); refine blk_put (cs := #[.int .i64 t120, .int .i64 t121, .slice Ao26 t122.length co26, .slice Ao27 t125.length co27, .int .i64 t128, .slice none 0 0, .bool false]) ?_ 5 _ rfl; (with_reducible repeat (first | refine blk_drewN ?_ _ | refine blk_drew ?_ | refine blk_alloc ?_ _)); refine blk_put (cs := #[.int .i64 t120, .int .i64 t121, .slice Ao26 t122.length co26, .slice Ao27 t125.length co27, .int .i64 0, .slice none 0 0, .bool false]) ?_ 4 _ rfl; (with_reducible repeat (first | refine blk_drewN ?_ _ | refine blk_drew ?_ | refine blk_alloc ?_ _)); refine blk_put (cs := #[.int .i64 t120, .int .i64 t121, .slice Ao26 t122.length co26, .slice none 0 0, .int .i64 0, .slice none 0 0, .bool false]) ?_ 3 _ rfl; (with_reducible repeat (first | refine blk_drewN ?_ _ | refine blk_drew ?_ | refine blk_alloc ?_ _)); refine blk_put (cs := #[.int .i64 t120, .int .i64 t121, .slice none 0 0, .slice none 0 0, .int .i64 0, .slice none 0 0, .bool false]) ?_ 2 _ rfl; (with_reducible repeat (first | refine blk_drewN ?_ _ | refine blk_drew ?_ | refine blk_alloc ?_ _)); refine blk_put (cs := #[.int .i64 t120, .int .i64 0, .slice none 0 0, .slice none 0 0, .int .i64 0, .slice none 0 0, .bool false]) ?_ 1 _ rfl; (with_reducible repeat (first | refine blk_drewN ?_ _ | refine blk_drew ?_ | refine blk_alloc ?_ _)); refine blk_put (cs := #[.int .i64 0, .int .i64 0, .slice none 0 0, .slice none 0 0, .int .i64 0, .slice none 0 0, .bool false]) ?_ 0 _ rfl; exact bS BK133.out) hb); have n10_ := Aside0.mk (below_step (by repeat (first | (with_reducible first | exact HB.out | apply below_alloc | apply pw_below_drewN | apply below_drew1 | refine below_set ?_ GE101.out | refine below_set ?_ GE133.out) | exact HB.out)) hb); clear HO107; clear HO110; clear HO114; clear HO118; clear HO124; clear HO127; clear HO131; clear BK101; clear BK133; clear HB; have HO107 := n0_; have HO110 := n1_; have HO114 := n2_; have HO118 := n3_; have HO124 := n4_; have HO127 := n5_; have HO131 := n6_; have HO136 := n7_; have BK101 := n8_; have BK133 := n9_; have HB := n10_; clear n0_ n1_ n2_ n3_ n4_ n5_ n6_ n7_ n8_ n9_ n10_; (try clear hb); (try clear hb2); (try clear hk); (try clear hi); (try clear ho0)))
    (try simp only [Act.put, List.setIfInBounds_toArray, List.set_cons_zero, List.set_cons_succ])
    go_cut [40] (fun v40 wc => ∃ (kq : Nat) (x40_10 : Bool), v40 = .bool x40_10 ∧ Aside0 (laws_FnExactMistakesIn.j0 kq t116 t119 t134 t137 x40_10 a0_0 a0_1 l0_2 l0_3 a0_4 l0_5 a0_6 t120 t121 t122 t125 t128 t129 t132 = some r) ∧ Aside0 (kq ≤ k) ∧ Aside0 (Kd.R (Kd.int .i64) 3 wc w.heap.size (fun k_ => some k_ ≠ (v135 : Value).ownBlock ∧ some k_ ≠ ((.slice Ao26 t122.length co26) : Value).ownBlock ∧ some k_ ≠ ((.slice Ao27 t125.length co27) : Value).ownBlock) v117 t116) ∧ Aside0 (Kd.R (Kd.int .i64) 3 wc w.heap.size (fun k_ => some k_ ≠ (v117 : Value).ownBlock ∧ some k_ ≠ ((.slice Ao26 t122.length co26) : Value).ownBlock ∧ some k_ ≠ ((.slice Ao27 t125.length co27) : Value).ownBlock) v135 t134) ∧ Aside0 (Kd.R (Kd.int .i64) 3 wc w.heap.size (fun k_ => some k_ ≠ (v117 : Value).ownBlock ∧ some k_ ≠ (v135 : Value).ownBlock ∧ some k_ ≠ ((.slice Ao27 t125.length co27) : Value).ownBlock) (.slice Ao26 t122.length co26) t122) ∧ Aside0 (Kd.R (Kd.int .i64) 3 wc w.heap.size (fun k_ => some k_ ≠ (v117 : Value).ownBlock ∧ some k_ ≠ (v135 : Value).ownBlock ∧ some k_ ≠ ((.slice Ao26 t122.length co26) : Value).ownBlock) (.slice Ao27 t125.length co27) t125) ∧ Aside0 (Kd.R k89 89 wc w.heap.size (fun _ => True) (.slice Ao28 t129.length co28) t129) ∧ Aside0 (wc.heap[gb101]? = some (.cells #[.int .i64 a0_0, .int .i64 a0_1, (.slice A0_2 l0_2.length c0_2), (.slice A0_3 l0_3.length c0_3), .int .i64 a0_4, (.slice A0_5 l0_5.length c0_5), .bool a0_6] 54 (0, 0))) ∧ Aside0 (wc.heap[gb133]? = some (.cells #[.int .i64 t120, .int .i64 t121, (.slice Ao26 t122.length co26), (.slice Ao27 t125.length co27), .int .i64 t128, (.slice Ao28 t129.length co28), .bool t132] 59 (0, 0))) ∧ Aside0 (Below w.heap.size w wc))
    case first =>
      have H := HC11.out
      clear HC11
      replace H := Option.bind_eq_some_iff.mp H
      obtain ⟨t138, A300, H⟩ := H
      replace H : (if t138 = true then (laws_FnExactMistakesIn.j0 k t116 t119 t134 t137 (t137 != t119) a0_0 a0_1 l0_2 l0_3 a0_4 l0_5 a0_6 t120 t121 t122 t125 t128 t129 t132) else (laws_FnExactMistakesIn.j0 k t116 t119 t134 t137 true a0_0 a0_1 l0_2 l0_3 a0_4 l0_5 a0_6 t120 t121 t122 t125 t128 t129 t132)) = some r := H
      have A30 := Aside0.mk A300
      clear A300
      by_cases c31 : t138 = true
      · subst c31
        have H1 : (laws_FnExactMistakesIn.j0 k t116 t119 t134 t137 (t137 != t119) a0_0 a0_1 l0_2 l0_3 a0_4 l0_5 a0_6 t120 t121 t122 t125 t128 t129 t132) = some r := by rw [if_pos rfl] at H; exact H
        clear H
        have H := H1
        clear H1
        as_aux_lemma =>
          have H' := Aside0.mk H
          clear H
          obtain ⟨Ao32, co32, eo32⟩ := Kd.R_slice HO136.out
          subst eo32
          obtain ⟨Ao33, co33, eo33⟩ := Kd.R_slice HO118.out
          subst eo33
          go_wp2_with (first | ((with_reducible refine gate_callee (f := 29) rfl ?_); refine goesL_ (some 34) rfl rfl Try.func29 (by kernel_rfl) rfl #[.slice Ao32 t134.length co32, .slice Ao33 t116.length co33] rfl (by (try simp only [List.map_toArray, List.map_cons, List.map_nil]); first | done | rfl | (simp only [List.length_drop, List.length_take]; rfl)) ?_; (with_reducible refine (laws_eqIntS.calls k _ _ t134 _ _ t116 true _ ?side1 ?side2 ?side3 ?side4 A30.out).mono ?_); (case side1 => repeat (first | exact (Kd.R_reads' HO136.out).2.2 | (with_reducible refine Kd.C_alloc ?_ _) | (with_reducible refine Kd.C_drewN ?_ _) | (with_reducible refine Kd.C_drew ?_))); (case side2 => exact (Kd.R_reads' HO136.out).2.1); (case side3 => repeat (first | exact (Kd.R_reads' HO118.out).2.2 | (with_reducible refine Kd.C_alloc ?_ _) | (with_reducible refine Kd.C_drewN ?_ _) | (with_reducible refine Kd.C_drew ?_))); (case side4 => exact (Kd.R_reads' HO118.out).2.1); rintro e w' ⟨rfl, ⟨nd, rfl⟩⟩; refine ⟨_, rfl, ?_⟩))
          go_meet
          case rel => exact ⟨_, ((t137 != t119)), (by first | rfl | (simp; done) | (simp [*]; done)), H', ⟨by first | omega | exact Nat.le_refl _⟩, ⟨by exact Ho.RS <| Kd.R_mono HO118.out (fun _ hk => ⟨hk.2, ⟨hk.1.1.2, hk.1.2⟩⟩)⟩, ⟨by exact Ho.RS <| Kd.R_mono HO136.out (fun _ hk => ⟨hk.1.1.2, ⟨hk.1.2, hk.2⟩⟩)⟩, ⟨by exact Ho.RS <| Kd.R_mono HO124.out (fun _ hk => ⟨hk.1.2, ⟨hk.2, hk.1.1.1.1⟩⟩)⟩, ⟨by exact Ho.RS <| Kd.R_mono HO127.out (fun _ hk => ⟨hk.1.2, ⟨hk.2, hk.1.1.1.1⟩⟩)⟩, ⟨by exact Ho.RS <| Kd.R_mono HO131.out (fun _ hk => trivial)⟩, ⟨by exact bS BK101.out⟩, ⟨by exact bS BK133.out⟩, ⟨by exact eS HB.out⟩⟩
      · replace c31 := Bool.eq_false_iff.mpr c31
        subst c31
        have H1 : (laws_FnExactMistakesIn.j0 k t116 t119 t134 t137 true a0_0 a0_1 l0_2 l0_3 a0_4 l0_5 a0_6 t120 t121 t122 t125 t128 t129 t132) = some r := by rw [if_neg (show ¬ (false = true) by decide)] at H; exact H
        clear H
        have H := H1
        clear H1
        as_aux_lemma =>
          have H' := Aside0.mk H
          clear H
          obtain ⟨Ao34, co34, eo34⟩ := Kd.R_slice HO136.out
          subst eo34
          obtain ⟨Ao35, co35, eo35⟩ := Kd.R_slice HO118.out
          subst eo35
          go_wp2_with (first | ((with_reducible refine gate_callee (f := 29) rfl ?_); refine goesL_ (some 34) rfl rfl Try.func29 (by kernel_rfl) rfl #[.slice Ao34 t134.length co34, .slice Ao35 t116.length co35] rfl (by (try simp only [List.map_toArray, List.map_cons, List.map_nil]); first | done | rfl | (simp only [List.length_drop, List.length_take]; rfl)) ?_; (with_reducible refine (laws_eqIntS.calls k _ _ t134 _ _ t116 false _ ?side1 ?side2 ?side3 ?side4 A30.out).mono ?_); (case side1 => repeat (first | exact (Kd.R_reads' HO136.out).2.2 | (with_reducible refine Kd.C_alloc ?_ _) | (with_reducible refine Kd.C_drewN ?_ _) | (with_reducible refine Kd.C_drew ?_))); (case side2 => exact (Kd.R_reads' HO136.out).2.1); (case side3 => repeat (first | exact (Kd.R_reads' HO118.out).2.2 | (with_reducible refine Kd.C_alloc ?_ _) | (with_reducible refine Kd.C_drewN ?_ _) | (with_reducible refine Kd.C_drew ?_))); (case side4 => exact (Kd.R_reads' HO118.out).2.1); rintro e w' ⟨rfl, ⟨nd, rfl⟩⟩; refine ⟨_, rfl, ?_⟩))
          go_meet
          case rel => exact ⟨_, (true), (by first | rfl | (simp; done) | (simp [*]; done)), H', ⟨by first | omega | exact Nat.le_refl _⟩, ⟨by exact Ho.RS <| Kd.R_mono HO118.out (fun _ hk => ⟨hk.2, ⟨hk.1.1.2, hk.1.2⟩⟩)⟩, ⟨by exact Ho.RS <| Kd.R_mono HO136.out (fun _ hk => ⟨hk.1.1.2, ⟨hk.1.2, hk.2⟩⟩)⟩, ⟨by exact Ho.RS <| Kd.R_mono HO124.out (fun _ hk => ⟨hk.1.2, ⟨hk.2, hk.1.1.1.1⟩⟩)⟩, ⟨by exact Ho.RS <| Kd.R_mono HO127.out (fun _ hk => ⟨hk.1.2, ⟨hk.2, hk.1.1.1.1⟩⟩)⟩, ⟨by exact Ho.RS <| Kd.R_mono HO131.out (fun _ hk => trivial)⟩, ⟨by exact bS BK101.out⟩, ⟨by exact bS BK133.out⟩, ⟨by exact eS HB.out⟩⟩
    case rest =>
      clear HC11
      try clear c1
      try clear c2
      try clear p2
      try clear c3
      try clear c3b0
      try clear c4
      try clear c12
      try clear c24
      try clear c29
      try clear c31
      try clear hcz13_0
      try clear hcz13_1
      try clear hcz13_2
      try clear hcz13_3
      try clear hcz13_4
      try clear hcz13_5
      try clear hcz13_6
      try clear hcz15_0
      try clear hcz15_1
      try clear hcz15_2
      try clear hcz15_3
      try clear hcz15_4
      try clear hcz15_5
      try clear hcz15_6
      try clear hcz21_0
      try clear hcz21_1
      try clear hcz21_2
      try clear hcz21_3
      try clear hcz21_4
      try clear hcz21_5
      try clear hcz21_6
      try clear hcz25_0
      try clear hcz25_1
      try clear hcz25_2
      try clear hcz25_3
      try clear hcz25_4
      try clear hcz25_5
      try clear hcz25_6
      try clear hcz5_0
      try clear hcz5_1
      try clear hcz5_2
      try clear hcz5_3
      try clear hcz5_4
      try clear hcz5_5
      try clear hcz5_6
      try clear hfz13_0
      try clear hfz13_1
      try clear hfz13_2
      try clear hfz13_3
      try clear hfz13_4
      try clear hfz13_5
      try clear hfz13_6
      try clear hfz15_0
      try clear hfz15_1
      try clear hfz15_2
      try clear hfz15_3
      try clear hfz15_4
      try clear hfz15_5
      try clear hfz15_6
      try clear hfz21_0
      try clear hfz21_1
      try clear hfz21_2
      try clear hfz21_3
      try clear hfz21_4
      try clear hfz21_5
      try clear hfz21_6
      try clear hfz25_0
      try clear hfz25_1
      try clear hfz25_2
      try clear hfz25_3
      try clear hfz25_4
      try clear hfz25_5
      try clear hfz25_6
      try clear hfz5_0
      try clear hfz5_1
      try clear hfz5_2
      try clear hfz5_3
      try clear hfz5_4
      try clear hfz5_5
      try clear hfz5_6
      obtain ⟨kq, x40_10, rfl, HA, HJ10, HO_4, HO_7, HO_134002, HO_134003, HO_134005, BK101, BK133, HB⟩ := hcut
      cases kq with
      | zero => exact absurd HA.out (by simp [laws_FnExactMistakesIn.j0])
      | succ kj10 =>
        have H := HA.out
        clear HA
        simp only [laws_FnExactMistakesIn.j0] at H
        by_cases c36 : x40_10 = true
        · subst c36
          have H1 : (some false) = some r := by rw [if_pos rfl] at H; exact H
          clear H
          have H := H1
          clear H1
          as_aux_lemma =>
            exact absurd ((Option.some.inj H).trans HT.out) (by decide)
        · replace c36 := Bool.eq_false_iff.mpr c36
          subst c36
          have H1 : ((laws_toWeaving.f kj10 a0_0 a0_1 l0_2 l0_3 a0_4 l0_5 a0_6).bind fun bt139 => ((laws_eqWeaving.f kj10 t120 t121 t122 t125 t128 t129 t132 bt139.1 bt139.2.1 bt139.2.2.1 bt139.2.2.2.1 bt139.2.2.2.2.1 bt139.2.2.2.2.2.1 bt139.2.2.2.2.2.2).bind fun t152 => (if t152 = true then ((laws_markWeaving.f kj10 t120 t121 t122 t125 t128 t129 t132 1).bind fun bt153 => (if bt153.1 < 0 then (laws_FnExactMistakesIn.j1 kj10 t116 t119 t134 true a0_0 a0_1 l0_2 l0_3 a0_4 l0_5 a0_6) else ((laws_eqIntS.f kj10 t134 t116).bind fun t157 => (if t157 = true then (laws_FnExactMistakesIn.j1 kj10 t116 t119 t134 (t137 != t119) a0_0 a0_1 l0_2 l0_3 a0_4 l0_5 a0_6) else (laws_FnExactMistakesIn.j1 kj10 t116 t119 t134 true a0_0 a0_1 l0_2 l0_3 a0_4 l0_5 a0_6))))) else (some false)))) = some r := by rw [if_neg (show ¬ (false = true) by decide)] at H; exact H
          clear H
          have H := H1
          clear H1
          replace H := Option.bind_eq_some_iff.mp H
          obtain ⟨⟨t139, t140, t141, t144, t147, t148, t151⟩, A370, H⟩ := H
          replace H : ((laws_eqWeaving.f kj10 t120 t121 t122 t125 t128 t129 t132 t139 t140 t141 t144 t147 t148 t151).bind fun t152 => (if t152 = true then ((laws_markWeaving.f kj10 t120 t121 t122 t125 t128 t129 t132 1).bind fun bt153 => (if bt153.1 < 0 then (laws_FnExactMistakesIn.j1 kj10 t116 t119 t134 true a0_0 a0_1 l0_2 l0_3 a0_4 l0_5 a0_6) else ((laws_eqIntS.f kj10 t134 t116).bind fun t157 => (if t157 = true then (laws_FnExactMistakesIn.j1 kj10 t116 t119 t134 (t137 != t119) a0_0 a0_1 l0_2 l0_3 a0_4 l0_5 a0_6) else (laws_FnExactMistakesIn.j1 kj10 t116 t119 t134 true a0_0 a0_1 l0_2 l0_3 a0_4 l0_5 a0_6))))) else (some false))) = some r := H
          have A37 := Aside0.mk A370
          clear A370
          replace H := Option.bind_eq_some_iff.mp H
          obtain ⟨t152, A380, H⟩ := H
          replace H : (if t152 = true then ((laws_markWeaving.f kj10 t120 t121 t122 t125 t128 t129 t132 1).bind fun bt153 => (if bt153.1 < 0 then (laws_FnExactMistakesIn.j1 kj10 t116 t119 t134 true a0_0 a0_1 l0_2 l0_3 a0_4 l0_5 a0_6) else ((laws_eqIntS.f kj10 t134 t116).bind fun t157 => (if t157 = true then (laws_FnExactMistakesIn.j1 kj10 t116 t119 t134 (t137 != t119) a0_0 a0_1 l0_2 l0_3 a0_4 l0_5 a0_6) else (laws_FnExactMistakesIn.j1 kj10 t116 t119 t134 true a0_0 a0_1 l0_2 l0_3 a0_4 l0_5 a0_6))))) else (some false)) = some r := H
          have A38 := Aside0.mk A380
          clear A380
          by_cases c39 : t152 = true
          · subst c39
            have H1 : ((laws_markWeaving.f kj10 t120 t121 t122 t125 t128 t129 t132 1).bind fun bt153 => (if bt153.1 < 0 then (laws_FnExactMistakesIn.j1 kj10 t116 t119 t134 true a0_0 a0_1 l0_2 l0_3 a0_4 l0_5 a0_6) else ((laws_eqIntS.f kj10 t134 t116).bind fun t157 => (if t157 = true then (laws_FnExactMistakesIn.j1 kj10 t116 t119 t134 (t137 != t119) a0_0 a0_1 l0_2 l0_3 a0_4 l0_5 a0_6) else (laws_FnExactMistakesIn.j1 kj10 t116 t119 t134 true a0_0 a0_1 l0_2 l0_3 a0_4 l0_5 a0_6))))) = some r := by rw [if_pos rfl] at H; exact H
            clear H
            have H := H1
            clear H1
            replace H := Option.bind_eq_some_iff.mp H
            obtain ⟨⟨t153, t154, t155, t156⟩, A400, H⟩ := H
            replace H : (if t153 < 0 then (laws_FnExactMistakesIn.j1 kj10 t116 t119 t134 true a0_0 a0_1 l0_2 l0_3 a0_4 l0_5 a0_6) else ((laws_eqIntS.f kj10 t134 t116).bind fun t157 => (if t157 = true then (laws_FnExactMistakesIn.j1 kj10 t116 t119 t134 (t137 != t119) a0_0 a0_1 l0_2 l0_3 a0_4 l0_5 a0_6) else (laws_FnExactMistakesIn.j1 kj10 t116 t119 t134 true a0_0 a0_1 l0_2 l0_3 a0_4 l0_5 a0_6)))) = some r := H
            have A40 := Aside0.mk A400
            clear A400
            have HC41 := Aside0.mk H
            clear H
            try go_wp2
            have n0_ := Aside0.mk (Kd.R_drew HO_4.out)
            have n1_ := Aside0.mk (Kd.R_drew HO_7.out)
            have n2_ := Aside0.mk (Kd.R_drew HO_134002.out)
            have n3_ := Aside0.mk (Kd.R_drew HO_134003.out)
            have n4_ := Aside0.mk (Kd.R_drew HO_134005.out)
            have n5_ := Aside0.mk (blk_drew BK101.out)
            have n6_ := Aside0.mk (blk_drew BK133.out)
            have n7_ := Aside0.mk (below_drew1 HB.out)
            clear HO_4
            clear HO_7
            clear HO_134002
            clear HO_134003
            clear HO_134005
            clear BK101
            clear BK133
            clear HB
            have HO_4 := n0_
            have HO_7 := n1_
            have HO_134002 := n2_
            have HO_134003 := n3_
            have HO_134005 := n4_
            have BK101 := n5_
            have BK133 := n6_
            have HB := n7_
            clear n0_ n1_ n2_ n3_ n4_ n5_ n6_ n7_
            refine start_ (n := 5) (S := fun w' => w'.cell? ⟨gb133, 0, none⟩ = some (.int .i64 t120) ∧ w'.cell? ⟨gb133, 1, none⟩ = some (.int .i64 t121) ∧ w'.cell? ⟨gb133, 2, none⟩ = some (.slice Ao26 t122.length co26) ∧ w'.cell? ⟨gb133, 3, none⟩ = some (.slice Ao27 t125.length co27) ∧ w'.cell? ⟨gb133, 4, none⟩ = some (.int .i64 t128) ∧ w'.cell? ⟨gb133, 5, none⟩ = some (.slice Ao28 t129.length co28) ∧ w'.cell? ⟨gb133, 6, none⟩ = some (.bool t132) ∧ w'.cell? ⟨gb101, 0, none⟩ = some (.int .i64 a0_0) ∧ w'.cell? ⟨gb101, 1, none⟩ = some (.int .i64 a0_1) ∧ w'.cell? ⟨gb101, 2, none⟩ = some (.slice A0_2 l0_2.length c0_2) ∧ w'.cell? ⟨gb101, 3, none⟩ = some (.slice A0_3 l0_3.length c0_3) ∧ w'.cell? ⟨gb101, 4, none⟩ = some (.int .i64 a0_4) ∧ w'.cell? ⟨gb101, 5, none⟩ = some (.slice A0_5 l0_5.length c0_5) ∧ w'.cell? ⟨gb101, 6, none⟩ = some (.bool a0_6)) (ds := []) #[false, false, false, false, false] (by kernel_rfl) rfl rfl ⟨(blk_cell BK133.out 0).trans rfl, (blk_cell BK133.out 1).trans rfl, (blk_cell BK133.out 2).trans rfl, (blk_cell BK133.out 3).trans rfl, (blk_cell BK133.out 4).trans rfl, (blk_cell BK133.out 5).trans rfl, (blk_cell BK133.out 6).trans rfl, (blk_cell BK101.out 0).trans rfl, (blk_cell BK101.out 1).trans rfl, (blk_cell BK101.out 2).trans rfl, (blk_cell BK101.out 3).trans rfl, (blk_cell BK101.out 4).trans rfl, (blk_cell BK101.out 5).trans rfl, (blk_cell BK101.out 6).trans rfl⟩ (fun hHeld => ?_)
            generalize wc.drew = w42 at HO_4 HO_7 HO_134002 HO_134003 HO_134005 BK101 BK133 HB hHeld ⊢
            refine take_ (i := 0) (N := some 41) (v := ?_) (a' := ?_) #[true, false, false, false, false] rfl rfl (by kernel_rfl) (fun _ _ _ h => h) (Or.inl ⟨by rfl, ?_⟩) hHeld ?_ ?_
            rotate_left
            · rintro w' ⟨s0, s1, s2, s3, s4, s5, s6, s7, s8, s9, s10, s11, s12, s13⟩
              go_simp
              with_reducible rfl
            rotate_left
            · simp only [Act.put, List.setIfInBounds_toArray, List.set_cons_zero, List.set_cons_succ, i64_w, i32_w]
              rfl
            refine take_ (i := 1) (N := some 42) (v := ?_) (a' := ?_) #[true, true, false, false, false] rfl rfl (by kernel_rfl) (fun _ _ _ h => h) (Or.inl ⟨by rfl, ?_⟩) hHeld ?_ ?_
            rotate_left
            · rintro w' ⟨s0, s1, s2, s3, s4, s5, s6, s7, s8, s9, s10, s11, s12, s13⟩
              go_simp
              with_reducible rfl
            rotate_left
            · simp only [Act.put, List.setIfInBounds_toArray, List.set_cons_zero, List.set_cons_succ, i64_w, i32_w]
              rfl
            refine one_ (i := 2) (N := some 43) #[true, true, true, false, false] rfl rfl (by kernel_rfl) (by decide) (fun K hK => ?_)
            refine goes_ Try.func40 (by kernel_rfl) rfl #[.agg #[.int .i64 a0_0, .int .i64 a0_1, .slice A0_2 l0_2.length c0_2, .slice A0_3 l0_3.length c0_3, .int .i64 a0_4, .slice A0_5 l0_5.length c0_5, .bool a0_6]] (by rfl) rfl rfl (by (try simp only [List.map_toArray, List.map_cons, List.map_nil]); first | done | rfl | (simp only [List.length_drop, List.length_take]; rfl)) ?_
            with_reducible refine (laws_toWeaving.calls kj10 a0_0 a0_1 _ _ l0_2 _ _ l0_3 a0_4 _ _ l0_5 a0_6 t139 t140 t141 t144 t147 t148 t151 _ ?side1 ?side2 ?side3 ?side4 ?side5 ?side6 A37.out).mono ?_
            (case side1 => repeat (first | exact (Kd.C_below HR0_2.out HB.out) | (with_reducible refine Kd.C_alloc ?_ _) | (with_reducible refine Kd.C_drewN ?_ _) | (with_reducible refine Kd.C_drew ?_)))
            (case side2 => exact HC0_2.out)
            (case side3 => repeat (first | exact (Kd.C_below HR0_3.out HB.out) | (with_reducible refine Kd.C_alloc ?_ _) | (with_reducible refine Kd.C_drewN ?_ _) | (with_reducible refine Kd.C_drew ?_)))
            (case side4 => exact HC0_3.out)
            (case side5 => repeat (first | exact (Kd.C_below HR0_5.out HB.out) | (with_reducible refine Kd.C_alloc ?_ _) | (with_reducible refine Kd.C_drewN ?_ _) | (with_reducible refine Kd.C_drew ?_)))
            (case side6 => exact HC0_5.out)
            rintro e w43 ⟨v142, v145, v149, rfl, ho0, ho1, ho2, hb⟩
            refine ⟨_, rfl, ?_⟩
            have n0_ := Aside0.mk (Kd.R_mono (Kd.R_told (Kd.R_told (Kd.R_old (by exact Ho.RS <| HO_4.out) hb) (Kd.R_base ho0)) (Kd.R_base ho1)) (fun _ h_ => h_.1))
            have n1_ := Aside0.mk (Kd.R_mono (Kd.R_told (Kd.R_told (Kd.R_old (by exact Ho.RS <| HO_7.out) hb) (Kd.R_base ho0)) (Kd.R_base ho1)) (fun _ h_ => h_.1))
            have n2_ := Aside0.mk (Kd.R_mono (Kd.R_told (Kd.R_told (Kd.R_old (by exact Ho.RS <| HO_134002.out) hb) (Kd.R_base ho0)) (Kd.R_base ho1)) (fun _ h_ => h_.1))
            have n3_ := Aside0.mk (Kd.R_mono (Kd.R_told (Kd.R_told (Kd.R_old (by exact Ho.RS <| HO_134003.out) hb) (Kd.R_base ho0)) (Kd.R_base ho1)) (fun _ h_ => h_.1))
            have n4_ := Aside0.mk (Kd.R_elder' (by exact Ho.RS <| HO_134005.out) (Kd.R_base ho2) hb)
            have n5_ := Aside0.mk (Kd.R_lower (Kd.R_new' (Kd.R_new' (Kd.R_new' (Kd.R_new' ho0 (Kd.R_lt (by exact Ho.RS <| HO_4.out))) (Kd.R_lt (by exact Ho.RS <| HO_7.out))) (Kd.R_lt (by exact Ho.RS <| HO_134002.out))) (Kd.R_lt (by exact Ho.RS <| HO_134003.out))) (below_size (by exact eS HB.out)))
            have n6_ := Aside0.mk (Kd.R_lower (Kd.R_new' (Kd.R_new' (Kd.R_new' (Kd.R_new' ho1 (Kd.R_lt (by exact Ho.RS <| HO_4.out))) (Kd.R_lt (by exact Ho.RS <| HO_7.out))) (Kd.R_lt (by exact Ho.RS <| HO_134002.out))) (Kd.R_lt (by exact Ho.RS <| HO_134003.out))) (below_size (by exact eS HB.out)))
            have n7_ := Aside0.mk (Kd.R_lower (Kd.R_new' ho2 (Kd.R_lt (by exact Ho.RS <| HO_134005.out))) (below_size (by exact eS HB.out)))
            have n8_ := Aside0.mk (blk_below (bS BK101.out) hb)
            have n9_ := Aside0.mk (blk_below (bS BK133.out) hb)
            have n10_ := Aside0.mk (below_step (by exact eS HB.out) hb)
            clear HO_4
            clear HO_7
            clear HO_134002
            clear HO_134003
            clear HO_134005
            clear BK101
            clear BK133
            clear HB
            have HO_4 := n0_
            have HO_7 := n1_
            have HO_134002 := n2_
            have HO_134003 := n3_
            have HO_134005 := n4_
            have HO143 := n5_
            have HO146 := n6_
            have HO150 := n7_
            have BK101 := n8_
            have BK133 := n9_
            have HB := n10_
            clear n0_ n1_ n2_ n3_ n4_ n5_ n6_ n7_ n8_ n9_ n10_
            (try clear hb)
            (try clear hb2)
            (try clear hk)
            (try clear hi)
            (try clear ho0)
            (try clear ho1)
            (try clear ho2)
            obtain ⟨Ao44, co44, eo44⟩ := Kd.R_slice HO143.out
            (first | subst eo44 | (injection eo44 with f1_ f2_ f3_; have f4_ := f1_.symm; have f5_ := f3_.symm; clear f1_ f2_ f3_; subst f4_; subst f5_))
            obtain ⟨Ao45, co45, eo45⟩ := Kd.R_slice HO146.out
            (first | subst eo45 | (injection eo45 with f1_ f2_ f3_; have f4_ := f1_.symm; have f5_ := f3_.symm; clear f1_ f2_ f3_; subst f4_; subst f5_))
            obtain ⟨Ao46, co46, eo46⟩ := Kd.R_slice HO150.out
            (first | subst eo46 | (injection eo46 with f1_ f2_ f3_; have f4_ := f1_.symm; have f5_ := f3_.symm; clear f1_ f2_ f3_; subst f4_; subst f5_))
            refine hK.out _ _ ⟨(blk_cell BK133.out 0).trans rfl, (blk_cell BK133.out 1).trans rfl, (blk_cell BK133.out 2).trans rfl, (blk_cell BK133.out 3).trans rfl, (blk_cell BK133.out 4).trans rfl, (blk_cell BK133.out 5).trans rfl, (blk_cell BK133.out 6).trans rfl, (blk_cell BK101.out 0).trans rfl, (blk_cell BK101.out 1).trans rfl, (blk_cell BK101.out 2).trans rfl, (blk_cell BK101.out 3).trans rfl, (blk_cell BK101.out 4).trans rfl, (blk_cell BK101.out 5).trans rfl, (blk_cell BK101.out 6).trans rfl⟩ (fun hHeld => ?_)
            clear hK K
            refine norm_ (a' := ?_) ?_ ?_
            rotate_left
            · show Act.put _ (some 43) _ = _
              simp only [Act.put, List.setIfInBounds_toArray, List.set_cons_zero, List.set_cons_succ, i64_w, i32_w]
              rfl
            refine one_ (i := 3) (N := some 44) #[true, true, true, true, false] rfl rfl (by kernel_rfl) (by decide) (fun K hK => ?_)
            refine goes_ Try.func42 (by kernel_rfl) rfl #[.agg #[.int .i64 t120, .int .i64 t121, .slice Ao26 t122.length co26, .slice Ao27 t125.length co27, .int .i64 t128, .slice Ao28 t129.length co28, .bool t132], .agg #[.int .i64 t139, .int .i64 t140, .slice Ao44 t141.length co44, .slice Ao45 t144.length co45, .int .i64 t147, .slice Ao46 t148.length co46, .bool t151]] (by rfl) rfl rfl (by (try simp only [List.map_toArray, List.map_cons, List.map_nil]); first | done | rfl | (simp only [List.length_drop, List.length_take]; rfl)) ?_
            with_reducible refine (laws_eqWeaving.calls kj10 t120 t121 _ _ t122 _ _ t125 t128 _ _ t129 t132 t139 t140 _ _ t141 _ _ t144 t147 _ _ t148 t151 true _ ?side1 ?side2 ?side3 ?side4 ?side5 ?side6 ?side7 ?side8 ?side9 ?side10 ?side11 ?side12 A38.out).mono ?_
            (case side1 => repeat (first | exact (Kd.R_reads' HO_134002.out).2.2 | (with_reducible refine Kd.C_alloc ?_ _) | (with_reducible refine Kd.C_drewN ?_ _) | (with_reducible refine Kd.C_drew ?_)))
            (case side2 => exact (Kd.R_reads' HO_134002.out).2.1)
            (case side3 => repeat (first | exact (Kd.R_reads' HO_134003.out).2.2 | (with_reducible refine Kd.C_alloc ?_ _) | (with_reducible refine Kd.C_drewN ?_ _) | (with_reducible refine Kd.C_drew ?_)))
            (case side4 => exact (Kd.R_reads' HO_134003.out).2.1)
            (case side5 => repeat (first | exact (Kd.R_reads' HO_134005.out).2.2 | (with_reducible refine Kd.C_alloc ?_ _) | (with_reducible refine Kd.C_drewN ?_ _) | (with_reducible refine Kd.C_drew ?_)))
            (case side6 => exact (Kd.R_reads' HO_134005.out).2.1)
            (case side7 => repeat (first | exact (Kd.R_reads' HO143.out).2.2 | (with_reducible refine Kd.C_alloc ?_ _) | (with_reducible refine Kd.C_drewN ?_ _) | (with_reducible refine Kd.C_drew ?_)))
            (case side8 => exact (Kd.R_reads' HO143.out).2.1)
            (case side9 => repeat (first | exact (Kd.R_reads' HO146.out).2.2 | (with_reducible refine Kd.C_alloc ?_ _) | (with_reducible refine Kd.C_drewN ?_ _) | (with_reducible refine Kd.C_drew ?_)))
            (case side10 => exact (Kd.R_reads' HO146.out).2.1)
            (case side11 => repeat (first | exact (Kd.R_reads' HO150.out).2.2 | (with_reducible refine Kd.C_alloc ?_ _) | (with_reducible refine Kd.C_drewN ?_ _) | (with_reducible refine Kd.C_drew ?_)))
            (case side12 => exact (Kd.R_reads' HO150.out).2.1)
            rintro e w47 ⟨rfl, hb⟩
            refine ⟨_, rfl, ?_⟩
            have n0_ := Aside0.mk (Kd.R_below (by exact Ho.RS <| HO_4.out) hb)
            have n1_ := Aside0.mk (Kd.R_below (by exact Ho.RS <| HO_7.out) hb)
            have n2_ := Aside0.mk (Kd.R_below (by exact Ho.RS <| HO_134002.out) hb)
            have n3_ := Aside0.mk (Kd.R_below (by exact Ho.RS <| HO_134003.out) hb)
            have n4_ := Aside0.mk (Kd.R_below (by exact Ho.RS <| HO_134005.out) hb)
            have n5_ := Aside0.mk (Kd.R_below (by exact Ho.RS <| HO143.out) hb)
            have n6_ := Aside0.mk (Kd.R_below (by exact Ho.RS <| HO146.out) hb)
            have n7_ := Aside0.mk (Kd.R_below (by exact Ho.RS <| HO150.out) hb)
            have n8_ := Aside0.mk (blk_below (bS BK101.out) hb)
            have n9_ := Aside0.mk (blk_below (bS BK133.out) hb)
            have n10_ := Aside0.mk (below_step (by exact eS HB.out) hb)
            clear HO_4
            clear HO_7
            clear HO_134002
            clear HO_134003
            clear HO_134005
            clear HO143
            clear HO146
            clear HO150
            clear BK101
            clear BK133
            clear HB
            have HO_4 := n0_
            have HO_7 := n1_
            have HO_134002 := n2_
            have HO_134003 := n3_
            have HO_134005 := n4_
            have HO143 := n5_
            have HO146 := n6_
            have HO150 := n7_
            have BK101 := n8_
            have BK133 := n9_
            have HB := n10_
            clear n0_ n1_ n2_ n3_ n4_ n5_ n6_ n7_ n8_ n9_ n10_
            (try clear hb)
            (try clear hb2)
            (try clear hk)
            (try clear hi)
            refine hK.out _ _ ⟨(blk_cell BK133.out 0).trans rfl, (blk_cell BK133.out 1).trans rfl, (blk_cell BK133.out 2).trans rfl, (blk_cell BK133.out 3).trans rfl, (blk_cell BK133.out 4).trans rfl, (blk_cell BK133.out 5).trans rfl, (blk_cell BK133.out 6).trans rfl, (blk_cell BK101.out 0).trans rfl, (blk_cell BK101.out 1).trans rfl, (blk_cell BK101.out 2).trans rfl, (blk_cell BK101.out 3).trans rfl, (blk_cell BK101.out 4).trans rfl, (blk_cell BK101.out 5).trans rfl, (blk_cell BK101.out 6).trans rfl⟩ (fun hHeld => ?_)
            clear hK K
            refine norm_ (a' := ?_) ?_ ?_
            rotate_left
            · show Act.put _ (some 44) _ = _
              simp only [Act.put, List.setIfInBounds_toArray, List.set_cons_zero, List.set_cons_succ, i64_w, i32_w]
              rfl
            refine pure_ (i := 4) (N := some 45) (v := ?_) (a' := ?_) #[true, true, true, true, true] rfl rfl (by kernel_rfl) (fun _ _ _ h => h) (Or.inl ⟨by rfl, ?_⟩) ?_ ?_
            rotate_left
            · intro w'
              go_simp
              with_reducible rfl
            rotate_left
            · simp only [Act.put, List.setIfInBounds_toArray, List.set_cons_zero, List.set_cons_succ, i64_w, i32_w]
              rfl
            refine done_ (by kernel_rfl) ?_
            have hnb48 := NB133_101.out
            have hnc48 := NB101_133.out
            have hcz49_0 : w47.cell? ⟨gb133, 0, none⟩ = some (.int .i64 t120) := (blk_cell BK133.out 0).trans rfl
            have hcz49_1 : w47.cell? ⟨gb133, 1, none⟩ = some (.int .i64 t121) := (blk_cell BK133.out 1).trans rfl
            have hcz49_2 : w47.cell? ⟨gb133, 2, none⟩ = some (.slice Ao26 t122.length co26) := (blk_cell BK133.out 2).trans rfl
            have hcz49_3 : w47.cell? ⟨gb133, 3, none⟩ = some (.slice Ao27 t125.length co27) := (blk_cell BK133.out 3).trans rfl
            have hcz49_4 : w47.cell? ⟨gb133, 4, none⟩ = some (.int .i64 t128) := (blk_cell BK133.out 4).trans rfl
            have hcz49_5 : w47.cell? ⟨gb133, 5, none⟩ = some (.slice Ao28 t129.length co28) := (blk_cell BK133.out 5).trans rfl
            have hcz49_6 : w47.cell? ⟨gb133, 6, none⟩ = some (.bool t132) := (blk_cell BK133.out 6).trans rfl
            have hfz49_0 := blk_frozen BK133.out 0
            have hfz49_1 := blk_frozen BK133.out 1
            have hfz49_2 := blk_frozen BK133.out 2
            have hfz49_3 := blk_frozen BK133.out 3
            have hfz49_4 := blk_frozen BK133.out 4
            have hfz49_5 := blk_frozen BK133.out 5
            have hfz49_6 := blk_frozen BK133.out 6
            go_upto_region 14 with (first | ((with_reducible refine gate_callee (f := 49) rfl ?_); refine goesL_ (some 48) rfl rfl Try.func49 (by kernel_rfl) rfl #[.agg #[.int .i64 t120, .int .i64 t121, .slice Ao26 t122.length co26, .slice Ao27 t125.length co27, .int .i64 t128, .slice Ao28 t129.length co28, .bool t132], .int .i64 1] rfl (by (try simp only [List.map_toArray, List.map_cons, List.map_nil]); first | done | rfl | (simp only [List.length_drop, List.length_take]; rfl)) ?_; (with_reducible refine (laws_markWeaving.calls kj10 t120 t121 (fun k_ => some k_ = (.slice Ao26 t122.length co26 : Value).ownBlock) (.slice Ao26 t122.length co26) t122 (fun k_ => some k_ = (.slice Ao27 t125.length co27 : Value).ownBlock) (.slice Ao27 t125.length co27) t125 t128 (fun k_ => some k_ = (.slice Ao28 t129.length co28 : Value).ownBlock) (.slice Ao28 t129.length co28) t129 t132 1 t153 t154 t155 t156 w _ ?side1 ?side2 ?side3 ?side4 ?side5 ?side6 A40.out).mono ?_); (case side1 => exact eS HB.out); (case side2 => exact Kd.R_tight rfl HO_134002.out); (case side3 => exact fun k_ e_ => (HO_134002.out.1 k_ e_.symm).1.1.2.2); (case side4 => exact Kd.R_tight rfl HO_134003.out); (case side5 => exact fun k_ e_ => (HO_134003.out.1 k_ e_.symm).1.1.2.2); (case side6 => exact Kd.R_tight rfl HO_134005.out); rintro e w50 ⟨rfl, hy0, hy1, hy2, hb, hkp⟩; refine ⟨_, rfl, ?_⟩; have n0_ := Aside0.mk (Kd.R_mono (ok' := fun k_ => some k_ ≠ (v135 : Value).ownBlock ∧ some k_ ≠ (.slice Ao26 t122.length co26 : Value).ownBlock ∧ some k_ ≠ (.slice Ao27 t125.length co27 : Value).ownBlock ∧ some k_ ≠ (.slice Ao44 t141.length co44 : Value).ownBlock ∧ some k_ ≠ (.slice Ao45 t144.length co45 : Value).ownBlock) (Kd.R_keptB ((Kd.R_apart' HO_4.out (Kd.R_typed HO_134005.out) (by decide))) hkp (fun k_ hk_ hs_ => Or.elim hs_ (fun e_ => (hk_.1.1.1.2.1) e_) (fun e_ => Or.elim e_ (fun e_ => (hk_.1.1.1.2.2) e_) (fun e_ => (hk_.2) e_)))) (fun k_ hk_ => ⟨hk_.1.1.1.1.1, hk_.1.1.1.1.2.1, hk_.1.1.1.1.2.2, hk_.1.1.1.2, hk_.1.1.2⟩)); have n1_ := Aside0.mk (Kd.R_mono (ok' := fun k_ => some k_ ≠ (v117 : Value).ownBlock ∧ some k_ ≠ (.slice Ao26 t122.length co26 : Value).ownBlock ∧ some k_ ≠ (.slice Ao27 t125.length co27 : Value).ownBlock ∧ some k_ ≠ (.slice Ao44 t141.length co44 : Value).ownBlock ∧ some k_ ≠ (.slice Ao45 t144.length co45 : Value).ownBlock) (Kd.R_keptB ((Kd.R_apart' HO_7.out (Kd.R_typed HO_134005.out) (by decide))) hkp (fun k_ hk_ hs_ => Or.elim hs_ (fun e_ => (hk_.1.1.1.2.1) e_) (fun e_ => Or.elim e_ (fun e_ => (hk_.1.1.1.2.2) e_) (fun e_ => (hk_.2) e_)))) (fun k_ hk_ => ⟨hk_.1.1.1.1.1, hk_.1.1.1.1.2.1, hk_.1.1.1.1.2.2, hk_.1.1.1.2, hk_.1.1.2⟩)); have n2_ := Aside0.mk (Kd.R_reok rfl hy0 (fun k_ e_ => HO_134002.out.1 k_ e_)); have n3_ := Aside0.mk (Kd.R_reok rfl hy1 (fun k_ e_ => HO_134003.out.1 k_ e_)); have n4_ := Aside0.mk (Kd.R_reok rfl hy2 (fun k_ e_ => HO_134005.out.1 k_ e_)); have n5_ := Aside0.mk (blk_kept (by exact bS BK101.out) hkp (fun hs_ => Or.elim hs_ (fun e_ => (fun e_ => (Kd.R_ne HO_134002.out BK101.out (by decide)) e_) e_) (fun e_ => Or.elim e_ (fun e_ => (fun e_ => (Kd.R_ne HO_134003.out BK101.out (by decide)) e_) e_) (fun e_ => (fun e_ => (Kd.R_ne HO_134005.out BK101.out (by decide)) e_) e_)))); have n6_ := Aside0.mk (blk_kept (by exact bS BK133.out) hkp (fun hs_ => Or.elim hs_ (fun e_ => (fun e_ => (Kd.R_ne HO_134002.out BK133.out (by decide)) e_) e_) (fun e_ => Or.elim e_ (fun e_ => (fun e_ => (Kd.R_ne HO_134003.out BK133.out (by decide)) e_) e_) (fun e_ => (fun e_ => (Kd.R_ne HO_134005.out BK133.out (by decide)) e_) e_)))); have n7_ := Aside0.mk (Kd.R_mono (ok' := fun k_ => some k_ ≠ (v117 : Value).ownBlock ∧ some k_ ≠ (v135 : Value).ownBlock ∧ some k_ ≠ (.slice Ao26 t122.length co26 : Value).ownBlock ∧ some k_ ≠ (.slice Ao27 t125.length co27 : Value).ownBlock ∧ some k_ ≠ (.slice Ao45 t144.length co45 : Value).ownBlock) (Kd.R_keptB ((Kd.R_apart' HO143.out (Kd.R_typed HO_134005.out) (by decide))) hkp (fun k_ hk_ hs_ => Or.elim hs_ (fun e_ => (hk_.1.1.2) e_) (fun e_ => Or.elim e_ (fun e_ => (hk_.1.2) e_) (fun e_ => (hk_.2) e_)))) (fun k_ hk_ => ⟨hk_.1.1.1.1.1.2, hk_.1.1.1.1.2, hk_.1.1.1.2, hk_.1.1.2, hk_.1.1.1.1.1.1⟩)); have n8_ := Aside0.mk (Kd.R_mono (ok' := fun k_ => some k_ ≠ (v117 : Value).ownBlock ∧ some k_ ≠ (v135 : Value).ownBlock ∧ some k_ ≠ (.slice Ao26 t122.length co26 : Value).ownBlock ∧ some k_ ≠ (.slice Ao27 t125.length co27 : Value).ownBlock ∧ some k_ ≠ (.slice Ao44 t141.length co44 : Value).ownBlock) (Kd.R_keptB ((Kd.R_apart' HO146.out (Kd.R_typed HO_134005.out) (by decide))) hkp (fun k_ hk_ hs_ => Or.elim hs_ (fun e_ => (hk_.1.1.2) e_) (fun e_ => Or.elim e_ (fun e_ => (hk_.1.2) e_) (fun e_ => (hk_.2) e_)))) (fun k_ hk_ => ⟨hk_.1.1.1.1.1.2, hk_.1.1.1.1.2, hk_.1.1.1.2, hk_.1.1.2, hk_.1.1.1.1.1.1⟩)); have n9_ := Aside0.mk (Kd.R_mono (ok' := fun k_ => some k_ ≠ (.slice Ao28 t129.length co28 : Value).ownBlock) (Kd.R_keptB ((Kd.R_apart' (Kd.R_apart' HO150.out (Kd.R_typed HO_134002.out) (by decide)) (Kd.R_typed HO_134003.out) (by decide))) hkp (fun k_ hk_ hs_ => Or.elim hs_ (fun e_ => (hk_.1.2) e_) (fun e_ => Or.elim e_ (fun e_ => (hk_.2) e_) (fun e_ => (hk_.1.1.2) e_)))) (fun k_ hk_ => hk_.1.1.1.2)); have n10_ := Aside0.mk (hb); clear HO_4; clear HO_7; clear HO_134002; clear HO_134003; clear HO_134005; clear BK101; clear BK133; clear HO143; clear HO146; clear HO150; clear HB; have HO_4 := n0_; have HO_7 := n1_; have HO_134002 := n2_; have HO_134003 := n3_; have HO_134005 := n4_; have BK101 := n5_; have BK133 := n6_; have HO143 := n7_; have HO146 := n8_; have HO150 := n9_; have HB := n10_; clear n0_ n1_ n2_ n3_ n4_ n5_ n6_ n7_ n8_ n9_ n10_; (try clear hb); (try clear hkp); (try clear hy0); (try clear hy1); (try clear hy2)))
            (try simp only [Act.put, List.setIfInBounds_toArray, List.set_cons_zero, List.set_cons_succ])
            go_cut [61] (fun v61 wc => ∃ (kq : Nat) (x61_40 : Bool), v61 = .bool x61_40 ∧ Aside0 (laws_FnExactMistakesIn.j1 kq t116 t119 t134 x61_40 a0_0 a0_1 l0_2 l0_3 a0_4 l0_5 a0_6 = some r) ∧ Aside0 (kq ≤ kj10) ∧ Aside0 (Kd.R (Kd.int .i64) 3 wc w.heap.size (fun k_ => some k_ ≠ (v135 : Value).ownBlock ∧ some k_ ≠ ((.slice Ao26 t122.length co26) : Value).ownBlock ∧ some k_ ≠ ((.slice Ao27 t125.length co27) : Value).ownBlock) v117 t116) ∧ Aside0 (Kd.R (Kd.int .i64) 3 wc w.heap.size (fun k_ => some k_ ≠ (v117 : Value).ownBlock ∧ some k_ ≠ ((.slice Ao26 t122.length co26) : Value).ownBlock ∧ some k_ ≠ ((.slice Ao27 t125.length co27) : Value).ownBlock) v135 t134) ∧ Aside0 (Kd.R (Kd.int .i64) 3 wc w.heap.size (fun k_ => some k_ ≠ (v117 : Value).ownBlock ∧ some k_ ≠ (v135 : Value).ownBlock ∧ some k_ ≠ ((.slice Ao27 t125.length co27) : Value).ownBlock) (.slice Ao26 t122.length co26) t154) ∧ Aside0 (Kd.R (Kd.int .i64) 3 wc w.heap.size (fun k_ => some k_ ≠ (v117 : Value).ownBlock ∧ some k_ ≠ (v135 : Value).ownBlock ∧ some k_ ≠ ((.slice Ao26 t122.length co26) : Value).ownBlock) (.slice Ao27 t125.length co27) t155) ∧ Aside0 (Kd.R k89 89 wc w.heap.size (fun _ => True) (.slice Ao28 t129.length co28) t156) ∧ Aside0 (wc.heap[gb101]? = some (.cells #[.int .i64 a0_0, .int .i64 a0_1, (.slice A0_2 l0_2.length c0_2), (.slice A0_3 l0_3.length c0_3), .int .i64 a0_4, (.slice A0_5 l0_5.length c0_5), .bool a0_6] 54 (0, 0))) ∧ Aside0 (wc.heap[gb133]? = some (.cells #[.int .i64 t120, .int .i64 t121, (.slice Ao26 t122.length co26), (.slice Ao27 t125.length co27), .int .i64 t128, (.slice Ao28 t129.length co28), .bool t132] 59 (0, 0))) ∧ Aside0 (Below w.heap.size w wc))
            case first =>
              have H := HC41.out
              clear HC41
              by_cases c51 : t153 < 0
              · rw [if_pos c51] at H
                have c51b0 : decide (t153 < 0) = true := decide_eq_true c51
                clear c51
                (first | rw [c51b0] | (simp only [i64_w, i32_w]; rw [c51b0]) | skip)
                as_aux_lemma =>
                  have H' := Aside0.mk H
                  clear H
                  go_wp2
                  go_meet
                  case rel => exact ⟨_, (true), (by first | rfl | (simp; done) | (simp [*]; done)), H', ⟨by have := HJ10.out; first | omega | exact Nat.le_refl _⟩, ⟨by exact Ho.RS <| Kd.R_mono HO_4.out (fun _ hk => ⟨hk.1, ⟨hk.2.1, hk.2.2.1⟩⟩)⟩, ⟨by exact Ho.RS <| Kd.R_mono HO_7.out (fun _ hk => ⟨hk.1, ⟨hk.2.1, hk.2.2.1⟩⟩)⟩, ⟨by exact Ho.RS <| Kd.R_mono HO_134002.out (fun _ hk => ⟨hk.1.1.1, ⟨hk.1.1.2.1, hk.1.1.2.2⟩⟩)⟩, ⟨by exact Ho.RS <| Kd.R_mono HO_134003.out (fun _ hk => ⟨hk.1.1.1, ⟨hk.1.1.2.1, hk.1.1.2.2⟩⟩)⟩, ⟨by exact Ho.RS <| Kd.R_mono HO_134005.out (fun _ hk => trivial)⟩, ⟨by exact bS BK101.out⟩, ⟨by exact bS BK133.out⟩, ⟨by exact eS HB.out⟩⟩
              · rw [if_neg c51] at H
                have c51b0 : decide (t153 < 0) = false := decide_eq_false c51
                clear c51
                (first | rw [c51b0] | (simp only [i64_w, i32_w]; rw [c51b0]) | skip)
                replace H := Option.bind_eq_some_iff.mp H
                obtain ⟨t157, A520, H⟩ := H
                replace H : (if t157 = true then (laws_FnExactMistakesIn.j1 kj10 t116 t119 t134 (t137 != t119) a0_0 a0_1 l0_2 l0_3 a0_4 l0_5 a0_6) else (laws_FnExactMistakesIn.j1 kj10 t116 t119 t134 true a0_0 a0_1 l0_2 l0_3 a0_4 l0_5 a0_6)) = some r := H
                have A52 := Aside0.mk A520
                clear A520
                by_cases c53 : t157 = true
                · subst c53
                  have H1 : (laws_FnExactMistakesIn.j1 kj10 t116 t119 t134 (t137 != t119) a0_0 a0_1 l0_2 l0_3 a0_4 l0_5 a0_6) = some r := by rw [if_pos rfl] at H; exact H
                  clear H
                  have H := H1
                  clear H1
                  as_aux_lemma =>
                    have H' := Aside0.mk H
                    clear H
                    obtain ⟨Ao54, co54, eo54⟩ := Kd.R_slice HO_7.out
                    subst eo54
                    obtain ⟨Ao55, co55, eo55⟩ := Kd.R_slice HO_4.out
                    subst eo55
                    go_wp2_with (first | (go_at_call 29; (with_reducible refine (laws_eqIntS.calls kj10 _ _ t134 _ _ t116 true _ ?side1 ?side2 ?side3 ?side4 A52.out).mono ?_); (case side1 => repeat (first | exact (Kd.R_reads' HO_7.out).2.2 | (with_reducible refine Kd.C_alloc ?_ _) | (with_reducible refine Kd.C_drewN ?_ _) | (with_reducible refine Kd.C_drew ?_))); (case side2 => exact (Kd.R_reads' HO_7.out).2.1); (case side3 => repeat (first | exact (Kd.R_reads' HO_4.out).2.2 | (with_reducible refine Kd.C_alloc ?_ _) | (with_reducible refine Kd.C_drewN ?_ _) | (with_reducible refine Kd.C_drew ?_))); (case side4 => exact (Kd.R_reads' HO_4.out).2.1); rintro e w' ⟨rfl, ⟨nd, rfl⟩⟩))
                    go_meet
                    case rel => exact ⟨_, ((t137 != t119)), (by first | rfl | (simp; done) | (simp [*]; done)), H', ⟨by have := HJ10.out; first | omega | exact Nat.le_refl _⟩, ⟨by exact Ho.RS <| Kd.R_mono HO_4.out (fun _ hk => ⟨hk.1, ⟨hk.2.1, hk.2.2.1⟩⟩)⟩, ⟨by exact Ho.RS <| Kd.R_mono HO_7.out (fun _ hk => ⟨hk.1, ⟨hk.2.1, hk.2.2.1⟩⟩)⟩, ⟨by exact Ho.RS <| Kd.R_mono HO_134002.out (fun _ hk => ⟨hk.1.1.1, ⟨hk.1.1.2.1, hk.1.1.2.2⟩⟩)⟩, ⟨by exact Ho.RS <| Kd.R_mono HO_134003.out (fun _ hk => ⟨hk.1.1.1, ⟨hk.1.1.2.1, hk.1.1.2.2⟩⟩)⟩, ⟨by exact Ho.RS <| Kd.R_mono HO_134005.out (fun _ hk => trivial)⟩, ⟨by exact bS BK101.out⟩, ⟨by exact bS BK133.out⟩, ⟨by exact eS HB.out⟩⟩
                · replace c53 := Bool.eq_false_iff.mpr c53
                  subst c53
                  have H1 : (laws_FnExactMistakesIn.j1 kj10 t116 t119 t134 true a0_0 a0_1 l0_2 l0_3 a0_4 l0_5 a0_6) = some r := by rw [if_neg (show ¬ (false = true) by decide)] at H; exact H
                  clear H
                  have H := H1
                  clear H1
                  as_aux_lemma =>
                    have H' := Aside0.mk H
                    clear H
                    obtain ⟨Ao56, co56, eo56⟩ := Kd.R_slice HO_7.out
                    subst eo56
                    obtain ⟨Ao57, co57, eo57⟩ := Kd.R_slice HO_4.out
                    subst eo57
                    go_wp2_with (first | (go_at_call 29; (with_reducible refine (laws_eqIntS.calls kj10 _ _ t134 _ _ t116 false _ ?side1 ?side2 ?side3 ?side4 A52.out).mono ?_); (case side1 => repeat (first | exact (Kd.R_reads' HO_7.out).2.2 | (with_reducible refine Kd.C_alloc ?_ _) | (with_reducible refine Kd.C_drewN ?_ _) | (with_reducible refine Kd.C_drew ?_))); (case side2 => exact (Kd.R_reads' HO_7.out).2.1); (case side3 => repeat (first | exact (Kd.R_reads' HO_4.out).2.2 | (with_reducible refine Kd.C_alloc ?_ _) | (with_reducible refine Kd.C_drewN ?_ _) | (with_reducible refine Kd.C_drew ?_))); (case side4 => exact (Kd.R_reads' HO_4.out).2.1); rintro e w' ⟨rfl, ⟨nd, rfl⟩⟩))
                    go_meet
                    case rel => exact ⟨_, (true), (by first | rfl | (simp; done) | (simp [*]; done)), H', ⟨by have := HJ10.out; first | omega | exact Nat.le_refl _⟩, ⟨by exact Ho.RS <| Kd.R_mono HO_4.out (fun _ hk => ⟨hk.1, ⟨hk.2.1, hk.2.2.1⟩⟩)⟩, ⟨by exact Ho.RS <| Kd.R_mono HO_7.out (fun _ hk => ⟨hk.1, ⟨hk.2.1, hk.2.2.1⟩⟩)⟩, ⟨by exact Ho.RS <| Kd.R_mono HO_134002.out (fun _ hk => ⟨hk.1.1.1, ⟨hk.1.1.2.1, hk.1.1.2.2⟩⟩)⟩, ⟨by exact Ho.RS <| Kd.R_mono HO_134003.out (fun _ hk => ⟨hk.1.1.1, ⟨hk.1.1.2.1, hk.1.1.2.2⟩⟩)⟩, ⟨by exact Ho.RS <| Kd.R_mono HO_134005.out (fun _ hk => trivial)⟩, ⟨by exact bS BK101.out⟩, ⟨by exact bS BK133.out⟩, ⟨by exact eS HB.out⟩⟩
            case rest =>
              clear HC41
              try clear c1
              try clear c2
              try clear p2
              try clear c3
              try clear c3b0
              try clear c4
              try clear c5
              try clear c12
              try clear c24
              try clear c29
              try clear c31
              try clear c36
              try clear c38
              try clear c39
              try clear c40
              try clear c42
              try clear c47
              try clear c48
              try clear c49
              try clear c51
              try clear c51b0
              try clear c53
              try clear hcz13_0
              try clear hcz13_1
              try clear hcz13_2
              try clear hcz13_3
              try clear hcz13_4
              try clear hcz13_5
              try clear hcz13_6
              try clear hcz15_0
              try clear hcz15_1
              try clear hcz15_2
              try clear hcz15_3
              try clear hcz15_4
              try clear hcz15_5
              try clear hcz15_6
              try clear hcz21_0
              try clear hcz21_1
              try clear hcz21_2
              try clear hcz21_3
              try clear hcz21_4
              try clear hcz21_5
              try clear hcz21_6
              try clear hcz25_0
              try clear hcz25_1
              try clear hcz25_2
              try clear hcz25_3
              try clear hcz25_4
              try clear hcz25_5
              try clear hcz25_6
              try clear hcz49_0
              try clear hcz49_1
              try clear hcz49_2
              try clear hcz49_3
              try clear hcz49_4
              try clear hcz49_5
              try clear hcz49_6
              try clear hcz5_0
              try clear hcz5_1
              try clear hcz5_2
              try clear hcz5_3
              try clear hcz5_4
              try clear hcz5_5
              try clear hcz5_6
              try clear hfz13_0
              try clear hfz13_1
              try clear hfz13_2
              try clear hfz13_3
              try clear hfz13_4
              try clear hfz13_5
              try clear hfz13_6
              try clear hfz15_0
              try clear hfz15_1
              try clear hfz15_2
              try clear hfz15_3
              try clear hfz15_4
              try clear hfz15_5
              try clear hfz15_6
              try clear hfz21_0
              try clear hfz21_1
              try clear hfz21_2
              try clear hfz21_3
              try clear hfz21_4
              try clear hfz21_5
              try clear hfz21_6
              try clear hfz25_0
              try clear hfz25_1
              try clear hfz25_2
              try clear hfz25_3
              try clear hfz25_4
              try clear hfz25_5
              try clear hfz25_6
              try clear hfz49_0
              try clear hfz49_1
              try clear hfz49_2
              try clear hfz49_3
              try clear hfz49_4
              try clear hfz49_5
              try clear hfz49_6
              try clear hfz5_0
              try clear hfz5_1
              try clear hfz5_2
              try clear hfz5_3
              try clear hfz5_4
              try clear hfz5_5
              try clear hfz5_6
              try clear p2
              obtain ⟨kq, x61_40, rfl, HA, HJ40, HO_4, HO_7, HO_134002, HO_134003, HO_134005, BK101, BK133, HB⟩ := hcut
              have hl134002_40 := (Kd.R_reads' HO_134002.out).1
              rw [hl134002_40] at HO_134002
              (try simp only [hl134002_40])
              (try simp only [hl134002_40] at BK101)
              (try simp only [hl134002_40] at BK133)
              (try simp only [hl134002_40] at HO_4)
              (try simp only [hl134002_40] at HO_7)
              (try simp only [hl134002_40] at HO_134003)
              (try simp only [hl134002_40] at HO_134005)
              have hl134003_40 := (Kd.R_reads' HO_134003.out).1
              rw [hl134003_40] at HO_134003
              (try simp only [hl134003_40])
              (try simp only [hl134003_40] at BK101)
              (try simp only [hl134003_40] at BK133)
              (try simp only [hl134003_40] at HO_4)
              (try simp only [hl134003_40] at HO_7)
              (try simp only [hl134003_40] at HO_134002)
              (try simp only [hl134003_40] at HO_134005)
              have hl134005_40 := (Kd.R_reads' HO_134005.out).1
              rw [hl134005_40] at HO_134005
              (try simp only [hl134005_40])
              (try simp only [hl134005_40] at BK101)
              (try simp only [hl134005_40] at BK133)
              (try simp only [hl134005_40] at HO_4)
              (try simp only [hl134005_40] at HO_7)
              (try simp only [hl134005_40] at HO_134002)
              (try simp only [hl134005_40] at HO_134003)
              cases kq with
              | zero => exact absurd HA.out (by simp [laws_FnExactMistakesIn.j1])
              | succ kj40 =>
                have H := HA.out
                clear HA
                simp only [laws_FnExactMistakesIn.j1] at H
                by_cases c58 : x61_40 = true
                · subst c58
                  have H1 : (some false) = some r := by rw [if_pos rfl] at H; exact H
                  clear H
                  have H := H1
                  clear H1
                  as_aux_lemma =>
                    exact absurd ((Option.some.inj H).trans HT.out) (by decide)
                · replace c58 := Bool.eq_false_iff.mpr c58
                  subst c58
                  have H1 : ((laws_markIntS.f kj40 t134 1).bind fun bt158 => ((laws_heldIntS.f kj40 bt158.2 1).bind fun t160 => (if t160 < 0 then (some false) else (if t160 = bt158.1 then ((laws_toWeaving.f kj40 a0_0 a0_1 l0_2 l0_3 a0_4 l0_5 a0_6).bind fun bt161 => ((impl_MistakesIn.f kj40 bt161.1 bt161.2.1 bt161.2.2.1 bt161.2.2.2.1 bt161.2.2.2.2.1 bt161.2.2.2.2.2.1 bt161.2.2.2.2.2.2).bind fun bt174 => ((laws_eqIntS.f kj40 bt174.1 t116).bind fun t178 => (if t178 = true then (laws_FnExactMistakesIn.j2 kj40 bt158.2 bt158.1 (bt174.2 != t119)) else (laws_FnExactMistakesIn.j2 kj40 bt158.2 bt158.1 true))))) else (some false))))) = some r := by rw [if_neg (show ¬ (false = true) by decide)] at H; exact H
                  clear H
                  have H := H1
                  clear H1
                  replace H := Option.bind_eq_some_iff.mp H
                  obtain ⟨⟨t158, t159⟩, A590, H⟩ := H
                  replace H : ((laws_heldIntS.f kj40 t159 1).bind fun t160 => (if t160 < 0 then (some false) else (if t160 = t158 then ((laws_toWeaving.f kj40 a0_0 a0_1 l0_2 l0_3 a0_4 l0_5 a0_6).bind fun bt161 => ((impl_MistakesIn.f kj40 bt161.1 bt161.2.1 bt161.2.2.1 bt161.2.2.2.1 bt161.2.2.2.2.1 bt161.2.2.2.2.2.1 bt161.2.2.2.2.2.2).bind fun bt174 => ((laws_eqIntS.f kj40 bt174.1 t116).bind fun t178 => (if t178 = true then (laws_FnExactMistakesIn.j2 kj40 t159 t158 (bt174.2 != t119)) else (laws_FnExactMistakesIn.j2 kj40 t159 t158 true))))) else (some false)))) = some r := H
                  have A59 := Aside0.mk A590
                  clear A590
                  replace H := Option.bind_eq_some_iff.mp H
                  obtain ⟨t160, A600, H⟩ := H
                  replace H : (if t160 < 0 then (some false) else (if t160 = t158 then ((laws_toWeaving.f kj40 a0_0 a0_1 l0_2 l0_3 a0_4 l0_5 a0_6).bind fun bt161 => ((impl_MistakesIn.f kj40 bt161.1 bt161.2.1 bt161.2.2.1 bt161.2.2.2.1 bt161.2.2.2.2.1 bt161.2.2.2.2.2.1 bt161.2.2.2.2.2.2).bind fun bt174 => ((laws_eqIntS.f kj40 bt174.1 t116).bind fun t178 => (if t178 = true then (laws_FnExactMistakesIn.j2 kj40 t159 t158 (bt174.2 != t119)) else (laws_FnExactMistakesIn.j2 kj40 t159 t158 true))))) else (some false))) = some r := H
                  have A60 := Aside0.mk A600
                  clear A600
                  by_cases c61 : t160 < 0
                  · rw [if_pos c61] at H
                    have c61b0 : decide (t160 < 0) = true := decide_eq_true c61
                    clear c61
                    as_aux_lemma =>
                      exact absurd ((Option.some.inj H).trans HT.out) (by decide)
                  · rw [if_neg c61] at H
                    have c61b0 : decide (t160 < 0) = false := decide_eq_false c61
                    clear c61
                    by_cases c62 : t160 = t158
                    · rw [if_pos c62] at H
                      have c62b0 : (t160 == t158) = true := beq_iff_eq.mpr c62
                      have c62b1 : (t160 != t158) = false := bne_eq_false_iff_eq.mpr c62
                      clear c62
                      replace H := Option.bind_eq_some_iff.mp H
                      obtain ⟨⟨t161, t162, t163, t166, t169, t170, t173⟩, A630, H⟩ := H
                      replace H : ((impl_MistakesIn.f kj40 t161 t162 t163 t166 t169 t170 t173).bind fun bt174 => ((laws_eqIntS.f kj40 bt174.1 t116).bind fun t178 => (if t178 = true then (laws_FnExactMistakesIn.j2 kj40 t159 t158 (bt174.2 != t119)) else (laws_FnExactMistakesIn.j2 kj40 t159 t158 true)))) = some r := H
                      have A63 := Aside0.mk A630
                      clear A630
                      replace H := Option.bind_eq_some_iff.mp H
                      obtain ⟨⟨t174, t177⟩, A640, H⟩ := H
                      replace H : ((laws_eqIntS.f kj40 t174 t116).bind fun t178 => (if t178 = true then (laws_FnExactMistakesIn.j2 kj40 t159 t158 (t177 != t119)) else (laws_FnExactMistakesIn.j2 kj40 t159 t158 true))) = some r := H
                      have A64 := Aside0.mk A640
                      clear A640
                      have HC65 := Aside0.mk H
                      clear H
                      obtain ⟨Ao66, co66, eo66⟩ := Kd.R_slice HO_7.out
                      subst eo66
                      go_upto_region 25 with (first | ((with_reducible refine gate_callee (f := 32) rfl ?_); refine goesL_ (some 64) rfl rfl Try.func32 (by kernel_rfl) rfl #[.slice Ao66 t134.length co66, .int .i64 1] rfl (by (try simp only [List.map_toArray, List.map_cons, List.map_nil]); first | done | rfl | (simp only [List.length_drop, List.length_take]; rfl)) ?_; (with_reducible refine (laws_markIntS.calls kj40 (fun k_ => some k_ = (.slice Ao66 t134.length co66 : Value).ownBlock) (.slice Ao66 t134.length co66) t134 1 t158 t159 w _ ?side1 ?side2 A59.out).mono ?_); (case side1 => exact eS HB.out); (case side2 => exact Kd.R_tight rfl HO_7.out); rintro e w67 ⟨rfl, hy0, hb, hkp⟩; refine ⟨_, rfl, ?_⟩; have n0_ := Aside0.mk (Kd.R_mono (ok' := fun k_ => some k_ ≠ (.slice Ao66 t134.length co66 : Value).ownBlock ∧ some k_ ≠ (.slice Ao26 t154.length co26 : Value).ownBlock ∧ some k_ ≠ (.slice Ao27 t155.length co27 : Value).ownBlock) (Kd.R_keptB (HO_4.out) hkp (fun k_ hk_ hs_ => (hk_.1) hs_)) (fun k_ hk_ => ⟨hk_.1.1, hk_.1.2.1, hk_.1.2.2⟩)); have n1_ := Aside0.mk (Kd.R_reok rfl hy0 (fun k_ e_ => HO_7.out.1 k_ e_)); have n2_ := Aside0.mk (Kd.R_mono (ok' := fun k_ => some k_ ≠ (v117 : Value).ownBlock ∧ some k_ ≠ (.slice Ao66 t134.length co66 : Value).ownBlock ∧ some k_ ≠ (.slice Ao27 t155.length co27 : Value).ownBlock) (Kd.R_keptB (HO_134002.out) hkp (fun k_ hk_ hs_ => (hk_.2.1) hs_)) (fun k_ hk_ => ⟨hk_.1.1, hk_.1.2.1, hk_.1.2.2⟩)); have n3_ := Aside0.mk (Kd.R_mono (ok' := fun k_ => some k_ ≠ (v117 : Value).ownBlock ∧ some k_ ≠ (.slice Ao66 t134.length co66 : Value).ownBlock ∧ some k_ ≠ (.slice Ao26 t154.length co26 : Value).ownBlock) (Kd.R_keptB (HO_134003.out) hkp (fun k_ hk_ hs_ => (hk_.2.1) hs_)) (fun k_ hk_ => ⟨hk_.1.1, hk_.1.2.1, hk_.1.2.2⟩)); have n4_ := Aside0.mk (Kd.R_mono (ok' := fun k_ => True) (Kd.R_keptB ((Kd.R_apart' HO_134005.out (Kd.R_typed HO_7.out) (by decide))) hkp (fun k_ hk_ hs_ => (hk_.2) hs_)) (fun k_ hk_ => trivial)); have n5_ := Aside0.mk (blk_kept (by exact bS BK101.out) hkp (fun hs_ => (fun e_ => (Kd.R_ne HO_7.out BK101.out (by decide)) e_) hs_)); have n6_ := Aside0.mk (blk_kept (by exact bS BK133.out) hkp (fun hs_ => (fun e_ => (Kd.R_ne HO_7.out BK133.out (by decide)) e_) hs_)); have n7_ := Aside0.mk (hb); clear HO_4; clear HO_7; clear HO_134002; clear HO_134003; clear HO_134005; clear BK101; clear BK133; clear HB; have HO_4 := n0_; have HO_7 := n1_; have HO_134002 := n2_; have HO_134003 := n3_; have HO_134005 := n4_; have BK101 := n5_; have BK133 := n6_; have HB := n7_; clear n0_ n1_ n2_ n3_ n4_ n5_ n6_ n7_; (try clear hb); (try clear hkp); (try clear hy0)) | ((with_reducible refine gate_callee (f := 33) rfl ?_); refine goesL_ (some 67) rfl rfl Try.func33 (by kernel_rfl) rfl #[.slice Ao66 t159.length co66, .int .i64 1] rfl (by (try simp only [List.map_toArray, List.map_cons, List.map_nil]); first | done | (rw [show t159.length = t134.length from (Kd.R_reads' HO_7.out).1.symm] <;> rfl) | rfl | (simp only [List.length_drop, List.length_take]; rfl)) ?_; (with_reducible refine (laws_heldIntS.calls kj40 _ _ t159 1 t160 _ ?side1 ?side2 A60.out).mono ?_); (case side1 => repeat (first | exact (Kd.R_reads' HO_7.out).2.2 | (with_reducible refine Kd.C_alloc ?_ _) | (with_reducible refine Kd.C_drewN ?_ _) | (with_reducible refine Kd.C_drew ?_))); (case side2 => rw [show t159.length = t134.length from (Kd.R_reads' HO_7.out).1.symm]; exact (Kd.R_reads' HO_7.out).2.1); rintro e w' ⟨rfl, ⟨nd, rfl⟩⟩; refine ⟨_, rfl, ?_⟩; have hnb68 := NB101_133.out; have hnc68 := NB133_101.out; have hcz69_0 : w67.cell? ⟨gb101, 0, none⟩ = some (.int .i64 a0_0) := (blk_cell BK101.out 0).trans rfl; have hcz69_1 : w67.cell? ⟨gb101, 1, none⟩ = some (.int .i64 a0_1) := (blk_cell BK101.out 1).trans rfl; have hcz69_2 : w67.cell? ⟨gb101, 2, none⟩ = some (.slice A0_2 l0_2.length c0_2) := (blk_cell BK101.out 2).trans rfl; have hcz69_3 : w67.cell? ⟨gb101, 3, none⟩ = some (.slice A0_3 l0_3.length c0_3) := (blk_cell BK101.out 3).trans rfl; have hcz69_4 : w67.cell? ⟨gb101, 4, none⟩ = some (.int .i64 a0_4) := (blk_cell BK101.out 4).trans rfl; have hcz69_5 : w67.cell? ⟨gb101, 5, none⟩ = some (.slice A0_5 l0_5.length c0_5) := (blk_cell BK101.out 5).trans rfl; have hcz69_6 : w67.cell? ⟨gb101, 6, none⟩ = some (.bool a0_6) := (blk_cell BK101.out 6).trans rfl; have hfz69_0 := blk_frozen BK101.out 0; have hfz69_1 := blk_frozen BK101.out 1; have hfz69_2 := blk_frozen BK101.out 2; have hfz69_3 := blk_frozen BK101.out 3; have hfz69_4 := blk_frozen BK101.out 4; have hfz69_5 := blk_frozen BK101.out 5; have hfz69_6 := blk_frozen BK101.out 6) | ((with_reducible refine gate_callee (f := 40) rfl ?_); refine goesL_ (some 75) rfl rfl Try.func40 (by kernel_rfl) rfl #[.agg #[.int .i64 a0_0, .int .i64 a0_1, .slice A0_2 l0_2.length c0_2, .slice A0_3 l0_3.length c0_3, .int .i64 a0_4, .slice A0_5 l0_5.length c0_5, .bool a0_6]] rfl (by (try simp only [List.map_toArray, List.map_cons, List.map_nil]); first | done | rfl | (simp only [List.length_drop, List.length_take]; rfl)) ?_; (with_reducible refine (laws_toWeaving.calls kj40 a0_0 a0_1 _ _ l0_2 _ _ l0_3 a0_4 _ _ l0_5 a0_6 t161 t162 t163 t166 t169 t170 t173 _ ?side1 ?side2 ?side3 ?side4 ?side5 ?side6 A63.out).mono ?_); (case side1 => repeat (first | exact (Kd.C_below HR0_2.out (by exact eS HB.out)) | (with_reducible refine Kd.C_alloc ?_ _) | (with_reducible refine Kd.C_drewN ?_ _) | (with_reducible refine Kd.C_drew ?_))); (case side2 => exact HC0_2.out); (case side3 => repeat (first | exact (Kd.C_below HR0_3.out (by exact eS HB.out)) | (with_reducible refine Kd.C_alloc ?_ _) | (with_reducible refine Kd.C_drewN ?_ _) | (with_reducible refine Kd.C_drew ?_))); (case side4 => exact HC0_3.out); (case side5 => repeat (first | exact (Kd.C_below HR0_5.out (by exact eS HB.out)) | (with_reducible refine Kd.C_alloc ?_ _) | (with_reducible refine Kd.C_drewN ?_ _) | (with_reducible refine Kd.C_drew ?_))); (case side6 => exact HC0_5.out); rintro e w70 ⟨v164, v167, v171, rfl, ho0, ho1, ho2, hb⟩; refine ⟨_, rfl, ?_⟩; have n0_ := Aside0.mk (Kd.R_mono (Kd.R_told (Kd.R_told (Kd.R_old (by exact Ho.RS <| HO_4.out) hb) (Kd.R_base ho0)) (Kd.R_base ho1)) (fun _ h_ => h_.1)); have n1_ := Aside0.mk (Kd.R_mono (Kd.R_told (Kd.R_told (Kd.R_old (by exact Ho.RS <| HO_7.out) hb) (Kd.R_base ho0)) (Kd.R_base ho1)) (fun _ h_ => h_.1)); have n2_ := Aside0.mk (Kd.R_mono (Kd.R_told (Kd.R_told (Kd.R_old (by exact Ho.RS <| HO_134002.out) hb) (Kd.R_base ho0)) (Kd.R_base ho1)) (fun _ h_ => h_.1)); have n3_ := Aside0.mk (Kd.R_mono (Kd.R_told (Kd.R_told (Kd.R_old (by exact Ho.RS <| HO_134003.out) hb) (Kd.R_base ho0)) (Kd.R_base ho1)) (fun _ h_ => h_.1)); have n4_ := Aside0.mk (Kd.R_elder' (by exact Ho.RS <| HO_134005.out) (Kd.R_base ho2) hb); have n5_ := Aside0.mk (Kd.R_lower (Kd.R_new' (Kd.R_new' (Kd.R_new' (Kd.R_new' ho0 (Kd.R_lt (by exact Ho.RS <| HO_4.out))) (Kd.R_lt (by exact Ho.RS <| HO_7.out))) (Kd.R_lt (by exact Ho.RS <| HO_134002.out))) (Kd.R_lt (by exact Ho.RS <| HO_134003.out))) (below_size (by exact eS HB.out))); have n6_ := Aside0.mk (Kd.R_lower (Kd.R_new' (Kd.R_new' (Kd.R_new' (Kd.R_new' ho1 (Kd.R_lt (by exact Ho.RS <| HO_4.out))) (Kd.R_lt (by exact Ho.RS <| HO_7.out))) (Kd.R_lt (by exact Ho.RS <| HO_134002.out))) (Kd.R_lt (by exact Ho.RS <| HO_134003.out))) (below_size (by exact eS HB.out))); have n7_ := Aside0.mk (Kd.R_lower (Kd.R_new' ho2 (Kd.R_lt (by exact Ho.RS <| HO_134005.out))) (below_size (by exact eS HB.out))); have n8_ := Aside0.mk (blk_below (bS BK101.out) hb); have n9_ := Aside0.mk (blk_below (bS BK133.out) hb); have n10_ := Aside0.mk (below_step (by exact eS HB.out) hb); clear HO_4; clear HO_7; clear HO_134002; clear HO_134003; clear HO_134005; clear BK101; clear BK133; clear HB; have HO_4 := n0_; have HO_7 := n1_; have HO_134002 := n2_; have HO_134003 := n3_; have HO_134005 := n4_; have HO165 := n5_; have HO168 := n6_; have HO172 := n7_; have BK101 := n8_; have BK133 := n9_; have HB := n10_; clear n0_ n1_ n2_ n3_ n4_ n5_ n6_ n7_ n8_ n9_ n10_; (try clear hb); (try clear hb2); (try clear hk); (try clear hi); (try clear ho0); (try clear ho1); (try clear ho2); obtain ⟨Ao71, co71, eo71⟩ := Kd.R_slice HO165.out; subst eo71; obtain ⟨Ao72, co72, eo72⟩ := Kd.R_slice HO168.out; subst eo72; obtain ⟨Ao73, co73, eo73⟩ := Kd.R_slice HO172.out; subst eo73) | ((with_reducible refine gate_callee (f := 48) rfl ?_); refine goesL_ (some 76) rfl rfl Try.func48 (by kernel_rfl) rfl #[.agg #[.int .i64 t161, .int .i64 t162, .slice Ao71 t163.length co71, .slice Ao72 t166.length co72, .int .i64 t169, .slice Ao73 t170.length co73, .bool t173]] rfl (by (try simp only [List.map_toArray, List.map_cons, List.map_nil]); first | done | rfl | (simp only [List.length_drop, List.length_take]; rfl)) ?_; (with_reducible refine (impl_MistakesIn.calls kj40 t161 t162 _ _ t163 _ _ t166 t169 _ _ t170 t173 t174 t177 _ ?side1 ?side2 ?side3 ?side4 ?side5 ?side6 A64.out).mono ?_); (case side1 => repeat (first | exact (Kd.R_reads' HO165.out).2.2 | (with_reducible refine Kd.C_alloc ?_ _) | (with_reducible refine Kd.C_drewN ?_ _) | (with_reducible refine Kd.C_drew ?_))); (case side2 => exact (Kd.R_reads' HO165.out).2.1); (case side3 => repeat (first | exact (Kd.R_reads' HO168.out).2.2 | (with_reducible refine Kd.C_alloc ?_ _) | (with_reducible refine Kd.C_drewN ?_ _) | (with_reducible refine Kd.C_drew ?_))); (case side4 => exact (Kd.R_reads' HO168.out).2.1); (case side5 => repeat (first | exact (Kd.R_reads' HO172.out).2.2 | (with_reducible refine Kd.C_alloc ?_ _) | (with_reducible refine Kd.C_drewN ?_ _) | (with_reducible refine Kd.C_drew ?_))); (case side6 => exact (Kd.R_reads' HO172.out).2.1); rintro e w74 ⟨v175, rfl, ho0, hb⟩; refine ⟨_, rfl, ?_⟩; have n0_ := Aside0.mk (Kd.R_elder' (by exact Ho.RS <| HO_4.out) (Kd.R_base ho0) hb); have n1_ := Aside0.mk (Kd.R_elder' (by exact Ho.RS <| HO_7.out) (Kd.R_base ho0) hb); have n2_ := Aside0.mk (Kd.R_elder' (by exact Ho.RS <| HO_134002.out) (Kd.R_base ho0) hb); have n3_ := Aside0.mk (Kd.R_elder' (by exact Ho.RS <| HO_134003.out) (Kd.R_base ho0) hb); have n4_ := Aside0.mk (Kd.R_below (by exact Ho.RS <| HO_134005.out) hb); have n5_ := Aside0.mk (Kd.R_elder' (by exact Ho.RS <| HO165.out) (Kd.R_base ho0) hb); have n6_ := Aside0.mk (Kd.R_elder' (by exact Ho.RS <| HO168.out) (Kd.R_base ho0) hb); have n7_ := Aside0.mk (Kd.R_below (by exact Ho.RS <| HO172.out) hb); have n8_ := Aside0.mk (Kd.R_lower (Kd.R_new' (Kd.R_new' (Kd.R_new' (Kd.R_new' (Kd.R_new' (Kd.R_new' ho0 (Kd.R_lt (by exact Ho.RS <| HO_4.out))) (Kd.R_lt (by exact Ho.RS <| HO_7.out))) (Kd.R_lt (by exact Ho.RS <| HO_134002.out))) (Kd.R_lt (by exact Ho.RS <| HO_134003.out))) (Kd.R_lt (by exact Ho.RS <| HO165.out))) (Kd.R_lt (by exact Ho.RS <| HO168.out))) (below_size (by exact eS HB.out))); have n9_ := Aside0.mk (blk_below (bS BK101.out) hb); have n10_ := Aside0.mk (blk_below (bS BK133.out) hb); have n11_ := Aside0.mk (below_step (by exact eS HB.out) hb); clear HO_4; clear HO_7; clear HO_134002; clear HO_134003; clear HO_134005; clear HO165; clear HO168; clear HO172; clear BK101; clear BK133; clear HB; have HO_4 := n0_; have HO_7 := n1_; have HO_134002 := n2_; have HO_134003 := n3_; have HO_134005 := n4_; have HO165 := n5_; have HO168 := n6_; have HO172 := n7_; have HO176 := n8_; have BK101 := n9_; have BK133 := n10_; have HB := n11_; clear n0_ n1_ n2_ n3_ n4_ n5_ n6_ n7_ n8_ n9_ n10_ n11_; (try clear hb); (try clear hb2); (try clear hk); (try clear hi); (try clear ho0)))
                      (try simp only [Act.put, List.setIfInBounds_toArray, List.set_cons_zero, List.set_cons_succ])
                      go_cut [87] (fun v87 wc => ∃ (kq : Nat) (x87_64 : Bool), v87 = .bool x87_64 ∧ Aside0 (laws_FnExactMistakesIn.j2 kq t159 t158 x87_64 = some r) ∧ Aside0 (kq ≤ kj40) ∧ Aside0 (Kd.R (Kd.int .i64) 3 wc w.heap.size (fun k_ => some k_ ≠ ((.slice Ao26 t154.length co26) : Value).ownBlock ∧ some k_ ≠ ((.slice Ao27 t155.length co27) : Value).ownBlock) (.slice Ao66 t134.length co66) t159) ∧ Aside0 (Kd.R (Kd.int .i64) 3 wc w.heap.size (fun k_ => some k_ ≠ ((.slice Ao66 t134.length co66) : Value).ownBlock ∧ some k_ ≠ ((.slice Ao27 t155.length co27) : Value).ownBlock) (.slice Ao26 t154.length co26) t154) ∧ Aside0 (Kd.R (Kd.int .i64) 3 wc w.heap.size (fun k_ => some k_ ≠ ((.slice Ao66 t134.length co66) : Value).ownBlock ∧ some k_ ≠ ((.slice Ao26 t154.length co26) : Value).ownBlock) (.slice Ao27 t155.length co27) t155) ∧ Aside0 (Kd.R k89 89 wc w.heap.size (fun _ => True) (.slice Ao28 t156.length co28) t156) ∧ Aside0 (wc.heap[gb101]? = some (.cells #[.int .i64 a0_0, .int .i64 a0_1, (.slice A0_2 l0_2.length c0_2), (.slice A0_3 l0_3.length c0_3), .int .i64 a0_4, (.slice A0_5 l0_5.length c0_5), .bool a0_6] 54 (0, 0))) ∧ Aside0 (wc.heap[gb133]? = some (.cells #[.int .i64 t120, .int .i64 t121, (.slice Ao26 t154.length co26), (.slice Ao27 t155.length co27), .int .i64 t128, (.slice Ao28 t156.length co28), .bool t132] 59 (0, 0))) ∧ Aside0 (Below w.heap.size w wc))
                      case first =>
                        have H := HC65.out
                        clear HC65
                        replace H := Option.bind_eq_some_iff.mp H
                        obtain ⟨t178, A750, H⟩ := H
                        replace H : (if t178 = true then (laws_FnExactMistakesIn.j2 kj40 t159 t158 (t177 != t119)) else (laws_FnExactMistakesIn.j2 kj40 t159 t158 true)) = some r := H
                        have A75 := Aside0.mk A750
                        clear A750
                        by_cases c76 : t178 = true
                        · subst c76
                          have H1 : (laws_FnExactMistakesIn.j2 kj40 t159 t158 (t177 != t119)) = some r := by rw [if_pos rfl] at H; exact H
                          clear H
                          have H := H1
                          clear H1
                          as_aux_lemma =>
                            have H' := Aside0.mk H
                            clear H
                            obtain ⟨Ao77, co77, eo77⟩ := Kd.R_slice HO176.out
                            subst eo77
                            obtain ⟨Ao78, co78, eo78⟩ := Kd.R_slice HO_4.out
                            subst eo78
                            go_wp2_with (first | ((with_reducible refine gate_callee (f := 29) rfl ?_); refine goesL_ (some 81) rfl rfl Try.func29 (by kernel_rfl) rfl #[.slice Ao77 t174.length co77, .slice Ao78 t116.length co78] rfl (by (try simp only [List.map_toArray, List.map_cons, List.map_nil]); first | done | rfl | (simp only [List.length_drop, List.length_take]; rfl)) ?_; (with_reducible refine (laws_eqIntS.calls kj40 _ _ t174 _ _ t116 true _ ?side1 ?side2 ?side3 ?side4 A75.out).mono ?_); (case side1 => repeat (first | exact (Kd.R_reads' HO176.out).2.2 | (with_reducible refine Kd.C_alloc ?_ _) | (with_reducible refine Kd.C_drewN ?_ _) | (with_reducible refine Kd.C_drew ?_))); (case side2 => exact (Kd.R_reads' HO176.out).2.1); (case side3 => repeat (first | exact (Kd.R_reads' HO_4.out).2.2 | (with_reducible refine Kd.C_alloc ?_ _) | (with_reducible refine Kd.C_drewN ?_ _) | (with_reducible refine Kd.C_drew ?_))); (case side4 => exact (Kd.R_reads' HO_4.out).2.1); rintro e w' ⟨rfl, ⟨nd, rfl⟩⟩; refine ⟨_, rfl, ?_⟩))
                            go_meet
                            case rel => exact ⟨_, ((t177 != t119)), (by first | rfl | (simp; done) | (simp [*]; done)), H', ⟨by have := HJ10.out; have := HJ40.out; first | omega | exact Nat.le_refl _⟩, ⟨by (try simp only [hl134002_40]); (try simp only [hl134003_40]); (try simp only [hl134005_40]); exact Ho.RS <| Kd.R_mono HO_7.out (fun _ hk => ⟨hk.1.1.1.2.1, hk.1.1.1.2.2⟩)⟩, ⟨by (try simp only [hl134002_40]); (try simp only [hl134003_40]); (try simp only [hl134005_40]); exact Ho.RS <| Kd.R_mono HO_134002.out (fun _ hk => ⟨hk.1.1.1.2.1, hk.1.1.1.2.2⟩)⟩, ⟨by (try simp only [hl134002_40]); (try simp only [hl134003_40]); (try simp only [hl134005_40]); exact Ho.RS <| Kd.R_mono HO_134003.out (fun _ hk => ⟨hk.1.1.1.2.1, hk.1.1.1.2.2⟩)⟩, ⟨by (try simp only [hl134002_40]); (try simp only [hl134003_40]); (try simp only [hl134005_40]); exact Ho.RS <| Kd.R_mono HO_134005.out (fun _ hk => trivial)⟩, ⟨by (try simp only [hl134002_40]); (try simp only [hl134003_40]); (try simp only [hl134005_40]); exact bS BK101.out⟩, ⟨by (try simp only [hl134002_40]); (try simp only [hl134003_40]); (try simp only [hl134005_40]); exact bS BK133.out⟩, ⟨by exact eS HB.out⟩⟩
                        · replace c76 := Bool.eq_false_iff.mpr c76
                          subst c76
                          have H1 : (laws_FnExactMistakesIn.j2 kj40 t159 t158 true) = some r := by rw [if_neg (show ¬ (false = true) by decide)] at H; exact H
                          clear H
                          have H := H1
                          clear H1
                          as_aux_lemma =>
                            have H' := Aside0.mk H
                            clear H
                            obtain ⟨Ao79, co79, eo79⟩ := Kd.R_slice HO176.out
                            subst eo79
                            obtain ⟨Ao80, co80, eo80⟩ := Kd.R_slice HO_4.out
                            subst eo80
                            go_wp2_with (first | ((with_reducible refine gate_callee (f := 29) rfl ?_); refine goesL_ (some 81) rfl rfl Try.func29 (by kernel_rfl) rfl #[.slice Ao79 t174.length co79, .slice Ao80 t116.length co80] rfl (by (try simp only [List.map_toArray, List.map_cons, List.map_nil]); first | done | rfl | (simp only [List.length_drop, List.length_take]; rfl)) ?_; (with_reducible refine (laws_eqIntS.calls kj40 _ _ t174 _ _ t116 false _ ?side1 ?side2 ?side3 ?side4 A75.out).mono ?_); (case side1 => repeat (first | exact (Kd.R_reads' HO176.out).2.2 | (with_reducible refine Kd.C_alloc ?_ _) | (with_reducible refine Kd.C_drewN ?_ _) | (with_reducible refine Kd.C_drew ?_))); (case side2 => exact (Kd.R_reads' HO176.out).2.1); (case side3 => repeat (first | exact (Kd.R_reads' HO_4.out).2.2 | (with_reducible refine Kd.C_alloc ?_ _) | (with_reducible refine Kd.C_drewN ?_ _) | (with_reducible refine Kd.C_drew ?_))); (case side4 => exact (Kd.R_reads' HO_4.out).2.1); rintro e w' ⟨rfl, ⟨nd, rfl⟩⟩; refine ⟨_, rfl, ?_⟩))
                            go_meet
                            case rel => exact ⟨_, (true), (by first | rfl | (simp; done) | (simp [*]; done)), H', ⟨by have := HJ10.out; have := HJ40.out; first | omega | exact Nat.le_refl _⟩, ⟨by (try simp only [hl134002_40]); (try simp only [hl134003_40]); (try simp only [hl134005_40]); exact Ho.RS <| Kd.R_mono HO_7.out (fun _ hk => ⟨hk.1.1.1.2.1, hk.1.1.1.2.2⟩)⟩, ⟨by (try simp only [hl134002_40]); (try simp only [hl134003_40]); (try simp only [hl134005_40]); exact Ho.RS <| Kd.R_mono HO_134002.out (fun _ hk => ⟨hk.1.1.1.2.1, hk.1.1.1.2.2⟩)⟩, ⟨by (try simp only [hl134002_40]); (try simp only [hl134003_40]); (try simp only [hl134005_40]); exact Ho.RS <| Kd.R_mono HO_134003.out (fun _ hk => ⟨hk.1.1.1.2.1, hk.1.1.1.2.2⟩)⟩, ⟨by (try simp only [hl134002_40]); (try simp only [hl134003_40]); (try simp only [hl134005_40]); exact Ho.RS <| Kd.R_mono HO_134005.out (fun _ hk => trivial)⟩, ⟨by (try simp only [hl134002_40]); (try simp only [hl134003_40]); (try simp only [hl134005_40]); exact bS BK101.out⟩, ⟨by (try simp only [hl134002_40]); (try simp only [hl134003_40]); (try simp only [hl134005_40]); exact bS BK133.out⟩, ⟨by exact eS HB.out⟩⟩
                      case rest =>
                        clear HC65
                        try clear c1
                        try clear c2
                        try clear p2
                        try clear c3
                        try clear c3b0
                        try clear c4
                        try clear c5
                        try clear c6
                        try clear c7
                        try clear c12
                        try clear c24
                        try clear c29
                        try clear c31
                        try clear c32
                        try clear c33
                        try clear c36
                        try clear c38
                        try clear c39
                        try clear c40
                        try clear c42
                        try clear c47
                        try clear c48
                        try clear c49
                        try clear c51
                        try clear c51b0
                        try clear c53
                        try clear c58
                        try clear c61
                        try clear c61b0
                        try clear c62
                        try clear c62b0
                        try clear c62b1
                        try clear c68
                        try clear c76
                        try clear hcz13_0
                        try clear hcz13_1
                        try clear hcz13_2
                        try clear hcz13_3
                        try clear hcz13_4
                        try clear hcz13_5
                        try clear hcz13_6
                        try clear hcz15_0
                        try clear hcz15_1
                        try clear hcz15_2
                        try clear hcz15_3
                        try clear hcz15_4
                        try clear hcz15_5
                        try clear hcz15_6
                        try clear hcz21_0
                        try clear hcz21_1
                        try clear hcz21_2
                        try clear hcz21_3
                        try clear hcz21_4
                        try clear hcz21_5
                        try clear hcz21_6
                        try clear hcz25_0
                        try clear hcz25_1
                        try clear hcz25_2
                        try clear hcz25_3
                        try clear hcz25_4
                        try clear hcz25_5
                        try clear hcz25_6
                        try clear hcz49_0
                        try clear hcz49_1
                        try clear hcz49_2
                        try clear hcz49_3
                        try clear hcz49_4
                        try clear hcz49_5
                        try clear hcz49_6
                        try clear hcz5_0
                        try clear hcz5_1
                        try clear hcz5_2
                        try clear hcz5_3
                        try clear hcz5_4
                        try clear hcz5_5
                        try clear hcz5_6
                        try clear hcz69_0
                        try clear hcz69_1
                        try clear hcz69_2
                        try clear hcz69_3
                        try clear hcz69_4
                        try clear hcz69_5
                        try clear hcz69_6
                        try clear hfz13_0
                        try clear hfz13_1
                        try clear hfz13_2
                        try clear hfz13_3
                        try clear hfz13_4
                        try clear hfz13_5
                        try clear hfz13_6
                        try clear hfz15_0
                        try clear hfz15_1
                        try clear hfz15_2
                        try clear hfz15_3
                        try clear hfz15_4
                        try clear hfz15_5
                        try clear hfz15_6
                        try clear hfz21_0
                        try clear hfz21_1
                        try clear hfz21_2
                        try clear hfz21_3
                        try clear hfz21_4
                        try clear hfz21_5
                        try clear hfz21_6
                        try clear hfz25_0
                        try clear hfz25_1
                        try clear hfz25_2
                        try clear hfz25_3
                        try clear hfz25_4
                        try clear hfz25_5
                        try clear hfz25_6
                        try clear hfz49_0
                        try clear hfz49_1
                        try clear hfz49_2
                        try clear hfz49_3
                        try clear hfz49_4
                        try clear hfz49_5
                        try clear hfz49_6
                        try clear hfz5_0
                        try clear hfz5_1
                        try clear hfz5_2
                        try clear hfz5_3
                        try clear hfz5_4
                        try clear hfz5_5
                        try clear hfz5_6
                        try clear hfz69_0
                        try clear hfz69_1
                        try clear hfz69_2
                        try clear hfz69_3
                        try clear hfz69_4
                        try clear hfz69_5
                        try clear hfz69_6
                        try clear p2
                        obtain ⟨kq, x87_64, rfl, HA, HJ64, HO_7, HO_134002, HO_134003, HO_134005, BK101, BK133, HB⟩ := hcut
                        have hl7_64 := (Kd.R_reads' HO_7.out).1
                        rw [hl7_64] at HO_7
                        (try simp only [hl7_64])
                        (try simp only [hl7_64] at BK101)
                        (try simp only [hl7_64] at BK133)
                        (try simp only [hl7_64] at HO_134002)
                        (try simp only [hl7_64] at HO_134003)
                        (try simp only [hl7_64] at HO_134005)
                        cases kq with
                        | zero => exact absurd HA.out (by simp [laws_FnExactMistakesIn.j2])
                        | succ kj64 =>
                          have H := HA.out
                          clear HA
                          simp only [laws_FnExactMistakesIn.j2] at H
                          by_cases c81 : x87_64 = true
                          · subst c81
                            have H1 : (some false) = some r := by rw [if_pos rfl] at H; exact H
                            clear H
                            have H := H1
                            clear H1
                            as_aux_lemma =>
                              exact absurd ((Option.some.inj H).trans HT.out) (by decide)
                          · replace c81 := Bool.eq_false_iff.mpr c81
                            subst c81
                            have H1 : ((laws_heldIntS.f kj64 t159 1).bind fun t179 => (if t179 < 0 then (some false) else (if t179 = t158 then (some true) else (some false)))) = some r := by rw [if_neg (show ¬ (false = true) by decide)] at H; exact H
                            clear H
                            have H := H1
                            clear H1
                            replace H := Option.bind_eq_some_iff.mp H
                            obtain ⟨t179, A820, H⟩ := H
                            replace H : (if t179 < 0 then (some false) else (if t179 = t158 then (some true) else (some false))) = some r := H
                            have A82 := Aside0.mk A820
                            clear A820
                            by_cases c83 : t179 < 0
                            · rw [if_pos c83] at H
                              have c83b0 : decide (t179 < 0) = true := decide_eq_true c83
                              clear c83
                              as_aux_lemma =>
                                exact absurd ((Option.some.inj H).trans HT.out) (by decide)
                            · rw [if_neg c83] at H
                              have c83b0 : decide (t179 < 0) = false := decide_eq_false c83
                              clear c83
                              by_cases c84 : t179 = t158
                              · rw [if_pos c84] at H
                                have c84b0 : (t179 == t158) = true := beq_iff_eq.mpr c84
                                have c84b1 : (t179 != t158) = false := bne_eq_false_iff_eq.mpr c84
                                clear c84
                                as_aux_lemma =>
                                  obtain rfl := Option.some.inj H
                                  go_wp2_with (first | ((with_reducible refine gate_callee (f := 33) rfl ?_); refine goesL_ (some 90) rfl rfl Try.func33 (by kernel_rfl) rfl #[.slice Ao66 t159.length co66, .int .i64 1] rfl (by (try simp only [List.map_toArray, List.map_cons, List.map_nil]); first | done | rfl | (simp only [List.length_drop, List.length_take]; rfl)) ?_; (with_reducible refine (laws_heldIntS.calls kj64 _ _ t159 1 t179 _ ?side1 ?side2 A82.out).mono ?_); (case side1 => repeat (first | exact (Kd.R_reads' HO_7.out).2.2 | (with_reducible refine Kd.C_alloc ?_ _) | (with_reducible refine Kd.C_drewN ?_ _) | (with_reducible refine Kd.C_drew ?_))); (case side2 => exact (Kd.R_reads' HO_7.out).2.1); rintro e w' ⟨rfl, ⟨nd, rfl⟩⟩; refine ⟨_, rfl, ?_⟩))
                                  go_ret
                                  exact ⟨by first | rfl | (simp [errW_none, errW_some] <;> rfl) | (simp [*, errW_none, errW_some] <;> rfl), by exact eS HB.out⟩
                              · rw [if_neg c84] at H
                                have c84b0 : (t179 == t158) = false := beq_eq_false_iff_ne.mpr c84
                                have c84b1 : (t179 != t158) = true := bne_iff_ne.mpr c84
                                as_aux_lemma =>
                                  exact absurd ((Option.some.inj H).trans HT.out) (by decide)
                    · rw [if_neg c62] at H
                      have c62b0 : (t160 == t158) = false := beq_eq_false_iff_ne.mpr c62
                      have c62b1 : (t160 != t158) = true := bne_iff_ne.mpr c62
                      as_aux_lemma =>
                        exact absurd ((Option.some.inj H).trans HT.out) (by decide)
          · replace c39 := Bool.eq_false_iff.mpr c39
            subst c39
            have H1 : (some false) = some r := by rw [if_neg (show ¬ (false = true) by decide)] at H; exact H
            clear H
            have H := H1
            clear H1
            as_aux_lemma =>
              exact absurd ((Option.some.inj H).trans HT.out) (by decide)

/-- THE ONE PURE STATEMENT of laws_FnExactMistakesIn: yours. -/
def laws_FnExactMistakesIn.Pure : Prop := ∀ (a0_0 : Int) (a0_1 : Int) (l0_2 : List Int) (l0_3 : List Int) (a0_4 : Int) (l0_5 : List (S106)) (a0_6 : Bool), (Lit.int .i64 a0_0).wf = true → (Lit.int .i64 a0_1).wf = true → (l0_2.length ≤ 9223372036854775807 ∧ ∀ y_ ∈ l0_2, (Lit.int .i64 y_).wf = true) → (l0_3.length ≤ 9223372036854775807 ∧ ∀ y_ ∈ l0_3, (Lit.int .i64 y_).wf = true) → (Lit.int .i64 a0_4).wf = true → (l0_5.length ≤ 9223372036854775807 ∧ ∀ y_ ∈ l0_5, ok106 y_) → ∃ k, laws_FnExactMistakesIn.f k a0_0 a0_1 l0_2 l0_3 a0_4 l0_5 a0_6 = some true

end Go.Proofs.Ytfibaganajembaa.X

-- QmarkInts
namespace Go.Proofs.Ytfibaganajembaa.Pure
open Go Go.RowKit Go.Proofs Go.Proofs.Ytfibaganajembaa.X Go.Proofs.YtfibaganajembaaW.PrintWords Go.Proofs.YtfibaganajembaaW.PrintLast
set_option linter.unusedVariables false
set_option linter.unusedSimpArgs false

theorem markIntS_eq {k : Nat} {l : List Int} {s : Int} (hk : l.length < k) (hl : l.length ≤ 1073741824) (hs : 0 ≤ s ∧ s ≤ 1073741824) : laws_markIntS.f k l s = some (s + 1 * l.length, markM (fun x => x) 1 l.length s) := by
  unfold laws_markIntS.f
  have h := mark_loop laws_markIntS.l0 (fun x => x) 1 l.length s (by omega)
    (fun k x i h1 h2 => by
      simp only [laws_markIntS.l0]
      rw [if_pos (by omega), if_pos (by omega)]
      rw [w64 (x := s + 1 * (i : Int) + 1) (by omega) (by omega)]
      congr 1 <;> first | (push_cast; omega) | simp)
    (fun k x m i h1 h2 => by simp only [laws_markIntS.l0]; rw [if_neg (by omega)])
    l.length k 0 l (by omega) hk rfl (by simp)
  simpa using h
theorem heldIntS_eq {k : Nat} {n : Nat} {s : Int} (hk : n < k) (hl : n ≤ 1073741824) (hs : 0 ≤ s ∧ s ≤ 1073741824) : laws_heldIntS.f k (markM (fun x => x) 1 n s) s = some (s + 1 * n) := by
  unfold laws_heldIntS.f
  have h := held_loop laws_heldIntS.l0 (fun x => x) 1 n s (by omega)
    (fun k i h1 => by
      simp only [laws_heldIntS.l0, markM_length]
      rw [if_pos (by omega), if_pos (by omega), rd_nat, markM_getD _ _ _ _ _ h1, if_pos rfl]
      rw [w64 (x := s + 1 * (i : Int) + 1) (by omega) (by omega)]
      congr 1; push_cast; omega)
    (fun k m i h1 => by simp only [laws_heldIntS.l0, markM_length]; rw [if_neg (by omega)])
    n k 0 (by omega) hk
  simpa using h

end Go.Proofs.Ytfibaganajembaa.Pure

-- Qmarkchart
namespace Go.Proofs.Ytfibaganajembaa.Pure
open Go Go.RowKit Go.Proofs Go.Proofs.Ytfibaganajembaa.X Go.Proofs.YtfibaganajembaaW.PrintWords Go.Proofs.YtfibaganajembaaW.PrintLast
set_option linter.unusedVariables false
set_option linter.unusedSimpArgs false

theorem markChart_eq {k : Nat} {l : List Int} {s : Int} (hk : l.length < k) (hl : l.length ≤ 1073741824) (hs : 0 ≤ s ∧ s ≤ 1073741824) (w h : Int) : laws_markChart.f k w h l s = some (s + 1 * (l.length : Int), markM (fun x => x) 1 l.length s) := by
  simp only [laws_markChart.f, markIntS_eq hk hl hs, Option.bind_some]

end Go.Proofs.Ytfibaganajembaa.Pure

-- QmarksDeviation
namespace Go.Proofs.Ytfibaganajembaa.Pure
open Go Go.RowKit Go.Proofs Go.Proofs.Ytfibaganajembaa.X Go.Proofs.YtfibaganajembaaW.PrintWords Go.Proofs.YtfibaganajembaaW.PrintLast
set_option linter.unusedVariables false
set_option linter.unusedSimpArgs false

def markDeviation (s : Int) : S89 := ⟨s, s + 1⟩
theorem markDeviationS_eq {k : Nat} {l : List S89} {s : Int} (hk : l.length < k) (hl : l.length ≤ 1048576) (hs : 0 ≤ s ∧ s ≤ 1073741824) : laws_markDeviationS.f k l s = some (s + 2 * (l.length : Int), markM markDeviation 2 l.length s) := by
  unfold laws_markDeviationS.f
  have h := mark_loop laws_markDeviationS.l0 markDeviation 2 l.length s (by omega)
    (fun k x i h1 h2 => by
      have hg : ∀ (y : List S89) (v : S89), y.length = l.length → (y.set i v).getD i z89 = v := by
        intro y v hy
        rw [List.getD_eq_getElem?_getD, List.getElem?_set_self (by omega)]; rfl
      simp only [laws_markDeviationS.l0, Option.bind_some, rdIDeviation_nat, Int.toNat_natCast]
      rw [if_pos (by omega), if_pos (by omega)]
      simp only [hg, List.length_set, h2, List.set_set]
      rw [w64 (x := s + 2 * (i : Int) + 1) (by omega) (by omega), w64 (x := s + 2 * (i : Int) + 1 + 1) (by omega) (by omega)]
      have e1 : markDeviation (s + 2 * (i : Int)) = ⟨s + 2 * (i : Int), s + 2 * (i : Int) + 1⟩ := by
        unfold markDeviation; congr 1 <;> omega
      have e2 : s + 2 * ((i + 1 : Nat) : Int) = s + 2 * (i : Int) + 1 + 1 := by push_cast; omega
      rw [e1, e2])
    (fun k x m i h1 h2 => by simp only [laws_markDeviationS.l0]; rw [if_neg (by omega)])
    l.length k 0 l (by omega) hk rfl (by simp)
  simpa using h

end Go.Proofs.Ytfibaganajembaa.Pure

-- Qmarkweaving
namespace Go.Proofs.Ytfibaganajembaa.Pure
open Go Go.RowKit Go.Proofs Go.Proofs.Ytfibaganajembaa.X Go.Proofs.YtfibaganajembaaW.PrintWords Go.Proofs.YtfibaganajembaaW.PrintLast
set_option linter.unusedVariables false
set_option linter.unusedSimpArgs false

theorem markWeaving_ex {k : Nat} {w h : Int} {p kn : List Int} {wf : Int} {ag : List S89} {dn : Bool} (hs : p.length + kn.length + ag.length ≤ 1048576) (hk : 1048576 < k) : ∃ r, laws_markWeaving.f k w h p kn wf ag dn 1 = some r ∧ ¬ r.1 < 0 := by
  simp only [laws_markWeaving.f, markChart_eq (k := k) (l := p) (s := 1) (by omega) (by omega) (by omega), Option.bind_some, markIntS_eq (k := k) (l := kn) (s := 1 + 1 * (p.length : Int)) (by omega) (by omega) (by omega), markDeviationS_eq (k := k) (l := ag) (s := 1 + 1 * (p.length : Int) + 1 * (kn.length : Int)) (by omega) (by omega) (by omega)]
  exact ⟨_, rfl, by simp only; omega⟩

end Go.Proofs.Ytfibaganajembaa.Pure

-- Qmistakesin
namespace Go.Proofs.Ytfibaganajembaa.Pure
open Go Go.RowKit Go.Proofs Go.Proofs.Ytfibaganajembaa.X Go.Proofs.YtfibaganajembaaW.PrintWords Go.Proofs.YtfibaganajembaaW.PrintLast
set_option linter.unusedVariables false
set_option linter.unusedSimpArgs false

def mistakesInM (w h : Int) (p kn : List Int) (wf : Int) (ag : List S89) (dn : Bool) : List Int × Bool := if weavingB w h p kn wf ag dn then (mistM p kn ag, true) else ([], false)
theorem mistakesInS_eq {k : Nat} {w h : Int} {p kn : List Int} {wf : Int} {ag : List S89} {dn : Bool} (hk : 4000000 < k) (hs : p.length + kn.length + ag.length ≤ 1048576) : spec_MistakesIn.f k w h p kn wf ag dn = some (mistakesInM w h p kn wf ag dn) := by
  simp only [spec_MistakesIn.f, weavingS_eq (k := k) (w := w) (h := h) (p := p) (kn := kn) (wf := wf) (ag := ag) (dn := dn) (by omega) (by omega) (by omega) (by omega), Option.bind_some, mistakesInM]
  cases hb : weavingB w h p kn wf ag dn
  · simp
  obtain ⟨hc, hw, hx⟩ := weaving_of hb
  simp only [if_true]
  rw [mistS_eq (by omega) (by omega) (by omega) hx.2.2]
  rfl
theorem mistakesInI_eq {k : Nat} {w h : Int} {p kn : List Int} {wf : Int} {ag : List S89} {dn : Bool} (hk : 4000000 < k) (hs : p.length + kn.length + ag.length ≤ 1048576) : impl_MistakesIn.f k w h p kn wf ag dn = some (mistakesInM w h p kn wf ag dn) := by
  simp only [impl_MistakesIn.f, weavingI_eq (k := k) (w := w) (h := h) (p := p) (kn := kn) (wf := wf) (ag := ag) (dn := dn) (by omega) (by omega) (by omega) (by omega), Option.bind_some, mistakesInM]
  cases hb : weavingB w h p kn wf ag dn
  · simp
  obtain ⟨hc, hw, hx⟩ := weaving_of hb
  simp only [if_true]
  rw [mistI_eq (by omega) (by omega) hx.2.2]
  rfl
theorem mistakesInM_len (w h : Int) (p kn : List Int) (wf : Int) (ag : List S89) (dn : Bool) : (mistakesInM w h p kn wf ag dn).1.length ≤ kn.length := by
  unfold mistakesInM
  split
  · unfold mistM
    rw [List.length_map]
    exact Nat.le_trans (List.length_filter_le _ _) (by simp)
  · simp

end Go.Proofs.Ytfibaganajembaa.Pure

-- PureFnExactMistakesIn
namespace Go.Proofs.Ytfibaganajembaa.Pure
open Go Go.RowKit Go.Proofs Go.Proofs.Ytfibaganajembaa.X Go.Proofs.YtfibaganajembaaW.PrintWords Go.Proofs.YtfibaganajembaaW.PrintLast
set_option linter.unusedVariables false
set_option linter.unusedSimpArgs false

theorem FnExactMistakesIn : laws_FnExactMistakesIn.Pure := by
  intro w h p kn wf ag dn _ _ hp hn _ ha
  refine ⟨8000003, ?_⟩
  obtain ⟨r, hr, hor⟩ := szWeaving_ex (w := w) (h := h) (p := p) (kn := kn) (wf := wf) (ag := ag) (dn := dn) hp.1 hn.1 ha.1
  simp only [laws_FnExactMistakesIn.f, hr, Option.bind_some]
  by_cases hr0 : r < 0
  · rw [if_pos hr0]
  rw [if_neg hr0]
  have hs := hor.resolve_left hr0
  have hlen : (ag.map toDeviation).length = ag.length := List.length_map _
  have hml := mistakesInM_len w h p kn wf (ag.map toDeviation) dn
  obtain ⟨m, hm, hm0⟩ := markWeaving_ex (k := 8000002) (w := w) (h := h) (p := p) (kn := kn) (wf := wf) (ag := ag.map toDeviation) (dn := dn) (by omega) (by omega)
  simp only [toWeaving_eq (k := 8000003) (w := w) (h := h) (p := p) (kn := kn) (wf := wf) (ag := ag) (dn := dn) hs (by omega), mistakesInS_eq (k := 8000003) (w := w) (h := h) (p := p) (kn := kn) (wf := wf) (ag := ag.map toDeviation) (dn := dn) (by omega) (by omega), mistakesInI_eq (k := 8000003) (w := w) (h := h) (p := p) (kn := kn) (wf := wf) (ag := ag.map toDeviation) (dn := dn) (by omega) (by omega), Option.bind_some, eqIntS_refl (k := 8000003) (l := (mistakesInM w h p kn wf (ag.map toDeviation) dn).1) (by omega) (by omega), if_true, bne_self_eq_false, laws_FnExactMistakesIn.j0, Bool.false_eq_true, if_false, toWeaving_eq (k := 8000002) (w := w) (h := h) (p := p) (kn := kn) (wf := wf) (ag := ag) (dn := dn) hs (by omega), eqWeaving_refl (k := 8000002) (w := w) (h := h) (p := p) (kn := kn) (wf := wf) (ag := ag.map toDeviation) (dn := dn) (by omega) (by omega), hm, eqIntS_refl (k := 8000002) (l := (mistakesInM w h p kn wf (ag.map toDeviation) dn).1) (by omega) (by omega)]
  rw [if_neg hm0]
  simp only [laws_FnExactMistakesIn.j1, Bool.false_eq_true, if_false, markIntS_eq (k := 8000001) (l := (mistakesInM w h p kn wf (ag.map toDeviation) dn).1) (s := 1) (by omega) (by omega) (by omega), Option.bind_some, heldIntS_eq (k := 8000001) (n := (mistakesInM w h p kn wf (ag.map toDeviation) dn).1.length) (s := 1) (by omega) (by omega) (by omega), if_true, toWeaving_eq (k := 8000001) (w := w) (h := h) (p := p) (kn := kn) (wf := wf) (ag := ag) (dn := dn) hs (by omega), mistakesInI_eq (k := 8000001) (w := w) (h := h) (p := p) (kn := kn) (wf := wf) (ag := ag.map toDeviation) (dn := dn) (by omega) (by omega), eqIntS_refl (k := 8000001) (l := (mistakesInM w h p kn wf (ag.map toDeviation) dn).1) (by omega) (by omega), bne_self_eq_false]
  rw [if_neg (by omega)]
  simp only [laws_FnExactMistakesIn.j2, Bool.false_eq_true, if_false, heldIntS_eq (k := 8000000) (n := (mistakesInM w h p kn wf (ag.map toDeviation) dn).1.length) (s := 1) (by omega) (by omega) (by omega), Option.bind_some, if_true]
  rw [if_neg (by omega)]

end Go.Proofs.Ytfibaganajembaa.Pure
