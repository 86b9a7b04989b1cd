/- What the law FnExactTiesFor needs, part 4 of 4: what each function of the program that it reaches returns (printed by this session's own program, checked by Lean), and plain mathematics about it. Conditions: those of each theorem. -/
import Derived.Test.YtiomfignokichaaZFnExactTiesFor2
import Derived.Test.YtiomfignokichaaYG
-- XspecTiesForF32
namespace Go.Proofs.Ytiomfignokichaa.X
open Ho (bS eS)
open Go.RowKit Go.Proofs.YtiomfignokichaaW.PrintWords Go.Proofs.YtiomfignokichaaW.PrintLast Go.Proofs.YtiomfignokichaaW.PrintMore
attribute [local go_sem] max2_int min2_int max_two min_two max_three min_three max_four min_four   -- for this text's walks alone
set_option linter.unusedVariables false
set_option linter.unusedSimpArgs false

attribute [local go_sem ↓] Ho.isSome_setCell_   -- a store leaves all places there
/-! ### spec_TiesFor: function 32 -/
mutual
def spec_TiesFor.j0 : Nat → Int → Int → Bool → List (S66) → Int → Int → Int → Int → Option (Int × Bool)
  | 0, _, _, _, _, _, _, _, _ => none
  | k + 1, x1, x2, x25, x102000, x102001, x102002, x102003, x102004 => if x25 = true then (some (0, false)) else (spec_TiesFor.l0 k x1 x2 (([] : List Int)) 0 x102000 x102001 x102002 x102003 x102004)
def spec_TiesFor.l0 : Nat → Int → Int → List Int → Int → List (S66) → Int → Int → Int → Int → Option (Int × Bool)
  | 0, _, _, _, _, _, _, _, _, _ => none
  | k + 1, x1, x2, x8, x9, x102000, x102001, x102002, x102003, x102004 => if (x8.length : Int) < (x102000.length : Int) then (spec_TiesFor.l1 k x1 x2 x8 x9 (-1) 0 x102000 x102001 x102002 x102003 x102004) else (some (0, false))
def spec_TiesFor.l1 : Nat → Int → Int → List Int → Int → Int → Int → List (S66) → Int → Int → Int → Int → Option (Int × Bool)
  | 0, _, _, _, _, _, _, _, _, _, _, _ => none
  | k + 1, x1, x2, x8, x9, x10, x11, x102000, x102001, x102002, x102003, x102004 => if x11 < (x102000.length : Int) then (if 0 ≤ x11 then (if ((rd_T66 x102000 x11).f1) = x1 then ((spec_l1Has.f k x8 ((rd_T66 x102000 x11).f0)).bind fun t110 => (if t110 = true then (spec_TiesFor.l1 k x1 x2 x8 x9 x10 (wrap64 (x11 + 1)) x102000 x102001 x102002 x102003 x102004) else (if x10 < 0 then (spec_TiesFor.l1 k x1 x2 x8 x9 x11 (wrap64 (x11 + 1)) x102000 x102001 x102002 x102003 x102004) else (if 0 ≤ x10 then (if x10 < (x102000.length : Int) then (if ((rd_T66 x102000 x11).f2) > ((rd_T66 x102000 x10).f2) then (spec_TiesFor.l1 k x1 x2 x8 x9 x11 (wrap64 (x11 + 1)) x102000 x102001 x102002 x102003 x102004) else (spec_TiesFor.l1 k x1 x2 x8 x9 x10 (wrap64 (x11 + 1)) x102000 x102001 x102002 x102003 x102004)) else (none)) else (none))))) else (spec_TiesFor.l1 k x1 x2 x8 x9 x10 (wrap64 (x11 + 1)) x102000 x102001 x102002 x102003 x102004)) else (none)) else (if x10 < 0 then (some (0, false)) else (if 0 ≤ x10 then (if x10 < (x102000.length : Int) then (if x8.length < 17592186044416 then ((some (x8 ++ [(rd_T66 x102000 x10).f0] : List Int)).bind fun y113 => (if (wrap64 ((wrap64 ((wrap64 (x9 + ((rd_T66 x102000 x10).f2))) - (y113.length : Int))) + 1)) ≥ x2 then (some (wrap64 ((y113.length : Int) - 1), true)) else (spec_TiesFor.l0 k x1 x2 y113 (wrap64 (x9 + ((rd_T66 x102000 x10).f2))) x102000 x102001 x102002 x102003 x102004))) else (none)) else (none)) else (none)))
end
def spec_TiesFor.f (k : Nat) (l0_0 : List (S66)) (a0_1 : Int) (a0_2 : Int) (a0_3 : Int) (a0_4 : Int) (a1 : Int) (a2 : Int) : Option (Int × Bool) := (spec_l21Good.f k l0_0 a0_1 a0_2 a0_3 a0_4).bind fun t102 => (if t102 = true then ((spec_l2Color.f a1).bind fun t103 => (if t103 = true then ((spec_l21Meters.f a2).bind fun t104 => (spec_TiesFor.j0 k a1 a2 (!t104) l0_0 a0_1 a0_2 a0_3 a0_4)) else (spec_TiesFor.j0 k a1 a2 true l0_0 a0_1 a0_2 a0_3 a0_4))) else (spec_TiesFor.j0 k a1 a2 true l0_0 a0_1 a0_2 a0_3 a0_4))
theorem spec_TiesFor.mono_l : ∀ k, (∀ y0 y1 y2 y3 y4 y5 y6 y7, LeO (spec_TiesFor.j0 k y0 y1 y2 y3 y4 y5 y6 y7) (spec_TiesFor.j0 (k + 1) y0 y1 y2 y3 y4 y5 y6 y7)) ∧ (∀ y0 y1 y2 y3 y4 y5 y6 y7 y8, LeO (spec_TiesFor.l0 k y0 y1 y2 y3 y4 y5 y6 y7 y8) (spec_TiesFor.l0 (k + 1) y0 y1 y2 y3 y4 y5 y6 y7 y8)) ∧ (∀ y0 y1 y2 y3 y4 y5 y6 y7 y8 y9 y10, LeO (spec_TiesFor.l1 k y0 y1 y2 y3 y4 y5 y6 y7 y8 y9 y10) (spec_TiesFor.l1 (k + 1) y0 y1 y2 y3 y4 y5 y6 y7 y8 y9 y10))
  | 0 => ⟨fun _ _ _ _ _ _ _ _ r h => by simp [spec_TiesFor.j0] at h, fun _ _ _ _ _ _ _ _ _ r h => by simp [spec_TiesFor.l0] at h, fun _ _ _ _ _ _ _ _ _ _ _ r h => by simp [spec_TiesFor.l1] at h⟩
  | k + 1 => by
    obtain ⟨ih0, ih1, ih2⟩ := spec_TiesFor.mono_l k
    refine ⟨?_, ?_, ?_⟩
    · intro y0 y1 y2 y3 y4 y5 y6 y7
      unfold spec_TiesFor.j0
      repeat' first
      | (with_reducible exact ih0 _ _ _ _ _ _ _ _)
      | (with_reducible exact ih1 _ _ _ _ _ _ _ _ _)
      | (with_reducible exact ih2 _ _ _ _ _ _ _ _ _ _ _)
      | (with_reducible exact spec_l1Has.mono _ _ _)
      | (with_reducible exact spec_l21Good.mono _ _ _ _ _ _)
      | (with_reducible exact LeO.refl _)
      | (with_reducible exact LeO.none _)
      | (with_reducible refine LeO.ite ?_ ?_)
      | (with_reducible refine LeO.bind ?_ (fun _ => ?_))
      | exact ih0 _ _ _ _ _ _ _ _
      | exact ih1 _ _ _ _ _ _ _ _ _
      | exact ih2 _ _ _ _ _ _ _ _ _ _ _
      | exact spec_l1Has.mono _ _ _
      | exact spec_l21Good.mono _ _ _ _ _ _
      | exact LeO.none _
      | refine LeO.ite ?_ ?_
      | refine LeO.bind ?_ (fun _ => ?_)
    · intro y0 y1 y2 y3 y4 y5 y6 y7 y8
      unfold spec_TiesFor.l0
      repeat' first
      | (with_reducible exact ih0 _ _ _ _ _ _ _ _)
      | (with_reducible exact ih1 _ _ _ _ _ _ _ _ _)
      | (with_reducible exact ih2 _ _ _ _ _ _ _ _ _ _ _)
      | (with_reducible exact spec_l1Has.mono _ _ _)
      | (with_reducible exact spec_l21Good.mono _ _ _ _ _ _)
      | (with_reducible exact LeO.refl _)
      | (with_reducible exact LeO.none _)
      | (with_reducible refine LeO.ite ?_ ?_)
      | (with_reducible refine LeO.bind ?_ (fun _ => ?_))
      | exact ih0 _ _ _ _ _ _ _ _
      | exact ih1 _ _ _ _ _ _ _ _ _
      | exact ih2 _ _ _ _ _ _ _ _ _ _ _
      | exact spec_l1Has.mono _ _ _
      | exact spec_l21Good.mono _ _ _ _ _ _
      | exact LeO.none _
      | refine LeO.ite ?_ ?_
      | refine LeO.bind ?_ (fun _ => ?_)
    · intro y0 y1 y2 y3 y4 y5 y6 y7 y8 y9 y10
      unfold spec_TiesFor.l1
      repeat' first
      | (with_reducible exact ih0 _ _ _ _ _ _ _ _)
      | (with_reducible exact ih1 _ _ _ _ _ _ _ _ _)
      | (with_reducible exact ih2 _ _ _ _ _ _ _ _ _ _ _)
      | (with_reducible exact spec_l1Has.mono _ _ _)
      | (with_reducible exact spec_l21Good.mono _ _ _ _ _ _)
      | (with_reducible exact LeO.refl _)
      | (with_reducible exact LeO.none _)
      | (with_reducible refine LeO.ite ?_ ?_)
      | (with_reducible refine LeO.bind ?_ (fun _ => ?_))
      | exact ih0 _ _ _ _ _ _ _ _
      | exact ih1 _ _ _ _ _ _ _ _ _
      | exact ih2 _ _ _ _ _ _ _ _ _ _ _
      | exact spec_l1Has.mono _ _ _
      | exact spec_l21Good.mono _ _ _ _ _ _
      | exact LeO.none _
      | refine LeO.ite ?_ ?_
      | refine LeO.bind ?_ (fun _ => ?_)
theorem spec_TiesFor.mono : ∀ a0 a1 a2 a3 a4 a5 a6 k, LeO (spec_TiesFor.f k a0 a1 a2 a3 a4 a5 a6) (spec_TiesFor.f (k + 1) a0 a1 a2 a3 a4 a5 a6) := by
  intro a0 a1 a2 a3 a4 a5 a6 k
  obtain ⟨ih0, ih1, ih2⟩ := spec_TiesFor.mono_l k
  unfold spec_TiesFor.f
  repeat' first
      | (with_reducible exact ih0 _ _ _ _ _ _ _ _)
      | (with_reducible exact ih1 _ _ _ _ _ _ _ _ _)
      | (with_reducible exact ih2 _ _ _ _ _ _ _ _ _ _ _)
      | (with_reducible exact spec_l1Has.mono _ _ _)
      | (with_reducible exact spec_l21Good.mono _ _ _ _ _ _)
      | (with_reducible exact LeO.refl _)
      | (with_reducible exact LeO.none _)
      | (with_reducible refine LeO.ite ?_ ?_)
      | (with_reducible refine LeO.bind ?_ (fun _ => ?_))
      | exact ih0 _ _ _ _ _ _ _ _
      | exact ih1 _ _ _ _ _ _ _ _ _
      | exact ih2 _ _ _ _ _ _ _ _ _ _ _
      | exact spec_l1Has.mono _ _ _
      | exact spec_l21Good.mono _ _ _ _ _ _
      | exact LeO.none _
      | refine LeO.ite ?_ ?_
      | refine LeO.bind ?_ (fun _ => ?_)
set_option maxHeartbeats 8000000 in
set_option maxRecDepth 100000 in
theorem spec_TiesFor.calls (k : Nat) (A0_0 : Option Addr) (c0_0 : Nat) (l0_0 : List (S66)) (a0_1 : Int) (a0_2 : Int) (a0_3 : Int) (a0_4 : Int) (a1 : Int) (a2 : Int) (r1 : Int) (r2 : Bool) (w : World) (hr0_0 : Kd.C k66 w A0_0 l0_0.length l0_0) (hc0_0 : l0_0.length ≤ c0_0) (h : spec_TiesFor.f k l0_0 a0_1 a0_2 a0_3 a0_4 a1 a2 = some (r1, r2)) :
  Calls Try.prog 32 #[.agg #[.slice A0_0 l0_0.length c0_0, .int .i64 a0_1, .int .i64 a0_2, .int .i64 a0_3, .int .i64 a0_4], .int .i64 a1, .int .i64 a2] w fun e w' => e = .returned (.tuple #[.int .i64 r1, .bool r2]) ∧ Below w.heap.size w w' := by
 have hu37 := Try.underlying37
 have hu66 := Try.underlying66
 have HR0_0 := Aside0.mk hr0_0
 have HC0_0 := Aside0.mk hc0_0
 clear hr0_0 hc0_0
 have HB := Aside0.mk (Below.refl w.heap.size w)
 have H : ((spec_l21Good.f k l0_0 a0_1 a0_2 a0_3 a0_4).bind fun t102 => (if t102 = true then ((spec_l2Color.f a1).bind fun t103 => (if t103 = true then ((spec_l21Meters.f a2).bind fun t104 => (spec_TiesFor.j0 k a1 a2 (!t104) l0_0 a0_1 a0_2 a0_3 a0_4)) else (spec_TiesFor.j0 k a1 a2 true l0_0 a0_1 a0_2 a0_3 a0_4))) else (spec_TiesFor.j0 k a1 a2 true l0_0 a0_1 a0_2 a0_3 a0_4))) = some (r1, r2) := h
 clear h
 have HC4 := Aside0.mk H
 clear H
 go_enter Try.func32, Try.ntmps32
 go_upto_region 1 with (first | ((with_reducible refine gate_dst (N := 3) rfl ?_); refine box_event ?hg (N := 3) ?hd (cs := #[.slice A0_0 l0_0.length c0_0, .int .i64 a0_1, .int .i64 a0_2, .int .i64 a0_3, .int .i64 a0_4]) (t := 37) ?hr ?_; (case hd => rfl); (case hg => rfl); (case hr => first | (go_simp; done) | (go_simp; rfl)); intro gb101 hg w5 hbox hb; have n0_ := Aside0.mk (below_step (by exact eS HB.out) hb); have n1_ := Aside0.mk (hbox); have n2_ := Aside0.mk ((by rw [hg]; exact (below_size (by exact eS HB.out)) : w.heap.size ≤ gb101)); have n3_ := Aside0.mk ((by rw [hg]; exact (below_size (by exact eS HB.out)) : w.heap.size ≤ gb101)); clear HB; have HB := n0_; have BK101 := n1_; have GW101 := n2_; have GE101 := n3_; clear n0_ n1_ n2_ n3_; clear hb hbox hg))
 repeat (go_quiet (first | ((with_reducible refine gate_dst (N := 3) rfl ?_); refine box_event ?hg (N := 3) ?hd (cs := #[.slice A0_0 l0_0.length c0_0, .int .i64 a0_1, .int .i64 a0_2, .int .i64 a0_3, .int .i64 a0_4]) (t := 37) ?hr ?_; (case hd => rfl); (case hg => rfl); (case hr => first | (go_simp; done) | (go_simp; rfl)); intro gb101 hg w5 hbox hb; have n0_ := Aside0.mk (below_step (by exact eS HB.out) hb); have n1_ := Aside0.mk (hbox); have n2_ := Aside0.mk ((by rw [hg]; exact (below_size (by exact eS HB.out)) : w.heap.size ≤ gb101)); have n3_ := Aside0.mk ((by rw [hg]; exact (below_size (by exact eS HB.out)) : w.heap.size ≤ gb101)); clear HB; have HB := n0_; have BK101 := n1_; have GW101 := n2_; have GE101 := n3_; clear n0_ n1_ n2_ n3_; clear hb hbox hg)); go_upto_region 1 with (first | ((with_reducible refine gate_dst (N := 3) rfl ?_); refine box_event ?hg (N := 3) ?hd (cs := #[.slice A0_0 l0_0.length c0_0, .int .i64 a0_1, .int .i64 a0_2, .int .i64 a0_3, .int .i64 a0_4]) (t := 37) ?hr ?_; (case hd => rfl); (case hg => rfl); (case hr => first | (go_simp; done) | (go_simp; rfl)); intro gb101 hg w5 hbox hb; have n0_ := Aside0.mk (below_step (by exact eS HB.out) hb); have n1_ := Aside0.mk (hbox); have n2_ := Aside0.mk ((by rw [hg]; exact (below_size (by exact eS HB.out)) : w.heap.size ≤ gb101)); have n3_ := Aside0.mk ((by rw [hg]; exact (below_size (by exact eS HB.out)) : w.heap.size ≤ gb101)); clear HB; have HB := n0_; have BK101 := n1_; have GW101 := n2_; have GE101 := n3_; clear n0_ n1_ n2_ n3_; clear hb hbox hg)))
 (try simp only [Act.put, List.setIfInBounds_toArray, List.set_cons_zero, List.set_cons_succ])
 go_cut [25] (fun v25 wc => ∃ (kq : Nat) (x25_3 : Bool), v25 = .bool x25_3 ∧ Aside0 (spec_TiesFor.j0 kq a1 a2 x25_3 l0_0 a0_1 a0_2 a0_3 a0_4 = some (r1, r2)) ∧ Aside0 (kq ≤ k) ∧ Aside0 (wc.heap[gb101]? = some (.cells #[(.slice A0_0 l0_0.length c0_0), .int .i64 a0_1, .int .i64 a0_2, .int .i64 a0_3, .int .i64 a0_4] 37 (0, 0))) ∧ Aside0 (Below w.heap.size w wc))
 case first =>
  have H := HC4.out
  clear HC4
  replace H := Option.bind_eq_some_iff.mp H
  obtain ⟨t102, A60, H⟩ := H
  replace H : (if t102 = true then ((spec_l2Color.f a1).bind fun t103 => (if t103 = true then ((spec_l21Meters.f a2).bind fun t104 => (spec_TiesFor.j0 k a1 a2 (!t104) l0_0 a0_1 a0_2 a0_3 a0_4)) else (spec_TiesFor.j0 k a1 a2 true l0_0 a0_1 a0_2 a0_3 a0_4))) else (spec_TiesFor.j0 k a1 a2 true l0_0 a0_1 a0_2 a0_3 a0_4)) = some (r1, r2) := H
  have A6 := Aside0.mk A60
  clear A60
  by_cases c7 : t102 = true
  ·subst c7
   have H1 : ((spec_l2Color.f a1).bind fun t103 => (if t103 = true then ((spec_l21Meters.f a2).bind fun t104 => (spec_TiesFor.j0 k a1 a2 (!t104) l0_0 a0_1 a0_2 a0_3 a0_4)) else (spec_TiesFor.j0 k a1 a2 true l0_0 a0_1 a0_2 a0_3 a0_4))) = some (r1, r2) := by rw [if_pos rfl] at H; exact H
   clear H
   have H := H1
   clear H1
   replace H := Option.bind_eq_some_iff.mp H
   obtain ⟨t103, A80, H⟩ := H
   replace H : (if t103 = true then ((spec_l21Meters.f a2).bind fun t104 => (spec_TiesFor.j0 k a1 a2 (!t104) l0_0 a0_1 a0_2 a0_3 a0_4)) else (spec_TiesFor.j0 k a1 a2 true l0_0 a0_1 a0_2 a0_3 a0_4)) = some (r1, r2) := H
   have A8 := Aside0.mk A80
   clear A80
   by_cases c9 : t103 = true
   ·subst c9
    have H1 : ((spec_l21Meters.f a2).bind fun t104 => (spec_TiesFor.j0 k a1 a2 (!t104) l0_0 a0_1 a0_2 a0_3 a0_4)) = some (r1, r2) := by rw [if_pos rfl] at H; exact H
    clear H
    have H := H1
    clear H1
    replace H := Option.bind_eq_some_iff.mp H
    obtain ⟨t104, A100, H⟩ := H
    replace H : (spec_TiesFor.j0 k a1 a2 (!t104) l0_0 a0_1 a0_2 a0_3 a0_4) = some (r1, r2) := H
    have A10 := Aside0.mk A100
    clear A100
    have H' := Aside0.mk H
    clear H
    have hcz11_0 : w5.cell? ⟨gb101, 0, none⟩ = some (.slice A0_0 l0_0.length c0_0) := (blk_cell BK101.out 0).trans rfl
    have hcz11_1 : w5.cell? ⟨gb101, 1, none⟩ = some (.int .i64 a0_1) := (blk_cell BK101.out 1).trans rfl
    have hcz11_2 : w5.cell? ⟨gb101, 2, none⟩ = some (.int .i64 a0_2) := (blk_cell BK101.out 2).trans rfl
    have hcz11_3 : w5.cell? ⟨gb101, 3, none⟩ = some (.int .i64 a0_3) := (blk_cell BK101.out 3).trans rfl
    have hcz11_4 : w5.cell? ⟨gb101, 4, none⟩ = some (.int .i64 a0_4) := (blk_cell BK101.out 4).trans rfl
    have hfz11_0 := blk_frozen BK101.out 0
    have hfz11_1 := blk_frozen BK101.out 1
    have hfz11_2 := blk_frozen BK101.out 2
    have hfz11_3 := blk_frozen BK101.out 3
    have hfz11_4 := blk_frozen BK101.out 4
    go_wp2_with (first | (go_at_call 52; (with_reducible refine (spec_l21Good.calls k _ _ l0_0 a0_1 a0_2 a0_3 a0_4 true _ ?side1 ?side2 A6.out).mono ?_); (case side1 => repeat (first | exact (Kd.C_below HR0_0.out HB.out) | (with_reducible refine Kd.C_alloc ?_ _) | (with_reducible refine Kd.C_drewN ?_ _) | (with_reducible refine Kd.C_drew ?_))); (case side2 => exact HC0_0.out); rintro e w12 ⟨rfl, hb⟩; have n0_ := Aside0.mk (blk_below (bS BK101.out) hb); have n1_ := Aside0.mk (below_step (by exact eS HB.out) hb); clear BK101; clear HB; have BK101 := n0_; have HB := n1_; clear n0_ n1_; (try clear hb); (try clear hb2); (try clear hk); (try clear hi)) | (go_at_call 62; (with_reducible refine (spec_l2Color.calls a1 true _ A8.out).mono ?_); rintro e w' ⟨rfl, ⟨nd, rfl⟩⟩; (try first | exact ⟨rfl, _, World.drewN_drewN _ _ _⟩ | exact ⟨rfl, _, Eq.trans (World.drewN_drewN _ _ _) (congrArg (World.drewN _) (Nat.add_assoc _ _ _))⟩)) | (go_at_call 65; (with_reducible refine (spec_l21Meters.calls a2 t104 _ A10.out).mono ?_); rintro e w' ⟨rfl, ⟨nd, rfl⟩⟩; (try first | exact ⟨rfl, _, World.drewN_drewN _ _ _⟩ | exact ⟨rfl, _, Eq.trans (World.drewN_drewN _ _ _) (congrArg (World.drewN _) (Nat.add_assoc _ _ _))⟩)))
    repeat (go_quiet (first | (go_at_call 52; (with_reducible refine (spec_l21Good.calls k _ _ l0_0 a0_1 a0_2 a0_3 a0_4 true _ ?side1 ?side2 A6.out).mono ?_); (case side1 => repeat (first | exact (Kd.C_below HR0_0.out HB.out) | (with_reducible refine Kd.C_alloc ?_ _) | (with_reducible refine Kd.C_drewN ?_ _) | (with_reducible refine Kd.C_drew ?_))); (case side2 => exact HC0_0.out); rintro e w12 ⟨rfl, hb⟩; have n0_ := Aside0.mk (blk_below (bS BK101.out) hb); have n1_ := Aside0.mk (below_step (by exact eS HB.out) hb); clear BK101; clear HB; have BK101 := n0_; have HB := n1_; clear n0_ n1_; (try clear hb); (try clear hb2); (try clear hk); (try clear hi)) | (go_at_call 62; (with_reducible refine (spec_l2Color.calls a1 true _ A8.out).mono ?_); rintro e w' ⟨rfl, ⟨nd, rfl⟩⟩; (try first | exact ⟨rfl, _, World.drewN_drewN _ _ _⟩ | exact ⟨rfl, _, Eq.trans (World.drewN_drewN _ _ _) (congrArg (World.drewN _) (Nat.add_assoc _ _ _))⟩)) | (go_at_call 65; (with_reducible refine (spec_l21Meters.calls a2 t104 _ A10.out).mono ?_); rintro e w' ⟨rfl, ⟨nd, rfl⟩⟩; (try first | exact ⟨rfl, _, World.drewN_drewN _ _ _⟩ | exact ⟨rfl, _, Eq.trans (World.drewN_drewN _ _ _) (congrArg (World.drewN _) (Nat.add_assoc _ _ _))⟩))); try go_wp2_with (first | (go_at_call 52; (with_reducible refine (spec_l21Good.calls k _ _ l0_0 a0_1 a0_2 a0_3 a0_4 true _ ?side1 ?side2 A6.out).mono ?_); (case side1 => repeat (first | exact (Kd.C_below HR0_0.out HB.out) | (with_reducible refine Kd.C_alloc ?_ _) | (with_reducible refine Kd.C_drewN ?_ _) | (with_reducible refine Kd.C_drew ?_))); (case side2 => exact HC0_0.out); rintro e w12 ⟨rfl, hb⟩; have n0_ := Aside0.mk (blk_below (bS BK101.out) hb); have n1_ := Aside0.mk (below_step (by exact eS HB.out) hb); clear BK101; clear HB; have BK101 := n0_; have HB := n1_; clear n0_ n1_; (try clear hb); (try clear hb2); (try clear hk); (try clear hi)) | (go_at_call 62; (with_reducible refine (spec_l2Color.calls a1 true _ A8.out).mono ?_); rintro e w' ⟨rfl, ⟨nd, rfl⟩⟩; (try first | exact ⟨rfl, _, World.drewN_drewN _ _ _⟩ | exact ⟨rfl, _, Eq.trans (World.drewN_drewN _ _ _) (congrArg (World.drewN _) (Nat.add_assoc _ _ _))⟩)) | (go_at_call 65; (with_reducible refine (spec_l21Meters.calls a2 t104 _ A10.out).mono ?_); rintro e w' ⟨rfl, ⟨nd, rfl⟩⟩; (try first | exact ⟨rfl, _, World.drewN_drewN _ _ _⟩ | exact ⟨rfl, _, Eq.trans (World.drewN_drewN _ _ _) (congrArg (World.drewN _) (Nat.add_assoc _ _ _))⟩))))
    go_meet
    case rel => exact ⟨_, (!t104), (by first | rfl | (simp; done) | (simp [*]; done)), H', ⟨by first | omega | exact Nat.le_refl _⟩, ⟨by exact bS BK101.out⟩, ⟨by exact eS HB.out⟩⟩
   ·replace c9 := Bool.eq_false_iff.mpr c9
    subst c9
    have H1 : (spec_TiesFor.j0 k a1 a2 true l0_0 a0_1 a0_2 a0_3 a0_4) = some (r1, r2) := by rw [if_neg (show ¬ (false = true) by decide)] at H; exact H
    clear H
    have H := H1
    clear H1
    have H' := Aside0.mk H
    clear H
    have hcz13_0 : w5.cell? ⟨gb101, 0, none⟩ = some (.slice A0_0 l0_0.length c0_0) := (blk_cell BK101.out 0).trans rfl
    have hcz13_1 : w5.cell? ⟨gb101, 1, none⟩ = some (.int .i64 a0_1) := (blk_cell BK101.out 1).trans rfl
    have hcz13_2 : w5.cell? ⟨gb101, 2, none⟩ = some (.int .i64 a0_2) := (blk_cell BK101.out 2).trans rfl
    have hcz13_3 : w5.cell? ⟨gb101, 3, none⟩ = some (.int .i64 a0_3) := (blk_cell BK101.out 3).trans rfl
    have hcz13_4 : w5.cell? ⟨gb101, 4, none⟩ = some (.int .i64 a0_4) := (blk_cell BK101.out 4).trans rfl
    have hfz13_0 := blk_frozen BK101.out 0
    have hfz13_1 := blk_frozen BK101.out 1
    have hfz13_2 := blk_frozen BK101.out 2
    have hfz13_3 := blk_frozen BK101.out 3
    have hfz13_4 := blk_frozen BK101.out 4
    go_wp2_with (first | (go_at_call 52; (with_reducible refine (spec_l21Good.calls k _ _ l0_0 a0_1 a0_2 a0_3 a0_4 true _ ?side1 ?side2 A6.out).mono ?_); (case side1 => repeat (first | exact (Kd.C_below HR0_0.out HB.out) | (with_reducible refine Kd.C_alloc ?_ _) | (with_reducible refine Kd.C_drewN ?_ _) | (with_reducible refine Kd.C_drew ?_))); (case side2 => exact HC0_0.out); rintro e w14 ⟨rfl, hb⟩; have n0_ := Aside0.mk (blk_below (bS BK101.out) hb); have n1_ := Aside0.mk (below_step (by exact eS HB.out) hb); clear BK101; clear HB; have BK101 := n0_; have HB := n1_; clear n0_ n1_; (try clear hb); (try clear hb2); (try clear hk); (try clear hi)) | (go_at_call 62; (with_reducible refine (spec_l2Color.calls a1 false _ A8.out).mono ?_); rintro e w' ⟨rfl, ⟨nd, rfl⟩⟩; (try first | exact ⟨rfl, _, World.drewN_drewN _ _ _⟩ | exact ⟨rfl, _, Eq.trans (World.drewN_drewN _ _ _) (congrArg (World.drewN _) (Nat.add_assoc _ _ _))⟩)))
    repeat (go_quiet (first | (go_at_call 52; (with_reducible refine (spec_l21Good.calls k _ _ l0_0 a0_1 a0_2 a0_3 a0_4 true _ ?side1 ?side2 A6.out).mono ?_); (case side1 => repeat (first | exact (Kd.C_below HR0_0.out HB.out) | (with_reducible refine Kd.C_alloc ?_ _) | (with_reducible refine Kd.C_drewN ?_ _) | (with_reducible refine Kd.C_drew ?_))); (case side2 => exact HC0_0.out); rintro e w14 ⟨rfl, hb⟩; have n0_ := Aside0.mk (blk_below (bS BK101.out) hb); have n1_ := Aside0.mk (below_step (by exact eS HB.out) hb); clear BK101; clear HB; have BK101 := n0_; have HB := n1_; clear n0_ n1_; (try clear hb); (try clear hb2); (try clear hk); (try clear hi)) | (go_at_call 62; (with_reducible refine (spec_l2Color.calls a1 false _ A8.out).mono ?_); rintro e w' ⟨rfl, ⟨nd, rfl⟩⟩; (try first | exact ⟨rfl, _, World.drewN_drewN _ _ _⟩ | exact ⟨rfl, _, Eq.trans (World.drewN_drewN _ _ _) (congrArg (World.drewN _) (Nat.add_assoc _ _ _))⟩))); try go_wp2_with (first | (go_at_call 52; (with_reducible refine (spec_l21Good.calls k _ _ l0_0 a0_1 a0_2 a0_3 a0_4 true _ ?side1 ?side2 A6.out).mono ?_); (case side1 => repeat (first | exact (Kd.C_below HR0_0.out HB.out) | (with_reducible refine Kd.C_alloc ?_ _) | (with_reducible refine Kd.C_drewN ?_ _) | (with_reducible refine Kd.C_drew ?_))); (case side2 => exact HC0_0.out); rintro e w14 ⟨rfl, hb⟩; have n0_ := Aside0.mk (blk_below (bS BK101.out) hb); have n1_ := Aside0.mk (below_step (by exact eS HB.out) hb); clear BK101; clear HB; have BK101 := n0_; have HB := n1_; clear n0_ n1_; (try clear hb); (try clear hb2); (try clear hk); (try clear hi)) | (go_at_call 62; (with_reducible refine (spec_l2Color.calls a1 false _ A8.out).mono ?_); rintro e w' ⟨rfl, ⟨nd, rfl⟩⟩; (try first | exact ⟨rfl, _, World.drewN_drewN _ _ _⟩ | exact ⟨rfl, _, Eq.trans (World.drewN_drewN _ _ _) (congrArg (World.drewN _) (Nat.add_assoc _ _ _))⟩))))
    go_meet
    case rel => exact ⟨_, (true), (by first | rfl | (simp; done) | (simp [*]; done)), H', ⟨by first | omega | exact Nat.le_refl _⟩, ⟨by exact bS BK101.out⟩, ⟨by exact eS HB.out⟩⟩
  ·replace c7 := Bool.eq_false_iff.mpr c7
   subst c7
   have H1 : (spec_TiesFor.j0 k a1 a2 true l0_0 a0_1 a0_2 a0_3 a0_4) = some (r1, r2) := by rw [if_neg (show ¬ (false = true) by decide)] at H; exact H
   clear H
   have H := H1
   clear H1
   have H' := Aside0.mk H
   clear H
   have hcz15_0 : w5.cell? ⟨gb101, 0, none⟩ = some (.slice A0_0 l0_0.length c0_0) := (blk_cell BK101.out 0).trans rfl
   have hcz15_1 : w5.cell? ⟨gb101, 1, none⟩ = some (.int .i64 a0_1) := (blk_cell BK101.out 1).trans rfl
   have hcz15_2 : w5.cell? ⟨gb101, 2, none⟩ = some (.int .i64 a0_2) := (blk_cell BK101.out 2).trans rfl
   have hcz15_3 : w5.cell? ⟨gb101, 3, none⟩ = some (.int .i64 a0_3) := (blk_cell BK101.out 3).trans rfl
   have hcz15_4 : w5.cell? ⟨gb101, 4, none⟩ = some (.int .i64 a0_4) := (blk_cell BK101.out 4).trans rfl
   have hfz15_0 := blk_frozen BK101.out 0
   have hfz15_1 := blk_frozen BK101.out 1
   have hfz15_2 := blk_frozen BK101.out 2
   have hfz15_3 := blk_frozen BK101.out 3
   have hfz15_4 := blk_frozen BK101.out 4
   go_wp2_with (first | (go_at_call 52; (with_reducible refine (spec_l21Good.calls k _ _ l0_0 a0_1 a0_2 a0_3 a0_4 false _ ?side1 ?side2 A6.out).mono ?_); (case side1 => repeat (first | exact (Kd.C_below HR0_0.out HB.out) | (with_reducible refine Kd.C_alloc ?_ _) | (with_reducible refine Kd.C_drewN ?_ _) | (with_reducible refine Kd.C_drew ?_))); (case side2 => exact HC0_0.out); rintro e w16 ⟨rfl, hb⟩; have n0_ := Aside0.mk (blk_below (bS BK101.out) hb); have n1_ := Aside0.mk (below_step (by exact eS HB.out) hb); clear BK101; clear HB; have BK101 := n0_; have HB := n1_; clear n0_ n1_; (try clear hb); (try clear hb2); (try clear hk); (try clear hi)))
   repeat (go_quiet (first | (go_at_call 52; (with_reducible refine (spec_l21Good.calls k _ _ l0_0 a0_1 a0_2 a0_3 a0_4 false _ ?side1 ?side2 A6.out).mono ?_); (case side1 => repeat (first | exact (Kd.C_below HR0_0.out HB.out) | (with_reducible refine Kd.C_alloc ?_ _) | (with_reducible refine Kd.C_drewN ?_ _) | (with_reducible refine Kd.C_drew ?_))); (case side2 => exact HC0_0.out); rintro e w16 ⟨rfl, hb⟩; have n0_ := Aside0.mk (blk_below (bS BK101.out) hb); have n1_ := Aside0.mk (below_step (by exact eS HB.out) hb); clear BK101; clear HB; have BK101 := n0_; have HB := n1_; clear n0_ n1_; (try clear hb); (try clear hb2); (try clear hk); (try clear hi))); try go_wp2_with (first | (go_at_call 52; (with_reducible refine (spec_l21Good.calls k _ _ l0_0 a0_1 a0_2 a0_3 a0_4 false _ ?side1 ?side2 A6.out).mono ?_); (case side1 => repeat (first | exact (Kd.C_below HR0_0.out HB.out) | (with_reducible refine Kd.C_alloc ?_ _) | (with_reducible refine Kd.C_drewN ?_ _) | (with_reducible refine Kd.C_drew ?_))); (case side2 => exact HC0_0.out); rintro e w16 ⟨rfl, hb⟩; have n0_ := Aside0.mk (blk_below (bS BK101.out) hb); have n1_ := Aside0.mk (below_step (by exact eS HB.out) hb); clear BK101; clear HB; have BK101 := n0_; have HB := n1_; clear n0_ n1_; (try clear hb); (try clear hb2); (try clear hk); (try clear hi))))
   go_meet
   case rel => exact ⟨_, (true), (by first | rfl | (simp; done) | (simp [*]; done)), H', ⟨by first | omega | exact Nat.le_refl _⟩, ⟨by exact bS BK101.out⟩, ⟨by exact eS HB.out⟩⟩
 case rest =>
  clear HC4
  try clear p2
  try clear c3
  try clear c7
  try clear c9
  try clear hcz11_0
  try clear hcz11_1
  try clear hcz11_2
  try clear hcz11_3
  try clear hcz11_4
  try clear hcz13_0
  try clear hcz13_1
  try clear hcz13_2
  try clear hcz13_3
  try clear hcz13_4
  try clear hcz15_0
  try clear hcz15_1
  try clear hcz15_2
  try clear hcz15_3
  try clear hcz15_4
  try clear hfz11_0
  try clear hfz11_1
  try clear hfz11_2
  try clear hfz11_3
  try clear hfz11_4
  try clear hfz13_0
  try clear hfz13_1
  try clear hfz13_2
  try clear hfz13_3
  try clear hfz13_4
  try clear hfz15_0
  try clear hfz15_1
  try clear hfz15_2
  try clear hfz15_3
  try clear hfz15_4
  obtain ⟨kq, x25_3, rfl, HA, HJ3, BK101, HB⟩ := hcut
  cases kq with
  | zero => exact absurd HA.out (by simp [spec_TiesFor.j0])
  | succ kj3 =>
   have H := HA.out
   clear HA
   simp only [spec_TiesFor.j0] at H
   by_cases c17 : x25_3 = true
   ·subst c17
    have H1 : (some (0, false)) = some (r1, r2) := by rw [if_pos rfl] at H; exact H
    clear H
    have H := H1
    clear H1
    simp only [Option.some.injEq, Prod.mk.injEq] at H
    obtain ⟨rfl, rfl⟩ := H
    go_wp2
    repeat (go_quiet (fail); try go_wp2)
    go_ret2
    exact ⟨by first | rfl | (simp [errW_none, errW_some] <;> rfl) | (simp [*, errW_none, errW_some] <;> rfl), by exact eS HB.out⟩
   ·replace c17 := Bool.eq_false_iff.mpr c17
    subst c17
    have H1 : (spec_TiesFor.l0 kj3 a1 a2 (([] : List Int)) 0 l0_0 a0_1 a0_2 a0_3 a0_4) = some (r1, r2) := by rw [if_neg (show ¬ (false = true) by decide)] at H; exact H
    clear H
    have H := H1
    clear H1
    obtain ⟨y105, hy105⟩ : ∃ y_ : List Int, y_ = (([] : List Int)) := ⟨_, rfl⟩
    replace H : (spec_TiesFor.l0 kj3 a1 a2 y105 0 l0_0 a0_1 a0_2 a0_3 a0_4) = some (r1, r2) := by first | (rw [hy105]; with_reducible exact H) | (have H2_ := (Option.bind_some _ _).symm.trans H; rw [hy105]; with_reducible exact H2_) | (have H2_ := (Option.bind_some _ _).symm.trans H; with_reducible exact H2_) | with_reducible exact H | (rw [hy105]; exact H) | exact H
    have Ny105 := Aside0.mk hy105
    clear hy105
    have H' := Aside0.mk H
    clear H
    go_wp2_with (first | ((with_reducible refine gate_dst (N := 26) rfl ?_); refine Kd.R_lit (Kd.int .i64) _ 3 ?hg (N := 26) ?hd (xs := ([] : List Int)) (inner := []) (ok := fun _ => True) (okp := fun _ => True) ?hr ?hp (fun _ hk => hk) trivial (Below.refl _ _) (Nat.le_refl _) (by simp) ?_; (case hd => rfl); (case hg => rfl); (case hr => first | (go_simp; done) | (go_simp; rfl)); (case hp => exact (Reps.none _ _)); intro v106 w18 ho19 hb hg_ hnew_; clear hg_ hnew_; (first | rw [← Ny105.out] at ho19 | (simp only [Int.reduceToNat] at ho19; rw [← Ny105.out] at ho19)); have n0_ := Aside0.mk (Kd.R_lower ho19 (below_size (by exact eS HB.out))); have n1_ := Aside0.mk (blk_below (bS BK101.out) hb); have n2_ := Aside0.mk (below_step (by exact eS HB.out) hb); clear BK101; clear HB; have HO107 := n0_; have BK101 := n1_; have HB := n2_; clear n0_ n1_ n2_; clear hb ho19))
    repeat (go_quiet (first | ((with_reducible refine gate_dst (N := 26) rfl ?_); refine Kd.R_lit (Kd.int .i64) _ 3 ?hg (N := 26) ?hd (xs := ([] : List Int)) (inner := []) (ok := fun _ => True) (okp := fun _ => True) ?hr ?hp (fun _ hk => hk) trivial (Below.refl _ _) (Nat.le_refl _) (by simp) ?_; (case hd => rfl); (case hg => rfl); (case hr => first | (go_simp; done) | (go_simp; rfl)); (case hp => exact (Reps.none _ _)); intro v106 w18 ho19 hb hg_ hnew_; clear hg_ hnew_; (first | rw [← Ny105.out] at ho19 | (simp only [Int.reduceToNat] at ho19; rw [← Ny105.out] at ho19)); have n0_ := Aside0.mk (Kd.R_lower ho19 (below_size (by exact eS HB.out))); have n1_ := Aside0.mk (blk_below (bS BK101.out) hb); have n2_ := Aside0.mk (below_step (by exact eS HB.out) hb); clear BK101; clear HB; have HO107 := n0_; have BK101 := n1_; have HB := n2_; clear n0_ n1_ n2_; clear hb ho19)); try go_wp2_with (first | ((with_reducible refine gate_dst (N := 26) rfl ?_); refine Kd.R_lit (Kd.int .i64) _ 3 ?hg (N := 26) ?hd (xs := ([] : List Int)) (inner := []) (ok := fun _ => True) (okp := fun _ => True) ?hr ?hp (fun _ hk => hk) trivial (Below.refl _ _) (Nat.le_refl _) (by simp) ?_; (case hd => rfl); (case hg => rfl); (case hr => first | (go_simp; done) | (go_simp; rfl)); (case hp => exact (Reps.none _ _)); intro v106 w18 ho19 hb hg_ hnew_; clear hg_ hnew_; (first | rw [← Ny105.out] at ho19 | (simp only [Int.reduceToNat] at ho19; rw [← Ny105.out] at ho19)); have n0_ := Aside0.mk (Kd.R_lower ho19 (below_size (by exact eS HB.out))); have n1_ := Aside0.mk (blk_below (bS BK101.out) hb); have n2_ := Aside0.mk (below_step (by exact eS HB.out) hb); clear BK101; clear HB; have HO107 := n0_; have BK101 := n1_; have HB := n2_; clear n0_ n1_ n2_; clear hb ho19)))
    go_loopg [8, 9] kj3 (fun kq v8 v9 w' => ∃ (x8_2 : List Int) (x9_2 : Int), v9 = .int .i64 x9_2 ∧ Aside0 (spec_TiesFor.l0 kq a1 a2 x8_2 x9_2 l0_0 a0_1 a0_2 a0_3 a0_4 = some (r1, r2)) ∧ Aside0 (kq ≤ kj3) ∧ Aside0 (Kd.R (Kd.int .i64) 3 w' w.heap.size (fun _ => True) v8 x8_2) ∧ Aside0 (w'.heap[gb101]? = some (.cells #[(.slice A0_0 l0_0.length c0_0), .int .i64 a0_1, .int .i64 a0_2, .int .i64 a0_3, .int .i64 a0_4] 37 (0, 0))) ∧ Aside0 (Below w.heap.size w w'))
    case atStart => exact ⟨(y105), (0), (by first | rfl | (simp; done) | (simp [*]; done)), H', ⟨Nat.le_refl _⟩, ⟨by exact Ho.RS <| HO107.out⟩, ⟨by exact bS BK101.out⟩, ⟨by exact eS HB.out⟩⟩
    case round =>
     clear H'
     try clear c1
     try clear p2
     try clear c3
     try clear c7
     try clear c9
     try clear c17
     try clear hcz11_0
     try clear hcz11_1
     try clear hcz11_2
     try clear hcz11_3
     try clear hcz11_4
     try clear hcz13_0
     try clear hcz13_1
     try clear hcz13_2
     try clear hcz13_3
     try clear hcz13_4
     try clear hcz15_0
     try clear hcz15_1
     try clear hcz15_2
     try clear hcz15_3
     try clear hcz15_4
     try clear hfz11_0
     try clear hfz11_1
     try clear hfz11_2
     try clear hfz11_3
     try clear hfz11_4
     try clear hfz13_0
     try clear hfz13_1
     try clear hfz13_2
     try clear hfz13_3
     try clear hfz13_4
     try clear hfz15_0
     try clear hfz15_1
     try clear hfz15_2
     try clear hfz15_3
     try clear hfz15_4
     try clear p2
     obtain ⟨x8_2, x9_2, rfl, HA, HK2, HO_8, BK101, HB⟩ := hrel
     cases gk with
     | zero => exact absurd HA.out (by simp [spec_TiesFor.l0])
     | succ k2 =>
      have H := HA.out
      clear HA
      simp only [spec_TiesFor.l0] at H
      by_cases c20 : (x8_2.length : Int) < (l0_0.length : Int)
      ·rw [if_pos c20] at H
       have c20b0 : decide ((x8_2.length : Int) < (l0_0.length : Int)) = true := decide_eq_true c20
       have c20b1 : decide (x8_2.length < l0_0.length) = true := decide_eq_true (Int.ofNat_lt.mp c20)
       clear c20
       have H' := Aside0.mk H
       clear H
       obtain ⟨Ao21, co21, eo21⟩ := Kd.R_slice HO_8.out
       subst eo21
       have hcz22_0 : wr.cell? ⟨gb101, 0, none⟩ = some (.slice A0_0 l0_0.length c0_0) := (blk_cell BK101.out 0).trans rfl
       have hcz22_1 : wr.cell? ⟨gb101, 1, none⟩ = some (.int .i64 a0_1) := (blk_cell BK101.out 1).trans rfl
       have hcz22_2 : wr.cell? ⟨gb101, 2, none⟩ = some (.int .i64 a0_2) := (blk_cell BK101.out 2).trans rfl
       have hcz22_3 : wr.cell? ⟨gb101, 3, none⟩ = some (.int .i64 a0_3) := (blk_cell BK101.out 3).trans rfl
       have hcz22_4 : wr.cell? ⟨gb101, 4, none⟩ = some (.int .i64 a0_4) := (blk_cell BK101.out 4).trans rfl
       have hfz22_0 := blk_frozen BK101.out 0
       have hfz22_1 := blk_frozen BK101.out 1
       have hfz22_2 := blk_frozen BK101.out 2
       have hfz22_3 := blk_frozen BK101.out 3
       have hfz22_4 := blk_frozen BK101.out 4
       go_wp2
       repeat (go_quiet (fail); try go_wp2)
       go_loopg [10, 11] k2 (fun kq v10 v11 w' => ∃ (x10_3 : Int) (x11_3 : Int), v10 = .int .i64 x10_3 ∧ v11 = .int .i64 x11_3 ∧ Aside0 (spec_TiesFor.l1 kq a1 a2 x8_2 x9_2 x10_3 x11_3 l0_0 a0_1 a0_2 a0_3 a0_4 = some (r1, r2)) ∧ Aside0 (kq ≤ k2) ∧ Aside0 (Kd.R (Kd.int .i64) 3 w' w.heap.size (fun _ => True) (.slice Ao21 x8_2.length co21) x8_2) ∧ Aside0 (w'.heap[gb101]? = some (.cells #[(.slice A0_0 l0_0.length c0_0), .int .i64 a0_1, .int .i64 a0_2, .int .i64 a0_3, .int .i64 a0_4] 37 (0, 0))) ∧ Aside0 (Below w.heap.size w w'))
       case atStart => exact ⟨((-1)), (0), (by first | rfl | (simp; done) | (simp [*]; done)), (by first | rfl | (simp; done) | (simp [*]; done)), H', ⟨Nat.le_refl _⟩, ⟨by exact Ho.RS <| HO_8.out⟩, ⟨by exact bS BK101.out⟩, ⟨by exact eS HB.out⟩⟩
       case round =>
        clear H'
        try clear c1
        try clear c2
        try clear p2
        try clear c3
        try clear c7
        try clear c9
        try clear c17
        try clear c20
        try clear c20b0
        try clear c20b1
        try clear hcz11_0
        try clear hcz11_1
        try clear hcz11_2
        try clear hcz11_3
        try clear hcz11_4
        try clear hcz13_0
        try clear hcz13_1
        try clear hcz13_2
        try clear hcz13_3
        try clear hcz13_4
        try clear hcz15_0
        try clear hcz15_1
        try clear hcz15_2
        try clear hcz15_3
        try clear hcz15_4
        try clear hcz22_0
        try clear hcz22_1
        try clear hcz22_2
        try clear hcz22_3
        try clear hcz22_4
        try clear hfz11_0
        try clear hfz11_1
        try clear hfz11_2
        try clear hfz11_3
        try clear hfz11_4
        try clear hfz13_0
        try clear hfz13_1
        try clear hfz13_2
        try clear hfz13_3
        try clear hfz13_4
        try clear hfz15_0
        try clear hfz15_1
        try clear hfz15_2
        try clear hfz15_3
        try clear hfz15_4
        try clear hfz22_0
        try clear hfz22_1
        try clear hfz22_2
        try clear hfz22_3
        try clear hfz22_4
        try clear p2
        obtain ⟨x10_3, x11_3, rfl, rfl, HA, HK3, HO_8, BK101, HB⟩ := hrel
        cases gk with
        | zero => exact absurd HA.out (by simp [spec_TiesFor.l1])
        | succ k3 =>
         have H := HA.out
         clear HA
         simp only [spec_TiesFor.l1] at H
         by_cases c23 : x11_3 < (l0_0.length : Int)
         ·rw [if_pos c23] at H
          have c23b0 : decide (x11_3 < (l0_0.length : Int)) = true := decide_eq_true c23
          clear c23
          by_cases c24 : 0 ≤ x11_3
          ·rw [if_pos c24] at H
           have c24b0 : decide (0 ≤ x11_3) = true := decide_eq_true c24
           clear c24
           by_cases c25 : ((rd_T66 l0_0 x11_3).f1) = a1
           ·rw [if_pos c25] at H
            have c25b0 : (((rd_T66 l0_0 x11_3).f1) == a1) = true := beq_iff_eq.mpr c25
            have c25b1 : (((rd_T66 l0_0 x11_3).f1) != a1) = false := bne_eq_false_iff_eq.mpr c25
            clear c25
            replace H := Option.bind_eq_some_iff.mp H
            obtain ⟨t110, A260, H⟩ := H
            replace H : (if t110 = true then (spec_TiesFor.l1 k3 a1 a2 x8_2 x9_2 x10_3 (wrap64 (x11_3 + 1)) l0_0 a0_1 a0_2 a0_3 a0_4) else (if x10_3 < 0 then (spec_TiesFor.l1 k3 a1 a2 x8_2 x9_2 x11_3 (wrap64 (x11_3 + 1)) l0_0 a0_1 a0_2 a0_3 a0_4) else (if 0 ≤ x10_3 then (if x10_3 < (l0_0.length : Int) then (if ((rd_T66 l0_0 x11_3).f2) > ((rd_T66 l0_0 x10_3).f2) then (spec_TiesFor.l1 k3 a1 a2 x8_2 x9_2 x11_3 (wrap64 (x11_3 + 1)) l0_0 a0_1 a0_2 a0_3 a0_4) else (spec_TiesFor.l1 k3 a1 a2 x8_2 x9_2 x10_3 (wrap64 (x11_3 + 1)) l0_0 a0_1 a0_2 a0_3 a0_4)) else (none)) else (none)))) = some (r1, r2) := H
            have A26 := Aside0.mk A260
            clear A260
            by_cases c27 : t110 = true
            ·subst c27
             have H1 : (spec_TiesFor.l1 k3 a1 a2 x8_2 x9_2 x10_3 (wrap64 (x11_3 + 1)) l0_0 a0_1 a0_2 a0_3 a0_4) = some (r1, r2) := by rw [if_pos rfl] at H; exact H
             clear H
             have H := H1
             clear H1
             have H' := Aside0.mk H
             clear H
             have hcz28_0 : wr.cell? ⟨gb101, 0, none⟩ = some (.slice A0_0 l0_0.length c0_0) := (blk_cell BK101.out 0).trans rfl
             have hcz28_1 : wr.cell? ⟨gb101, 1, none⟩ = some (.int .i64 a0_1) := (blk_cell BK101.out 1).trans rfl
             have hcz28_2 : wr.cell? ⟨gb101, 2, none⟩ = some (.int .i64 a0_2) := (blk_cell BK101.out 2).trans rfl
             have hcz28_3 : wr.cell? ⟨gb101, 3, none⟩ = some (.int .i64 a0_3) := (blk_cell BK101.out 3).trans rfl
             have hcz28_4 : wr.cell? ⟨gb101, 4, none⟩ = some (.int .i64 a0_4) := (blk_cell BK101.out 4).trans rfl
             have hfz28_0 := blk_frozen BK101.out 0
             have hfz28_1 := blk_frozen BK101.out 1
             have hfz28_2 := blk_frozen BK101.out 2
             have hfz28_3 := blk_frozen BK101.out 3
             have hfz28_4 := blk_frozen BK101.out 4
             have p108 : 0 ≤ (x11_3 : Int) := of_decide_eq_true (by first | (with_reducible assumption) | assumption)
             have q108 : x11_3 < (l0_0.length : Int) := of_decide_eq_true (by first | (with_reducible assumption) | assumption)
             obtain ⟨ad108, e108, hx108_0, hx108_1, hx108_2⟩ := at_T66 HR0_0.out x11_3 p108 q108
             cases e108
             replace hx108_0 := (HB.out.cell (World.block_lt_of_cell? w _ hx108_0)).trans hx108_0
             replace hx108_1 := (HB.out.cell (World.block_lt_of_cell? w _ hx108_1)).trans hx108_1
             replace hx108_2 := (HB.out.cell (World.block_lt_of_cell? w _ hx108_2)).trans hx108_2
             replace p108 := eq_true p108
             replace q108 := eq_true q108
             go_wp2_with (first | ((with_reducible refine gate_dst (N := 12) rfl ?_); refine box_event ?hg (N := 12) ?hd (cs := #[.int .i64 0, .int .i64 0, .int .i64 0]) (t := 66) ?hr ?_; (case hd => rfl); (case hg => rfl); (case hr => first | (go_simp; done) | (go_simp; rfl)); intro gb109 hg w29 hbox hb; have n0_ := Aside0.mk (Kd.R_below (by exact Ho.RS <| HO_8.out) hb); have n1_ := Aside0.mk (blk_below (bS BK101.out) hb); have n2_ := Aside0.mk (below_step (by exact eS HB.out) hb); have n3_ := Aside0.mk (hbox); have n4_ := Aside0.mk ((by rw [hg]; exact (below_size (by exact eS HB.out)) : w.heap.size ≤ gb109)); have n5_ := Aside0.mk ((by rw [hg]; exact (below_size (by exact eS HB.out)) : w.heap.size ≤ gb109)); have n6_ := Aside0.mk ((by rw [hg]; exact Nat.ne_of_lt (blk_lt (bS BK101.out)) : gb101 ≠ gb109)); have n7_ := Aside0.mk ((by rw [hg]; exact Nat.ne_of_gt (blk_lt (bS BK101.out)) : gb109 ≠ gb101)); clear HO_8; clear BK101; clear HB; have HO_8 := n0_; have BK101 := n1_; have HB := n2_; have BK109 := n3_; have GW109 := n4_; have GE109 := n5_; have NB101_109 := n6_; have NB109_101 := n7_; clear n0_ n1_ n2_ n3_ n4_ n5_ n6_ n7_; clear hb hbox hg; have hnb30 := NB109_101.out; have hnc30 := NB101_109.out; have hcz31_0 : w29.cell? ⟨gb109, 0, none⟩ = some (.int .i64 0) := (blk_cell BK109.out 0).trans rfl; have hcz31_1 : w29.cell? ⟨gb109, 1, none⟩ = some (.int .i64 0) := (blk_cell BK109.out 1).trans rfl; have hcz31_2 : w29.cell? ⟨gb109, 2, none⟩ = some (.int .i64 0) := (blk_cell BK109.out 2).trans rfl; have hfz31_0 := blk_frozen BK109.out 0; have hfz31_1 := blk_frozen BK109.out 1; have hfz31_2 := blk_frozen BK109.out 2) | (go_at_call 71; (with_reducible refine (spec_l1Has.calls k3 _ _ x8_2 ((rd_T66 l0_0 x11_3).f0) true _ ?side1 ?side2 A26.out).mono ?_); (case side1 => refine (Kd.R_reads' (e := 3) (base := w.heap.size) (ok := fun k_ => True) (n := x8_2.length) (c := co21) ?_).2.2; exact (by exact Ho.RS <| (Kd.R_mono (Kd.R_far (p := ⟨gb109, 2, none⟩) (Kd.R_far (p := ⟨gb109, 1, none⟩) (Kd.R_far (p := ⟨gb109, 0, none⟩) (Kd.R_types HO_8.out BK109.out (by decide)) (fun _ hk => hk.2) (.int .i64 ((rd_T66 l0_0 x11_3).f0))) (fun _ hk => hk.2) (.int .i64 ((rd_T66 l0_0 x11_3).f1))) (fun _ hk => hk.2) (.int .i64 ((rd_T66 l0_0 x11_3).f2))) (fun _ h_ => h_.1)))); (case side2 => exact (Kd.R_reads' HO_8.out).2.1); rintro e w' ⟨rfl, ⟨nd, rfl⟩⟩; (try first | exact ⟨rfl, _, World.drewN_drewN _ _ _⟩ | exact ⟨rfl, _, Eq.trans (World.drewN_drewN _ _ _) (congrArg (World.drewN _) (Nat.add_assoc _ _ _))⟩)))
             repeat (go_quiet (first | ((with_reducible refine gate_dst (N := 12) rfl ?_); refine box_event ?hg (N := 12) ?hd (cs := #[.int .i64 0, .int .i64 0, .int .i64 0]) (t := 66) ?hr ?_; (case hd => rfl); (case hg => rfl); (case hr => first | (go_simp; done) | (go_simp; rfl)); intro gb109 hg w29 hbox hb; have n0_ := Aside0.mk (Kd.R_below (by exact Ho.RS <| HO_8.out) hb); have n1_ := Aside0.mk (blk_below (bS BK101.out) hb); have n2_ := Aside0.mk (below_step (by exact eS HB.out) hb); have n3_ := Aside0.mk (hbox); have n4_ := Aside0.mk ((by rw [hg]; exact (below_size (by exact eS HB.out)) : w.heap.size ≤ gb109)); have n5_ := Aside0.mk ((by rw [hg]; exact (below_size (by exact eS HB.out)) : w.heap.size ≤ gb109)); have n6_ := Aside0.mk ((by rw [hg]; exact Nat.ne_of_lt (blk_lt (bS BK101.out)) : gb101 ≠ gb109)); have n7_ := Aside0.mk ((by rw [hg]; exact Nat.ne_of_gt (blk_lt (bS BK101.out)) : gb109 ≠ gb101)); clear HO_8; clear BK101; clear HB; have HO_8 := n0_; have BK101 := n1_; have HB := n2_; have BK109 := n3_; have GW109 := n4_; have GE109 := n5_; have NB101_109 := n6_; have NB109_101 := n7_; clear n0_ n1_ n2_ n3_ n4_ n5_ n6_ n7_; clear hb hbox hg; have hnb30 := NB109_101.out; have hnc30 := NB101_109.out; have hcz31_0 : w29.cell? ⟨gb109, 0, none⟩ = some (.int .i64 0) := (blk_cell BK109.out 0).trans rfl; have hcz31_1 : w29.cell? ⟨gb109, 1, none⟩ = some (.int .i64 0) := (blk_cell BK109.out 1).trans rfl; have hcz31_2 : w29.cell? ⟨gb109, 2, none⟩ = some (.int .i64 0) := (blk_cell BK109.out 2).trans rfl; have hfz31_0 := blk_frozen BK109.out 0; have hfz31_1 := blk_frozen BK109.out 1; have hfz31_2 := blk_frozen BK109.out 2) | (go_at_call 71; (with_reducible refine (spec_l1Has.calls k3 _ _ x8_2 ((rd_T66 l0_0 x11_3).f0) true _ ?side1 ?side2 A26.out).mono ?_); (case side1 => refine (Kd.R_reads' (e := 3) (base := w.heap.size) (ok := fun k_ => True) (n := x8_2.length) (c := co21) ?_).2.2; exact (by exact Ho.RS <| (Kd.R_mono (Kd.R_far (p := ⟨gb109, 2, none⟩) (Kd.R_far (p := ⟨gb109, 1, none⟩) (Kd.R_far (p := ⟨gb109, 0, none⟩) (Kd.R_types HO_8.out BK109.out (by decide)) (fun _ hk => hk.2) (.int .i64 ((rd_T66 l0_0 x11_3).f0))) (fun _ hk => hk.2) (.int .i64 ((rd_T66 l0_0 x11_3).f1))) (fun _ hk => hk.2) (.int .i64 ((rd_T66 l0_0 x11_3).f2))) (fun _ h_ => h_.1)))); (case side2 => exact (Kd.R_reads' HO_8.out).2.1); rintro e w' ⟨rfl, ⟨nd, rfl⟩⟩; (try first | exact ⟨rfl, _, World.drewN_drewN _ _ _⟩ | exact ⟨rfl, _, Eq.trans (World.drewN_drewN _ _ _) (congrArg (World.drewN _) (Nat.add_assoc _ _ _))⟩))); try go_wp2_with (first | ((with_reducible refine gate_dst (N := 12) rfl ?_); refine box_event ?hg (N := 12) ?hd (cs := #[.int .i64 0, .int .i64 0, .int .i64 0]) (t := 66) ?hr ?_; (case hd => rfl); (case hg => rfl); (case hr => first | (go_simp; done) | (go_simp; rfl)); intro gb109 hg w29 hbox hb; have n0_ := Aside0.mk (Kd.R_below (by exact Ho.RS <| HO_8.out) hb); have n1_ := Aside0.mk (blk_below (bS BK101.out) hb); have n2_ := Aside0.mk (below_step (by exact eS HB.out) hb); have n3_ := Aside0.mk (hbox); have n4_ := Aside0.mk ((by rw [hg]; exact (below_size (by exact eS HB.out)) : w.heap.size ≤ gb109)); have n5_ := Aside0.mk ((by rw [hg]; exact (below_size (by exact eS HB.out)) : w.heap.size ≤ gb109)); have n6_ := Aside0.mk ((by rw [hg]; exact Nat.ne_of_lt (blk_lt (bS BK101.out)) : gb101 ≠ gb109)); have n7_ := Aside0.mk ((by rw [hg]; exact Nat.ne_of_gt (blk_lt (bS BK101.out)) : gb109 ≠ gb101)); clear HO_8; clear BK101; clear HB; have HO_8 := n0_; have BK101 := n1_; have HB := n2_; have BK109 := n3_; have GW109 := n4_; have GE109 := n5_; have NB101_109 := n6_; have NB109_101 := n7_; clear n0_ n1_ n2_ n3_ n4_ n5_ n6_ n7_; clear hb hbox hg; have hnb30 := NB109_101.out; have hnc30 := NB101_109.out; have hcz31_0 : w29.cell? ⟨gb109, 0, none⟩ = some (.int .i64 0) := (blk_cell BK109.out 0).trans rfl; have hcz31_1 : w29.cell? ⟨gb109, 1, none⟩ = some (.int .i64 0) := (blk_cell BK109.out 1).trans rfl; have hcz31_2 : w29.cell? ⟨gb109, 2, none⟩ = some (.int .i64 0) := (blk_cell BK109.out 2).trans rfl; have hfz31_0 := blk_frozen BK109.out 0; have hfz31_1 := blk_frozen BK109.out 1; have hfz31_2 := blk_frozen BK109.out 2) | (go_at_call 71; (with_reducible refine (spec_l1Has.calls k3 _ _ x8_2 ((rd_T66 l0_0 x11_3).f0) true _ ?side1 ?side2 A26.out).mono ?_); (case side1 => refine (Kd.R_reads' (e := 3) (base := w.heap.size) (ok := fun k_ => True) (n := x8_2.length) (c := co21) ?_).2.2; exact (by exact Ho.RS <| (Kd.R_mono (Kd.R_far (p := ⟨gb109, 2, none⟩) (Kd.R_far (p := ⟨gb109, 1, none⟩) (Kd.R_far (p := ⟨gb109, 0, none⟩) (Kd.R_types HO_8.out BK109.out (by decide)) (fun _ hk => hk.2) (.int .i64 ((rd_T66 l0_0 x11_3).f0))) (fun _ hk => hk.2) (.int .i64 ((rd_T66 l0_0 x11_3).f1))) (fun _ hk => hk.2) (.int .i64 ((rd_T66 l0_0 x11_3).f2))) (fun _ h_ => h_.1)))); (case side2 => exact (Kd.R_reads' HO_8.out).2.1); rintro e w' ⟨rfl, ⟨nd, rfl⟩⟩; (try first | exact ⟨rfl, _, World.drewN_drewN _ _ _⟩ | exact ⟨rfl, _, Eq.trans (World.drewN_drewN _ _ _) (congrArg (World.drewN _) (Nat.add_assoc _ _ _))⟩))))
             go_roundg k3
             case measure => have := HJ3.out; have := HK2.out; have := HK3.out; omega
             case rel => exact ⟨(x10_3), (wrap64 (x11_3 + 1)), (by first | rfl | (simp; done) | (simp [*]; done)), (by first | rfl | (simp; done) | (simp [*]; done)), H', ⟨by have := HJ3.out; have := HK2.out; have := HK3.out; omega⟩, ⟨by exact Ho.RS <| Kd.R_mono (Kd.R_far (p := ⟨gb109, 2, none⟩) (Kd.R_far (p := ⟨gb109, 1, none⟩) (Kd.R_far (p := ⟨gb109, 0, none⟩) (Kd.R_types HO_8.out BK109.out (by decide)) (fun _ hk => hk.2) (.int .i64 ((rd_T66 l0_0 x11_3).f0))) (fun _ hk => hk.2) (.int .i64 ((rd_T66 l0_0 x11_3).f1))) (fun _ hk => hk.2) (.int .i64 ((rd_T66 l0_0 x11_3).f2))) (fun _ hk => trivial)⟩, ⟨by (with_reducible repeat (first | refine blk_drewN ?_ _ | refine blk_drew ?_ | refine blk_alloc ?_ _)); refine blk_far ?_ NB101_109.out _; (with_reducible repeat (first | refine blk_drewN ?_ _ | refine blk_drew ?_ | refine blk_alloc ?_ _)); refine blk_far ?_ NB101_109.out _; (with_reducible repeat (first | refine blk_drewN ?_ _ | refine blk_drew ?_ | refine blk_alloc ?_ _)); refine blk_far ?_ NB101_109.out _; exact bS BK101.out⟩, ⟨by repeat (first | (with_reducible first | exact HB.out | apply below_alloc | apply pw_below_drewN | apply below_drew1 | refine below_set ?_ GE101.out | refine below_set ?_ GE109.out) | exact HB.out)⟩⟩
            ·replace c27 := Bool.eq_false_iff.mpr c27
             subst c27
             have H1 : (if x10_3 < 0 then (spec_TiesFor.l1 k3 a1 a2 x8_2 x9_2 x11_3 (wrap64 (x11_3 + 1)) l0_0 a0_1 a0_2 a0_3 a0_4) else (if 0 ≤ x10_3 then (if x10_3 < (l0_0.length : Int) then (if ((rd_T66 l0_0 x11_3).f2) > ((rd_T66 l0_0 x10_3).f2) then (spec_TiesFor.l1 k3 a1 a2 x8_2 x9_2 x11_3 (wrap64 (x11_3 + 1)) l0_0 a0_1 a0_2 a0_3 a0_4) else (spec_TiesFor.l1 k3 a1 a2 x8_2 x9_2 x10_3 (wrap64 (x11_3 + 1)) l0_0 a0_1 a0_2 a0_3 a0_4)) else (none)) else (none))) = some (r1, r2) := by rw [if_neg (show ¬ (false = true) by decide)] at H; exact H
             clear H
             have H := H1
             clear H1
             by_cases c32 : x10_3 < 0
             ·rw [if_pos c32] at H
              have c32b0 : decide (x10_3 < 0) = true := decide_eq_true c32
              clear c32
              have H' := Aside0.mk H
              clear H
              have hcz33_0 : wr.cell? ⟨gb101, 0, none⟩ = some (.slice A0_0 l0_0.length c0_0) := (blk_cell BK101.out 0).trans rfl
              have hcz33_1 : wr.cell? ⟨gb101, 1, none⟩ = some (.int .i64 a0_1) := (blk_cell BK101.out 1).trans rfl
              have hcz33_2 : wr.cell? ⟨gb101, 2, none⟩ = some (.int .i64 a0_2) := (blk_cell BK101.out 2).trans rfl
              have hcz33_3 : wr.cell? ⟨gb101, 3, none⟩ = some (.int .i64 a0_3) := (blk_cell BK101.out 3).trans rfl
              have hcz33_4 : wr.cell? ⟨gb101, 4, none⟩ = some (.int .i64 a0_4) := (blk_cell BK101.out 4).trans rfl
              have hfz33_0 := blk_frozen BK101.out 0
              have hfz33_1 := blk_frozen BK101.out 1
              have hfz33_2 := blk_frozen BK101.out 2
              have hfz33_3 := blk_frozen BK101.out 3
              have hfz33_4 := blk_frozen BK101.out 4
              have p108 : 0 ≤ (x11_3 : Int) := of_decide_eq_true (by first | (with_reducible assumption) | assumption)
              have q108 : x11_3 < (l0_0.length : Int) := of_decide_eq_true (by first | (with_reducible assumption) | assumption)
              obtain ⟨ad108, e108, hx108_0, hx108_1, hx108_2⟩ := at_T66 HR0_0.out x11_3 p108 q108
              cases e108
              replace hx108_0 := (HB.out.cell (World.block_lt_of_cell? w _ hx108_0)).trans hx108_0
              replace hx108_1 := (HB.out.cell (World.block_lt_of_cell? w _ hx108_1)).trans hx108_1
              replace hx108_2 := (HB.out.cell (World.block_lt_of_cell? w _ hx108_2)).trans hx108_2
              replace p108 := eq_true p108
              replace q108 := eq_true q108
              go_wp2_with (first | ((with_reducible refine gate_dst (N := 12) rfl ?_); refine box_event ?hg (N := 12) ?hd (cs := #[.int .i64 0, .int .i64 0, .int .i64 0]) (t := 66) ?hr ?_; (case hd => rfl); (case hg => rfl); (case hr => first | (go_simp; done) | (go_simp; rfl)); intro gb109 hg w34 hbox hb; have n0_ := Aside0.mk (Kd.R_below (by exact Ho.RS <| HO_8.out) hb); have n1_ := Aside0.mk (blk_below (bS BK101.out) hb); have n2_ := Aside0.mk (below_step (by exact eS HB.out) hb); have n3_ := Aside0.mk (hbox); have n4_ := Aside0.mk ((by rw [hg]; exact (below_size (by exact eS HB.out)) : w.heap.size ≤ gb109)); have n5_ := Aside0.mk ((by rw [hg]; exact (below_size (by exact eS HB.out)) : w.heap.size ≤ gb109)); have n6_ := Aside0.mk ((by rw [hg]; exact Nat.ne_of_lt (blk_lt (bS BK101.out)) : gb101 ≠ gb109)); have n7_ := Aside0.mk ((by rw [hg]; exact Nat.ne_of_gt (blk_lt (bS BK101.out)) : gb109 ≠ gb101)); clear HO_8; clear BK101; clear HB; have HO_8 := n0_; have BK101 := n1_; have HB := n2_; have BK109 := n3_; have GW109 := n4_; have GE109 := n5_; have NB101_109 := n6_; have NB109_101 := n7_; clear n0_ n1_ n2_ n3_ n4_ n5_ n6_ n7_; clear hb hbox hg; have hnb35 := NB109_101.out; have hnc35 := NB101_109.out; have hcz36_0 : w34.cell? ⟨gb109, 0, none⟩ = some (.int .i64 0) := (blk_cell BK109.out 0).trans rfl; have hcz36_1 : w34.cell? ⟨gb109, 1, none⟩ = some (.int .i64 0) := (blk_cell BK109.out 1).trans rfl; have hcz36_2 : w34.cell? ⟨gb109, 2, none⟩ = some (.int .i64 0) := (blk_cell BK109.out 2).trans rfl; have hfz36_0 := blk_frozen BK109.out 0; have hfz36_1 := blk_frozen BK109.out 1; have hfz36_2 := blk_frozen BK109.out 2) | (go_at_call 71; (with_reducible refine (spec_l1Has.calls k3 _ _ x8_2 ((rd_T66 l0_0 x11_3).f0) false _ ?side1 ?side2 A26.out).mono ?_); (case side1 => refine (Kd.R_reads' (e := 3) (base := w.heap.size) (ok := fun k_ => True) (n := x8_2.length) (c := co21) ?_).2.2; exact (by exact Ho.RS <| (Kd.R_mono (Kd.R_far (p := ⟨gb109, 2, none⟩) (Kd.R_far (p := ⟨gb109, 1, none⟩) (Kd.R_far (p := ⟨gb109, 0, none⟩) (Kd.R_types HO_8.out BK109.out (by decide)) (fun _ hk => hk.2) (.int .i64 ((rd_T66 l0_0 x11_3).f0))) (fun _ hk => hk.2) (.int .i64 ((rd_T66 l0_0 x11_3).f1))) (fun _ hk => hk.2) (.int .i64 ((rd_T66 l0_0 x11_3).f2))) (fun _ h_ => h_.1)))); (case side2 => exact (Kd.R_reads' HO_8.out).2.1); rintro e w' ⟨rfl, ⟨nd, rfl⟩⟩; (try first | exact ⟨rfl, _, World.drewN_drewN _ _ _⟩ | exact ⟨rfl, _, Eq.trans (World.drewN_drewN _ _ _) (congrArg (World.drewN _) (Nat.add_assoc _ _ _))⟩)))
              repeat (go_quiet (first | ((with_reducible refine gate_dst (N := 12) rfl ?_); refine box_event ?hg (N := 12) ?hd (cs := #[.int .i64 0, .int .i64 0, .int .i64 0]) (t := 66) ?hr ?_; (case hd => rfl); (case hg => rfl); (case hr => first | (go_simp; done) | (go_simp; rfl)); intro gb109 hg w34 hbox hb; have n0_ := Aside0.mk (Kd.R_below (by exact Ho.RS <| HO_8.out) hb); have n1_ := Aside0.mk (blk_below (bS BK101.out) hb); have n2_ := Aside0.mk (below_step (by exact eS HB.out) hb); have n3_ := Aside0.mk (hbox); have n4_ := Aside0.mk ((by rw [hg]; exact (below_size (by exact eS HB.out)) : w.heap.size ≤ gb109)); have n5_ := Aside0.mk ((by rw [hg]; exact (below_size (by exact eS HB.out)) : w.heap.size ≤ gb109)); have n6_ := Aside0.mk ((by rw [hg]; exact Nat.ne_of_lt (blk_lt (bS BK101.out)) : gb101 ≠ gb109)); have n7_ := Aside0.mk ((by rw [hg]; exact Nat.ne_of_gt (blk_lt (bS BK101.out)) : gb109 ≠ gb101)); clear HO_8; clear BK101; clear HB; have HO_8 := n0_; have BK101 := n1_; have HB := n2_; have BK109 := n3_; have GW109 := n4_; have GE109 := n5_; have NB101_109 := n6_; have NB109_101 := n7_; clear n0_ n1_ n2_ n3_ n4_ n5_ n6_ n7_; clear hb hbox hg; have hnb35 := NB109_101.out; have hnc35 := NB101_109.out; have hcz36_0 : w34.cell? ⟨gb109, 0, none⟩ = some (.int .i64 0) := (blk_cell BK109.out 0).trans rfl; have hcz36_1 : w34.cell? ⟨gb109, 1, none⟩ = some (.int .i64 0) := (blk_cell BK109.out 1).trans rfl; have hcz36_2 : w34.cell? ⟨gb109, 2, none⟩ = some (.int .i64 0) := (blk_cell BK109.out 2).trans rfl; have hfz36_0 := blk_frozen BK109.out 0; have hfz36_1 := blk_frozen BK109.out 1; have hfz36_2 := blk_frozen BK109.out 2) | (go_at_call 71; (with_reducible refine (spec_l1Has.calls k3 _ _ x8_2 ((rd_T66 l0_0 x11_3).f0) false _ ?side1 ?side2 A26.out).mono ?_); (case side1 => refine (Kd.R_reads' (e := 3) (base := w.heap.size) (ok := fun k_ => True) (n := x8_2.length) (c := co21) ?_).2.2; exact (by exact Ho.RS <| (Kd.R_mono (Kd.R_far (p := ⟨gb109, 2, none⟩) (Kd.R_far (p := ⟨gb109, 1, none⟩) (Kd.R_far (p := ⟨gb109, 0, none⟩) (Kd.R_types HO_8.out BK109.out (by decide)) (fun _ hk => hk.2) (.int .i64 ((rd_T66 l0_0 x11_3).f0))) (fun _ hk => hk.2) (.int .i64 ((rd_T66 l0_0 x11_3).f1))) (fun _ hk => hk.2) (.int .i64 ((rd_T66 l0_0 x11_3).f2))) (fun _ h_ => h_.1)))); (case side2 => exact (Kd.R_reads' HO_8.out).2.1); rintro e w' ⟨rfl, ⟨nd, rfl⟩⟩; (try first | exact ⟨rfl, _, World.drewN_drewN _ _ _⟩ | exact ⟨rfl, _, Eq.trans (World.drewN_drewN _ _ _) (congrArg (World.drewN _) (Nat.add_assoc _ _ _))⟩))); try go_wp2_with (first | ((with_reducible refine gate_dst (N := 12) rfl ?_); refine box_event ?hg (N := 12) ?hd (cs := #[.int .i64 0, .int .i64 0, .int .i64 0]) (t := 66) ?hr ?_; (case hd => rfl); (case hg => rfl); (case hr => first | (go_simp; done) | (go_simp; rfl)); intro gb109 hg w34 hbox hb; have n0_ := Aside0.mk (Kd.R_below (by exact Ho.RS <| HO_8.out) hb); have n1_ := Aside0.mk (blk_below (bS BK101.out) hb); have n2_ := Aside0.mk (below_step (by exact eS HB.out) hb); have n3_ := Aside0.mk (hbox); have n4_ := Aside0.mk ((by rw [hg]; exact (below_size (by exact eS HB.out)) : w.heap.size ≤ gb109)); have n5_ := Aside0.mk ((by rw [hg]; exact (below_size (by exact eS HB.out)) : w.heap.size ≤ gb109)); have n6_ := Aside0.mk ((by rw [hg]; exact Nat.ne_of_lt (blk_lt (bS BK101.out)) : gb101 ≠ gb109)); have n7_ := Aside0.mk ((by rw [hg]; exact Nat.ne_of_gt (blk_lt (bS BK101.out)) : gb109 ≠ gb101)); clear HO_8; clear BK101; clear HB; have HO_8 := n0_; have BK101 := n1_; have HB := n2_; have BK109 := n3_; have GW109 := n4_; have GE109 := n5_; have NB101_109 := n6_; have NB109_101 := n7_; clear n0_ n1_ n2_ n3_ n4_ n5_ n6_ n7_; clear hb hbox hg; have hnb35 := NB109_101.out; have hnc35 := NB101_109.out; have hcz36_0 : w34.cell? ⟨gb109, 0, none⟩ = some (.int .i64 0) := (blk_cell BK109.out 0).trans rfl; have hcz36_1 : w34.cell? ⟨gb109, 1, none⟩ = some (.int .i64 0) := (blk_cell BK109.out 1).trans rfl; have hcz36_2 : w34.cell? ⟨gb109, 2, none⟩ = some (.int .i64 0) := (blk_cell BK109.out 2).trans rfl; have hfz36_0 := blk_frozen BK109.out 0; have hfz36_1 := blk_frozen BK109.out 1; have hfz36_2 := blk_frozen BK109.out 2) | (go_at_call 71; (with_reducible refine (spec_l1Has.calls k3 _ _ x8_2 ((rd_T66 l0_0 x11_3).f0) false _ ?side1 ?side2 A26.out).mono ?_); (case side1 => refine (Kd.R_reads' (e := 3) (base := w.heap.size) (ok := fun k_ => True) (n := x8_2.length) (c := co21) ?_).2.2; exact (by exact Ho.RS <| (Kd.R_mono (Kd.R_far (p := ⟨gb109, 2, none⟩) (Kd.R_far (p := ⟨gb109, 1, none⟩) (Kd.R_far (p := ⟨gb109, 0, none⟩) (Kd.R_types HO_8.out BK109.out (by decide)) (fun _ hk => hk.2) (.int .i64 ((rd_T66 l0_0 x11_3).f0))) (fun _ hk => hk.2) (.int .i64 ((rd_T66 l0_0 x11_3).f1))) (fun _ hk => hk.2) (.int .i64 ((rd_T66 l0_0 x11_3).f2))) (fun _ h_ => h_.1)))); (case side2 => exact (Kd.R_reads' HO_8.out).2.1); rintro e w' ⟨rfl, ⟨nd, rfl⟩⟩; (try first | exact ⟨rfl, _, World.drewN_drewN _ _ _⟩ | exact ⟨rfl, _, Eq.trans (World.drewN_drewN _ _ _) (congrArg (World.drewN _) (Nat.add_assoc _ _ _))⟩))))
              go_roundg k3
              case measure => have := HJ3.out; have := HK2.out; have := HK3.out; omega
              case rel => exact ⟨(x11_3), (wrap64 (x11_3 + 1)), (by first | rfl | (simp; done) | (simp [*]; done)), (by first | rfl | (simp; done) | (simp [*]; done)), H', ⟨by have := HJ3.out; have := HK2.out; have := HK3.out; omega⟩, ⟨by exact Ho.RS <| Kd.R_mono (Kd.R_far (p := ⟨gb109, 2, none⟩) (Kd.R_far (p := ⟨gb109, 1, none⟩) (Kd.R_far (p := ⟨gb109, 0, none⟩) (Kd.R_types HO_8.out BK109.out (by decide)) (fun _ hk => hk.2) (.int .i64 ((rd_T66 l0_0 x11_3).f0))) (fun _ hk => hk.2) (.int .i64 ((rd_T66 l0_0 x11_3).f1))) (fun _ hk => hk.2) (.int .i64 ((rd_T66 l0_0 x11_3).f2))) (fun _ hk => trivial)⟩, ⟨by (with_reducible repeat (first | refine blk_drewN ?_ _ | refine blk_drew ?_ | refine blk_alloc ?_ _)); refine blk_far ?_ NB101_109.out _; (with_reducible repeat (first | refine blk_drewN ?_ _ | refine blk_drew ?_ | refine blk_alloc ?_ _)); refine blk_far ?_ NB101_109.out _; (with_reducible repeat (first | refine blk_drewN ?_ _ | refine blk_drew ?_ | refine blk_alloc ?_ _)); refine blk_far ?_ NB101_109.out _; exact bS BK101.out⟩, ⟨by repeat (first | (with_reducible first | exact HB.out | apply below_alloc | apply pw_below_drewN | apply below_drew1 | refine below_set ?_ GE101.out | refine below_set ?_ GE109.out) | exact HB.out)⟩⟩
             ·rw [if_neg c32] at H
              have c32b0 : decide (x10_3 < 0) = false := decide_eq_false c32
              clear c32
              by_cases c37 : 0 ≤ x10_3
              ·rw [if_pos c37] at H
               have c37b0 : decide (0 ≤ x10_3) = true := decide_eq_true c37
               clear c37
               by_cases c38 : x10_3 < (l0_0.length : Int)
               ·rw [if_pos c38] at H
                have c38b0 : decide (x10_3 < (l0_0.length : Int)) = true := decide_eq_true c38
                clear c38
                by_cases c39 : ((rd_T66 l0_0 x11_3).f2) > ((rd_T66 l0_0 x10_3).f2)
                ·rw [if_pos c39] at H
                 have c39b0 : decide (((rd_T66 l0_0 x10_3).f2) < ((rd_T66 l0_0 x11_3).f2)) = true := decide_eq_true c39
                 clear c39
                 have H' := Aside0.mk H
                 clear H
                 have hcz40_0 : wr.cell? ⟨gb101, 0, none⟩ = some (.slice A0_0 l0_0.length c0_0) := (blk_cell BK101.out 0).trans rfl
                 have hcz40_1 : wr.cell? ⟨gb101, 1, none⟩ = some (.int .i64 a0_1) := (blk_cell BK101.out 1).trans rfl
                 have hcz40_2 : wr.cell? ⟨gb101, 2, none⟩ = some (.int .i64 a0_2) := (blk_cell BK101.out 2).trans rfl
                 have hcz40_3 : wr.cell? ⟨gb101, 3, none⟩ = some (.int .i64 a0_3) := (blk_cell BK101.out 3).trans rfl
                 have hcz40_4 : wr.cell? ⟨gb101, 4, none⟩ = some (.int .i64 a0_4) := (blk_cell BK101.out 4).trans rfl
                 have hfz40_0 := blk_frozen BK101.out 0
                 have hfz40_1 := blk_frozen BK101.out 1
                 have hfz40_2 := blk_frozen BK101.out 2
                 have hfz40_3 := blk_frozen BK101.out 3
                 have hfz40_4 := blk_frozen BK101.out 4
                 have p108 : 0 ≤ (x11_3 : Int) := of_decide_eq_true (by first | (with_reducible assumption) | assumption)
                 have q108 : x11_3 < (l0_0.length : Int) := of_decide_eq_true (by first | (with_reducible assumption) | assumption)
                 obtain ⟨ad108, e108, hx108_0, hx108_1, hx108_2⟩ := at_T66 HR0_0.out x11_3 p108 q108
                 cases e108
                 replace hx108_0 := (HB.out.cell (World.block_lt_of_cell? w _ hx108_0)).trans hx108_0
                 replace hx108_1 := (HB.out.cell (World.block_lt_of_cell? w _ hx108_1)).trans hx108_1
                 replace hx108_2 := (HB.out.cell (World.block_lt_of_cell? w _ hx108_2)).trans hx108_2
                 replace p108 := eq_true p108
                 replace q108 := eq_true q108
                 go_wp2_with (first | ((with_reducible refine gate_dst (N := 12) rfl ?_); refine box_event ?hg (N := 12) ?hd (cs := #[.int .i64 0, .int .i64 0, .int .i64 0]) (t := 66) ?hr ?_; (case hd => rfl); (case hg => rfl); (case hr => first | (go_simp; done) | (go_simp; rfl)); intro gb109 hg w41 hbox hb; have n0_ := Aside0.mk (Kd.R_below (by exact Ho.RS <| HO_8.out) hb); have n1_ := Aside0.mk (blk_below (bS BK101.out) hb); have n2_ := Aside0.mk (below_step (by exact eS HB.out) hb); have n3_ := Aside0.mk (hbox); have n4_ := Aside0.mk ((by rw [hg]; exact (below_size (by exact eS HB.out)) : w.heap.size ≤ gb109)); have n5_ := Aside0.mk ((by rw [hg]; exact (below_size (by exact eS HB.out)) : w.heap.size ≤ gb109)); have n6_ := Aside0.mk ((by rw [hg]; exact Nat.ne_of_lt (blk_lt (bS BK101.out)) : gb101 ≠ gb109)); have n7_ := Aside0.mk ((by rw [hg]; exact Nat.ne_of_gt (blk_lt (bS BK101.out)) : gb109 ≠ gb101)); clear HO_8; clear BK101; clear HB; have HO_8 := n0_; have BK101 := n1_; have HB := n2_; have BK109 := n3_; have GW109 := n4_; have GE109 := n5_; have NB101_109 := n6_; have NB109_101 := n7_; clear n0_ n1_ n2_ n3_ n4_ n5_ n6_ n7_; clear hb hbox hg; have hnb42 := NB109_101.out; have hnc42 := NB101_109.out; have hcz43_0 : w41.cell? ⟨gb109, 0, none⟩ = some (.int .i64 0) := (blk_cell BK109.out 0).trans rfl; have hcz43_1 : w41.cell? ⟨gb109, 1, none⟩ = some (.int .i64 0) := (blk_cell BK109.out 1).trans rfl; have hcz43_2 : w41.cell? ⟨gb109, 2, none⟩ = some (.int .i64 0) := (blk_cell BK109.out 2).trans rfl; have hfz43_0 := blk_frozen BK109.out 0; have hfz43_1 := blk_frozen BK109.out 1; have hfz43_2 := blk_frozen BK109.out 2) | (go_at_call 71; (with_reducible refine (spec_l1Has.calls k3 _ _ x8_2 ((rd_T66 l0_0 x11_3).f0) false _ ?side1 ?side2 A26.out).mono ?_); (case side1 => refine (Kd.R_reads' (e := 3) (base := w.heap.size) (ok := fun k_ => True) (n := x8_2.length) (c := co21) ?_).2.2; exact (by exact Ho.RS <| (Kd.R_mono (Kd.R_far (p := ⟨gb109, 2, none⟩) (Kd.R_far (p := ⟨gb109, 1, none⟩) (Kd.R_far (p := ⟨gb109, 0, none⟩) (Kd.R_types HO_8.out BK109.out (by decide)) (fun _ hk => hk.2) (.int .i64 ((rd_T66 l0_0 x11_3).f0))) (fun _ hk => hk.2) (.int .i64 ((rd_T66 l0_0 x11_3).f1))) (fun _ hk => hk.2) (.int .i64 ((rd_T66 l0_0 x11_3).f2))) (fun _ h_ => h_.1)))); (case side2 => exact (Kd.R_reads' HO_8.out).2.1); rintro e w' ⟨rfl, ⟨nd, rfl⟩⟩; (try first | exact ⟨rfl, _, World.drewN_drewN _ _ _⟩ | exact ⟨rfl, _, Eq.trans (World.drewN_drewN _ _ _) (congrArg (World.drewN _) (Nat.add_assoc _ _ _))⟩); have hcz44_0 : w41.cell? ⟨gb101, 0, none⟩ = some (.slice (some ad108) l0_0.length c0_0) := (blk_cell BK101.out 0).trans rfl; have hcz44_1 : w41.cell? ⟨gb101, 1, none⟩ = some (.int .i64 a0_1) := (blk_cell BK101.out 1).trans rfl; have hcz44_2 : w41.cell? ⟨gb101, 2, none⟩ = some (.int .i64 a0_2) := (blk_cell BK101.out 2).trans rfl; have hcz44_3 : w41.cell? ⟨gb101, 3, none⟩ = some (.int .i64 a0_3) := (blk_cell BK101.out 3).trans rfl; have hcz44_4 : w41.cell? ⟨gb101, 4, none⟩ = some (.int .i64 a0_4) := (blk_cell BK101.out 4).trans rfl; have hfz44_0 := blk_frozen BK101.out 0; have hfz44_1 := blk_frozen BK101.out 1; have hfz44_2 := blk_frozen BK101.out 2; have hfz44_3 := blk_frozen BK101.out 3; have hfz44_4 := blk_frozen BK101.out 4; have p111 : 0 ≤ (x10_3 : Int) := of_decide_eq_true (by first | (with_reducible assumption) | assumption); have q111 : x10_3 < (l0_0.length : Int) := of_decide_eq_true (by first | (with_reducible assumption) | assumption); obtain ⟨ad111, e111, hx111_0, hx111_1, hx111_2⟩ := at_T66 HR0_0.out x10_3 p111 q111; obtain rfl : ad108 = ad111 := (by injection e111); have hn111_0 : ad108.block ≠ gb109 := Nat.ne_of_lt (Nat.lt_of_lt_of_le (by have := World.block_lt_of_cell? _ _ hx111_0; first | rwa [add_block] at this | exact this) GW109.out); have hn111_1 : ad108.block ≠ gb109 := Nat.ne_of_lt (Nat.lt_of_lt_of_le (by have := World.block_lt_of_cell? _ _ hx111_0; first | rwa [add_block] at this | exact this) GW109.out); have hn111_2 : ad108.block ≠ gb109 := Nat.ne_of_lt (Nat.lt_of_lt_of_le (by have := World.block_lt_of_cell? _ _ hx111_0; first | rwa [add_block] at this | exact this) GW109.out); replace hx111_0 := (HB.out.cell (World.block_lt_of_cell? w _ hx111_0)).trans hx111_0; replace hx111_1 := (HB.out.cell (World.block_lt_of_cell? w _ hx111_1)).trans hx111_1; replace hx111_2 := (HB.out.cell (World.block_lt_of_cell? w _ hx111_2)).trans hx111_2; replace hx111_0 := (cell_far (p := ⟨gb109, 0, none⟩) (by first | (rw [add_block]; exact hn111_0) | (show (Addr.add _ _).block ≠ _; rw [add_block]; exact hn111_0) | exact hn111_0) (.int .i64 ((rd_T66 l0_0 x11_3).f0))).trans hx111_0; replace hx111_1 := (cell_far (p := ⟨gb109, 0, none⟩) (by first | (rw [add_block]; exact hn111_0) | (show (Addr.add _ _).block ≠ _; rw [add_block]; exact hn111_0) | exact hn111_0) (.int .i64 ((rd_T66 l0_0 x11_3).f0))).trans hx111_1; replace hx111_2 := (cell_far (p := ⟨gb109, 0, none⟩) (by first | (rw [add_block]; exact hn111_0) | (show (Addr.add _ _).block ≠ _; rw [add_block]; exact hn111_0) | exact hn111_0) (.int .i64 ((rd_T66 l0_0 x11_3).f0))).trans hx111_2; replace hx111_0 := (cell_far (p := ⟨gb109, 1, none⟩) (by first | (rw [add_block]; exact hn111_1) | (show (Addr.add _ _).block ≠ _; rw [add_block]; exact hn111_1) | exact hn111_1) (.int .i64 ((rd_T66 l0_0 x11_3).f1))).trans hx111_0; replace hx111_1 := (cell_far (p := ⟨gb109, 1, none⟩) (by first | (rw [add_block]; exact hn111_1) | (show (Addr.add _ _).block ≠ _; rw [add_block]; exact hn111_1) | exact hn111_1) (.int .i64 ((rd_T66 l0_0 x11_3).f1))).trans hx111_1; replace hx111_2 := (cell_far (p := ⟨gb109, 1, none⟩) (by first | (rw [add_block]; exact hn111_1) | (show (Addr.add _ _).block ≠ _; rw [add_block]; exact hn111_1) | exact hn111_1) (.int .i64 ((rd_T66 l0_0 x11_3).f1))).trans hx111_2; replace hx111_0 := (cell_far (p := ⟨gb109, 2, none⟩) (by first | (rw [add_block]; exact hn111_2) | (show (Addr.add _ _).block ≠ _; rw [add_block]; exact hn111_2) | exact hn111_2) (.int .i64 ((rd_T66 l0_0 x11_3).f2))).trans hx111_0; replace hx111_1 := (cell_far (p := ⟨gb109, 2, none⟩) (by first | (rw [add_block]; exact hn111_2) | (show (Addr.add _ _).block ≠ _; rw [add_block]; exact hn111_2) | exact hn111_2) (.int .i64 ((rd_T66 l0_0 x11_3).f2))).trans hx111_1; replace hx111_2 := (cell_far (p := ⟨gb109, 2, none⟩) (by first | (rw [add_block]; exact hn111_2) | (show (Addr.add _ _).block ≠ _; rw [add_block]; exact hn111_2) | exact hn111_2) (.int .i64 ((rd_T66 l0_0 x11_3).f2))).trans hx111_2; (try have hy111_0 := fun (n_ : Nat) => (show (((((w41.drewN n_).setCell ⟨gb109, 0, none⟩ (.int .i64 ((rd_T66 l0_0 x11_3).f0))).setCell ⟨gb109, 1, none⟩ (.int .i64 ((rd_T66 l0_0 x11_3).f1))).setCell ⟨gb109, 2, none⟩ (.int .i64 ((rd_T66 l0_0 x11_3).f2)))).cell? _ = some _ from hx111_0)); (try have hy111_1 := fun (n_ : Nat) => (show (((((w41.drewN n_).setCell ⟨gb109, 0, none⟩ (.int .i64 ((rd_T66 l0_0 x11_3).f0))).setCell ⟨gb109, 1, none⟩ (.int .i64 ((rd_T66 l0_0 x11_3).f1))).setCell ⟨gb109, 2, none⟩ (.int .i64 ((rd_T66 l0_0 x11_3).f2)))).cell? _ = some _ from hx111_1)); (try have hy111_2 := fun (n_ : Nat) => (show (((((w41.drewN n_).setCell ⟨gb109, 0, none⟩ (.int .i64 ((rd_T66 l0_0 x11_3).f0))).setCell ⟨gb109, 1, none⟩ (.int .i64 ((rd_T66 l0_0 x11_3).f1))).setCell ⟨gb109, 2, none⟩ (.int .i64 ((rd_T66 l0_0 x11_3).f2)))).cell? _ = some _ from hx111_2)); clear hn111_0; clear hn111_1; clear hn111_2; replace p111 := eq_true p111; replace q111 := eq_true q111))
                 repeat (go_quiet (first | ((with_reducible refine gate_dst (N := 12) rfl ?_); refine box_event ?hg (N := 12) ?hd (cs := #[.int .i64 0, .int .i64 0, .int .i64 0]) (t := 66) ?hr ?_; (case hd => rfl); (case hg => rfl); (case hr => first | (go_simp; done) | (go_simp; rfl)); intro gb109 hg w41 hbox hb; have n0_ := Aside0.mk (Kd.R_below (by exact Ho.RS <| HO_8.out) hb); have n1_ := Aside0.mk (blk_below (bS BK101.out) hb); have n2_ := Aside0.mk (below_step (by exact eS HB.out) hb); have n3_ := Aside0.mk (hbox); have n4_ := Aside0.mk ((by rw [hg]; exact (below_size (by exact eS HB.out)) : w.heap.size ≤ gb109)); have n5_ := Aside0.mk ((by rw [hg]; exact (below_size (by exact eS HB.out)) : w.heap.size ≤ gb109)); have n6_ := Aside0.mk ((by rw [hg]; exact Nat.ne_of_lt (blk_lt (bS BK101.out)) : gb101 ≠ gb109)); have n7_ := Aside0.mk ((by rw [hg]; exact Nat.ne_of_gt (blk_lt (bS BK101.out)) : gb109 ≠ gb101)); clear HO_8; clear BK101; clear HB; have HO_8 := n0_; have BK101 := n1_; have HB := n2_; have BK109 := n3_; have GW109 := n4_; have GE109 := n5_; have NB101_109 := n6_; have NB109_101 := n7_; clear n0_ n1_ n2_ n3_ n4_ n5_ n6_ n7_; clear hb hbox hg; have hnb42 := NB109_101.out; have hnc42 := NB101_109.out; have hcz43_0 : w41.cell? ⟨gb109, 0, none⟩ = some (.int .i64 0) := (blk_cell BK109.out 0).trans rfl; have hcz43_1 : w41.cell? ⟨gb109, 1, none⟩ = some (.int .i64 0) := (blk_cell BK109.out 1).trans rfl; have hcz43_2 : w41.cell? ⟨gb109, 2, none⟩ = some (.int .i64 0) := (blk_cell BK109.out 2).trans rfl; have hfz43_0 := blk_frozen BK109.out 0; have hfz43_1 := blk_frozen BK109.out 1; have hfz43_2 := blk_frozen BK109.out 2) | (go_at_call 71; (with_reducible refine (spec_l1Has.calls k3 _ _ x8_2 ((rd_T66 l0_0 x11_3).f0) false _ ?side1 ?side2 A26.out).mono ?_); (case side1 => refine (Kd.R_reads' (e := 3) (base := w.heap.size) (ok := fun k_ => True) (n := x8_2.length) (c := co21) ?_).2.2; exact (by exact Ho.RS <| (Kd.R_mono (Kd.R_far (p := ⟨gb109, 2, none⟩) (Kd.R_far (p := ⟨gb109, 1, none⟩) (Kd.R_far (p := ⟨gb109, 0, none⟩) (Kd.R_types HO_8.out BK109.out (by decide)) (fun _ hk => hk.2) (.int .i64 ((rd_T66 l0_0 x11_3).f0))) (fun _ hk => hk.2) (.int .i64 ((rd_T66 l0_0 x11_3).f1))) (fun _ hk => hk.2) (.int .i64 ((rd_T66 l0_0 x11_3).f2))) (fun _ h_ => h_.1)))); (case side2 => exact (Kd.R_reads' HO_8.out).2.1); rintro e w' ⟨rfl, ⟨nd, rfl⟩⟩; (try first | exact ⟨rfl, _, World.drewN_drewN _ _ _⟩ | exact ⟨rfl, _, Eq.trans (World.drewN_drewN _ _ _) (congrArg (World.drewN _) (Nat.add_assoc _ _ _))⟩); have hcz44_0 : w41.cell? ⟨gb101, 0, none⟩ = some (.slice (some ad108) l0_0.length c0_0) := (blk_cell BK101.out 0).trans rfl; have hcz44_1 : w41.cell? ⟨gb101, 1, none⟩ = some (.int .i64 a0_1) := (blk_cell BK101.out 1).trans rfl; have hcz44_2 : w41.cell? ⟨gb101, 2, none⟩ = some (.int .i64 a0_2) := (blk_cell BK101.out 2).trans rfl; have hcz44_3 : w41.cell? ⟨gb101, 3, none⟩ = some (.int .i64 a0_3) := (blk_cell BK101.out 3).trans rfl; have hcz44_4 : w41.cell? ⟨gb101, 4, none⟩ = some (.int .i64 a0_4) := (blk_cell BK101.out 4).trans rfl; have hfz44_0 := blk_frozen BK101.out 0; have hfz44_1 := blk_frozen BK101.out 1; have hfz44_2 := blk_frozen BK101.out 2; have hfz44_3 := blk_frozen BK101.out 3; have hfz44_4 := blk_frozen BK101.out 4; have p111 : 0 ≤ (x10_3 : Int) := of_decide_eq_true (by first | (with_reducible assumption) | assumption); have q111 : x10_3 < (l0_0.length : Int) := of_decide_eq_true (by first | (with_reducible assumption) | assumption); obtain ⟨ad111, e111, hx111_0, hx111_1, hx111_2⟩ := at_T66 HR0_0.out x10_3 p111 q111; obtain rfl : ad108 = ad111 := (by injection e111); have hn111_0 : ad108.block ≠ gb109 := Nat.ne_of_lt (Nat.lt_of_lt_of_le (by have := World.block_lt_of_cell? _ _ hx111_0; first | rwa [add_block] at this | exact this) GW109.out); have hn111_1 : ad108.block ≠ gb109 := Nat.ne_of_lt (Nat.lt_of_lt_of_le (by have := World.block_lt_of_cell? _ _ hx111_0; first | rwa [add_block] at this | exact this) GW109.out); have hn111_2 : ad108.block ≠ gb109 := Nat.ne_of_lt (Nat.lt_of_lt_of_le (by have := World.block_lt_of_cell? _ _ hx111_0; first | rwa [add_block] at this | exact this) GW109.out); replace hx111_0 := (HB.out.cell (World.block_lt_of_cell? w _ hx111_0)).trans hx111_0; replace hx111_1 := (HB.out.cell (World.block_lt_of_cell? w _ hx111_1)).trans hx111_1; replace hx111_2 := (HB.out.cell (World.block_lt_of_cell? w _ hx111_2)).trans hx111_2; replace hx111_0 := (cell_far (p := ⟨gb109, 0, none⟩) (by first | (rw [add_block]; exact hn111_0) | (show (Addr.add _ _).block ≠ _; rw [add_block]; exact hn111_0) | exact hn111_0) (.int .i64 ((rd_T66 l0_0 x11_3).f0))).trans hx111_0; replace hx111_1 := (cell_far (p := ⟨gb109, 0, none⟩) (by first | (rw [add_block]; exact hn111_0) | (show (Addr.add _ _).block ≠ _; rw [add_block]; exact hn111_0) | exact hn111_0) (.int .i64 ((rd_T66 l0_0 x11_3).f0))).trans hx111_1; replace hx111_2 := (cell_far (p := ⟨gb109, 0, none⟩) (by first | (rw [add_block]; exact hn111_0) | (show (Addr.add _ _).block ≠ _; rw [add_block]; exact hn111_0) | exact hn111_0) (.int .i64 ((rd_T66 l0_0 x11_3).f0))).trans hx111_2; replace hx111_0 := (cell_far (p := ⟨gb109, 1, none⟩) (by first | (rw [add_block]; exact hn111_1) | (show (Addr.add _ _).block ≠ _; rw [add_block]; exact hn111_1) | exact hn111_1) (.int .i64 ((rd_T66 l0_0 x11_3).f1))).trans hx111_0; replace hx111_1 := (cell_far (p := ⟨gb109, 1, none⟩) (by first | (rw [add_block]; exact hn111_1) | (show (Addr.add _ _).block ≠ _; rw [add_block]; exact hn111_1) | exact hn111_1) (.int .i64 ((rd_T66 l0_0 x11_3).f1))).trans hx111_1; replace hx111_2 := (cell_far (p := ⟨gb109, 1, none⟩) (by first | (rw [add_block]; exact hn111_1) | (show (Addr.add _ _).block ≠ _; rw [add_block]; exact hn111_1) | exact hn111_1) (.int .i64 ((rd_T66 l0_0 x11_3).f1))).trans hx111_2; replace hx111_0 := (cell_far (p := ⟨gb109, 2, none⟩) (by first | (rw [add_block]; exact hn111_2) | (show (Addr.add _ _).block ≠ _; rw [add_block]; exact hn111_2) | exact hn111_2) (.int .i64 ((rd_T66 l0_0 x11_3).f2))).trans hx111_0; replace hx111_1 := (cell_far (p := ⟨gb109, 2, none⟩) (by first | (rw [add_block]; exact hn111_2) | (show (Addr.add _ _).block ≠ _; rw [add_block]; exact hn111_2) | exact hn111_2) (.int .i64 ((rd_T66 l0_0 x11_3).f2))).trans hx111_1; replace hx111_2 := (cell_far (p := ⟨gb109, 2, none⟩) (by first | (rw [add_block]; exact hn111_2) | (show (Addr.add _ _).block ≠ _; rw [add_block]; exact hn111_2) | exact hn111_2) (.int .i64 ((rd_T66 l0_0 x11_3).f2))).trans hx111_2; (try have hy111_0 := fun (n_ : Nat) => (show (((((w41.drewN n_).setCell ⟨gb109, 0, none⟩ (.int .i64 ((rd_T66 l0_0 x11_3).f0))).setCell ⟨gb109, 1, none⟩ (.int .i64 ((rd_T66 l0_0 x11_3).f1))).setCell ⟨gb109, 2, none⟩ (.int .i64 ((rd_T66 l0_0 x11_3).f2)))).cell? _ = some _ from hx111_0)); (try have hy111_1 := fun (n_ : Nat) => (show (((((w41.drewN n_).setCell ⟨gb109, 0, none⟩ (.int .i64 ((rd_T66 l0_0 x11_3).f0))).setCell ⟨gb109, 1, none⟩ (.int .i64 ((rd_T66 l0_0 x11_3).f1))).setCell ⟨gb109, 2, none⟩ (.int .i64 ((rd_T66 l0_0 x11_3).f2)))).cell? _ = some _ from hx111_1)); (try have hy111_2 := fun (n_ : Nat) => (show (((((w41.drewN n_).setCell ⟨gb109, 0, none⟩ (.int .i64 ((rd_T66 l0_0 x11_3).f0))).setCell ⟨gb109, 1, none⟩ (.int .i64 ((rd_T66 l0_0 x11_3).f1))).setCell ⟨gb109, 2, none⟩ (.int .i64 ((rd_T66 l0_0 x11_3).f2)))).cell? _ = some _ from hx111_2)); clear hn111_0; clear hn111_1; clear hn111_2; replace p111 := eq_true p111; replace q111 := eq_true q111)); try go_wp2_with (first | ((with_reducible refine gate_dst (N := 12) rfl ?_); refine box_event ?hg (N := 12) ?hd (cs := #[.int .i64 0, .int .i64 0, .int .i64 0]) (t := 66) ?hr ?_; (case hd => rfl); (case hg => rfl); (case hr => first | (go_simp; done) | (go_simp; rfl)); intro gb109 hg w41 hbox hb; have n0_ := Aside0.mk (Kd.R_below (by exact Ho.RS <| HO_8.out) hb); have n1_ := Aside0.mk (blk_below (bS BK101.out) hb); have n2_ := Aside0.mk (below_step (by exact eS HB.out) hb); have n3_ := Aside0.mk (hbox); have n4_ := Aside0.mk ((by rw [hg]; exact (below_size (by exact eS HB.out)) : w.heap.size ≤ gb109)); have n5_ := Aside0.mk ((by rw [hg]; exact (below_size (by exact eS HB.out)) : w.heap.size ≤ gb109)); have n6_ := Aside0.mk ((by rw [hg]; exact Nat.ne_of_lt (blk_lt (bS BK101.out)) : gb101 ≠ gb109)); have n7_ := Aside0.mk ((by rw [hg]; exact Nat.ne_of_gt (blk_lt (bS BK101.out)) : gb109 ≠ gb101)); clear HO_8; clear BK101; clear HB; have HO_8 := n0_; have BK101 := n1_; have HB := n2_; have BK109 := n3_; have GW109 := n4_; have GE109 := n5_; have NB101_109 := n6_; have NB109_101 := n7_; clear n0_ n1_ n2_ n3_ n4_ n5_ n6_ n7_; clear hb hbox hg; have hnb42 := NB109_101.out; have hnc42 := NB101_109.out; have hcz43_0 : w41.cell? ⟨gb109, 0, none⟩ = some (.int .i64 0) := (blk_cell BK109.out 0).trans rfl; have hcz43_1 : w41.cell? ⟨gb109, 1, none⟩ = some (.int .i64 0) := (blk_cell BK109.out 1).trans rfl; have hcz43_2 : w41.cell? ⟨gb109, 2, none⟩ = some (.int .i64 0) := (blk_cell BK109.out 2).trans rfl; have hfz43_0 := blk_frozen BK109.out 0; have hfz43_1 := blk_frozen BK109.out 1; have hfz43_2 := blk_frozen BK109.out 2) | (go_at_call 71; (with_reducible refine (spec_l1Has.calls k3 _ _ x8_2 ((rd_T66 l0_0 x11_3).f0) false _ ?side1 ?side2 A26.out).mono ?_); (case side1 => refine (Kd.R_reads' (e := 3) (base := w.heap.size) (ok := fun k_ => True) (n := x8_2.length) (c := co21) ?_).2.2; exact (by exact Ho.RS <| (Kd.R_mono (Kd.R_far (p := ⟨gb109, 2, none⟩) (Kd.R_far (p := ⟨gb109, 1, none⟩) (Kd.R_far (p := ⟨gb109, 0, none⟩) (Kd.R_types HO_8.out BK109.out (by decide)) (fun _ hk => hk.2) (.int .i64 ((rd_T66 l0_0 x11_3).f0))) (fun _ hk => hk.2) (.int .i64 ((rd_T66 l0_0 x11_3).f1))) (fun _ hk => hk.2) (.int .i64 ((rd_T66 l0_0 x11_3).f2))) (fun _ h_ => h_.1)))); (case side2 => exact (Kd.R_reads' HO_8.out).2.1); rintro e w' ⟨rfl, ⟨nd, rfl⟩⟩; (try first | exact ⟨rfl, _, World.drewN_drewN _ _ _⟩ | exact ⟨rfl, _, Eq.trans (World.drewN_drewN _ _ _) (congrArg (World.drewN _) (Nat.add_assoc _ _ _))⟩); have hcz44_0 : w41.cell? ⟨gb101, 0, none⟩ = some (.slice (some ad108) l0_0.length c0_0) := (blk_cell BK101.out 0).trans rfl; have hcz44_1 : w41.cell? ⟨gb101, 1, none⟩ = some (.int .i64 a0_1) := (blk_cell BK101.out 1).trans rfl; have hcz44_2 : w41.cell? ⟨gb101, 2, none⟩ = some (.int .i64 a0_2) := (blk_cell BK101.out 2).trans rfl; have hcz44_3 : w41.cell? ⟨gb101, 3, none⟩ = some (.int .i64 a0_3) := (blk_cell BK101.out 3).trans rfl; have hcz44_4 : w41.cell? ⟨gb101, 4, none⟩ = some (.int .i64 a0_4) := (blk_cell BK101.out 4).trans rfl; have hfz44_0 := blk_frozen BK101.out 0; have hfz44_1 := blk_frozen BK101.out 1; have hfz44_2 := blk_frozen BK101.out 2; have hfz44_3 := blk_frozen BK101.out 3; have hfz44_4 := blk_frozen BK101.out 4; have p111 : 0 ≤ (x10_3 : Int) := of_decide_eq_true (by first | (with_reducible assumption) | assumption); have q111 : x10_3 < (l0_0.length : Int) := of_decide_eq_true (by first | (with_reducible assumption) | assumption); obtain ⟨ad111, e111, hx111_0, hx111_1, hx111_2⟩ := at_T66 HR0_0.out x10_3 p111 q111; obtain rfl : ad108 = ad111 := (by injection e111); have hn111_0 : ad108.block ≠ gb109 := Nat.ne_of_lt (Nat.lt_of_lt_of_le (by have := World.block_lt_of_cell? _ _ hx111_0; first | rwa [add_block] at this | exact this) GW109.out); have hn111_1 : ad108.block ≠ gb109 := Nat.ne_of_lt (Nat.lt_of_lt_of_le (by have := World.block_lt_of_cell? _ _ hx111_0; first | rwa [add_block] at this | exact this) GW109.out); have hn111_2 : ad108.block ≠ gb109 := Nat.ne_of_lt (Nat.lt_of_lt_of_le (by have := World.block_lt_of_cell? _ _ hx111_0; first | rwa [add_block] at this | exact this) GW109.out); replace hx111_0 := (HB.out.cell (World.block_lt_of_cell? w _ hx111_0)).trans hx111_0; replace hx111_1 := (HB.out.cell (World.block_lt_of_cell? w _ hx111_1)).trans hx111_1; replace hx111_2 := (HB.out.cell (World.block_lt_of_cell? w _ hx111_2)).trans hx111_2; replace hx111_0 := (cell_far (p := ⟨gb109, 0, none⟩) (by first | (rw [add_block]; exact hn111_0) | (show (Addr.add _ _).block ≠ _; rw [add_block]; exact hn111_0) | exact hn111_0) (.int .i64 ((rd_T66 l0_0 x11_3).f0))).trans hx111_0; replace hx111_1 := (cell_far (p := ⟨gb109, 0, none⟩) (by first | (rw [add_block]; exact hn111_0) | (show (Addr.add _ _).block ≠ _; rw [add_block]; exact hn111_0) | exact hn111_0) (.int .i64 ((rd_T66 l0_0 x11_3).f0))).trans hx111_1; replace hx111_2 := (cell_far (p := ⟨gb109, 0, none⟩) (by first | (rw [add_block]; exact hn111_0) | (show (Addr.add _ _).block ≠ _; rw [add_block]; exact hn111_0) | exact hn111_0) (.int .i64 ((rd_T66 l0_0 x11_3).f0))).trans hx111_2; replace hx111_0 := (cell_far (p := ⟨gb109, 1, none⟩) (by first | (rw [add_block]; exact hn111_1) | (show (Addr.add _ _).block ≠ _; rw [add_block]; exact hn111_1) | exact hn111_1) (.int .i64 ((rd_T66 l0_0 x11_3).f1))).trans hx111_0; replace hx111_1 := (cell_far (p := ⟨gb109, 1, none⟩) (by first | (rw [add_block]; exact hn111_1) | (show (Addr.add _ _).block ≠ _; rw [add_block]; exact hn111_1) | exact hn111_1) (.int .i64 ((rd_T66 l0_0 x11_3).f1))).trans hx111_1; replace hx111_2 := (cell_far (p := ⟨gb109, 1, none⟩) (by first | (rw [add_block]; exact hn111_1) | (show (Addr.add _ _).block ≠ _; rw [add_block]; exact hn111_1) | exact hn111_1) (.int .i64 ((rd_T66 l0_0 x11_3).f1))).trans hx111_2; replace hx111_0 := (cell_far (p := ⟨gb109, 2, none⟩) (by first | (rw [add_block]; exact hn111_2) | (show (Addr.add _ _).block ≠ _; rw [add_block]; exact hn111_2) | exact hn111_2) (.int .i64 ((rd_T66 l0_0 x11_3).f2))).trans hx111_0; replace hx111_1 := (cell_far (p := ⟨gb109, 2, none⟩) (by first | (rw [add_block]; exact hn111_2) | (show (Addr.add _ _).block ≠ _; rw [add_block]; exact hn111_2) | exact hn111_2) (.int .i64 ((rd_T66 l0_0 x11_3).f2))).trans hx111_1; replace hx111_2 := (cell_far (p := ⟨gb109, 2, none⟩) (by first | (rw [add_block]; exact hn111_2) | (show (Addr.add _ _).block ≠ _; rw [add_block]; exact hn111_2) | exact hn111_2) (.int .i64 ((rd_T66 l0_0 x11_3).f2))).trans hx111_2; (try have hy111_0 := fun (n_ : Nat) => (show (((((w41.drewN n_).setCell ⟨gb109, 0, none⟩ (.int .i64 ((rd_T66 l0_0 x11_3).f0))).setCell ⟨gb109, 1, none⟩ (.int .i64 ((rd_T66 l0_0 x11_3).f1))).setCell ⟨gb109, 2, none⟩ (.int .i64 ((rd_T66 l0_0 x11_3).f2)))).cell? _ = some _ from hx111_0)); (try have hy111_1 := fun (n_ : Nat) => (show (((((w41.drewN n_).setCell ⟨gb109, 0, none⟩ (.int .i64 ((rd_T66 l0_0 x11_3).f0))).setCell ⟨gb109, 1, none⟩ (.int .i64 ((rd_T66 l0_0 x11_3).f1))).setCell ⟨gb109, 2, none⟩ (.int .i64 ((rd_T66 l0_0 x11_3).f2)))).cell? _ = some _ from hx111_1)); (try have hy111_2 := fun (n_ : Nat) => (show (((((w41.drewN n_).setCell ⟨gb109, 0, none⟩ (.int .i64 ((rd_T66 l0_0 x11_3).f0))).setCell ⟨gb109, 1, none⟩ (.int .i64 ((rd_T66 l0_0 x11_3).f1))).setCell ⟨gb109, 2, none⟩ (.int .i64 ((rd_T66 l0_0 x11_3).f2)))).cell? _ = some _ from hx111_2)); clear hn111_0; clear hn111_1; clear hn111_2; replace p111 := eq_true p111; replace q111 := eq_true q111)))
                 go_roundg k3
                 case measure => have := HJ3.out; have := HK2.out; have := HK3.out; omega
                 case rel => exact ⟨(x11_3), (wrap64 (x11_3 + 1)), (by first | rfl | (simp; done) | (simp [*]; done)), (by first | rfl | (simp; done) | (simp [*]; done)), H', ⟨by have := HJ3.out; have := HK2.out; have := HK3.out; omega⟩, ⟨by exact Ho.RS <| Kd.R_mono (Kd.R_far (p := ⟨gb109, 2, none⟩) (Kd.R_far (p := ⟨gb109, 1, none⟩) (Kd.R_far (p := ⟨gb109, 0, none⟩) (Kd.R_types HO_8.out BK109.out (by decide)) (fun _ hk => hk.2) (.int .i64 ((rd_T66 l0_0 x11_3).f0))) (fun _ hk => hk.2) (.int .i64 ((rd_T66 l0_0 x11_3).f1))) (fun _ hk => hk.2) (.int .i64 ((rd_T66 l0_0 x11_3).f2))) (fun _ hk => trivial)⟩, ⟨by (with_reducible repeat (first | refine blk_drewN ?_ _ | refine blk_drew ?_ | refine blk_alloc ?_ _)); refine blk_far ?_ NB101_109.out _; (with_reducible repeat (first | refine blk_drewN ?_ _ | refine blk_drew ?_ | refine blk_alloc ?_ _)); refine blk_far ?_ NB101_109.out _; (with_reducible repeat (first | refine blk_drewN ?_ _ | refine blk_drew ?_ | refine blk_alloc ?_ _)); refine blk_far ?_ NB101_109.out _; exact bS BK101.out⟩, ⟨by repeat (first | (with_reducible first | exact HB.out | apply below_alloc | apply pw_below_drewN | apply below_drew1 | refine below_set ?_ GE101.out | refine below_set ?_ GE109.out) | exact HB.out)⟩⟩
                ·rw [if_neg c39] at H
                 have c39b0 : decide (((rd_T66 l0_0 x10_3).f2) < ((rd_T66 l0_0 x11_3).f2)) = false := decide_eq_false c39
                 clear c39
                 have H' := Aside0.mk H
                 clear H
                 have hcz45_0 : wr.cell? ⟨gb101, 0, none⟩ = some (.slice A0_0 l0_0.length c0_0) := (blk_cell BK101.out 0).trans rfl
                 have hcz45_1 : wr.cell? ⟨gb101, 1, none⟩ = some (.int .i64 a0_1) := (blk_cell BK101.out 1).trans rfl
                 have hcz45_2 : wr.cell? ⟨gb101, 2, none⟩ = some (.int .i64 a0_2) := (blk_cell BK101.out 2).trans rfl
                 have hcz45_3 : wr.cell? ⟨gb101, 3, none⟩ = some (.int .i64 a0_3) := (blk_cell BK101.out 3).trans rfl
                 have hcz45_4 : wr.cell? ⟨gb101, 4, none⟩ = some (.int .i64 a0_4) := (blk_cell BK101.out 4).trans rfl
                 have hfz45_0 := blk_frozen BK101.out 0
                 have hfz45_1 := blk_frozen BK101.out 1
                 have hfz45_2 := blk_frozen BK101.out 2
                 have hfz45_3 := blk_frozen BK101.out 3
                 have hfz45_4 := blk_frozen BK101.out 4
                 have p108 : 0 ≤ (x11_3 : Int) := of_decide_eq_true (by first | (with_reducible assumption) | assumption)
                 have q108 : x11_3 < (l0_0.length : Int) := of_decide_eq_true (by first | (with_reducible assumption) | assumption)
                 obtain ⟨ad108, e108, hx108_0, hx108_1, hx108_2⟩ := at_T66 HR0_0.out x11_3 p108 q108
                 cases e108
                 replace hx108_0 := (HB.out.cell (World.block_lt_of_cell? w _ hx108_0)).trans hx108_0
                 replace hx108_1 := (HB.out.cell (World.block_lt_of_cell? w _ hx108_1)).trans hx108_1
                 replace hx108_2 := (HB.out.cell (World.block_lt_of_cell? w _ hx108_2)).trans hx108_2
                 replace p108 := eq_true p108
                 replace q108 := eq_true q108
                 go_wp2_with (first | ((with_reducible refine gate_dst (N := 12) rfl ?_); refine box_event ?hg (N := 12) ?hd (cs := #[.int .i64 0, .int .i64 0, .int .i64 0]) (t := 66) ?hr ?_; (case hd => rfl); (case hg => rfl); (case hr => first | (go_simp; done) | (go_simp; rfl)); intro gb109 hg w46 hbox hb; have n0_ := Aside0.mk (Kd.R_below (by exact Ho.RS <| HO_8.out) hb); have n1_ := Aside0.mk (blk_below (bS BK101.out) hb); have n2_ := Aside0.mk (below_step (by exact eS HB.out) hb); have n3_ := Aside0.mk (hbox); have n4_ := Aside0.mk ((by rw [hg]; exact (below_size (by exact eS HB.out)) : w.heap.size ≤ gb109)); have n5_ := Aside0.mk ((by rw [hg]; exact (below_size (by exact eS HB.out)) : w.heap.size ≤ gb109)); have n6_ := Aside0.mk ((by rw [hg]; exact Nat.ne_of_lt (blk_lt (bS BK101.out)) : gb101 ≠ gb109)); have n7_ := Aside0.mk ((by rw [hg]; exact Nat.ne_of_gt (blk_lt (bS BK101.out)) : gb109 ≠ gb101)); clear HO_8; clear BK101; clear HB; have HO_8 := n0_; have BK101 := n1_; have HB := n2_; have BK109 := n3_; have GW109 := n4_; have GE109 := n5_; have NB101_109 := n6_; have NB109_101 := n7_; clear n0_ n1_ n2_ n3_ n4_ n5_ n6_ n7_; clear hb hbox hg; have hnb47 := NB109_101.out; have hnc47 := NB101_109.out; have hcz48_0 : w46.cell? ⟨gb109, 0, none⟩ = some (.int .i64 0) := (blk_cell BK109.out 0).trans rfl; have hcz48_1 : w46.cell? ⟨gb109, 1, none⟩ = some (.int .i64 0) := (blk_cell BK109.out 1).trans rfl; have hcz48_2 : w46.cell? ⟨gb109, 2, none⟩ = some (.int .i64 0) := (blk_cell BK109.out 2).trans rfl; have hfz48_0 := blk_frozen BK109.out 0; have hfz48_1 := blk_frozen BK109.out 1; have hfz48_2 := blk_frozen BK109.out 2) | (go_at_call 71; (with_reducible refine (spec_l1Has.calls k3 _ _ x8_2 ((rd_T66 l0_0 x11_3).f0) false _ ?side1 ?side2 A26.out).mono ?_); (case side1 => refine (Kd.R_reads' (e := 3) (base := w.heap.size) (ok := fun k_ => True) (n := x8_2.length) (c := co21) ?_).2.2; exact (by exact Ho.RS <| (Kd.R_mono (Kd.R_far (p := ⟨gb109, 2, none⟩) (Kd.R_far (p := ⟨gb109, 1, none⟩) (Kd.R_far (p := ⟨gb109, 0, none⟩) (Kd.R_types HO_8.out BK109.out (by decide)) (fun _ hk => hk.2) (.int .i64 ((rd_T66 l0_0 x11_3).f0))) (fun _ hk => hk.2) (.int .i64 ((rd_T66 l0_0 x11_3).f1))) (fun _ hk => hk.2) (.int .i64 ((rd_T66 l0_0 x11_3).f2))) (fun _ h_ => h_.1)))); (case side2 => exact (Kd.R_reads' HO_8.out).2.1); rintro e w' ⟨rfl, ⟨nd, rfl⟩⟩; (try first | exact ⟨rfl, _, World.drewN_drewN _ _ _⟩ | exact ⟨rfl, _, Eq.trans (World.drewN_drewN _ _ _) (congrArg (World.drewN _) (Nat.add_assoc _ _ _))⟩); have hcz49_0 : w46.cell? ⟨gb101, 0, none⟩ = some (.slice (some ad108) l0_0.length c0_0) := (blk_cell BK101.out 0).trans rfl; have hcz49_1 : w46.cell? ⟨gb101, 1, none⟩ = some (.int .i64 a0_1) := (blk_cell BK101.out 1).trans rfl; have hcz49_2 : w46.cell? ⟨gb101, 2, none⟩ = some (.int .i64 a0_2) := (blk_cell BK101.out 2).trans rfl; have hcz49_3 : w46.cell? ⟨gb101, 3, none⟩ = some (.int .i64 a0_3) := (blk_cell BK101.out 3).trans rfl; have hcz49_4 : w46.cell? ⟨gb101, 4, none⟩ = some (.int .i64 a0_4) := (blk_cell BK101.out 4).trans rfl; have hfz49_0 := blk_frozen BK101.out 0; have hfz49_1 := blk_frozen BK101.out 1; have hfz49_2 := blk_frozen BK101.out 2; have hfz49_3 := blk_frozen BK101.out 3; have hfz49_4 := blk_frozen BK101.out 4; have p111 : 0 ≤ (x10_3 : Int) := of_decide_eq_true (by first | (with_reducible assumption) | assumption); have q111 : x10_3 < (l0_0.length : Int) := of_decide_eq_true (by first | (with_reducible assumption) | assumption); obtain ⟨ad111, e111, hx111_0, hx111_1, hx111_2⟩ := at_T66 HR0_0.out x10_3 p111 q111; obtain rfl : ad108 = ad111 := (by injection e111); have hn111_0 : ad108.block ≠ gb109 := Nat.ne_of_lt (Nat.lt_of_lt_of_le (by have := World.block_lt_of_cell? _ _ hx111_0; first | rwa [add_block] at this | exact this) GW109.out); have hn111_1 : ad108.block ≠ gb109 := Nat.ne_of_lt (Nat.lt_of_lt_of_le (by have := World.block_lt_of_cell? _ _ hx111_0; first | rwa [add_block] at this | exact this) GW109.out); have hn111_2 : ad108.block ≠ gb109 := Nat.ne_of_lt (Nat.lt_of_lt_of_le (by have := World.block_lt_of_cell? _ _ hx111_0; first | rwa [add_block] at this | exact this) GW109.out); replace hx111_0 := (HB.out.cell (World.block_lt_of_cell? w _ hx111_0)).trans hx111_0; replace hx111_1 := (HB.out.cell (World.block_lt_of_cell? w _ hx111_1)).trans hx111_1; replace hx111_2 := (HB.out.cell (World.block_lt_of_cell? w _ hx111_2)).trans hx111_2; replace hx111_0 := (cell_far (p := ⟨gb109, 0, none⟩) (by first | (rw [add_block]; exact hn111_0) | (show (Addr.add _ _).block ≠ _; rw [add_block]; exact hn111_0) | exact hn111_0) (.int .i64 ((rd_T66 l0_0 x11_3).f0))).trans hx111_0; replace hx111_1 := (cell_far (p := ⟨gb109, 0, none⟩) (by first | (rw [add_block]; exact hn111_0) | (show (Addr.add _ _).block ≠ _; rw [add_block]; exact hn111_0) | exact hn111_0) (.int .i64 ((rd_T66 l0_0 x11_3).f0))).trans hx111_1; replace hx111_2 := (cell_far (p := ⟨gb109, 0, none⟩) (by first | (rw [add_block]; exact hn111_0) | (show (Addr.add _ _).block ≠ _; rw [add_block]; exact hn111_0) | exact hn111_0) (.int .i64 ((rd_T66 l0_0 x11_3).f0))).trans hx111_2; replace hx111_0 := (cell_far (p := ⟨gb109, 1, none⟩) (by first | (rw [add_block]; exact hn111_1) | (show (Addr.add _ _).block ≠ _; rw [add_block]; exact hn111_1) | exact hn111_1) (.int .i64 ((rd_T66 l0_0 x11_3).f1))).trans hx111_0; replace hx111_1 := (cell_far (p := ⟨gb109, 1, none⟩) (by first | (rw [add_block]; exact hn111_1) | (show (Addr.add _ _).block ≠ _; rw [add_block]; exact hn111_1) | exact hn111_1) (.int .i64 ((rd_T66 l0_0 x11_3).f1))).trans hx111_1; replace hx111_2 := (cell_far (p := ⟨gb109, 1, none⟩) (by first | (rw [add_block]; exact hn111_1) | (show (Addr.add _ _).block ≠ _; rw [add_block]; exact hn111_1) | exact hn111_1) (.int .i64 ((rd_T66 l0_0 x11_3).f1))).trans hx111_2; replace hx111_0 := (cell_far (p := ⟨gb109, 2, none⟩) (by first | (rw [add_block]; exact hn111_2) | (show (Addr.add _ _).block ≠ _; rw [add_block]; exact hn111_2) | exact hn111_2) (.int .i64 ((rd_T66 l0_0 x11_3).f2))).trans hx111_0; replace hx111_1 := (cell_far (p := ⟨gb109, 2, none⟩) (by first | (rw [add_block]; exact hn111_2) | (show (Addr.add _ _).block ≠ _; rw [add_block]; exact hn111_2) | exact hn111_2) (.int .i64 ((rd_T66 l0_0 x11_3).f2))).trans hx111_1; replace hx111_2 := (cell_far (p := ⟨gb109, 2, none⟩) (by first | (rw [add_block]; exact hn111_2) | (show (Addr.add _ _).block ≠ _; rw [add_block]; exact hn111_2) | exact hn111_2) (.int .i64 ((rd_T66 l0_0 x11_3).f2))).trans hx111_2; (try have hy111_0 := fun (n_ : Nat) => (show (((((w46.drewN n_).setCell ⟨gb109, 0, none⟩ (.int .i64 ((rd_T66 l0_0 x11_3).f0))).setCell ⟨gb109, 1, none⟩ (.int .i64 ((rd_T66 l0_0 x11_3).f1))).setCell ⟨gb109, 2, none⟩ (.int .i64 ((rd_T66 l0_0 x11_3).f2)))).cell? _ = some _ from hx111_0)); (try have hy111_1 := fun (n_ : Nat) => (show (((((w46.drewN n_).setCell ⟨gb109, 0, none⟩ (.int .i64 ((rd_T66 l0_0 x11_3).f0))).setCell ⟨gb109, 1, none⟩ (.int .i64 ((rd_T66 l0_0 x11_3).f1))).setCell ⟨gb109, 2, none⟩ (.int .i64 ((rd_T66 l0_0 x11_3).f2)))).cell? _ = some _ from hx111_1)); (try have hy111_2 := fun (n_ : Nat) => (show (((((w46.drewN n_).setCell ⟨gb109, 0, none⟩ (.int .i64 ((rd_T66 l0_0 x11_3).f0))).setCell ⟨gb109, 1, none⟩ (.int .i64 ((rd_T66 l0_0 x11_3).f1))).setCell ⟨gb109, 2, none⟩ (.int .i64 ((rd_T66 l0_0 x11_3).f2)))).cell? _ = some _ from hx111_2)); clear hn111_0; clear hn111_1; clear hn111_2; replace p111 := eq_true p111; replace q111 := eq_true q111))
                 repeat (go_quiet (first | ((with_reducible refine gate_dst (N := 12) rfl ?_); refine box_event ?hg (N := 12) ?hd (cs := #[.int .i64 0, .int .i64 0, .int .i64 0]) (t := 66) ?hr ?_; (case hd => rfl); (case hg => rfl); (case hr => first | (go_simp; done) | (go_simp; rfl)); intro gb109 hg w46 hbox hb; have n0_ := Aside0.mk (Kd.R_below (by exact Ho.RS <| HO_8.out) hb); have n1_ := Aside0.mk (blk_below (bS BK101.out) hb); have n2_ := Aside0.mk (below_step (by exact eS HB.out) hb); have n3_ := Aside0.mk (hbox); have n4_ := Aside0.mk ((by rw [hg]; exact (below_size (by exact eS HB.out)) : w.heap.size ≤ gb109)); have n5_ := Aside0.mk ((by rw [hg]; exact (below_size (by exact eS HB.out)) : w.heap.size ≤ gb109)); have n6_ := Aside0.mk ((by rw [hg]; exact Nat.ne_of_lt (blk_lt (bS BK101.out)) : gb101 ≠ gb109)); have n7_ := Aside0.mk ((by rw [hg]; exact Nat.ne_of_gt (blk_lt (bS BK101.out)) : gb109 ≠ gb101)); clear HO_8; clear BK101; clear HB; have HO_8 := n0_; have BK101 := n1_; have HB := n2_; have BK109 := n3_; have GW109 := n4_; have GE109 := n5_; have NB101_109 := n6_; have NB109_101 := n7_; clear n0_ n1_ n2_ n3_ n4_ n5_ n6_ n7_; clear hb hbox hg; have hnb47 := NB109_101.out; have hnc47 := NB101_109.out; have hcz48_0 : w46.cell? ⟨gb109, 0, none⟩ = some (.int .i64 0) := (blk_cell BK109.out 0).trans rfl; have hcz48_1 : w46.cell? ⟨gb109, 1, none⟩ = some (.int .i64 0) := (blk_cell BK109.out 1).trans rfl; have hcz48_2 : w46.cell? ⟨gb109, 2, none⟩ = some (.int .i64 0) := (blk_cell BK109.out 2).trans rfl; have hfz48_0 := blk_frozen BK109.out 0; have hfz48_1 := blk_frozen BK109.out 1; have hfz48_2 := blk_frozen BK109.out 2) | (go_at_call 71; (with_reducible refine (spec_l1Has.calls k3 _ _ x8_2 ((rd_T66 l0_0 x11_3).f0) false _ ?side1 ?side2 A26.out).mono ?_); (case side1 => refine (Kd.R_reads' (e := 3) (base := w.heap.size) (ok := fun k_ => True) (n := x8_2.length) (c := co21) ?_).2.2; exact (by exact Ho.RS <| (Kd.R_mono (Kd.R_far (p := ⟨gb109, 2, none⟩) (Kd.R_far (p := ⟨gb109, 1, none⟩) (Kd.R_far (p := ⟨gb109, 0, none⟩) (Kd.R_types HO_8.out BK109.out (by decide)) (fun _ hk => hk.2) (.int .i64 ((rd_T66 l0_0 x11_3).f0))) (fun _ hk => hk.2) (.int .i64 ((rd_T66 l0_0 x11_3).f1))) (fun _ hk => hk.2) (.int .i64 ((rd_T66 l0_0 x11_3).f2))) (fun _ h_ => h_.1)))); (case side2 => exact (Kd.R_reads' HO_8.out).2.1); rintro e w' ⟨rfl, ⟨nd, rfl⟩⟩; (try first | exact ⟨rfl, _, World.drewN_drewN _ _ _⟩ | exact ⟨rfl, _, Eq.trans (World.drewN_drewN _ _ _) (congrArg (World.drewN _) (Nat.add_assoc _ _ _))⟩); have hcz49_0 : w46.cell? ⟨gb101, 0, none⟩ = some (.slice (some ad108) l0_0.length c0_0) := (blk_cell BK101.out 0).trans rfl; have hcz49_1 : w46.cell? ⟨gb101, 1, none⟩ = some (.int .i64 a0_1) := (blk_cell BK101.out 1).trans rfl; have hcz49_2 : w46.cell? ⟨gb101, 2, none⟩ = some (.int .i64 a0_2) := (blk_cell BK101.out 2).trans rfl; have hcz49_3 : w46.cell? ⟨gb101, 3, none⟩ = some (.int .i64 a0_3) := (blk_cell BK101.out 3).trans rfl; have hcz49_4 : w46.cell? ⟨gb101, 4, none⟩ = some (.int .i64 a0_4) := (blk_cell BK101.out 4).trans rfl; have hfz49_0 := blk_frozen BK101.out 0; have hfz49_1 := blk_frozen BK101.out 1; have hfz49_2 := blk_frozen BK101.out 2; have hfz49_3 := blk_frozen BK101.out 3; have hfz49_4 := blk_frozen BK101.out 4; have p111 : 0 ≤ (x10_3 : Int) := of_decide_eq_true (by first | (with_reducible assumption) | assumption); have q111 : x10_3 < (l0_0.length : Int) := of_decide_eq_true (by first | (with_reducible assumption) | assumption); obtain ⟨ad111, e111, hx111_0, hx111_1, hx111_2⟩ := at_T66 HR0_0.out x10_3 p111 q111; obtain rfl : ad108 = ad111 := (by injection e111); have hn111_0 : ad108.block ≠ gb109 := Nat.ne_of_lt (Nat.lt_of_lt_of_le (by have := World.block_lt_of_cell? _ _ hx111_0; first | rwa [add_block] at this | exact this) GW109.out); have hn111_1 : ad108.block ≠ gb109 := Nat.ne_of_lt (Nat.lt_of_lt_of_le (by have := World.block_lt_of_cell? _ _ hx111_0; first | rwa [add_block] at this | exact this) GW109.out); have hn111_2 : ad108.block ≠ gb109 := Nat.ne_of_lt (Nat.lt_of_lt_of_le (by have := World.block_lt_of_cell? _ _ hx111_0; first | rwa [add_block] at this | exact this) GW109.out); replace hx111_0 := (HB.out.cell (World.block_lt_of_cell? w _ hx111_0)).trans hx111_0; replace hx111_1 := (HB.out.cell (World.block_lt_of_cell? w _ hx111_1)).trans hx111_1; replace hx111_2 := (HB.out.cell (World.block_lt_of_cell? w _ hx111_2)).trans hx111_2; replace hx111_0 := (cell_far (p := ⟨gb109, 0, none⟩) (by first | (rw [add_block]; exact hn111_0) | (show (Addr.add _ _).block ≠ _; rw [add_block]; exact hn111_0) | exact hn111_0) (.int .i64 ((rd_T66 l0_0 x11_3).f0))).trans hx111_0; replace hx111_1 := (cell_far (p := ⟨gb109, 0, none⟩) (by first | (rw [add_block]; exact hn111_0) | (show (Addr.add _ _).block ≠ _; rw [add_block]; exact hn111_0) | exact hn111_0) (.int .i64 ((rd_T66 l0_0 x11_3).f0))).trans hx111_1; replace hx111_2 := (cell_far (p := ⟨gb109, 0, none⟩) (by first | (rw [add_block]; exact hn111_0) | (show (Addr.add _ _).block ≠ _; rw [add_block]; exact hn111_0) | exact hn111_0) (.int .i64 ((rd_T66 l0_0 x11_3).f0))).trans hx111_2; replace hx111_0 := (cell_far (p := ⟨gb109, 1, none⟩) (by first | (rw [add_block]; exact hn111_1) | (show (Addr.add _ _).block ≠ _; rw [add_block]; exact hn111_1) | exact hn111_1) (.int .i64 ((rd_T66 l0_0 x11_3).f1))).trans hx111_0; replace hx111_1 := (cell_far (p := ⟨gb109, 1, none⟩) (by first | (rw [add_block]; exact hn111_1) | (show (Addr.add _ _).block ≠ _; rw [add_block]; exact hn111_1) | exact hn111_1) (.int .i64 ((rd_T66 l0_0 x11_3).f1))).trans hx111_1; replace hx111_2 := (cell_far (p := ⟨gb109, 1, none⟩) (by first | (rw [add_block]; exact hn111_1) | (show (Addr.add _ _).block ≠ _; rw [add_block]; exact hn111_1) | exact hn111_1) (.int .i64 ((rd_T66 l0_0 x11_3).f1))).trans hx111_2; replace hx111_0 := (cell_far (p := ⟨gb109, 2, none⟩) (by first | (rw [add_block]; exact hn111_2) | (show (Addr.add _ _).block ≠ _; rw [add_block]; exact hn111_2) | exact hn111_2) (.int .i64 ((rd_T66 l0_0 x11_3).f2))).trans hx111_0; replace hx111_1 := (cell_far (p := ⟨gb109, 2, none⟩) (by first | (rw [add_block]; exact hn111_2) | (show (Addr.add _ _).block ≠ _; rw [add_block]; exact hn111_2) | exact hn111_2) (.int .i64 ((rd_T66 l0_0 x11_3).f2))).trans hx111_1; replace hx111_2 := (cell_far (p := ⟨gb109, 2, none⟩) (by first | (rw [add_block]; exact hn111_2) | (show (Addr.add _ _).block ≠ _; rw [add_block]; exact hn111_2) | exact hn111_2) (.int .i64 ((rd_T66 l0_0 x11_3).f2))).trans hx111_2; (try have hy111_0 := fun (n_ : Nat) => (show (((((w46.drewN n_).setCell ⟨gb109, 0, none⟩ (.int .i64 ((rd_T66 l0_0 x11_3).f0))).setCell ⟨gb109, 1, none⟩ (.int .i64 ((rd_T66 l0_0 x11_3).f1))).setCell ⟨gb109, 2, none⟩ (.int .i64 ((rd_T66 l0_0 x11_3).f2)))).cell? _ = some _ from hx111_0)); (try have hy111_1 := fun (n_ : Nat) => (show (((((w46.drewN n_).setCell ⟨gb109, 0, none⟩ (.int .i64 ((rd_T66 l0_0 x11_3).f0))).setCell ⟨gb109, 1, none⟩ (.int .i64 ((rd_T66 l0_0 x11_3).f1))).setCell ⟨gb109, 2, none⟩ (.int .i64 ((rd_T66 l0_0 x11_3).f2)))).cell? _ = some _ from hx111_1)); (try have hy111_2 := fun (n_ : Nat) => (show (((((w46.drewN n_).setCell ⟨gb109, 0, none⟩ (.int .i64 ((rd_T66 l0_0 x11_3).f0))).setCell ⟨gb109, 1, none⟩ (.int .i64 ((rd_T66 l0_0 x11_3).f1))).setCell ⟨gb109, 2, none⟩ (.int .i64 ((rd_T66 l0_0 x11_3).f2)))).cell? _ = some _ from hx111_2)); clear hn111_0; clear hn111_1; clear hn111_2; replace p111 := eq_true p111; replace q111 := eq_true q111)); try go_wp2_with (first | ((with_reducible refine gate_dst (N := 12) rfl ?_); refine box_event ?hg (N := 12) ?hd (cs := #[.int .i64 0, .int .i64 0, .int .i64 0]) (t := 66) ?hr ?_; (case hd => rfl); (case hg => rfl); (case hr => first | (go_simp; done) | (go_simp; rfl)); intro gb109 hg w46 hbox hb; have n0_ := Aside0.mk (Kd.R_below (by exact Ho.RS <| HO_8.out) hb); have n1_ := Aside0.mk (blk_below (bS BK101.out) hb); have n2_ := Aside0.mk (below_step (by exact eS HB.out) hb); have n3_ := Aside0.mk (hbox); have n4_ := Aside0.mk ((by rw [hg]; exact (below_size (by exact eS HB.out)) : w.heap.size ≤ gb109)); have n5_ := Aside0.mk ((by rw [hg]; exact (below_size (by exact eS HB.out)) : w.heap.size ≤ gb109)); have n6_ := Aside0.mk ((by rw [hg]; exact Nat.ne_of_lt (blk_lt (bS BK101.out)) : gb101 ≠ gb109)); have n7_ := Aside0.mk ((by rw [hg]; exact Nat.ne_of_gt (blk_lt (bS BK101.out)) : gb109 ≠ gb101)); clear HO_8; clear BK101; clear HB; have HO_8 := n0_; have BK101 := n1_; have HB := n2_; have BK109 := n3_; have GW109 := n4_; have GE109 := n5_; have NB101_109 := n6_; have NB109_101 := n7_; clear n0_ n1_ n2_ n3_ n4_ n5_ n6_ n7_; clear hb hbox hg; have hnb47 := NB109_101.out; have hnc47 := NB101_109.out; have hcz48_0 : w46.cell? ⟨gb109, 0, none⟩ = some (.int .i64 0) := (blk_cell BK109.out 0).trans rfl; have hcz48_1 : w46.cell? ⟨gb109, 1, none⟩ = some (.int .i64 0) := (blk_cell BK109.out 1).trans rfl; have hcz48_2 : w46.cell? ⟨gb109, 2, none⟩ = some (.int .i64 0) := (blk_cell BK109.out 2).trans rfl; have hfz48_0 := blk_frozen BK109.out 0; have hfz48_1 := blk_frozen BK109.out 1; have hfz48_2 := blk_frozen BK109.out 2) | (go_at_call 71; (with_reducible refine (spec_l1Has.calls k3 _ _ x8_2 ((rd_T66 l0_0 x11_3).f0) false _ ?side1 ?side2 A26.out).mono ?_); (case side1 => refine (Kd.R_reads' (e := 3) (base := w.heap.size) (ok := fun k_ => True) (n := x8_2.length) (c := co21) ?_).2.2; exact (by exact Ho.RS <| (Kd.R_mono (Kd.R_far (p := ⟨gb109, 2, none⟩) (Kd.R_far (p := ⟨gb109, 1, none⟩) (Kd.R_far (p := ⟨gb109, 0, none⟩) (Kd.R_types HO_8.out BK109.out (by decide)) (fun _ hk => hk.2) (.int .i64 ((rd_T66 l0_0 x11_3).f0))) (fun _ hk => hk.2) (.int .i64 ((rd_T66 l0_0 x11_3).f1))) (fun _ hk => hk.2) (.int .i64 ((rd_T66 l0_0 x11_3).f2))) (fun _ h_ => h_.1)))); (case side2 => exact (Kd.R_reads' HO_8.out).2.1); rintro e w' ⟨rfl, ⟨nd, rfl⟩⟩; (try first | exact ⟨rfl, _, World.drewN_drewN _ _ _⟩ | exact ⟨rfl, _, Eq.trans (World.drewN_drewN _ _ _) (congrArg (World.drewN _) (Nat.add_assoc _ _ _))⟩); have hcz49_0 : w46.cell? ⟨gb101, 0, none⟩ = some (.slice (some ad108) l0_0.length c0_0) := (blk_cell BK101.out 0).trans rfl; have hcz49_1 : w46.cell? ⟨gb101, 1, none⟩ = some (.int .i64 a0_1) := (blk_cell BK101.out 1).trans rfl; have hcz49_2 : w46.cell? ⟨gb101, 2, none⟩ = some (.int .i64 a0_2) := (blk_cell BK101.out 2).trans rfl; have hcz49_3 : w46.cell? ⟨gb101, 3, none⟩ = some (.int .i64 a0_3) := (blk_cell BK101.out 3).trans rfl; have hcz49_4 : w46.cell? ⟨gb101, 4, none⟩ = some (.int .i64 a0_4) := (blk_cell BK101.out 4).trans rfl; have hfz49_0 := blk_frozen BK101.out 0; have hfz49_1 := blk_frozen BK101.out 1; have hfz49_2 := blk_frozen BK101.out 2; have hfz49_3 := blk_frozen BK101.out 3; have hfz49_4 := blk_frozen BK101.out 4; have p111 : 0 ≤ (x10_3 : Int) := of_decide_eq_true (by first | (with_reducible assumption) | assumption); have q111 : x10_3 < (l0_0.length : Int) := of_decide_eq_true (by first | (with_reducible assumption) | assumption); obtain ⟨ad111, e111, hx111_0, hx111_1, hx111_2⟩ := at_T66 HR0_0.out x10_3 p111 q111; obtain rfl : ad108 = ad111 := (by injection e111); have hn111_0 : ad108.block ≠ gb109 := Nat.ne_of_lt (Nat.lt_of_lt_of_le (by have := World.block_lt_of_cell? _ _ hx111_0; first | rwa [add_block] at this | exact this) GW109.out); have hn111_1 : ad108.block ≠ gb109 := Nat.ne_of_lt (Nat.lt_of_lt_of_le (by have := World.block_lt_of_cell? _ _ hx111_0; first | rwa [add_block] at this | exact this) GW109.out); have hn111_2 : ad108.block ≠ gb109 := Nat.ne_of_lt (Nat.lt_of_lt_of_le (by have := World.block_lt_of_cell? _ _ hx111_0; first | rwa [add_block] at this | exact this) GW109.out); replace hx111_0 := (HB.out.cell (World.block_lt_of_cell? w _ hx111_0)).trans hx111_0; replace hx111_1 := (HB.out.cell (World.block_lt_of_cell? w _ hx111_1)).trans hx111_1; replace hx111_2 := (HB.out.cell (World.block_lt_of_cell? w _ hx111_2)).trans hx111_2; replace hx111_0 := (cell_far (p := ⟨gb109, 0, none⟩) (by first | (rw [add_block]; exact hn111_0) | (show (Addr.add _ _).block ≠ _; rw [add_block]; exact hn111_0) | exact hn111_0) (.int .i64 ((rd_T66 l0_0 x11_3).f0))).trans hx111_0; replace hx111_1 := (cell_far (p := ⟨gb109, 0, none⟩) (by first | (rw [add_block]; exact hn111_0) | (show (Addr.add _ _).block ≠ _; rw [add_block]; exact hn111_0) | exact hn111_0) (.int .i64 ((rd_T66 l0_0 x11_3).f0))).trans hx111_1; replace hx111_2 := (cell_far (p := ⟨gb109, 0, none⟩) (by first | (rw [add_block]; exact hn111_0) | (show (Addr.add _ _).block ≠ _; rw [add_block]; exact hn111_0) | exact hn111_0) (.int .i64 ((rd_T66 l0_0 x11_3).f0))).trans hx111_2; replace hx111_0 := (cell_far (p := ⟨gb109, 1, none⟩) (by first | (rw [add_block]; exact hn111_1) | (show (Addr.add _ _).block ≠ _; rw [add_block]; exact hn111_1) | exact hn111_1) (.int .i64 ((rd_T66 l0_0 x11_3).f1))).trans hx111_0; replace hx111_1 := (cell_far (p := ⟨gb109, 1, none⟩) (by first | (rw [add_block]; exact hn111_1) | (show (Addr.add _ _).block ≠ _; rw [add_block]; exact hn111_1) | exact hn111_1) (.int .i64 ((rd_T66 l0_0 x11_3).f1))).trans hx111_1; replace hx111_2 := (cell_far (p := ⟨gb109, 1, none⟩) (by first | (rw [add_block]; exact hn111_1) | (show (Addr.add _ _).block ≠ _; rw [add_block]; exact hn111_1) | exact hn111_1) (.int .i64 ((rd_T66 l0_0 x11_3).f1))).trans hx111_2; replace hx111_0 := (cell_far (p := ⟨gb109, 2, none⟩) (by first | (rw [add_block]; exact hn111_2) | (show (Addr.add _ _).block ≠ _; rw [add_block]; exact hn111_2) | exact hn111_2) (.int .i64 ((rd_T66 l0_0 x11_3).f2))).trans hx111_0; replace hx111_1 := (cell_far (p := ⟨gb109, 2, none⟩) (by first | (rw [add_block]; exact hn111_2) | (show (Addr.add _ _).block ≠ _; rw [add_block]; exact hn111_2) | exact hn111_2) (.int .i64 ((rd_T66 l0_0 x11_3).f2))).trans hx111_1; replace hx111_2 := (cell_far (p := ⟨gb109, 2, none⟩) (by first | (rw [add_block]; exact hn111_2) | (show (Addr.add _ _).block ≠ _; rw [add_block]; exact hn111_2) | exact hn111_2) (.int .i64 ((rd_T66 l0_0 x11_3).f2))).trans hx111_2; (try have hy111_0 := fun (n_ : Nat) => (show (((((w46.drewN n_).setCell ⟨gb109, 0, none⟩ (.int .i64 ((rd_T66 l0_0 x11_3).f0))).setCell ⟨gb109, 1, none⟩ (.int .i64 ((rd_T66 l0_0 x11_3).f1))).setCell ⟨gb109, 2, none⟩ (.int .i64 ((rd_T66 l0_0 x11_3).f2)))).cell? _ = some _ from hx111_0)); (try have hy111_1 := fun (n_ : Nat) => (show (((((w46.drewN n_).setCell ⟨gb109, 0, none⟩ (.int .i64 ((rd_T66 l0_0 x11_3).f0))).setCell ⟨gb109, 1, none⟩ (.int .i64 ((rd_T66 l0_0 x11_3).f1))).setCell ⟨gb109, 2, none⟩ (.int .i64 ((rd_T66 l0_0 x11_3).f2)))).cell? _ = some _ from hx111_1)); (try have hy111_2 := fun (n_ : Nat) => (show (((((w46.drewN n_).setCell ⟨gb109, 0, none⟩ (.int .i64 ((rd_T66 l0_0 x11_3).f0))).setCell ⟨gb109, 1, none⟩ (.int .i64 ((rd_T66 l0_0 x11_3).f1))).setCell ⟨gb109, 2, none⟩ (.int .i64 ((rd_T66 l0_0 x11_3).f2)))).cell? _ = some _ from hx111_2)); clear hn111_0; clear hn111_1; clear hn111_2; replace p111 := eq_true p111; replace q111 := eq_true q111)))
                 go_roundg k3
                 case measure => have := HJ3.out; have := HK2.out; have := HK3.out; omega
                 case rel => exact ⟨(x10_3), (wrap64 (x11_3 + 1)), (by first | rfl | (simp; done) | (simp [*]; done)), (by first | rfl | (simp; done) | (simp [*]; done)), H', ⟨by have := HJ3.out; have := HK2.out; have := HK3.out; omega⟩, ⟨by exact Ho.RS <| Kd.R_mono (Kd.R_far (p := ⟨gb109, 2, none⟩) (Kd.R_far (p := ⟨gb109, 1, none⟩) (Kd.R_far (p := ⟨gb109, 0, none⟩) (Kd.R_types HO_8.out BK109.out (by decide)) (fun _ hk => hk.2) (.int .i64 ((rd_T66 l0_0 x11_3).f0))) (fun _ hk => hk.2) (.int .i64 ((rd_T66 l0_0 x11_3).f1))) (fun _ hk => hk.2) (.int .i64 ((rd_T66 l0_0 x11_3).f2))) (fun _ hk => trivial)⟩, ⟨by (with_reducible repeat (first | refine blk_drewN ?_ _ | refine blk_drew ?_ | refine blk_alloc ?_ _)); refine blk_far ?_ NB101_109.out _; (with_reducible repeat (first | refine blk_drewN ?_ _ | refine blk_drew ?_ | refine blk_alloc ?_ _)); refine blk_far ?_ NB101_109.out _; (with_reducible repeat (first | refine blk_drewN ?_ _ | refine blk_drew ?_ | refine blk_alloc ?_ _)); refine blk_far ?_ NB101_109.out _; exact bS BK101.out⟩, ⟨by repeat (first | (with_reducible first | exact HB.out | apply below_alloc | apply pw_below_drewN | apply below_drew1 | refine below_set ?_ GE101.out | refine below_set ?_ GE109.out) | exact HB.out)⟩⟩
               ·rw [if_neg c38] at H
                exact absurd H (by simp)
              ·rw [if_neg c37] at H
               exact absurd H (by simp)
           ·rw [if_neg c25] at H
            have c25b0 : (((rd_T66 l0_0 x11_3).f1) == a1) = false := beq_eq_false_iff_ne.mpr c25
            have c25b1 : (((rd_T66 l0_0 x11_3).f1) != a1) = true := bne_iff_ne.mpr c25
            have H' := Aside0.mk H
            clear H
            have hcz50_0 : wr.cell? ⟨gb101, 0, none⟩ = some (.slice A0_0 l0_0.length c0_0) := (blk_cell BK101.out 0).trans rfl
            have hcz50_1 : wr.cell? ⟨gb101, 1, none⟩ = some (.int .i64 a0_1) := (blk_cell BK101.out 1).trans rfl
            have hcz50_2 : wr.cell? ⟨gb101, 2, none⟩ = some (.int .i64 a0_2) := (blk_cell BK101.out 2).trans rfl
            have hcz50_3 : wr.cell? ⟨gb101, 3, none⟩ = some (.int .i64 a0_3) := (blk_cell BK101.out 3).trans rfl
            have hcz50_4 : wr.cell? ⟨gb101, 4, none⟩ = some (.int .i64 a0_4) := (blk_cell BK101.out 4).trans rfl
            have hfz50_0 := blk_frozen BK101.out 0
            have hfz50_1 := blk_frozen BK101.out 1
            have hfz50_2 := blk_frozen BK101.out 2
            have hfz50_3 := blk_frozen BK101.out 3
            have hfz50_4 := blk_frozen BK101.out 4
            have p108 : 0 ≤ (x11_3 : Int) := of_decide_eq_true (by first | (with_reducible assumption) | assumption)
            have q108 : x11_3 < (l0_0.length : Int) := of_decide_eq_true (by first | (with_reducible assumption) | assumption)
            obtain ⟨ad108, e108, hx108_0, hx108_1, hx108_2⟩ := at_T66 HR0_0.out x11_3 p108 q108
            cases e108
            replace hx108_0 := (HB.out.cell (World.block_lt_of_cell? w _ hx108_0)).trans hx108_0
            replace hx108_1 := (HB.out.cell (World.block_lt_of_cell? w _ hx108_1)).trans hx108_1
            replace hx108_2 := (HB.out.cell (World.block_lt_of_cell? w _ hx108_2)).trans hx108_2
            replace p108 := eq_true p108
            replace q108 := eq_true q108
            go_wp2_with (first | ((with_reducible refine gate_dst (N := 12) rfl ?_); refine box_event ?hg (N := 12) ?hd (cs := #[.int .i64 0, .int .i64 0, .int .i64 0]) (t := 66) ?hr ?_; (case hd => rfl); (case hg => rfl); (case hr => first | (go_simp; done) | (go_simp; rfl)); intro gb109 hg w51 hbox hb; have n0_ := Aside0.mk (Kd.R_below (by exact Ho.RS <| HO_8.out) hb); have n1_ := Aside0.mk (blk_below (bS BK101.out) hb); have n2_ := Aside0.mk (below_step (by exact eS HB.out) hb); have n3_ := Aside0.mk (hbox); have n4_ := Aside0.mk ((by rw [hg]; exact (below_size (by exact eS HB.out)) : w.heap.size ≤ gb109)); have n5_ := Aside0.mk ((by rw [hg]; exact (below_size (by exact eS HB.out)) : w.heap.size ≤ gb109)); have n6_ := Aside0.mk ((by rw [hg]; exact Nat.ne_of_lt (blk_lt (bS BK101.out)) : gb101 ≠ gb109)); have n7_ := Aside0.mk ((by rw [hg]; exact Nat.ne_of_gt (blk_lt (bS BK101.out)) : gb109 ≠ gb101)); clear HO_8; clear BK101; clear HB; have HO_8 := n0_; have BK101 := n1_; have HB := n2_; have BK109 := n3_; have GW109 := n4_; have GE109 := n5_; have NB101_109 := n6_; have NB109_101 := n7_; clear n0_ n1_ n2_ n3_ n4_ n5_ n6_ n7_; clear hb hbox hg; have hnb52 := NB109_101.out; have hnc52 := NB101_109.out; have hcz53_0 : w51.cell? ⟨gb109, 0, none⟩ = some (.int .i64 0) := (blk_cell BK109.out 0).trans rfl; have hcz53_1 : w51.cell? ⟨gb109, 1, none⟩ = some (.int .i64 0) := (blk_cell BK109.out 1).trans rfl; have hcz53_2 : w51.cell? ⟨gb109, 2, none⟩ = some (.int .i64 0) := (blk_cell BK109.out 2).trans rfl; have hfz53_0 := blk_frozen BK109.out 0; have hfz53_1 := blk_frozen BK109.out 1; have hfz53_2 := blk_frozen BK109.out 2))
            repeat (go_quiet (first | ((with_reducible refine gate_dst (N := 12) rfl ?_); refine box_event ?hg (N := 12) ?hd (cs := #[.int .i64 0, .int .i64 0, .int .i64 0]) (t := 66) ?hr ?_; (case hd => rfl); (case hg => rfl); (case hr => first | (go_simp; done) | (go_simp; rfl)); intro gb109 hg w51 hbox hb; have n0_ := Aside0.mk (Kd.R_below (by exact Ho.RS <| HO_8.out) hb); have n1_ := Aside0.mk (blk_below (bS BK101.out) hb); have n2_ := Aside0.mk (below_step (by exact eS HB.out) hb); have n3_ := Aside0.mk (hbox); have n4_ := Aside0.mk ((by rw [hg]; exact (below_size (by exact eS HB.out)) : w.heap.size ≤ gb109)); have n5_ := Aside0.mk ((by rw [hg]; exact (below_size (by exact eS HB.out)) : w.heap.size ≤ gb109)); have n6_ := Aside0.mk ((by rw [hg]; exact Nat.ne_of_lt (blk_lt (bS BK101.out)) : gb101 ≠ gb109)); have n7_ := Aside0.mk ((by rw [hg]; exact Nat.ne_of_gt (blk_lt (bS BK101.out)) : gb109 ≠ gb101)); clear HO_8; clear BK101; clear HB; have HO_8 := n0_; have BK101 := n1_; have HB := n2_; have BK109 := n3_; have GW109 := n4_; have GE109 := n5_; have NB101_109 := n6_; have NB109_101 := n7_; clear n0_ n1_ n2_ n3_ n4_ n5_ n6_ n7_; clear hb hbox hg; have hnb52 := NB109_101.out; have hnc52 := NB101_109.out; have hcz53_0 : w51.cell? ⟨gb109, 0, none⟩ = some (.int .i64 0) := (blk_cell BK109.out 0).trans rfl; have hcz53_1 : w51.cell? ⟨gb109, 1, none⟩ = some (.int .i64 0) := (blk_cell BK109.out 1).trans rfl; have hcz53_2 : w51.cell? ⟨gb109, 2, none⟩ = some (.int .i64 0) := (blk_cell BK109.out 2).trans rfl; have hfz53_0 := blk_frozen BK109.out 0; have hfz53_1 := blk_frozen BK109.out 1; have hfz53_2 := blk_frozen BK109.out 2)); try go_wp2_with (first | ((with_reducible refine gate_dst (N := 12) rfl ?_); refine box_event ?hg (N := 12) ?hd (cs := #[.int .i64 0, .int .i64 0, .int .i64 0]) (t := 66) ?hr ?_; (case hd => rfl); (case hg => rfl); (case hr => first | (go_simp; done) | (go_simp; rfl)); intro gb109 hg w51 hbox hb; have n0_ := Aside0.mk (Kd.R_below (by exact Ho.RS <| HO_8.out) hb); have n1_ := Aside0.mk (blk_below (bS BK101.out) hb); have n2_ := Aside0.mk (below_step (by exact eS HB.out) hb); have n3_ := Aside0.mk (hbox); have n4_ := Aside0.mk ((by rw [hg]; exact (below_size (by exact eS HB.out)) : w.heap.size ≤ gb109)); have n5_ := Aside0.mk ((by rw [hg]; exact (below_size (by exact eS HB.out)) : w.heap.size ≤ gb109)); have n6_ := Aside0.mk ((by rw [hg]; exact Nat.ne_of_lt (blk_lt (bS BK101.out)) : gb101 ≠ gb109)); have n7_ := Aside0.mk ((by rw [hg]; exact Nat.ne_of_gt (blk_lt (bS BK101.out)) : gb109 ≠ gb101)); clear HO_8; clear BK101; clear HB; have HO_8 := n0_; have BK101 := n1_; have HB := n2_; have BK109 := n3_; have GW109 := n4_; have GE109 := n5_; have NB101_109 := n6_; have NB109_101 := n7_; clear n0_ n1_ n2_ n3_ n4_ n5_ n6_ n7_; clear hb hbox hg; have hnb52 := NB109_101.out; have hnc52 := NB101_109.out; have hcz53_0 : w51.cell? ⟨gb109, 0, none⟩ = some (.int .i64 0) := (blk_cell BK109.out 0).trans rfl; have hcz53_1 : w51.cell? ⟨gb109, 1, none⟩ = some (.int .i64 0) := (blk_cell BK109.out 1).trans rfl; have hcz53_2 : w51.cell? ⟨gb109, 2, none⟩ = some (.int .i64 0) := (blk_cell BK109.out 2).trans rfl; have hfz53_0 := blk_frozen BK109.out 0; have hfz53_1 := blk_frozen BK109.out 1; have hfz53_2 := blk_frozen BK109.out 2)))
            go_roundg k3
            case measure => have := HJ3.out; have := HK2.out; have := HK3.out; omega
            case rel => exact ⟨(x10_3), (wrap64 (x11_3 + 1)), (by first | rfl | (simp; done) | (simp [*]; done)), (by first | rfl | (simp; done) | (simp [*]; done)), H', ⟨by have := HJ3.out; have := HK2.out; have := HK3.out; omega⟩, ⟨by exact Ho.RS <| Kd.R_mono (Kd.R_far (p := ⟨gb109, 2, none⟩) (Kd.R_far (p := ⟨gb109, 1, none⟩) (Kd.R_far (p := ⟨gb109, 0, none⟩) (Kd.R_types HO_8.out BK109.out (by decide)) (fun _ hk => hk.2) (.int .i64 ((rd_T66 l0_0 x11_3).f0))) (fun _ hk => hk.2) (.int .i64 ((rd_T66 l0_0 x11_3).f1))) (fun _ hk => hk.2) (.int .i64 ((rd_T66 l0_0 x11_3).f2))) (fun _ hk => trivial)⟩, ⟨by (with_reducible repeat (first | refine blk_drewN ?_ _ | refine blk_drew ?_ | refine blk_alloc ?_ _)); refine blk_far ?_ NB101_109.out _; (with_reducible repeat (first | refine blk_drewN ?_ _ | refine blk_drew ?_ | refine blk_alloc ?_ _)); refine blk_far ?_ NB101_109.out _; (with_reducible repeat (first | refine blk_drewN ?_ _ | refine blk_drew ?_ | refine blk_alloc ?_ _)); refine blk_far ?_ NB101_109.out _; exact bS BK101.out⟩, ⟨by repeat (first | (with_reducible first | exact HB.out | apply below_alloc | apply pw_below_drewN | apply below_drew1 | refine below_set ?_ GE101.out | refine below_set ?_ GE109.out) | exact HB.out)⟩⟩
          ·rw [if_neg c24] at H
           exact absurd H (by simp)
         ·rw [if_neg c23] at H
          have c23b0 : decide (x11_3 < (l0_0.length : Int)) = false := decide_eq_false c23
          clear c23
          by_cases c54 : x10_3 < 0
          ·rw [if_pos c54] at H
           have c54b0 : decide (x10_3 < 0) = true := decide_eq_true c54
           clear c54
           simp only [Option.some.injEq, Prod.mk.injEq] at H
           obtain ⟨rfl, rfl⟩ := H
           have hcz55_0 : wr.cell? ⟨gb101, 0, none⟩ = some (.slice A0_0 l0_0.length c0_0) := (blk_cell BK101.out 0).trans rfl
           have hcz55_1 : wr.cell? ⟨gb101, 1, none⟩ = some (.int .i64 a0_1) := (blk_cell BK101.out 1).trans rfl
           have hcz55_2 : wr.cell? ⟨gb101, 2, none⟩ = some (.int .i64 a0_2) := (blk_cell BK101.out 2).trans rfl
           have hcz55_3 : wr.cell? ⟨gb101, 3, none⟩ = some (.int .i64 a0_3) := (blk_cell BK101.out 3).trans rfl
           have hcz55_4 : wr.cell? ⟨gb101, 4, none⟩ = some (.int .i64 a0_4) := (blk_cell BK101.out 4).trans rfl
           have hfz55_0 := blk_frozen BK101.out 0
           have hfz55_1 := blk_frozen BK101.out 1
           have hfz55_2 := blk_frozen BK101.out 2
           have hfz55_3 := blk_frozen BK101.out 3
           have hfz55_4 := blk_frozen BK101.out 4
           go_wp2
           repeat (go_quiet (fail); try go_wp2)
           go_ret2
           exact ⟨by first | rfl | (simp [errW_none, errW_some] <;> rfl) | (simp [*, errW_none, errW_some] <;> rfl), by exact eS HB.out⟩
          ·rw [if_neg c54] at H
           have c54b0 : decide (x10_3 < 0) = false := decide_eq_false c54
           clear c54
           by_cases c56 : 0 ≤ x10_3
           ·rw [if_pos c56] at H
            have c56b0 : decide (0 ≤ x10_3) = true := decide_eq_true c56
            clear c56
            by_cases c57 : x10_3 < (l0_0.length : Int)
            ·rw [if_pos c57] at H
             have c57b0 : decide (x10_3 < (l0_0.length : Int)) = true := decide_eq_true c57
             clear c57
             by_cases c58 : x8_2.length < 17592186044416
             ·rw [if_pos c58] at H
              have LMc58 := Aside0.mk c58
              clear c58
              obtain ⟨y113, hy113⟩ : ∃ y_ : List Int, y_ = (x8_2 ++ [(rd_T66 l0_0 x10_3).f0]) := ⟨_, rfl⟩
              replace H : (if (wrap64 ((wrap64 ((wrap64 (x9_2 + ((rd_T66 l0_0 x10_3).f2))) - (y113.length : Int))) + 1)) ≥ a2 then (some (wrap64 ((y113.length : Int) - 1), true)) else (spec_TiesFor.l0 k3 a1 a2 y113 (wrap64 (x9_2 + ((rd_T66 l0_0 x10_3).f2))) l0_0 a0_1 a0_2 a0_3 a0_4)) = some (r1, r2) := by first | (rw [hy113]; with_reducible exact H) | (have H2_ := (Option.bind_some _ _).symm.trans H; rw [hy113]; with_reducible exact H2_) | (have H2_ := (Option.bind_some _ _).symm.trans H; with_reducible exact H2_) | with_reducible exact H | (rw [hy113]; exact H) | exact H
              have Ny113 := Aside0.mk hy113
              clear hy113
              by_cases c59 : (wrap64 ((wrap64 ((wrap64 (x9_2 + ((rd_T66 l0_0 x10_3).f2))) - (y113.length : Int))) + 1)) ≥ a2
              ·rw [if_pos c59] at H
               have c59b0 : decide (a2 ≤ (wrap64 ((wrap64 ((wrap64 (x9_2 + ((rd_T66 l0_0 x10_3).f2))) - (y113.length : Int))) + 1))) = true := decide_eq_true c59
               clear c59
               simp only [Option.some.injEq, Prod.mk.injEq] at H
               obtain ⟨rfl, rfl⟩ := H
               have hcz60_0 : wr.cell? ⟨gb101, 0, none⟩ = some (.slice A0_0 l0_0.length c0_0) := (blk_cell BK101.out 0).trans rfl
               have hcz60_1 : wr.cell? ⟨gb101, 1, none⟩ = some (.int .i64 a0_1) := (blk_cell BK101.out 1).trans rfl
               have hcz60_2 : wr.cell? ⟨gb101, 2, none⟩ = some (.int .i64 a0_2) := (blk_cell BK101.out 2).trans rfl
               have hcz60_3 : wr.cell? ⟨gb101, 3, none⟩ = some (.int .i64 a0_3) := (blk_cell BK101.out 3).trans rfl
               have hcz60_4 : wr.cell? ⟨gb101, 4, none⟩ = some (.int .i64 a0_4) := (blk_cell BK101.out 4).trans rfl
               have hfz60_0 := blk_frozen BK101.out 0
               have hfz60_1 := blk_frozen BK101.out 1
               have hfz60_2 := blk_frozen BK101.out 2
               have hfz60_3 := blk_frozen BK101.out 3
               have hfz60_4 := blk_frozen BK101.out 4
               have p112 : 0 ≤ (x10_3 : Int) := of_decide_eq_true (by first | (with_reducible assumption) | assumption)
               have q112 : x10_3 < (l0_0.length : Int) := of_decide_eq_true (by first | (with_reducible assumption) | assumption)
               obtain ⟨ad112, e112, hx112_0, hx112_1, hx112_2⟩ := at_T66 HR0_0.out x10_3 p112 q112
               cases e112
               replace hx112_0 := (HB.out.cell (World.block_lt_of_cell? w _ hx112_0)).trans hx112_0
               replace hx112_1 := (HB.out.cell (World.block_lt_of_cell? w _ hx112_1)).trans hx112_1
               replace hx112_2 := (HB.out.cell (World.block_lt_of_cell? w _ hx112_2)).trans hx112_2
               replace p112 := eq_true p112
               replace q112 := eq_true q112
               go_wp2_with (first | ((with_reducible refine gate_builtin (b := .append) (xs := #[.tmp 74, .tmp 81]) rfl ?_); at_builtin; refine Kd.R_append (Kd.int .i64) (w0 := w) w.heap.size rfl (.tmp 74) (.tmp 81) 22 3 (.int .i64 0) 8 rfl Try.underlying22 info3 rfl (by decide) (by omega) (.slice Ao21 x8_2.length co21) x8_2 ((rd_T66 l0_0 x10_3).f0) [.int .i64 ((rd_T66 l0_0 x10_3).f0)] (fun _ => True) (fun _ => False) rfl rfl ?aP (fun _ hk => hk.elim) ?aF ?aO ?aB ?aS ?aL ?_; (case aP => exact rfl); (case aB => exact (by exact eS HB.out)); (case aF => exact (fun _ _ => trivial)); (case aO => exact (by exact Ho.RS <| HO_8.out)); (case aS => exact (below_size (by exact eS HB.out))); (case aL => have := LMc58.out; omega); intro v114 w61 ho hb hg hat; rw [← Ny113.out] at ho; have n0_ := Aside0.mk (blk_grown (bS BK101.out) hg (Kd.R_ne HO_8.out BK101.out (by decide))); have n1_ := Aside0.mk (hb); have n2_ := Aside0.mk (ho); clear BK101; clear HB; clear HO_8; have BK101 := n0_; have HB := n1_; have HO115 := n2_; clear n0_ n1_ n2_; clear ho hb hg hat; have hcz62_0 : w61.cell? ⟨gb101, 0, none⟩ = some (.slice (some ad112) l0_0.length c0_0) := (blk_cell BK101.out 0).trans rfl; have hcz62_1 : w61.cell? ⟨gb101, 1, none⟩ = some (.int .i64 a0_1) := (blk_cell BK101.out 1).trans rfl; have hcz62_2 : w61.cell? ⟨gb101, 2, none⟩ = some (.int .i64 a0_2) := (blk_cell BK101.out 2).trans rfl; have hcz62_3 : w61.cell? ⟨gb101, 3, none⟩ = some (.int .i64 a0_3) := (blk_cell BK101.out 3).trans rfl; have hcz62_4 : w61.cell? ⟨gb101, 4, none⟩ = some (.int .i64 a0_4) := (blk_cell BK101.out 4).trans rfl; have hfz62_0 := blk_frozen BK101.out 0; have hfz62_1 := blk_frozen BK101.out 1; have hfz62_2 := blk_frozen BK101.out 2; have hfz62_3 := blk_frozen BK101.out 3; have hfz62_4 := blk_frozen BK101.out 4; have p116 : 0 ≤ (x10_3 : Int) := of_decide_eq_true (by first | (with_reducible assumption) | assumption); have q116 : x10_3 < (l0_0.length : Int) := of_decide_eq_true (by first | (with_reducible assumption) | assumption); obtain ⟨ad116, e116, hx116_0, hx116_1, hx116_2⟩ := at_T66 HR0_0.out x10_3 p116 q116; obtain rfl : ad112 = ad116 := (by injection e116); replace hx116_0 := (HB.out.cell (World.block_lt_of_cell? w _ hx116_0)).trans hx116_0; replace hx116_1 := (HB.out.cell (World.block_lt_of_cell? w _ hx116_1)).trans hx116_1; replace hx116_2 := (HB.out.cell (World.block_lt_of_cell? w _ hx116_2)).trans hx116_2; replace p116 := eq_true p116; replace q116 := eq_true q116; obtain ⟨Ao63, co63, eo63⟩ := Kd.R_slice HO115.out; subst eo63))
               repeat (go_quiet (first | ((with_reducible refine gate_builtin (b := .append) (xs := #[.tmp 74, .tmp 81]) rfl ?_); at_builtin; refine Kd.R_append (Kd.int .i64) (w0 := w) w.heap.size rfl (.tmp 74) (.tmp 81) 22 3 (.int .i64 0) 8 rfl Try.underlying22 info3 rfl (by decide) (by omega) (.slice Ao21 x8_2.length co21) x8_2 ((rd_T66 l0_0 x10_3).f0) [.int .i64 ((rd_T66 l0_0 x10_3).f0)] (fun _ => True) (fun _ => False) rfl rfl ?aP (fun _ hk => hk.elim) ?aF ?aO ?aB ?aS ?aL ?_; (case aP => exact rfl); (case aB => exact (by exact eS HB.out)); (case aF => exact (fun _ _ => trivial)); (case aO => exact (by exact Ho.RS <| HO_8.out)); (case aS => exact (below_size (by exact eS HB.out))); (case aL => have := LMc58.out; omega); intro v114 w61 ho hb hg hat; rw [← Ny113.out] at ho; have n0_ := Aside0.mk (blk_grown (bS BK101.out) hg (Kd.R_ne HO_8.out BK101.out (by decide))); have n1_ := Aside0.mk (hb); have n2_ := Aside0.mk (ho); clear BK101; clear HB; clear HO_8; have BK101 := n0_; have HB := n1_; have HO115 := n2_; clear n0_ n1_ n2_; clear ho hb hg hat; have hcz62_0 : w61.cell? ⟨gb101, 0, none⟩ = some (.slice (some ad112) l0_0.length c0_0) := (blk_cell BK101.out 0).trans rfl; have hcz62_1 : w61.cell? ⟨gb101, 1, none⟩ = some (.int .i64 a0_1) := (blk_cell BK101.out 1).trans rfl; have hcz62_2 : w61.cell? ⟨gb101, 2, none⟩ = some (.int .i64 a0_2) := (blk_cell BK101.out 2).trans rfl; have hcz62_3 : w61.cell? ⟨gb101, 3, none⟩ = some (.int .i64 a0_3) := (blk_cell BK101.out 3).trans rfl; have hcz62_4 : w61.cell? ⟨gb101, 4, none⟩ = some (.int .i64 a0_4) := (blk_cell BK101.out 4).trans rfl; have hfz62_0 := blk_frozen BK101.out 0; have hfz62_1 := blk_frozen BK101.out 1; have hfz62_2 := blk_frozen BK101.out 2; have hfz62_3 := blk_frozen BK101.out 3; have hfz62_4 := blk_frozen BK101.out 4; have p116 : 0 ≤ (x10_3 : Int) := of_decide_eq_true (by first | (with_reducible assumption) | assumption); have q116 : x10_3 < (l0_0.length : Int) := of_decide_eq_true (by first | (with_reducible assumption) | assumption); obtain ⟨ad116, e116, hx116_0, hx116_1, hx116_2⟩ := at_T66 HR0_0.out x10_3 p116 q116; obtain rfl : ad112 = ad116 := (by injection e116); replace hx116_0 := (HB.out.cell (World.block_lt_of_cell? w _ hx116_0)).trans hx116_0; replace hx116_1 := (HB.out.cell (World.block_lt_of_cell? w _ hx116_1)).trans hx116_1; replace hx116_2 := (HB.out.cell (World.block_lt_of_cell? w _ hx116_2)).trans hx116_2; replace p116 := eq_true p116; replace q116 := eq_true q116; obtain ⟨Ao63, co63, eo63⟩ := Kd.R_slice HO115.out; subst eo63)); try go_wp2_with (first | ((with_reducible refine gate_builtin (b := .append) (xs := #[.tmp 74, .tmp 81]) rfl ?_); at_builtin; refine Kd.R_append (Kd.int .i64) (w0 := w) w.heap.size rfl (.tmp 74) (.tmp 81) 22 3 (.int .i64 0) 8 rfl Try.underlying22 info3 rfl (by decide) (by omega) (.slice Ao21 x8_2.length co21) x8_2 ((rd_T66 l0_0 x10_3).f0) [.int .i64 ((rd_T66 l0_0 x10_3).f0)] (fun _ => True) (fun _ => False) rfl rfl ?aP (fun _ hk => hk.elim) ?aF ?aO ?aB ?aS ?aL ?_; (case aP => exact rfl); (case aB => exact (by exact eS HB.out)); (case aF => exact (fun _ _ => trivial)); (case aO => exact (by exact Ho.RS <| HO_8.out)); (case aS => exact (below_size (by exact eS HB.out))); (case aL => have := LMc58.out; omega); intro v114 w61 ho hb hg hat; rw [← Ny113.out] at ho; have n0_ := Aside0.mk (blk_grown (bS BK101.out) hg (Kd.R_ne HO_8.out BK101.out (by decide))); have n1_ := Aside0.mk (hb); have n2_ := Aside0.mk (ho); clear BK101; clear HB; clear HO_8; have BK101 := n0_; have HB := n1_; have HO115 := n2_; clear n0_ n1_ n2_; clear ho hb hg hat; have hcz62_0 : w61.cell? ⟨gb101, 0, none⟩ = some (.slice (some ad112) l0_0.length c0_0) := (blk_cell BK101.out 0).trans rfl; have hcz62_1 : w61.cell? ⟨gb101, 1, none⟩ = some (.int .i64 a0_1) := (blk_cell BK101.out 1).trans rfl; have hcz62_2 : w61.cell? ⟨gb101, 2, none⟩ = some (.int .i64 a0_2) := (blk_cell BK101.out 2).trans rfl; have hcz62_3 : w61.cell? ⟨gb101, 3, none⟩ = some (.int .i64 a0_3) := (blk_cell BK101.out 3).trans rfl; have hcz62_4 : w61.cell? ⟨gb101, 4, none⟩ = some (.int .i64 a0_4) := (blk_cell BK101.out 4).trans rfl; have hfz62_0 := blk_frozen BK101.out 0; have hfz62_1 := blk_frozen BK101.out 1; have hfz62_2 := blk_frozen BK101.out 2; have hfz62_3 := blk_frozen BK101.out 3; have hfz62_4 := blk_frozen BK101.out 4; have p116 : 0 ≤ (x10_3 : Int) := of_decide_eq_true (by first | (with_reducible assumption) | assumption); have q116 : x10_3 < (l0_0.length : Int) := of_decide_eq_true (by first | (with_reducible assumption) | assumption); obtain ⟨ad116, e116, hx116_0, hx116_1, hx116_2⟩ := at_T66 HR0_0.out x10_3 p116 q116; obtain rfl : ad112 = ad116 := (by injection e116); replace hx116_0 := (HB.out.cell (World.block_lt_of_cell? w _ hx116_0)).trans hx116_0; replace hx116_1 := (HB.out.cell (World.block_lt_of_cell? w _ hx116_1)).trans hx116_1; replace hx116_2 := (HB.out.cell (World.block_lt_of_cell? w _ hx116_2)).trans hx116_2; replace p116 := eq_true p116; replace q116 := eq_true q116; obtain ⟨Ao63, co63, eo63⟩ := Kd.R_slice HO115.out; subst eo63)))
               go_ret2
               exact ⟨by first | rfl | (simp [errW_none, errW_some] <;> rfl) | (simp [*, errW_none, errW_some] <;> rfl), by exact eS HB.out⟩
              ·rw [if_neg c59] at H
               have c59b0 : decide (a2 ≤ (wrap64 ((wrap64 ((wrap64 (x9_2 + ((rd_T66 l0_0 x10_3).f2))) - (y113.length : Int))) + 1))) = false := decide_eq_false c59
               clear c59
               have H' := Aside0.mk H
               clear H
               have hcz64_0 : wr.cell? ⟨gb101, 0, none⟩ = some (.slice A0_0 l0_0.length c0_0) := (blk_cell BK101.out 0).trans rfl
               have hcz64_1 : wr.cell? ⟨gb101, 1, none⟩ = some (.int .i64 a0_1) := (blk_cell BK101.out 1).trans rfl
               have hcz64_2 : wr.cell? ⟨gb101, 2, none⟩ = some (.int .i64 a0_2) := (blk_cell BK101.out 2).trans rfl
               have hcz64_3 : wr.cell? ⟨gb101, 3, none⟩ = some (.int .i64 a0_3) := (blk_cell BK101.out 3).trans rfl
               have hcz64_4 : wr.cell? ⟨gb101, 4, none⟩ = some (.int .i64 a0_4) := (blk_cell BK101.out 4).trans rfl
               have hfz64_0 := blk_frozen BK101.out 0
               have hfz64_1 := blk_frozen BK101.out 1
               have hfz64_2 := blk_frozen BK101.out 2
               have hfz64_3 := blk_frozen BK101.out 3
               have hfz64_4 := blk_frozen BK101.out 4
               have p112 : 0 ≤ (x10_3 : Int) := of_decide_eq_true (by first | (with_reducible assumption) | assumption)
               have q112 : x10_3 < (l0_0.length : Int) := of_decide_eq_true (by first | (with_reducible assumption) | assumption)
               obtain ⟨ad112, e112, hx112_0, hx112_1, hx112_2⟩ := at_T66 HR0_0.out x10_3 p112 q112
               cases e112
               replace hx112_0 := (HB.out.cell (World.block_lt_of_cell? w _ hx112_0)).trans hx112_0
               replace hx112_1 := (HB.out.cell (World.block_lt_of_cell? w _ hx112_1)).trans hx112_1
               replace hx112_2 := (HB.out.cell (World.block_lt_of_cell? w _ hx112_2)).trans hx112_2
               replace p112 := eq_true p112
               replace q112 := eq_true q112
               go_wp2_with (first | ((with_reducible refine gate_builtin (b := .append) (xs := #[.tmp 74, .tmp 81]) rfl ?_); at_builtin; refine Kd.R_append (Kd.int .i64) (w0 := w) w.heap.size rfl (.tmp 74) (.tmp 81) 22 3 (.int .i64 0) 8 rfl Try.underlying22 info3 rfl (by decide) (by omega) (.slice Ao21 x8_2.length co21) x8_2 ((rd_T66 l0_0 x10_3).f0) [.int .i64 ((rd_T66 l0_0 x10_3).f0)] (fun _ => True) (fun _ => False) rfl rfl ?aP (fun _ hk => hk.elim) ?aF ?aO ?aB ?aS ?aL ?_; (case aP => exact rfl); (case aB => exact (by exact eS HB.out)); (case aF => exact (fun _ _ => trivial)); (case aO => exact (by exact Ho.RS <| HO_8.out)); (case aS => exact (below_size (by exact eS HB.out))); (case aL => have := LMc58.out; omega); intro v114 w65 ho hb hg hat; rw [← Ny113.out] at ho; have n0_ := Aside0.mk (blk_grown (bS BK101.out) hg (Kd.R_ne HO_8.out BK101.out (by decide))); have n1_ := Aside0.mk (hb); have n2_ := Aside0.mk (ho); clear BK101; clear HB; clear HO_8; have BK101 := n0_; have HB := n1_; have HO115 := n2_; clear n0_ n1_ n2_; clear ho hb hg hat; have hcz66_0 : w65.cell? ⟨gb101, 0, none⟩ = some (.slice (some ad112) l0_0.length c0_0) := (blk_cell BK101.out 0).trans rfl; have hcz66_1 : w65.cell? ⟨gb101, 1, none⟩ = some (.int .i64 a0_1) := (blk_cell BK101.out 1).trans rfl; have hcz66_2 : w65.cell? ⟨gb101, 2, none⟩ = some (.int .i64 a0_2) := (blk_cell BK101.out 2).trans rfl; have hcz66_3 : w65.cell? ⟨gb101, 3, none⟩ = some (.int .i64 a0_3) := (blk_cell BK101.out 3).trans rfl; have hcz66_4 : w65.cell? ⟨gb101, 4, none⟩ = some (.int .i64 a0_4) := (blk_cell BK101.out 4).trans rfl; have hfz66_0 := blk_frozen BK101.out 0; have hfz66_1 := blk_frozen BK101.out 1; have hfz66_2 := blk_frozen BK101.out 2; have hfz66_3 := blk_frozen BK101.out 3; have hfz66_4 := blk_frozen BK101.out 4; have p116 : 0 ≤ (x10_3 : Int) := of_decide_eq_true (by first | (with_reducible assumption) | assumption); have q116 : x10_3 < (l0_0.length : Int) := of_decide_eq_true (by first | (with_reducible assumption) | assumption); obtain ⟨ad116, e116, hx116_0, hx116_1, hx116_2⟩ := at_T66 HR0_0.out x10_3 p116 q116; obtain rfl : ad112 = ad116 := (by injection e116); replace hx116_0 := (HB.out.cell (World.block_lt_of_cell? w _ hx116_0)).trans hx116_0; replace hx116_1 := (HB.out.cell (World.block_lt_of_cell? w _ hx116_1)).trans hx116_1; replace hx116_2 := (HB.out.cell (World.block_lt_of_cell? w _ hx116_2)).trans hx116_2; replace p116 := eq_true p116; replace q116 := eq_true q116; obtain ⟨Ao67, co67, eo67⟩ := Kd.R_slice HO115.out; subst eo67))
               repeat (go_quiet (first | ((with_reducible refine gate_builtin (b := .append) (xs := #[.tmp 74, .tmp 81]) rfl ?_); at_builtin; refine Kd.R_append (Kd.int .i64) (w0 := w) w.heap.size rfl (.tmp 74) (.tmp 81) 22 3 (.int .i64 0) 8 rfl Try.underlying22 info3 rfl (by decide) (by omega) (.slice Ao21 x8_2.length co21) x8_2 ((rd_T66 l0_0 x10_3).f0) [.int .i64 ((rd_T66 l0_0 x10_3).f0)] (fun _ => True) (fun _ => False) rfl rfl ?aP (fun _ hk => hk.elim) ?aF ?aO ?aB ?aS ?aL ?_; (case aP => exact rfl); (case aB => exact (by exact eS HB.out)); (case aF => exact (fun _ _ => trivial)); (case aO => exact (by exact Ho.RS <| HO_8.out)); (case aS => exact (below_size (by exact eS HB.out))); (case aL => have := LMc58.out; omega); intro v114 w65 ho hb hg hat; rw [← Ny113.out] at ho; have n0_ := Aside0.mk (blk_grown (bS BK101.out) hg (Kd.R_ne HO_8.out BK101.out (by decide))); have n1_ := Aside0.mk (hb); have n2_ := Aside0.mk (ho); clear BK101; clear HB; clear HO_8; have BK101 := n0_; have HB := n1_; have HO115 := n2_; clear n0_ n1_ n2_; clear ho hb hg hat; have hcz66_0 : w65.cell? ⟨gb101, 0, none⟩ = some (.slice (some ad112) l0_0.length c0_0) := (blk_cell BK101.out 0).trans rfl; have hcz66_1 : w65.cell? ⟨gb101, 1, none⟩ = some (.int .i64 a0_1) := (blk_cell BK101.out 1).trans rfl; have hcz66_2 : w65.cell? ⟨gb101, 2, none⟩ = some (.int .i64 a0_2) := (blk_cell BK101.out 2).trans rfl; have hcz66_3 : w65.cell? ⟨gb101, 3, none⟩ = some (.int .i64 a0_3) := (blk_cell BK101.out 3).trans rfl; have hcz66_4 : w65.cell? ⟨gb101, 4, none⟩ = some (.int .i64 a0_4) := (blk_cell BK101.out 4).trans rfl; have hfz66_0 := blk_frozen BK101.out 0; have hfz66_1 := blk_frozen BK101.out 1; have hfz66_2 := blk_frozen BK101.out 2; have hfz66_3 := blk_frozen BK101.out 3; have hfz66_4 := blk_frozen BK101.out 4; have p116 : 0 ≤ (x10_3 : Int) := of_decide_eq_true (by first | (with_reducible assumption) | assumption); have q116 : x10_3 < (l0_0.length : Int) := of_decide_eq_true (by first | (with_reducible assumption) | assumption); obtain ⟨ad116, e116, hx116_0, hx116_1, hx116_2⟩ := at_T66 HR0_0.out x10_3 p116 q116; obtain rfl : ad112 = ad116 := (by injection e116); replace hx116_0 := (HB.out.cell (World.block_lt_of_cell? w _ hx116_0)).trans hx116_0; replace hx116_1 := (HB.out.cell (World.block_lt_of_cell? w _ hx116_1)).trans hx116_1; replace hx116_2 := (HB.out.cell (World.block_lt_of_cell? w _ hx116_2)).trans hx116_2; replace p116 := eq_true p116; replace q116 := eq_true q116; obtain ⟨Ao67, co67, eo67⟩ := Kd.R_slice HO115.out; subst eo67)); try go_wp2_with (first | ((with_reducible refine gate_builtin (b := .append) (xs := #[.tmp 74, .tmp 81]) rfl ?_); at_builtin; refine Kd.R_append (Kd.int .i64) (w0 := w) w.heap.size rfl (.tmp 74) (.tmp 81) 22 3 (.int .i64 0) 8 rfl Try.underlying22 info3 rfl (by decide) (by omega) (.slice Ao21 x8_2.length co21) x8_2 ((rd_T66 l0_0 x10_3).f0) [.int .i64 ((rd_T66 l0_0 x10_3).f0)] (fun _ => True) (fun _ => False) rfl rfl ?aP (fun _ hk => hk.elim) ?aF ?aO ?aB ?aS ?aL ?_; (case aP => exact rfl); (case aB => exact (by exact eS HB.out)); (case aF => exact (fun _ _ => trivial)); (case aO => exact (by exact Ho.RS <| HO_8.out)); (case aS => exact (below_size (by exact eS HB.out))); (case aL => have := LMc58.out; omega); intro v114 w65 ho hb hg hat; rw [← Ny113.out] at ho; have n0_ := Aside0.mk (blk_grown (bS BK101.out) hg (Kd.R_ne HO_8.out BK101.out (by decide))); have n1_ := Aside0.mk (hb); have n2_ := Aside0.mk (ho); clear BK101; clear HB; clear HO_8; have BK101 := n0_; have HB := n1_; have HO115 := n2_; clear n0_ n1_ n2_; clear ho hb hg hat; have hcz66_0 : w65.cell? ⟨gb101, 0, none⟩ = some (.slice (some ad112) l0_0.length c0_0) := (blk_cell BK101.out 0).trans rfl; have hcz66_1 : w65.cell? ⟨gb101, 1, none⟩ = some (.int .i64 a0_1) := (blk_cell BK101.out 1).trans rfl; have hcz66_2 : w65.cell? ⟨gb101, 2, none⟩ = some (.int .i64 a0_2) := (blk_cell BK101.out 2).trans rfl; have hcz66_3 : w65.cell? ⟨gb101, 3, none⟩ = some (.int .i64 a0_3) := (blk_cell BK101.out 3).trans rfl; have hcz66_4 : w65.cell? ⟨gb101, 4, none⟩ = some (.int .i64 a0_4) := (blk_cell BK101.out 4).trans rfl; have hfz66_0 := blk_frozen BK101.out 0; have hfz66_1 := blk_frozen BK101.out 1; have hfz66_2 := blk_frozen BK101.out 2; have hfz66_3 := blk_frozen BK101.out 3; have hfz66_4 := blk_frozen BK101.out 4; have p116 : 0 ≤ (x10_3 : Int) := of_decide_eq_true (by first | (with_reducible assumption) | assumption); have q116 : x10_3 < (l0_0.length : Int) := of_decide_eq_true (by first | (with_reducible assumption) | assumption); obtain ⟨ad116, e116, hx116_0, hx116_1, hx116_2⟩ := at_T66 HR0_0.out x10_3 p116 q116; obtain rfl : ad112 = ad116 := (by injection e116); replace hx116_0 := (HB.out.cell (World.block_lt_of_cell? w _ hx116_0)).trans hx116_0; replace hx116_1 := (HB.out.cell (World.block_lt_of_cell? w _ hx116_1)).trans hx116_1; replace hx116_2 := (HB.out.cell (World.block_lt_of_cell? w _ hx116_2)).trans hx116_2; replace p116 := eq_true p116; replace q116 := eq_true q116; obtain ⟨Ao67, co67, eo67⟩ := Kd.R_slice HO115.out; subst eo67)))
               go_roundg k3
               case measure => have := HJ3.out; have := HK2.out; have := HK3.out; omega
               case rel => exact ⟨(y113), (wrap64 (x9_2 + ((rd_T66 l0_0 x10_3).f2))), (by first | rfl | (simp; done) | (simp [*]; done)), H', ⟨by have := HJ3.out; have := HK2.out; have := HK3.out; omega⟩, ⟨by exact Ho.RS <| HO115.out⟩, ⟨by exact bS BK101.out⟩, ⟨by exact eS HB.out⟩⟩
             ·rw [if_neg c58] at H
              exact absurd H (by simp)
            ·rw [if_neg c57] at H
             exact absurd H (by simp)
           ·rw [if_neg c56] at H
            exact absurd H (by simp)
      ·rw [if_neg c20] at H
       have c20b0 : decide ((x8_2.length : Int) < (l0_0.length : Int)) = false := decide_eq_false c20
       have c20b1 : decide (x8_2.length < l0_0.length) = false := decide_eq_false (fun h => c20 (Int.ofNat_lt.mpr h))
       clear c20
       simp only [Option.some.injEq, Prod.mk.injEq] at H
       obtain ⟨rfl, rfl⟩ := H
       obtain ⟨Ao68, co68, eo68⟩ := Kd.R_slice HO_8.out
       subst eo68
       have hcz69_0 : wr.cell? ⟨gb101, 0, none⟩ = some (.slice A0_0 l0_0.length c0_0) := (blk_cell BK101.out 0).trans rfl
       have hcz69_1 : wr.cell? ⟨gb101, 1, none⟩ = some (.int .i64 a0_1) := (blk_cell BK101.out 1).trans rfl
       have hcz69_2 : wr.cell? ⟨gb101, 2, none⟩ = some (.int .i64 a0_2) := (blk_cell BK101.out 2).trans rfl
       have hcz69_3 : wr.cell? ⟨gb101, 3, none⟩ = some (.int .i64 a0_3) := (blk_cell BK101.out 3).trans rfl
       have hcz69_4 : wr.cell? ⟨gb101, 4, none⟩ = some (.int .i64 a0_4) := (blk_cell BK101.out 4).trans rfl
       have hfz69_0 := blk_frozen BK101.out 0
       have hfz69_1 := blk_frozen BK101.out 1
       have hfz69_2 := blk_frozen BK101.out 2
       have hfz69_3 := blk_frozen BK101.out 3
       have hfz69_4 := blk_frozen BK101.out 4
       go_wp2
       repeat (go_quiet (fail); try go_wp2)
       go_ret2
       exact ⟨by first | rfl | (simp [errW_none, errW_some] <;> rfl) | (simp [*, errW_none, errW_some] <;> rfl), by exact eS HB.out⟩

end Go.Proofs.Ytiomfignokichaa.X

-- XlawsFnExactTiesForF9
namespace Go.Proofs.Ytiomfignokichaa.X
open Ho (bS eS)
open Go.RowKit Go.Proofs.YtiomfignokichaaW.PrintWords Go.Proofs.YtiomfignokichaaW.PrintLast Go.Proofs.YtiomfignokichaaW.PrintMore
attribute [local go_sem] max2_int min2_int max_two min_two max_three min_three max_four min_four   -- for this text's walks alone
set_option linter.unusedVariables false
set_option linter.unusedSimpArgs false

attribute [local go_sem ↓] Ho.isSome_setCell_   -- a store leaves all places there
/-! ### laws_FnExactTiesFor: function 9 -/
def laws_FnExactTiesFor.j0 : Nat → Bool → List (S82) → Int → Int → Int → Int → List (S66) → Int → Int → Int → Int → Option (Bool)
  | 0, _, _, _, _, _, _, _, _, _, _, _ => none
  | k + 1, x42, x102000, x102001, x102002, x102003, x102004, x120000, x120001, x120002, x120003, x120004 => if x42 = true then (some false) else ((laws_toYarnStore.f k x102000 x102001 x102002 x102003 x102004).bind fun bt122 => ((laws_eqYarnStore.f k x120000 x120001 x120002 x120003 x120004 bt122.1 bt122.2.1 bt122.2.2.1 bt122.2.2.2.1 bt122.2.2.2.2).bind fun t129 => (if t129 = true then (some true) else (some false))))
def laws_FnExactTiesFor.f (k : Nat) (l0_0 : List (S82)) (a0_1 : Int) (a0_2 : Int) (a0_3 : Int) (a0_4 : Int) (a1 : Int) (a2 : Int) : Option (Bool) := (laws_szYarnStore.f l0_0 a0_1 a0_2 a0_3 a0_4 1048576).bind fun t102 => (if t102 < 0 then (some true) else ((laws_toYarnStore.f k l0_0 a0_1 a0_2 a0_3 a0_4).bind fun bt103 => ((spec_TiesFor.f k bt103.1 bt103.2.1 bt103.2.2.1 bt103.2.2.2.1 bt103.2.2.2.2 a1 a2).bind fun bt110 => ((laws_toYarnStore.f k l0_0 a0_1 a0_2 a0_3 a0_4).bind fun bt112 => ((impl_TiesFor.f k bt112.1 bt112.2.1 bt112.2.2.1 bt112.2.2.2.1 bt112.2.2.2.2 a1 a2).bind fun bt120 => (if bt120.1 = bt110.1 then (laws_FnExactTiesFor.j0 k (bt120.2 != bt110.2) l0_0 a0_1 a0_2 a0_3 a0_4 bt112.1 bt112.2.1 bt112.2.2.1 bt112.2.2.2.1 bt112.2.2.2.2) else (laws_FnExactTiesFor.j0 k true l0_0 a0_1 a0_2 a0_3 a0_4 bt112.1 bt112.2.1 bt112.2.2.1 bt112.2.2.2.1 bt112.2.2.2.2)))))))
theorem laws_FnExactTiesFor.mono_l : ∀ k, (∀ y0 y1 y2 y3 y4 y5 y6 y7 y8 y9 y10, LeO (laws_FnExactTiesFor.j0 k y0 y1 y2 y3 y4 y5 y6 y7 y8 y9 y10) (laws_FnExactTiesFor.j0 (k + 1) y0 y1 y2 y3 y4 y5 y6 y7 y8 y9 y10))
  | 0 => fun _ _ _ _ _ _ _ _ _ _ _ r h => by simp [laws_FnExactTiesFor.j0] at h
  | k + 1 => by
    have ih0 := laws_FnExactTiesFor.mono_l k
    · intro y0 y1 y2 y3 y4 y5 y6 y7 y8 y9 y10
      unfold laws_FnExactTiesFor.j0
      repeat' first
      | (with_reducible exact ih0 _ _ _ _ _ _ _ _ _ _ _)
      | (with_reducible exact impl_TiesFor.mono _ _ _ _ _ _ _ _)
      | (with_reducible exact laws_eqYarnStore.mono _ _ _ _ _ _ _ _ _ _ _)
      | (with_reducible exact laws_toYarnStore.mono _ _ _ _ _ _)
      | (with_reducible exact spec_TiesFor.mono _ _ _ _ _ _ _ _)
      | (with_reducible exact LeO.refl _)
      | (with_reducible exact LeO.none _)
      | (with_reducible refine LeO.ite ?_ ?_)
      | (with_reducible refine LeO.bind ?_ (fun _ => ?_))
      | exact ih0 _ _ _ _ _ _ _ _ _ _ _
      | exact impl_TiesFor.mono _ _ _ _ _ _ _ _
      | exact laws_eqYarnStore.mono _ _ _ _ _ _ _ _ _ _ _
      | exact laws_toYarnStore.mono _ _ _ _ _ _
      | exact spec_TiesFor.mono _ _ _ _ _ _ _ _
      | exact LeO.none _
      | refine LeO.ite ?_ ?_
      | refine LeO.bind ?_ (fun _ => ?_)
theorem laws_FnExactTiesFor.mono : ∀ a0 a1 a2 a3 a4 a5 a6 k, LeO (laws_FnExactTiesFor.f k a0 a1 a2 a3 a4 a5 a6) (laws_FnExactTiesFor.f (k + 1) a0 a1 a2 a3 a4 a5 a6) := by
  intro a0 a1 a2 a3 a4 a5 a6 k
  have ih0 := laws_FnExactTiesFor.mono_l k
  unfold laws_FnExactTiesFor.f
  repeat' first
      | (with_reducible exact ih0 _ _ _ _ _ _ _ _ _ _ _)
      | (with_reducible exact impl_TiesFor.mono _ _ _ _ _ _ _ _)
      | (with_reducible exact laws_eqYarnStore.mono _ _ _ _ _ _ _ _ _ _ _)
      | (with_reducible exact laws_toYarnStore.mono _ _ _ _ _ _)
      | (with_reducible exact spec_TiesFor.mono _ _ _ _ _ _ _ _)
      | (with_reducible exact LeO.refl _)
      | (with_reducible exact LeO.none _)
      | (with_reducible refine LeO.ite ?_ ?_)
      | (with_reducible refine LeO.bind ?_ (fun _ => ?_))
      | exact ih0 _ _ _ _ _ _ _ _ _ _ _
      | exact impl_TiesFor.mono _ _ _ _ _ _ _ _
      | exact laws_eqYarnStore.mono _ _ _ _ _ _ _ _ _ _ _
      | exact laws_toYarnStore.mono _ _ _ _ _ _
      | exact spec_TiesFor.mono _ _ _ _ _ _ _ _
      | exact LeO.none _
      | refine LeO.ite ?_ ?_
      | refine LeO.bind ?_ (fun _ => ?_)
set_option maxHeartbeats 8000000 in
set_option maxRecDepth 100000 in
theorem laws_FnExactTiesFor.calls (k : Nat) (A0_0 : Option Addr) (c0_0 : Nat) (l0_0 : List (S82)) (a0_1 : Int) (a0_2 : Int) (a0_3 : Int) (a0_4 : Int) (a1 : Int) (a2 : Int) (r : Bool) (w : World) (hr0_0 : Kd.C k82 w A0_0 l0_0.length l0_0) (hc0_0 : l0_0.length ≤ c0_0) (ht : r = true) (h : laws_FnExactTiesFor.f k l0_0 a0_1 a0_2 a0_3 a0_4 a1 a2 = some r) :
    Calls Try.prog 9 #[.agg #[.slice A0_0 l0_0.length c0_0, .int .i64 a0_1, .int .i64 a0_2, .int .i64 a0_3, .int .i64 a0_4], .int .i64 a1, .int .i64 a2] w fun e w' => e = .returned (.bool r) ∧ Below w.heap.size w w' := by
  have hu45 := Try.underlying45
  have hu37 := Try.underlying37
  have HR0_0 := Aside0.mk hr0_0
  have HC0_0 := Aside0.mk hc0_0
  clear hr0_0 hc0_0
  have HB := Aside0.mk (Below.refl w.heap.size w)
  have HT := Aside0.mk ht
  clear ht
  have H : ((laws_szYarnStore.f l0_0 a0_1 a0_2 a0_3 a0_4 1048576).bind fun t102 => (if t102 < 0 then (some true) else ((laws_toYarnStore.f k l0_0 a0_1 a0_2 a0_3 a0_4).bind fun bt103 => ((spec_TiesFor.f k bt103.1 bt103.2.1 bt103.2.2.1 bt103.2.2.2.1 bt103.2.2.2.2 a1 a2).bind fun bt110 => ((laws_toYarnStore.f k l0_0 a0_1 a0_2 a0_3 a0_4).bind fun bt112 => ((impl_TiesFor.f k bt112.1 bt112.2.1 bt112.2.2.1 bt112.2.2.2.1 bt112.2.2.2.2 a1 a2).bind fun bt120 => (if bt120.1 = bt110.1 then (laws_FnExactTiesFor.j0 k (bt120.2 != bt110.2) l0_0 a0_1 a0_2 a0_3 a0_4 bt112.1 bt112.2.1 bt112.2.2.1 bt112.2.2.2.1 bt112.2.2.2.2) else (laws_FnExactTiesFor.j0 k true l0_0 a0_1 a0_2 a0_3 a0_4 bt112.1 bt112.2.1 bt112.2.2.1 bt112.2.2.2.1 bt112.2.2.2.2)))))))) = some r := h
  clear h
  replace H := Option.bind_eq_some_iff.mp H
  obtain ⟨t102, A40, H⟩ := H
  replace H : (if t102 < 0 then (some true) else ((laws_toYarnStore.f k l0_0 a0_1 a0_2 a0_3 a0_4).bind fun bt103 => ((spec_TiesFor.f k bt103.1 bt103.2.1 bt103.2.2.1 bt103.2.2.2.1 bt103.2.2.2.2 a1 a2).bind fun bt110 => ((laws_toYarnStore.f k l0_0 a0_1 a0_2 a0_3 a0_4).bind fun bt112 => ((impl_TiesFor.f k bt112.1 bt112.2.1 bt112.2.2.1 bt112.2.2.2.1 bt112.2.2.2.2 a1 a2).bind fun bt120 => (if bt120.1 = bt110.1 then (laws_FnExactTiesFor.j0 k (bt120.2 != bt110.2) l0_0 a0_1 a0_2 a0_3 a0_4 bt112.1 bt112.2.1 bt112.2.2.1 bt112.2.2.2.1 bt112.2.2.2.2) else (laws_FnExactTiesFor.j0 k true l0_0 a0_1 a0_2 a0_3 a0_4 bt112.1 bt112.2.1 bt112.2.2.1 bt112.2.2.2.1 bt112.2.2.2.2))))))) = some r := H
  have A4 := Aside0.mk A40
  clear A40
  by_cases c5 : t102 < 0
  · rw [if_pos c5] at H
    have c5b0 : decide (t102 < 0) = true := decide_eq_true c5
    clear c5
    obtain rfl := Option.some.inj H
    go_enter Try.func9, Try.ntmps9
    go_wp2_with (first | ((with_reducible refine gate_dst (N := 3) rfl ?_); refine box_event ?hg (N := 3) ?hd (cs := #[.slice A0_0 l0_0.length c0_0, .int .i64 a0_1, .int .i64 a0_2, .int .i64 a0_3, .int .i64 a0_4]) (t := 45) ?hr ?_; (case hd => rfl); (case hg => rfl); (case hr => first | (go_simp; done) | (go_simp; rfl)); intro gb101 hg w6 hbox hb; have n0_ := Aside0.mk (below_step (by exact eS HB.out) hb); have n1_ := Aside0.mk (hbox); have n2_ := Aside0.mk ((by rw [hg]; exact (below_size (by exact eS HB.out)) : w.heap.size ≤ gb101)); have n3_ := Aside0.mk ((by rw [hg]; exact (below_size (by exact eS HB.out)) : w.heap.size ≤ gb101)); clear HB; have HB := n0_; have BK101 := n1_; have GW101 := n2_; have GE101 := n3_; clear n0_ n1_ n2_ n3_; clear hb hbox hg; have hcz7_0 : w6.cell? ⟨gb101, 0, none⟩ = some (.slice A0_0 l0_0.length c0_0) := (blk_cell BK101.out 0).trans rfl; have hcz7_1 : w6.cell? ⟨gb101, 1, none⟩ = some (.int .i64 a0_1) := (blk_cell BK101.out 1).trans rfl; have hcz7_2 : w6.cell? ⟨gb101, 2, none⟩ = some (.int .i64 a0_2) := (blk_cell BK101.out 2).trans rfl; have hcz7_3 : w6.cell? ⟨gb101, 3, none⟩ = some (.int .i64 a0_3) := (blk_cell BK101.out 3).trans rfl; have hcz7_4 : w6.cell? ⟨gb101, 4, none⟩ = some (.int .i64 a0_4) := (blk_cell BK101.out 4).trans rfl; have hfz7_0 := blk_frozen BK101.out 0; have hfz7_1 := blk_frozen BK101.out 1; have hfz7_2 := blk_frozen BK101.out 2; have hfz7_3 := blk_frozen BK101.out 3; have hfz7_4 := blk_frozen BK101.out 4) | ((with_reducible refine gate_callee (f := 24) rfl ?_); refine goesL_ (some 15) rfl rfl Try.func24 (by kernel_rfl) rfl #[.agg #[.slice A0_0 l0_0.length c0_0, .int .i64 a0_1, .int .i64 a0_2, .int .i64 a0_3, .int .i64 a0_4], .int .i64 1048576] rfl (by (try simp only [List.map_toArray, List.map_cons, List.map_nil]); first | done | rfl | (simp only [List.length_drop, List.length_take]; rfl)) ?_; (with_reducible refine (laws_szYarnStore.calls _ _ l0_0 a0_1 a0_2 a0_3 a0_4 1048576 t102 _ ?side1 ?side2 A4.out).mono ?_); (case side1 => repeat (first | exact (Kd.C_below HR0_0.out HB.out) | (with_reducible refine Kd.C_alloc ?_ _) | (with_reducible refine Kd.C_drewN ?_ _) | (with_reducible refine Kd.C_drew ?_))); (case side2 => exact HC0_0.out); rintro e w8 ⟨rfl, hb⟩; refine ⟨_, rfl, ?_⟩; have n0_ := Aside0.mk (blk_below (bS BK101.out) hb); have n1_ := Aside0.mk (below_step (by exact eS HB.out) hb); clear BK101; clear HB; have BK101 := n0_; have HB := n1_; clear n0_ n1_; (try clear hb); (try clear hb2); (try clear hk); (try clear hi)))
    go_ret
    exact ⟨by first | rfl | (simp [errW_none, errW_some] <;> rfl) | (simp [*, errW_none, errW_some] <;> rfl), by exact eS HB.out⟩
  · rw [if_neg c5] at H
    have c5b0 : decide (t102 < 0) = false := decide_eq_false c5
    clear c5
    replace H := Option.bind_eq_some_iff.mp H
    obtain ⟨⟨t103, t106, t107, t108, t109⟩, A90, H⟩ := H
    replace H : ((spec_TiesFor.f k t103 t106 t107 t108 t109 a1 a2).bind fun bt110 => ((laws_toYarnStore.f k l0_0 a0_1 a0_2 a0_3 a0_4).bind fun bt112 => ((impl_TiesFor.f k bt112.1 bt112.2.1 bt112.2.2.1 bt112.2.2.2.1 bt112.2.2.2.2 a1 a2).bind fun bt120 => (if bt120.1 = bt110.1 then (laws_FnExactTiesFor.j0 k (bt120.2 != bt110.2) l0_0 a0_1 a0_2 a0_3 a0_4 bt112.1 bt112.2.1 bt112.2.2.1 bt112.2.2.2.1 bt112.2.2.2.2) else (laws_FnExactTiesFor.j0 k true l0_0 a0_1 a0_2 a0_3 a0_4 bt112.1 bt112.2.1 bt112.2.2.1 bt112.2.2.2.1 bt112.2.2.2.2))))) = some r := H
    have A9 := Aside0.mk A90
    clear A90
    replace H := Option.bind_eq_some_iff.mp H
    obtain ⟨⟨t110, t111⟩, A100, H⟩ := H
    replace H : ((laws_toYarnStore.f k l0_0 a0_1 a0_2 a0_3 a0_4).bind fun bt112 => ((impl_TiesFor.f k bt112.1 bt112.2.1 bt112.2.2.1 bt112.2.2.2.1 bt112.2.2.2.2 a1 a2).bind fun bt120 => (if bt120.1 = t110 then (laws_FnExactTiesFor.j0 k (bt120.2 != t111) l0_0 a0_1 a0_2 a0_3 a0_4 bt112.1 bt112.2.1 bt112.2.2.1 bt112.2.2.2.1 bt112.2.2.2.2) else (laws_FnExactTiesFor.j0 k true l0_0 a0_1 a0_2 a0_3 a0_4 bt112.1 bt112.2.1 bt112.2.2.1 bt112.2.2.2.1 bt112.2.2.2.2)))) = some r := H
    have A10 := Aside0.mk A100
    clear A100
    replace H := Option.bind_eq_some_iff.mp H
    obtain ⟨⟨t112, t115, t116, t117, t118⟩, A110, H⟩ := H
    replace H : ((impl_TiesFor.f k t112 t115 t116 t117 t118 a1 a2).bind fun bt120 => (if bt120.1 = t110 then (laws_FnExactTiesFor.j0 k (bt120.2 != t111) l0_0 a0_1 a0_2 a0_3 a0_4 t112 t115 t116 t117 t118) else (laws_FnExactTiesFor.j0 k true l0_0 a0_1 a0_2 a0_3 a0_4 t112 t115 t116 t117 t118))) = some r := H
    have A11 := Aside0.mk A110
    clear A110
    replace H := Option.bind_eq_some_iff.mp H
    obtain ⟨⟨t120, t121⟩, A120, H⟩ := H
    replace H : (if t120 = t110 then (laws_FnExactTiesFor.j0 k (t121 != t111) l0_0 a0_1 a0_2 a0_3 a0_4 t112 t115 t116 t117 t118) else (laws_FnExactTiesFor.j0 k true l0_0 a0_1 a0_2 a0_3 a0_4 t112 t115 t116 t117 t118)) = some r := H
    have A12 := Aside0.mk A120
    clear A120
    have HC13 := Aside0.mk H
    clear H
    go_enter Try.func9, Try.ntmps9
    go_upto_region 8 with (first | ((with_reducible refine gate_dst (N := 3) rfl ?_); refine box_event ?hg (N := 3) ?hd (cs := #[.slice A0_0 l0_0.length c0_0, .int .i64 a0_1, .int .i64 a0_2, .int .i64 a0_3, .int .i64 a0_4]) (t := 45) ?hr ?_; (case hd => rfl); (case hg => rfl); (case hr => first | (go_simp; done) | (go_simp; rfl)); intro gb101 hg w14 hbox hb; have n0_ := Aside0.mk (below_step (by exact eS HB.out) hb); have n1_ := Aside0.mk (hbox); have n2_ := Aside0.mk ((by rw [hg]; exact (below_size (by exact eS HB.out)) : w.heap.size ≤ gb101)); have n3_ := Aside0.mk ((by rw [hg]; exact (below_size (by exact eS HB.out)) : w.heap.size ≤ gb101)); clear HB; have HB := n0_; have BK101 := n1_; have GW101 := n2_; have GE101 := n3_; clear n0_ n1_ n2_ n3_; clear hb hbox hg; have hcz15_0 : w14.cell? ⟨gb101, 0, none⟩ = some (.slice A0_0 l0_0.length c0_0) := (blk_cell BK101.out 0).trans rfl; have hcz15_1 : w14.cell? ⟨gb101, 1, none⟩ = some (.int .i64 a0_1) := (blk_cell BK101.out 1).trans rfl; have hcz15_2 : w14.cell? ⟨gb101, 2, none⟩ = some (.int .i64 a0_2) := (blk_cell BK101.out 2).trans rfl; have hcz15_3 : w14.cell? ⟨gb101, 3, none⟩ = some (.int .i64 a0_3) := (blk_cell BK101.out 3).trans rfl; have hcz15_4 : w14.cell? ⟨gb101, 4, none⟩ = some (.int .i64 a0_4) := (blk_cell BK101.out 4).trans rfl; have hfz15_0 := blk_frozen BK101.out 0; have hfz15_1 := blk_frozen BK101.out 1; have hfz15_2 := blk_frozen BK101.out 2; have hfz15_3 := blk_frozen BK101.out 3; have hfz15_4 := blk_frozen BK101.out 4) | ((with_reducible refine gate_callee (f := 24) rfl ?_); refine goesL_ (some 15) rfl rfl Try.func24 (by kernel_rfl) rfl #[.agg #[.slice A0_0 l0_0.length c0_0, .int .i64 a0_1, .int .i64 a0_2, .int .i64 a0_3, .int .i64 a0_4], .int .i64 1048576] rfl (by (try simp only [List.map_toArray, List.map_cons, List.map_nil]); first | done | rfl | (simp only [List.length_drop, List.length_take]; rfl)) ?_; (with_reducible refine (laws_szYarnStore.calls _ _ l0_0 a0_1 a0_2 a0_3 a0_4 1048576 t102 _ ?side1 ?side2 A4.out).mono ?_); (case side1 => repeat (first | exact (Kd.C_below HR0_0.out HB.out) | (with_reducible refine Kd.C_alloc ?_ _) | (with_reducible refine Kd.C_drewN ?_ _) | (with_reducible refine Kd.C_drew ?_))); (case side2 => exact HC0_0.out); rintro e w16 ⟨rfl, hb⟩; refine ⟨_, rfl, ?_⟩; have n0_ := Aside0.mk (blk_below (bS BK101.out) hb); have n1_ := Aside0.mk (below_step (by exact eS HB.out) hb); clear BK101; clear HB; have BK101 := n0_; have HB := n1_; clear n0_ n1_; (try clear hb); (try clear hb2); (try clear hk); (try clear hi); have hcz17_0 : w16.cell? ⟨gb101, 0, none⟩ = some (.slice A0_0 l0_0.length c0_0) := (blk_cell BK101.out 0).trans rfl; have hcz17_1 : w16.cell? ⟨gb101, 1, none⟩ = some (.int .i64 a0_1) := (blk_cell BK101.out 1).trans rfl; have hcz17_2 : w16.cell? ⟨gb101, 2, none⟩ = some (.int .i64 a0_2) := (blk_cell BK101.out 2).trans rfl; have hcz17_3 : w16.cell? ⟨gb101, 3, none⟩ = some (.int .i64 a0_3) := (blk_cell BK101.out 3).trans rfl; have hcz17_4 : w16.cell? ⟨gb101, 4, none⟩ = some (.int .i64 a0_4) := (blk_cell BK101.out 4).trans rfl; have hfz17_0 := blk_frozen BK101.out 0; have hfz17_1 := blk_frozen BK101.out 1; have hfz17_2 := blk_frozen BK101.out 2; have hfz17_3 := blk_frozen BK101.out 3; have hfz17_4 := blk_frozen BK101.out 4) | ((with_reducible refine gate_callee (f := 26) rfl ?_); refine goesL_ (some 20) rfl rfl Try.func26 (by kernel_rfl) rfl #[.agg #[.slice A0_0 l0_0.length c0_0, .int .i64 a0_1, .int .i64 a0_2, .int .i64 a0_3, .int .i64 a0_4]] rfl (by (try simp only [List.map_toArray, List.map_cons, List.map_nil]); first | done | rfl | (simp only [List.length_drop, List.length_take]; rfl)) ?_; (with_reducible refine (laws_toYarnStore.calls k _ _ l0_0 a0_1 a0_2 a0_3 a0_4 t103 t106 t107 t108 t109 _ ?side1 ?side2 A9.out).mono ?_); (case side1 => repeat (first | exact (Kd.C_below HR0_0.out HB.out) | (with_reducible refine Kd.C_alloc ?_ _) | (with_reducible refine Kd.C_drewN ?_ _) | (with_reducible refine Kd.C_drew ?_))); (case side2 => exact HC0_0.out); rintro e w18 ⟨v104, rfl, ho0, hb⟩; refine ⟨_, rfl, ?_⟩; have n0_ := Aside0.mk (Kd.R_lower ho0 (below_size (by exact eS HB.out))); have n1_ := Aside0.mk (blk_below (bS BK101.out) hb); have n2_ := Aside0.mk (below_step (by exact eS HB.out) hb); clear BK101; clear HB; have HO105 := n0_; have BK101 := n1_; have HB := n2_; clear n0_ n1_ n2_; (try clear hb); (try clear hb2); (try clear hk); (try clear hi); (try clear ho0); obtain ⟨Ao19, co19, eo19⟩ := Kd.R_slice HO105.out; subst eo19) | ((with_reducible refine gate_callee (f := 32) rfl ?_); refine goesL_ (some 23) rfl rfl Try.func32 (by kernel_rfl) rfl #[.agg #[.slice Ao19 t103.length co19, .int .i64 t106, .int .i64 t107, .int .i64 t108, .int .i64 t109], .int .i64 a1, .int .i64 a2] rfl (by (try simp only [List.map_toArray, List.map_cons, List.map_nil]); first | done | rfl | (simp only [List.length_drop, List.length_take]; rfl)) ?_; (with_reducible refine (spec_TiesFor.calls k _ _ t103 t106 t107 t108 t109 a1 a2 t110 t111 _ ?side1 ?side2 A10.out).mono ?_); (case side1 => repeat (first | exact (Kd.R_reads' HO105.out).2.2 | (with_reducible refine Kd.C_alloc ?_ _) | (with_reducible refine Kd.C_drewN ?_ _) | (with_reducible refine Kd.C_drew ?_))); (case side2 => exact (Kd.R_reads' HO105.out).2.1); rintro e w20 ⟨rfl, hb⟩; refine ⟨_, rfl, ?_⟩; have n0_ := Aside0.mk (Kd.R_below (by exact Ho.RS <| HO105.out) hb); have n1_ := Aside0.mk (blk_below (bS BK101.out) hb); have n2_ := Aside0.mk (below_step (by exact eS HB.out) hb); clear HO105; clear BK101; clear HB; have HO105 := n0_; have BK101 := n1_; have HB := n2_; clear n0_ n1_ n2_; (try clear hb); (try clear hb2); (try clear hk); (try clear hi); have hcz21_0 : w20.cell? ⟨gb101, 0, none⟩ = some (.slice A0_0 l0_0.length c0_0) := (blk_cell BK101.out 0).trans rfl; have hcz21_1 : w20.cell? ⟨gb101, 1, none⟩ = some (.int .i64 a0_1) := (blk_cell BK101.out 1).trans rfl; have hcz21_2 : w20.cell? ⟨gb101, 2, none⟩ = some (.int .i64 a0_2) := (blk_cell BK101.out 2).trans rfl; have hcz21_3 : w20.cell? ⟨gb101, 3, none⟩ = some (.int .i64 a0_3) := (blk_cell BK101.out 3).trans rfl; have hcz21_4 : w20.cell? ⟨gb101, 4, none⟩ = some (.int .i64 a0_4) := (blk_cell BK101.out 4).trans rfl; have hfz21_0 := blk_frozen BK101.out 0; have hfz21_1 := blk_frozen BK101.out 1; have hfz21_2 := blk_frozen BK101.out 2; have hfz21_3 := blk_frozen BK101.out 3; have hfz21_4 := blk_frozen BK101.out 4) | ((with_reducible refine gate_callee (f := 26) rfl ?_); refine goesL_ (some 27) rfl rfl Try.func26 (by kernel_rfl) rfl #[.agg #[.slice A0_0 l0_0.length c0_0, .int .i64 a0_1, .int .i64 a0_2, .int .i64 a0_3, .int .i64 a0_4]] rfl (by (try simp only [List.map_toArray, List.map_cons, List.map_nil]); first | done | rfl | (simp only [List.length_drop, List.length_take]; rfl)) ?_; (with_reducible refine (laws_toYarnStore.calls k _ _ l0_0 a0_1 a0_2 a0_3 a0_4 t112 t115 t116 t117 t118 _ ?side1 ?side2 A11.out).mono ?_); (case side1 => repeat (first | exact (Kd.C_below HR0_0.out HB.out) | (with_reducible refine Kd.C_alloc ?_ _) | (with_reducible refine Kd.C_drewN ?_ _) | (with_reducible refine Kd.C_drew ?_))); (case side2 => exact HC0_0.out); rintro e w22 ⟨v113, rfl, ho0, hb⟩; refine ⟨_, rfl, ?_⟩; have n0_ := Aside0.mk (Kd.R_elder' (by exact Ho.RS <| HO105.out) (Kd.R_base ho0) hb); have n1_ := Aside0.mk (Kd.R_lower (Kd.R_new' ho0 (Kd.R_lt (by exact Ho.RS <| HO105.out))) (below_size (by exact eS HB.out))); have n2_ := Aside0.mk (blk_below (bS BK101.out) hb); have n3_ := Aside0.mk (below_step (by exact eS HB.out) hb); clear HO105; clear BK101; clear HB; have HO105 := n0_; have HO114 := n1_; have BK101 := n2_; have HB := n3_; clear n0_ n1_ n2_ n3_; (try clear hb); (try clear hb2); (try clear hk); (try clear hi); (try clear ho0)) | ((with_reducible refine gate_dst (N := 10) rfl ?_); refine box_event ?hg (N := 10) ?hd (cs := #[.slice none 0 0, .int .i64 0, .int .i64 0, .int .i64 0, .int .i64 0]) (t := 37) ?hr ?_; (case hd => rfl); (case hg => rfl); (case hr => first | (go_simp; done) | (go_simp; rfl)); intro gb119 hg w23 hbox hb; have n0_ := Aside0.mk (Kd.R_below (by exact Ho.RS <| HO105.out) hb); have n1_ := Aside0.mk (Kd.R_below (by exact Ho.RS <| HO114.out) hb); have n2_ := Aside0.mk (blk_below (bS BK101.out) hb); have n3_ := Aside0.mk (below_step (by exact eS HB.out) hb); have n4_ := Aside0.mk (hbox); have n5_ := Aside0.mk ((by rw [hg]; exact (below_size (by exact eS HB.out)) : w.heap.size ≤ gb119)); have n6_ := Aside0.mk ((by rw [hg]; exact (below_size (by exact eS HB.out)) : w.heap.size ≤ gb119)); have n7_ := Aside0.mk ((by rw [hg]; exact Nat.ne_of_lt (blk_lt (bS BK101.out)) : gb101 ≠ gb119)); have n8_ := Aside0.mk ((by rw [hg]; exact Nat.ne_of_gt (blk_lt (bS BK101.out)) : gb119 ≠ gb101)); clear HO105; clear HO114; clear BK101; clear HB; have HO105 := n0_; have HO114 := n1_; have BK101 := n2_; have HB := n3_; have BK119 := n4_; have GW119 := n5_; have GE119 := n6_; have NB101_119 := n7_; have NB119_101 := n8_; clear n0_ n1_ n2_ n3_ n4_ n5_ n6_ n7_ n8_; clear hb hbox hg; obtain ⟨Ao24, co24, eo24⟩ := Kd.R_slice HO114.out; subst eo24; have hnb25 := NB119_101.out; have hnc25 := NB101_119.out; have hcz26_0 : w23.cell? ⟨gb119, 0, none⟩ = some (.slice none 0 0) := (blk_cell BK119.out 0).trans rfl; have hcz26_1 : w23.cell? ⟨gb119, 1, none⟩ = some (.int .i64 0) := (blk_cell BK119.out 1).trans rfl; have hcz26_2 : w23.cell? ⟨gb119, 2, none⟩ = some (.int .i64 0) := (blk_cell BK119.out 2).trans rfl; have hcz26_3 : w23.cell? ⟨gb119, 3, none⟩ = some (.int .i64 0) := (blk_cell BK119.out 3).trans rfl; have hcz26_4 : w23.cell? ⟨gb119, 4, none⟩ = some (.int .i64 0) := (blk_cell BK119.out 4).trans rfl; have hfz26_0 := blk_frozen BK119.out 0; have hfz26_1 := blk_frozen BK119.out 1; have hfz26_2 := blk_frozen BK119.out 2; have hfz26_3 := blk_frozen BK119.out 3; have hfz26_4 := blk_frozen BK119.out 4) | ((with_reducible refine gate_callee (f := 33) rfl ?_); refine goesL_ (some 32) rfl rfl Try.func33 (by kernel_rfl) rfl #[.agg #[.slice Ao24 t112.length co24, .int .i64 t115, .int .i64 t116, .int .i64 t117, .int .i64 t118], .int .i64 a1, .int .i64 a2] rfl (by (try simp only [List.map_toArray, List.map_cons, List.map_nil]); first | done | rfl | (simp only [List.length_drop, List.length_take]; rfl)) ?_; (with_reducible refine (impl_TiesFor.calls k _ _ t112 t115 t116 t117 t118 a1 a2 t120 t121 _ ?side1 ?side2 A12.out).mono ?_); (case side1 => refine (Kd.R_reads' (e := 66) (base := w.heap.size) (ok := fun k_ => (True ∧ some k_ ≠ (.slice Ao19 t103.length co19 : Value).ownBlock)) (n := t112.length) (c := co24) ?_).2.2; exact (by exact Ho.RS <| (Kd.R_mono (Kd.R_far (p := ⟨gb119, 4, none⟩) (Kd.R_far (p := ⟨gb119, 3, none⟩) (Kd.R_far (p := ⟨gb119, 2, none⟩) (Kd.R_far (p := ⟨gb119, 1, none⟩) (Kd.R_far (p := ⟨gb119, 0, none⟩) (Kd.R_types HO114.out BK119.out (by decide)) (fun _ hk => hk.2) (.slice Ao24 t112.length co24)) (fun _ hk => hk.2) (.int .i64 t115)) (fun _ hk => hk.2) (.int .i64 t116)) (fun _ hk => hk.2) (.int .i64 t117)) (fun _ hk => hk.2) (.int .i64 t118)) (fun _ h_ => h_.1)))); (case side2 => exact (Kd.R_reads' HO114.out).2.1); rintro e w27 ⟨rfl, hb⟩; refine ⟨_, rfl, ?_⟩; have n0_ := Aside0.mk (Kd.R_below (by exact Ho.RS <| (Kd.R_mono (Kd.R_far (p := ⟨gb119, 4, none⟩) (Kd.R_far (p := ⟨gb119, 3, none⟩) (Kd.R_far (p := ⟨gb119, 2, none⟩) (Kd.R_far (p := ⟨gb119, 1, none⟩) (Kd.R_far (p := ⟨gb119, 0, none⟩) (Kd.R_types HO105.out BK119.out (by decide)) (fun _ hk => hk.2) (.slice Ao24 t112.length co24)) (fun _ hk => hk.2) (.int .i64 t115)) (fun _ hk => hk.2) (.int .i64 t116)) (fun _ hk => hk.2) (.int .i64 t117)) (fun _ hk => hk.2) (.int .i64 t118)) (fun _ h_ => h_.1))) hb); have n1_ := Aside0.mk (Kd.R_below (by exact Ho.RS <| (Kd.R_mono (Kd.R_far (p := ⟨gb119, 4, none⟩) (Kd.R_far (p := ⟨gb119, 3, none⟩) (Kd.R_far (p := ⟨gb119, 2, none⟩) (Kd.R_far (p := ⟨gb119, 1, none⟩) (Kd.R_far (p := ⟨gb119, 0, none⟩) (Kd.R_types HO114.out BK119.out (by decide)) (fun _ hk => hk.2) (.slice Ao24 t112.length co24)) (fun _ hk => hk.2) (.int .i64 t115)) (fun _ hk => hk.2) (.int .i64 t116)) (fun _ hk => hk.2) (.int .i64 t117)) (fun _ hk => hk.2) (.int .i64 t118)) (fun _ h_ => h_.1))) hb); have n2_ := Aside0.mk (blk_below (g := gb101) (o := .cells #[.slice A0_0 l0_0.length c0_0, .int .i64 a0_1, .int .i64 a0_2, .int .i64 a0_3, .int .i64 a0_4] 45 (0, 0)) (by (with_reducible repeat (first | refine blk_drewN ?_ _ | refine blk_drew ?_ | refine blk_alloc ?_ _)); refine blk_far ?_ NB101_119.out _; (with_reducible repeat (first | refine blk_drewN ?_ _ | refine blk_drew ?_ | refine blk_alloc ?_ _)); refine blk_far ?_ NB101_119.out _; (with_reducible repeat (first | refine blk_drewN ?_ _ | refine blk_drew ?_ | refine blk_alloc ?_ _)); refine blk_far ?_ NB101_119.out _; (with_reducible repeat (first | refine blk_drewN ?_ _ | refine blk_drew ?_ | refine blk_alloc ?_ _)); refine blk_far ?_ NB101_119.out _; (with_reducible repeat (first | refine blk_drewN ?_ _ | refine blk_drew ?_ | refine blk_alloc ?_ _)); refine blk_far ?_ NB101_119.out _; exact bS BK101.out) hb); have n3_ := Aside0.mk (blk_below (g := gb119) (o := .cells #[.slice Ao24 t112.length co24, .int .i64 t115, .int .i64 t116, .int .i64 t117, .int .i64 t118] 37 (0, 0)) (by (with_reducible repeat (first | refine blk_drewN ?_ _ | refine blk_drew ?_ | refine blk_alloc ?_ _)); refine blk_put (cs := #[.slice Ao24 t112.length co24, .int .i64 t115, .int .i64 t116, .int .i64 t117, .int .i64 0]) ?_ 4 _ rfl; (with_reducible repeat (first | refine blk_drewN ?_ _ | refine blk_drew ?_ | refine blk_alloc ?_ _)); refine blk_put (cs := #[.slice Ao24 t112.length co24, .int .i64 t115, .int .i64 t116, .int .i64 0, .int .i64 0]) ?_ 3 _ rfl; (with_reducible repeat (first | refine blk_drewN ?_ _ | refine blk_drew ?_ | refine blk_alloc ?_ _)); refine blk_put (cs := #[.slice Ao24 t112.length co24, .int .i64 t115, .int .i64 0, .int .i64 0, .int .i64 0]) ?_ 2 _ rfl; (with_reducible repeat (first | refine blk_drewN ?_ _ | refine blk_drew ?_ | refine blk_alloc ?_ _)); refine blk_put (cs := #[.slice Ao24 t112.length co24, .int .i64 0, .int .i64 0, .int .i64 0, .int .i64 0]) ?_ 1 _ rfl; (with_reducible repeat (first | refine blk_drewN ?_ _ | refine blk_drew ?_ | refine blk_alloc ?_ _)); refine blk_put (cs := #[.slice none 0 0, .int .i64 0, .int .i64 0, .int .i64 0, .int .i64 0]) ?_ 0 _ rfl; exact bS BK119.out) hb); have n4_ := Aside0.mk (below_step (by repeat (first | (with_reducible first | exact HB.out | apply below_alloc | apply pw_below_drewN | apply below_drew1 | refine below_set ?_ GE101.out | refine below_set ?_ GE119.out) | exact HB.out)) hb); clear HO105; clear HO114; clear BK101; clear BK119; clear HB; have HO105 := n0_; have HO114 := n1_; have BK101 := n2_; have BK119 := n3_; have HB := n4_; clear n0_ n1_ n2_ n3_ n4_; (try clear hb); (try clear hb2); (try clear hk); (try clear hi)))
    (try simp only [Act.put, List.setIfInBounds_toArray, List.set_cons_zero, List.set_cons_succ])
    go_cut [42] (fun v42 wc => ∃ (kq : Nat) (x42_12 : Bool), v42 = .bool x42_12 ∧ Aside0 (laws_FnExactTiesFor.j0 kq x42_12 l0_0 a0_1 a0_2 a0_3 a0_4 t112 t115 t116 t117 t118 = some r) ∧ Aside0 (kq ≤ k) ∧ Aside0 (Kd.R k66 66 wc w.heap.size (fun _ => True) (.slice Ao24 t112.length co24) t112) ∧ Aside0 (wc.heap[gb101]? = some (.cells #[(.slice A0_0 l0_0.length c0_0), .int .i64 a0_1, .int .i64 a0_2, .int .i64 a0_3, .int .i64 a0_4] 45 (0, 0))) ∧ Aside0 (wc.heap[gb119]? = some (.cells #[(.slice Ao24 t112.length co24), .int .i64 t115, .int .i64 t116, .int .i64 t117, .int .i64 t118] 37 (0, 0))) ∧ Aside0 (Below w.heap.size w wc))
    case first =>
      have H := HC13.out
      clear HC13
      by_cases c28 : t120 = t110
      · rw [if_pos c28] at H
        have c28b0 : (t120 == t110) = true := beq_iff_eq.mpr c28
        have c28b1 : (t120 != t110) = false := bne_eq_false_iff_eq.mpr c28
        clear c28
        (first | rw [c28b0] | (simp only [i64_w, i32_w]; rw [c28b0]) | skip)
        have H' := Aside0.mk H
        clear H
        go_wp2
        go_meet
        case rel => exact ⟨_, ((t121 != t111)), (by first | rfl | (simp; done) | (simp [*]; done)), H', ⟨by first | omega | exact Nat.le_refl _⟩, ⟨by exact Ho.RS <| Kd.R_mono HO114.out (fun _ hk => trivial)⟩, ⟨by exact bS BK101.out⟩, ⟨by exact bS BK119.out⟩, ⟨by exact eS HB.out⟩⟩
      · rw [if_neg c28] at H
        have c28b0 : (t120 == t110) = false := beq_eq_false_iff_ne.mpr c28
        have c28b1 : (t120 != t110) = true := bne_iff_ne.mpr c28
        (first | rw [c28b0] | (simp only [i64_w, i32_w]; rw [c28b0]) | skip)
        have H' := Aside0.mk H
        clear H
        go_wp2
        go_meet
        case rel => exact ⟨_, (true), (by first | rfl | (simp; done) | (simp [*]; done)), H', ⟨by first | omega | exact Nat.le_refl _⟩, ⟨by exact Ho.RS <| Kd.R_mono HO114.out (fun _ hk => trivial)⟩, ⟨by exact bS BK101.out⟩, ⟨by exact bS BK119.out⟩, ⟨by exact eS HB.out⟩⟩
    case rest =>
      clear HC13
      try clear c2
      try clear p2
      try clear c3
      try clear c5
      try clear c5b0
      try clear c9
      try clear c24
      try clear c25
      try clear c26
      try clear c28
      try clear c28b0
      try clear c28b1
      try clear hcz15_0
      try clear hcz15_1
      try clear hcz15_2
      try clear hcz15_3
      try clear hcz15_4
      try clear hcz17_0
      try clear hcz17_1
      try clear hcz17_2
      try clear hcz17_3
      try clear hcz17_4
      try clear hcz21_0
      try clear hcz21_1
      try clear hcz21_2
      try clear hcz21_3
      try clear hcz21_4
      try clear hcz26_0
      try clear hcz26_1
      try clear hcz26_2
      try clear hcz26_3
      try clear hcz26_4
      try clear hcz7_0
      try clear hcz7_1
      try clear hcz7_2
      try clear hcz7_3
      try clear hcz7_4
      try clear hfz15_0
      try clear hfz15_1
      try clear hfz15_2
      try clear hfz15_3
      try clear hfz15_4
      try clear hfz17_0
      try clear hfz17_1
      try clear hfz17_2
      try clear hfz17_3
      try clear hfz17_4
      try clear hfz21_0
      try clear hfz21_1
      try clear hfz21_2
      try clear hfz21_3
      try clear hfz21_4
      try clear hfz26_0
      try clear hfz26_1
      try clear hfz26_2
      try clear hfz26_3
      try clear hfz26_4
      try clear hfz7_0
      try clear hfz7_1
      try clear hfz7_2
      try clear hfz7_3
      try clear hfz7_4
      obtain ⟨kq, x42_12, rfl, HA, HJ12, HO_120000, BK101, BK119, HB⟩ := hcut
      cases kq with
      | zero => exact absurd HA.out (by simp [laws_FnExactTiesFor.j0])
      | succ kj12 =>
        have H := HA.out
        clear HA
        simp only [laws_FnExactTiesFor.j0] at H
        by_cases c29 : x42_12 = true
        · subst c29
          have H1 : (some false) = some r := by rw [if_pos rfl] at H; exact H
          clear H
          have H := H1
          clear H1
          exact absurd ((Option.some.inj H).trans HT.out) (by decide)
        · replace c29 := Bool.eq_false_iff.mpr c29
          subst c29
          have H1 : ((laws_toYarnStore.f kj12 l0_0 a0_1 a0_2 a0_3 a0_4).bind fun bt122 => ((laws_eqYarnStore.f kj12 t112 t115 t116 t117 t118 bt122.1 bt122.2.1 bt122.2.2.1 bt122.2.2.2.1 bt122.2.2.2.2).bind fun t129 => (if t129 = true then (some true) else (some false)))) = some r := by rw [if_neg (show ¬ (false = true) by decide)] at H; exact H
          clear H
          have H := H1
          clear H1
          replace H := Option.bind_eq_some_iff.mp H
          obtain ⟨⟨t122, t125, t126, t127, t128⟩, A300, H⟩ := H
          replace H : ((laws_eqYarnStore.f kj12 t112 t115 t116 t117 t118 t122 t125 t126 t127 t128).bind fun t129 => (if t129 = true then (some true) else (some false))) = some r := H
          have A30 := Aside0.mk A300
          clear A300
          replace H := Option.bind_eq_some_iff.mp H
          obtain ⟨t129, A310, H⟩ := H
          replace H : (if t129 = true then (some true) else (some false)) = some r := H
          have A31 := Aside0.mk A310
          clear A310
          by_cases c32 : t129 = true
          · subst c32
            have H1 : (some true) = some r := by rw [if_pos rfl] at H; exact H
            clear H
            have H := H1
            clear H1
            obtain rfl := Option.some.inj H
            try go_wp2
            have n0_ := Aside0.mk (Kd.R_drew HO_120000.out)
            have n1_ := Aside0.mk (blk_drew BK101.out)
            have n2_ := Aside0.mk (blk_drew BK119.out)
            have n3_ := Aside0.mk (below_drew1 HB.out)
            clear HO_120000
            clear BK101
            clear BK119
            clear HB
            have HO_120000 := n0_
            have BK101 := n1_
            have BK119 := n2_
            have HB := n3_
            clear n0_ n1_ n2_ n3_
            refine start_ (n := 5) (S := fun w' => w'.cell? ⟨gb119, 0, none⟩ = some (.slice Ao24 t112.length co24) ∧ w'.cell? ⟨gb119, 1, none⟩ = some (.int .i64 t115) ∧ w'.cell? ⟨gb119, 2, none⟩ = some (.int .i64 t116) ∧ w'.cell? ⟨gb119, 3, none⟩ = some (.int .i64 t117) ∧ w'.cell? ⟨gb119, 4, none⟩ = some (.int .i64 t118) ∧ w'.cell? ⟨gb101, 0, none⟩ = some (.slice A0_0 l0_0.length c0_0) ∧ w'.cell? ⟨gb101, 1, none⟩ = some (.int .i64 a0_1) ∧ w'.cell? ⟨gb101, 2, none⟩ = some (.int .i64 a0_2) ∧ w'.cell? ⟨gb101, 3, none⟩ = some (.int .i64 a0_3) ∧ w'.cell? ⟨gb101, 4, none⟩ = some (.int .i64 a0_4)) (ds := []) #[false, false, false, false, false] (by kernel_rfl) rfl rfl ⟨(blk_cell BK119.out 0).trans rfl, (blk_cell BK119.out 1).trans rfl, (blk_cell BK119.out 2).trans rfl, (blk_cell BK119.out 3).trans rfl, (blk_cell BK119.out 4).trans rfl, (blk_cell BK101.out 0).trans rfl, (blk_cell BK101.out 1).trans rfl, (blk_cell BK101.out 2).trans rfl, (blk_cell BK101.out 3).trans rfl, (blk_cell BK101.out 4).trans rfl⟩ (fun hHeld => ?_)
            generalize wc.drew = w33 at HO_120000 BK101 BK119 HB hHeld ⊢
            refine take_ (i := 0) (N := some 43) (v := ?_) (a' := ?_) #[true, false, false, false, false] rfl rfl (by kernel_rfl) (fun _ _ _ h => h) (Or.inl ⟨by rfl, ?_⟩) hHeld ?_ ?_
            rotate_left
            · rintro w' ⟨s0, s1, s2, s3, s4, s5, s6, s7, s8, s9⟩
              go_simp
              with_reducible rfl
            rotate_left
            · simp only [Act.put, List.setIfInBounds_toArray, List.set_cons_zero, List.set_cons_succ, i64_w, i32_w]
              rfl
            refine take_ (i := 1) (N := some 44) (v := ?_) (a' := ?_) #[true, true, false, false, false] rfl rfl (by kernel_rfl) (fun _ _ _ h => h) (Or.inl ⟨by rfl, ?_⟩) hHeld ?_ ?_
            rotate_left
            · rintro w' ⟨s0, s1, s2, s3, s4, s5, s6, s7, s8, s9⟩
              go_simp
              with_reducible rfl
            rotate_left
            · simp only [Act.put, List.setIfInBounds_toArray, List.set_cons_zero, List.set_cons_succ, i64_w, i32_w]
              rfl
            refine one_ (i := 2) (N := some 45) #[true, true, true, false, false] rfl rfl (by kernel_rfl) (by decide) (fun K hK => ?_)
            refine goes_ Try.func26 (by kernel_rfl) rfl #[.agg #[.slice A0_0 l0_0.length c0_0, .int .i64 a0_1, .int .i64 a0_2, .int .i64 a0_3, .int .i64 a0_4]] (by rfl) rfl rfl (by (try simp only [List.map_toArray, List.map_cons, List.map_nil]); first | done | rfl | (simp only [List.length_drop, List.length_take]; rfl)) ?_
            with_reducible refine (laws_toYarnStore.calls kj12 _ _ l0_0 a0_1 a0_2 a0_3 a0_4 t122 t125 t126 t127 t128 _ ?side1 ?side2 A30.out).mono ?_
            (case side1 => repeat (first | exact (Kd.C_below HR0_0.out HB.out) | (with_reducible refine Kd.C_alloc ?_ _) | (with_reducible refine Kd.C_drewN ?_ _) | (with_reducible refine Kd.C_drew ?_)))
            (case side2 => exact HC0_0.out)
            rintro e w34 ⟨v123, rfl, ho0, hb⟩
            refine ⟨_, rfl, ?_⟩
            have n0_ := Aside0.mk (Kd.R_elder' (by exact Ho.RS <| HO_120000.out) (Kd.R_base ho0) hb)
            have n1_ := Aside0.mk (Kd.R_lower (Kd.R_new' ho0 (Kd.R_lt (by exact Ho.RS <| HO_120000.out))) (below_size (by exact eS HB.out)))
            have n2_ := Aside0.mk (blk_below (bS BK101.out) hb)
            have n3_ := Aside0.mk (blk_below (bS BK119.out) hb)
            have n4_ := Aside0.mk (below_step (by exact eS HB.out) hb)
            clear HO_120000
            clear BK101
            clear BK119
            clear HB
            have HO_120000 := n0_
            have HO124 := n1_
            have BK101 := n2_
            have BK119 := n3_
            have HB := n4_
            clear n0_ n1_ n2_ n3_ n4_
            (try clear hb)
            (try clear hb2)
            (try clear hk)
            (try clear hi)
            (try clear ho0)
            obtain ⟨Ao35, co35, eo35⟩ := Kd.R_slice HO124.out
            (first | subst eo35 | (injection eo35 with f1_ f2_ f3_; have f4_ := f1_.symm; have f5_ := f3_.symm; clear f1_ f2_ f3_; subst f4_; subst f5_))
            refine hK.out _ _ ⟨(blk_cell BK119.out 0).trans rfl, (blk_cell BK119.out 1).trans rfl, (blk_cell BK119.out 2).trans rfl, (blk_cell BK119.out 3).trans rfl, (blk_cell BK119.out 4).trans rfl, (blk_cell BK101.out 0).trans rfl, (blk_cell BK101.out 1).trans rfl, (blk_cell BK101.out 2).trans rfl, (blk_cell BK101.out 3).trans rfl, (blk_cell BK101.out 4).trans rfl⟩ (fun hHeld => ?_)
            clear hK K
            refine norm_ (a' := ?_) ?_ ?_
            rotate_left
            · show Act.put _ (some 45) _ = _
              simp only [Act.put, List.setIfInBounds_toArray, List.set_cons_zero, List.set_cons_succ, i64_w, i32_w]
              rfl
            refine one_ (i := 3) (N := some 46) #[true, true, true, true, false] rfl rfl (by kernel_rfl) (by decide) (fun K hK => ?_)
            refine goes_ Try.func21 (by kernel_rfl) rfl #[.agg #[.slice Ao24 t112.length co24, .int .i64 t115, .int .i64 t116, .int .i64 t117, .int .i64 t118], .agg #[.slice Ao35 t122.length co35, .int .i64 t125, .int .i64 t126, .int .i64 t127, .int .i64 t128]] (by rfl) rfl rfl (by (try simp only [List.map_toArray, List.map_cons, List.map_nil]); first | done | rfl | (simp only [List.length_drop, List.length_take]; rfl)) ?_
            with_reducible refine (laws_eqYarnStore.calls kj12 _ _ t112 t115 t116 t117 t118 _ _ t122 t125 t126 t127 t128 true _ ?side1 ?side2 ?side3 ?side4 A31.out).mono ?_
            (case side1 => repeat (first | exact (Kd.R_reads' HO_120000.out).2.2 | (with_reducible refine Kd.C_alloc ?_ _) | (with_reducible refine Kd.C_drewN ?_ _) | (with_reducible refine Kd.C_drew ?_)))
            (case side2 => exact (Kd.R_reads' HO_120000.out).2.1)
            (case side3 => repeat (first | exact (Kd.R_reads' HO124.out).2.2 | (with_reducible refine Kd.C_alloc ?_ _) | (with_reducible refine Kd.C_drewN ?_ _) | (with_reducible refine Kd.C_drew ?_)))
            (case side4 => exact (Kd.R_reads' HO124.out).2.1)
            rintro e w36 ⟨rfl, hb⟩
            refine ⟨_, rfl, ?_⟩
            have n0_ := Aside0.mk (Kd.R_below (by exact Ho.RS <| HO_120000.out) hb)
            have n1_ := Aside0.mk (Kd.R_below (by exact Ho.RS <| HO124.out) hb)
            have n2_ := Aside0.mk (blk_below (bS BK101.out) hb)
            have n3_ := Aside0.mk (blk_below (bS BK119.out) hb)
            have n4_ := Aside0.mk (below_step (by exact eS HB.out) hb)
            clear HO_120000
            clear HO124
            clear BK101
            clear BK119
            clear HB
            have HO_120000 := n0_
            have HO124 := n1_
            have BK101 := n2_
            have BK119 := n3_
            have HB := n4_
            clear n0_ n1_ n2_ n3_ n4_
            (try clear hb)
            (try clear hb2)
            (try clear hk)
            (try clear hi)
            refine hK.out _ _ ⟨(blk_cell BK119.out 0).trans rfl, (blk_cell BK119.out 1).trans rfl, (blk_cell BK119.out 2).trans rfl, (blk_cell BK119.out 3).trans rfl, (blk_cell BK119.out 4).trans rfl, (blk_cell BK101.out 0).trans rfl, (blk_cell BK101.out 1).trans rfl, (blk_cell BK101.out 2).trans rfl, (blk_cell BK101.out 3).trans rfl, (blk_cell BK101.out 4).trans rfl⟩ (fun hHeld => ?_)
            clear hK K
            refine norm_ (a' := ?_) ?_ ?_
            rotate_left
            · show Act.put _ (some 46) _ = _
              simp only [Act.put, List.setIfInBounds_toArray, List.set_cons_zero, List.set_cons_succ, i64_w, i32_w]
              rfl
            refine pure_ (i := 4) (N := some 47) (v := ?_) (a' := ?_) #[true, true, true, true, true] rfl rfl (by kernel_rfl) (fun _ _ _ h => h) (Or.inl ⟨by rfl, ?_⟩) ?_ ?_
            rotate_left
            · intro w'
              go_simp
              with_reducible rfl
            rotate_left
            · simp only [Act.put, List.setIfInBounds_toArray, List.set_cons_zero, List.set_cons_succ, i64_w, i32_w]
              rfl
            refine done_ (by kernel_rfl) ?_
            try go_wp2
            go_ret
            exact ⟨by first | rfl | (simp [errW_none, errW_some] <;> rfl) | (simp [*, errW_none, errW_some] <;> rfl), by exact eS HB.out⟩
          · replace c32 := Bool.eq_false_iff.mpr c32
            subst c32
            have H1 : (some false) = some r := by rw [if_neg (show ¬ (false = true) by decide)] at H; exact H
            clear H
            have H := H1
            clear H1
            exact absurd ((Option.some.inj H).trans HT.out) (by decide)

/-- THE ONE PURE STATEMENT of laws_FnExactTiesFor: yours. -/
def laws_FnExactTiesFor.Pure : Prop := ∀ (l0_0 : List (S82)) (a0_1 : Int) (a0_2 : Int) (a0_3 : Int) (a0_4 : Int) (a1 : Int) (a2 : Int), (l0_0.length ≤ 9223372036854775807 ∧ ∀ y_ ∈ l0_0, ok82 y_) → (Lit.int .i64 a0_1).wf = true → (Lit.int .i64 a0_2).wf = true → (Lit.int .i64 a0_3).wf = true → (Lit.int .i64 a0_4).wf = true → (Lit.int .i64 a1).wf = true → (Lit.int .i64 a2).wf = true → ∃ k, laws_FnExactTiesFor.f k l0_0 a0_1 a0_2 a0_3 a0_4 a1 a2 = some true

end Go.Proofs.Ytiomfignokichaa.X

-- Qbase
namespace Go.Proofs.Ytiomfignokichaa.Pure
open Go Go.RowKit Go.Proofs Go.Proofs.YtiomfignokichaaW.PrintWords Go.Proofs.YtiomfignokichaaW.PrintLast
set_option linter.unusedVariables false
set_option linter.unusedSimpArgs false

theorem w64 {x : Int} (h1 : -9223372036854775808 ≤ x) (h2 : x ≤ 9223372036854775807) : wrap64 x = x := by unfold wrap64; omega
theorem w64b {x : Int} (h : -9223372036854775808 ≤ x ∧ x ≤ 9223372036854775807) : wrap64 x = x := w64 h.1 h.2
theorem ite_sf (a b : Bool) : (if a = true then some b else some false) = some (a && b) := by cases a <;> rfl
theorem ite_sf2 (a b : Bool) : (if a = true then some false else some b) = some (!a && b) := by cases a <;> rfl
theorem wf_bd {x : Int} (h : (Lit.int .i64 x).wf = true) : -9223372036854775808 ≤ x ∧ x ≤ 9223372036854775807 := by
  have h1 := h
  simp [Lit.wf] at h1
  exact ⟨h1.1, h1.2⟩
/-- a product of two numbers within bounds -/
theorem mul_bd {a b A B : Int} (ha : 0 ≤ a) (hA : a ≤ A) (hb : 0 ≤ b) (hB : b ≤ B) : 0 ≤ a * b ∧ a * b ≤ A * B :=
  ⟨Int.mul_nonneg ha hb, Int.mul_le_mul hA hB hb (Int.le_trans ha hA)⟩
theorem drop_step {α : Type} {l : List α} {i : Nat} (h : i < l.length) (d : α) : l.drop i = l.getD i d :: l.drop (i + 1) := by
  rw [List.drop_eq_getElem_cons h]; congr 1; simp [List.getD_eq_getElem?_getD, List.getElem?_eq_getElem h]
theorem wstep {i : Nat} {n : Nat} (h : i < n) (hn : n ≤ 9223372036854775807) : wrap64 ((i : Int) + 1) = ((i + 1 : Nat) : Int) := by unfold wrap64; omega
theorem nat_of {i : Int} (h : 0 ≤ i) : ∃ n : Nat, i = n := ⟨i.toNat, by omega⟩
theorem succ_of {k d : Nat} (h : d < k) : ∃ m, k = m + 1 ∧ d ≤ m := ⟨k - 1, by omega, by omega⟩

end Go.Proofs.Ytiomfignokichaa.Pure

-- Qloops
namespace Go.Proofs.Ytiomfignokichaa.Pure
open Go Go.RowKit Go.Proofs Go.Proofs.YtiomfignokichaaW.PrintWords Go.Proofs.YtiomfignokichaaW.PrintLast
set_option linter.unusedVariables false
set_option linter.unusedSimpArgs false

/-- A loop that copies element by element into a new row. -/
theorem copy_loop {α β : Type} (L : Nat → List α → List β → Int → Option (List β)) (f : α → β) (d : α) (l : List α) (hb : l.length ≤ 9223372036854775806)
    (hs : ∀ k x3 (i : Nat), i < l.length → x3.length = l.length → L (k + 1) l x3 i = L k l (x3.set i (f (l.getD i d))) (wrap64 ((i : Int) + 1)))
    (he : ∀ k x3 (i : Nat), l.length ≤ i → L (k + 1) l x3 i = some x3) :
    ∀ n k (i : Nat) (x3 : List β), i + n = l.length → n < k → x3.length = l.length → x3.take i = (l.take i).map f → L k l x3 i = some (l.map f) := by
  intro n
  induction n with
  | zero =>
    intro k i x3 hi hk hl ht
    obtain ⟨k, rfl, _⟩ := succ_of hk
    rw [he k x3 i (by omega)]
    rw [List.take_of_length_le (by omega), List.take_of_length_le (by omega)] at ht
    rw [ht]
  | succ n ih =>
    intro k i x3 hi hk hl ht
    obtain ⟨k, rfl, hk⟩ := succ_of hk
    rw [hs k x3 i (by omega) hl, wstep (show i < l.length by omega) (by omega)]
    refine ih k (i + 1) _ (by omega) (by omega) (by rw [List.length_set]; exact hl) ?_
    rw [List.take_succ_eq_append_getElem (by rw [List.length_set]; omega), List.take_succ_eq_append_getElem (by omega), List.map_append, ← ht]
    congr 1
    · rw [List.take_set_of_le (Nat.le_refl _)]
    · simp [List.getD_eq_getElem?_getD, List.getElem?_eq_getElem (show i < l.length by omega)]
/-- A loop that compares a row with itself. -/
theorem refl_loop {α : Type} (L : Nat → List α → List α → Int → Option Bool) (l : List α) (hb : l.length ≤ 9223372036854775806)
    (hs : ∀ k (i : Nat), i < l.length → L (k + 1) l l i = L k l l (wrap64 ((i : Int) + 1))) (he : ∀ k (i : Nat), l.length ≤ i → L (k + 1) l l i = some true) :
    ∀ n k (i : Nat), i + n = l.length → n < k → L k l l i = some true := by
  intro n
  induction n with
  | zero =>
    intro k i hi hk
    obtain ⟨k, rfl, _⟩ := succ_of hk
    exact he k i (by omega)
  | succ n ih =>
    intro k i hi hk
    obtain ⟨k, rfl, hk⟩ := succ_of hk
    rw [hs k i (by omega), wstep (show i < l.length by omega) (by omega)]
    exact ih k (i + 1) (by omega) (by omega)
/-- A loop that asks of all elements, from i on. -/
theorem all_loop {α : Type} (L : Nat → Int → Option Bool) (q : α → Bool) (d : α) (l : List α) (e : Bool) (hb : l.length ≤ 9223372036854775806)
    (hs : ∀ k (i : Nat), i < l.length → L (k + 1) i = if q (l.getD i d) = true then L k (wrap64 ((i : Int) + 1)) else some false) (he : ∀ k (i : Nat), l.length ≤ i → L (k + 1) i = some e) :
    ∀ n k (i : Nat), i + n = l.length → n < k → L k i = some ((l.drop i).all q && e) := by
  intro n
  induction n with
  | zero =>
    intro k i hi hk
    obtain ⟨k, rfl, _⟩ := succ_of hk
    rw [he k i (by omega), List.drop_eq_nil_of_le (by omega)]; rfl
  | succ n ih =>
    intro k i hi hk
    obtain ⟨k, rfl, hk⟩ := succ_of hk
    rw [hs k i (by omega), wstep (show i < l.length by omega) (by omega), drop_step (by omega) d, List.all_cons, ih k (i + 1) (by omega) (by omega)]
    cases q (l.getD i d) <;> simp
/-- What marks leave: each element tells its own number. -/
def markM {α : Type} (g : Int → α) (c : Int) (n : Nat) (s : Int) : List α := (List.range n).map fun (j : Nat) => g (s + c * (j : Int))
theorem markM_length {α : Type} (g : Int → α) (c : Int) (n : Nat) (s : Int) : (markM g c n s).length = n := by simp [markM]
theorem markM_getD {α : Type} (g : Int → α) (c : Int) (n : Nat) (s : Int) (d : α) {i : Nat} (h : i < n) : (markM g c n s).getD i d = g (s + c * i) := by
  simp [markM, List.getD_eq_getElem?_getD, List.getElem?_map, List.getElem?_range h]
/-- A loop that marks. -/
theorem mark_loop {α : Type} (L : Nat → List α → Int → Int → Option (Int × List α)) (g : Int → α) (c : Int) (n0 : Nat) (s : Int) (hb : n0 ≤ 9223372036854775806) 
    (hs : ∀ k x (i : Nat), i < n0 → x.length = n0 → L (k + 1) x (s + c * i) i = L k (x.set i (g (s + c * i))) (s + c * ((i + 1 : Nat) : Int)) (wrap64 ((i : Int) + 1)))
    (he : ∀ k x m (i : Nat), n0 ≤ i → x.length = n0 → L (k + 1) x m i = some (m, x)) :
    ∀ n k (i : Nat) (x : List α), i + n = n0 → n < k → x.length = n0 → x.take i = (markM g c n0 s).take i → L k x (s + c * i) i = some (s + c * n0, markM g c n0 s) := by
  intro n
  induction n with
  | zero =>
    intro k i x hi hk hl ht
    obtain ⟨k, rfl, _⟩ := succ_of hk
    rw [he k x _ i (by omega) hl]
    rw [List.take_of_length_le (by omega), List.take_of_length_le (by rw [markM_length]; omega)] at ht
    rw [ht]; simp [show i = n0 by omega]
  | succ n ih =>
    intro k i x hi hk hl ht
    obtain ⟨k, rfl, hk⟩ := succ_of hk
    rw [hs k x i (by omega) hl, wstep (show i < n0 by omega) (by omega)]
    refine ih k (i + 1) _ (by omega) (by omega) (by rw [List.length_set]; exact hl) ?_
    rw [List.take_succ_eq_append_getElem (by rw [List.length_set]; omega), List.take_succ_eq_append_getElem (by rw [markM_length]; omega), ← ht]
    congr 1
    · rw [List.take_set_of_le (Nat.le_refl _)]
    · simp [markM]
/-- A loop that asks for the marks. -/
theorem held_loop {α : Type} (L : Nat → List α → Int → Int → Option Int) (g : Int → α) (c : Int) (n0 : Nat) (s : Int) (hb : n0 ≤ 9223372036854775806)
    (hs : ∀ k (i : Nat), i < n0 → L (k + 1) (markM g c n0 s) (s + c * i) i = L k (markM g c n0 s) (s + c * ((i + 1 : Nat) : Int)) (wrap64 ((i : Int) + 1)))
    (he : ∀ k m (i : Nat), n0 ≤ i → L (k + 1) (markM g c n0 s) m i = some m) :
    ∀ n k (i : Nat), i + n = n0 → n < k → L k (markM g c n0 s) (s + c * i) i = some (s + c * n0) := by
  intro n
  induction n with
  | zero =>
    intro k i hi hk
    obtain ⟨k, rfl, _⟩ := succ_of hk
    rw [he k _ i (by omega), show i = n0 by omega]
  | succ n ih =>
    intro k i hi hk
    obtain ⟨k, rfl, hk⟩ := succ_of hk
    rw [hs k i (by omega), wstep (show i < n0 by omega) (by omega)]
    exact ih k (i + 1) (by omega) (by omega)
theorem rd_nat (l : List Int) (i : Nat) : rd l (i : Int) = l.getD i 0 := by simp [rd]

end Go.Proofs.Ytiomfignokichaa.Pure

-- Qbobbins
namespace Go.Proofs.Ytiomfignokichaa.Pure
open Go Go.RowKit Go.Proofs Go.Proofs.Ytiomfignokichaa.X Go.Proofs.YtiomfignokichaaW.PrintWords Go.Proofs.YtiomfignokichaaW.PrintLast
set_option linter.unusedVariables false
set_option linter.unusedSimpArgs false

def toB (x : S82) : S66 := ⟨x.f0, x.f1, x.f2⟩
theorem rdVB_nat (l : List S82) (i : Nat) : rd_T82 l (i : Int) = l.getD i z82 := by simp [rd_T82]
theorem rdIB_nat (l : List S66) (i : Nat) : rd_T66 l (i : Int) = l.getD i z66 := by simp [rd_T66]
theorem toBS_eq {k : Nat} {l : List S82} (hk : l.length < k) (hl : l.length ≤ 1048576) : laws_toBobbinS.f k l = some (l.map toB) := by
  unfold laws_toBobbinS.f
  rw [if_pos (by omega), if_pos (by simp; omega)]
  exact copy_loop laws_toBobbinS.l0 toB z82 l (by omega)
    (fun k x3 i h1 h2 => by
      simp only [laws_toBobbinS.l0, laws_toBobbin.f, Option.bind_some]
      rw [if_pos (by omega), if_pos (by omega), if_pos (by omega), rdVB_nat]
      simp [toB])
    (fun k x3 i h1 => by simp only [laws_toBobbinS.l0]; rw [if_neg (by omega)])
    l.length k 0 _ (by omega) hk (by simp) (by simp)
theorem eqBob_refl (a b c : Int) : laws_eqBobbin.f a b c a b c = some true := by simp [laws_eqBobbin.f]
theorem eqBS_refl {k : Nat} {l : List S66} (hk : l.length < k) (hl : l.length ≤ 9223372036854775806) : laws_eqBobbinS.f k l l = some true := by
  unfold laws_eqBobbinS.f
  rw [if_pos rfl]
  exact refl_loop laws_eqBobbinS.l0 l hl
    (fun k i h => by simp only [laws_eqBobbinS.l0, eqBob_refl, Option.bind_some]; rw [if_pos (by omega), if_pos (by omega), if_pos (by omega)]; simp)
    (fun k i h => by simp only [laws_eqBobbinS.l0]; rw [if_neg (by omega)])
    l.length k 0 (by omega) hk
theorem toYarn_eq {k : Nat} {l : List S82} (hk : l.length < k) (hl : l.length ≤ 1048576) (a b c d : Int) : laws_toYarnStore.f k l a b c d = some (l.map toB, a, b, c, d) := by
  simp only [laws_toYarnStore.f, toBS_eq hk hl, Option.bind_some]
theorem eqYarn_refl {k : Nat} {l : List S66} (hk : l.length < k) (hl : l.length ≤ 9223372036854775806) (a b c d : Int) : laws_eqYarnStore.f k l a b c d l a b c d = some true := by
  simp only [laws_eqYarnStore.f, eqBS_refl hk hl, Option.bind_some, if_true]
theorem szYarn_eq {l : List S82} {s : Int} (hl : l.length ≤ 9223372036854775807) (hs : 0 ≤ s ∧ s ≤ 9223372036854775807) (a b c d : Int) : laws_szYarnStore.f l a b c d s = some (if s < l.length then -1 else s - l.length) := by
  unfold laws_szYarnStore.f laws_szBobbinS.f
  rw [w64 (by omega) (by omega)]
  by_cases h : s < l.length
  · rw [if_pos (by omega), if_pos h]; rfl
  · rw [if_neg (by omega), if_neg h]; simp only [Option.bind_some]; rw [if_neg (by omega)]

end Go.Proofs.Ytiomfignokichaa.Pure

-- Qbitslen
namespace Go.Proofs.Ytiomfignokichaa.Pure
open Go Go.RowKit Go.Proofs Go.Proofs.Ytiomfignokichaa.X Go.Proofs.YtiomfignokichaaW.PrintWords Go.Proofs.YtiomfignokichaaW.PrintLast
set_option linter.unusedVariables false
set_option linter.unusedSimpArgs false

theorem bitsLen_ex (k : Nat) (n : Int) (h : 0 ≤ n ∧ n < 256) : ∃ b, bits_Len.f (k + 1) n = some b := by
  have h64 : ∃ b, bits_Len64.f (k + 1) n = some b := by
    unfold bits_Len64.f
    rw [if_neg (by omega), bits_Len64.j0]
    rw [if_neg (show ¬ n ≥ 65536 by omega)]
    rw [if_neg (show ¬ n ≥ 256 by omega)]
    rw [if_pos (show 0 ≤ n % 256 by omega)]
    rw [if_pos (show n % 256 < 256 by omega)]
    exact ⟨_, rfl⟩
  obtain ⟨b, hb⟩ := h64
  refine ⟨b, ?_⟩
  unfold bits_Len.f
  rw [hb]; rfl

end Go.Proofs.Ytiomfignokichaa.Pure

-- Qcmpint
namespace Go.Proofs.Ytiomfignokichaa.Pure
open Go Go.RowKit Go.Proofs Go.Proofs.Ytiomfignokichaa.X Go.Proofs.YtiomfignokichaaW.PrintWords Go.Proofs.YtiomfignokichaaW.PrintLast
set_option linter.unusedVariables false
set_option linter.unusedSimpArgs false

def cmpI (a b : Int) : Int := if a < b then -1 else if a > b then 1 else 0
theorem cmpI_eq (a b : Int) : cmp_Compare_int.f a b = some (cmpI a b) := by
  simp only [cmp_Compare_int.f, cmp_isNaN_int.f, bne_self_eq_false, Option.bind_some, Bool.false_eq_true, if_false, cmpI]
  (repeat' split) <;> rfl

end Go.Proofs.Ytiomfignokichaa.Pure

-- Qinrange
namespace Go.Proofs.Ytiomfignokichaa.Pure
open Go Go.RowKit Go.Proofs Go.Proofs.Ytiomfignokichaa.X Go.Proofs.YtiomfignokichaaW.PrintWords Go.Proofs.YtiomfignokichaaW.PrintLast
set_option linter.unusedVariables false
set_option linter.unusedSimpArgs false

theorem in_eq (x a b : Int) : impl_in.f x a b = some (decide (a ≤ x ∧ x ≤ b)) := by
  unfold impl_in.f
  by_cases h1 : a ≤ x <;> simp [h1]

end Go.Proofs.Ytiomfignokichaa.Pure

-- Qinssort
namespace Go.Proofs.Ytiomfignokichaa.Pure
open Go Go.RowKit Go.Proofs Go.Proofs.YtiomfignokichaaW.PrintWords Go.Proofs.YtiomfignokichaaW.PrintLast
set_option linter.unusedVariables false
set_option linter.unusedSimpArgs false

/-- an element put into a list (whose reverse is given), from the right -/
def insB {α : Type} (lt : α → α → Bool) : List α → α → List α
  | [], x => [x]
  | y :: rp, x => if lt x y = true then insB lt rp x ++ [y] else (y :: rp).reverse ++ [x]
def isortB {α : Type} (lt : α → α → Bool) (P l : List α) : List α := l.foldl (fun P x => insB lt P.reverse x) P
theorem insB_perm {α : Type} (lt : α → α → Bool) : ∀ (rp : List α) (x : α), (insB lt rp x).Perm (x :: rp) := by
  intro rp
  induction rp with
  | nil => intro x; exact List.Perm.refl _
  | cons y rp ih =>
    intro x
    rw [insB]
    split
    · have h1 : (insB lt rp x ++ [y]).Perm ((x :: rp) ++ [y]) := (ih x).append_right _
      refine h1.trans ?_
      have h2 : ((x :: rp) ++ [y]).Perm ([y] ++ (x :: rp)) := List.perm_append_comm
      exact h2.trans (List.Perm.swap _ _ _)
    · have h1 : ((y :: rp).reverse ++ [x]).Perm ([x] ++ (y :: rp).reverse) := List.perm_append_comm
      refine h1.trans ?_
      exact List.Perm.cons _ (List.reverse_perm _)
theorem insB_len {α : Type} (lt : α → α → Bool) (rp : List α) (x : α) : (insB lt rp x).length = rp.length + 1 := by
  rw [(insB_perm lt rp x).length_eq, List.length_cons]
theorem isortB_perm {α : Type} (lt : α → α → Bool) : ∀ (l P : List α), (isortB lt P l).Perm (P ++ l) := by
  intro l
  induction l with
  | nil => intro P; rw [List.append_nil]; exact List.Perm.refl _
  | cons x l ih =>
    intro P
    unfold isortB at *
    rw [List.foldl_cons]
    refine (ih _).trans ?_
    have h1 : (insB lt P.reverse x ++ l).Perm ((x :: P.reverse) ++ l) := (insB_perm lt _ x).append_right _
    refine h1.trans ?_
    have h2 : ((x :: P.reverse) ++ l).Perm ((x :: P) ++ l) := (List.Perm.cons _ (List.reverse_perm _)).append_right _
    exact h2.trans List.perm_middle.symm
theorem insB_sorted {α : Type} (lt : α → α → Bool) (R : α → α → Prop) (tr : ∀ a b c, R a b → R b c → R a c) : ∀ (rp : List α) (x : α), rp.reverse.Pairwise R → (∀ y ∈ rp, lt x y = true → R x y) → (∀ y ∈ rp, lt x y = false → R y x) → (insB lt rp x).Pairwise R := by
  intro rp
  induction rp with
  | nil => intro x _ _ _; simp [insB]
  | cons y rp ih =>
    intro x hP h1 h2
    rw [List.reverse_cons, List.pairwise_append] at hP
    rw [insB]
    split
    · rename_i g
      rw [List.pairwise_append]
      refine ⟨ih x hP.1 (fun z hz => h1 z (List.mem_cons_of_mem _ hz)) (fun z hz => h2 z (List.mem_cons_of_mem _ hz)), List.pairwise_singleton _ _, fun a ha b hb => ?_⟩
      rw [List.mem_singleton] at hb
      subst hb
      rcases List.mem_cons.mp ((insB_perm lt rp x).mem_iff.mp ha) with e | e
      · subst e; exact h1 b List.mem_cons_self g
      · exact hP.2.2 a (List.mem_reverse.mpr e) b (List.mem_singleton.mpr rfl)
    · rename_i g
      have g : lt x y = false := by simpa using g
      have hy := h2 y List.mem_cons_self g
      rw [List.pairwise_append]
      refine ⟨by rw [List.reverse_cons, List.pairwise_append]; exact hP, List.pairwise_singleton _ _, fun a ha b hb => ?_⟩
      rw [List.mem_singleton] at hb
      subst hb
      rw [List.mem_reverse] at ha
      rcases List.mem_cons.mp ha with e | e
      · subst e; exact hy
      · exact tr _ _ _ (hP.2.2 a (List.mem_reverse.mpr e) y (List.mem_singleton.mpr rfl)) hy
/-- the inner loop of the library's insertion sort -/
theorem ins_l1 {α : Type} (z : α) (lt : α → α → Bool) (L0 : Nat → List α → Int → Option (List α)) (L1 : Nat → List α → Int → Int → Option (List α))
    (h1 : ∀ k (s : List α) (i : Int) (j : Nat), 0 < j → j < s.length → s.length ≤ 1048576 → L1 (k + 1) s i (j : Int) = if lt (s.getD j z) (s.getD (j - 1) z) = true then L1 k ((s.set j (s.getD (j - 1) z)).set (j - 1) (s.getD j z)) i ((j - 1 : Nat) : Int) else L0 k s (wrap64 (i + 1)))
    (h2 : ∀ k (s : List α) (i : Int), L1 (k + 1) s i 0 = L0 k s (wrap64 (i + 1))) :
    ∀ (rp : List α) (k : Nat) (x : α) (Q : List α) (i : Int), rp.length + 1 + Q.length ≤ 1048576 → rp.length < k → ∃ k', k ≤ k' + rp.length + 1 ∧ L1 k (rp.reverse ++ x :: Q) i (rp.length : Int) = L0 k' (insB lt rp x ++ Q) (wrap64 (i + 1)) := by
  intro rp
  induction rp with
  | nil =>
    intro k x Q i hb hk
    obtain ⟨k, rfl, _⟩ := succ_of hk
    refine ⟨k, by simp, ?_⟩
    have := h2 k (x :: Q) i
    simpa [insB] using this
  | cons y rp ih =>
    intro k x Q i hb hk
    obtain ⟨k, rfl, hk2⟩ := succ_of hk
    rw [List.length_cons] at *
    have hs : (y :: rp).reverse ++ x :: Q = rp.reverse ++ y :: x :: Q := by simp
    have hlen : (rp.reverse ++ y :: x :: Q).length = rp.length + 2 + Q.length := by simp; omega
    have e1 : (rp.reverse ++ y :: x :: Q).getD (rp.length + 1) z = x := by
      rw [List.getD_eq_getElem?_getD, List.getElem?_append_right (by rw [List.length_reverse]; omega), List.length_reverse, show rp.length + 1 - rp.length = 1 by omega]; rfl
    have e2 : (rp.reverse ++ y :: x :: Q).getD rp.length z = y := by
      rw [List.getD_eq_getElem?_getD, List.getElem?_append_right (by rw [List.length_reverse]; omega), List.length_reverse, Nat.sub_self]; rfl
    have e3 : ((rp.reverse ++ y :: x :: Q).set (rp.length + 1) y).set rp.length x = rp.reverse ++ x :: y :: Q := by
      rw [List.set_append_right _ _ (by rw [List.length_reverse]; omega), List.length_reverse, show rp.length + 1 - rp.length = 1 by omega, List.set_append_right _ _ (by rw [List.length_reverse]; omega), List.length_reverse, Nat.sub_self]; rfl
    rw [hs, h1 k _ i (rp.length + 1) (by omega) (by omega) (by omega), e1, Nat.add_sub_cancel, e2, e3]
    by_cases g : lt x y = true
    · rw [if_pos g]
      obtain ⟨k', hk', e⟩ := ih k x (y :: Q) i (by rw [List.length_cons]; omega) (by omega)
      refine ⟨k', by omega, ?_⟩
      rw [e, insB, if_pos g, List.append_assoc]; rfl
    · rw [if_neg g]
      refine ⟨k, by omega, ?_⟩
      rw [insB, if_neg g]; simp
theorem ins_l0 {α : Type} (z : α) (lt : α → α → Bool) (n0 : Nat) (hn0 : n0 ≤ 1048576) (L0 : Nat → List α → Int → Option (List α)) (L1 : Nat → List α → Int → Int → Option (List α))
    (h1 : ∀ k (s : List α) (i : Int) (j : Nat), 0 < j → j < s.length → s.length ≤ 1048576 → L1 (k + 1) s i (j : Int) = if lt (s.getD j z) (s.getD (j - 1) z) = true then L1 k ((s.set j (s.getD (j - 1) z)).set (j - 1) (s.getD j z)) i ((j - 1 : Nat) : Int) else L0 k s (wrap64 (i + 1)))
    (h2 : ∀ k (s : List α) (i : Int), L1 (k + 1) s i 0 = L0 k s (wrap64 (i + 1)))
    (h3 : ∀ k (s : List α) (i : Nat), i < n0 → L0 (k + 1) s (i : Int) = L1 k s (i : Int) (i : Int)) (h4 : ∀ k (s : List α) (i : Nat), n0 ≤ i → L0 (k + 1) s (i : Int) = some s) :
    ∀ (Q P : List α) (k : Nat), P.length + Q.length = n0 → (Q.length + 1) * (n0 + 3) < k → L0 k (P ++ Q) (P.length : Int) = some (isortB lt P Q) := by
  intro Q
  induction Q with
  | nil =>
    intro P k hn hk
    obtain ⟨k, rfl, _⟩ := succ_of (show 0 < k by omega)
    rw [h4 k _ _ (by simpa using Nat.le_of_eq hn.symm), List.append_nil]; rfl
  | cons x Q ih =>
    intro P k hn hk
    rw [List.length_cons, Nat.add_mul, Nat.one_mul] at hk
    rw [List.length_cons] at hn
    obtain ⟨k, rfl, _⟩ := succ_of (show 0 < k by omega)
    rw [h3 k _ _ (by omega)]
    obtain ⟨k', hk', e⟩ := ins_l1 z lt L0 L1 h1 h2 P.reverse k x Q (P.length : Int) (by rw [List.length_reverse]; omega) (by rw [List.length_reverse]; omega)
    rw [List.reverse_reverse, List.length_reverse] at e
    rw [List.length_reverse] at hk'
    have hl := insB_len lt P.reverse x
    rw [List.length_reverse] at hl
    rw [e, wstep (n := n0) (by omega) (by omega), ← hl, ih (insB lt P.reverse x) k' (by omega) (by omega)]
    rfl
/-- the library's insertion sort, from the second element on -/
theorem ins_eq {α : Type} (z : α) (lt : α → α → Bool) (l : List α) (hl : l.length ≤ 1048576) (L0 : Nat → List α → Int → Option (List α)) (L1 : Nat → List α → Int → Int → Option (List α))
    (h1 : ∀ k (s : List α) (i : Int) (j : Nat), 0 < j → j < s.length → s.length ≤ 1048576 → L1 (k + 1) s i (j : Int) = if lt (s.getD j z) (s.getD (j - 1) z) = true then L1 k ((s.set j (s.getD (j - 1) z)).set (j - 1) (s.getD j z)) i ((j - 1 : Nat) : Int) else L0 k s (wrap64 (i + 1)))
    (h2 : ∀ k (s : List α) (i : Int), L1 (k + 1) s i 0 = L0 k s (wrap64 (i + 1)))
    (h3 : ∀ k (s : List α) (i : Nat), i < l.length → L0 (k + 1) s (i : Int) = L1 k s (i : Int) (i : Int)) (h4 : ∀ k (s : List α) (i : Nat), l.length ≤ i → L0 (k + 1) s (i : Int) = some s) {k : Nat} (hk : (l.length + 1) * (l.length + 3) < k) :
    L0 k l 1 = some (isortB lt [] l) := by
  cases l with
  | nil =>
    obtain ⟨k, rfl, _⟩ := succ_of (show 0 < k by omega)
    exact h4 k [] 1 (by simp)
  | cons x l =>
    have hk2 : (l.length + 1) * ((x :: l).length + 3) < k := Nat.lt_of_le_of_lt (Nat.mul_le_mul_right _ (by rw [List.length_cons]; omega)) hk
    exact ins_l0 z lt (x :: l).length hl L0 L1 h1 h2 h3 h4 l [x] k (by simp only [List.length_cons, List.length_nil]; omega) hk2

end Go.Proofs.Ytiomfignokichaa.Pure

-- Qdelfunc
namespace Go.Proofs.Ytiomfignokichaa.Pure
open Go Go.RowKit Go.Proofs Go.Proofs.Ytiomfignokichaa.X Go.Proofs.YtiomfignokichaaW.PrintWords Go.Proofs.YtiomfignokichaaW.PrintLast
set_option linter.unusedVariables false
set_option linter.unusedSimpArgs false

theorem clr_take_ {α : Type} (l : List α) (k : Nat) (z : α) (h : k ≤ l.length) : (Cl.clr l k z).take k = l.take k := by
  unfold Cl.clr
  rw [List.take_append_of_le_length (by rw [List.length_take]; omega), List.take_of_length_le (by rw [List.length_take]; omega)]
/-- A loop that keeps, in place, what q does not hold of. -/
theorem del_loop {α : Type} (z : α) (L : Nat → List α → Int → Int → Option (List α)) (q : α → Bool) (l : List α) (hs : l.length ≤ 1048576)
    (hstep : ∀ k (s : List α) (o j : Nat), j < l.length → s.length = l.length → o ≤ j → L (k + 1) s (o : Int) (j : Int) = if q (s.getD j z) = true then L k s (o : Int) (wrap64 ((j : Int) + 1)) else L k (s.set o (s.getD j z)) (wrap64 ((o : Int) + 1)) (wrap64 ((j : Int) + 1)))
    (hend : ∀ k (s : List α) (o : Nat), s.length = l.length → o ≤ l.length → L (k + 1) s (o : Int) (l.length : Int) = some ((Cl.clr s o z).take o)) :
    ∀ (m k o j : Nat) (s : List α), j + m = l.length → m < k → o ≤ j → s.length = l.length → s.take o = (l.take j).filter (fun x => !q x) → s.drop j = l.drop j → L k s (o : Int) (j : Int) = some (l.filter (fun x => !q x)) := by
  intro m
  induction m with
  | zero =>
    intro k o j s hj hk ho hl ht hd
    obtain ⟨k, rfl, _⟩ := succ_of hk
    obtain rfl : j = l.length := by omega
    rw [hend k s o hl ho, clr_take_ _ _ _ (by omega), ht, List.take_of_length_le (by omega)]
  | succ m ih =>
    intro k o j s hj hk ho hl ht hd
    obtain ⟨k, rfl, _⟩ := succ_of hk
    have hlt : j < l.length := by omega
    have hg : s.getD j z = l.getD j z := by
      have h := congrArg (fun (q : List α) => q[0]?) hd
      simp only [List.getElem?_drop, Nat.add_zero] at h
      rw [List.getD_eq_getElem?_getD, List.getD_eq_getElem?_getD, h]
    have hst : l.take (j + 1) = l.take j ++ [l.getD j z] := by
      rw [List.take_add_one, List.getD_eq_getElem?_getD, List.getElem?_eq_getElem hlt]; rfl
    have hd1 : s.drop (j + 1) = l.drop (j + 1) := by
      simpa [List.drop_drop, Nat.add_comm] using congrArg (List.drop 1) hd
    rw [hstep k s o j hlt hl ho, hg]
    by_cases g : q (l.getD j z) = true
    · rw [if_pos g, wstep hlt (by omega)]
      exact ih k o (j + 1) s (by omega) (by omega) (by omega) hl (by rw [hst, List.filter_append, ht]; simp only [List.filter_cons, g, List.filter_nil]; simp) hd1
    · have g2 : q (l.getD j z) = false := by simpa using g
      rw [if_neg g, wstep (n := l.length) (i := o) (by omega) (by omega), wstep hlt (by omega)]
      refine ih k (o + 1) (j + 1) (s.set o (l.getD j z)) (by omega) (by omega) (by omega) (by rw [List.length_set]; exact hl) ?_ ?_
      · rw [hst, List.filter_append, ← ht, List.take_add_one, List.take_set_of_le (by omega), List.getElem?_set_self (by omega)]
        simp only [List.filter_cons, g2, List.filter_nil]; simp
      · rw [List.drop_set_of_lt (by omega)]; exact hd1
theorem del_eq {α : Type} (z : α) (L : Nat → List α → Int → Int → Option (List α)) (p : α → Option Bool) (q : α → Bool) (l : List α) (hp : ∀ x ∈ l, p x = some (q x)) (hs : l.length ≤ 1048576)
    (hstep : ∀ k (s : List α) (o j : Nat), j < l.length → s.length = l.length → o ≤ j → L (k + 1) s (o : Int) (j : Int) = if q (s.getD j z) = true then L k s (o : Int) (wrap64 ((j : Int) + 1)) else L k (s.set o (s.getD j z)) (wrap64 ((o : Int) + 1)) (wrap64 ((j : Int) + 1)))
    (hend : ∀ k (s : List α) (o : Nat), s.length = l.length → o ≤ l.length → L (k + 1) s (o : Int) (l.length : Int) = some ((Cl.clr s o z).take o)) {k : Nat} (hk : l.length < k) :
    ((Ho.idxO p l 0).bind fun t => if t = (-1) then some l else L k l t (wrap64 (t + 1))) = some (l.filter (fun x => !q x)) := by
  rw [Ho.idxO_eq (p := p) (q := q) hp]
  simp only [Option.bind_some]
  cases h : l.findIdx? q with
  | none =>
    simp only [if_true]
    congr 1
    rw [eq_comm, List.filter_eq_self]
    intro x hx
    have := (List.findIdx?_eq_none_iff.mp h) x hx
    rw [this]; rfl
  | some j =>
    obtain ⟨hj, hq, hb⟩ := List.findIdx?_eq_some_iff_getElem.mp h
    simp only [Int.zero_add]
    rw [if_neg (by omega), wstep hj (by omega)]
    have hst : l.take (j + 1) = l.take j ++ [l[j]] := by rw [List.take_add_one, List.getElem?_eq_getElem hj]; rfl
    refine del_loop z L q l hs hstep hend (l.length - (j + 1)) k j (j + 1) l (by omega) (by omega) (by omega) rfl ?_ rfl
    rw [hst, List.filter_append, List.filter_cons, hq]
    simp only [Bool.not_true, Bool.false_eq_true, if_false, List.filter_nil, List.append_nil]
    rw [eq_comm, List.filter_eq_self]
    intro x hx
    obtain ⟨i, hi, rfl⟩ := List.mem_iff_getElem.mp hx
    rw [List.getElem_take]
    have := hb i (by rw [List.length_take] at hi; omega)
    simpa using this

end Go.Proofs.Ytiomfignokichaa.Pure

-- Qidxall
namespace Go.Proofs.Ytiomfignokichaa.Pure
open Go Go.RowKit Go.Proofs Go.Proofs.YtiomfignokichaaW.PrintWords Go.Proofs.YtiomfignokichaaW.PrintLast
set_option linter.unusedVariables false
set_option linter.unusedSimpArgs false

/-- q at all numbers from i on, n of them -/
def allR (q : Nat → Bool) (i n : Nat) : Bool := (List.range' i n).all q
theorem allR_iff {q : Nat → Bool} {i n : Nat} : allR q i n = true ↔ ∀ j, i ≤ j → j < i + n → q j = true := by
  unfold allR
  rw [List.all_eq_true]
  exact ⟨fun h j h1 h2 => h j (List.mem_range'_1.mpr ⟨h1, h2⟩), fun h j hj => h j (List.mem_range'_1.mp hj).1 (List.mem_range'_1.mp hj).2⟩
theorem allR_succ (q : Nat → Bool) (i n : Nat) : allR q i (n + 1) = (q i && allR q (i + 1) n) := by
  unfold allR; rw [List.range'_succ, List.all_cons]
/-- A loop that asks of all numbers, from i on. -/
theorem idx_loop (L : Nat → Int → Option Bool) (q : Nat → Bool) (i0 n0 : Nat) (e : Bool) (hb : n0 ≤ 9223372036854775806)
    (hs : ∀ k (i : Nat), i0 ≤ i → i < n0 → L (k + 1) i = if q i = true then L k (wrap64 ((i : Int) + 1)) else some false) (he : ∀ k (i : Nat), n0 ≤ i → L (k + 1) i = some e) :
    ∀ n k (i : Nat), i0 ≤ i → i + n = n0 → n < k → L k i = some (allR q i n && e) := by
  intro n
  induction n with
  | zero =>
    intro k i h0 hi hk
    obtain ⟨k, rfl, _⟩ := succ_of hk
    rw [he k i (by omega)]; simp [allR]
  | succ n ih =>
    intro k i h0 hi hk
    obtain ⟨k, rfl, hk⟩ := succ_of hk
    rw [hs k i h0 (by omega), wstep (show i < n0 by omega) (by omega), allR_succ, ih k (i + 1) (by omega) (by omega) (by omega)]
    cases q i <;> simp
theorem all_getD {α : Type} {p : α → Bool} {l : List α} (d : α) : l.all p = true ↔ ∀ j, j < l.length → p (l.getD j d) = true := by
  rw [List.all_eq_true]
  constructor
  · intro h j hj
    rw [List.getD_eq_getElem?_getD, List.getElem?_eq_getElem hj]
    exact h _ (List.getElem_mem hj)
  · intro h x hx
    obtain ⟨j, hj, rfl⟩ := List.mem_iff_getElem.mp hx
    have := h j hj
    rwa [List.getD_eq_getElem?_getD, List.getElem?_eq_getElem hj] at this
/-- A loop that adds up. -/
theorem sum_loop {α β : Type} (L : Nat → Int → Int → Option β) (v : α → Int) (r : Int → Option β) (d : α) (B : Int) (l : List α) (hb : l.length ≤ 9223372036854775806) (hv : ∀ x ∈ l, 0 ≤ v x ∧ v x ≤ B)
    (hs : ∀ k (acc : Int) (i : Nat), i < l.length → 0 ≤ acc → acc ≤ B * i → L (k + 1) acc i = L k (acc + v (l.getD i d)) (wrap64 ((i : Int) + 1)))
    (he : ∀ k (acc : Int) (i : Nat), l.length ≤ i → L (k + 1) acc i = r acc) :
    ∀ n k (acc : Int) (i : Nat), i + n = l.length → n < k → 0 ≤ acc → acc ≤ B * i → L k acc i = r (acc + ((l.drop i).map v).sum) := by
  intro n
  induction n with
  | zero =>
    intro k acc i hi hk h0 h1
    obtain ⟨k, rfl, _⟩ := succ_of hk
    rw [he k acc i (by omega), List.drop_eq_nil_of_le (by omega)]; simp
  | succ n ih =>
    intro k acc i hi hk h0 h1
    obtain ⟨k, rfl, hk⟩ := succ_of hk
    have hlt : i < l.length := by omega
    have hm : l.getD i d ∈ l := by rw [List.getD_eq_getElem?_getD, List.getElem?_eq_getElem hlt]; exact List.getElem_mem hlt
    have := hv _ hm
    rw [hs k acc i hlt h0 h1, wstep hlt (by omega), drop_step hlt d, List.map_cons, List.sum_cons]
    have hB : B * ((i + 1 : Nat) : Int) = B * i + B := by push_cast; rw [Int.mul_add, Int.mul_one]
    rw [ih k _ (i + 1) (by omega) (by omega) (by omega) (by omega), Int.add_assoc]
/-- The same, where the end leans on all that was asked, and needs fuel of its own. -/
theorem idx_loop2 (L : Nat → Int → Option Bool) (q : Nat → Bool) (i0 n0 m0 : Nat) (e : Bool) (hb : n0 ≤ 9223372036854775806)
    (hs : ∀ k (i : Nat), i0 ≤ i → i < n0 → m0 ≤ k → L (k + 1) i = if q i = true then L k (wrap64 ((i : Int) + 1)) else some false) (he : (∀ j, i0 ≤ j → j < n0 → q j = true) → ∀ k, m0 ≤ k → L (k + 1) (n0 : Int) = some e) :
    ∀ n k (i : Nat), i0 ≤ i → i + n = n0 → n + m0 < k → (∀ j, i0 ≤ j → j < i → q j = true) → L k i = some (allR q i n && e) := by
  intro n
  induction n with
  | zero =>
    intro k i h0 hi hk hq
    obtain ⟨k, rfl, _⟩ := succ_of (show 0 < k by omega)
    obtain rfl : i = n0 := by omega
    rw [he hq k (by omega)]; simp [allR]
  | succ n ih =>
    intro k i h0 hi hk hq
    obtain ⟨k, rfl, hk'⟩ := succ_of (show 0 < k by omega)
    rw [hs k i h0 (by omega) (by omega), wstep (show i < n0 by omega) (by omega), allR_succ]
    cases hc : q i
    · simp
    · rw [if_pos rfl, ih k (i + 1) (by omega) (by omega) (by omega) (fun j h1 h2 => by
        by_cases hj : j = i
        · rw [hj]; exact hc
        · exact hq j h1 (by omega)), Bool.true_and]

end Go.Proofs.Ytiomfignokichaa.Pure

-- Qnewyarn
namespace Go.Proofs.Ytiomfignokichaa.Pure
open Go Go.RowKit Go.Proofs Go.Proofs.Ytiomfignokichaa.X Go.Proofs.YtiomfignokichaaW.PrintWords Go.Proofs.YtiomfignokichaaW.PrintLast
set_option linter.unusedVariables false
set_option linter.unusedSimpArgs false

def numB (n : Int) : Bool := decide (1 ≤ n ∧ n ≤ 999)
theorem isNumber_eq (n : Int) : impl_isNumber.f n = some (numB n) := by simp only [impl_isNumber.f, in_eq, Option.bind_some, numB]

end Go.Proofs.Ytiomfignokichaa.Pure

-- Qspecin
namespace Go.Proofs.Ytiomfignokichaa.Pure
open Go Go.RowKit Go.Proofs Go.Proofs.Ytiomfignokichaa.X Go.Proofs.YtiomfignokichaaW.PrintWords Go.Proofs.YtiomfignokichaaW.PrintLast
set_option linter.unusedVariables false
set_option linter.unusedSimpArgs false

theorem l1In_eq (x a b : Int) : spec_l1In.f x a b = some (decide (a ≤ x ∧ x ≤ b)) := by
  unfold spec_l1In.f
  by_cases h1 : a ≤ x <;> simp [h1]

end Go.Proofs.Ytiomfignokichaa.Pure

-- Qyarn
namespace Go.Proofs.Ytiomfignokichaa.Pure
open Go Go.RowKit Go.Proofs Go.Proofs.Ytiomfignokichaa.X Go.Proofs.YtiomfignokichaaW.PrintWords Go.Proofs.YtiomfignokichaaW.PrintLast
set_option linter.unusedVariables false
set_option linter.unusedSimpArgs false

def tallyB (n : Int) : Bool := decide (0 ≤ n ∧ n ≤ 100000)
def bobB (a : Int) (x : S66) : Bool := decide (1 ≤ x.f0 ∧ x.f0 ≤ a - 1) && (decide (0 ≤ x.f1 ∧ x.f1 ≤ 5) && decide (1 ≤ x.f2 ∧ x.f2 ≤ 100000))
def ascB (l : List S66) (j : Nat) : Bool := decide ((l.getD (j - 1) z66).f0 < (l.getD j z66).f0)
def bobsB (l : List S66) (a : Int) : Bool := l.all (bobB a) && allR (ascB l) 1 (l.length - 1)
def metersM (l : List S66) : Int := (l.map fun x => x.f2).sum
def yarnB (l : List S66) (a b c d : Int) : Bool :=
  (numB a && (tallyB b && (tallyB c && tallyB d))) && (decide (l.length ≤ 8) && (bobsB l a && decide (b = metersM l + c + d)))
theorem sumS_all {k : Nat} {l : List S66} (hk : l.length < k) (hl : l.length ≤ 1000) (hb : ∀ x ∈ l, 0 ≤ x.f2 ∧ x.f2 ≤ 100000) (a b c d : Int) : spec_l21Sum.f k l a b c d (-1) = some (metersM l) := by
  unfold spec_l21Sum.f
  have := sum_loop (fun k acc i => spec_l21Sum.l0 k (-1) acc i l a b c d) (fun x : S66 => x.f2) (fun a => some a) z66 100000 l (by omega) hb
    (fun k acc i h1 h2 h3 => by
      simp only [spec_l21Sum.l0, rdIB_nat]
      have hm : l.getD i z66 ∈ l := by rw [List.getD_eq_getElem?_getD, List.getElem?_eq_getElem h1]; exact List.getElem_mem h1
      have hw := hb _ hm
      rw [if_pos (by omega), if_pos (by trivial), if_pos (by omega), w64 (by omega) (by omega)])
    (fun k acc i h1 => by simp only [spec_l21Sum.l0]; rw [if_neg (by omega)])
    l.length k 0 0 (by omega) hk (by omega) (by omega)
  simpa [metersM] using this
theorem sumI_all {k : Nat} {l : List S66} (hk : l.length < k) (hl : l.length ≤ 1000) (hb : ∀ x ∈ l, 0 ≤ x.f2 ∧ x.f2 ≤ 100000) (a b c d : Int) : impl_YarnStore_sum.f k l a b c d = some (metersM l) := by
  unfold impl_YarnStore_sum.f
  have := sum_loop (fun k acc i => impl_YarnStore_sum.l0 k acc l (l.length : Int) i) (fun x : S66 => x.f2) (fun a => some a) z66 100000 l (by omega) hb
    (fun k acc i h1 h2 h3 => by
      simp only [impl_YarnStore_sum.l0, rdIB_nat]
      have hm : l.getD i z66 ∈ l := by rw [List.getD_eq_getElem?_getD, List.getElem?_eq_getElem h1]; exact List.getElem_mem h1
      have hw := hb _ hm
      rw [if_pos (by omega), if_pos (by omega), if_pos (by omega), w64 (by omega) (by omega)])
    (fun k acc i h1 => by simp only [impl_YarnStore_sum.l0]; rw [if_neg (by omega)])
    l.length k 0 0 (by omega) hk (by omega) (by omega)
  simpa [metersM] using this
theorem bob_m {l : List S66} {a : Int} (h : l.all (bobB a) = true) : ∀ x ∈ l, 0 ≤ x.f2 ∧ x.f2 ≤ 100000 := by
  intro x hx
  have := List.all_eq_true.mp h x hx
  simp only [bobB, Bool.and_eq_true, decide_eq_true_eq] at this
  omega
theorem meters_bd {l : List S66} (hb : ∀ x ∈ l, 0 ≤ x.f2 ∧ x.f2 ≤ 100000) : 0 ≤ metersM l ∧ metersM l ≤ 100000 * l.length := by
  unfold metersM
  induction l with
  | nil => simp
  | cons x l ih =>
    have h1 := hb x List.mem_cons_self
    have h2 := ih (fun y hy => hb y (List.mem_cons_of_mem _ hy))
    rw [List.map_cons, List.sum_cons, List.length_cons]
    push_cast
    omega
theorem bobs_eq (l : List S66) (a : Int) : allR (fun j => bobB a (l.getD j z66) && (decide (j = 0) || ascB l j)) 0 l.length = bobsB l a := by
  unfold bobsB
  rw [Bool.eq_iff_iff, Bool.and_eq_true, allR_iff, allR_iff, all_getD z66]
  constructor
  · intro h
    refine ⟨fun j hj => ?_, fun j h1 h2 => ?_⟩
    · have := h j (by omega) (by omega)
      rw [Bool.and_eq_true] at this; exact this.1
    · have := h j (by omega) (by omega)
      rw [Bool.and_eq_true, Bool.or_eq_true] at this
      rcases this.2 with h3 | h3
      · have := of_decide_eq_true h3; omega
      · exact h3
  · intro h j h1 h2
    rw [Bool.and_eq_true, Bool.or_eq_true]
    refine ⟨h.1 j (by omega), ?_⟩
    by_cases hj : j = 0
    · exact .inl (by simp [hj])
    · exact .inr (h.2 j (by omega) (by omega))
theorem yarnS_eq {k : Nat} {l : List S66} (hk : 20 < k) (hl : l.length ≤ 1073741824) {a b c d : Int} : spec_l21Good.f k l a b c d = some (yarnB l a b c d) := by
  obtain ⟨k, rfl, hk2⟩ := succ_of hk
  simp only [spec_l21Good.f, l1In_eq, Option.bind_some, yarnB, numB, tallyB, spec_l21Good.j0]
  cases ha : decide (1 ≤ a ∧ a ≤ 999)
  · simp
  cases hb : decide (0 ≤ b ∧ b ≤ 100000)
  · simp
  cases hc : decide (0 ≤ c ∧ c ≤ 100000)
  · simp
  cases hd : decide (0 ≤ d ∧ d ≤ 100000)
  · simp
  have ha := of_decide_eq_true ha; have hb := of_decide_eq_true hb; have hc := of_decide_eq_true hc; have hd := of_decide_eq_true hd
  by_cases h8 : (8 : Int) < l.length
  · simp [show ¬ l.length ≤ 8 by omega, h8]
  simp only [show decide ((l.length : Int) > 8) = false by simp; omega, show decide (l.length ≤ 8) = true by simp; omega, if_true, Bool.false_eq_true, if_false, Bool.true_and]
  have h := idx_loop2 (fun k i => spec_l21Good.l0 k i l a b c d) (fun j => bobB a (l.getD j z66) && (decide (j = 0) || ascB l j)) 0 l.length 9 (decide (b = metersM l + c + d)) (by omega)
    (fun k i _ h1 _ => by
      simp only [spec_l21Good.l0, rdIB_nat]
      rw [if_pos (by omega), if_pos (by omega), l1In_eq, w64 (x := a - 1) (by omega) (by omega)]
      simp only [spec_l2Color.f, spec_l21Meters.f, l1In_eq, Option.bind_some]
      have hbob : bobB a (l.getD i z66) = (decide (1 ≤ (l.getD i z66).f0 ∧ (l.getD i z66).f0 ≤ a - 1) && (decide (0 ≤ (l.getD i z66).f1 ∧ (l.getD i z66).f1 ≤ 5) && decide (1 ≤ (l.getD i z66).f2 ∧ (l.getD i z66).f2 ≤ 100000))) := rfl
      obtain ⟨p1, e1⟩ : ∃ p1, decide (1 ≤ (l.getD i z66).f0 ∧ (l.getD i z66).f0 ≤ a - 1) = p1 := ⟨_, rfl⟩
      obtain ⟨p2, e2⟩ : ∃ p2, decide (0 ≤ (l.getD i z66).f1 ∧ (l.getD i z66).f1 ≤ 5) = p2 := ⟨_, rfl⟩
      obtain ⟨p3, e3⟩ : ∃ p3, decide (1 ≤ (l.getD i z66).f2 ∧ (l.getD i z66).f2 ≤ 100000) = p3 := ⟨_, rfl⟩
      rw [hbob, e1, e2, e3]
      clear hbob e1 e2 e3
      cases p1
      · simp
      cases p2
      · simp
      cases p3
      · simp
      by_cases hi : i = 0
      · subst hi; simp
      · simp only [if_true, Bool.true_and]
        rw [if_pos (by omega), w64 (x := (i : Int) - 1) (by omega) (by omega), if_pos (by omega), if_pos (by omega), show (i : Int) - 1 = ((i - 1 : Nat) : Int) by omega, rdIB_nat]
        by_cases hc : (l.getD (i - 1) z66).f0 < (l.getD i z66).f0
        · rw [if_neg (by omega)]; simp only [ascB, hc, decide_true, Bool.or_true, if_true]
        · rw [if_pos (by omega)]; simp only [ascB, hc, decide_false, Bool.or_false, hi, Bool.false_eq_true, if_false])
    (fun hq k hk => by
      have hall : l.all (bobB a) = true := by
        rw [all_getD z66]
        intro j hj
        have := hq j (by omega) hj
        rw [Bool.and_eq_true] at this; exact this.1
      have hm := bob_m hall
      have hs := meters_bd hm
      simp only [spec_l21Good.l0]
      rw [if_neg (by omega), sumS_all (by omega) (by omega) hm]
      simp only [Option.bind_some]
      rw [w64 (x := metersM l + c) (by omega) (by omega), w64 (by omega) (by omega)]
      congr 1)
    l.length k 0 (by omega) (by omega) (by omega) (fun j h1 h2 => by omega)
  refine h.trans (congrArg some ?_)
  rw [bobs_eq]
theorem yarnI_eq {k : Nat} {l : List S66} (hk : l.length + 1 < k) (hl : l.length ≤ 1073741824) {a b c d : Int} : impl_IsYarnStore.f k l a b c d = some (yarnB l a b c d) := by
  obtain ⟨k, rfl, hk2⟩ := succ_of hk
  have hasc : impl_Bobbin__impl_IsYarnStore_2.f (k + 1) l = some (allR (ascB l) 1 (l.length - 1)) := by
    by_cases h0 : l.length = 0
    · simp only [impl_Bobbin__impl_IsYarnStore_2.f, impl_Bobbin__impl_IsYarnStore_2.l0]
      rw [if_neg (by omega), h0]; simp [allR]
    have h := idx_loop (fun k i => impl_Bobbin__impl_IsYarnStore_2.l0 k l i) (ascB l) 1 l.length true (by omega)
      (fun k i h0 h1 => by
        simp only [impl_Bobbin__impl_IsYarnStore_2.l0, impl_IsYarnStore_2.f, Option.bind_some]
        rw [if_pos (by omega), w64 (x := (i : Int) - 1) (by omega) (by omega), if_pos (by omega), if_pos (by omega), show (i : Int) - 1 = ((i - 1 : Nat) : Int) by omega, rdIB_nat, rdIB_nat, if_pos (by omega)]
        by_cases hc : (l.getD (i - 1) z66).f0 < (l.getD i z66).f0
        · rw [if_neg (by omega)]; simp only [ascB, hc, decide_true, if_true]
        · rw [if_pos (by omega)]; simp only [ascB, hc, decide_false, Bool.false_eq_true, if_false])
      (fun k i h1 => by simp only [impl_Bobbin__impl_IsYarnStore_2.l0]; rw [if_neg (by omega)])
      (l.length - 1) (k + 1) 1 (by omega) (by omega) (by omega)
    unfold impl_Bobbin__impl_IsYarnStore_2.f
    rw [show ((1 : Nat) : Int) = 1 from rfl] at h
    rw [h]; simp
  simp only [impl_IsYarnStore.f, hasc, isNumber_eq, Option.bind_some, yarnB, impl_IsYarnStore.j0, impl_isTally.f, in_eq]
  cases ha : numB a
  · simp
  have ha' : 1 ≤ a ∧ a ≤ 999 := of_decide_eq_true ha
  by_cases h8 : (8 : Int) < l.length
  · simp [show ¬ l.length ≤ 8 by omega, h8]
  rw [if_pos rfl, if_neg (by omega)]
  simp only [impl_Bobbin__impl_IsYarnStore_1.f]
  rw [Ho.allO_eq (q := bobB a) (fun x _ => by
    simp only [impl_IsYarnStore_1.f, in_eq, impl_isColor.f, impl_isMeters.f, Option.bind_some, bobB]
    rw [w64 (x := a - 1) (by omega) (by omega)]
    cases decide (1 ≤ x.f0 ∧ x.f0 ≤ a - 1) <;> cases decide (0 ≤ x.f1 ∧ x.f1 ≤ 5) <;> rfl)]
  simp only [Option.bind_some, show decide (l.length ≤ 8) = true by simp; omega, bobsB]
  cases hall : l.all (bobB a)
  · simp
  have hm := bob_m hall
  have hs := meters_bd hm
  cases allR (ascB l) 1 (l.length - 1)
  · simp
  simp only [if_true, Bool.not_true, Bool.false_eq_true, if_false, Bool.true_and]
  show (if tallyB b = true then _ else _) = _
  cases hb : tallyB b
  · simp
  show (if tallyB c = true then _ else _) = _
  cases hc : tallyB c
  · simp
  show (if tallyB d = true then _ else _) = _
  cases hd : tallyB d
  · simp
  have hb := of_decide_eq_true hb; have hc := of_decide_eq_true hc; have hd := of_decide_eq_true hd
  simp only [if_true, Bool.and_self, Bool.true_and]
  rw [sumI_all (by omega) (by omega) hm]
  simp only [Option.bind_some]
  rw [w64 (x := metersM l + c) (by omega) (by omega), w64 (by omega) (by omega)]
  congr 1

end Go.Proofs.Ytiomfignokichaa.Pure

-- Qofcolor
namespace Go.Proofs.Ytiomfignokichaa.Pure
open Go Go.RowKit Go.Proofs Go.Proofs.Ytiomfignokichaa.X Go.Proofs.YtiomfignokichaaW.PrintWords Go.Proofs.YtiomfignokichaaW.PrintLast
set_option linter.unusedVariables false
set_option linter.unusedSimpArgs false

def colQ (c : Int) (x : S66) : Bool := !(x.f1 != c)
theorem ofColor_eq {k : Nat} {l : List S66} (hk : l.length < k) (hl : l.length ≤ 1048576) (a b c d col : Int) : impl_YarnStore_ofColor.f k l a b c d col = some (l.filter (colQ col)) := by
  have h82 : impl_Bobbin_82.f l = some l := by
    simp only [impl_Bobbin_82.f, Option.bind_some, List.length_nil, List.nil_append]
    rw [if_pos (by omega)]
  simp only [impl_YarnStore_ofColor.f, h82, Option.bind_some, slices_DeleteFunc__impl_Bobbin__impl_YarnStore_ofColor_1.f, impl_Bobbin__impl_YarnStore_ofColor_1.f]
  rw [del_eq z66 (fun k s o j => slices_DeleteFunc__impl_Bobbin__impl_YarnStore_ofColor_1.l0 k s o j col) (fun (x_ : S66) => impl_YarnStore_ofColor_1.f x_.f0 x_.f1 x_.f2 col) (fun x => x.f1 != col) l (fun x _ => rfl) hl
    (fun k s o j h1 h2 h3 => by
      simp only [slices_DeleteFunc__impl_Bobbin__impl_YarnStore_ofColor_1.l0, rdIB_nat, impl_YarnStore_ofColor_1.f, Option.bind_some]
      rw [if_pos (by omega), if_pos (by omega), if_pos (show (0 : Int) ≤ (o : Int) by omega), if_pos (show (o : Int) < (s.length : Int) by omega), Int.toNat_natCast])
    (fun k s o h2 h3 => by
      simp only [slices_DeleteFunc__impl_Bobbin__impl_YarnStore_ofColor_1.l0]
      rw [if_neg (by omega), if_pos (by omega), if_pos (by omega), Int.toNat_natCast]) hk]
  rfl
theorem yarn_of {l : List S66} {a b c d : Int} (h : yarnB l a b c d = true) : l.length ≤ 8 ∧ (∀ x ∈ l, (1 ≤ x.f0 ∧ x.f0 ≤ 998) ∧ (0 ≤ x.f1 ∧ x.f1 ≤ 5) ∧ (1 ≤ x.f2 ∧ x.f2 ≤ 100000)) ∧ ∀ j, 1 ≤ j → j < l.length → (l.getD (j - 1) z66).f0 < (l.getD j z66).f0 := by
  simp only [yarnB, bobsB, Bool.and_eq_true, decide_eq_true_eq] at h
  obtain ⟨⟨ha, _⟩, h8, ⟨hall, hasc⟩, _⟩ := h
  have ha : 1 ≤ a ∧ a ≤ 999 := of_decide_eq_true ha
  refine ⟨h8, fun x hx => ?_, fun j h1 h2 => ?_⟩
  · have := List.all_eq_true.mp hall x hx
    simp only [bobB, Bool.and_eq_true, decide_eq_true_eq] at this
    omega
  · have := allR_iff.mp hasc j h1 (by omega)
    exact of_decide_eq_true this
def colB (c : Int) : Bool := decide (0 ≤ c ∧ c ≤ 5)
def metB (m : Int) : Bool := decide (1 ≤ m ∧ m ≤ 100000)

end Go.Proofs.Ytiomfignokichaa.Pure

-- Qties
namespace Go.Proofs.Ytiomfignokichaa.Pure
open Go Go.RowKit Go.Proofs Go.Proofs.Ytiomfignokichaa.X Go.Proofs.YtiomfignokichaaW.PrintWords Go.Proofs.YtiomfignokichaaW.PrintLast
set_option linter.unusedVariables false
set_option linter.unusedSimpArgs false

def ltT (x y : S66) : Bool := decide (y.f2 < x.f2)
/-- the longer one first; of two that are as long, the one with the smaller number -/
def relT (x y : S66) : Prop := x.f2 > y.f2 ∨ (x.f2 = y.f2 ∧ x.f0 < y.f0)
theorem relT_trans (a b c : S66) (h1 : relT a b) (h2 : relT b c) : relT a c := by unfold relT at *; omega
theorem relT_asymm {a b : S66} (h1 : relT a b) (h2 : relT b a) : False := by unfold relT at *; omega
theorem sortedT : ∀ (l P : List S66), P.Pairwise relT → (∀ y ∈ P, ∀ x ∈ l, y.f0 < x.f0) → l.Pairwise (fun a b => a.f0 < b.f0) → (isortB ltT P l).Pairwise relT := by
  intro l
  induction l with
  | nil => intro P h _ _; exact h
  | cons x l ih =>
    intro P hP hlt hl
    rw [List.pairwise_cons] at hl
    show (isortB ltT (insB ltT P.reverse x) l).Pairwise relT
    refine ih _ (insB_sorted ltT relT relT_trans P.reverse x (by rw [List.reverse_reverse]; exact hP) (fun y _ h => ?_) (fun y hy h => ?_)) (fun y hy w hw => ?_) hl.2
    · unfold ltT at h
      exact .inl (of_decide_eq_true h)
    · unfold ltT at h
      have h := of_decide_eq_false h
      have := hlt y (List.mem_reverse.mp hy) x List.mem_cons_self
      unfold relT; omega
    · rcases List.mem_cons.mp ((insB_perm ltT P.reverse x).mem_iff.mp hy) with e | e
      · subst e; exact hl.1 w hw
      · exact hlt y (List.mem_reverse.mp e) w (List.mem_cons_of_mem _ hw)
theorem lenT_ex {k n : Nat} (hl : n ≤ 8) (hk : 200 < k) : ∃ b, bits_Len.f k (IntKind.u64.wrap (n : Int)) = some b := by
  have hw : IntKind.u64.wrap (n : Int) = (n : Int) := by simp [IntKind.wrap, IntKind.bits, IntKind.signed]; omega
  obtain ⟨k, rfl, _⟩ := succ_of (show 0 < k by omega)
  obtain ⟨b, hb⟩ := bitsLen_ex k (n : Int) (by omega)
  exact ⟨b, by rw [hw]; exact hb⟩
theorem pdqT_eq {k : Nat} {l : List S66} (hl : l.length ≤ 8) (hk : 200 ≤ k) (k0 : Int) : slices_pdqsortCmpFunc__impl_Bobbin__impl_TiesFor_1.f (k + 1) l 0 (l.length : Int) k0 = some (isortB ltT [] l) := by
  unfold slices_pdqsortCmpFunc__impl_Bobbin__impl_TiesFor_1.f
  rw [slices_pdqsortCmpFunc__impl_Bobbin__impl_TiesFor_1.l0]
  rw [Int.sub_zero, w64 (x := (l.length : Int)) (by omega) (by omega), if_pos (by omega)]
  unfold slices_insertionSortCmpFunc__impl_Bobbin__impl_TiesFor_1.f
  rw [Int.zero_add]
  rw [show wrap64 1 = 1 from w64 (by omega) (by omega)]
  rw [ins_eq z66 ltT l (by omega) (fun k s i => slices_insertionSortCmpFunc__impl_Bobbin__impl_TiesFor_1.l0 k s 0 (l.length : Int) i) (fun k s i j => slices_insertionSortCmpFunc__impl_Bobbin__impl_TiesFor_1.l1 k s 0 (l.length : Int) i j)
    (fun k s i j h0 h1 h2 => by
      simp only [slices_insertionSortCmpFunc__impl_Bobbin__impl_TiesFor_1.l1]
      rw [w64 (x := (j : Int) - 1) (by omega) (by omega), if_pos (by omega), if_pos (by omega), if_pos (by omega), if_pos (by omega), if_pos (by omega), show (j : Int) - 1 = ((j - 1 : Nat) : Int) by omega]
      simp only [rdIB_nat, impl_TiesFor_1.f, cmpI_eq, Option.bind_some, Int.toNat_natCast]
      by_cases g : (s.getD (j - 1) z66).f2 < (s.getD j z66).f2
      · rw [if_pos (by unfold cmpI; rw [if_pos g]; omega), if_pos (show ltT _ _ = true from decide_eq_true g)]
      · rw [if_neg (by unfold cmpI; rw [if_neg g]; split <;> omega), if_neg (by unfold ltT; rw [decide_eq_false g]; simp)])
    (fun k s i => by
      simp only [slices_insertionSortCmpFunc__impl_Bobbin__impl_TiesFor_1.l1]
      rw [if_neg (by omega)])
    (fun k s i h => by
      simp only [slices_insertionSortCmpFunc__impl_Bobbin__impl_TiesFor_1.l0]
      rw [if_pos (by omega)])
    (fun k s i h => by
      simp only [slices_insertionSortCmpFunc__impl_Bobbin__impl_TiesFor_1.l0]
      rw [if_neg (by omega)]) (by have : (l.length + 1) * (l.length + 3) ≤ 9 * 11 := Nat.mul_le_mul (by omega) (by omega); omega)]
  rfl
theorem sortT_eq {k : Nat} {l : List S66} (hl : l.length ≤ 8) (hk : 200 < k) : slices_SortFunc__impl_Bobbin__impl_TiesFor_1.f k l = some (isortB ltT [] l) := by
  obtain ⟨b, hb⟩ := lenT_ex (k := k) (n := l.length) hl hk
  unfold slices_SortFunc__impl_Bobbin__impl_TiesFor_1.f
  rw [hb]
  clear hb
  obtain ⟨k, rfl, hk2⟩ := succ_of hk
  rw [Option.bind_some, pdqT_eq hl hk2 b]
  rfl
/-- how many ties: the longest are taken one after the other -/
def scanT (m : Int) : List S66 → Int → Nat → Int × Bool
  | [], _, _ => (0, false)
  | x :: r, s, t => if s + x.f2 - t ≥ m then ((t : Int), true) else scanT m r (s + x.f2) (t + 1)
def tiesM (l : List S66) (a b c d col m : Int) : Int × Bool := if yarnB l a b c d && (colB col && metB m) then scanT m (isortB ltT [] (l.filter (colQ col))) 0 0 else (0, false)
theorem scanI {S : List S66} {m : Int} (h8 : S.length ≤ 8) (hx : ∀ x ∈ S, 0 ≤ x.f2 ∧ x.f2 ≤ 100000) : ∀ (n k i : Nat) (s : Int), i + n = S.length → n < k → 0 ≤ s → s ≤ 100000 * i → impl_TiesFor.l0 k m s S (S.length : Int) (i : Int) = some (scanT m (S.drop i) s i) := by
  intro n
  induction n with
  | zero =>
    intro k i s hi hk h1 h2
    obtain ⟨k, rfl, _⟩ := succ_of hk
    rw [impl_TiesFor.l0, if_neg (by omega), List.drop_eq_nil_of_le (by omega)]; rfl
  | succ n ih =>
    intro k i s hi hk h1 h2
    obtain ⟨k, rfl, _⟩ := succ_of hk
    have hlt : i < S.length := by omega
    have hm : S.getD i z66 ∈ S := by rw [List.getD_eq_getElem?_getD, List.getElem?_eq_getElem hlt]; exact List.getElem_mem hlt
    have hb := hx _ hm
    rw [impl_TiesFor.l0, if_pos (by omega), if_pos (by omega), if_pos (by omega), rdIB_nat, drop_step hlt z66, scanT]
    rw [w64 (x := s + _) (by omega) (by omega), w64 (x := s + _ - _) (by omega) (by omega), wstep hlt (by omega)]
    by_cases g : s + (S.getD i z66).f2 - (i : Int) ≥ m
    · rw [if_pos g, if_pos g]
    · rw [if_neg g, if_neg g, ih k (i + 1) _ (by omega) (by omega) (by omega) (by push_cast; omega)]
theorem tiesI_eq {k : Nat} {l : List S66} (hk : l.length + 300 < k) (hl : l.length ≤ 1048576) (a b c d col m : Int) : impl_TiesFor.f k l a b c d col m = some (tiesM l a b c d col m) := by
  obtain ⟨k, rfl, hk1⟩ := succ_of hk
  obtain ⟨py, hy⟩ : ∃ py, yarnB l a b c d = py := ⟨_, rfl⟩
  obtain ⟨pc, hc⟩ : ∃ pc, decide (0 ≤ col ∧ col ≤ 5) = pc := ⟨_, rfl⟩
  obtain ⟨pm, hm⟩ : ∃ pm, decide (1 ≤ m ∧ m ≤ 100000) = pm := ⟨_, rfl⟩
  simp only [hy, hc, hm, impl_TiesFor.f, impl_TiesFor.j0, yarnI_eq (k := k + 1) (l := l) (by omega) (by omega), impl_isColor.f, impl_isMeters.f, in_eq, Option.bind_some, tiesM, colB, metB]
  cases py
  · simp
  cases pc
  · simp
  cases pm
  · simp
  obtain ⟨h8, hx, _⟩ := yarn_of hy
  have hfl : (l.filter (colQ col)).length ≤ l.length := List.length_filter_le _ _
  have hp := isortB_perm ltT (l.filter (colQ col)) []
  rw [List.nil_append] at hp
  have hlen := hp.length_eq
  simp only [if_true, Bool.not_true, Bool.false_eq_true, if_false, Bool.and_self, ofColor_eq (k := k) (l := l) (by omega) hl a b c d col, sortT_eq (k := k) (l := l.filter (colQ col)) (by omega) (by omega), Option.bind_some]
  rw [← hlen]
  have h := scanI (S := isortB ltT [] (l.filter (colQ col))) (m := m) (by omega) (fun x hxm => by
    have := hx x (List.mem_filter.mp (hp.mem_iff.mp hxm)).1
    omega) (isortB ltT [] (l.filter (colQ col))).length k 0 0 (by omega) (by omega) (by omega) (by omega)
  rw [show ((0 : Nat) : Int) = 0 from rfl] at h
  rw [h]; rfl

end Go.Proofs.Ytiomfignokichaa.Pure

-- Qnestinv
namespace Go.Proofs.Ytiomfignokichaa.Pure
open Go Go.RowKit Go.Proofs Go.Proofs.YtiomfignokichaaW.PrintWords Go.Proofs.YtiomfignokichaaW.PrintLast
set_option linter.unusedVariables false
set_option linter.unusedSimpArgs false

theorem nest_inv {σ β : Type} (Lin : Nat → σ → Int → Option β) (Lout : Nat → σ → Option β) (step : σ → Nat → σ) (I : Nat → σ → Prop) (n0 m0 : Nat)
    (hs : ∀ (i : Nat) (s : σ), i < n0 → I i s → I (i + 1) (step s i) ∧ ∃ c, ∀ k, m0 ≤ k → Lin (k + c) s (i : Int) = Lin k (step s i) ((i + 1 : Nat) : Int)) (he : ∀ k s, I n0 s → Lin (k + 1) s (n0 : Int) = Lout k s) :
    ∀ (n i : Nat) (s : σ), i + n = n0 → I i s → I n0 ((List.range' i n).foldl step s) ∧ ∃ c, ∀ k, m0 ≤ k → Lin (k + c) s (i : Int) = Lout k ((List.range' i n).foldl step s) := by
  intro n
  induction n with
  | zero =>
    intro i s hi hI
    obtain rfl : i = n0 := by omega
    exact ⟨hI, 1, fun k _ => by rw [he k s hI]; rfl⟩
  | succ n ih =>
    intro i s hi hI
    obtain ⟨hI1, c1, h1⟩ := hs i s (by omega) hI
    obtain ⟨hI2, c2, h2⟩ := ih (i + 1) (step s i) (by omega) hI1
    refine ⟨hI2, c2 + c1, fun k hk => ?_⟩
    rw [show k + (c2 + c1) = (k + c2) + c1 by omega, h1 (k + c2) (by omega), h2 k hk, List.range'_succ, List.foldl_cons]
theorem ex_max (P : Nat → Nat → Prop) (n : Nat) (h : ∀ i, i < n → ∃ m, ∀ k, m ≤ k → P i k) : ∃ m, ∀ i, i < n → ∀ k, m ≤ k → P i k := by
  induction n with
  | zero => exact ⟨0, fun i hi => absurd hi (Nat.not_lt_zero i)⟩
  | succ n ih =>
    obtain ⟨m, hm⟩ := ih (fun i hi => h i (by omega))
    obtain ⟨m2, hm2⟩ := h n (by omega)
    refine ⟨m + m2, fun i hi k hk => ?_⟩
    by_cases e : i = n
    · subst e; exact hm2 k (by omega)
    · exact hm i (by omega) k (by omega)
theorem foldl_app {α : Type} (f : Nat → List α) : ∀ (l : List Nat) (s : List α), l.foldl (fun s r => s ++ f r) s = s ++ l.flatMap f := by
  intro l
  induction l with
  | nil => intro s; simp
  | cons x l ih => intro s; rw [List.foldl_cons, ih, List.flatMap_cons, List.append_assoc]

end Go.Proofs.Ytiomfignokichaa.Pure

-- Qpicks
namespace Go.Proofs.Ytiomfignokichaa.Pure
open Go Go.RowKit Go.Proofs Go.Proofs.YtiomfignokichaaW.PrintWords Go.Proofs.YtiomfignokichaaW.PrintLast
set_option linter.unusedVariables false
set_option linter.unusedSimpArgs false

/-- A loop that collects the numbers of which q holds. -/
theorem pick_loop {β : Type} (L : Nat → List Int → Int → Option β) (q : Nat → Bool) (r : List Int → Option β) (n0 m0 : Nat) (hb : n0 ≤ 9223372036854775806)
    (hs : ∀ k out (i : Nat), i < n0 → out.length ≤ i → m0 ≤ k → L (k + 1) out i = if q i = true then L k (out ++ [(i : Int)]) (wrap64 ((i : Int) + 1)) else L k out (wrap64 ((i : Int) + 1))) (he : ∀ k out, L (k + 1) out (n0 : Int) = r out) :
    ∀ n k (i : Nat) (out : List Int), i + n = n0 → n + m0 < k → out.length ≤ i → L k out i = r (out ++ ((List.range' i n).filter q).map fun (j : Nat) => (j : Int)) := by
  intro n
  induction n with
  | zero =>
    intro k i out hi hk ho
    obtain ⟨k, rfl, _⟩ := succ_of (show 0 < k by omega)
    obtain rfl : i = n0 := by omega
    rw [he]; simp
  | succ n ih =>
    intro k i out hi hk ho
    obtain ⟨k, rfl, hk'⟩ := succ_of (show 0 < k by omega)
    rw [hs k out i (by omega) ho (by omega), wstep (show i < n0 by omega) (by omega), List.range'_succ]
    cases hq : q i
    · simp only [Bool.false_eq_true, if_false]
      rw [ih k (i + 1) out (by omega) (by omega) (by omega), List.filter_cons_of_neg (by simp [hq])]
    · simp only [if_true]
      rw [ih k (i + 1) _ (by omega) (by omega) (by rw [List.length_append, List.length_singleton]; omega), List.filter_cons_of_pos hq, List.map_cons, List.append_assoc]; rfl
/-- A loop that looks for an element. -/
theorem any_loop {α : Type} (L : Nat → Int → Option Bool) (q : α → Bool) (d : α) (l : List α) (hb : l.length ≤ 9223372036854775806)
    (hs : ∀ k (i : Nat), i < l.length → L (k + 1) i = if q (l.getD i d) = true then some true else L k (wrap64 ((i : Int) + 1))) (he : ∀ k (i : Nat), l.length ≤ i → L (k + 1) i = some false) :
    ∀ n k (i : Nat), i + n = l.length → n < k → L k i = some ((l.drop i).any q) := by
  intro n
  induction n with
  | zero =>
    intro k i hi hk
    obtain ⟨k, rfl, _⟩ := succ_of hk
    rw [he k i (by omega), List.drop_eq_nil_of_le (by omega)]; rfl
  | succ n ih =>
    intro k i hi hk
    obtain ⟨k, rfl, hk⟩ := succ_of hk
    rw [hs k i (by omega), wstep (show i < l.length by omega) (by omega), drop_step (by omega) d, List.any_cons, ih k (i + 1) (by omega) (by omega)]
    cases q (l.getD i d) <;> simp

end Go.Proofs.Ytiomfignokichaa.Pure

-- QtiesS
namespace Go.Proofs.Ytiomfignokichaa.Pure
open Go Go.RowKit Go.Proofs Go.Proofs.Ytiomfignokichaa.X Go.Proofs.YtiomfignokichaaW.PrintWords Go.Proofs.YtiomfignokichaaW.PrintLast
set_option linter.unusedVariables false
set_option linter.unusedSimpArgs false

theorem hasS_eq {k : Nat} {t : List Int} (hk : t.length < k) (hl : t.length ≤ 1048576) (v : Int) : spec_l1Has.f k t v = some (t.any fun y => decide (y = v)) := by
  unfold spec_l1Has.f
  have := any_loop (fun k i => spec_l1Has.l0 k t v i) (fun y => decide (y = v)) 0 t (by omega)
    (fun k i h => by
      simp only [spec_l1Has.l0]
      rw [if_pos (by omega), if_pos (by omega), rd_nat]
      by_cases g : t.getD i 0 = v
      · rw [if_pos g, if_pos (decide_eq_true g)]
      · rw [if_neg g, if_neg (by simpa using g)])
    (fun k i h => by simp only [spec_l1Has.l0]; rw [if_neg (by omega)])
    t.length k 0 (by omega) hk
  simpa using this
def candT (c : Int) (t : List Int) (x : S66) : Bool := decide (x.f1 = c) && !(t.any fun y => decide (y = x.f0))
def stepT (l : List S66) (c : Int) (t : List Int) (s : Int) (i : Nat) : Int := if candT c t (l.getD i z66) = true then (if s < 0 then (i : Int) else if (l.getD i z66).f2 > (l.getD s.toNat z66).f2 then (i : Int) else s) else s
theorem asc_lt {l : List S66} (h : ∀ j, 1 ≤ j → j < l.length → (l.getD (j - 1) z66).f0 < (l.getD j z66).f0) : ∀ n i, i + n + 1 < l.length → (l.getD i z66).f0 < (l.getD (i + n + 1) z66).f0 := by
  intro n
  induction n with
  | zero => intro i hi; have := h (i + 1) (by omega) (by omega); simpa using this
  | succ n ih =>
    intro i hi
    have h1 := ih i (by omega)
    have h2 := h (i + (n + 1) + 1) (by omega) (by omega)
    rw [show i + (n + 1) + 1 - 1 = i + n + 1 by omega] at h2
    omega
theorem asc_pw {l : List S66} (h : ∀ j, 1 ≤ j → j < l.length → (l.getD (j - 1) z66).f0 < (l.getD j z66).f0) : l.Pairwise (fun a b => a.f0 < b.f0) := by
  rw [List.pairwise_iff_getElem]
  intro i j hi hj hij
  have := asc_lt h (j - i - 1) i (by omega)
  rw [show i + (j - i - 1) + 1 = j by omega] at this
  rwa [List.getD_eq_getElem?_getD, List.getElem?_eq_getElem hi, List.getD_eq_getElem?_getD, List.getElem?_eq_getElem hj] at this
/-- what the inner loop finds -/
def bestT (l : List S66) (c : Int) (t : List Int) (n : Nat) (s : Int) : Prop :=
  -1 ≤ s ∧ s < n ∧ (s < 0 → ∀ j, j < n → candT c t (l.getD j z66) = false) ∧ (0 ≤ s → candT c t (l.getD s.toNat z66) = true ∧ ∀ j, j < n → candT c t (l.getD j z66) = true → l.getD j z66 = l.getD s.toNat z66 ∨ relT (l.getD s.toNat z66) (l.getD j z66))
theorem bestT_step {l : List S66} {c : Int} {t : List Int} (h : ∀ j, 1 ≤ j → j < l.length → (l.getD (j - 1) z66).f0 < (l.getD j z66).f0) {i : Nat} {s : Int} (hi : i < l.length) (hs : bestT l c t i s) : bestT l c t (i + 1) (stepT l c t s i) := by
  obtain ⟨h1, h2, h3, h4⟩ := hs
  unfold stepT
  by_cases g : candT c t (l.getD i z66) = true
  · rw [if_pos g]
    by_cases g0 : s < 0
    · rw [if_pos g0]
      refine ⟨by omega, by omega, fun e => by omega, fun _ => ⟨by rw [Int.toNat_natCast]; exact g, fun j hj hc => ?_⟩⟩
      by_cases e : j = i
      · subst e; rw [Int.toNat_natCast]; exact .inl rfl
      · rw [h3 g0 j (by omega)] at hc; exact absurd hc (by simp)
    · rw [if_neg g0]
      obtain ⟨p1, p2⟩ := h4 (by omega)
      by_cases g2 : (l.getD i z66).f2 > (l.getD s.toNat z66).f2
      · rw [if_pos g2]
        refine ⟨by omega, by omega, fun e => by omega, fun _ => ⟨by rw [Int.toNat_natCast]; exact g, fun j hj hc => ?_⟩⟩
        rw [Int.toNat_natCast]
        by_cases e : j = i
        · subst e; exact .inl rfl
        · rcases p2 j (by omega) hc with q | q
          · rw [q]; exact .inr (.inl g2)
          · exact .inr (relT_trans _ _ _ (.inl g2) q)
      · rw [if_neg g2]
        refine ⟨h1, by omega, fun e => absurd e g0, fun _ => ⟨p1, fun j hj hc => ?_⟩⟩
        by_cases e : j = i
        · subst e
          obtain ⟨q, rfl⟩ := nat_of (show 0 ≤ s by omega)
          rw [Int.toNat_natCast] at g2 ⊢
          have := asc_lt h (j - q - 1) q (by omega)
          rw [show q + (j - q - 1) + 1 = j by omega] at this
          exact .inr (by unfold relT; omega)
        · exact p2 j (by omega) hc
  · rw [if_neg g]
    refine ⟨h1, by omega, fun e j hj => ?_, fun e => ⟨(h4 e).1, fun j hj hc => ?_⟩⟩
    · by_cases q : j = i
      · subst q; simpa using g
      · exact h3 e j (by omega)
    · by_cases q : j = i
      · subst q; exact absurd hc g
      · exact (h4 e).2 j (by omega) hc
/-- what follows behind the inner loop -/
def outT (k : Nat) (col m : Int) (t : List Int) (s r : Int) (l : List S66) (a b c d : Int) : Option (Int × Bool) := if r < 0 then (some (0, false)) else (if 0 ≤ r then (if r < (l.length : Int) then (if t.length < 17592186044416 then ((some (t ++ [(rd_T66 l r).f0] : List Int)).bind fun y113 => (if (wrap64 ((wrap64 ((wrap64 (s + ((rd_T66 l r).f2))) - (y113.length : Int))) + 1)) ≥ m then (some (wrap64 ((y113.length : Int) - 1), true)) else (spec_TiesFor.l0 k col m y113 (wrap64 (s + ((rd_T66 l r).f2))) l a b c d))) else (none)) else (none)) else (none))
theorem innerT {l : List S66} (h : ∀ j, 1 ≤ j → j < l.length → (l.getD (j - 1) z66).f0 < (l.getD j z66).f0) (h8 : l.length ≤ 8) (a b c d col m : Int) (t : List Int) (ht : t.length ≤ 8) (s : Int) : ∃ r, bestT l col t l.length r ∧ ∃ q, ∀ k, 10 ≤ k → spec_TiesFor.l1 (k + q) col m t s (-1) 0 l a b c d = outT k col m t s r l a b c d := by
  obtain ⟨hI, q, hq⟩ := nest_inv (fun k (s' : Int) i => spec_TiesFor.l1 k col m t s s' i l a b c d) (fun k r => outT k col m t s r l a b c d) (stepT l col t) (bestT l col t) l.length 10
    (fun i s' hi hs => by
      refine ⟨bestT_step h hi hs, 1, fun k hk => ?_⟩
      obtain ⟨hs1, hs2, _, _⟩ := hs
      simp only [spec_TiesFor.l1, rdIB_nat]
      rw [if_pos (by omega), if_pos (by omega)]
      unfold stepT candT
      by_cases g1 : (l.getD i z66).f1 = col
      · rw [if_pos g1, hasS_eq (by omega) (by omega), decide_eq_true g1, Bool.true_and]
        simp only [Option.bind_some]
        cases t.any fun y => decide (y = (l.getD i z66).f0)
        · simp only [Bool.false_eq_true, if_false, Bool.not_false, if_true]
          by_cases g0 : s' < 0
          · rw [if_pos g0, if_pos g0, wstep hi (by omega)]
          · obtain ⟨j, rfl⟩ := nat_of (show 0 ≤ s' by omega)
            rw [if_neg g0, if_neg g0, if_pos (by omega), if_pos (by omega), rdIB_nat, Int.toNat_natCast, wstep hi (by omega)]
            by_cases g4 : (l.getD i z66).f2 > (l.getD j z66).f2
            · rw [if_pos g4, if_pos g4]
            · rw [if_neg g4, if_neg g4]
        · simp only [if_true, Bool.not_true, Bool.false_eq_true, if_false]
          rw [wstep hi (by omega)]
      · rw [if_neg g1, decide_eq_false g1, wstep hi (by omega)]
        simp only [Bool.false_and, Bool.false_eq_true, if_false])
    (fun k s' hs => by
      simp only [spec_TiesFor.l1]
      rw [if_neg (by omega)]
      rfl)
    l.length 0 (-1) (by omega) ⟨by omega, by omega, fun _ j hj => by omega, fun e => by omega⟩
  exact ⟨_, hI, q, fun k hk => hq k hk⟩
theorem cand_iff {c : Int} {t : List Int} {x : S66} : candT c t x = true ↔ x.f1 = c ∧ x.f0 ∉ t := by
  unfold candT
  simp only [Bool.and_eq_true, decide_eq_true_eq, Bool.not_eq_true', List.any_eq_false]
  constructor
  · rintro ⟨h1, h2⟩; exact ⟨h1, fun hm => h2 _ hm rfl⟩
  · rintro ⟨h1, h2⟩; exact ⟨h1, fun y hy e => h2 (e ▸ hy)⟩
theorem outerT {l : List S66} {a b c d col m : Int} (hy : yarnB l a b c d = true) {S : List S66} (hS : S = isortB ltT [] (l.filter (colQ col))) : ∀ (n t : Nat) (s : Int), t + n = S.length → 0 ≤ s → s ≤ 100000 * t → ∃ q, ∀ k, q ≤ k → spec_TiesFor.l0 k col m ((S.take t).map fun x => x.f0) s l a b c d = some (scanT m (S.drop t) s t) := by
  obtain ⟨h8, hx, hasc⟩ := yarn_of hy
  have hp := isortB_perm ltT (l.filter (colQ col)) []
  rw [List.nil_append, ← hS] at hp
  have hpw := asc_pw hasc
  have hsorted : S.Pairwise relT := by rw [hS]; exact sortedT _ [] List.Pairwise.nil (fun y hy => absurd hy (by simp)) (hpw.filter _)
  have hfl : (l.filter (colQ col)).length ≤ l.length := List.length_filter_le _ _
  have hlen := hp.length_eq
  have hmem : ∀ x, x ∈ S ↔ x ∈ l ∧ x.f1 = col := by
    intro x
    rw [hp.mem_iff, List.mem_filter]
    unfold colQ
    constructor
    · rintro ⟨h1, h2⟩; exact ⟨h1, by simpa using h2⟩
    · rintro ⟨h1, h2⟩; exact ⟨h1, by simpa using h2⟩
  have hnd : (S.map fun x => x.f0).Nodup := by
    have h1 : ((l.filter (colQ col)).map fun x => x.f0).Nodup := by
      unfold List.Nodup
      rw [List.pairwise_map]
      exact (hpw.filter (colQ col)).imp (fun h => by omega)
    exact (hp.map _).nodup_iff.mpr h1
  have hget : ∀ j, j < l.length → l.getD j z66 ∈ l := fun j hj => by rw [List.getD_eq_getElem?_getD, List.getElem?_eq_getElem hj]; exact List.getElem_mem hj
  intro n
  induction n with
  | zero =>
    intro t s ht h0 h1
    have htake : S.take t = S := List.take_of_length_le (by omega)
    have hdrop : S.drop t = [] := List.drop_eq_nil_of_le (by omega)
    rw [htake, hdrop]
    by_cases g : (S.length : Int) < (l.length : Int)
    · obtain ⟨r, ⟨r1, r2, r3, r4⟩, q, hq⟩ := innerT hasc h8 a b c d col m (S.map fun x => x.f0) (by rw [List.length_map]; omega) s
      have hr : r < 0 := by
        rcases Int.lt_or_le r 0 with h | h
        · exact h
        · obtain ⟨c1, _⟩ := r4 h
          rw [cand_iff] at c1
          have hm := (hmem (l.getD r.toNat z66)).mpr ⟨hget _ (by omega), c1.1⟩
          exact absurd (List.mem_map_of_mem hm) c1.2
      refine ⟨q + 11, fun k hk => ?_⟩
      obtain ⟨k2, rfl⟩ : ∃ k2, k = k2 + q + 1 := ⟨k - q - 1, by omega⟩
      rw [spec_TiesFor.l0, if_pos (by rw [List.length_map]; exact g), hq k2 (by omega)]
      unfold outT
      rw [if_pos hr]; rfl
    · refine ⟨1, fun k hk => ?_⟩
      obtain ⟨k, rfl, _⟩ := succ_of (show 0 < k by omega)
      rw [spec_TiesFor.l0, if_neg (by rw [List.length_map]; exact g)]; rfl
  | succ n ih =>
    intro t s ht h0 h1
    have hlt : t < S.length := by omega
    have htk : ((S.take t).map fun x => x.f0).length = t := by rw [List.length_map, List.length_take]; omega
    obtain ⟨r, ⟨r1, r2, r3, r4⟩, q, hq⟩ := innerT hasc h8 a b c d col m ((S.take t).map fun x => x.f0) (by rw [htk]; omega) s
    obtain ⟨h, hh⟩ : ∃ h, S.getD t z66 = h := ⟨_, rfl⟩
    have hd := drop_step hlt z66
    rw [hh] at hd
    have hS2 : S.take t ++ (h :: S.drop (t + 1)) = S := by rw [← hd]; exact List.take_append_drop t S
    have hhS : h ∈ S := by rw [← hS2]; exact List.mem_append_right _ List.mem_cons_self
    have hnd2 : ((S.take t).map (fun x => x.f0) ++ (h :: S.drop (t + 1)).map (fun x => x.f0)).Nodup := by rw [← List.map_append, hS2]; exact hnd
    have hpw2 : (h :: S.drop (t + 1)).Pairwise relT := by rw [← hd]; exact hsorted.sublist (List.drop_sublist t S)
    rw [List.pairwise_cons] at hpw2
    have hcand : candT col ((S.take t).map fun x => x.f0) h = true := by
      rw [cand_iff]
      refine ⟨((hmem h).mp hhS).2, fun hm => ?_⟩
      exact (List.nodup_append.mp hnd2).2.2 _ hm _ (List.mem_map_of_mem List.mem_cons_self) rfl
    obtain ⟨j, hj, hjh⟩ := List.mem_iff_getElem.mp ((hmem h).mp hhS).1
    have hjg : l.getD j z66 = h := by rw [List.getD_eq_getElem?_getD, List.getElem?_eq_getElem hj]; exact hjh
    have hr : 0 ≤ r := by
      rcases Int.lt_or_le r 0 with e | e
      · have := r3 e j hj
        rw [hjg, hcand] at this; exact absurd this (by simp)
      · exact e
    obtain ⟨c1, c2⟩ := r4 hr
    have hb : l.getD r.toNat z66 = h := by
      have h3 := c2 j hj (by rw [hjg]; exact hcand)
      rw [hjg] at h3
      rcases h3 with e | e
      · exact e.symm
      · rw [cand_iff] at c1
        have hm := (hmem (l.getD r.toNat z66)).mpr ⟨hget _ (by omega), c1.1⟩
        rw [← hS2] at hm
        rcases List.mem_append.mp hm with e2 | e2
        · exact absurd (List.mem_map_of_mem e2) c1.2
        · rcases List.mem_cons.mp e2 with e3 | e3
          · exact e3
          · exact absurd e (fun e => relT_asymm e (hpw2.1 _ e3))
    have hhb := hx h ((hmem h).mp hhS).1
    obtain ⟨j2, rfl⟩ := nat_of hr
    rw [Int.toNat_natCast] at hb
    by_cases g : s + h.f2 - (t : Int) ≥ m
    · refine ⟨q + 11, fun k hk => ?_⟩
      obtain ⟨k2, rfl⟩ : ∃ k2, k = k2 + q + 1 := ⟨k - q - 1, by omega⟩
      rw [spec_TiesFor.l0, if_pos (by rw [htk]; omega), hq k2 (by omega), hd, scanT, if_pos g]
      unfold outT
      rw [if_neg (by omega), if_pos (by omega), if_pos (by omega), if_pos (by rw [htk]; omega), rdIB_nat, hb]
      simp only [Option.bind_some, List.length_append, List.length_singleton, htk]
      rw [w64 (x := s + h.f2) (by omega) (by omega), w64 (x := s + h.f2 - _) (by push_cast; omega) (by push_cast; omega), w64 (x := _ + 1) (by push_cast; omega) (by push_cast; omega), if_pos (by push_cast; omega), w64 (by push_cast; omega) (by push_cast; omega)]
      congr 2
      push_cast; omega
    · obtain ⟨q2, hq2⟩ := ih (t + 1) (s + h.f2) (by omega) (by omega) (by push_cast; omega)
      have htk2 : ((S.take t).map fun x => x.f0) ++ [h.f0] = (S.take (t + 1)).map fun x => x.f0 := by
        rw [List.take_add_one, List.map_append]
        congr 1
        rw [List.getElem?_eq_getElem hlt]
        have : S[t] = h := by rw [← hh, List.getD_eq_getElem?_getD, List.getElem?_eq_getElem hlt]; rfl
        rw [this]; rfl
      refine ⟨q + q2 + 11, fun k hk => ?_⟩
      obtain ⟨k2, rfl⟩ : ∃ k2, k = k2 + q + 1 := ⟨k - q - 1, by omega⟩
      rw [spec_TiesFor.l0, if_pos (by rw [htk]; omega), hq k2 (by omega), hd, scanT, if_neg g]
      unfold outT
      rw [if_neg (by omega), if_pos (by omega), if_pos (by omega), if_pos (by rw [htk]; omega), rdIB_nat, hb]
      simp only [Option.bind_some]
      have hl2 : (((S.take t).map fun x => x.f0) ++ [h.f0]).length = t + 1 := by rw [List.length_append, htk]; rfl
      rw [w64 (x := s + h.f2) (by omega) (by omega), hl2, w64 (x := s + h.f2 - _) (by push_cast; omega) (by push_cast; omega), w64 (x := _ + 1) (by push_cast; omega) (by push_cast; omega), if_neg (by push_cast; omega), htk2]
      exact hq2 k2 (by omega)
theorem tiesS_eq {l : List S66} (hl : l.length ≤ 1048576) (a b c d col m : Int) : ∃ k0, ∀ k, k0 ≤ k → spec_TiesFor.f k l a b c d col m = some (tiesM l a b c d col m) := by
  by_cases hy : yarnB l a b c d = true
  · obtain ⟨q, hq⟩ := outerT (col := col) (m := m) hy rfl (isortB ltT [] (l.filter (colQ col))).length 0 0 (by omega) (by omega) (by omega)
    refine ⟨q + 31, fun k hk => ?_⟩
    obtain ⟨k2, rfl⟩ : ∃ k2, k = k2 + q + 1 := ⟨k - q - 1, by omega⟩
    have hq2 := hq (k2 + q) (by omega)
    obtain ⟨pc, hc⟩ : ∃ pc, decide (0 ≤ col ∧ col ≤ 5) = pc := ⟨_, rfl⟩
    obtain ⟨pm, hm⟩ : ∃ pm, decide (1 ≤ m ∧ m ≤ 100000) = pm := ⟨_, rfl⟩
    simp only [spec_TiesFor.f, spec_TiesFor.j0, yarnS_eq (k := k2 + q + 1) (l := l) (by omega) (by omega), hy, spec_l2Color.f, spec_l21Meters.f, l1In_eq, Option.bind_some, tiesM, colB, metB, hc, hm, if_true, Bool.true_and]
    cases pc
    · simp
    cases pm
    · simp
    simp only [if_true, Bool.not_true, Bool.false_eq_true, if_false, Bool.and_self]
    simpa using hq2
  · refine ⟨31, fun k hk => ?_⟩
    obtain ⟨k, rfl, _⟩ := succ_of (show 0 < k by omega)
    have hy2 : yarnB l a b c d = false := by simpa using hy
    simp only [spec_TiesFor.f, spec_TiesFor.j0, yarnS_eq (k := k + 1) (l := l) (by omega) (by omega), hy2, Option.bind_some, tiesM, Bool.false_and, Bool.false_eq_true, if_false, if_true]

end Go.Proofs.Ytiomfignokichaa.Pure

-- PureFnExactTiesFor
namespace Go.Proofs.Ytiomfignokichaa.Pure
open Go Go.RowKit Go.Proofs Go.Proofs.Ytiomfignokichaa.X Go.Proofs.YtiomfignokichaaW.PrintWords Go.Proofs.YtiomfignokichaaW.PrintLast
set_option linter.unusedVariables false
set_option linter.unusedSimpArgs false

theorem FnExactTiesFor : laws_FnExactTiesFor.Pure := by
  intro l a b c d col m hl _ _ _ _ _ _
  obtain ⟨k1, e1⟩ : ∃ k0, ∀ k, k0 ≤ k → (l.map toB).length ≤ 1048576 → spec_TiesFor.f k (l.map toB) a b c d col m = some (tiesM (l.map toB) a b c d col m) := by
    by_cases g : (l.map toB).length ≤ 1048576
    · obtain ⟨k0, hk⟩ := tiesS_eq g a b c d col m
      exact ⟨k0, fun k h _ => hk k h⟩
    · exact ⟨0, fun k _ h => absurd h g⟩
  obtain ⟨k, hk, hk1⟩ : ∃ k, 2000000 < k ∧ k1 ≤ k := ⟨k1 + 2000001, by omega, by omega⟩
  refine ⟨k + 1, ?_⟩
  simp only [laws_FnExactTiesFor.f, szYarn_eq hl.1 (show (0 : Int) ≤ 1048576 ∧ (1048576 : Int) ≤ 9223372036854775807 by omega), Option.bind_some]
  by_cases hs : (1048576 : Int) < l.length
  · simp [hs]
  rw [if_neg hs, if_neg (by omega)]
  have h1 : l.length ≤ 1048576 := by omega
  have h2 : (l.map toB).length ≤ 1048576 := by rw [List.length_map]; exact h1
  simp only [toYarn_eq (k := k + 1) (l := l) (by omega) h1, Option.bind_some, e1 (k + 1) (by omega) h2, tiesI_eq (k := k + 1) (l := l.map toB) (by omega) h2 a b c d col m, if_true, bne_self_eq_false, laws_FnExactTiesFor.j0, Bool.false_eq_true, if_false, toYarn_eq (k := k) (l := l) (by omega) h1, eqYarn_refl (k := k) (l := l.map toB) (by omega) (by omega)]

end Go.Proofs.Ytiomfignokichaa.Pure
