/- What the law FnCarpetOrders needs, part 5 of 6: what each function of the program that it reaches returns (printed by this session's own program, checked by Lean), and plain mathematics about it. Conditions: those of each theorem. -/
import Derived.Test.YtahfahlbdgbfeaaDoorZFnCarpetOrders3
import Derived.Test.YtahfahlbdgbfeaaDoorYG
namespace Go.Proofs.YtahfahlbdgbfeaaDoor.X
open Ho (bS eS)
open Go.RowKit Go.Proofs.YtahfahlbdgbfeaaDoorW.PrintWords Go.Proofs.YtahfahlbdgbfeaaDoorW.PrintLast Go.Proofs.YtahfahlbdgbfeaaDoorW.PrintMore
attribute [local go_sem] max2_int min2_int max_two min_two max_three min_three max_four min_four   -- for this text's walks alone
set_option linter.unusedVariables false
set_option linter.unusedSimpArgs false
attribute [local go_sem ↓] Ho.isSome_setCell_   -- a store leaves all places there
/-! ### Fq: function 43 -/
def Fq.j0 : Nat → List (S41) → Int → Int → Bool → Option ((List (S41)) × Bool)
  | 0, _, _, _, _ => none
  | k + 1, x0, x2, x8, x33 => if x33 = true then (some ((([] : List (S41))), false)) else (if 0 ≤ x8 then (if x8 < (x0.length : Int) then (if ((rd_T41 x0 x8).f4) = 0 then (if (wrap64 (3 * ((rd_T41 x0 x8).f6))) < ((rd_T41 x0 x8).f5) then (some ((([] : List (S41))), false)) else (if ((rd_T41 x0 x8).f4) = 3 then (if ((rd_T41 x0 x8).f6) < ((rd_T41 x0 x8).f5) then (some ((([] : List (S41))), false)) else ((Fx.f k x0 x8 ((rd_T41 x0 x8).f0) ((rd_T41 x0 x8).f1) ((rd_T41 x0 x8).f2) ((rd_T41 x0 x8).f3) (wrap64 (((rd_T41 x0 x8).f4) + 1)) ((rd_T41 x0 x8).f5) ((rd_T41 x0 x8).f6) x2).bind fun bt116 => (some (bt116.1, bt116.2)))) else ((Fx.f k x0 x8 ((rd_T41 x0 x8).f0) ((rd_T41 x0 x8).f1) ((rd_T41 x0 x8).f2) ((rd_T41 x0 x8).f3) (wrap64 (((rd_T41 x0 x8).f4) + 1)) ((rd_T41 x0 x8).f5) ((rd_T41 x0 x8).f6) x2).bind fun bt120 => (some (bt120.1, bt120.2))))) else (if ((rd_T41 x0 x8).f4) = 3 then (if ((rd_T41 x0 x8).f6) < ((rd_T41 x0 x8).f5) then (some ((([] : List (S41))), false)) else ((Fx.f k x0 x8 ((rd_T41 x0 x8).f0) ((rd_T41 x0 x8).f1) ((rd_T41 x0 x8).f2) ((rd_T41 x0 x8).f3) (wrap64 (((rd_T41 x0 x8).f4) + 1)) ((rd_T41 x0 x8).f5) ((rd_T41 x0 x8).f6) x2).bind fun bt127 => (some (bt127.1, bt127.2)))) else ((Fx.f k x0 x8 ((rd_T41 x0 x8).f0) ((rd_T41 x0 x8).f1) ((rd_T41 x0 x8).f2) ((rd_T41 x0 x8).f3) (wrap64 (((rd_T41 x0 x8).f4) + 1)) ((rd_T41 x0 x8).f5) ((rd_T41 x0 x8).f6) x2).bind fun bt131 => (some (bt131.1, bt131.2))))) else (none)) else (none))
def Fq.f (k : Nat) (l0 : List (S41)) (a1 : Int) (a2 : Int) : Option ((List (S41)) × Bool) := (Fm.f k l0 a1).bind fun t101 => (if t101 < 0 then (Fq.j0 k l0 a2 t101 true) else (if 0 ≤ t101 then (if t101 < (l0.length : Int) then ((Fbk.f ((rd_T41 l0 t101).f0) ((rd_T41 l0 t101).f1) ((rd_T41 l0 t101).f2) ((rd_T41 l0 t101).f3) ((rd_T41 l0 t101).f4) ((rd_T41 l0 t101).f5) ((rd_T41 l0 t101).f6) ((rd_T41 l0 t101).f7)).bind fun t103 => (if t103 = true then (Fq.j0 k l0 a2 t101 (decide (a2 < ((rd_T41 l0 t101).f7)))) else (Fq.j0 k l0 a2 t101 true))) else (none)) else (none)))
theorem Fq.mono_l : ∀ k, (∀ y0 y1 y2 y3, LeO (Fq.j0 k y0 y1 y2 y3) (Fq.j0 (k + 1) y0 y1 y2 y3))
  | 0 => fun _ _ _ _ r h => by simp [Fq.j0] at h
  | k + 1 => by
    have ih0 := Fq.mono_l k
    · intro y0 y1 y2 y3
      unfold Fq.j0
      repeat' first
      | (with_reducible exact ih0 _ _ _ _)
      | (with_reducible exact Fm.mono _ _ _)
      | (with_reducible exact Fx.mono _ _ _ _ _ _ _ _ _ _ _)
      | (with_reducible exact LeO.refl _)
      | (with_reducible exact LeO.none _)
      | (with_reducible refine LeO.ite ?_ ?_)
      | (with_reducible refine LeO.bind ?_ (fun _ => ?_))
      | exact ih0 _ _ _ _
      | exact Fm.mono _ _ _
      | exact Fx.mono _ _ _ _ _ _ _ _ _ _ _
      | exact LeO.none _
      | refine LeO.ite ?_ ?_
      | refine LeO.bind ?_ (fun _ => ?_)
theorem Fq.mono : ∀ a0 a1 a2 k, LeO (Fq.f k a0 a1 a2) (Fq.f (k + 1) a0 a1 a2) := by
  intro a0 a1 a2 k
  have ih0 := Fq.mono_l k
  unfold Fq.f
  repeat' first
      | (with_reducible exact ih0 _ _ _ _)
      | (with_reducible exact Fm.mono _ _ _)
      | (with_reducible exact Fx.mono _ _ _ _ _ _ _ _ _ _ _)
      | (with_reducible exact LeO.refl _)
      | (with_reducible exact LeO.none _)
      | (with_reducible refine LeO.ite ?_ ?_)
      | (with_reducible refine LeO.bind ?_ (fun _ => ?_))
      | exact ih0 _ _ _ _
      | exact Fm.mono _ _ _
      | exact Fx.mono _ _ _ _ _ _ _ _ _ _ _
      | exact LeO.none _
      | refine LeO.ite ?_ ?_
      | refine LeO.bind ?_ (fun _ => ?_)
set_option maxHeartbeats 8000000 in
set_option maxRecDepth 100000 in
theorem Fq.calls (k : Nat) (A0 : Option Addr) (c0 : Nat) (l0 : List (S41)) (a1 : Int) (a2 : Int) (r1 : List (S41)) (r2 : Bool) (w : World) (hr0 : Kd.C k41 w A0 l0.length l0) (hc0 : l0.length ≤ c0) (h : Fq.f k l0 a1 a2 = some (r1, r2)) :
  Calls Tryd.prog 43 #[.slice A0 l0.length c0, .int .i64 a1, .int .i64 a2] w fun e w' => ∃ v0_ : Value, e = .returned (.tuple #[v0_, .bool r2]) ∧ Kd.R k41 41 w' w.heap.size (fun _ => True) v0_ r1 ∧ Below w.heap.size w w' := by
 have hu41 := Tryd.underlying41
 have HR0 := Aside0.mk hr0
 have HC0 := Aside0.mk hc0
 clear hr0 hc0
 have HB := Aside0.mk (Below.refl w.heap.size w)
 have H : ((Fm.f k l0 a1).bind fun t101 => (if t101 < 0 then (Fq.j0 k l0 a2 t101 true) else (if 0 ≤ t101 then (if t101 < (l0.length : Int) then ((Fbk.f ((rd_T41 l0 t101).f0) ((rd_T41 l0 t101).f1) ((rd_T41 l0 t101).f2) ((rd_T41 l0 t101).f3) ((rd_T41 l0 t101).f4) ((rd_T41 l0 t101).f5) ((rd_T41 l0 t101).f6) ((rd_T41 l0 t101).f7)).bind fun t103 => (if t103 = true then (Fq.j0 k l0 a2 t101 (decide (a2 < ((rd_T41 l0 t101).f7)))) else (Fq.j0 k l0 a2 t101 true))) else (none)) else (none)))) = some (r1, r2) := h
 clear h
 replace H := Option.bind_eq_some_iff.mp H
 obtain ⟨t101, A40, H⟩ := H
 (try dsimp only at H)
 have A4 := Aside0.mk A40
 clear A40
 have HC5 := Aside0.mk H
 clear H
 go_enter Tryd.func43, Tryd.ntmps43
 go_upto_region 2 with (first | ((with_reducible refine gate_callee (f := 81) rfl ?_); refine goesL_ (some 14) rfl rfl Tryd.func81 (by kernel_rfl) rfl #[.slice A0 l0.length c0, .int .i64 a1] rfl (by (try simp only [List.map_toArray, List.map_cons, List.map_nil]); first | done | rfl | (simp only [List.length_drop, List.length_take]; rfl)) ?_; (with_reducible refine (Fm.calls k _ _ l0 a1 t101 _ ?side1 ?side2 A4.out).mono ?_); (case side1 => repeat (first | exact HR0.out | (with_reducible refine Kd.C_alloc ?_ _) | (with_reducible refine Kd.C_drewN ?_ _) | (with_reducible refine Kd.C_drew ?_))); (case side2 => exact HC0.out); rintro e w6 ⟨rfl, hb⟩; refine ⟨_, rfl, ?_⟩; have n0_ := Aside0.mk (below_step (by exact eS HB.out) hb); clear HB; have HB := n0_; clear n0_; (try clear hb); (try clear hb2); (try clear hk); (try clear hi)))
 (try simp only [Act.put, List.setIfInBounds_toArray, List.set_cons_zero, List.set_cons_succ])
 go_cut [33] (fun v33 wc => ∃ (kq : Nat) (x33_4 : Bool), v33 = .bool x33_4 ∧ Aside0 (Fq.j0 kq l0 a2 t101 x33_4 = some (r1, r2)) ∧ Aside0 (kq ≤ k) ∧ Aside0 (Below w.heap.size w wc))
 case first =>
  have H := HC5.out
  clear HC5
  by_cases c7 : t101 < 0
  ·rw [if_pos c7] at H
   have c7b0 : decide (t101 < 0) = true := decide_eq_true c7
   clear c7
   (first | rw [c7b0] | (simp only [i64_w, i32_w]; rw [c7b0]) | skip)
   have H' := Aside0.mk H
   clear H
   go_wp2
   go_meet
   case rel => exact ⟨_, (true), (by first | rfl | (simp; done) | (simp [*]; done)), H', ⟨by first | omega | exact Nat.le_refl _⟩, ⟨by exact eS HB.out⟩⟩
  rw [if_neg c7] at H
  have c7b0 : decide (t101 < 0) = false := decide_eq_false c7
  clear c7
  (first | rw [c7b0] | (simp only [i64_w, i32_w]; rw [c7b0]) | skip)
  by_cases c8 : 0 ≤ t101
  rotate_left
  ·rw [if_neg c8] at H
   exact absurd H (by simp)
  rw [if_pos c8] at H
  have c8b0 : decide (0 ≤ t101) = true := decide_eq_true c8
  clear c8
  by_cases c9 : t101 < (l0.length : Int)
  rotate_left
  ·rw [if_neg c9] at H
   exact absurd H (by simp)
  rw [if_pos c9] at H
  have c9b0 : decide (t101 < (l0.length : Int)) = true := decide_eq_true c9
  clear c9
  replace H := Option.bind_eq_some_iff.mp H
  obtain ⟨t103, A100, H⟩ := H
  (try dsimp only at H)
  have A10 := Aside0.mk A100
  clear A100
  by_cases c11 : t103 = true
  rotate_left
  ·replace c11 := Bool.eq_false_iff.mpr c11
   subst c11
   have H1 : (Fq.j0 k l0 a2 t101 true) = some (r1, r2) := by rw [if_neg (show ¬ (false = true) by decide)] at H; exact H
   clear H
   have H := H1
   clear H1
   have H' := Aside0.mk H
   clear H
   have p102 : 0 ≤ (t101 : Int) := of_decide_eq_true (by first | (with_reducible assumption) | assumption)
   have q102 : t101 < (l0.length : Int) := of_decide_eq_true (by first | (with_reducible assumption) | assumption)
   obtain ⟨ad102, e102, hx102_0, hx102_1, hx102_2, hx102_3, hx102_4, hx102_5, hx102_6, hx102_7⟩ := at_T41 HR0.out t101 p102 q102
   cases e102
   replace hx102_0 := Sq.cB HB.out hx102_0
   replace hx102_1 := Sq.cB HB.out hx102_1
   replace hx102_2 := Sq.cB HB.out hx102_2
   replace hx102_3 := Sq.cB HB.out hx102_3
   replace hx102_4 := Sq.cB HB.out hx102_4
   replace hx102_5 := Sq.cB HB.out hx102_5
   replace hx102_6 := Sq.cB HB.out hx102_6
   replace hx102_7 := Sq.cB HB.out hx102_7
   replace p102 := eq_true p102
   replace q102 := eq_true q102
   go_wp2_with (first | (go_at_call 75; (with_reducible refine (Fbk.calls ((rd_T41 l0 t101).f0) ((rd_T41 l0 t101).f1) ((rd_T41 l0 t101).f2) ((rd_T41 l0 t101).f3) ((rd_T41 l0 t101).f4) ((rd_T41 l0 t101).f5) ((rd_T41 l0 t101).f6) ((rd_T41 l0 t101).f7) false _ A10.out).mono ?_); rintro e w13 ⟨rfl, hb⟩; have n0_ := Aside0.mk (below_step (by exact eS HB.out) hb); clear HB; have HB := n0_; clear n0_; (try clear hb); (try clear hb2); (try clear hk); (try clear hi)))
   go_meet
   case rel => exact ⟨_, (true), (by first | rfl | (simp; done) | (simp [*]; done)), H', ⟨by first | omega | exact Nat.le_refl _⟩, ⟨by exact eS HB.out⟩⟩
  subst c11
  have H1 : (Fq.j0 k l0 a2 t101 (decide (a2 < ((rd_T41 l0 t101).f7)))) = some (r1, r2) := by rw [if_pos rfl] at H; exact H
  clear H
  have H := H1
  clear H1
  have H' := Aside0.mk H
  clear H
  have p102 : 0 ≤ (t101 : Int) := of_decide_eq_true (by first | (with_reducible assumption) | assumption)
  have q102 : t101 < (l0.length : Int) := of_decide_eq_true (by first | (with_reducible assumption) | assumption)
  obtain ⟨ad102, e102, hx102_0, hx102_1, hx102_2, hx102_3, hx102_4, hx102_5, hx102_6, hx102_7⟩ := at_T41 HR0.out t101 p102 q102
  cases e102
  replace hx102_0 := Sq.cB HB.out hx102_0
  replace hx102_1 := Sq.cB HB.out hx102_1
  replace hx102_2 := Sq.cB HB.out hx102_2
  replace hx102_3 := Sq.cB HB.out hx102_3
  replace hx102_4 := Sq.cB HB.out hx102_4
  replace hx102_5 := Sq.cB HB.out hx102_5
  replace hx102_6 := Sq.cB HB.out hx102_6
  replace hx102_7 := Sq.cB HB.out hx102_7
  replace p102 := eq_true p102
  replace q102 := eq_true q102
  go_wp2_with (first | (go_at_call 75; (with_reducible refine (Fbk.calls ((rd_T41 l0 t101).f0) ((rd_T41 l0 t101).f1) ((rd_T41 l0 t101).f2) ((rd_T41 l0 t101).f3) ((rd_T41 l0 t101).f4) ((rd_T41 l0 t101).f5) ((rd_T41 l0 t101).f6) ((rd_T41 l0 t101).f7) true _ A10.out).mono ?_); rintro e w12 ⟨rfl, hb⟩; have n0_ := Aside0.mk (below_step (by exact eS HB.out) hb); clear HB; have HB := n0_; clear n0_; (try clear hb); (try clear hb2); (try clear hk); (try clear hi); have p104 : 0 ≤ (t101 : Int) := of_decide_eq_true (by first | (with_reducible assumption) | assumption); have q104 : t101 < (l0.length : Int) := of_decide_eq_true (by first | (with_reducible assumption) | assumption); obtain ⟨ad104, e104, hx104_0, hx104_1, hx104_2, hx104_3, hx104_4, hx104_5, hx104_6, hx104_7⟩ := at_T41 HR0.out t101 p104 q104; obtain rfl : ad102 = ad104 := (by injection e104); replace hx104_0 := Sq.cB HB.out hx104_0; replace hx104_1 := Sq.cB HB.out hx104_1; replace hx104_2 := Sq.cB HB.out hx104_2; replace hx104_3 := Sq.cB HB.out hx104_3; replace hx104_4 := Sq.cB HB.out hx104_4; replace hx104_5 := Sq.cB HB.out hx104_5; replace hx104_6 := Sq.cB HB.out hx104_6; replace hx104_7 := Sq.cB HB.out hx104_7; replace p104 := eq_true p104; replace q104 := eq_true q104))
  go_meet
  case rel => exact ⟨_, (decide (a2 < ((rd_T41 l0 t101).f7))), (by first | rfl | (simp; done) | (simp [*]; done)), H', ⟨by first | omega | exact Nat.le_refl _⟩, ⟨by exact eS HB.out⟩⟩
 case rest =>
  clear HC5
  try clear c1
  try clear p1
  try clear q1
  try clear hx1
  try clear p2
  try clear c4
  try clear c7
  try clear c7b0
  try clear c8
  try clear c8b0
  try clear c9
  try clear c9b0
  try clear p10
  try clear q10
  try clear hx10
  try clear c11
  try clear hx102_0
  try clear hx102_1
  try clear hx102_2
  try clear hx102_3
  try clear hx102_4
  try clear hx102_5
  try clear hx102_6
  try clear hx102_7
  try clear hx104_0
  try clear hx104_1
  try clear hx104_2
  try clear hx104_3
  try clear hx104_4
  try clear hx104_5
  try clear hx104_6
  try clear hx104_7
  try clear p102
  try clear p104
  try clear q102
  try clear q104
  obtain ⟨kq, x33_4, rfl, HA, HJ4, HB⟩ := hcut
  cases kq with
  | zero => exact absurd HA.out (by simp [Fq.j0])
  | succ kj4 =>
   have H := HA.out
   clear HA
   simp only [Fq.j0] at H
   by_cases c14 : x33_4 = true
   ·subst c14
    have H1 : (some ((([] : List (S41))), false)) = some (r1, r2) := by rw [if_pos rfl] at H; exact H
    clear H
    have H := H1
    clear H1
    obtain ⟨y105, hy105⟩ : ∃ y_ : List (S41), y_ = (([] : List (S41))) := ⟨_, rfl⟩
    replace H : (some (y105, false)) = some (r1, r2) := by first | (rw [hy105]; with_reducible exact H) | (have H2_ := (Option.bind_some _ _).symm.trans H; rw [hy105]; with_reducible exact H2_) | (have H2_ := (Option.bind_some _ _).symm.trans H; with_reducible exact H2_) | with_reducible exact H | (rw [hy105]; exact H) | exact H
    have Ny105 := Aside0.mk hy105
    clear hy105
    simp only [Option.some.injEq, Prod.mk.injEq] at H
    obtain ⟨rfl, rfl⟩ := H
    go_wp2_with (first | ((with_reducible refine gate_dst (N := 34) rfl ?_); refine Kd.R_lit k41 _ 41 ?hg (N := 34) ?hd (xs := ([] : List (S41))) (inner := []) (ok := fun _ => True) (okp := fun _ => True) ?hr ?hp (fun _ hk => hk) trivial (Below.refl _ _) (Nat.le_refl _) (by simp) ?_; (case hd => rfl); (case hg => rfl); (case hr => first | (go_simp; done) | (go_simp; rfl)); (case hp => exact (Reps.none _ _)); intro v106 w15 ho16 hb hg_ hnew_; clear hg_ hnew_; (first | rw [← Ny105.out] at ho16 | (simp only [Int.reduceToNat] at ho16; rw [← Ny105.out] at ho16)); have n0_ := Aside0.mk (Kd.R_lower ho16 (below_size (by exact eS HB.out))); have n1_ := Aside0.mk (below_step (by exact eS HB.out) hb); clear HB; have HO107 := n0_; have HB := n1_; clear n0_ n1_; clear hb ho16))
    go_ret2
    exact ⟨_, by first | rfl | (simp [errW_none, errW_some] <;> rfl) | (simp [*, errW_none, errW_some] <;> rfl), by exact Ho.RS <| HO107.out, by exact eS HB.out⟩
   replace c14 := Bool.eq_false_iff.mpr c14
   subst c14
   have H1 : (if 0 ≤ t101 then (if t101 < (l0.length : Int) then (if ((rd_T41 l0 t101).f4) = 0 then (if (wrap64 (3 * ((rd_T41 l0 t101).f6))) < ((rd_T41 l0 t101).f5) then (some ((([] : List (S41))), false)) else (if ((rd_T41 l0 t101).f4) = 3 then (if ((rd_T41 l0 t101).f6) < ((rd_T41 l0 t101).f5) then (some ((([] : List (S41))), false)) else ((Fx.f kj4 l0 t101 ((rd_T41 l0 t101).f0) ((rd_T41 l0 t101).f1) ((rd_T41 l0 t101).f2) ((rd_T41 l0 t101).f3) (wrap64 (((rd_T41 l0 t101).f4) + 1)) ((rd_T41 l0 t101).f5) ((rd_T41 l0 t101).f6) a2).bind fun bt116 => (some (bt116.1, bt116.2)))) else ((Fx.f kj4 l0 t101 ((rd_T41 l0 t101).f0) ((rd_T41 l0 t101).f1) ((rd_T41 l0 t101).f2) ((rd_T41 l0 t101).f3) (wrap64 (((rd_T41 l0 t101).f4) + 1)) ((rd_T41 l0 t101).f5) ((rd_T41 l0 t101).f6) a2).bind fun bt120 => (some (bt120.1, bt120.2))))) else (if ((rd_T41 l0 t101).f4) = 3 then (if ((rd_T41 l0 t101).f6) < ((rd_T41 l0 t101).f5) then (some ((([] : List (S41))), false)) else ((Fx.f kj4 l0 t101 ((rd_T41 l0 t101).f0) ((rd_T41 l0 t101).f1) ((rd_T41 l0 t101).f2) ((rd_T41 l0 t101).f3) (wrap64 (((rd_T41 l0 t101).f4) + 1)) ((rd_T41 l0 t101).f5) ((rd_T41 l0 t101).f6) a2).bind fun bt127 => (some (bt127.1, bt127.2)))) else ((Fx.f kj4 l0 t101 ((rd_T41 l0 t101).f0) ((rd_T41 l0 t101).f1) ((rd_T41 l0 t101).f2) ((rd_T41 l0 t101).f3) (wrap64 (((rd_T41 l0 t101).f4) + 1)) ((rd_T41 l0 t101).f5) ((rd_T41 l0 t101).f6) a2).bind fun bt131 => (some (bt131.1, bt131.2))))) else (none)) else (none)) = some (r1, r2) := by rw [if_neg (show ¬ (false = true) by decide)] at H; exact H
   clear H
   have H := H1
   clear H1
   by_cases c17 : 0 ≤ t101
   rotate_left
   ·rw [if_neg c17] at H
    exact absurd H (by simp)
   rw [if_pos c17] at H
   have c17b0 : decide (0 ≤ t101) = true := decide_eq_true c17
   clear c17
   by_cases c18 : t101 < (l0.length : Int)
   rotate_left
   ·rw [if_neg c18] at H
    exact absurd H (by simp)
   rw [if_pos c18] at H
   have c18b0 : decide (t101 < (l0.length : Int)) = true := decide_eq_true c18
   clear c18
   by_cases c19 : ((rd_T41 l0 t101).f4) = 0
   rotate_left
   ·rw [if_neg c19] at H
    have c19b0 : (((rd_T41 l0 t101).f4) == 0) = false := beq_eq_false_iff_ne.mpr c19
    have c19b1 : (((rd_T41 l0 t101).f4) != 0) = true := bne_iff_ne.mpr c19
    by_cases c39 : ((rd_T41 l0 t101).f4) = 3
    rotate_left
    ·rw [if_neg c39] at H
     have c39b0 : (((rd_T41 l0 t101).f4) == 3) = false := beq_eq_false_iff_ne.mpr c39
     have c39b1 : (((rd_T41 l0 t101).f4) != 3) = true := bne_iff_ne.mpr c39
     replace H := Option.bind_eq_some_iff.mp H
     obtain ⟨⟨t131, t134⟩, A490, H⟩ := H
     (try dsimp only at H)
     have A49 := Aside0.mk A490
     clear A490
     simp only [Option.some.injEq, Prod.mk.injEq] at H
     obtain ⟨rfl, rfl⟩ := H
     have p108 : 0 ≤ (t101 : Int) := of_decide_eq_true (by first | (with_reducible assumption) | assumption)
     have q108 : t101 < (l0.length : Int) := of_decide_eq_true (by first | (with_reducible assumption) | assumption)
     obtain ⟨ad108, e108, hx108_0, hx108_1, hx108_2, hx108_3, hx108_4, hx108_5, hx108_6, hx108_7⟩ := at_T41 HR0.out t101 p108 q108
     cases e108
     replace hx108_0 := Sq.cB HB.out hx108_0
     replace hx108_1 := Sq.cB HB.out hx108_1
     replace hx108_2 := Sq.cB HB.out hx108_2
     replace hx108_3 := Sq.cB HB.out hx108_3
     replace hx108_4 := Sq.cB HB.out hx108_4
     replace hx108_5 := Sq.cB HB.out hx108_5
     replace hx108_6 := Sq.cB HB.out hx108_6
     replace hx108_7 := Sq.cB HB.out hx108_7
     replace p108 := eq_true p108
     replace q108 := eq_true q108
     go_wp2_with (first | ((with_reducible refine gate_dst (N := 9) rfl ?_); refine box_event ?hg (N := 9) ?hd (cs := #[.int .i64 0, .string (⟨#[]⟩ : ByteArray), .int .i64 0, .int .i64 0, .int .i64 0, .int .i64 0, .int .i64 0, .int .i64 0]) (t := 41) ?hr ?_; (case hd => rfl); (case hg => rfl); (case hr => first | (go_simp; done) | (go_simp; rfl)); intro gb109 hg w50 hbox hb; have n0_ := Aside0.mk (below_step (by exact eS HB.out) hb); have n1_ := Aside0.mk (hbox); have n2_ := Aside0.mk ((by rw [hg]; exact (below_size (by exact eS HB.out)) : w.heap.size ≤ gb109)); have n3_ := Aside0.mk ((by rw [hg]; exact (below_size (by exact eS HB.out)) : w.heap.size ≤ gb109)); clear HB; have HB := n0_; have BK109 := n1_; have GW109 := n2_; have GE109 := n3_; clear n0_ n1_ n2_ n3_; clear hb hbox hg; obtain ⟨hcz51_0, hcz51_1, hcz51_2, hcz51_3, hcz51_4, hcz51_5, hcz51_6, hcz51_7, hfz51_0, hfz51_1, hfz51_2, hfz51_3, hfz51_4, hfz51_5, hfz51_6, hfz51_7⟩ := Sq.c8 BK109.out) | ((with_reducible refine gate_callee (f := 83) rfl ?_); refine goesL_ (some 73) rfl rfl Tryd.func83 (by kernel_rfl) rfl #[.slice (some ad108) l0.length c0, .int .i64 t101, .agg #[.int .i64 ((rd_T41 l0 t101).f0), .string ((rd_T41 l0 t101).f1), .int .i64 ((rd_T41 l0 t101).f2), .int .i64 ((rd_T41 l0 t101).f3), .int .i64 (wrap64 (((rd_T41 l0 t101).f4) + 1)), .int .i64 ((rd_T41 l0 t101).f5), .int .i64 ((rd_T41 l0 t101).f6), .int .i64 a2]] rfl (by (try simp only [List.map_toArray, List.map_cons, List.map_nil]); first | done | rfl | (simp only [List.length_drop, List.length_take]; rfl)) ?_; (with_reducible refine (Fx.calls kj4 _ _ l0 t101 ((rd_T41 l0 t101).f0) ((rd_T41 l0 t101).f1) ((rd_T41 l0 t101).f2) ((rd_T41 l0 t101).f3) (wrap64 (((rd_T41 l0 t101).f4) + 1)) ((rd_T41 l0 t101).f5) ((rd_T41 l0 t101).f6) a2 t131 t134 _ ?side1 ?side2 A49.out).mono ?_); (case side1 => exact Kd.C_below HR0.out (by repeat (first | (with_reducible first | exact HB.out | apply below_alloc | apply pw_below_drewN | apply below_drew1 | refine below_set ?_ GE109.out) | exact HB.out))); (case side2 => exact HC0.out); rintro e w52 ⟨v132, rfl, ho0, hb⟩; refine ⟨_, rfl, ?_⟩; have n0_ := Aside0.mk (Kd.R_lower (Kd.R_newB ho0 (g := gb109) (o := .cells #[.int .i64 ((rd_T41 l0 t101).f0), .string ((rd_T41 l0 t101).f1), .int .i64 ((rd_T41 l0 t101).f2), .int .i64 ((rd_T41 l0 t101).f3), .int .i64 (wrap64 (((rd_T41 l0 t101).f4) + 1)), .int .i64 ((rd_T41 l0 t101).f5), .int .i64 ((rd_T41 l0 t101).f6), .int .i64 a2] 41 (0, 0)) (by (with_reducible repeat (first | refine blk_drewN ?_ _ | refine blk_drew ?_ | refine blk_alloc ?_ _)); refine blk_put (cs := #[.int .i64 ((rd_T41 l0 t101).f0), .string ((rd_T41 l0 t101).f1), .int .i64 ((rd_T41 l0 t101).f2), .int .i64 ((rd_T41 l0 t101).f3), .int .i64 (wrap64 (((rd_T41 l0 t101).f4) + 1)), .int .i64 ((rd_T41 l0 t101).f5), .int .i64 ((rd_T41 l0 t101).f6), .int .i64 ((rd_T41 l0 t101).f7)]) ?_ 7 _ rfl; (with_reducible repeat (first | refine blk_drewN ?_ _ | refine blk_drew ?_ | refine blk_alloc ?_ _)); refine blk_put (cs := #[.int .i64 ((rd_T41 l0 t101).f0), .string ((rd_T41 l0 t101).f1), .int .i64 ((rd_T41 l0 t101).f2), .int .i64 ((rd_T41 l0 t101).f3), .int .i64 ((rd_T41 l0 t101).f4), .int .i64 ((rd_T41 l0 t101).f5), .int .i64 ((rd_T41 l0 t101).f6), .int .i64 ((rd_T41 l0 t101).f7)]) ?_ 4 _ rfl; (with_reducible repeat (first | refine blk_drewN ?_ _ | refine blk_drew ?_ | refine blk_alloc ?_ _)); apply Sq.put8; exact bS BK109.out)) (below_size (by repeat (first | (with_reducible first | exact HB.out | apply below_alloc | apply pw_below_drewN | apply below_drew1 | refine below_set ?_ GE109.out) | exact HB.out)))); have n1_ := Aside0.mk (blk_below (g := gb109) (o := .cells #[.int .i64 ((rd_T41 l0 t101).f0), .string ((rd_T41 l0 t101).f1), .int .i64 ((rd_T41 l0 t101).f2), .int .i64 ((rd_T41 l0 t101).f3), .int .i64 (wrap64 (((rd_T41 l0 t101).f4) + 1)), .int .i64 ((rd_T41 l0 t101).f5), .int .i64 ((rd_T41 l0 t101).f6), .int .i64 a2] 41 (0, 0)) (by (with_reducible repeat (first | refine blk_drewN ?_ _ | refine blk_drew ?_ | refine blk_alloc ?_ _)); refine blk_put (cs := #[.int .i64 ((rd_T41 l0 t101).f0), .string ((rd_T41 l0 t101).f1), .int .i64 ((rd_T41 l0 t101).f2), .int .i64 ((rd_T41 l0 t101).f3), .int .i64 (wrap64 (((rd_T41 l0 t101).f4) + 1)), .int .i64 ((rd_T41 l0 t101).f5), .int .i64 ((rd_T41 l0 t101).f6), .int .i64 ((rd_T41 l0 t101).f7)]) ?_ 7 _ rfl; (with_reducible repeat (first | refine blk_drewN ?_ _ | refine blk_drew ?_ | refine blk_alloc ?_ _)); refine blk_put (cs := #[.int .i64 ((rd_T41 l0 t101).f0), .string ((rd_T41 l0 t101).f1), .int .i64 ((rd_T41 l0 t101).f2), .int .i64 ((rd_T41 l0 t101).f3), .int .i64 ((rd_T41 l0 t101).f4), .int .i64 ((rd_T41 l0 t101).f5), .int .i64 ((rd_T41 l0 t101).f6), .int .i64 ((rd_T41 l0 t101).f7)]) ?_ 4 _ rfl; (with_reducible repeat (first | refine blk_drewN ?_ _ | refine blk_drew ?_ | refine blk_alloc ?_ _)); apply Sq.put8; exact bS BK109.out) hb); have n2_ := Aside0.mk (below_step (by repeat (first | (with_reducible first | exact HB.out | apply below_alloc | apply pw_below_drewN | apply below_drew1 | refine below_set ?_ GE109.out) | exact HB.out)) hb); clear BK109; clear HB; have HO133 := n0_; have BK109 := n1_; have HB := n2_; clear n0_ n1_ n2_; (try clear hb); (try clear hb2); (try clear hk); (try clear hi); (try clear ho0)))
     go_ret2
     exact ⟨_, by first | rfl | (simp [errW_none, errW_some] <;> rfl) | (simp [*, errW_none, errW_some] <;> rfl), by exact Ho.RS <| Kd.R_mono HO133.out (fun _ hk => trivial), by exact eS HB.out⟩
    rw [if_pos c39] at H
    have c39b0 : (((rd_T41 l0 t101).f4) == 3) = true := beq_iff_eq.mpr c39
    have c39b1 : (((rd_T41 l0 t101).f4) != 3) = false := bne_eq_false_iff_eq.mpr c39
    clear c39
    by_cases c40 : ((rd_T41 l0 t101).f6) < ((rd_T41 l0 t101).f5)
    ·rw [if_pos c40] at H
     have c40b0 : decide (((rd_T41 l0 t101).f6) < ((rd_T41 l0 t101).f5)) = true := decide_eq_true c40
     clear c40
     obtain ⟨y124, hy124⟩ : ∃ y_ : List (S41), y_ = (([] : List (S41))) := ⟨_, rfl⟩
     replace H : (some (y124, false)) = some (r1, r2) := by first | (rw [hy124]; with_reducible exact H) | (have H2_ := (Option.bind_some _ _).symm.trans H; rw [hy124]; with_reducible exact H2_) | (have H2_ := (Option.bind_some _ _).symm.trans H; with_reducible exact H2_) | with_reducible exact H | (rw [hy124]; exact H) | exact H
     have Ny124 := Aside0.mk hy124
     clear hy124
     simp only [Option.some.injEq, Prod.mk.injEq] at H
     obtain ⟨rfl, rfl⟩ := H
     have p108 : 0 ≤ (t101 : Int) := of_decide_eq_true (by first | (with_reducible assumption) | assumption)
     have q108 : t101 < (l0.length : Int) := of_decide_eq_true (by first | (with_reducible assumption) | assumption)
     obtain ⟨ad108, e108, hx108_0, hx108_1, hx108_2, hx108_3, hx108_4, hx108_5, hx108_6, hx108_7⟩ := at_T41 HR0.out t101 p108 q108
     cases e108
     replace hx108_0 := Sq.cB HB.out hx108_0
     replace hx108_1 := Sq.cB HB.out hx108_1
     replace hx108_2 := Sq.cB HB.out hx108_2
     replace hx108_3 := Sq.cB HB.out hx108_3
     replace hx108_4 := Sq.cB HB.out hx108_4
     replace hx108_5 := Sq.cB HB.out hx108_5
     replace hx108_6 := Sq.cB HB.out hx108_6
     replace hx108_7 := Sq.cB HB.out hx108_7
     replace p108 := eq_true p108
     replace q108 := eq_true q108
     go_wp2_with (first | ((with_reducible refine gate_dst (N := 9) rfl ?_); refine box_event ?hg (N := 9) ?hd (cs := #[.int .i64 0, .string (⟨#[]⟩ : ByteArray), .int .i64 0, .int .i64 0, .int .i64 0, .int .i64 0, .int .i64 0, .int .i64 0]) (t := 41) ?hr ?_; (case hd => rfl); (case hg => rfl); (case hr => first | (go_simp; done) | (go_simp; rfl)); intro gb109 hg w41 hbox hb; have n0_ := Aside0.mk (below_step (by exact eS HB.out) hb); have n1_ := Aside0.mk (hbox); have n2_ := Aside0.mk ((by rw [hg]; exact (below_size (by exact eS HB.out)) : w.heap.size ≤ gb109)); have n3_ := Aside0.mk ((by rw [hg]; exact (below_size (by exact eS HB.out)) : w.heap.size ≤ gb109)); clear HB; have HB := n0_; have BK109 := n1_; have GW109 := n2_; have GE109 := n3_; clear n0_ n1_ n2_ n3_; clear hb hbox hg; obtain ⟨hcz42_0, hcz42_1, hcz42_2, hcz42_3, hcz42_4, hcz42_5, hcz42_6, hcz42_7, hfz42_0, hfz42_1, hfz42_2, hfz42_3, hfz42_4, hfz42_5, hfz42_6, hfz42_7⟩ := Sq.c8 BK109.out) | ((with_reducible refine gate_dst (N := 62) rfl ?_); refine Kd.R_lit k41 _ 41 ?hg (N := 62) ?hd (xs := ([] : List (S41))) (inner := []) (ok := fun _ => True) (okp := fun _ => True) ?hr ?hp (fun _ hk => hk) trivial (Below.refl _ _) (Nat.le_refl _) (by simp) ?_; (case hd => rfl); (case hg => rfl); (case hr => first | (go_simp; done) | (go_simp; rfl)); (case hp => exact (Reps.none _ _)); intro v125 w43 ho44 hb hg_ hnew_; clear hg_ hnew_; (first | rw [← Ny124.out] at ho44 | (simp only [Int.reduceToNat] at ho44; rw [← Ny124.out] at ho44)); have n0_ := Aside0.mk (Kd.R_lower (Kd.R_newB ho44 (g := gb109) (o := .cells #[.int .i64 ((rd_T41 l0 t101).f0), .string ((rd_T41 l0 t101).f1), .int .i64 ((rd_T41 l0 t101).f2), .int .i64 ((rd_T41 l0 t101).f3), .int .i64 ((rd_T41 l0 t101).f4), .int .i64 ((rd_T41 l0 t101).f5), .int .i64 ((rd_T41 l0 t101).f6), .int .i64 ((rd_T41 l0 t101).f7)] 41 (0, 0)) (by (with_reducible repeat (first | refine blk_drewN ?_ _ | refine blk_drew ?_ | refine blk_alloc ?_ _)); apply Sq.put8; exact bS BK109.out)) (below_size (by repeat (first | (with_reducible first | exact HB.out | apply below_alloc | apply pw_below_drewN | apply below_drew1 | refine below_set ?_ GE109.out) | exact HB.out)))); have n1_ := Aside0.mk (blk_below (g := gb109) (o := .cells #[.int .i64 ((rd_T41 l0 t101).f0), .string ((rd_T41 l0 t101).f1), .int .i64 ((rd_T41 l0 t101).f2), .int .i64 ((rd_T41 l0 t101).f3), .int .i64 ((rd_T41 l0 t101).f4), .int .i64 ((rd_T41 l0 t101).f5), .int .i64 ((rd_T41 l0 t101).f6), .int .i64 ((rd_T41 l0 t101).f7)] 41 (0, 0)) (by (with_reducible repeat (first | refine blk_drewN ?_ _ | refine blk_drew ?_ | refine blk_alloc ?_ _)); apply Sq.put8; exact bS BK109.out) hb); have n2_ := Aside0.mk (below_step (by repeat (first | (with_reducible first | exact HB.out | apply below_alloc | apply pw_below_drewN | apply below_drew1 | refine below_set ?_ GE109.out) | exact HB.out)) hb); clear BK109; clear HB; have HO126 := n0_; have BK109 := n1_; have HB := n2_; clear n0_ n1_ n2_; clear hb ho44))
     go_ret2
     exact ⟨_, by first | rfl | (simp [errW_none, errW_some] <;> rfl) | (simp [*, errW_none, errW_some] <;> rfl), by exact Ho.RS <| Kd.R_mono HO126.out (fun _ hk => trivial), by exact eS HB.out⟩
    rw [if_neg c40] at H
    have c40b0 : decide (((rd_T41 l0 t101).f6) < ((rd_T41 l0 t101).f5)) = false := decide_eq_false c40
    clear c40
    replace H := Option.bind_eq_some_iff.mp H
    obtain ⟨⟨t127, t130⟩, A450, H⟩ := H
    (try dsimp only at H)
    have A45 := Aside0.mk A450
    clear A450
    simp only [Option.some.injEq, Prod.mk.injEq] at H
    obtain ⟨rfl, rfl⟩ := H
    have p108 : 0 ≤ (t101 : Int) := of_decide_eq_true (by first | (with_reducible assumption) | assumption)
    have q108 : t101 < (l0.length : Int) := of_decide_eq_true (by first | (with_reducible assumption) | assumption)
    obtain ⟨ad108, e108, hx108_0, hx108_1, hx108_2, hx108_3, hx108_4, hx108_5, hx108_6, hx108_7⟩ := at_T41 HR0.out t101 p108 q108
    cases e108
    replace hx108_0 := Sq.cB HB.out hx108_0
    replace hx108_1 := Sq.cB HB.out hx108_1
    replace hx108_2 := Sq.cB HB.out hx108_2
    replace hx108_3 := Sq.cB HB.out hx108_3
    replace hx108_4 := Sq.cB HB.out hx108_4
    replace hx108_5 := Sq.cB HB.out hx108_5
    replace hx108_6 := Sq.cB HB.out hx108_6
    replace hx108_7 := Sq.cB HB.out hx108_7
    replace p108 := eq_true p108
    replace q108 := eq_true q108
    go_wp2_with (first | ((with_reducible refine gate_dst (N := 9) rfl ?_); refine box_event ?hg (N := 9) ?hd (cs := #[.int .i64 0, .string (⟨#[]⟩ : ByteArray), .int .i64 0, .int .i64 0, .int .i64 0, .int .i64 0, .int .i64 0, .int .i64 0]) (t := 41) ?hr ?_; (case hd => rfl); (case hg => rfl); (case hr => first | (go_simp; done) | (go_simp; rfl)); intro gb109 hg w46 hbox hb; have n0_ := Aside0.mk (below_step (by exact eS HB.out) hb); have n1_ := Aside0.mk (hbox); have n2_ := Aside0.mk ((by rw [hg]; exact (below_size (by exact eS HB.out)) : w.heap.size ≤ gb109)); have n3_ := Aside0.mk ((by rw [hg]; exact (below_size (by exact eS HB.out)) : w.heap.size ≤ gb109)); clear HB; have HB := n0_; have BK109 := n1_; have GW109 := n2_; have GE109 := n3_; clear n0_ n1_ n2_ n3_; clear hb hbox hg; obtain ⟨hcz47_0, hcz47_1, hcz47_2, hcz47_3, hcz47_4, hcz47_5, hcz47_6, hcz47_7, hfz47_0, hfz47_1, hfz47_2, hfz47_3, hfz47_4, hfz47_5, hfz47_6, hfz47_7⟩ := Sq.c8 BK109.out) | ((with_reducible refine gate_callee (f := 83) rfl ?_); refine goesL_ (some 73) rfl rfl Tryd.func83 (by kernel_rfl) rfl #[.slice (some ad108) l0.length c0, .int .i64 t101, .agg #[.int .i64 ((rd_T41 l0 t101).f0), .string ((rd_T41 l0 t101).f1), .int .i64 ((rd_T41 l0 t101).f2), .int .i64 ((rd_T41 l0 t101).f3), .int .i64 (wrap64 (((rd_T41 l0 t101).f4) + 1)), .int .i64 ((rd_T41 l0 t101).f5), .int .i64 ((rd_T41 l0 t101).f6), .int .i64 a2]] rfl (by (try simp only [List.map_toArray, List.map_cons, List.map_nil]); first | done | rfl | (simp only [List.length_drop, List.length_take]; rfl)) ?_; (with_reducible refine (Fx.calls kj4 _ _ l0 t101 ((rd_T41 l0 t101).f0) ((rd_T41 l0 t101).f1) ((rd_T41 l0 t101).f2) ((rd_T41 l0 t101).f3) (wrap64 (((rd_T41 l0 t101).f4) + 1)) ((rd_T41 l0 t101).f5) ((rd_T41 l0 t101).f6) a2 t127 t130 _ ?side1 ?side2 A45.out).mono ?_); (case side1 => exact Kd.C_below HR0.out (by repeat (first | (with_reducible first | exact HB.out | apply below_alloc | apply pw_below_drewN | apply below_drew1 | refine below_set ?_ GE109.out) | exact HB.out))); (case side2 => exact HC0.out); rintro e w48 ⟨v128, rfl, ho0, hb⟩; refine ⟨_, rfl, ?_⟩; have n0_ := Aside0.mk (Kd.R_lower (Kd.R_newB ho0 (g := gb109) (o := .cells #[.int .i64 ((rd_T41 l0 t101).f0), .string ((rd_T41 l0 t101).f1), .int .i64 ((rd_T41 l0 t101).f2), .int .i64 ((rd_T41 l0 t101).f3), .int .i64 (wrap64 (((rd_T41 l0 t101).f4) + 1)), .int .i64 ((rd_T41 l0 t101).f5), .int .i64 ((rd_T41 l0 t101).f6), .int .i64 a2] 41 (0, 0)) (by (with_reducible repeat (first | refine blk_drewN ?_ _ | refine blk_drew ?_ | refine blk_alloc ?_ _)); refine blk_put (cs := #[.int .i64 ((rd_T41 l0 t101).f0), .string ((rd_T41 l0 t101).f1), .int .i64 ((rd_T41 l0 t101).f2), .int .i64 ((rd_T41 l0 t101).f3), .int .i64 (wrap64 (((rd_T41 l0 t101).f4) + 1)), .int .i64 ((rd_T41 l0 t101).f5), .int .i64 ((rd_T41 l0 t101).f6), .int .i64 ((rd_T41 l0 t101).f7)]) ?_ 7 _ rfl; (with_reducible repeat (first | refine blk_drewN ?_ _ | refine blk_drew ?_ | refine blk_alloc ?_ _)); refine blk_put (cs := #[.int .i64 ((rd_T41 l0 t101).f0), .string ((rd_T41 l0 t101).f1), .int .i64 ((rd_T41 l0 t101).f2), .int .i64 ((rd_T41 l0 t101).f3), .int .i64 ((rd_T41 l0 t101).f4), .int .i64 ((rd_T41 l0 t101).f5), .int .i64 ((rd_T41 l0 t101).f6), .int .i64 ((rd_T41 l0 t101).f7)]) ?_ 4 _ rfl; (with_reducible repeat (first | refine blk_drewN ?_ _ | refine blk_drew ?_ | refine blk_alloc ?_ _)); apply Sq.put8; exact bS BK109.out)) (below_size (by repeat (first | (with_reducible first | exact HB.out | apply below_alloc | apply pw_below_drewN | apply below_drew1 | refine below_set ?_ GE109.out) | exact HB.out)))); have n1_ := Aside0.mk (blk_below (g := gb109) (o := .cells #[.int .i64 ((rd_T41 l0 t101).f0), .string ((rd_T41 l0 t101).f1), .int .i64 ((rd_T41 l0 t101).f2), .int .i64 ((rd_T41 l0 t101).f3), .int .i64 (wrap64 (((rd_T41 l0 t101).f4) + 1)), .int .i64 ((rd_T41 l0 t101).f5), .int .i64 ((rd_T41 l0 t101).f6), .int .i64 a2] 41 (0, 0)) (by (with_reducible repeat (first | refine blk_drewN ?_ _ | refine blk_drew ?_ | refine blk_alloc ?_ _)); refine blk_put (cs := #[.int .i64 ((rd_T41 l0 t101).f0), .string ((rd_T41 l0 t101).f1), .int .i64 ((rd_T41 l0 t101).f2), .int .i64 ((rd_T41 l0 t101).f3), .int .i64 (wrap64 (((rd_T41 l0 t101).f4) + 1)), .int .i64 ((rd_T41 l0 t101).f5), .int .i64 ((rd_T41 l0 t101).f6), .int .i64 ((rd_T41 l0 t101).f7)]) ?_ 7 _ rfl; (with_reducible repeat (first | refine blk_drewN ?_ _ | refine blk_drew ?_ | refine blk_alloc ?_ _)); refine blk_put (cs := #[.int .i64 ((rd_T41 l0 t101).f0), .string ((rd_T41 l0 t101).f1), .int .i64 ((rd_T41 l0 t101).f2), .int .i64 ((rd_T41 l0 t101).f3), .int .i64 ((rd_T41 l0 t101).f4), .int .i64 ((rd_T41 l0 t101).f5), .int .i64 ((rd_T41 l0 t101).f6), .int .i64 ((rd_T41 l0 t101).f7)]) ?_ 4 _ rfl; (with_reducible repeat (first | refine blk_drewN ?_ _ | refine blk_drew ?_ | refine blk_alloc ?_ _)); apply Sq.put8; exact bS BK109.out) hb); have n2_ := Aside0.mk (below_step (by repeat (first | (with_reducible first | exact HB.out | apply below_alloc | apply pw_below_drewN | apply below_drew1 | refine below_set ?_ GE109.out) | exact HB.out)) hb); clear BK109; clear HB; have HO129 := n0_; have BK109 := n1_; have HB := n2_; clear n0_ n1_ n2_; (try clear hb); (try clear hb2); (try clear hk); (try clear hi); (try clear ho0)))
    go_ret2
    exact ⟨_, by first | rfl | (simp [errW_none, errW_some] <;> rfl) | (simp [*, errW_none, errW_some] <;> rfl), by exact Ho.RS <| Kd.R_mono HO129.out (fun _ hk => trivial), by exact eS HB.out⟩
   rw [if_pos c19] at H
   have c19b0 : (((rd_T41 l0 t101).f4) == 0) = true := beq_iff_eq.mpr c19
   have c19b1 : (((rd_T41 l0 t101).f4) != 0) = false := bne_eq_false_iff_eq.mpr c19
   clear c19
   by_cases c20 : (wrap64 (3 * ((rd_T41 l0 t101).f6))) < ((rd_T41 l0 t101).f5)
   ·rw [if_pos c20] at H
    have c20b0 : decide ((wrap64 (3 * ((rd_T41 l0 t101).f6))) < ((rd_T41 l0 t101).f5)) = true := decide_eq_true c20
    clear c20
    obtain ⟨y110, hy110⟩ : ∃ y_ : List (S41), y_ = (([] : List (S41))) := ⟨_, rfl⟩
    replace H : (some (y110, false)) = some (r1, r2) := by first | (rw [hy110]; with_reducible exact H) | (have H2_ := (Option.bind_some _ _).symm.trans H; rw [hy110]; with_reducible exact H2_) | (have H2_ := (Option.bind_some _ _).symm.trans H; with_reducible exact H2_) | with_reducible exact H | (rw [hy110]; exact H) | exact H
    have Ny110 := Aside0.mk hy110
    clear hy110
    simp only [Option.some.injEq, Prod.mk.injEq] at H
    obtain ⟨rfl, rfl⟩ := H
    have p108 : 0 ≤ (t101 : Int) := of_decide_eq_true (by first | (with_reducible assumption) | assumption)
    have q108 : t101 < (l0.length : Int) := of_decide_eq_true (by first | (with_reducible assumption) | assumption)
    obtain ⟨ad108, e108, hx108_0, hx108_1, hx108_2, hx108_3, hx108_4, hx108_5, hx108_6, hx108_7⟩ := at_T41 HR0.out t101 p108 q108
    cases e108
    replace hx108_0 := Sq.cB HB.out hx108_0
    replace hx108_1 := Sq.cB HB.out hx108_1
    replace hx108_2 := Sq.cB HB.out hx108_2
    replace hx108_3 := Sq.cB HB.out hx108_3
    replace hx108_4 := Sq.cB HB.out hx108_4
    replace hx108_5 := Sq.cB HB.out hx108_5
    replace hx108_6 := Sq.cB HB.out hx108_6
    replace hx108_7 := Sq.cB HB.out hx108_7
    replace p108 := eq_true p108
    replace q108 := eq_true q108
    go_wp2_with (first | ((with_reducible refine gate_dst (N := 9) rfl ?_); refine box_event ?hg (N := 9) ?hd (cs := #[.int .i64 0, .string (⟨#[]⟩ : ByteArray), .int .i64 0, .int .i64 0, .int .i64 0, .int .i64 0, .int .i64 0, .int .i64 0]) (t := 41) ?hr ?_; (case hd => rfl); (case hg => rfl); (case hr => first | (go_simp; done) | (go_simp; rfl)); intro gb109 hg w21 hbox hb; have n0_ := Aside0.mk (below_step (by exact eS HB.out) hb); have n1_ := Aside0.mk (hbox); have n2_ := Aside0.mk ((by rw [hg]; exact (below_size (by exact eS HB.out)) : w.heap.size ≤ gb109)); have n3_ := Aside0.mk ((by rw [hg]; exact (below_size (by exact eS HB.out)) : w.heap.size ≤ gb109)); clear HB; have HB := n0_; have BK109 := n1_; have GW109 := n2_; have GE109 := n3_; clear n0_ n1_ n2_ n3_; clear hb hbox hg; obtain ⟨hcz22_0, hcz22_1, hcz22_2, hcz22_3, hcz22_4, hcz22_5, hcz22_6, hcz22_7, hfz22_0, hfz22_1, hfz22_2, hfz22_3, hfz22_4, hfz22_5, hfz22_6, hfz22_7⟩ := Sq.c8 BK109.out) | ((with_reducible refine gate_dst (N := 62) rfl ?_); refine Kd.R_lit k41 _ 41 ?hg (N := 62) ?hd (xs := ([] : List (S41))) (inner := []) (ok := fun _ => True) (okp := fun _ => True) ?hr ?hp (fun _ hk => hk) trivial (Below.refl _ _) (Nat.le_refl _) (by simp) ?_; (case hd => rfl); (case hg => rfl); (case hr => first | (go_simp; done) | (go_simp; rfl)); (case hp => exact (Reps.none _ _)); intro v111 w23 ho24 hb hg_ hnew_; clear hg_ hnew_; (first | rw [← Ny110.out] at ho24 | (simp only [Int.reduceToNat] at ho24; rw [← Ny110.out] at ho24)); have n0_ := Aside0.mk (Kd.R_lower (Kd.R_newB ho24 (g := gb109) (o := .cells #[.int .i64 ((rd_T41 l0 t101).f0), .string ((rd_T41 l0 t101).f1), .int .i64 ((rd_T41 l0 t101).f2), .int .i64 ((rd_T41 l0 t101).f3), .int .i64 ((rd_T41 l0 t101).f4), .int .i64 ((rd_T41 l0 t101).f5), .int .i64 ((rd_T41 l0 t101).f6), .int .i64 ((rd_T41 l0 t101).f7)] 41 (0, 0)) (by (with_reducible repeat (first | refine blk_drewN ?_ _ | refine blk_drew ?_ | refine blk_alloc ?_ _)); apply Sq.put8; exact bS BK109.out)) (below_size (by repeat (first | (with_reducible first | exact HB.out | apply below_alloc | apply pw_below_drewN | apply below_drew1 | refine below_set ?_ GE109.out) | exact HB.out)))); have n1_ := Aside0.mk (blk_below (g := gb109) (o := .cells #[.int .i64 ((rd_T41 l0 t101).f0), .string ((rd_T41 l0 t101).f1), .int .i64 ((rd_T41 l0 t101).f2), .int .i64 ((rd_T41 l0 t101).f3), .int .i64 ((rd_T41 l0 t101).f4), .int .i64 ((rd_T41 l0 t101).f5), .int .i64 ((rd_T41 l0 t101).f6), .int .i64 ((rd_T41 l0 t101).f7)] 41 (0, 0)) (by (with_reducible repeat (first | refine blk_drewN ?_ _ | refine blk_drew ?_ | refine blk_alloc ?_ _)); apply Sq.put8; exact bS BK109.out) hb); have n2_ := Aside0.mk (below_step (by repeat (first | (with_reducible first | exact HB.out | apply below_alloc | apply pw_below_drewN | apply below_drew1 | refine below_set ?_ GE109.out) | exact HB.out)) hb); clear BK109; clear HB; have HO112 := n0_; have BK109 := n1_; have HB := n2_; clear n0_ n1_ n2_; clear hb ho24))
    go_ret2
    exact ⟨_, by first | rfl | (simp [errW_none, errW_some] <;> rfl) | (simp [*, errW_none, errW_some] <;> rfl), by exact Ho.RS <| Kd.R_mono HO112.out (fun _ hk => trivial), by exact eS HB.out⟩
   rw [if_neg c20] at H
   have c20b0 : decide ((wrap64 (3 * ((rd_T41 l0 t101).f6))) < ((rd_T41 l0 t101).f5)) = false := decide_eq_false c20
   clear c20
   by_cases c25 : ((rd_T41 l0 t101).f4) = 3
   rotate_left
   ·rw [if_neg c25] at H
    have c25b0 : (((rd_T41 l0 t101).f4) == 3) = false := beq_eq_false_iff_ne.mpr c25
    have c25b1 : (((rd_T41 l0 t101).f4) != 3) = true := bne_iff_ne.mpr c25
    replace H := Option.bind_eq_some_iff.mp H
    obtain ⟨⟨t120, t123⟩, A350, H⟩ := H
    (try dsimp only at H)
    have A35 := Aside0.mk A350
    clear A350
    simp only [Option.some.injEq, Prod.mk.injEq] at H
    obtain ⟨rfl, rfl⟩ := H
    have p108 : 0 ≤ (t101 : Int) := of_decide_eq_true (by first | (with_reducible assumption) | assumption)
    have q108 : t101 < (l0.length : Int) := of_decide_eq_true (by first | (with_reducible assumption) | assumption)
    obtain ⟨ad108, e108, hx108_0, hx108_1, hx108_2, hx108_3, hx108_4, hx108_5, hx108_6, hx108_7⟩ := at_T41 HR0.out t101 p108 q108
    cases e108
    replace hx108_0 := Sq.cB HB.out hx108_0
    replace hx108_1 := Sq.cB HB.out hx108_1
    replace hx108_2 := Sq.cB HB.out hx108_2
    replace hx108_3 := Sq.cB HB.out hx108_3
    replace hx108_4 := Sq.cB HB.out hx108_4
    replace hx108_5 := Sq.cB HB.out hx108_5
    replace hx108_6 := Sq.cB HB.out hx108_6
    replace hx108_7 := Sq.cB HB.out hx108_7
    replace p108 := eq_true p108
    replace q108 := eq_true q108
    go_wp2_with (first | ((with_reducible refine gate_dst (N := 9) rfl ?_); refine box_event ?hg (N := 9) ?hd (cs := #[.int .i64 0, .string (⟨#[]⟩ : ByteArray), .int .i64 0, .int .i64 0, .int .i64 0, .int .i64 0, .int .i64 0, .int .i64 0]) (t := 41) ?hr ?_; (case hd => rfl); (case hg => rfl); (case hr => first | (go_simp; done) | (go_simp; rfl)); intro gb109 hg w36 hbox hb; have n0_ := Aside0.mk (below_step (by exact eS HB.out) hb); have n1_ := Aside0.mk (hbox); have n2_ := Aside0.mk ((by rw [hg]; exact (below_size (by exact eS HB.out)) : w.heap.size ≤ gb109)); have n3_ := Aside0.mk ((by rw [hg]; exact (below_size (by exact eS HB.out)) : w.heap.size ≤ gb109)); clear HB; have HB := n0_; have BK109 := n1_; have GW109 := n2_; have GE109 := n3_; clear n0_ n1_ n2_ n3_; clear hb hbox hg; obtain ⟨hcz37_0, hcz37_1, hcz37_2, hcz37_3, hcz37_4, hcz37_5, hcz37_6, hcz37_7, hfz37_0, hfz37_1, hfz37_2, hfz37_3, hfz37_4, hfz37_5, hfz37_6, hfz37_7⟩ := Sq.c8 BK109.out) | ((with_reducible refine gate_callee (f := 83) rfl ?_); refine goesL_ (some 73) rfl rfl Tryd.func83 (by kernel_rfl) rfl #[.slice (some ad108) l0.length c0, .int .i64 t101, .agg #[.int .i64 ((rd_T41 l0 t101).f0), .string ((rd_T41 l0 t101).f1), .int .i64 ((rd_T41 l0 t101).f2), .int .i64 ((rd_T41 l0 t101).f3), .int .i64 (wrap64 (((rd_T41 l0 t101).f4) + 1)), .int .i64 ((rd_T41 l0 t101).f5), .int .i64 ((rd_T41 l0 t101).f6), .int .i64 a2]] rfl (by (try simp only [List.map_toArray, List.map_cons, List.map_nil]); first | done | rfl | (simp only [List.length_drop, List.length_take]; rfl)) ?_; (with_reducible refine (Fx.calls kj4 _ _ l0 t101 ((rd_T41 l0 t101).f0) ((rd_T41 l0 t101).f1) ((rd_T41 l0 t101).f2) ((rd_T41 l0 t101).f3) (wrap64 (((rd_T41 l0 t101).f4) + 1)) ((rd_T41 l0 t101).f5) ((rd_T41 l0 t101).f6) a2 t120 t123 _ ?side1 ?side2 A35.out).mono ?_); (case side1 => exact Kd.C_below HR0.out (by repeat (first | (with_reducible first | exact HB.out | apply below_alloc | apply pw_below_drewN | apply below_drew1 | refine below_set ?_ GE109.out) | exact HB.out))); (case side2 => exact HC0.out); rintro e w38 ⟨v121, rfl, ho0, hb⟩; refine ⟨_, rfl, ?_⟩; have n0_ := Aside0.mk (Kd.R_lower (Kd.R_newB ho0 (g := gb109) (o := .cells #[.int .i64 ((rd_T41 l0 t101).f0), .string ((rd_T41 l0 t101).f1), .int .i64 ((rd_T41 l0 t101).f2), .int .i64 ((rd_T41 l0 t101).f3), .int .i64 (wrap64 (((rd_T41 l0 t101).f4) + 1)), .int .i64 ((rd_T41 l0 t101).f5), .int .i64 ((rd_T41 l0 t101).f6), .int .i64 a2] 41 (0, 0)) (by (with_reducible repeat (first | refine blk_drewN ?_ _ | refine blk_drew ?_ | refine blk_alloc ?_ _)); refine blk_put (cs := #[.int .i64 ((rd_T41 l0 t101).f0), .string ((rd_T41 l0 t101).f1), .int .i64 ((rd_T41 l0 t101).f2), .int .i64 ((rd_T41 l0 t101).f3), .int .i64 (wrap64 (((rd_T41 l0 t101).f4) + 1)), .int .i64 ((rd_T41 l0 t101).f5), .int .i64 ((rd_T41 l0 t101).f6), .int .i64 ((rd_T41 l0 t101).f7)]) ?_ 7 _ rfl; (with_reducible repeat (first | refine blk_drewN ?_ _ | refine blk_drew ?_ | refine blk_alloc ?_ _)); refine blk_put (cs := #[.int .i64 ((rd_T41 l0 t101).f0), .string ((rd_T41 l0 t101).f1), .int .i64 ((rd_T41 l0 t101).f2), .int .i64 ((rd_T41 l0 t101).f3), .int .i64 ((rd_T41 l0 t101).f4), .int .i64 ((rd_T41 l0 t101).f5), .int .i64 ((rd_T41 l0 t101).f6), .int .i64 ((rd_T41 l0 t101).f7)]) ?_ 4 _ rfl; (with_reducible repeat (first | refine blk_drewN ?_ _ | refine blk_drew ?_ | refine blk_alloc ?_ _)); apply Sq.put8; exact bS BK109.out)) (below_size (by repeat (first | (with_reducible first | exact HB.out | apply below_alloc | apply pw_below_drewN | apply below_drew1 | refine below_set ?_ GE109.out) | exact HB.out)))); have n1_ := Aside0.mk (blk_below (g := gb109) (o := .cells #[.int .i64 ((rd_T41 l0 t101).f0), .string ((rd_T41 l0 t101).f1), .int .i64 ((rd_T41 l0 t101).f2), .int .i64 ((rd_T41 l0 t101).f3), .int .i64 (wrap64 (((rd_T41 l0 t101).f4) + 1)), .int .i64 ((rd_T41 l0 t101).f5), .int .i64 ((rd_T41 l0 t101).f6), .int .i64 a2] 41 (0, 0)) (by (with_reducible repeat (first | refine blk_drewN ?_ _ | refine blk_drew ?_ | refine blk_alloc ?_ _)); refine blk_put (cs := #[.int .i64 ((rd_T41 l0 t101).f0), .string ((rd_T41 l0 t101).f1), .int .i64 ((rd_T41 l0 t101).f2), .int .i64 ((rd_T41 l0 t101).f3), .int .i64 (wrap64 (((rd_T41 l0 t101).f4) + 1)), .int .i64 ((rd_T41 l0 t101).f5), .int .i64 ((rd_T41 l0 t101).f6), .int .i64 ((rd_T41 l0 t101).f7)]) ?_ 7 _ rfl; (with_reducible repeat (first | refine blk_drewN ?_ _ | refine blk_drew ?_ | refine blk_alloc ?_ _)); refine blk_put (cs := #[.int .i64 ((rd_T41 l0 t101).f0), .string ((rd_T41 l0 t101).f1), .int .i64 ((rd_T41 l0 t101).f2), .int .i64 ((rd_T41 l0 t101).f3), .int .i64 ((rd_T41 l0 t101).f4), .int .i64 ((rd_T41 l0 t101).f5), .int .i64 ((rd_T41 l0 t101).f6), .int .i64 ((rd_T41 l0 t101).f7)]) ?_ 4 _ rfl; (with_reducible repeat (first | refine blk_drewN ?_ _ | refine blk_drew ?_ | refine blk_alloc ?_ _)); apply Sq.put8; exact bS BK109.out) hb); have n2_ := Aside0.mk (below_step (by repeat (first | (with_reducible first | exact HB.out | apply below_alloc | apply pw_below_drewN | apply below_drew1 | refine below_set ?_ GE109.out) | exact HB.out)) hb); clear BK109; clear HB; have HO122 := n0_; have BK109 := n1_; have HB := n2_; clear n0_ n1_ n2_; (try clear hb); (try clear hb2); (try clear hk); (try clear hi); (try clear ho0)))
    go_ret2
    exact ⟨_, by first | rfl | (simp [errW_none, errW_some] <;> rfl) | (simp [*, errW_none, errW_some] <;> rfl), by exact Ho.RS <| Kd.R_mono HO122.out (fun _ hk => trivial), by exact eS HB.out⟩
   rw [if_pos c25] at H
   have c25b0 : (((rd_T41 l0 t101).f4) == 3) = true := beq_iff_eq.mpr c25
   have c25b1 : (((rd_T41 l0 t101).f4) != 3) = false := bne_eq_false_iff_eq.mpr c25
   clear c25
   by_cases c26 : ((rd_T41 l0 t101).f6) < ((rd_T41 l0 t101).f5)
   ·rw [if_pos c26] at H
    have c26b0 : decide (((rd_T41 l0 t101).f6) < ((rd_T41 l0 t101).f5)) = true := decide_eq_true c26
    clear c26
    obtain ⟨y113, hy113⟩ : ∃ y_ : List (S41), y_ = (([] : List (S41))) := ⟨_, rfl⟩
    replace H : (some (y113, false)) = some (r1, r2) := by first | (rw [hy113]; with_reducible exact H) | (have H2_ := (Option.bind_some _ _).symm.trans H; rw [hy113]; with_reducible exact H2_) | (have H2_ := (Option.bind_some _ _).symm.trans H; with_reducible exact H2_) | with_reducible exact H | (rw [hy113]; exact H) | exact H
    have Ny113 := Aside0.mk hy113
    clear hy113
    simp only [Option.some.injEq, Prod.mk.injEq] at H
    obtain ⟨rfl, rfl⟩ := H
    have p108 : 0 ≤ (t101 : Int) := of_decide_eq_true (by first | (with_reducible assumption) | assumption)
    have q108 : t101 < (l0.length : Int) := of_decide_eq_true (by first | (with_reducible assumption) | assumption)
    obtain ⟨ad108, e108, hx108_0, hx108_1, hx108_2, hx108_3, hx108_4, hx108_5, hx108_6, hx108_7⟩ := at_T41 HR0.out t101 p108 q108
    cases e108
    replace hx108_0 := Sq.cB HB.out hx108_0
    replace hx108_1 := Sq.cB HB.out hx108_1
    replace hx108_2 := Sq.cB HB.out hx108_2
    replace hx108_3 := Sq.cB HB.out hx108_3
    replace hx108_4 := Sq.cB HB.out hx108_4
    replace hx108_5 := Sq.cB HB.out hx108_5
    replace hx108_6 := Sq.cB HB.out hx108_6
    replace hx108_7 := Sq.cB HB.out hx108_7
    replace p108 := eq_true p108
    replace q108 := eq_true q108
    go_wp2_with (first | ((with_reducible refine gate_dst (N := 9) rfl ?_); refine box_event ?hg (N := 9) ?hd (cs := #[.int .i64 0, .string (⟨#[]⟩ : ByteArray), .int .i64 0, .int .i64 0, .int .i64 0, .int .i64 0, .int .i64 0, .int .i64 0]) (t := 41) ?hr ?_; (case hd => rfl); (case hg => rfl); (case hr => first | (go_simp; done) | (go_simp; rfl)); intro gb109 hg w27 hbox hb; have n0_ := Aside0.mk (below_step (by exact eS HB.out) hb); have n1_ := Aside0.mk (hbox); have n2_ := Aside0.mk ((by rw [hg]; exact (below_size (by exact eS HB.out)) : w.heap.size ≤ gb109)); have n3_ := Aside0.mk ((by rw [hg]; exact (below_size (by exact eS HB.out)) : w.heap.size ≤ gb109)); clear HB; have HB := n0_; have BK109 := n1_; have GW109 := n2_; have GE109 := n3_; clear n0_ n1_ n2_ n3_; clear hb hbox hg; obtain ⟨hcz28_0, hcz28_1, hcz28_2, hcz28_3, hcz28_4, hcz28_5, hcz28_6, hcz28_7, hfz28_0, hfz28_1, hfz28_2, hfz28_3, hfz28_4, hfz28_5, hfz28_6, hfz28_7⟩ := Sq.c8 BK109.out) | ((with_reducible refine gate_dst (N := 62) rfl ?_); refine Kd.R_lit k41 _ 41 ?hg (N := 62) ?hd (xs := ([] : List (S41))) (inner := []) (ok := fun _ => True) (okp := fun _ => True) ?hr ?hp (fun _ hk => hk) trivial (Below.refl _ _) (Nat.le_refl _) (by simp) ?_; (case hd => rfl); (case hg => rfl); (case hr => first | (go_simp; done) | (go_simp; rfl)); (case hp => exact (Reps.none _ _)); intro v114 w29 ho30 hb hg_ hnew_; clear hg_ hnew_; (first | rw [← Ny113.out] at ho30 | (simp only [Int.reduceToNat] at ho30; rw [← Ny113.out] at ho30)); have n0_ := Aside0.mk (Kd.R_lower (Kd.R_newB ho30 (g := gb109) (o := .cells #[.int .i64 ((rd_T41 l0 t101).f0), .string ((rd_T41 l0 t101).f1), .int .i64 ((rd_T41 l0 t101).f2), .int .i64 ((rd_T41 l0 t101).f3), .int .i64 ((rd_T41 l0 t101).f4), .int .i64 ((rd_T41 l0 t101).f5), .int .i64 ((rd_T41 l0 t101).f6), .int .i64 ((rd_T41 l0 t101).f7)] 41 (0, 0)) (by (with_reducible repeat (first | refine blk_drewN ?_ _ | refine blk_drew ?_ | refine blk_alloc ?_ _)); apply Sq.put8; exact bS BK109.out)) (below_size (by repeat (first | (with_reducible first | exact HB.out | apply below_alloc | apply pw_below_drewN | apply below_drew1 | refine below_set ?_ GE109.out) | exact HB.out)))); have n1_ := Aside0.mk (blk_below (g := gb109) (o := .cells #[.int .i64 ((rd_T41 l0 t101).f0), .string ((rd_T41 l0 t101).f1), .int .i64 ((rd_T41 l0 t101).f2), .int .i64 ((rd_T41 l0 t101).f3), .int .i64 ((rd_T41 l0 t101).f4), .int .i64 ((rd_T41 l0 t101).f5), .int .i64 ((rd_T41 l0 t101).f6), .int .i64 ((rd_T41 l0 t101).f7)] 41 (0, 0)) (by (with_reducible repeat (first | refine blk_drewN ?_ _ | refine blk_drew ?_ | refine blk_alloc ?_ _)); apply Sq.put8; exact bS BK109.out) hb); have n2_ := Aside0.mk (below_step (by repeat (first | (with_reducible first | exact HB.out | apply below_alloc | apply pw_below_drewN | apply below_drew1 | refine below_set ?_ GE109.out) | exact HB.out)) hb); clear BK109; clear HB; have HO115 := n0_; have BK109 := n1_; have HB := n2_; clear n0_ n1_ n2_; clear hb ho30))
    go_ret2
    exact ⟨_, by first | rfl | (simp [errW_none, errW_some] <;> rfl) | (simp [*, errW_none, errW_some] <;> rfl), by exact Ho.RS <| Kd.R_mono HO115.out (fun _ hk => trivial), by exact eS HB.out⟩
   rw [if_neg c26] at H
   have c26b0 : decide (((rd_T41 l0 t101).f6) < ((rd_T41 l0 t101).f5)) = false := decide_eq_false c26
   clear c26
   replace H := Option.bind_eq_some_iff.mp H
   obtain ⟨⟨t116, t119⟩, A310, H⟩ := H
   (try dsimp only at H)
   have A31 := Aside0.mk A310
   clear A310
   simp only [Option.some.injEq, Prod.mk.injEq] at H
   obtain ⟨rfl, rfl⟩ := H
   have p108 : 0 ≤ (t101 : Int) := of_decide_eq_true (by first | (with_reducible assumption) | assumption)
   have q108 : t101 < (l0.length : Int) := of_decide_eq_true (by first | (with_reducible assumption) | assumption)
   obtain ⟨ad108, e108, hx108_0, hx108_1, hx108_2, hx108_3, hx108_4, hx108_5, hx108_6, hx108_7⟩ := at_T41 HR0.out t101 p108 q108
   cases e108
   replace hx108_0 := Sq.cB HB.out hx108_0
   replace hx108_1 := Sq.cB HB.out hx108_1
   replace hx108_2 := Sq.cB HB.out hx108_2
   replace hx108_3 := Sq.cB HB.out hx108_3
   replace hx108_4 := Sq.cB HB.out hx108_4
   replace hx108_5 := Sq.cB HB.out hx108_5
   replace hx108_6 := Sq.cB HB.out hx108_6
   replace hx108_7 := Sq.cB HB.out hx108_7
   replace p108 := eq_true p108
   replace q108 := eq_true q108
   go_wp2_with (first | ((with_reducible refine gate_dst (N := 9) rfl ?_); refine box_event ?hg (N := 9) ?hd (cs := #[.int .i64 0, .string (⟨#[]⟩ : ByteArray), .int .i64 0, .int .i64 0, .int .i64 0, .int .i64 0, .int .i64 0, .int .i64 0]) (t := 41) ?hr ?_; (case hd => rfl); (case hg => rfl); (case hr => first | (go_simp; done) | (go_simp; rfl)); intro gb109 hg w32 hbox hb; have n0_ := Aside0.mk (below_step (by exact eS HB.out) hb); have n1_ := Aside0.mk (hbox); have n2_ := Aside0.mk ((by rw [hg]; exact (below_size (by exact eS HB.out)) : w.heap.size ≤ gb109)); have n3_ := Aside0.mk ((by rw [hg]; exact (below_size (by exact eS HB.out)) : w.heap.size ≤ gb109)); clear HB; have HB := n0_; have BK109 := n1_; have GW109 := n2_; have GE109 := n3_; clear n0_ n1_ n2_ n3_; clear hb hbox hg; obtain ⟨hcz33_0, hcz33_1, hcz33_2, hcz33_3, hcz33_4, hcz33_5, hcz33_6, hcz33_7, hfz33_0, hfz33_1, hfz33_2, hfz33_3, hfz33_4, hfz33_5, hfz33_6, hfz33_7⟩ := Sq.c8 BK109.out) | ((with_reducible refine gate_callee (f := 83) rfl ?_); refine goesL_ (some 73) rfl rfl Tryd.func83 (by kernel_rfl) rfl #[.slice (some ad108) l0.length c0, .int .i64 t101, .agg #[.int .i64 ((rd_T41 l0 t101).f0), .string ((rd_T41 l0 t101).f1), .int .i64 ((rd_T41 l0 t101).f2), .int .i64 ((rd_T41 l0 t101).f3), .int .i64 (wrap64 (((rd_T41 l0 t101).f4) + 1)), .int .i64 ((rd_T41 l0 t101).f5), .int .i64 ((rd_T41 l0 t101).f6), .int .i64 a2]] rfl (by (try simp only [List.map_toArray, List.map_cons, List.map_nil]); first | done | rfl | (simp only [List.length_drop, List.length_take]; rfl)) ?_; (with_reducible refine (Fx.calls kj4 _ _ l0 t101 ((rd_T41 l0 t101).f0) ((rd_T41 l0 t101).f1) ((rd_T41 l0 t101).f2) ((rd_T41 l0 t101).f3) (wrap64 (((rd_T41 l0 t101).f4) + 1)) ((rd_T41 l0 t101).f5) ((rd_T41 l0 t101).f6) a2 t116 t119 _ ?side1 ?side2 A31.out).mono ?_); (case side1 => exact Kd.C_below HR0.out (by repeat (first | (with_reducible first | exact HB.out | apply below_alloc | apply pw_below_drewN | apply below_drew1 | refine below_set ?_ GE109.out) | exact HB.out))); (case side2 => exact HC0.out); rintro e w34 ⟨v117, rfl, ho0, hb⟩; refine ⟨_, rfl, ?_⟩; have n0_ := Aside0.mk (Kd.R_lower (Kd.R_newB ho0 (g := gb109) (o := .cells #[.int .i64 ((rd_T41 l0 t101).f0), .string ((rd_T41 l0 t101).f1), .int .i64 ((rd_T41 l0 t101).f2), .int .i64 ((rd_T41 l0 t101).f3), .int .i64 (wrap64 (((rd_T41 l0 t101).f4) + 1)), .int .i64 ((rd_T41 l0 t101).f5), .int .i64 ((rd_T41 l0 t101).f6), .int .i64 a2] 41 (0, 0)) (by (with_reducible repeat (first | refine blk_drewN ?_ _ | refine blk_drew ?_ | refine blk_alloc ?_ _)); refine blk_put (cs := #[.int .i64 ((rd_T41 l0 t101).f0), .string ((rd_T41 l0 t101).f1), .int .i64 ((rd_T41 l0 t101).f2), .int .i64 ((rd_T41 l0 t101).f3), .int .i64 (wrap64 (((rd_T41 l0 t101).f4) + 1)), .int .i64 ((rd_T41 l0 t101).f5), .int .i64 ((rd_T41 l0 t101).f6), .int .i64 ((rd_T41 l0 t101).f7)]) ?_ 7 _ rfl; (with_reducible repeat (first | refine blk_drewN ?_ _ | refine blk_drew ?_ | refine blk_alloc ?_ _)); refine blk_put (cs := #[.int .i64 ((rd_T41 l0 t101).f0), .string ((rd_T41 l0 t101).f1), .int .i64 ((rd_T41 l0 t101).f2), .int .i64 ((rd_T41 l0 t101).f3), .int .i64 ((rd_T41 l0 t101).f4), .int .i64 ((rd_T41 l0 t101).f5), .int .i64 ((rd_T41 l0 t101).f6), .int .i64 ((rd_T41 l0 t101).f7)]) ?_ 4 _ rfl; (with_reducible repeat (first | refine blk_drewN ?_ _ | refine blk_drew ?_ | refine blk_alloc ?_ _)); apply Sq.put8; exact bS BK109.out)) (below_size (by repeat (first | (with_reducible first | exact HB.out | apply below_alloc | apply pw_below_drewN | apply below_drew1 | refine below_set ?_ GE109.out) | exact HB.out)))); have n1_ := Aside0.mk (blk_below (g := gb109) (o := .cells #[.int .i64 ((rd_T41 l0 t101).f0), .string ((rd_T41 l0 t101).f1), .int .i64 ((rd_T41 l0 t101).f2), .int .i64 ((rd_T41 l0 t101).f3), .int .i64 (wrap64 (((rd_T41 l0 t101).f4) + 1)), .int .i64 ((rd_T41 l0 t101).f5), .int .i64 ((rd_T41 l0 t101).f6), .int .i64 a2] 41 (0, 0)) (by (with_reducible repeat (first | refine blk_drewN ?_ _ | refine blk_drew ?_ | refine blk_alloc ?_ _)); refine blk_put (cs := #[.int .i64 ((rd_T41 l0 t101).f0), .string ((rd_T41 l0 t101).f1), .int .i64 ((rd_T41 l0 t101).f2), .int .i64 ((rd_T41 l0 t101).f3), .int .i64 (wrap64 (((rd_T41 l0 t101).f4) + 1)), .int .i64 ((rd_T41 l0 t101).f5), .int .i64 ((rd_T41 l0 t101).f6), .int .i64 ((rd_T41 l0 t101).f7)]) ?_ 7 _ rfl; (with_reducible repeat (first | refine blk_drewN ?_ _ | refine blk_drew ?_ | refine blk_alloc ?_ _)); refine blk_put (cs := #[.int .i64 ((rd_T41 l0 t101).f0), .string ((rd_T41 l0 t101).f1), .int .i64 ((rd_T41 l0 t101).f2), .int .i64 ((rd_T41 l0 t101).f3), .int .i64 ((rd_T41 l0 t101).f4), .int .i64 ((rd_T41 l0 t101).f5), .int .i64 ((rd_T41 l0 t101).f6), .int .i64 ((rd_T41 l0 t101).f7)]) ?_ 4 _ rfl; (with_reducible repeat (first | refine blk_drewN ?_ _ | refine blk_drew ?_ | refine blk_alloc ?_ _)); apply Sq.put8; exact bS BK109.out) hb); have n2_ := Aside0.mk (below_step (by repeat (first | (with_reducible first | exact HB.out | apply below_alloc | apply pw_below_drewN | apply below_drew1 | refine below_set ?_ GE109.out) | exact HB.out)) hb); clear BK109; clear HB; have HO118 := n0_; have BK109 := n1_; have HB := n2_; clear n0_ n1_ n2_; (try clear hb); (try clear hb2); (try clear hk); (try clear hi); (try clear ho0)))
   go_ret2
   exact ⟨_, by first | rfl | (simp [errW_none, errW_some] <;> rfl) | (simp [*, errW_none, errW_some] <;> rfl), by exact Ho.RS <| Kd.R_mono HO118.out (fun _ hk => trivial), by exact eS HB.out⟩
attribute [local go_sem ↓] Ho.isSome_setCell_   -- a store leaves all places there
/-! ### Fai: function 38 -/
def Fai.f (k : Nat) (l0 : List (S41)) (a1 : Int) (a2 : Int) : Option ((List (S41)) × Bool) := (Fm.f k l0 a1).bind fun t101 => (if t101 < 0 then (some ((([] : List (S41))), false)) else (if 0 ≤ t101 then (if t101 < (l0.length : Int) then (if ((rd_T41 l0 t101).f4) = 5 then (some ((([] : List (S41))), false)) else ((Fap.f a2).bind fun t109 => (if t109 = true then ((Fx.f k l0 t101 ((rd_T41 l0 t101).f0) ((rd_T41 l0 t101).f1) ((rd_T41 l0 t101).f2) ((rd_T41 l0 t101).f3) ((rd_T41 l0 t101).f4) ((rd_T41 l0 t101).f5) (wrap64 (((rd_T41 l0 t101).f6) + a2)) ((rd_T41 l0 t101).f7)).bind fun bt112 => (some (bt112.1, bt112.2))) else (some ((([] : List (S41))), false))))) else (none)) else (none)))
theorem Fai.mono : ∀ a0 a1 a2 k, LeO (Fai.f k a0 a1 a2) (Fai.f (k + 1) a0 a1 a2) := by
  intro a0 a1 a2 k
  unfold Fai.f
  repeat' first
      | (with_reducible exact Fm.mono _ _ _)
      | (with_reducible exact Fx.mono _ _ _ _ _ _ _ _ _ _ _)
      | (with_reducible exact LeO.refl _)
      | (with_reducible exact LeO.none _)
      | (with_reducible refine LeO.ite ?_ ?_)
      | (with_reducible refine LeO.bind ?_ (fun _ => ?_))
      | exact Fm.mono _ _ _
      | exact Fx.mono _ _ _ _ _ _ _ _ _ _ _
      | exact LeO.none _
      | refine LeO.ite ?_ ?_
      | refine LeO.bind ?_ (fun _ => ?_)
set_option maxHeartbeats 8000000 in
set_option maxRecDepth 100000 in
theorem Fai.calls (k : Nat) (A0 : Option Addr) (c0 : Nat) (l0 : List (S41)) (a1 : Int) (a2 : Int) (r1 : List (S41)) (r2 : Bool) (w : World) (hr0 : Kd.C k41 w A0 l0.length l0) (hc0 : l0.length ≤ c0) (h : Fai.f k l0 a1 a2 = some (r1, r2)) :
  Calls Tryd.prog 38 #[.slice A0 l0.length c0, .int .i64 a1, .int .i64 a2] w fun e w' => ∃ v0_ : Value, e = .returned (.tuple #[v0_, .bool r2]) ∧ Kd.R k41 41 w' w.heap.size (fun _ => True) v0_ r1 ∧ Below w.heap.size w w' := by
 have hu41 := Tryd.underlying41
 have HR0 := Aside0.mk hr0
 have HC0 := Aside0.mk hc0
 clear hr0 hc0
 have HB := Aside0.mk (Below.refl w.heap.size w)
 have H : ((Fm.f k l0 a1).bind fun t101 => (if t101 < 0 then (some ((([] : List (S41))), false)) else (if 0 ≤ t101 then (if t101 < (l0.length : Int) then (if ((rd_T41 l0 t101).f4) = 5 then (some ((([] : List (S41))), false)) else ((Fap.f a2).bind fun t109 => (if t109 = true then ((Fx.f k l0 t101 ((rd_T41 l0 t101).f0) ((rd_T41 l0 t101).f1) ((rd_T41 l0 t101).f2) ((rd_T41 l0 t101).f3) ((rd_T41 l0 t101).f4) ((rd_T41 l0 t101).f5) (wrap64 (((rd_T41 l0 t101).f6) + a2)) ((rd_T41 l0 t101).f7)).bind fun bt112 => (some (bt112.1, bt112.2))) else (some ((([] : List (S41))), false))))) else (none)) else (none)))) = some (r1, r2) := h
 clear h
 replace H := Option.bind_eq_some_iff.mp H
 obtain ⟨t101, A40, H⟩ := H
 (try dsimp only at H)
 have A4 := Aside0.mk A40
 clear A40
 by_cases c5 : t101 < 0
 ·rw [if_pos c5] at H
  have c5b0 : decide (t101 < 0) = true := decide_eq_true c5
  clear c5
  obtain ⟨y102, hy102⟩ : ∃ y_ : List (S41), y_ = (([] : List (S41))) := ⟨_, rfl⟩
  replace H : (some (y102, false)) = some (r1, r2) := by first | (rw [hy102]; with_reducible exact H) | (have H2_ := (Option.bind_some _ _).symm.trans H; rw [hy102]; with_reducible exact H2_) | (have H2_ := (Option.bind_some _ _).symm.trans H; with_reducible exact H2_) | with_reducible exact H | (rw [hy102]; exact H) | exact H
  have Ny102 := Aside0.mk hy102
  clear hy102
  simp only [Option.some.injEq, Prod.mk.injEq] at H
  obtain ⟨rfl, rfl⟩ := H
  go_enter Tryd.func38, Tryd.ntmps38
  go_wp2_with (first | ((with_reducible refine gate_callee (f := 81) rfl ?_); refine goesL_ (some 14) rfl rfl Tryd.func81 (by kernel_rfl) rfl #[.slice A0 l0.length c0, .int .i64 a1] rfl (by (try simp only [List.map_toArray, List.map_cons, List.map_nil]); first | done | rfl | (simp only [List.length_drop, List.length_take]; rfl)) ?_; (with_reducible refine (Fm.calls k _ _ l0 a1 t101 _ ?side1 ?side2 A4.out).mono ?_); (case side1 => repeat (first | exact HR0.out | (with_reducible refine Kd.C_alloc ?_ _) | (with_reducible refine Kd.C_drewN ?_ _) | (with_reducible refine Kd.C_drew ?_))); (case side2 => exact HC0.out); rintro e w6 ⟨rfl, hb⟩; refine ⟨_, rfl, ?_⟩; have n0_ := Aside0.mk (below_step (by exact eS HB.out) hb); clear HB; have HB := n0_; clear n0_; (try clear hb); (try clear hb2); (try clear hk); (try clear hi)) | ((with_reducible refine gate_dst (N := 30) rfl ?_); refine Kd.R_lit k41 _ 41 ?hg (N := 30) ?hd (xs := ([] : List (S41))) (inner := []) (ok := fun _ => True) (okp := fun _ => True) ?hr ?hp (fun _ hk => hk) trivial (Below.refl _ _) (Nat.le_refl _) (by simp) ?_; (case hd => rfl); (case hg => rfl); (case hr => first | (go_simp; done) | (go_simp; rfl)); (case hp => exact (Reps.none _ _)); intro v103 w7 ho8 hb hg_ hnew_; clear hg_ hnew_; (first | rw [← Ny102.out] at ho8 | (simp only [Int.reduceToNat] at ho8; rw [← Ny102.out] at ho8)); have n0_ := Aside0.mk (Kd.R_lower ho8 (below_size (by exact eS HB.out))); have n1_ := Aside0.mk (below_step (by exact eS HB.out) hb); clear HB; have HO104 := n0_; have HB := n1_; clear n0_ n1_; clear hb ho8))
  go_ret2
  exact ⟨_, by first | rfl | (simp [errW_none, errW_some] <;> rfl) | (simp [*, errW_none, errW_some] <;> rfl), by exact Ho.RS <| HO104.out, by exact eS HB.out⟩
 rw [if_neg c5] at H
 have c5b0 : decide (t101 < 0) = false := decide_eq_false c5
 clear c5
 by_cases c9 : 0 ≤ t101
 rotate_left
 ·rw [if_neg c9] at H
  exact absurd H (by simp)
 rw [if_pos c9] at H
 have c9b0 : decide (0 ≤ t101) = true := decide_eq_true c9
 clear c9
 by_cases c10 : t101 < (l0.length : Int)
 rotate_left
 ·rw [if_neg c10] at H
  exact absurd H (by simp)
 rw [if_pos c10] at H
 have c10b0 : decide (t101 < (l0.length : Int)) = true := decide_eq_true c10
 clear c10
 by_cases c11 : ((rd_T41 l0 t101).f4) = 5
 ·rw [if_pos c11] at H
  have c11b0 : (((rd_T41 l0 t101).f4) == 5) = true := beq_iff_eq.mpr c11
  have c11b1 : (((rd_T41 l0 t101).f4) != 5) = false := bne_eq_false_iff_eq.mpr c11
  clear c11
  obtain ⟨y106, hy106⟩ : ∃ y_ : List (S41), y_ = (([] : List (S41))) := ⟨_, rfl⟩
  replace H : (some (y106, false)) = some (r1, r2) := by first | (rw [hy106]; with_reducible exact H) | (have H2_ := (Option.bind_some _ _).symm.trans H; rw [hy106]; with_reducible exact H2_) | (have H2_ := (Option.bind_some _ _).symm.trans H; with_reducible exact H2_) | with_reducible exact H | (rw [hy106]; exact H) | exact H
  have Ny106 := Aside0.mk hy106
  clear hy106
  simp only [Option.some.injEq, Prod.mk.injEq] at H
  obtain ⟨rfl, rfl⟩ := H
  go_enter Tryd.func38, Tryd.ntmps38
  go_wp2_with (first | ((with_reducible refine gate_callee (f := 81) rfl ?_); refine goesL_ (some 14) rfl rfl Tryd.func81 (by kernel_rfl) rfl #[.slice A0 l0.length c0, .int .i64 a1] rfl (by (try simp only [List.map_toArray, List.map_cons, List.map_nil]); first | done | rfl | (simp only [List.length_drop, List.length_take]; rfl)) ?_; (with_reducible refine (Fm.calls k _ _ l0 a1 t101 _ ?side1 ?side2 A4.out).mono ?_); (case side1 => repeat (first | exact HR0.out | (with_reducible refine Kd.C_alloc ?_ _) | (with_reducible refine Kd.C_drewN ?_ _) | (with_reducible refine Kd.C_drew ?_))); (case side2 => exact HC0.out); rintro e w12 ⟨rfl, hb⟩; refine ⟨_, rfl, ?_⟩; have n0_ := Aside0.mk (below_step (by exact eS HB.out) hb); clear HB; have HB := n0_; clear n0_; (try clear hb); (try clear hb2); (try clear hk); (try clear hi); have p105 : 0 ≤ (t101 : Int) := of_decide_eq_true (by first | (with_reducible assumption) | assumption); have q105 : t101 < (l0.length : Int) := of_decide_eq_true (by first | (with_reducible assumption) | assumption); obtain ⟨ad105, e105, hx105_0, hx105_1, hx105_2, hx105_3, hx105_4, hx105_5, hx105_6, hx105_7⟩ := at_T41 HR0.out t101 p105 q105; cases e105; replace hx105_0 := Sq.cB HB.out hx105_0; replace hx105_1 := Sq.cB HB.out hx105_1; replace hx105_2 := Sq.cB HB.out hx105_2; replace hx105_3 := Sq.cB HB.out hx105_3; replace hx105_4 := Sq.cB HB.out hx105_4; replace hx105_5 := Sq.cB HB.out hx105_5; replace hx105_6 := Sq.cB HB.out hx105_6; replace hx105_7 := Sq.cB HB.out hx105_7; replace p105 := eq_true p105; replace q105 := eq_true q105) | ((with_reducible refine gate_dst (N := 30) rfl ?_); refine Kd.R_lit k41 _ 41 ?hg (N := 30) ?hd (xs := ([] : List (S41))) (inner := []) (ok := fun _ => True) (okp := fun _ => True) ?hr ?hp (fun _ hk => hk) trivial (Below.refl _ _) (Nat.le_refl _) (by simp) ?_; (case hd => rfl); (case hg => rfl); (case hr => first | (go_simp; done) | (go_simp; rfl)); (case hp => exact (Reps.none _ _)); intro v107 w13 ho14 hb hg_ hnew_; clear hg_ hnew_; (first | rw [← Ny106.out] at ho14 | (simp only [Int.reduceToNat] at ho14; rw [← Ny106.out] at ho14)); have n0_ := Aside0.mk (Kd.R_lower ho14 (below_size (by exact eS HB.out))); have n1_ := Aside0.mk (below_step (by exact eS HB.out) hb); clear HB; have HO108 := n0_; have HB := n1_; clear n0_ n1_; clear hb ho14))
  go_ret2
  exact ⟨_, by first | rfl | (simp [errW_none, errW_some] <;> rfl) | (simp [*, errW_none, errW_some] <;> rfl), by exact Ho.RS <| HO108.out, by exact eS HB.out⟩
 rw [if_neg c11] at H
 have c11b0 : (((rd_T41 l0 t101).f4) == 5) = false := beq_eq_false_iff_ne.mpr c11
 have c11b1 : (((rd_T41 l0 t101).f4) != 5) = true := bne_iff_ne.mpr c11
 replace H := Option.bind_eq_some_iff.mp H
 obtain ⟨t109, A150, H⟩ := H
 (try dsimp only at H)
 have A15 := Aside0.mk A150
 clear A150
 by_cases c16 : t109 = true
 rotate_left
 ·replace c16 := Bool.eq_false_iff.mpr c16
  subst c16
  have H1 : (some ((([] : List (S41))), false)) = some (r1, r2) := by rw [if_neg (show ¬ (false = true) by decide)] at H; exact H
  clear H
  have H := H1
  clear H1
  obtain ⟨y116, hy116⟩ : ∃ y_ : List (S41), y_ = (([] : List (S41))) := ⟨_, rfl⟩
  replace H : (some (y116, false)) = some (r1, r2) := by first | (rw [hy116]; with_reducible exact H) | (have H2_ := (Option.bind_some _ _).symm.trans H; rw [hy116]; with_reducible exact H2_) | (have H2_ := (Option.bind_some _ _).symm.trans H; with_reducible exact H2_) | with_reducible exact H | (rw [hy116]; exact H) | exact H
  have Ny116 := Aside0.mk hy116
  clear hy116
  simp only [Option.some.injEq, Prod.mk.injEq] at H
  obtain ⟨rfl, rfl⟩ := H
  go_enter Tryd.func38, Tryd.ntmps38
  go_wp2_with (first | ((with_reducible refine gate_callee (f := 81) rfl ?_); refine goesL_ (some 14) rfl rfl Tryd.func81 (by kernel_rfl) rfl #[.slice A0 l0.length c0, .int .i64 a1] rfl (by (try simp only [List.map_toArray, List.map_cons, List.map_nil]); first | done | rfl | (simp only [List.length_drop, List.length_take]; rfl)) ?_; (with_reducible refine (Fm.calls k _ _ l0 a1 t101 _ ?side1 ?side2 A4.out).mono ?_); (case side1 => repeat (first | exact HR0.out | (with_reducible refine Kd.C_alloc ?_ _) | (with_reducible refine Kd.C_drewN ?_ _) | (with_reducible refine Kd.C_drew ?_))); (case side2 => exact HC0.out); rintro e w22 ⟨rfl, hb⟩; refine ⟨_, rfl, ?_⟩; have n0_ := Aside0.mk (below_step (by exact eS HB.out) hb); clear HB; have HB := n0_; clear n0_; (try clear hb); (try clear hb2); (try clear hk); (try clear hi); have p105 : 0 ≤ (t101 : Int) := of_decide_eq_true (by first | (with_reducible assumption) | assumption); have q105 : t101 < (l0.length : Int) := of_decide_eq_true (by first | (with_reducible assumption) | assumption); obtain ⟨ad105, e105, hx105_0, hx105_1, hx105_2, hx105_3, hx105_4, hx105_5, hx105_6, hx105_7⟩ := at_T41 HR0.out t101 p105 q105; cases e105; replace hx105_0 := Sq.cB HB.out hx105_0; replace hx105_1 := Sq.cB HB.out hx105_1; replace hx105_2 := Sq.cB HB.out hx105_2; replace hx105_3 := Sq.cB HB.out hx105_3; replace hx105_4 := Sq.cB HB.out hx105_4; replace hx105_5 := Sq.cB HB.out hx105_5; replace hx105_6 := Sq.cB HB.out hx105_6; replace hx105_7 := Sq.cB HB.out hx105_7; replace p105 := eq_true p105; replace q105 := eq_true q105) | (go_at_call 82; (with_reducible refine (Fap.calls a2 false _ A15.out).mono ?_); rintro e w' ⟨rfl, ⟨nd, rfl⟩⟩) | ((with_reducible refine gate_dst (N := 30) rfl ?_); refine Kd.R_lit k41 _ 41 ?hg (N := 30) ?hd (xs := ([] : List (S41))) (inner := []) (ok := fun _ => True) (okp := fun _ => True) ?hr ?hp (fun _ hk => hk) trivial (Below.refl _ _) (Nat.le_refl _) (by simp) ?_; (case hd => rfl); (case hg => rfl); (case hr => first | (go_simp; done) | (go_simp; rfl)); (case hp => exact (Reps.none _ _)); intro v117 w23 ho24 hb hg_ hnew_; clear hg_ hnew_; (first | rw [← Ny116.out] at ho24 | (simp only [Int.reduceToNat] at ho24; rw [← Ny116.out] at ho24)); have n0_ := Aside0.mk (Kd.R_lower ho24 (below_size (by exact eS HB.out))); have n1_ := Aside0.mk (below_step (by exact eS HB.out) hb); clear HB; have HO118 := n0_; have HB := n1_; clear n0_ n1_; clear hb ho24))
  go_ret2
  exact ⟨_, by first | rfl | (simp [errW_none, errW_some] <;> rfl) | (simp [*, errW_none, errW_some] <;> rfl), by exact Ho.RS <| HO118.out, by exact eS HB.out⟩
 subst c16
 have H1 : ((Fx.f k l0 t101 ((rd_T41 l0 t101).f0) ((rd_T41 l0 t101).f1) ((rd_T41 l0 t101).f2) ((rd_T41 l0 t101).f3) ((rd_T41 l0 t101).f4) ((rd_T41 l0 t101).f5) (wrap64 (((rd_T41 l0 t101).f6) + a2)) ((rd_T41 l0 t101).f7)).bind fun bt112 => (some (bt112.1, bt112.2))) = some (r1, r2) := by rw [if_pos rfl] at H; exact H
 clear H
 have H := H1
 clear H1
 replace H := Option.bind_eq_some_iff.mp H
 obtain ⟨⟨t112, t115⟩, A170, H⟩ := H
 (try dsimp only at H)
 have A17 := Aside0.mk A170
 clear A170
 simp only [Option.some.injEq, Prod.mk.injEq] at H
 obtain ⟨rfl, rfl⟩ := H
 go_enter Tryd.func38, Tryd.ntmps38
 go_wp2_with (first | ((with_reducible refine gate_callee (f := 81) rfl ?_); refine goesL_ (some 14) rfl rfl Tryd.func81 (by kernel_rfl) rfl #[.slice A0 l0.length c0, .int .i64 a1] rfl (by (try simp only [List.map_toArray, List.map_cons, List.map_nil]); first | done | rfl | (simp only [List.length_drop, List.length_take]; rfl)) ?_; (with_reducible refine (Fm.calls k _ _ l0 a1 t101 _ ?side1 ?side2 A4.out).mono ?_); (case side1 => repeat (first | exact HR0.out | (with_reducible refine Kd.C_alloc ?_ _) | (with_reducible refine Kd.C_drewN ?_ _) | (with_reducible refine Kd.C_drew ?_))); (case side2 => exact HC0.out); rintro e w18 ⟨rfl, hb⟩; refine ⟨_, rfl, ?_⟩; have n0_ := Aside0.mk (below_step (by exact eS HB.out) hb); clear HB; have HB := n0_; clear n0_; (try clear hb); (try clear hb2); (try clear hk); (try clear hi); have p105 : 0 ≤ (t101 : Int) := of_decide_eq_true (by first | (with_reducible assumption) | assumption); have q105 : t101 < (l0.length : Int) := of_decide_eq_true (by first | (with_reducible assumption) | assumption); obtain ⟨ad105, e105, hx105_0, hx105_1, hx105_2, hx105_3, hx105_4, hx105_5, hx105_6, hx105_7⟩ := at_T41 HR0.out t101 p105 q105; cases e105; replace hx105_0 := Sq.cB HB.out hx105_0; replace hx105_1 := Sq.cB HB.out hx105_1; replace hx105_2 := Sq.cB HB.out hx105_2; replace hx105_3 := Sq.cB HB.out hx105_3; replace hx105_4 := Sq.cB HB.out hx105_4; replace hx105_5 := Sq.cB HB.out hx105_5; replace hx105_6 := Sq.cB HB.out hx105_6; replace hx105_7 := Sq.cB HB.out hx105_7; replace p105 := eq_true p105; replace q105 := eq_true q105) | (go_at_call 82; (with_reducible refine (Fap.calls a2 true _ A15.out).mono ?_); rintro e w' ⟨rfl, ⟨nd, rfl⟩⟩; (try (rw [drewN_self w18]; generalize hq_ : World.drewN w18 _ = w18; have n0_ : Aside0 (Below w.heap.size w w18) := ⟨by rw [← hq_]; exact (by exact eS HB.out)⟩; clear HB hq_; have HB := n0_; clear n0_)); have p110 : 0 ≤ (t101 : Int) := of_decide_eq_true (by first | (with_reducible assumption) | assumption); have q110 : t101 < (l0.length : Int) := of_decide_eq_true (by first | (with_reducible assumption) | assumption); obtain ⟨ad110, e110, hx110_0, hx110_1, hx110_2, hx110_3, hx110_4, hx110_5, hx110_6, hx110_7⟩ := at_T41 HR0.out t101 p110 q110; obtain rfl : ad105 = ad110 := (by injection e110); replace hx110_0 := Sq.cB HB.out hx110_0; replace hx110_1 := Sq.cB HB.out hx110_1; replace hx110_2 := Sq.cB HB.out hx110_2; replace hx110_3 := Sq.cB HB.out hx110_3; replace hx110_4 := Sq.cB HB.out hx110_4; replace hx110_5 := Sq.cB HB.out hx110_5; replace hx110_6 := Sq.cB HB.out hx110_6; replace hx110_7 := Sq.cB HB.out hx110_7; replace p110 := eq_true p110; replace q110 := eq_true q110) | ((with_reducible refine gate_dst (N := 9) rfl ?_); refine box_event ?hg (N := 9) ?hd (cs := #[.int .i64 0, .string (⟨#[]⟩ : ByteArray), .int .i64 0, .int .i64 0, .int .i64 0, .int .i64 0, .int .i64 0, .int .i64 0]) (t := 41) ?hr ?_; (case hd => rfl); (case hg => rfl); (case hr => first | (go_simp; done) | (go_simp; rfl)); intro gb111 hg w19 hbox hb; have n0_ := Aside0.mk (below_step (by exact eS HB.out) hb); have n1_ := Aside0.mk (hbox); have n2_ := Aside0.mk ((by rw [hg]; exact (below_size (by exact eS HB.out)) : w.heap.size ≤ gb111)); have n3_ := Aside0.mk ((by rw [hg]; exact (below_size (by exact eS HB.out)) : w.heap.size ≤ gb111)); clear HB; have HB := n0_; have BK111 := n1_; have GW111 := n2_; have GE111 := n3_; clear n0_ n1_ n2_ n3_; clear hb hbox hg; obtain ⟨hcz20_0, hcz20_1, hcz20_2, hcz20_3, hcz20_4, hcz20_5, hcz20_6, hcz20_7, hfz20_0, hfz20_1, hfz20_2, hfz20_3, hfz20_4, hfz20_5, hfz20_6, hfz20_7⟩ := Sq.c8 BK111.out) | ((with_reducible refine gate_callee (f := 83) rfl ?_); refine goesL_ (some 44) rfl rfl Tryd.func83 (by kernel_rfl) rfl #[.slice (some ad105) l0.length c0, .int .i64 t101, .agg #[.int .i64 ((rd_T41 l0 t101).f0), .string ((rd_T41 l0 t101).f1), .int .i64 ((rd_T41 l0 t101).f2), .int .i64 ((rd_T41 l0 t101).f3), .int .i64 ((rd_T41 l0 t101).f4), .int .i64 ((rd_T41 l0 t101).f5), .int .i64 (wrap64 (((rd_T41 l0 t101).f6) + a2)), .int .i64 ((rd_T41 l0 t101).f7)]] rfl (by (try simp only [List.map_toArray, List.map_cons, List.map_nil]); first | done | rfl | (simp only [List.length_drop, List.length_take]; rfl)) ?_; (with_reducible refine (Fx.calls k _ _ l0 t101 ((rd_T41 l0 t101).f0) ((rd_T41 l0 t101).f1) ((rd_T41 l0 t101).f2) ((rd_T41 l0 t101).f3) ((rd_T41 l0 t101).f4) ((rd_T41 l0 t101).f5) (wrap64 (((rd_T41 l0 t101).f6) + a2)) ((rd_T41 l0 t101).f7) t112 t115 _ ?side1 ?side2 A17.out).mono ?_); (case side1 => exact Kd.C_below HR0.out (by repeat (first | (with_reducible first | exact HB.out | apply below_alloc | apply pw_below_drewN | apply below_drew1 | refine below_set ?_ GE111.out) | exact HB.out))); (case side2 => exact HC0.out); rintro e w21 ⟨v113, rfl, ho0, hb⟩; refine ⟨_, rfl, ?_⟩; have n0_ := Aside0.mk (Kd.R_lower (Kd.R_newB ho0 (g := gb111) (o := .cells #[.int .i64 ((rd_T41 l0 t101).f0), .string ((rd_T41 l0 t101).f1), .int .i64 ((rd_T41 l0 t101).f2), .int .i64 ((rd_T41 l0 t101).f3), .int .i64 ((rd_T41 l0 t101).f4), .int .i64 ((rd_T41 l0 t101).f5), .int .i64 (wrap64 (((rd_T41 l0 t101).f6) + a2)), .int .i64 ((rd_T41 l0 t101).f7)] 41 (0, 0)) (by (with_reducible repeat (first | refine blk_drewN ?_ _ | refine blk_drew ?_ | refine blk_alloc ?_ _)); refine blk_put (cs := #[.int .i64 ((rd_T41 l0 t101).f0), .string ((rd_T41 l0 t101).f1), .int .i64 ((rd_T41 l0 t101).f2), .int .i64 ((rd_T41 l0 t101).f3), .int .i64 ((rd_T41 l0 t101).f4), .int .i64 ((rd_T41 l0 t101).f5), .int .i64 ((rd_T41 l0 t101).f6), .int .i64 ((rd_T41 l0 t101).f7)]) ?_ 6 _ rfl; (with_reducible repeat (first | refine blk_drewN ?_ _ | refine blk_drew ?_ | refine blk_alloc ?_ _)); apply Sq.put8; exact bS BK111.out)) (below_size (by repeat (first | (with_reducible first | exact HB.out | apply below_alloc | apply pw_below_drewN | apply below_drew1 | refine below_set ?_ GE111.out) | exact HB.out)))); have n1_ := Aside0.mk (blk_below (g := gb111) (o := .cells #[.int .i64 ((rd_T41 l0 t101).f0), .string ((rd_T41 l0 t101).f1), .int .i64 ((rd_T41 l0 t101).f2), .int .i64 ((rd_T41 l0 t101).f3), .int .i64 ((rd_T41 l0 t101).f4), .int .i64 ((rd_T41 l0 t101).f5), .int .i64 (wrap64 (((rd_T41 l0 t101).f6) + a2)), .int .i64 ((rd_T41 l0 t101).f7)] 41 (0, 0)) (by (with_reducible repeat (first | refine blk_drewN ?_ _ | refine blk_drew ?_ | refine blk_alloc ?_ _)); refine blk_put (cs := #[.int .i64 ((rd_T41 l0 t101).f0), .string ((rd_T41 l0 t101).f1), .int .i64 ((rd_T41 l0 t101).f2), .int .i64 ((rd_T41 l0 t101).f3), .int .i64 ((rd_T41 l0 t101).f4), .int .i64 ((rd_T41 l0 t101).f5), .int .i64 ((rd_T41 l0 t101).f6), .int .i64 ((rd_T41 l0 t101).f7)]) ?_ 6 _ rfl; (with_reducible repeat (first | refine blk_drewN ?_ _ | refine blk_drew ?_ | refine blk_alloc ?_ _)); apply Sq.put8; exact bS BK111.out) hb); have n2_ := Aside0.mk (below_step (by repeat (first | (with_reducible first | exact HB.out | apply below_alloc | apply pw_below_drewN | apply below_drew1 | refine below_set ?_ GE111.out) | exact HB.out)) hb); clear BK111; clear HB; have HO114 := n0_; have BK111 := n1_; have HB := n2_; clear n0_ n1_ n2_; (try clear hb); (try clear hb2); (try clear hk); (try clear hi); (try clear ho0)))
 go_ret2
 exact ⟨_, by first | rfl | (simp [errW_none, errW_some] <;> rfl) | (simp [*, errW_none, errW_some] <;> rfl), by exact Ho.RS <| Kd.R_mono HO114.out (fun _ hk => trivial), by exact eS HB.out⟩
/-! ### Fd: function 13 -/
mutual
def Fd.j0 : Nat → List Int → List (S41) → Int → Int → List (S41) → Bool → Option (Bool)
  | 0, _, _, _, _, _, _ => none
  | k + 1, x0, x3, x4, x5, x6, x65 => if x65 = true then (some false) else (Fd.l0 k x0 x3 x4 x5 x6 0)
def Fd.l0 : Nat → List Int → List (S41) → Int → Int → List (S41) → Int → Option (Bool)
  | 0, _, _, _, _, _, _ => none
  | k + 1, x0, x3, x4, x5, x6, x10 => if x10 < (x6.length : Int) then (if 0 ≤ x10 then (if ((rd_T41 x6 x10).f0) = x4 then ((Fj.f k x3 ((rd_T41 x6 x10).f1)).bind fun bt118 => ((Fj.f k x6 ((rd_T41 x6 x10).f1)).bind fun bt121 => (if bt118.2 = true then (if bt121.2 = true then (if (wrap64 (bt118.1 - bt121.1)) = x5 then (Fd.l0 k x0 x3 x4 x5 x6 (wrap64 (x10 + 1))) else (some false)) else (some false)) else (some false)))) else (Fd.l0 k x0 x3 x4 x5 x6 (wrap64 (x10 + 1)))) else (none)) else ((Fv.f k x0).bind fun bt123 => ((Fae.f k bt123.1 bt123.2.1 bt123.2.2).bind fun bt128 => ((Fq.f k bt123.1 bt123.2.1 bt123.2.2).bind fun bt132 => (if (bt128.2 != bt132.2) = true then (Fd.j2 k x0 bt123.1 bt123.2.1 bt128.1 true) else ((Fr.f k bt128.1 bt132.1).bind fun t136 => (Fd.j2 k x0 bt123.1 bt123.2.1 bt128.1 (!t136)))))))
def Fd.j2 : Nat → List Int → List (S41) → Int → List (S41) → Bool → Option (Bool)
  | 0, _, _, _, _, _ => none
  | k + 1, x0, x15, x16, x18, x140 => if x140 = true then (some false) else (Fd.l1 k x0 x15 x16 x18 0)
def Fd.l1 : Nat → List Int → List (S41) → Int → List (S41) → Int → Option (Bool)
  | 0, _, _, _, _, _ => none
  | k + 1, x0, x15, x16, x18, x22 => if x22 < (x18.length : Int) then (if 0 ≤ x22 then (if ((rd_T41 x18 x22).f0) = x16 then (if x22 < (x15.length : Int) then ((Fu.f k x18 (wrap64 (((rd_T41 x15 x22).f4) + 1))).bind fun bt139 => (if bt139.2 = true then ((Faf.f k bt139.1 x16).bind fun t143 => (if t143 = true then (Fd.l1 k x0 x15 x16 x18 (wrap64 (x22 + 1))) else (some false))) else (some false))) else (none)) else (Fd.l1 k x0 x15 x16 x18 (wrap64 (x22 + 1)))) else (none)) else ((Fy.f k x0).bind fun bt144 => ((Fs.f k bt144.1 bt144.2.1 bt144.2.2).bind fun bt149 => ((Ft.f k bt144.1 bt144.2.1 bt144.2.2).bind fun bt154 => (if (bt149.2.2 != bt154.2.2) = true then (Fd.j4 k bt144.1 bt144.2.1 bt149.1 bt149.2.1 true) else (if bt149.2.1 = bt154.2.1 then ((Fr.f k bt149.1 bt154.1).bind fun t159 => (Fd.j4 k bt144.1 bt144.2.1 bt149.1 bt149.2.1 (!t159))) else (Fd.j4 k bt144.1 bt144.2.1 bt149.1 bt149.2.1 true))))))
def Fd.j4 : Nat → List (S41) → Int → List (S41) → Int → Bool → Option (Bool)
  | 0, _, _, _, _, _ => none
  | k + 1, x25, x26, x28, x29, x208 => if x208 = true then (some false) else (Fd.l2 k x25 x26 x28 x29 0)
def Fd.l2 : Nat → List (S41) → Int → List (S41) → Int → Int → Option (Bool)
  | 0, _, _, _, _, _ => none
  | k + 1, x25, x26, x28, x29, x34 => if x34 < (x28.length : Int) then (if 0 ≤ x34 then (if ((rd_T41 x28 x34).f0) = x26 then (if x34 < (x25.length : Int) then (if (wrap64 (((rd_T41 x28 x34).f6) + x29)) = ((rd_T41 x25 x34).f6) then (if x29 < ((rd_T41 x28 x34).f6) then (some false) else (Fd.l2 k x25 x26 x28 x29 (wrap64 (x34 + 1)))) else (some false)) else (none)) else (Fd.l2 k x25 x26 x28 x29 (wrap64 (x34 + 1)))) else (none)) else (some true)
end
def Fd.f (k : Nat) (l0 : List Int) : Option (Bool) := (Fbh.f l0).bind fun t101 => (if t101 = true then (some true) else ((Fz.f k l0).bind fun bt102 => ((Fah.f k bt102.1 bt102.2.1 bt102.2.2).bind fun bt107 => ((Fai.f k bt102.1 bt102.2.1 bt102.2.2).bind fun bt111 => (if (bt107.2 != bt111.2) = true then (Fd.j0 k l0 bt102.1 bt102.2.1 bt102.2.2 bt107.1 true) else ((Fr.f k bt107.1 bt111.1).bind fun t115 => (Fd.j0 k l0 bt102.1 bt102.2.1 bt102.2.2 bt107.1 (!t115))))))))
theorem Fd.mono_l : ∀ k, (∀ y0 y1 y2 y3 y4 y5, LeO (Fd.j0 k y0 y1 y2 y3 y4 y5) (Fd.j0 (k + 1) y0 y1 y2 y3 y4 y5)) ∧ (∀ y0 y1 y2 y3 y4 y5, LeO (Fd.l0 k y0 y1 y2 y3 y4 y5) (Fd.l0 (k + 1) y0 y1 y2 y3 y4 y5)) ∧ (∀ y0 y1 y2 y3 y4, LeO (Fd.j2 k y0 y1 y2 y3 y4) (Fd.j2 (k + 1) y0 y1 y2 y3 y4)) ∧ (∀ y0 y1 y2 y3 y4, LeO (Fd.l1 k y0 y1 y2 y3 y4) (Fd.l1 (k + 1) y0 y1 y2 y3 y4)) ∧ (∀ y0 y1 y2 y3 y4, LeO (Fd.j4 k y0 y1 y2 y3 y4) (Fd.j4 (k + 1) y0 y1 y2 y3 y4)) ∧ (∀ y0 y1 y2 y3 y4, LeO (Fd.l2 k y0 y1 y2 y3 y4) (Fd.l2 (k + 1) y0 y1 y2 y3 y4))
  | 0 => ⟨fun _ _ _ _ _ _ r h => by simp [Fd.j0] at h, fun _ _ _ _ _ _ r h => by simp [Fd.l0] at h, fun _ _ _ _ _ r h => by simp [Fd.j2] at h, fun _ _ _ _ _ r h => by simp [Fd.l1] at h, fun _ _ _ _ _ r h => by simp [Fd.j4] at h, fun _ _ _ _ _ r h => by simp [Fd.l2] at h⟩
  | k + 1 => by
    obtain ⟨ih0, ih1, ih2, ih3, ih4, ih5⟩ := Fd.mono_l k
    refine ⟨?_, ?_, ?_, ?_, ?_, ?_⟩
    · intro y0 y1 y2 y3 y4 y5
      unfold Fd.j0
      repeat' first
      | (with_reducible exact ih0 _ _ _ _ _ _)
      | (with_reducible exact ih1 _ _ _ _ _ _)
      | (with_reducible exact ih2 _ _ _ _ _)
      | (with_reducible exact ih3 _ _ _ _ _)
      | (with_reducible exact ih4 _ _ _ _ _)
      | (with_reducible exact ih5 _ _ _ _ _)
      | (with_reducible exact Fu.mono _ _ _)
      | (with_reducible exact Fs.mono _ _ _ _)
      | (with_reducible exact Fae.mono _ _ _ _)
      | (with_reducible exact Fah.mono _ _ _ _)
      | (with_reducible exact Fj.mono _ _ _)
      | (with_reducible exact Faf.mono _ _ _)
      | (with_reducible exact Fr.mono _ _ _)
      | (with_reducible exact Ft.mono _ _ _ _)
      | (with_reducible exact Fy.mono _ _)
      | (with_reducible exact Fv.mono _ _)
      | (with_reducible exact Fz.mono _ _)
      | (with_reducible exact Fq.mono _ _ _ _)
      | (with_reducible exact Fai.mono _ _ _ _)
      | (with_reducible exact LeO.refl _)
      | (with_reducible exact LeO.none _)
      | (with_reducible refine LeO.ite ?_ ?_)
      | (with_reducible refine LeO.bind ?_ (fun _ => ?_))
      | exact ih0 _ _ _ _ _ _
      | exact ih1 _ _ _ _ _ _
      | exact ih2 _ _ _ _ _
      | exact ih3 _ _ _ _ _
      | exact ih4 _ _ _ _ _
      | exact ih5 _ _ _ _ _
      | exact Fu.mono _ _ _
      | exact Fs.mono _ _ _ _
      | exact Fae.mono _ _ _ _
      | exact Fah.mono _ _ _ _
      | exact Fj.mono _ _ _
      | exact Faf.mono _ _ _
      | exact Fr.mono _ _ _
      | exact Ft.mono _ _ _ _
      | exact Fy.mono _ _
      | exact Fv.mono _ _
      | exact Fz.mono _ _
      | exact Fq.mono _ _ _ _
      | exact Fai.mono _ _ _ _
      | exact LeO.none _
      | refine LeO.ite ?_ ?_
      | refine LeO.bind ?_ (fun _ => ?_)
    · intro y0 y1 y2 y3 y4 y5
      unfold Fd.l0
      repeat' first
      | (with_reducible exact ih0 _ _ _ _ _ _)
      | (with_reducible exact ih1 _ _ _ _ _ _)
      | (with_reducible exact ih2 _ _ _ _ _)
      | (with_reducible exact ih3 _ _ _ _ _)
      | (with_reducible exact ih4 _ _ _ _ _)
      | (with_reducible exact ih5 _ _ _ _ _)
      | (with_reducible exact Fu.mono _ _ _)
      | (with_reducible exact Fs.mono _ _ _ _)
      | (with_reducible exact Fae.mono _ _ _ _)
      | (with_reducible exact Fah.mono _ _ _ _)
      | (with_reducible exact Fj.mono _ _ _)
      | (with_reducible exact Faf.mono _ _ _)
      | (with_reducible exact Fr.mono _ _ _)
      | (with_reducible exact Ft.mono _ _ _ _)
      | (with_reducible exact Fy.mono _ _)
      | (with_reducible exact Fv.mono _ _)
      | (with_reducible exact Fz.mono _ _)
      | (with_reducible exact Fq.mono _ _ _ _)
      | (with_reducible exact Fai.mono _ _ _ _)
      | (with_reducible exact LeO.refl _)
      | (with_reducible exact LeO.none _)
      | (with_reducible refine LeO.ite ?_ ?_)
      | (with_reducible refine LeO.bind ?_ (fun _ => ?_))
      | exact ih0 _ _ _ _ _ _
      | exact ih1 _ _ _ _ _ _
      | exact ih2 _ _ _ _ _
      | exact ih3 _ _ _ _ _
      | exact ih4 _ _ _ _ _
      | exact ih5 _ _ _ _ _
      | exact Fu.mono _ _ _
      | exact Fs.mono _ _ _ _
      | exact Fae.mono _ _ _ _
      | exact Fah.mono _ _ _ _
      | exact Fj.mono _ _ _
      | exact Faf.mono _ _ _
      | exact Fr.mono _ _ _
      | exact Ft.mono _ _ _ _
      | exact Fy.mono _ _
      | exact Fv.mono _ _
      | exact Fz.mono _ _
      | exact Fq.mono _ _ _ _
      | exact Fai.mono _ _ _ _
      | exact LeO.none _
      | refine LeO.ite ?_ ?_
      | refine LeO.bind ?_ (fun _ => ?_)
    · intro y0 y1 y2 y3 y4
      unfold Fd.j2
      repeat' first
      | (with_reducible exact ih0 _ _ _ _ _ _)
      | (with_reducible exact ih1 _ _ _ _ _ _)
      | (with_reducible exact ih2 _ _ _ _ _)
      | (with_reducible exact ih3 _ _ _ _ _)
      | (with_reducible exact ih4 _ _ _ _ _)
      | (with_reducible exact ih5 _ _ _ _ _)
      | (with_reducible exact Fu.mono _ _ _)
      | (with_reducible exact Fs.mono _ _ _ _)
      | (with_reducible exact Fae.mono _ _ _ _)
      | (with_reducible exact Fah.mono _ _ _ _)
      | (with_reducible exact Fj.mono _ _ _)
      | (with_reducible exact Faf.mono _ _ _)
      | (with_reducible exact Fr.mono _ _ _)
      | (with_reducible exact Ft.mono _ _ _ _)
      | (with_reducible exact Fy.mono _ _)
      | (with_reducible exact Fv.mono _ _)
      | (with_reducible exact Fz.mono _ _)
      | (with_reducible exact Fq.mono _ _ _ _)
      | (with_reducible exact Fai.mono _ _ _ _)
      | (with_reducible exact LeO.refl _)
      | (with_reducible exact LeO.none _)
      | (with_reducible refine LeO.ite ?_ ?_)
      | (with_reducible refine LeO.bind ?_ (fun _ => ?_))
      | exact ih0 _ _ _ _ _ _
      | exact ih1 _ _ _ _ _ _
      | exact ih2 _ _ _ _ _
      | exact ih3 _ _ _ _ _
      | exact ih4 _ _ _ _ _
      | exact ih5 _ _ _ _ _
      | exact Fu.mono _ _ _
      | exact Fs.mono _ _ _ _
      | exact Fae.mono _ _ _ _
      | exact Fah.mono _ _ _ _
      | exact Fj.mono _ _ _
      | exact Faf.mono _ _ _
      | exact Fr.mono _ _ _
      | exact Ft.mono _ _ _ _
      | exact Fy.mono _ _
      | exact Fv.mono _ _
      | exact Fz.mono _ _
      | exact Fq.mono _ _ _ _
      | exact Fai.mono _ _ _ _
      | exact LeO.none _
      | refine LeO.ite ?_ ?_
      | refine LeO.bind ?_ (fun _ => ?_)
    · intro y0 y1 y2 y3 y4
      unfold Fd.l1
      repeat' first
      | (with_reducible exact ih0 _ _ _ _ _ _)
      | (with_reducible exact ih1 _ _ _ _ _ _)
      | (with_reducible exact ih2 _ _ _ _ _)
      | (with_reducible exact ih3 _ _ _ _ _)
      | (with_reducible exact ih4 _ _ _ _ _)
      | (with_reducible exact ih5 _ _ _ _ _)
      | (with_reducible exact Fu.mono _ _ _)
      | (with_reducible exact Fs.mono _ _ _ _)
      | (with_reducible exact Fae.mono _ _ _ _)
      | (with_reducible exact Fah.mono _ _ _ _)
      | (with_reducible exact Fj.mono _ _ _)
      | (with_reducible exact Faf.mono _ _ _)
      | (with_reducible exact Fr.mono _ _ _)
      | (with_reducible exact Ft.mono _ _ _ _)
      | (with_reducible exact Fy.mono _ _)
      | (with_reducible exact Fv.mono _ _)
      | (with_reducible exact Fz.mono _ _)
      | (with_reducible exact Fq.mono _ _ _ _)
      | (with_reducible exact Fai.mono _ _ _ _)
      | (with_reducible exact LeO.refl _)
      | (with_reducible exact LeO.none _)
      | (with_reducible refine LeO.ite ?_ ?_)
      | (with_reducible refine LeO.bind ?_ (fun _ => ?_))
      | exact ih0 _ _ _ _ _ _
      | exact ih1 _ _ _ _ _ _
      | exact ih2 _ _ _ _ _
      | exact ih3 _ _ _ _ _
      | exact ih4 _ _ _ _ _
      | exact ih5 _ _ _ _ _
      | exact Fu.mono _ _ _
      | exact Fs.mono _ _ _ _
      | exact Fae.mono _ _ _ _
      | exact Fah.mono _ _ _ _
      | exact Fj.mono _ _ _
      | exact Faf.mono _ _ _
      | exact Fr.mono _ _ _
      | exact Ft.mono _ _ _ _
      | exact Fy.mono _ _
      | exact Fv.mono _ _
      | exact Fz.mono _ _
      | exact Fq.mono _ _ _ _
      | exact Fai.mono _ _ _ _
      | exact LeO.none _
      | refine LeO.ite ?_ ?_
      | refine LeO.bind ?_ (fun _ => ?_)
    · intro y0 y1 y2 y3 y4
      unfold Fd.j4
      repeat' first
      | (with_reducible exact ih0 _ _ _ _ _ _)
      | (with_reducible exact ih1 _ _ _ _ _ _)
      | (with_reducible exact ih2 _ _ _ _ _)
      | (with_reducible exact ih3 _ _ _ _ _)
      | (with_reducible exact ih4 _ _ _ _ _)
      | (with_reducible exact ih5 _ _ _ _ _)
      | (with_reducible exact Fu.mono _ _ _)
      | (with_reducible exact Fs.mono _ _ _ _)
      | (with_reducible exact Fae.mono _ _ _ _)
      | (with_reducible exact Fah.mono _ _ _ _)
      | (with_reducible exact Fj.mono _ _ _)
      | (with_reducible exact Faf.mono _ _ _)
      | (with_reducible exact Fr.mono _ _ _)
      | (with_reducible exact Ft.mono _ _ _ _)
      | (with_reducible exact Fy.mono _ _)
      | (with_reducible exact Fv.mono _ _)
      | (with_reducible exact Fz.mono _ _)
      | (with_reducible exact Fq.mono _ _ _ _)
      | (with_reducible exact Fai.mono _ _ _ _)
      | (with_reducible exact LeO.refl _)
      | (with_reducible exact LeO.none _)
      | (with_reducible refine LeO.ite ?_ ?_)
      | (with_reducible refine LeO.bind ?_ (fun _ => ?_))
      | exact ih0 _ _ _ _ _ _
      | exact ih1 _ _ _ _ _ _
      | exact ih2 _ _ _ _ _
      | exact ih3 _ _ _ _ _
      | exact ih4 _ _ _ _ _
      | exact ih5 _ _ _ _ _
      | exact Fu.mono _ _ _
      | exact Fs.mono _ _ _ _
      | exact Fae.mono _ _ _ _
      | exact Fah.mono _ _ _ _
      | exact Fj.mono _ _ _
      | exact Faf.mono _ _ _
      | exact Fr.mono _ _ _
      | exact Ft.mono _ _ _ _
      | exact Fy.mono _ _
      | exact Fv.mono _ _
      | exact Fz.mono _ _
      | exact Fq.mono _ _ _ _
      | exact Fai.mono _ _ _ _
      | exact LeO.none _
      | refine LeO.ite ?_ ?_
      | refine LeO.bind ?_ (fun _ => ?_)
    · intro y0 y1 y2 y3 y4
      unfold Fd.l2
      repeat' first
      | (with_reducible exact ih0 _ _ _ _ _ _)
      | (with_reducible exact ih1 _ _ _ _ _ _)
      | (with_reducible exact ih2 _ _ _ _ _)
      | (with_reducible exact ih3 _ _ _ _ _)
      | (with_reducible exact ih4 _ _ _ _ _)
      | (with_reducible exact ih5 _ _ _ _ _)
      | (with_reducible exact Fu.mono _ _ _)
      | (with_reducible exact Fs.mono _ _ _ _)
      | (with_reducible exact Fae.mono _ _ _ _)
      | (with_reducible exact Fah.mono _ _ _ _)
      | (with_reducible exact Fj.mono _ _ _)
      | (with_reducible exact Faf.mono _ _ _)
      | (with_reducible exact Fr.mono _ _ _)
      | (with_reducible exact Ft.mono _ _ _ _)
      | (with_reducible exact Fy.mono _ _)
      | (with_reducible exact Fv.mono _ _)
      | (with_reducible exact Fz.mono _ _)
      | (with_reducible exact Fq.mono _ _ _ _)
      | (with_reducible exact Fai.mono _ _ _ _)
      | (with_reducible exact LeO.refl _)
      | (with_reducible exact LeO.none _)
      | (with_reducible refine LeO.ite ?_ ?_)
      | (with_reducible refine LeO.bind ?_ (fun _ => ?_))
      | exact ih0 _ _ _ _ _ _
      | exact ih1 _ _ _ _ _ _
      | exact ih2 _ _ _ _ _
      | exact ih3 _ _ _ _ _
      | exact ih4 _ _ _ _ _
      | exact ih5 _ _ _ _ _
      | exact Fu.mono _ _ _
      | exact Fs.mono _ _ _ _
      | exact Fae.mono _ _ _ _
      | exact Fah.mono _ _ _ _
      | exact Fj.mono _ _ _
      | exact Faf.mono _ _ _
      | exact Fr.mono _ _ _
      | exact Ft.mono _ _ _ _
      | exact Fy.mono _ _
      | exact Fv.mono _ _
      | exact Fz.mono _ _
      | exact Fq.mono _ _ _ _
      | exact Fai.mono _ _ _ _
      | exact LeO.none _
      | refine LeO.ite ?_ ?_
      | refine LeO.bind ?_ (fun _ => ?_)
theorem Fd.mono : ∀ a0 k, LeO (Fd.f k a0) (Fd.f (k + 1) a0) := by
  intro a0 k
  obtain ⟨ih0, ih1, ih2, ih3, ih4, ih5⟩ := Fd.mono_l k
  unfold Fd.f
  repeat' first
      | (with_reducible exact ih0 _ _ _ _ _ _)
      | (with_reducible exact ih1 _ _ _ _ _ _)
      | (with_reducible exact ih2 _ _ _ _ _)
      | (with_reducible exact ih3 _ _ _ _ _)
      | (with_reducible exact ih4 _ _ _ _ _)
      | (with_reducible exact ih5 _ _ _ _ _)
      | (with_reducible exact Fu.mono _ _ _)
      | (with_reducible exact Fs.mono _ _ _ _)
      | (with_reducible exact Fae.mono _ _ _ _)
      | (with_reducible exact Fah.mono _ _ _ _)
      | (with_reducible exact Fj.mono _ _ _)
      | (with_reducible exact Faf.mono _ _ _)
      | (with_reducible exact Fr.mono _ _ _)
      | (with_reducible exact Ft.mono _ _ _ _)
      | (with_reducible exact Fy.mono _ _)
      | (with_reducible exact Fv.mono _ _)
      | (with_reducible exact Fz.mono _ _)
      | (with_reducible exact Fq.mono _ _ _ _)
      | (with_reducible exact Fai.mono _ _ _ _)
      | (with_reducible exact LeO.refl _)
      | (with_reducible exact LeO.none _)
      | (with_reducible refine LeO.ite ?_ ?_)
      | (with_reducible refine LeO.bind ?_ (fun _ => ?_))
      | exact ih0 _ _ _ _ _ _
      | exact ih1 _ _ _ _ _ _
      | exact ih2 _ _ _ _ _
      | exact ih3 _ _ _ _ _
      | exact ih4 _ _ _ _ _
      | exact ih5 _ _ _ _ _
      | exact Fu.mono _ _ _
      | exact Fs.mono _ _ _ _
      | exact Fae.mono _ _ _ _
      | exact Fah.mono _ _ _ _
      | exact Fj.mono _ _ _
      | exact Faf.mono _ _ _
      | exact Fr.mono _ _ _
      | exact Ft.mono _ _ _ _
      | exact Fy.mono _ _
      | exact Fv.mono _ _
      | exact Fz.mono _ _
      | exact Fq.mono _ _ _ _
      | exact Fai.mono _ _ _ _
      | exact LeO.none _
      | refine LeO.ite ?_ ?_
      | refine LeO.bind ?_ (fun _ => ?_)
set_option maxHeartbeats 64000000 in
set_option maxRecDepth 100000 in
theorem Fd.calls (k : Nat) (A0 : Option Addr) (c0 : Nat) (l0 : List Int) (r : Bool) (w : World) (hr0 : Kd.C (Kd.int .u8) w A0 l0.length l0) (hc0 : l0.length ≤ c0) (ht : r = true) (h : Fd.f k l0 = some r) :
  Calls Tryd.prog 13 #[.slice A0 l0.length c0] w fun e w' => e = .returned (.bool r) ∧ Below w.heap.size w w' := by
 have HR0 := Aside0.mk hr0
 have HC0 := Aside0.mk hc0
 clear hr0 hc0
 have HB := Aside0.mk (Below.refl w.heap.size w)
 have HT := Aside0.mk ht
 clear ht
 have H : ((Fbh.f l0).bind fun t101 => (if t101 = true then (some true) else ((Fz.f k l0).bind fun bt102 => ((Fah.f k bt102.1 bt102.2.1 bt102.2.2).bind fun bt107 => ((Fai.f k bt102.1 bt102.2.1 bt102.2.2).bind fun bt111 => (if (bt107.2 != bt111.2) = true then (Fd.j0 k l0 bt102.1 bt102.2.1 bt102.2.2 bt107.1 true) else ((Fr.f k bt107.1 bt111.1).bind fun t115 => (Fd.j0 k l0 bt102.1 bt102.2.1 bt102.2.2 bt107.1 (!t115))))))))) = some r := h
 clear h
 replace H := Option.bind_eq_some_iff.mp H
 obtain ⟨t101, A20, H⟩ := H
 (try dsimp only at H)
 have A2 := Aside0.mk A20
 clear A20
 by_cases c3 : t101 = true
 ·subst c3
  have H1 : (some true) = some r := by rw [if_pos rfl] at H; exact H
  clear H
  have H := H1
  clear H1
  as_aux_lemma =>
   obtain rfl := Option.some.inj H
   go_enter Tryd.func13, Tryd.ntmps13
   go_wp2_with (first | (go_at_call 47; (with_reducible refine (Fbh.calls _ _ l0 true _ ?side1 ?side2 A2.out).mono ?_); (case side1 => repeat (first | exact HR0.out | (with_reducible refine Kd.C_alloc ?_ _) | (with_reducible refine Kd.C_drewN ?_ _) | (with_reducible refine Kd.C_drew ?_))); (case side2 => exact HC0.out); rintro e w' ⟨rfl, ⟨nd, rfl⟩⟩; (try first | exact ⟨rfl, _, World.drewN_drewN _ _ _⟩ | exact ⟨rfl, _, Eq.trans (World.drewN_drewN _ _ _) (congrArg (World.drewN _) (Nat.add_assoc _ _ _))⟩)))
   repeat (go_quiet (first | (go_at_call 47; (with_reducible refine (Fbh.calls _ _ l0 true _ ?side1 ?side2 A2.out).mono ?_); (case side1 => repeat (first | exact HR0.out | (with_reducible refine Kd.C_alloc ?_ _) | (with_reducible refine Kd.C_drewN ?_ _) | (with_reducible refine Kd.C_drew ?_))); (case side2 => exact HC0.out); rintro e w' ⟨rfl, ⟨nd, rfl⟩⟩; (try first | exact ⟨rfl, _, World.drewN_drewN _ _ _⟩ | exact ⟨rfl, _, Eq.trans (World.drewN_drewN _ _ _) (congrArg (World.drewN _) (Nat.add_assoc _ _ _))⟩))); try go_wp2_with (first | (go_at_call 47; (with_reducible refine (Fbh.calls _ _ l0 true _ ?side1 ?side2 A2.out).mono ?_); (case side1 => repeat (first | exact HR0.out | (with_reducible refine Kd.C_alloc ?_ _) | (with_reducible refine Kd.C_drewN ?_ _) | (with_reducible refine Kd.C_drew ?_))); (case side2 => exact HC0.out); rintro e w' ⟨rfl, ⟨nd, rfl⟩⟩; (try first | exact ⟨rfl, _, World.drewN_drewN _ _ _⟩ | exact ⟨rfl, _, Eq.trans (World.drewN_drewN _ _ _) (congrArg (World.drewN _) (Nat.add_assoc _ _ _))⟩))))
   go_ret
   exact ⟨by first | rfl | (simp [errW_none, errW_some] <;> rfl) | (simp [*, errW_none, errW_some] <;> rfl), by exact eS HB.out⟩
 replace c3 := Bool.eq_false_iff.mpr c3
 subst c3
 have H1 : ((Fz.f k l0).bind fun bt102 => ((Fah.f k bt102.1 bt102.2.1 bt102.2.2).bind fun bt107 => ((Fai.f k bt102.1 bt102.2.1 bt102.2.2).bind fun bt111 => (if (bt107.2 != bt111.2) = true then (Fd.j0 k l0 bt102.1 bt102.2.1 bt102.2.2 bt107.1 true) else ((Fr.f k bt107.1 bt111.1).bind fun t115 => (Fd.j0 k l0 bt102.1 bt102.2.1 bt102.2.2 bt107.1 (!t115))))))) = some r := by rw [if_neg (show ¬ (false = true) by decide)] at H; exact H
 clear H
 have H := H1
 clear H1
 replace H := Option.bind_eq_some_iff.mp H
 obtain ⟨⟨t102, t103, t104⟩, A40, H⟩ := H
 (try dsimp only at H)
 have A4 := Aside0.mk A40
 clear A40
 replace H := Option.bind_eq_some_iff.mp H
 obtain ⟨⟨t107, t108⟩, A50, H⟩ := H
 (try dsimp only at H)
 have A5 := Aside0.mk A50
 clear A50
 replace H := Option.bind_eq_some_iff.mp H
 obtain ⟨⟨t111, t112⟩, A60, H⟩ := H
 (try dsimp only at H)
 have A6 := Aside0.mk A60
 clear A60
 have HC7 := Aside0.mk H
 clear H
 go_enter Tryd.func13, Tryd.ntmps13
 go_upto_region 6 with (first | (go_at_call 47; (with_reducible refine (Fbh.calls _ _ l0 false _ ?side1 ?side2 A2.out).mono ?_); (case side1 => repeat (first | exact HR0.out | (with_reducible refine Kd.C_alloc ?_ _) | (with_reducible refine Kd.C_drewN ?_ _) | (with_reducible refine Kd.C_drew ?_))); (case side2 => exact HC0.out); rintro e w' ⟨rfl, ⟨nd, rfl⟩⟩; (try first | exact ⟨rfl, _, World.drewN_drewN _ _ _⟩ | exact ⟨rfl, _, Eq.trans (World.drewN_drewN _ _ _) (congrArg (World.drewN _) (Nat.add_assoc _ _ _))⟩)) | (go_at_call 48; (with_reducible refine (Fz.calls k _ _ l0 t102 t103 t104 _ ?side1 ?side2 A4.out).mono ?_); (case side1 => repeat (first | exact HR0.out | (with_reducible refine Kd.C_alloc ?_ _) | (with_reducible refine Kd.C_drewN ?_ _) | (with_reducible refine Kd.C_drew ?_))); (case side2 => exact HC0.out); rintro e w8 ⟨v105, rfl, ho0, hb⟩; have n0_ := Aside0.mk (Kd.R_lower ho0 (below_size (by exact eS HB.out))); have n1_ := Aside0.mk (below_step (by exact eS HB.out) hb); clear HB; have HO106 := n0_; have HB := n1_; clear n0_ n1_; (try clear hb); (try clear hb2); (try clear hk); (try clear hi); (try clear ho0); obtain ⟨Ao9, co9, eo9⟩ := Kd.R_slice HO106.out; subst eo9) | (go_at_call 39; (with_reducible refine (Fah.calls k _ _ t102 t103 t104 t107 t108 _ ?side1 ?side2 A5.out).mono ?_); (case side1 => repeat (first | exact (Kd.R_reads' HO106.out).2.2 | (with_reducible refine Kd.C_alloc ?_ _) | (with_reducible refine Kd.C_drewN ?_ _) | (with_reducible refine Kd.C_drew ?_))); (case side2 => exact (Kd.R_reads' HO106.out).2.1); rintro e w10 ⟨v109, rfl, ho0, hb⟩; have n0_ := Aside0.mk (Kd.R_elder' (by exact Ho.RS <| HO106.out) (Kd.R_base ho0) hb); have n1_ := Aside0.mk (Kd.R_lower (Kd.R_new' ho0 (Kd.R_lt (by exact Ho.RS <| HO106.out))) (below_size (by exact eS HB.out))); have n2_ := Aside0.mk (below_step (by exact eS HB.out) hb); clear HO106; clear HB; have HO106 := n0_; have HO110 := n1_; have HB := n2_; clear n0_ n1_ n2_; (try clear hb); (try clear hb2); (try clear hk); (try clear hi); (try clear ho0)) | (go_at_call 38; (with_reducible refine (Fai.calls k _ _ t102 t103 t104 t111 t112 _ ?side1 ?side2 A6.out).mono ?_); (case side1 => repeat (first | exact (Kd.R_reads' HO106.out).2.2 | (with_reducible refine Kd.C_alloc ?_ _) | (with_reducible refine Kd.C_drewN ?_ _) | (with_reducible refine Kd.C_drew ?_))); (case side2 => exact (Kd.R_reads' HO106.out).2.1); rintro e w11 ⟨v113, rfl, ho0, hb⟩; have n0_ := Aside0.mk (Kd.R_elder' (by exact Ho.RS <| HO106.out) (Kd.R_base ho0) hb); have n1_ := Aside0.mk (Kd.R_elder' (by exact Ho.RS <| HO110.out) (Kd.R_base ho0) hb); have n2_ := Aside0.mk (Kd.R_lower (Kd.R_new' (Kd.R_new' ho0 (Kd.R_lt (by exact Ho.RS <| HO106.out))) (Kd.R_lt (by exact Ho.RS <| HO110.out))) (below_size (by exact eS HB.out))); have n3_ := Aside0.mk (below_step (by exact eS HB.out) hb); clear HO106; clear HO110; clear HB; have HO106 := n0_; have HO110 := n1_; have HO114 := n2_; have HB := n3_; clear n0_ n1_ n2_ n3_; (try clear hb); (try clear hb2); (try clear hk); (try clear hi); (try clear ho0)))
 repeat (go_quiet (first | (go_at_call 47; (with_reducible refine (Fbh.calls _ _ l0 false _ ?side1 ?side2 A2.out).mono ?_); (case side1 => repeat (first | exact HR0.out | (with_reducible refine Kd.C_alloc ?_ _) | (with_reducible refine Kd.C_drewN ?_ _) | (with_reducible refine Kd.C_drew ?_))); (case side2 => exact HC0.out); rintro e w' ⟨rfl, ⟨nd, rfl⟩⟩; (try first | exact ⟨rfl, _, World.drewN_drewN _ _ _⟩ | exact ⟨rfl, _, Eq.trans (World.drewN_drewN _ _ _) (congrArg (World.drewN _) (Nat.add_assoc _ _ _))⟩)) | (go_at_call 48; (with_reducible refine (Fz.calls k _ _ l0 t102 t103 t104 _ ?side1 ?side2 A4.out).mono ?_); (case side1 => repeat (first | exact HR0.out | (with_reducible refine Kd.C_alloc ?_ _) | (with_reducible refine Kd.C_drewN ?_ _) | (with_reducible refine Kd.C_drew ?_))); (case side2 => exact HC0.out); rintro e w8 ⟨v105, rfl, ho0, hb⟩; have n0_ := Aside0.mk (Kd.R_lower ho0 (below_size (by exact eS HB.out))); have n1_ := Aside0.mk (below_step (by exact eS HB.out) hb); clear HB; have HO106 := n0_; have HB := n1_; clear n0_ n1_; (try clear hb); (try clear hb2); (try clear hk); (try clear hi); (try clear ho0); obtain ⟨Ao9, co9, eo9⟩ := Kd.R_slice HO106.out; subst eo9) | (go_at_call 39; (with_reducible refine (Fah.calls k _ _ t102 t103 t104 t107 t108 _ ?side1 ?side2 A5.out).mono ?_); (case side1 => repeat (first | exact (Kd.R_reads' HO106.out).2.2 | (with_reducible refine Kd.C_alloc ?_ _) | (with_reducible refine Kd.C_drewN ?_ _) | (with_reducible refine Kd.C_drew ?_))); (case side2 => exact (Kd.R_reads' HO106.out).2.1); rintro e w10 ⟨v109, rfl, ho0, hb⟩; have n0_ := Aside0.mk (Kd.R_elder' (by exact Ho.RS <| HO106.out) (Kd.R_base ho0) hb); have n1_ := Aside0.mk (Kd.R_lower (Kd.R_new' ho0 (Kd.R_lt (by exact Ho.RS <| HO106.out))) (below_size (by exact eS HB.out))); have n2_ := Aside0.mk (below_step (by exact eS HB.out) hb); clear HO106; clear HB; have HO106 := n0_; have HO110 := n1_; have HB := n2_; clear n0_ n1_ n2_; (try clear hb); (try clear hb2); (try clear hk); (try clear hi); (try clear ho0)) | (go_at_call 38; (with_reducible refine (Fai.calls k _ _ t102 t103 t104 t111 t112 _ ?side1 ?side2 A6.out).mono ?_); (case side1 => repeat (first | exact (Kd.R_reads' HO106.out).2.2 | (with_reducible refine Kd.C_alloc ?_ _) | (with_reducible refine Kd.C_drewN ?_ _) | (with_reducible refine Kd.C_drew ?_))); (case side2 => exact (Kd.R_reads' HO106.out).2.1); rintro e w11 ⟨v113, rfl, ho0, hb⟩; have n0_ := Aside0.mk (Kd.R_elder' (by exact Ho.RS <| HO106.out) (Kd.R_base ho0) hb); have n1_ := Aside0.mk (Kd.R_elder' (by exact Ho.RS <| HO110.out) (Kd.R_base ho0) hb); have n2_ := Aside0.mk (Kd.R_lower (Kd.R_new' (Kd.R_new' ho0 (Kd.R_lt (by exact Ho.RS <| HO106.out))) (Kd.R_lt (by exact Ho.RS <| HO110.out))) (below_size (by exact eS HB.out))); have n3_ := Aside0.mk (below_step (by exact eS HB.out) hb); clear HO106; clear HO110; clear HB; have HO106 := n0_; have HO110 := n1_; have HO114 := n2_; have HB := n3_; clear n0_ n1_ n2_ n3_; (try clear hb); (try clear hb2); (try clear hk); (try clear hi); (try clear ho0))); go_upto_region 6 with (first | (go_at_call 47; (with_reducible refine (Fbh.calls _ _ l0 false _ ?side1 ?side2 A2.out).mono ?_); (case side1 => repeat (first | exact HR0.out | (with_reducible refine Kd.C_alloc ?_ _) | (with_reducible refine Kd.C_drewN ?_ _) | (with_reducible refine Kd.C_drew ?_))); (case side2 => exact HC0.out); rintro e w' ⟨rfl, ⟨nd, rfl⟩⟩; (try first | exact ⟨rfl, _, World.drewN_drewN _ _ _⟩ | exact ⟨rfl, _, Eq.trans (World.drewN_drewN _ _ _) (congrArg (World.drewN _) (Nat.add_assoc _ _ _))⟩)) | (go_at_call 48; (with_reducible refine (Fz.calls k _ _ l0 t102 t103 t104 _ ?side1 ?side2 A4.out).mono ?_); (case side1 => repeat (first | exact HR0.out | (with_reducible refine Kd.C_alloc ?_ _) | (with_reducible refine Kd.C_drewN ?_ _) | (with_reducible refine Kd.C_drew ?_))); (case side2 => exact HC0.out); rintro e w8 ⟨v105, rfl, ho0, hb⟩; have n0_ := Aside0.mk (Kd.R_lower ho0 (below_size (by exact eS HB.out))); have n1_ := Aside0.mk (below_step (by exact eS HB.out) hb); clear HB; have HO106 := n0_; have HB := n1_; clear n0_ n1_; (try clear hb); (try clear hb2); (try clear hk); (try clear hi); (try clear ho0); obtain ⟨Ao9, co9, eo9⟩ := Kd.R_slice HO106.out; subst eo9) | (go_at_call 39; (with_reducible refine (Fah.calls k _ _ t102 t103 t104 t107 t108 _ ?side1 ?side2 A5.out).mono ?_); (case side1 => repeat (first | exact (Kd.R_reads' HO106.out).2.2 | (with_reducible refine Kd.C_alloc ?_ _) | (with_reducible refine Kd.C_drewN ?_ _) | (with_reducible refine Kd.C_drew ?_))); (case side2 => exact (Kd.R_reads' HO106.out).2.1); rintro e w10 ⟨v109, rfl, ho0, hb⟩; have n0_ := Aside0.mk (Kd.R_elder' (by exact Ho.RS <| HO106.out) (Kd.R_base ho0) hb); have n1_ := Aside0.mk (Kd.R_lower (Kd.R_new' ho0 (Kd.R_lt (by exact Ho.RS <| HO106.out))) (below_size (by exact eS HB.out))); have n2_ := Aside0.mk (below_step (by exact eS HB.out) hb); clear HO106; clear HB; have HO106 := n0_; have HO110 := n1_; have HB := n2_; clear n0_ n1_ n2_; (try clear hb); (try clear hb2); (try clear hk); (try clear hi); (try clear ho0)) | (go_at_call 38; (with_reducible refine (Fai.calls k _ _ t102 t103 t104 t111 t112 _ ?side1 ?side2 A6.out).mono ?_); (case side1 => repeat (first | exact (Kd.R_reads' HO106.out).2.2 | (with_reducible refine Kd.C_alloc ?_ _) | (with_reducible refine Kd.C_drewN ?_ _) | (with_reducible refine Kd.C_drew ?_))); (case side2 => exact (Kd.R_reads' HO106.out).2.1); rintro e w11 ⟨v113, rfl, ho0, hb⟩; have n0_ := Aside0.mk (Kd.R_elder' (by exact Ho.RS <| HO106.out) (Kd.R_base ho0) hb); have n1_ := Aside0.mk (Kd.R_elder' (by exact Ho.RS <| HO110.out) (Kd.R_base ho0) hb); have n2_ := Aside0.mk (Kd.R_lower (Kd.R_new' (Kd.R_new' ho0 (Kd.R_lt (by exact Ho.RS <| HO106.out))) (Kd.R_lt (by exact Ho.RS <| HO110.out))) (below_size (by exact eS HB.out))); have n3_ := Aside0.mk (below_step (by exact eS HB.out) hb); clear HO106; clear HO110; clear HB; have HO106 := n0_; have HO110 := n1_; have HO114 := n2_; have HB := n3_; clear n0_ n1_ n2_ n3_; (try clear hb); (try clear hb2); (try clear hk); (try clear hi); (try clear ho0))))
 (try simp only [Act.put, List.setIfInBounds_toArray, List.set_cons_zero, List.set_cons_succ])
 go_cut [65] (fun v65 wc => ∃ (kq : Nat) (x65_6 : Bool), v65 = .bool x65_6 ∧ Aside0 (Fd.j0 kq l0 t102 t103 t104 t107 x65_6 = some r) ∧ Aside0 (kq ≤ k) ∧ Aside0 (Kd.R k41 41 wc w.heap.size (fun k_ => some k_ ≠ (v109 : Value).ownBlock) (.slice Ao9 t102.length co9) t102) ∧ Aside0 (Kd.R k41 41 wc w.heap.size (fun k_ => some k_ ≠ ((.slice Ao9 t102.length co9) : Value).ownBlock) v109 t107) ∧ Aside0 (Below w.heap.size w wc))
 case first =>
  have H := HC7.out
  clear HC7
  by_cases c12 : (t108 != t112) = true
  ·rw [if_pos c12] at H
   have c12b0 : (t108 != t112) = true := c12
   (try (have c12b1 : decide (t108 = t112) = false := by simpa using c12))
   (try (have c12b2 : (t108 == t112) = false := by simpa using c12))
   (try (have c12b3 : ¬ (t108 = t112) := by simpa using c12))
   clear c12
   (first | rw [c12b0] | (simp only [i64_w, i32_w]; rw [c12b0]) | skip)
   as_aux_lemma =>
    have H' := Aside0.mk H
    clear H
    go_wp2
    repeat (go_quiet (fail); try go_wp2)
    go_meet
    case rel => exact ⟨_, (true), (by first | rfl | (simp; done) | (simp [*]; done)), H', ⟨by first | omega | exact Nat.le_refl _⟩, ⟨by exact Ho.RS <| Kd.R_mono HO106.out (fun _ hk => hk.1.2)⟩, ⟨by exact Ho.RS <| Kd.R_mono HO110.out (fun _ hk => hk.1.2)⟩, ⟨by exact eS HB.out⟩⟩
  rw [if_neg c12] at H
  have c12b0 : (t108 != t112) = false := by simpa using c12
  (try (have c12b1 : decide (t108 = t112) = true := by simpa using c12))
  (try (have c12b2 : (t108 == t112) = true := by simpa using c12))
  clear c12
  (first | rw [c12b0] | (simp only [i64_w, i32_w]; rw [c12b0]) | skip)
  replace H := Option.bind_eq_some_iff.mp H
  obtain ⟨t115, A130, H⟩ := H
  (try dsimp only at H)
  have A13 := Aside0.mk A130
  clear A130
  as_aux_lemma =>
   have H' := Aside0.mk H
   clear H
   obtain ⟨Ao14, co14, eo14⟩ := Kd.R_slice HO110.out
   subst eo14
   obtain ⟨Ao15, co15, eo15⟩ := Kd.R_slice HO114.out
   subst eo15
   go_wp2_with (first | (go_at_call 49; (with_reducible refine (Fr.calls k _ _ t107 _ _ t111 t115 _ ?side1 ?side2 ?side3 ?side4 A13.out).mono ?_); (case side1 => repeat (first | exact (Kd.R_reads' HO110.out).2.2 | (with_reducible refine Kd.C_alloc ?_ _) | (with_reducible refine Kd.C_drewN ?_ _) | (with_reducible refine Kd.C_drew ?_))); (case side2 => exact (Kd.R_reads' HO110.out).2.1); (case side3 => repeat (first | exact (Kd.R_reads' HO114.out).2.2 | (with_reducible refine Kd.C_alloc ?_ _) | (with_reducible refine Kd.C_drewN ?_ _) | (with_reducible refine Kd.C_drew ?_))); (case side4 => exact (Kd.R_reads' HO114.out).2.1); rintro e w' ⟨rfl, ⟨nd, rfl⟩⟩; (try first | exact ⟨rfl, _, World.drewN_drewN _ _ _⟩ | exact ⟨rfl, _, Eq.trans (World.drewN_drewN _ _ _) (congrArg (World.drewN _) (Nat.add_assoc _ _ _))⟩)))
   repeat (go_quiet (first | (go_at_call 49; (with_reducible refine (Fr.calls k _ _ t107 _ _ t111 t115 _ ?side1 ?side2 ?side3 ?side4 A13.out).mono ?_); (case side1 => repeat (first | exact (Kd.R_reads' HO110.out).2.2 | (with_reducible refine Kd.C_alloc ?_ _) | (with_reducible refine Kd.C_drewN ?_ _) | (with_reducible refine Kd.C_drew ?_))); (case side2 => exact (Kd.R_reads' HO110.out).2.1); (case side3 => repeat (first | exact (Kd.R_reads' HO114.out).2.2 | (with_reducible refine Kd.C_alloc ?_ _) | (with_reducible refine Kd.C_drewN ?_ _) | (with_reducible refine Kd.C_drew ?_))); (case side4 => exact (Kd.R_reads' HO114.out).2.1); rintro e w' ⟨rfl, ⟨nd, rfl⟩⟩; (try first | exact ⟨rfl, _, World.drewN_drewN _ _ _⟩ | exact ⟨rfl, _, Eq.trans (World.drewN_drewN _ _ _) (congrArg (World.drewN _) (Nat.add_assoc _ _ _))⟩))); try go_wp2_with (first | (go_at_call 49; (with_reducible refine (Fr.calls k _ _ t107 _ _ t111 t115 _ ?side1 ?side2 ?side3 ?side4 A13.out).mono ?_); (case side1 => repeat (first | exact (Kd.R_reads' HO110.out).2.2 | (with_reducible refine Kd.C_alloc ?_ _) | (with_reducible refine Kd.C_drewN ?_ _) | (with_reducible refine Kd.C_drew ?_))); (case side2 => exact (Kd.R_reads' HO110.out).2.1); (case side3 => repeat (first | exact (Kd.R_reads' HO114.out).2.2 | (with_reducible refine Kd.C_alloc ?_ _) | (with_reducible refine Kd.C_drewN ?_ _) | (with_reducible refine Kd.C_drew ?_))); (case side4 => exact (Kd.R_reads' HO114.out).2.1); rintro e w' ⟨rfl, ⟨nd, rfl⟩⟩; (try first | exact ⟨rfl, _, World.drewN_drewN _ _ _⟩ | exact ⟨rfl, _, Eq.trans (World.drewN_drewN _ _ _) (congrArg (World.drewN _) (Nat.add_assoc _ _ _))⟩))))
   go_meet
   case rel => exact ⟨_, (!t115), (by first | rfl | (simp; done) | (simp [*]; done)), H', ⟨by first | omega | exact Nat.le_refl _⟩, ⟨by exact Ho.RS <| Kd.R_mono HO106.out (fun _ hk => hk.1.2)⟩, ⟨by exact Ho.RS <| Kd.R_mono HO110.out (fun _ hk => hk.1.2)⟩, ⟨by exact eS HB.out⟩⟩
 case rest =>
  clear HC7
  try clear c1
  try clear p2
  try clear c3
  try clear c12
  try clear c12b0
  try clear c12b1
  try clear c12b2
  try clear c13
  obtain ⟨kq, x65_6, rfl, HA, HJ6, HO_3, HO_6, HB⟩ := hcut
  cases kq with
  | zero => exact absurd HA.out (by simp [Fd.j0])
  | succ kj6 =>
   have H := HA.out
   clear HA
   simp only [Fd.j0] at H
   by_cases c16 : x65_6 = true
   ·subst c16
    have H1 : (some false) = some r := by rw [if_pos rfl] at H; exact H
    clear H
    have H := H1
    clear H1
    as_aux_lemma =>
     exact absurd ((Option.some.inj H).trans HT.out) (by decide)
   replace c16 := Bool.eq_false_iff.mpr c16
   subst c16
   have H1 : (Fd.l0 kj6 l0 t102 t103 t104 t107 0) = some r := by rw [if_neg (show ¬ (false = true) by decide)] at H; exact H
   clear H
   have H := H1
   clear H1
   have H' := Aside0.mk H
   clear H
   go_wp2
   repeat (go_quiet (fail); try go_wp2)
   go_loopg [10] kj6 (fun kq v10 w' => ∃ (x10_2 : Int), v10 = .int .i64 x10_2 ∧ Aside0 (Fd.l0 kq l0 t102 t103 t104 t107 x10_2 = some r) ∧ Aside0 (kq ≤ kj6) ∧ Aside0 (Kd.R k41 41 w' w.heap.size (fun k_ => some k_ ≠ (v109 : Value).ownBlock) (.slice Ao9 t102.length co9) t102) ∧ Aside0 (Kd.R k41 41 w' w.heap.size (fun k_ => some k_ ≠ ((.slice Ao9 t102.length co9) : Value).ownBlock) v109 t107) ∧ Aside0 (Below w.heap.size w w'))
   case atStart => exact ⟨(0), (by first | rfl | (simp; done) | (simp [*]; done)), H', ⟨Nat.le_refl _⟩, ⟨by exact Ho.RS <| HO_3.out⟩, ⟨by exact Ho.RS <| HO_6.out⟩, ⟨by exact eS HB.out⟩⟩
   case round =>
    clear H'
    try clear c1
    try clear p2
    try clear c3
    try clear c12
    try clear c12b0
    try clear c12b1
    try clear c12b2
    try clear c13
    try clear c16
    try clear p2
    obtain ⟨x10_2, rfl, HA, HK2, HO_3, HO_6, HB⟩ := hrel
    cases gk with
    | zero => exact absurd HA.out (by simp [Fd.l0])
    | succ k2 =>
     have H := HA.out
     clear HA
     simp only [Fd.l0] at H
     by_cases c17 : x10_2 < (t107.length : Int)
     ·rw [if_pos c17] at H
      have c17b0 : decide (x10_2 < (t107.length : Int)) = true := decide_eq_true c17
      clear c17
      by_cases c18 : 0 ≤ x10_2
      rotate_left
      ·rw [if_neg c18] at H
       exact absurd H (by simp)
      rw [if_pos c18] at H
      have c18b0 : decide (0 ≤ x10_2) = true := decide_eq_true c18
      clear c18
      by_cases c19 : ((rd_T41 t107 x10_2).f0) = t103
      rotate_left
      ·rw [if_neg c19] at H
       have c19b0 : (((rd_T41 t107 x10_2).f0) == t103) = false := beq_eq_false_iff_ne.mpr c19
       have c19b1 : (((rd_T41 t107 x10_2).f0) != t103) = true := bne_iff_ne.mpr c19
       as_aux_lemma =>
        have H' := Aside0.mk H
        clear H
        obtain ⟨Ao28, co28, eo28⟩ := Kd.R_slice HO_6.out
        subst eo28
        have p116 : 0 ≤ (x10_2 : Int) := of_decide_eq_true (by first | (with_reducible assumption) | assumption)
        have q116 : x10_2 < (t107.length : Int) := of_decide_eq_true (by first | (with_reducible assumption) | assumption)
        obtain ⟨ad116, e116, hx116_0, hx116_1, hx116_2, hx116_3, hx116_4, hx116_5, hx116_6, hx116_7⟩ := at_T41 (Kd.R_reads' HO_6.out).2.2 x10_2 p116 q116
        cases e116
        replace p116 := eq_true p116
        replace q116 := eq_true q116
        go_wp2
        repeat (go_quiet (fail); try go_wp2)
        go_roundg k2
        case measure => have := HJ6.out; have := HK2.out; omega
        case rel => exact ⟨(wrap64 (x10_2 + 1)), (by first | rfl | (simp; done) | (simp [*]; done)), H', ⟨by have := HJ6.out; have := HK2.out; omega⟩, ⟨by exact Ho.RS <| HO_3.out⟩, ⟨by exact Ho.RS <| HO_6.out⟩, ⟨by exact eS HB.out⟩⟩
      rw [if_pos c19] at H
      have c19b0 : (((rd_T41 t107 x10_2).f0) == t103) = true := beq_iff_eq.mpr c19
      have c19b1 : (((rd_T41 t107 x10_2).f0) != t103) = false := bne_eq_false_iff_eq.mpr c19
      clear c19
      replace H := Option.bind_eq_some_iff.mp H
      obtain ⟨⟨t118, t119⟩, A200, H⟩ := H
      (try dsimp only at H)
      have A20 := Aside0.mk A200
      clear A200
      replace H := Option.bind_eq_some_iff.mp H
      obtain ⟨⟨t121, t122⟩, A210, H⟩ := H
      (try dsimp only at H)
      have A21 := Aside0.mk A210
      clear A210
      by_cases c22 : t119 = true
      rotate_left
      ·replace c22 := Bool.eq_false_iff.mpr c22
       subst c22
       have H1 : (some false) = some r := by rw [if_neg (show ¬ (false = true) by decide)] at H; exact H
       clear H
       have H := H1
       clear H1
       as_aux_lemma =>
        exact absurd ((Option.some.inj H).trans HT.out) (by decide)
      subst c22
      have H1 : (if t122 = true then (if (wrap64 (t118 - t121)) = t104 then (Fd.l0 k2 l0 t102 t103 t104 t107 (wrap64 (x10_2 + 1))) else (some false)) else (some false)) = some r := by rw [if_pos rfl] at H; exact H
      clear H
      have H := H1
      clear H1
      by_cases c23 : t122 = true
      rotate_left
      ·replace c23 := Bool.eq_false_iff.mpr c23
       subst c23
       have H1 : (some false) = some r := by rw [if_neg (show ¬ (false = true) by decide)] at H; exact H
       clear H
       have H := H1
       clear H1
       as_aux_lemma =>
        exact absurd ((Option.some.inj H).trans HT.out) (by decide)
      subst c23
      have H1 : (if (wrap64 (t118 - t121)) = t104 then (Fd.l0 k2 l0 t102 t103 t104 t107 (wrap64 (x10_2 + 1))) else (some false)) = some r := by rw [if_pos rfl] at H; exact H
      clear H
      have H := H1
      clear H1
      by_cases c24 : (wrap64 (t118 - t121)) = t104
      rotate_left
      ·rw [if_neg c24] at H
       have c24b0 : ((wrap64 (t118 - t121)) == t104) = false := beq_eq_false_iff_ne.mpr c24
       have c24b1 : ((wrap64 (t118 - t121)) != t104) = true := bne_iff_ne.mpr c24
       as_aux_lemma =>
        exact absurd ((Option.some.inj H).trans HT.out) (by decide)
      rw [if_pos c24] at H
      have c24b0 : ((wrap64 (t118 - t121)) == t104) = true := beq_iff_eq.mpr c24
      have c24b1 : ((wrap64 (t118 - t121)) != t104) = false := bne_eq_false_iff_eq.mpr c24
      clear c24
      as_aux_lemma =>
       have H' := Aside0.mk H
       clear H
       obtain ⟨Ao25, co25, eo25⟩ := Kd.R_slice HO_6.out
       subst eo25
       have p116 : 0 ≤ (x10_2 : Int) := of_decide_eq_true (by first | (with_reducible assumption) | assumption)
       have q116 : x10_2 < (t107.length : Int) := of_decide_eq_true (by first | (with_reducible assumption) | assumption)
       obtain ⟨ad116, e116, hx116_0, hx116_1, hx116_2, hx116_3, hx116_4, hx116_5, hx116_6, hx116_7⟩ := at_T41 (Kd.R_reads' HO_6.out).2.2 x10_2 p116 q116
       cases e116
       replace p116 := eq_true p116
       replace q116 := eq_true q116
       have p117 : 0 ≤ (x10_2 : Int) := of_decide_eq_true (by first | (with_reducible assumption) | assumption)
       have q117 : x10_2 < (t107.length : Int) := of_decide_eq_true (by first | (with_reducible assumption) | assumption)
       obtain ⟨ad117, e117, hx117_0, hx117_1, hx117_2, hx117_3, hx117_4, hx117_5, hx117_6, hx117_7⟩ := at_T41 (Kd.R_reads' HO_6.out).2.2 x10_2 p117 q117
       obtain rfl : ad116 = ad117 := (by injection e117)
       replace p117 := eq_true p117
       replace q117 := eq_true q117
       go_wp2_with (first | (go_at_call 35; (with_reducible refine (Fj.calls k2 _ _ t102 ((rd_T41 t107 x10_2).f1) t118 true _ ?side1 ?side2 A20.out).mono ?_); (case side1 => repeat (first | exact (Kd.R_reads' HO_3.out).2.2 | (with_reducible refine Kd.C_alloc ?_ _) | (with_reducible refine Kd.C_drewN ?_ _) | (with_reducible refine Kd.C_drew ?_))); (case side2 => exact (Kd.R_reads' HO_3.out).2.1); rintro e w26 ⟨rfl, hb⟩; have n0_ := Aside0.mk (Kd.R_below (by exact Ho.RS <| HO_3.out) hb); have n1_ := Aside0.mk (Kd.R_below (by exact Ho.RS <| HO_6.out) hb); have n2_ := Aside0.mk (below_step (by exact eS HB.out) hb); clear HO_3; clear HO_6; clear HB; have HO_3 := n0_; have HO_6 := n1_; have HB := n2_; clear n0_ n1_ n2_; (try clear hb); (try clear hb2); (try clear hk); (try clear hi); have p120 : 0 ≤ (x10_2 : Int) := of_decide_eq_true (by first | (with_reducible assumption) | assumption); have q120 : x10_2 < (t107.length : Int) := of_decide_eq_true (by first | (with_reducible assumption) | assumption); obtain ⟨ad120, e120, hx120_0, hx120_1, hx120_2, hx120_3, hx120_4, hx120_5, hx120_6, hx120_7⟩ := at_T41 (Kd.R_reads' HO_6.out).2.2 x10_2 p120 q120; obtain rfl : ad116 = ad120 := (by injection e120); replace p120 := eq_true p120; replace q120 := eq_true q120) | (go_at_call 35; (with_reducible refine (Fj.calls k2 _ _ t107 ((rd_T41 t107 x10_2).f1) t121 true _ ?side1 ?side2 A21.out).mono ?_); (case side1 => repeat (first | exact (Kd.R_reads' HO_6.out).2.2 | (with_reducible refine Kd.C_alloc ?_ _) | (with_reducible refine Kd.C_drewN ?_ _) | (with_reducible refine Kd.C_drew ?_))); (case side2 => exact (Kd.R_reads' HO_6.out).2.1); rintro e w27 ⟨rfl, hb⟩; have n0_ := Aside0.mk (Kd.R_below (by exact Ho.RS <| HO_3.out) hb); have n1_ := Aside0.mk (Kd.R_below (by exact Ho.RS <| HO_6.out) hb); have n2_ := Aside0.mk (below_step (by exact eS HB.out) hb); clear HO_3; clear HO_6; clear HB; have HO_3 := n0_; have HO_6 := n1_; have HB := n2_; clear n0_ n1_ n2_; (try clear hb); (try clear hb2); (try clear hk); (try clear hi)))
       repeat (go_quiet (first | (go_at_call 35; (with_reducible refine (Fj.calls k2 _ _ t102 ((rd_T41 t107 x10_2).f1) t118 true _ ?side1 ?side2 A20.out).mono ?_); (case side1 => repeat (first | exact (Kd.R_reads' HO_3.out).2.2 | (with_reducible refine Kd.C_alloc ?_ _) | (with_reducible refine Kd.C_drewN ?_ _) | (with_reducible refine Kd.C_drew ?_))); (case side2 => exact (Kd.R_reads' HO_3.out).2.1); rintro e w26 ⟨rfl, hb⟩; have n0_ := Aside0.mk (Kd.R_below (by exact Ho.RS <| HO_3.out) hb); have n1_ := Aside0.mk (Kd.R_below (by exact Ho.RS <| HO_6.out) hb); have n2_ := Aside0.mk (below_step (by exact eS HB.out) hb); clear HO_3; clear HO_6; clear HB; have HO_3 := n0_; have HO_6 := n1_; have HB := n2_; clear n0_ n1_ n2_; (try clear hb); (try clear hb2); (try clear hk); (try clear hi); have p120 : 0 ≤ (x10_2 : Int) := of_decide_eq_true (by first | (with_reducible assumption) | assumption); have q120 : x10_2 < (t107.length : Int) := of_decide_eq_true (by first | (with_reducible assumption) | assumption); obtain ⟨ad120, e120, hx120_0, hx120_1, hx120_2, hx120_3, hx120_4, hx120_5, hx120_6, hx120_7⟩ := at_T41 (Kd.R_reads' HO_6.out).2.2 x10_2 p120 q120; obtain rfl : ad116 = ad120 := (by injection e120); replace p120 := eq_true p120; replace q120 := eq_true q120) | (go_at_call 35; (with_reducible refine (Fj.calls k2 _ _ t107 ((rd_T41 t107 x10_2).f1) t121 true _ ?side1 ?side2 A21.out).mono ?_); (case side1 => repeat (first | exact (Kd.R_reads' HO_6.out).2.2 | (with_reducible refine Kd.C_alloc ?_ _) | (with_reducible refine Kd.C_drewN ?_ _) | (with_reducible refine Kd.C_drew ?_))); (case side2 => exact (Kd.R_reads' HO_6.out).2.1); rintro e w27 ⟨rfl, hb⟩; have n0_ := Aside0.mk (Kd.R_below (by exact Ho.RS <| HO_3.out) hb); have n1_ := Aside0.mk (Kd.R_below (by exact Ho.RS <| HO_6.out) hb); have n2_ := Aside0.mk (below_step (by exact eS HB.out) hb); clear HO_3; clear HO_6; clear HB; have HO_3 := n0_; have HO_6 := n1_; have HB := n2_; clear n0_ n1_ n2_; (try clear hb); (try clear hb2); (try clear hk); (try clear hi))); try go_wp2_with (first | (go_at_call 35; (with_reducible refine (Fj.calls k2 _ _ t102 ((rd_T41 t107 x10_2).f1) t118 true _ ?side1 ?side2 A20.out).mono ?_); (case side1 => repeat (first | exact (Kd.R_reads' HO_3.out).2.2 | (with_reducible refine Kd.C_alloc ?_ _) | (with_reducible refine Kd.C_drewN ?_ _) | (with_reducible refine Kd.C_drew ?_))); (case side2 => exact (Kd.R_reads' HO_3.out).2.1); rintro e w26 ⟨rfl, hb⟩; have n0_ := Aside0.mk (Kd.R_below (by exact Ho.RS <| HO_3.out) hb); have n1_ := Aside0.mk (Kd.R_below (by exact Ho.RS <| HO_6.out) hb); have n2_ := Aside0.mk (below_step (by exact eS HB.out) hb); clear HO_3; clear HO_6; clear HB; have HO_3 := n0_; have HO_6 := n1_; have HB := n2_; clear n0_ n1_ n2_; (try clear hb); (try clear hb2); (try clear hk); (try clear hi); have p120 : 0 ≤ (x10_2 : Int) := of_decide_eq_true (by first | (with_reducible assumption) | assumption); have q120 : x10_2 < (t107.length : Int) := of_decide_eq_true (by first | (with_reducible assumption) | assumption); obtain ⟨ad120, e120, hx120_0, hx120_1, hx120_2, hx120_3, hx120_4, hx120_5, hx120_6, hx120_7⟩ := at_T41 (Kd.R_reads' HO_6.out).2.2 x10_2 p120 q120; obtain rfl : ad116 = ad120 := (by injection e120); replace p120 := eq_true p120; replace q120 := eq_true q120) | (go_at_call 35; (with_reducible refine (Fj.calls k2 _ _ t107 ((rd_T41 t107 x10_2).f1) t121 true _ ?side1 ?side2 A21.out).mono ?_); (case side1 => repeat (first | exact (Kd.R_reads' HO_6.out).2.2 | (with_reducible refine Kd.C_alloc ?_ _) | (with_reducible refine Kd.C_drewN ?_ _) | (with_reducible refine Kd.C_drew ?_))); (case side2 => exact (Kd.R_reads' HO_6.out).2.1); rintro e w27 ⟨rfl, hb⟩; have n0_ := Aside0.mk (Kd.R_below (by exact Ho.RS <| HO_3.out) hb); have n1_ := Aside0.mk (Kd.R_below (by exact Ho.RS <| HO_6.out) hb); have n2_ := Aside0.mk (below_step (by exact eS HB.out) hb); clear HO_3; clear HO_6; clear HB; have HO_3 := n0_; have HO_6 := n1_; have HB := n2_; clear n0_ n1_ n2_; (try clear hb); (try clear hb2); (try clear hk); (try clear hi))))
       go_roundg k2
       case measure => have := HJ6.out; have := HK2.out; omega
       case rel => exact ⟨(wrap64 (x10_2 + 1)), (by first | rfl | (simp; done) | (simp [*]; done)), H', ⟨by have := HJ6.out; have := HK2.out; omega⟩, ⟨by exact Ho.RS <| HO_3.out⟩, ⟨by exact Ho.RS <| HO_6.out⟩, ⟨by exact eS HB.out⟩⟩
     rw [if_neg c17] at H
     have c17b0 : decide (x10_2 < (t107.length : Int)) = false := decide_eq_false c17
     clear c17
     replace H := Option.bind_eq_some_iff.mp H
     obtain ⟨⟨t123, t124, t125⟩, A290, H⟩ := H
     (try dsimp only at H)
     have A29 := Aside0.mk A290
     clear A290
     replace H := Option.bind_eq_some_iff.mp H
     obtain ⟨⟨t128, t129⟩, A300, H⟩ := H
     (try dsimp only at H)
     have A30 := Aside0.mk A300
     clear A300
     replace H := Option.bind_eq_some_iff.mp H
     obtain ⟨⟨t132, t133⟩, A310, H⟩ := H
     (try dsimp only at H)
     have A31 := Aside0.mk A310
     clear A310
     have HC32 := Aside0.mk H
     clear H
     obtain ⟨Ao33, co33, eo33⟩ := Kd.R_slice HO_6.out
     subst eo33
     go_upto_region 19 with (first | (go_at_call 50; (with_reducible refine (Fv.calls k2 _ _ l0 t123 t124 t125 _ ?side1 ?side2 A29.out).mono ?_); (case side1 => repeat (first | exact (Kd.C_below HR0.out HB.out) | (with_reducible refine Kd.C_alloc ?_ _) | (with_reducible refine Kd.C_drewN ?_ _) | (with_reducible refine Kd.C_drew ?_))); (case side2 => exact HC0.out); rintro e w34 ⟨v126, rfl, ho0, hb⟩; have n0_ := Aside0.mk (Kd.R_elder' (by exact Ho.RS <| HO_3.out) (Kd.R_base ho0) hb); have n1_ := Aside0.mk (Kd.R_elder' (by exact Ho.RS <| HO_6.out) (Kd.R_base ho0) hb); have n2_ := Aside0.mk (Kd.R_lower (Kd.R_new' (Kd.R_new' ho0 (Kd.R_lt (by exact Ho.RS <| HO_3.out))) (Kd.R_lt (by exact Ho.RS <| HO_6.out))) (below_size (by exact eS HB.out))); have n3_ := Aside0.mk (below_step (by exact eS HB.out) hb); clear HO_3; clear HO_6; clear HB; have HO_3 := n0_; have HO_6 := n1_; have HO127 := n2_; have HB := n3_; clear n0_ n1_ n2_ n3_; (try clear hb); (try clear hb2); (try clear hk); (try clear hi); (try clear ho0); obtain ⟨Ao35, co35, eo35⟩ := Kd.R_slice HO127.out; subst eo35) | (go_at_call 44; (with_reducible refine (Fae.calls k2 _ _ t123 t124 t125 t128 t129 _ ?side1 ?side2 A30.out).mono ?_); (case side1 => repeat (first | exact (Kd.R_reads' HO127.out).2.2 | (with_reducible refine Kd.C_alloc ?_ _) | (with_reducible refine Kd.C_drewN ?_ _) | (with_reducible refine Kd.C_drew ?_))); (case side2 => exact (Kd.R_reads' HO127.out).2.1); rintro e w36 ⟨v130, rfl, ho0, hb⟩; have n0_ := Aside0.mk (Kd.R_elder' (by exact Ho.RS <| HO_3.out) (Kd.R_base ho0) hb); have n1_ := Aside0.mk (Kd.R_elder' (by exact Ho.RS <| HO_6.out) (Kd.R_base ho0) hb); have n2_ := Aside0.mk (Kd.R_elder' (by exact Ho.RS <| HO127.out) (Kd.R_base ho0) hb); have n3_ := Aside0.mk (Kd.R_lower (Kd.R_new' (Kd.R_new' (Kd.R_new' ho0 (Kd.R_lt (by exact Ho.RS <| HO_3.out))) (Kd.R_lt (by exact Ho.RS <| HO_6.out))) (Kd.R_lt (by exact Ho.RS <| HO127.out))) (below_size (by exact eS HB.out))); have n4_ := Aside0.mk (below_step (by exact eS HB.out) hb); clear HO_3; clear HO_6; clear HO127; clear HB; have HO_3 := n0_; have HO_6 := n1_; have HO127 := n2_; have HO131 := n3_; have HB := n4_; clear n0_ n1_ n2_ n3_ n4_; (try clear hb); (try clear hb2); (try clear hk); (try clear hi); (try clear ho0)) | (go_at_call 43; (with_reducible refine (Fq.calls k2 _ _ t123 t124 t125 t132 t133 _ ?side1 ?side2 A31.out).mono ?_); (case side1 => repeat (first | exact (Kd.R_reads' HO127.out).2.2 | (with_reducible refine Kd.C_alloc ?_ _) | (with_reducible refine Kd.C_drewN ?_ _) | (with_reducible refine Kd.C_drew ?_))); (case side2 => exact (Kd.R_reads' HO127.out).2.1); rintro e w37 ⟨v134, rfl, ho0, hb⟩; have n0_ := Aside0.mk (Kd.R_elder' (by exact Ho.RS <| HO_3.out) (Kd.R_base ho0) hb); have n1_ := Aside0.mk (Kd.R_elder' (by exact Ho.RS <| HO_6.out) (Kd.R_base ho0) hb); have n2_ := Aside0.mk (Kd.R_elder' (by exact Ho.RS <| HO127.out) (Kd.R_base ho0) hb); have n3_ := Aside0.mk (Kd.R_elder' (by exact Ho.RS <| HO131.out) (Kd.R_base ho0) hb); have n4_ := Aside0.mk (Kd.R_lower (Kd.R_new' (Kd.R_new' (Kd.R_new' (Kd.R_new' ho0 (Kd.R_lt (by exact Ho.RS <| HO_3.out))) (Kd.R_lt (by exact Ho.RS <| HO_6.out))) (Kd.R_lt (by exact Ho.RS <| HO127.out))) (Kd.R_lt (by exact Ho.RS <| HO131.out))) (below_size (by exact eS HB.out))); have n5_ := Aside0.mk (below_step (by exact eS HB.out) hb); clear HO_3; clear HO_6; clear HO127; clear HO131; clear HB; have HO_3 := n0_; have HO_6 := n1_; have HO127 := n2_; have HO131 := n3_; have HO135 := n4_; have HB := n5_; clear n0_ n1_ n2_ n3_ n4_ n5_; (try clear hb); (try clear hb2); (try clear hk); (try clear hi); (try clear ho0)))
     repeat (go_quiet (first | (go_at_call 50; (with_reducible refine (Fv.calls k2 _ _ l0 t123 t124 t125 _ ?side1 ?side2 A29.out).mono ?_); (case side1 => repeat (first | exact (Kd.C_below HR0.out HB.out) | (with_reducible refine Kd.C_alloc ?_ _) | (with_reducible refine Kd.C_drewN ?_ _) | (with_reducible refine Kd.C_drew ?_))); (case side2 => exact HC0.out); rintro e w34 ⟨v126, rfl, ho0, hb⟩; have n0_ := Aside0.mk (Kd.R_elder' (by exact Ho.RS <| HO_3.out) (Kd.R_base ho0) hb); have n1_ := Aside0.mk (Kd.R_elder' (by exact Ho.RS <| HO_6.out) (Kd.R_base ho0) hb); have n2_ := Aside0.mk (Kd.R_lower (Kd.R_new' (Kd.R_new' ho0 (Kd.R_lt (by exact Ho.RS <| HO_3.out))) (Kd.R_lt (by exact Ho.RS <| HO_6.out))) (below_size (by exact eS HB.out))); have n3_ := Aside0.mk (below_step (by exact eS HB.out) hb); clear HO_3; clear HO_6; clear HB; have HO_3 := n0_; have HO_6 := n1_; have HO127 := n2_; have HB := n3_; clear n0_ n1_ n2_ n3_; (try clear hb); (try clear hb2); (try clear hk); (try clear hi); (try clear ho0); obtain ⟨Ao35, co35, eo35⟩ := Kd.R_slice HO127.out; subst eo35) | (go_at_call 44; (with_reducible refine (Fae.calls k2 _ _ t123 t124 t125 t128 t129 _ ?side1 ?side2 A30.out).mono ?_); (case side1 => repeat (first | exact (Kd.R_reads' HO127.out).2.2 | (with_reducible refine Kd.C_alloc ?_ _) | (with_reducible refine Kd.C_drewN ?_ _) | (with_reducible refine Kd.C_drew ?_))); (case side2 => exact (Kd.R_reads' HO127.out).2.1); rintro e w36 ⟨v130, rfl, ho0, hb⟩; have n0_ := Aside0.mk (Kd.R_elder' (by exact Ho.RS <| HO_3.out) (Kd.R_base ho0) hb); have n1_ := Aside0.mk (Kd.R_elder' (by exact Ho.RS <| HO_6.out) (Kd.R_base ho0) hb); have n2_ := Aside0.mk (Kd.R_elder' (by exact Ho.RS <| HO127.out) (Kd.R_base ho0) hb); have n3_ := Aside0.mk (Kd.R_lower (Kd.R_new' (Kd.R_new' (Kd.R_new' ho0 (Kd.R_lt (by exact Ho.RS <| HO_3.out))) (Kd.R_lt (by exact Ho.RS <| HO_6.out))) (Kd.R_lt (by exact Ho.RS <| HO127.out))) (below_size (by exact eS HB.out))); have n4_ := Aside0.mk (below_step (by exact eS HB.out) hb); clear HO_3; clear HO_6; clear HO127; clear HB; have HO_3 := n0_; have HO_6 := n1_; have HO127 := n2_; have HO131 := n3_; have HB := n4_; clear n0_ n1_ n2_ n3_ n4_; (try clear hb); (try clear hb2); (try clear hk); (try clear hi); (try clear ho0)) | (go_at_call 43; (with_reducible refine (Fq.calls k2 _ _ t123 t124 t125 t132 t133 _ ?side1 ?side2 A31.out).mono ?_); (case side1 => repeat (first | exact (Kd.R_reads' HO127.out).2.2 | (with_reducible refine Kd.C_alloc ?_ _) | (with_reducible refine Kd.C_drewN ?_ _) | (with_reducible refine Kd.C_drew ?_))); (case side2 => exact (Kd.R_reads' HO127.out).2.1); rintro e w37 ⟨v134, rfl, ho0, hb⟩; have n0_ := Aside0.mk (Kd.R_elder' (by exact Ho.RS <| HO_3.out) (Kd.R_base ho0) hb); have n1_ := Aside0.mk (Kd.R_elder' (by exact Ho.RS <| HO_6.out) (Kd.R_base ho0) hb); have n2_ := Aside0.mk (Kd.R_elder' (by exact Ho.RS <| HO127.out) (Kd.R_base ho0) hb); have n3_ := Aside0.mk (Kd.R_elder' (by exact Ho.RS <| HO131.out) (Kd.R_base ho0) hb); have n4_ := Aside0.mk (Kd.R_lower (Kd.R_new' (Kd.R_new' (Kd.R_new' (Kd.R_new' ho0 (Kd.R_lt (by exact Ho.RS <| HO_3.out))) (Kd.R_lt (by exact Ho.RS <| HO_6.out))) (Kd.R_lt (by exact Ho.RS <| HO127.out))) (Kd.R_lt (by exact Ho.RS <| HO131.out))) (below_size (by exact eS HB.out))); have n5_ := Aside0.mk (below_step (by exact eS HB.out) hb); clear HO_3; clear HO_6; clear HO127; clear HO131; clear HB; have HO_3 := n0_; have HO_6 := n1_; have HO127 := n2_; have HO131 := n3_; have HO135 := n4_; have HB := n5_; clear n0_ n1_ n2_ n3_ n4_ n5_; (try clear hb); (try clear hb2); (try clear hk); (try clear hi); (try clear ho0))); go_upto_region 19 with (first | (go_at_call 50; (with_reducible refine (Fv.calls k2 _ _ l0 t123 t124 t125 _ ?side1 ?side2 A29.out).mono ?_); (case side1 => repeat (first | exact (Kd.C_below HR0.out HB.out) | (with_reducible refine Kd.C_alloc ?_ _) | (with_reducible refine Kd.C_drewN ?_ _) | (with_reducible refine Kd.C_drew ?_))); (case side2 => exact HC0.out); rintro e w34 ⟨v126, rfl, ho0, hb⟩; have n0_ := Aside0.mk (Kd.R_elder' (by exact Ho.RS <| HO_3.out) (Kd.R_base ho0) hb); have n1_ := Aside0.mk (Kd.R_elder' (by exact Ho.RS <| HO_6.out) (Kd.R_base ho0) hb); have n2_ := Aside0.mk (Kd.R_lower (Kd.R_new' (Kd.R_new' ho0 (Kd.R_lt (by exact Ho.RS <| HO_3.out))) (Kd.R_lt (by exact Ho.RS <| HO_6.out))) (below_size (by exact eS HB.out))); have n3_ := Aside0.mk (below_step (by exact eS HB.out) hb); clear HO_3; clear HO_6; clear HB; have HO_3 := n0_; have HO_6 := n1_; have HO127 := n2_; have HB := n3_; clear n0_ n1_ n2_ n3_; (try clear hb); (try clear hb2); (try clear hk); (try clear hi); (try clear ho0); obtain ⟨Ao35, co35, eo35⟩ := Kd.R_slice HO127.out; subst eo35) | (go_at_call 44; (with_reducible refine (Fae.calls k2 _ _ t123 t124 t125 t128 t129 _ ?side1 ?side2 A30.out).mono ?_); (case side1 => repeat (first | exact (Kd.R_reads' HO127.out).2.2 | (with_reducible refine Kd.C_alloc ?_ _) | (with_reducible refine Kd.C_drewN ?_ _) | (with_reducible refine Kd.C_drew ?_))); (case side2 => exact (Kd.R_reads' HO127.out).2.1); rintro e w36 ⟨v130, rfl, ho0, hb⟩; have n0_ := Aside0.mk (Kd.R_elder' (by exact Ho.RS <| HO_3.out) (Kd.R_base ho0) hb); have n1_ := Aside0.mk (Kd.R_elder' (by exact Ho.RS <| HO_6.out) (Kd.R_base ho0) hb); have n2_ := Aside0.mk (Kd.R_elder' (by exact Ho.RS <| HO127.out) (Kd.R_base ho0) hb); have n3_ := Aside0.mk (Kd.R_lower (Kd.R_new' (Kd.R_new' (Kd.R_new' ho0 (Kd.R_lt (by exact Ho.RS <| HO_3.out))) (Kd.R_lt (by exact Ho.RS <| HO_6.out))) (Kd.R_lt (by exact Ho.RS <| HO127.out))) (below_size (by exact eS HB.out))); have n4_ := Aside0.mk (below_step (by exact eS HB.out) hb); clear HO_3; clear HO_6; clear HO127; clear HB; have HO_3 := n0_; have HO_6 := n1_; have HO127 := n2_; have HO131 := n3_; have HB := n4_; clear n0_ n1_ n2_ n3_ n4_; (try clear hb); (try clear hb2); (try clear hk); (try clear hi); (try clear ho0)) | (go_at_call 43; (with_reducible refine (Fq.calls k2 _ _ t123 t124 t125 t132 t133 _ ?side1 ?side2 A31.out).mono ?_); (case side1 => repeat (first | exact (Kd.R_reads' HO127.out).2.2 | (with_reducible refine Kd.C_alloc ?_ _) | (with_reducible refine Kd.C_drewN ?_ _) | (with_reducible refine Kd.C_drew ?_))); (case side2 => exact (Kd.R_reads' HO127.out).2.1); rintro e w37 ⟨v134, rfl, ho0, hb⟩; have n0_ := Aside0.mk (Kd.R_elder' (by exact Ho.RS <| HO_3.out) (Kd.R_base ho0) hb); have n1_ := Aside0.mk (Kd.R_elder' (by exact Ho.RS <| HO_6.out) (Kd.R_base ho0) hb); have n2_ := Aside0.mk (Kd.R_elder' (by exact Ho.RS <| HO127.out) (Kd.R_base ho0) hb); have n3_ := Aside0.mk (Kd.R_elder' (by exact Ho.RS <| HO131.out) (Kd.R_base ho0) hb); have n4_ := Aside0.mk (Kd.R_lower (Kd.R_new' (Kd.R_new' (Kd.R_new' (Kd.R_new' ho0 (Kd.R_lt (by exact Ho.RS <| HO_3.out))) (Kd.R_lt (by exact Ho.RS <| HO_6.out))) (Kd.R_lt (by exact Ho.RS <| HO127.out))) (Kd.R_lt (by exact Ho.RS <| HO131.out))) (below_size (by exact eS HB.out))); have n5_ := Aside0.mk (below_step (by exact eS HB.out) hb); clear HO_3; clear HO_6; clear HO127; clear HO131; clear HB; have HO_3 := n0_; have HO_6 := n1_; have HO127 := n2_; have HO131 := n3_; have HO135 := n4_; have HB := n5_; clear n0_ n1_ n2_ n3_ n4_ n5_; (try clear hb); (try clear hb2); (try clear hk); (try clear hi); (try clear ho0))))
     (try simp only [Act.put, List.setIfInBounds_toArray, List.set_cons_zero, List.set_cons_succ])
     go_cut [140] (fun v140 wc => ∃ (kq : Nat) (x140_31 : Bool), v140 = .bool x140_31 ∧ Aside0 (Fd.j2 kq l0 t123 t124 t128 x140_31 = some r) ∧ Aside0 (kq ≤ k2) ∧ Aside0 (Kd.R k41 41 wc w.heap.size (fun k_ => some k_ ≠ (v130 : Value).ownBlock) (.slice Ao35 t123.length co35) t123) ∧ Aside0 (Kd.R k41 41 wc w.heap.size (fun k_ => some k_ ≠ ((.slice Ao35 t123.length co35) : Value).ownBlock) v130 t128) ∧ Aside0 (Below w.heap.size w wc))
     case first =>
      have H := HC32.out
      clear HC32
      by_cases c38 : (t129 != t133) = true
      ·rw [if_pos c38] at H
       have c38b0 : (t129 != t133) = true := c38
       (try (have c38b1 : decide (t129 = t133) = false := by simpa using c38))
       (try (have c38b2 : (t129 == t133) = false := by simpa using c38))
       (try (have c38b3 : ¬ (t129 = t133) := by simpa using c38))
       clear c38
       (first | rw [c38b0] | (simp only [i64_w, i32_w]; rw [c38b0]) | skip)
       as_aux_lemma =>
        have H' := Aside0.mk H
        clear H
        go_wp2
        repeat (go_quiet (fail); try go_wp2)
        go_meet
        case rel => exact ⟨_, (true), (by first | rfl | (simp; done) | (simp [*]; done)), H', ⟨by have := HJ6.out; have := HK2.out; first | omega | exact Nat.le_refl _⟩, ⟨by exact Ho.RS <| Kd.R_mono HO127.out (fun _ hk => hk.1.2)⟩, ⟨by exact Ho.RS <| Kd.R_mono HO131.out (fun _ hk => hk.1.2)⟩, ⟨by exact eS HB.out⟩⟩
      rw [if_neg c38] at H
      have c38b0 : (t129 != t133) = false := by simpa using c38
      (try (have c38b1 : decide (t129 = t133) = true := by simpa using c38))
      (try (have c38b2 : (t129 == t133) = true := by simpa using c38))
      clear c38
      (first | rw [c38b0] | (simp only [i64_w, i32_w]; rw [c38b0]) | skip)
      replace H := Option.bind_eq_some_iff.mp H
      obtain ⟨t136, A390, H⟩ := H
      (try dsimp only at H)
      have A39 := Aside0.mk A390
      clear A390
      as_aux_lemma =>
       have H' := Aside0.mk H
       clear H
       obtain ⟨Ao40, co40, eo40⟩ := Kd.R_slice HO131.out
       subst eo40
       obtain ⟨Ao41, co41, eo41⟩ := Kd.R_slice HO135.out
       subst eo41
       go_wp2_with (first | (go_at_call 49; (with_reducible refine (Fr.calls k2 _ _ t128 _ _ t132 t136 _ ?side1 ?side2 ?side3 ?side4 A39.out).mono ?_); (case side1 => repeat (first | exact (Kd.R_reads' HO131.out).2.2 | (with_reducible refine Kd.C_alloc ?_ _) | (with_reducible refine Kd.C_drewN ?_ _) | (with_reducible refine Kd.C_drew ?_))); (case side2 => exact (Kd.R_reads' HO131.out).2.1); (case side3 => repeat (first | exact (Kd.R_reads' HO135.out).2.2 | (with_reducible refine Kd.C_alloc ?_ _) | (with_reducible refine Kd.C_drewN ?_ _) | (with_reducible refine Kd.C_drew ?_))); (case side4 => exact (Kd.R_reads' HO135.out).2.1); rintro e w' ⟨rfl, ⟨nd, rfl⟩⟩; (try first | exact ⟨rfl, _, World.drewN_drewN _ _ _⟩ | exact ⟨rfl, _, Eq.trans (World.drewN_drewN _ _ _) (congrArg (World.drewN _) (Nat.add_assoc _ _ _))⟩)))
       repeat (go_quiet (first | (go_at_call 49; (with_reducible refine (Fr.calls k2 _ _ t128 _ _ t132 t136 _ ?side1 ?side2 ?side3 ?side4 A39.out).mono ?_); (case side1 => repeat (first | exact (Kd.R_reads' HO131.out).2.2 | (with_reducible refine Kd.C_alloc ?_ _) | (with_reducible refine Kd.C_drewN ?_ _) | (with_reducible refine Kd.C_drew ?_))); (case side2 => exact (Kd.R_reads' HO131.out).2.1); (case side3 => repeat (first | exact (Kd.R_reads' HO135.out).2.2 | (with_reducible refine Kd.C_alloc ?_ _) | (with_reducible refine Kd.C_drewN ?_ _) | (with_reducible refine Kd.C_drew ?_))); (case side4 => exact (Kd.R_reads' HO135.out).2.1); rintro e w' ⟨rfl, ⟨nd, rfl⟩⟩; (try first | exact ⟨rfl, _, World.drewN_drewN _ _ _⟩ | exact ⟨rfl, _, Eq.trans (World.drewN_drewN _ _ _) (congrArg (World.drewN _) (Nat.add_assoc _ _ _))⟩))); try go_wp2_with (first | (go_at_call 49; (with_reducible refine (Fr.calls k2 _ _ t128 _ _ t132 t136 _ ?side1 ?side2 ?side3 ?side4 A39.out).mono ?_); (case side1 => repeat (first | exact (Kd.R_reads' HO131.out).2.2 | (with_reducible refine Kd.C_alloc ?_ _) | (with_reducible refine Kd.C_drewN ?_ _) | (with_reducible refine Kd.C_drew ?_))); (case side2 => exact (Kd.R_reads' HO131.out).2.1); (case side3 => repeat (first | exact (Kd.R_reads' HO135.out).2.2 | (with_reducible refine Kd.C_alloc ?_ _) | (with_reducible refine Kd.C_drewN ?_ _) | (with_reducible refine Kd.C_drew ?_))); (case side4 => exact (Kd.R_reads' HO135.out).2.1); rintro e w' ⟨rfl, ⟨nd, rfl⟩⟩; (try first | exact ⟨rfl, _, World.drewN_drewN _ _ _⟩ | exact ⟨rfl, _, Eq.trans (World.drewN_drewN _ _ _) (congrArg (World.drewN _) (Nat.add_assoc _ _ _))⟩))))
       go_meet
       case rel => exact ⟨_, (!t136), (by first | rfl | (simp; done) | (simp [*]; done)), H', ⟨by have := HJ6.out; have := HK2.out; first | omega | exact Nat.le_refl _⟩, ⟨by exact Ho.RS <| Kd.R_mono HO127.out (fun _ hk => hk.1.2)⟩, ⟨by exact Ho.RS <| Kd.R_mono HO131.out (fun _ hk => hk.1.2)⟩, ⟨by exact eS HB.out⟩⟩
     case rest =>
      clear HC32
      try clear c1
      try clear p1
      try clear q1
      try clear hx1
      try clear c2
      try clear p2
      try clear c3
      try clear p6
      try clear p11
      try clear q11
      try clear hx11
      try clear c12
      try clear c12b0
      try clear c12b1
      try clear c12b2
      try clear p12
      try clear q12
      try clear hx12
      try clear c13
      try clear c16
      try clear c17
      try clear c17b0
      try clear c18
      try clear c18b0
      try clear c19
      try clear c19b0
      try clear c19b1
      try clear c22
      try clear c23
      try clear c24
      try clear c24b0
      try clear c24b1
      try clear c38
      try clear c38b0
      try clear c38b1
      try clear c38b2
      try clear hx116_0
      try clear hx116_1
      try clear hx116_2
      try clear hx116_3
      try clear hx116_4
      try clear hx116_5
      try clear hx116_6
      try clear hx116_7
      try clear hx117_0
      try clear hx117_1
      try clear hx117_2
      try clear hx117_3
      try clear hx117_4
      try clear hx117_5
      try clear hx117_6
      try clear hx117_7
      try clear hx120_0
      try clear hx120_1
      try clear hx120_2
      try clear hx120_3
      try clear hx120_4
      try clear hx120_5
      try clear hx120_6
      try clear hx120_7
      try clear p116
      try clear p117
      try clear p120
      try clear p2
      try clear q116
      try clear q117
      try clear q120
      obtain ⟨kq, x140_31, rfl, HA, HJ31, HO_15, HO_18, HB⟩ := hcut
      cases kq with
      | zero => exact absurd HA.out (by simp [Fd.j2])
      | succ kj31 =>
       have H := HA.out
       clear HA
       simp only [Fd.j2] at H
       by_cases c42 : x140_31 = true
       ·subst c42
        have H1 : (some false) = some r := by rw [if_pos rfl] at H; exact H
        clear H
        have H := H1
        clear H1
        as_aux_lemma =>
         exact absurd ((Option.some.inj H).trans HT.out) (by decide)
       replace c42 := Bool.eq_false_iff.mpr c42
       subst c42
       have H1 : (Fd.l1 kj31 l0 t123 t124 t128 0) = some r := by rw [if_neg (show ¬ (false = true) by decide)] at H; exact H
       clear H
       have H := H1
       clear H1
       have H' := Aside0.mk H
       clear H
       go_wp2
       repeat (go_quiet (fail); try go_wp2)
       go_loopg [22] kj31 (fun kq v22 w' => ∃ (x22_4 : Int), v22 = .int .i64 x22_4 ∧ Aside0 (Fd.l1 kq l0 t123 t124 t128 x22_4 = some r) ∧ Aside0 (kq ≤ kj31) ∧ Aside0 (Kd.R k41 41 w' w.heap.size (fun k_ => some k_ ≠ (v130 : Value).ownBlock) (.slice Ao35 t123.length co35) t123) ∧ Aside0 (Kd.R k41 41 w' w.heap.size (fun k_ => some k_ ≠ ((.slice Ao35 t123.length co35) : Value).ownBlock) v130 t128) ∧ Aside0 (Below w.heap.size w w'))
       case atStart => exact ⟨(0), (by first | rfl | (simp; done) | (simp [*]; done)), H', ⟨Nat.le_refl _⟩, ⟨by exact Ho.RS <| HO_15.out⟩, ⟨by exact Ho.RS <| HO_18.out⟩, ⟨by exact eS HB.out⟩⟩
       case round =>
        clear H'
        try clear c1
        try clear p1
        try clear q1
        try clear hx1
        try clear c2
        try clear p2
        try clear c3
        try clear c4
        try clear p6
        try clear p11
        try clear q11
        try clear hx11
        try clear c12
        try clear c12b0
        try clear c12b1
        try clear c12b2
        try clear p12
        try clear q12
        try clear hx12
        try clear c13
        try clear c16
        try clear c17
        try clear c17b0
        try clear c18
        try clear c18b0
        try clear c19
        try clear c19b0
        try clear c19b1
        try clear c22
        try clear c23
        try clear c24
        try clear c24b0
        try clear c24b1
        try clear c38
        try clear c38b0
        try clear c38b1
        try clear c38b2
        try clear c42
        try clear hx116_0
        try clear hx116_1
        try clear hx116_2
        try clear hx116_3
        try clear hx116_4
        try clear hx116_5
        try clear hx116_6
        try clear hx116_7
        try clear hx117_0
        try clear hx117_1
        try clear hx117_2
        try clear hx117_3
        try clear hx117_4
        try clear hx117_5
        try clear hx117_6
        try clear hx117_7
        try clear hx120_0
        try clear hx120_1
        try clear hx120_2
        try clear hx120_3
        try clear hx120_4
        try clear hx120_5
        try clear hx120_6
        try clear hx120_7
        try clear p1
        try clear p11
        try clear p116
        try clear p117
        try clear p12
        try clear p120
        try clear p2
        try clear p6
        try clear q1
        try clear q11
        try clear q116
        try clear q117
        try clear q12
        try clear q120
        obtain ⟨x22_4, rfl, HA, HK4, HO_15, HO_18, HB⟩ := hrel
        cases gk with
        | zero => exact absurd HA.out (by simp [Fd.l1])
        | succ k4 =>
         have H := HA.out
         clear HA
         simp only [Fd.l1] at H
         by_cases c43 : x22_4 < (t128.length : Int)
         ·rw [if_pos c43] at H
          have c43b0 : decide (x22_4 < (t128.length : Int)) = true := decide_eq_true c43
          clear c43
          by_cases c44 : 0 ≤ x22_4
          rotate_left
          ·rw [if_neg c44] at H
           exact absurd H (by simp)
          rw [if_pos c44] at H
          have c44b0 : decide (0 ≤ x22_4) = true := decide_eq_true c44
          clear c44
          by_cases c45 : ((rd_T41 t128 x22_4).f0) = t124
          rotate_left
          ·rw [if_neg c45] at H
           have c45b0 : (((rd_T41 t128 x22_4).f0) == t124) = false := beq_eq_false_iff_ne.mpr c45
           have c45b1 : (((rd_T41 t128 x22_4).f0) != t124) = true := bne_iff_ne.mpr c45
           as_aux_lemma =>
            have H' := Aside0.mk H
            clear H
            obtain ⟨Ao54, co54, eo54⟩ := Kd.R_slice HO_18.out
            subst eo54
            have p137 : 0 ≤ (x22_4 : Int) := of_decide_eq_true (by first | (with_reducible assumption) | assumption)
            have q137 : x22_4 < (t128.length : Int) := of_decide_eq_true (by first | (with_reducible assumption) | assumption)
            obtain ⟨ad137, e137, hx137_0, hx137_1, hx137_2, hx137_3, hx137_4, hx137_5, hx137_6, hx137_7⟩ := at_T41 (Kd.R_reads' HO_18.out).2.2 x22_4 p137 q137
            cases e137
            replace p137 := eq_true p137
            replace q137 := eq_true q137
            go_wp2
            repeat (go_quiet (fail); try go_wp2)
            go_roundg k4
            case measure => have := HJ6.out; have := HK2.out; have := HJ31.out; have := HK4.out; omega
            case rel => exact ⟨(wrap64 (x22_4 + 1)), (by first | rfl | (simp; done) | (simp [*]; done)), H', ⟨by have := HJ6.out; have := HK2.out; have := HJ31.out; have := HK4.out; omega⟩, ⟨by exact Ho.RS <| HO_15.out⟩, ⟨by exact Ho.RS <| HO_18.out⟩, ⟨by exact eS HB.out⟩⟩
          rw [if_pos c45] at H
          have c45b0 : (((rd_T41 t128 x22_4).f0) == t124) = true := beq_iff_eq.mpr c45
          have c45b1 : (((rd_T41 t128 x22_4).f0) != t124) = false := bne_eq_false_iff_eq.mpr c45
          clear c45
          by_cases c46 : x22_4 < (t123.length : Int)
          rotate_left
          ·rw [if_neg c46] at H
           exact absurd H (by simp)
          rw [if_pos c46] at H
          have c46b0 : decide (x22_4 < (t123.length : Int)) = true := decide_eq_true c46
          clear c46
          replace H := Option.bind_eq_some_iff.mp H
          obtain ⟨⟨t139, t140⟩, A470, H⟩ := H
          (try dsimp only at H)
          have A47 := Aside0.mk A470
          clear A470
          by_cases c48 : t140 = true
          rotate_left
          ·replace c48 := Bool.eq_false_iff.mpr c48
           subst c48
           have H1 : (some false) = some r := by rw [if_neg (show ¬ (false = true) by decide)] at H; exact H
           clear H
           have H := H1
           clear H1
           as_aux_lemma =>
            exact absurd ((Option.some.inj H).trans HT.out) (by decide)
          subst c48
          have H1 : ((Faf.f k4 t139 t124).bind fun t143 => (if t143 = true then (Fd.l1 k4 l0 t123 t124 t128 (wrap64 (x22_4 + 1))) else (some false))) = some r := by rw [if_pos rfl] at H; exact H
          clear H
          have H := H1
          clear H1
          replace H := Option.bind_eq_some_iff.mp H
          obtain ⟨t143, A490, H⟩ := H
          (try dsimp only at H)
          have A49 := Aside0.mk A490
          clear A490
          by_cases c50 : t143 = true
          rotate_left
          ·replace c50 := Bool.eq_false_iff.mpr c50
           subst c50
           have H1 : (some false) = some r := by rw [if_neg (show ¬ (false = true) by decide)] at H; exact H
           clear H
           have H := H1
           clear H1
           as_aux_lemma =>
            exact absurd ((Option.some.inj H).trans HT.out) (by decide)
          subst c50
          have H1 : (Fd.l1 k4 l0 t123 t124 t128 (wrap64 (x22_4 + 1))) = some r := by rw [if_pos rfl] at H; exact H
          clear H
          have H := H1
          clear H1
          as_aux_lemma =>
           have H' := Aside0.mk H
           clear H
           obtain ⟨Ao51, co51, eo51⟩ := Kd.R_slice HO_18.out
           subst eo51
           have p137 : 0 ≤ (x22_4 : Int) := of_decide_eq_true (by first | (with_reducible assumption) | assumption)
           have q137 : x22_4 < (t128.length : Int) := of_decide_eq_true (by first | (with_reducible assumption) | assumption)
           obtain ⟨ad137, e137, hx137_0, hx137_1, hx137_2, hx137_3, hx137_4, hx137_5, hx137_6, hx137_7⟩ := at_T41 (Kd.R_reads' HO_18.out).2.2 x22_4 p137 q137
           cases e137
           replace p137 := eq_true p137
           replace q137 := eq_true q137
           have p138 : 0 ≤ (x22_4 : Int) := of_decide_eq_true (by first | (with_reducible assumption) | assumption)
           have q138 : x22_4 < (t123.length : Int) := of_decide_eq_true (by first | (with_reducible assumption) | assumption)
           obtain ⟨ad138, e138, hx138_0, hx138_1, hx138_2, hx138_3, hx138_4, hx138_5, hx138_6, hx138_7⟩ := at_T41 (Kd.R_reads' HO_15.out).2.2 x22_4 p138 q138
           cases e138
           replace p138 := eq_true p138
           replace q138 := eq_true q138
           go_wp2_with (first | (go_at_call 46; (with_reducible refine (Fu.calls k4 _ _ t128 (wrap64 (((rd_T41 t123 x22_4).f4) + 1)) t139 true _ ?side1 ?side2 A47.out).mono ?_); (case side1 => repeat (first | exact (Kd.R_reads' HO_18.out).2.2 | (with_reducible refine Kd.C_alloc ?_ _) | (with_reducible refine Kd.C_drewN ?_ _) | (with_reducible refine Kd.C_drew ?_))); (case side2 => exact (Kd.R_reads' HO_18.out).2.1); rintro e w52 ⟨v141, rfl, ho0, hb⟩; have n0_ := Aside0.mk (Kd.R_below (by exact Ho.RS <| HO_15.out) hb); have n1_ := Aside0.mk (Kd.R_below (by exact Ho.RS <| HO_18.out) hb); have n2_ := Aside0.mk (Kd.R_lower ho0 (below_size (by exact eS HB.out))); have n3_ := Aside0.mk (below_step (by exact eS HB.out) hb); clear HO_15; clear HO_18; clear HB; have HO_15 := n0_; have HO_18 := n1_; have HO142 := n2_; have HB := n3_; clear n0_ n1_ n2_ n3_; (try clear hb); (try clear hb2); (try clear hk); (try clear hi); (try clear ho0); obtain ⟨Ao53, co53, eo53⟩ := Kd.R_slice HO142.out; subst eo53) | (go_at_call 51; (with_reducible refine (Faf.calls k4 _ _ t139 t124 true _ ?side1 ?side2 A49.out).mono ?_); (case side1 => repeat (first | exact (Kd.R_reads' HO142.out).2.2 | (with_reducible refine Kd.C_alloc ?_ _) | (with_reducible refine Kd.C_drewN ?_ _) | (with_reducible refine Kd.C_drew ?_))); (case side2 => exact (Kd.R_reads' HO142.out).2.1); rintro e w' ⟨rfl, ⟨nd, rfl⟩⟩; (try first | exact ⟨rfl, _, World.drewN_drewN _ _ _⟩ | exact ⟨rfl, _, Eq.trans (World.drewN_drewN _ _ _) (congrArg (World.drewN _) (Nat.add_assoc _ _ _))⟩)))
           repeat (go_quiet (first | (go_at_call 46; (with_reducible refine (Fu.calls k4 _ _ t128 (wrap64 (((rd_T41 t123 x22_4).f4) + 1)) t139 true _ ?side1 ?side2 A47.out).mono ?_); (case side1 => repeat (first | exact (Kd.R_reads' HO_18.out).2.2 | (with_reducible refine Kd.C_alloc ?_ _) | (with_reducible refine Kd.C_drewN ?_ _) | (with_reducible refine Kd.C_drew ?_))); (case side2 => exact (Kd.R_reads' HO_18.out).2.1); rintro e w52 ⟨v141, rfl, ho0, hb⟩; have n0_ := Aside0.mk (Kd.R_below (by exact Ho.RS <| HO_15.out) hb); have n1_ := Aside0.mk (Kd.R_below (by exact Ho.RS <| HO_18.out) hb); have n2_ := Aside0.mk (Kd.R_lower ho0 (below_size (by exact eS HB.out))); have n3_ := Aside0.mk (below_step (by exact eS HB.out) hb); clear HO_15; clear HO_18; clear HB; have HO_15 := n0_; have HO_18 := n1_; have HO142 := n2_; have HB := n3_; clear n0_ n1_ n2_ n3_; (try clear hb); (try clear hb2); (try clear hk); (try clear hi); (try clear ho0); obtain ⟨Ao53, co53, eo53⟩ := Kd.R_slice HO142.out; subst eo53) | (go_at_call 51; (with_reducible refine (Faf.calls k4 _ _ t139 t124 true _ ?side1 ?side2 A49.out).mono ?_); (case side1 => repeat (first | exact (Kd.R_reads' HO142.out).2.2 | (with_reducible refine Kd.C_alloc ?_ _) | (with_reducible refine Kd.C_drewN ?_ _) | (with_reducible refine Kd.C_drew ?_))); (case side2 => exact (Kd.R_reads' HO142.out).2.1); rintro e w' ⟨rfl, ⟨nd, rfl⟩⟩; (try first | exact ⟨rfl, _, World.drewN_drewN _ _ _⟩ | exact ⟨rfl, _, Eq.trans (World.drewN_drewN _ _ _) (congrArg (World.drewN _) (Nat.add_assoc _ _ _))⟩))); try go_wp2_with (first | (go_at_call 46; (with_reducible refine (Fu.calls k4 _ _ t128 (wrap64 (((rd_T41 t123 x22_4).f4) + 1)) t139 true _ ?side1 ?side2 A47.out).mono ?_); (case side1 => repeat (first | exact (Kd.R_reads' HO_18.out).2.2 | (with_reducible refine Kd.C_alloc ?_ _) | (with_reducible refine Kd.C_drewN ?_ _) | (with_reducible refine Kd.C_drew ?_))); (case side2 => exact (Kd.R_reads' HO_18.out).2.1); rintro e w52 ⟨v141, rfl, ho0, hb⟩; have n0_ := Aside0.mk (Kd.R_below (by exact Ho.RS <| HO_15.out) hb); have n1_ := Aside0.mk (Kd.R_below (by exact Ho.RS <| HO_18.out) hb); have n2_ := Aside0.mk (Kd.R_lower ho0 (below_size (by exact eS HB.out))); have n3_ := Aside0.mk (below_step (by exact eS HB.out) hb); clear HO_15; clear HO_18; clear HB; have HO_15 := n0_; have HO_18 := n1_; have HO142 := n2_; have HB := n3_; clear n0_ n1_ n2_ n3_; (try clear hb); (try clear hb2); (try clear hk); (try clear hi); (try clear ho0); obtain ⟨Ao53, co53, eo53⟩ := Kd.R_slice HO142.out; subst eo53) | (go_at_call 51; (with_reducible refine (Faf.calls k4 _ _ t139 t124 true _ ?side1 ?side2 A49.out).mono ?_); (case side1 => repeat (first | exact (Kd.R_reads' HO142.out).2.2 | (with_reducible refine Kd.C_alloc ?_ _) | (with_reducible refine Kd.C_drewN ?_ _) | (with_reducible refine Kd.C_drew ?_))); (case side2 => exact (Kd.R_reads' HO142.out).2.1); rintro e w' ⟨rfl, ⟨nd, rfl⟩⟩; (try first | exact ⟨rfl, _, World.drewN_drewN _ _ _⟩ | exact ⟨rfl, _, Eq.trans (World.drewN_drewN _ _ _) (congrArg (World.drewN _) (Nat.add_assoc _ _ _))⟩))))
           go_roundg k4
           case measure => have := HJ6.out; have := HK2.out; have := HJ31.out; have := HK4.out; omega
           case rel => exact ⟨(wrap64 (x22_4 + 1)), (by first | rfl | (simp; done) | (simp [*]; done)), H', ⟨by have := HJ6.out; have := HK2.out; have := HJ31.out; have := HK4.out; omega⟩, ⟨by exact Ho.RS <| HO_15.out⟩, ⟨by exact Ho.RS <| HO_18.out⟩, ⟨by exact eS HB.out⟩⟩
         rw [if_neg c43] at H
         have c43b0 : decide (x22_4 < (t128.length : Int)) = false := decide_eq_false c43
         clear c43
         replace H := Option.bind_eq_some_iff.mp H
         obtain ⟨⟨t144, t145, t146⟩, A550, H⟩ := H
         (try dsimp only at H)
         have A55 := Aside0.mk A550
         clear A550
         replace H := Option.bind_eq_some_iff.mp H
         obtain ⟨⟨t149, t150, t151⟩, A560, H⟩ := H
         (try dsimp only at H)
         have A56 := Aside0.mk A560
         clear A560
         replace H := Option.bind_eq_some_iff.mp H
         obtain ⟨⟨t154, t155, t156⟩, A570, H⟩ := H
         (try dsimp only at H)
         have A57 := Aside0.mk A570
         clear A570
         have HC58 := Aside0.mk H
         clear H
         obtain ⟨Ao59, co59, eo59⟩ := Kd.R_slice HO_18.out
         subst eo59
         go_upto_region 31 with (first | (go_at_call 52; (with_reducible refine (Fy.calls k4 _ _ l0 t144 t145 t146 _ ?side1 ?side2 A55.out).mono ?_); (case side1 => repeat (first | exact (Kd.C_below HR0.out HB.out) | (with_reducible refine Kd.C_alloc ?_ _) | (with_reducible refine Kd.C_drewN ?_ _) | (with_reducible refine Kd.C_drew ?_))); (case side2 => exact HC0.out); rintro e w60 ⟨v147, rfl, ho0, hb⟩; have n0_ := Aside0.mk (Kd.R_elder' (by exact Ho.RS <| HO_15.out) (Kd.R_base ho0) hb); have n1_ := Aside0.mk (Kd.R_elder' (by exact Ho.RS <| HO_18.out) (Kd.R_base ho0) hb); have n2_ := Aside0.mk (Kd.R_lower (Kd.R_new' (Kd.R_new' ho0 (Kd.R_lt (by exact Ho.RS <| HO_15.out))) (Kd.R_lt (by exact Ho.RS <| HO_18.out))) (below_size (by exact eS HB.out))); have n3_ := Aside0.mk (below_step (by exact eS HB.out) hb); clear HO_15; clear HO_18; clear HB; have HO_15 := n0_; have HO_18 := n1_; have HO148 := n2_; have HB := n3_; clear n0_ n1_ n2_ n3_; (try clear hb); (try clear hb2); (try clear hk); (try clear hi); (try clear ho0); obtain ⟨Ao61, co61, eo61⟩ := Kd.R_slice HO148.out; subst eo61) | (go_at_call 42; (with_reducible refine (Fs.calls k4 _ _ t144 t145 t146 t149 t150 t151 _ ?side1 ?side2 A56.out).mono ?_); (case side1 => repeat (first | exact (Kd.R_reads' HO148.out).2.2 | (with_reducible refine Kd.C_alloc ?_ _) | (with_reducible refine Kd.C_drewN ?_ _) | (with_reducible refine Kd.C_drew ?_))); (case side2 => exact (Kd.R_reads' HO148.out).2.1); rintro e w62 ⟨v152, rfl, ho0, hb⟩; have n0_ := Aside0.mk (Kd.R_elder' (by exact Ho.RS <| HO_15.out) (Kd.R_base ho0) hb); have n1_ := Aside0.mk (Kd.R_elder' (by exact Ho.RS <| HO_18.out) (Kd.R_base ho0) hb); have n2_ := Aside0.mk (Kd.R_elder' (by exact Ho.RS <| HO148.out) (Kd.R_base ho0) hb); have n3_ := Aside0.mk (Kd.R_lower (Kd.R_new' (Kd.R_new' (Kd.R_new' ho0 (Kd.R_lt (by exact Ho.RS <| HO_15.out))) (Kd.R_lt (by exact Ho.RS <| HO_18.out))) (Kd.R_lt (by exact Ho.RS <| HO148.out))) (below_size (by exact eS HB.out))); have n4_ := Aside0.mk (below_step (by exact eS HB.out) hb); clear HO_15; clear HO_18; clear HO148; clear HB; have HO_15 := n0_; have HO_18 := n1_; have HO148 := n2_; have HO153 := n3_; have HB := n4_; clear n0_ n1_ n2_ n3_ n4_; (try clear hb); (try clear hb2); (try clear hk); (try clear hi); (try clear ho0)) | (go_at_call 41; (with_reducible refine (Ft.calls k4 _ _ t144 t145 t146 t154 t155 t156 _ ?side1 ?side2 A57.out).mono ?_); (case side1 => repeat (first | exact (Kd.R_reads' HO148.out).2.2 | (with_reducible refine Kd.C_alloc ?_ _) | (with_reducible refine Kd.C_drewN ?_ _) | (with_reducible refine Kd.C_drew ?_))); (case side2 => exact (Kd.R_reads' HO148.out).2.1); rintro e w63 ⟨v157, rfl, ho0, hb⟩; have n0_ := Aside0.mk (Kd.R_elder' (by exact Ho.RS <| HO_15.out) (Kd.R_base ho0) hb); have n1_ := Aside0.mk (Kd.R_elder' (by exact Ho.RS <| HO_18.out) (Kd.R_base ho0) hb); have n2_ := Aside0.mk (Kd.R_elder' (by exact Ho.RS <| HO148.out) (Kd.R_base ho0) hb); have n3_ := Aside0.mk (Kd.R_elder' (by exact Ho.RS <| HO153.out) (Kd.R_base ho0) hb); have n4_ := Aside0.mk (Kd.R_lower (Kd.R_new' (Kd.R_new' (Kd.R_new' (Kd.R_new' ho0 (Kd.R_lt (by exact Ho.RS <| HO_15.out))) (Kd.R_lt (by exact Ho.RS <| HO_18.out))) (Kd.R_lt (by exact Ho.RS <| HO148.out))) (Kd.R_lt (by exact Ho.RS <| HO153.out))) (below_size (by exact eS HB.out))); have n5_ := Aside0.mk (below_step (by exact eS HB.out) hb); clear HO_15; clear HO_18; clear HO148; clear HO153; clear HB; have HO_15 := n0_; have HO_18 := n1_; have HO148 := n2_; have HO153 := n3_; have HO158 := n4_; have HB := n5_; clear n0_ n1_ n2_ n3_ n4_ n5_; (try clear hb); (try clear hb2); (try clear hk); (try clear hi); (try clear ho0)))
         repeat (go_quiet (first | (go_at_call 52; (with_reducible refine (Fy.calls k4 _ _ l0 t144 t145 t146 _ ?side1 ?side2 A55.out).mono ?_); (case side1 => repeat (first | exact (Kd.C_below HR0.out HB.out) | (with_reducible refine Kd.C_alloc ?_ _) | (with_reducible refine Kd.C_drewN ?_ _) | (with_reducible refine Kd.C_drew ?_))); (case side2 => exact HC0.out); rintro e w60 ⟨v147, rfl, ho0, hb⟩; have n0_ := Aside0.mk (Kd.R_elder' (by exact Ho.RS <| HO_15.out) (Kd.R_base ho0) hb); have n1_ := Aside0.mk (Kd.R_elder' (by exact Ho.RS <| HO_18.out) (Kd.R_base ho0) hb); have n2_ := Aside0.mk (Kd.R_lower (Kd.R_new' (Kd.R_new' ho0 (Kd.R_lt (by exact Ho.RS <| HO_15.out))) (Kd.R_lt (by exact Ho.RS <| HO_18.out))) (below_size (by exact eS HB.out))); have n3_ := Aside0.mk (below_step (by exact eS HB.out) hb); clear HO_15; clear HO_18; clear HB; have HO_15 := n0_; have HO_18 := n1_; have HO148 := n2_; have HB := n3_; clear n0_ n1_ n2_ n3_; (try clear hb); (try clear hb2); (try clear hk); (try clear hi); (try clear ho0); obtain ⟨Ao61, co61, eo61⟩ := Kd.R_slice HO148.out; subst eo61) | (go_at_call 42; (with_reducible refine (Fs.calls k4 _ _ t144 t145 t146 t149 t150 t151 _ ?side1 ?side2 A56.out).mono ?_); (case side1 => repeat (first | exact (Kd.R_reads' HO148.out).2.2 | (with_reducible refine Kd.C_alloc ?_ _) | (with_reducible refine Kd.C_drewN ?_ _) | (with_reducible refine Kd.C_drew ?_))); (case side2 => exact (Kd.R_reads' HO148.out).2.1); rintro e w62 ⟨v152, rfl, ho0, hb⟩; have n0_ := Aside0.mk (Kd.R_elder' (by exact Ho.RS <| HO_15.out) (Kd.R_base ho0) hb); have n1_ := Aside0.mk (Kd.R_elder' (by exact Ho.RS <| HO_18.out) (Kd.R_base ho0) hb); have n2_ := Aside0.mk (Kd.R_elder' (by exact Ho.RS <| HO148.out) (Kd.R_base ho0) hb); have n3_ := Aside0.mk (Kd.R_lower (Kd.R_new' (Kd.R_new' (Kd.R_new' ho0 (Kd.R_lt (by exact Ho.RS <| HO_15.out))) (Kd.R_lt (by exact Ho.RS <| HO_18.out))) (Kd.R_lt (by exact Ho.RS <| HO148.out))) (below_size (by exact eS HB.out))); have n4_ := Aside0.mk (below_step (by exact eS HB.out) hb); clear HO_15; clear HO_18; clear HO148; clear HB; have HO_15 := n0_; have HO_18 := n1_; have HO148 := n2_; have HO153 := n3_; have HB := n4_; clear n0_ n1_ n2_ n3_ n4_; (try clear hb); (try clear hb2); (try clear hk); (try clear hi); (try clear ho0)) | (go_at_call 41; (with_reducible refine (Ft.calls k4 _ _ t144 t145 t146 t154 t155 t156 _ ?side1 ?side2 A57.out).mono ?_); (case side1 => repeat (first | exact (Kd.R_reads' HO148.out).2.2 | (with_reducible refine Kd.C_alloc ?_ _) | (with_reducible refine Kd.C_drewN ?_ _) | (with_reducible refine Kd.C_drew ?_))); (case side2 => exact (Kd.R_reads' HO148.out).2.1); rintro e w63 ⟨v157, rfl, ho0, hb⟩; have n0_ := Aside0.mk (Kd.R_elder' (by exact Ho.RS <| HO_15.out) (Kd.R_base ho0) hb); have n1_ := Aside0.mk (Kd.R_elder' (by exact Ho.RS <| HO_18.out) (Kd.R_base ho0) hb); have n2_ := Aside0.mk (Kd.R_elder' (by exact Ho.RS <| HO148.out) (Kd.R_base ho0) hb); have n3_ := Aside0.mk (Kd.R_elder' (by exact Ho.RS <| HO153.out) (Kd.R_base ho0) hb); have n4_ := Aside0.mk (Kd.R_lower (Kd.R_new' (Kd.R_new' (Kd.R_new' (Kd.R_new' ho0 (Kd.R_lt (by exact Ho.RS <| HO_15.out))) (Kd.R_lt (by exact Ho.RS <| HO_18.out))) (Kd.R_lt (by exact Ho.RS <| HO148.out))) (Kd.R_lt (by exact Ho.RS <| HO153.out))) (below_size (by exact eS HB.out))); have n5_ := Aside0.mk (below_step (by exact eS HB.out) hb); clear HO_15; clear HO_18; clear HO148; clear HO153; clear HB; have HO_15 := n0_; have HO_18 := n1_; have HO148 := n2_; have HO153 := n3_; have HO158 := n4_; have HB := n5_; clear n0_ n1_ n2_ n3_ n4_ n5_; (try clear hb); (try clear hb2); (try clear hk); (try clear hi); (try clear ho0))); go_upto_region 31 with (first | (go_at_call 52; (with_reducible refine (Fy.calls k4 _ _ l0 t144 t145 t146 _ ?side1 ?side2 A55.out).mono ?_); (case side1 => repeat (first | exact (Kd.C_below HR0.out HB.out) | (with_reducible refine Kd.C_alloc ?_ _) | (with_reducible refine Kd.C_drewN ?_ _) | (with_reducible refine Kd.C_drew ?_))); (case side2 => exact HC0.out); rintro e w60 ⟨v147, rfl, ho0, hb⟩; have n0_ := Aside0.mk (Kd.R_elder' (by exact Ho.RS <| HO_15.out) (Kd.R_base ho0) hb); have n1_ := Aside0.mk (Kd.R_elder' (by exact Ho.RS <| HO_18.out) (Kd.R_base ho0) hb); have n2_ := Aside0.mk (Kd.R_lower (Kd.R_new' (Kd.R_new' ho0 (Kd.R_lt (by exact Ho.RS <| HO_15.out))) (Kd.R_lt (by exact Ho.RS <| HO_18.out))) (below_size (by exact eS HB.out))); have n3_ := Aside0.mk (below_step (by exact eS HB.out) hb); clear HO_15; clear HO_18; clear HB; have HO_15 := n0_; have HO_18 := n1_; have HO148 := n2_; have HB := n3_; clear n0_ n1_ n2_ n3_; (try clear hb); (try clear hb2); (try clear hk); (try clear hi); (try clear ho0); obtain ⟨Ao61, co61, eo61⟩ := Kd.R_slice HO148.out; subst eo61) | (go_at_call 42; (with_reducible refine (Fs.calls k4 _ _ t144 t145 t146 t149 t150 t151 _ ?side1 ?side2 A56.out).mono ?_); (case side1 => repeat (first | exact (Kd.R_reads' HO148.out).2.2 | (with_reducible refine Kd.C_alloc ?_ _) | (with_reducible refine Kd.C_drewN ?_ _) | (with_reducible refine Kd.C_drew ?_))); (case side2 => exact (Kd.R_reads' HO148.out).2.1); rintro e w62 ⟨v152, rfl, ho0, hb⟩; have n0_ := Aside0.mk (Kd.R_elder' (by exact Ho.RS <| HO_15.out) (Kd.R_base ho0) hb); have n1_ := Aside0.mk (Kd.R_elder' (by exact Ho.RS <| HO_18.out) (Kd.R_base ho0) hb); have n2_ := Aside0.mk (Kd.R_elder' (by exact Ho.RS <| HO148.out) (Kd.R_base ho0) hb); have n3_ := Aside0.mk (Kd.R_lower (Kd.R_new' (Kd.R_new' (Kd.R_new' ho0 (Kd.R_lt (by exact Ho.RS <| HO_15.out))) (Kd.R_lt (by exact Ho.RS <| HO_18.out))) (Kd.R_lt (by exact Ho.RS <| HO148.out))) (below_size (by exact eS HB.out))); have n4_ := Aside0.mk (below_step (by exact eS HB.out) hb); clear HO_15; clear HO_18; clear HO148; clear HB; have HO_15 := n0_; have HO_18 := n1_; have HO148 := n2_; have HO153 := n3_; have HB := n4_; clear n0_ n1_ n2_ n3_ n4_; (try clear hb); (try clear hb2); (try clear hk); (try clear hi); (try clear ho0)) | (go_at_call 41; (with_reducible refine (Ft.calls k4 _ _ t144 t145 t146 t154 t155 t156 _ ?side1 ?side2 A57.out).mono ?_); (case side1 => repeat (first | exact (Kd.R_reads' HO148.out).2.2 | (with_reducible refine Kd.C_alloc ?_ _) | (with_reducible refine Kd.C_drewN ?_ _) | (with_reducible refine Kd.C_drew ?_))); (case side2 => exact (Kd.R_reads' HO148.out).2.1); rintro e w63 ⟨v157, rfl, ho0, hb⟩; have n0_ := Aside0.mk (Kd.R_elder' (by exact Ho.RS <| HO_15.out) (Kd.R_base ho0) hb); have n1_ := Aside0.mk (Kd.R_elder' (by exact Ho.RS <| HO_18.out) (Kd.R_base ho0) hb); have n2_ := Aside0.mk (Kd.R_elder' (by exact Ho.RS <| HO148.out) (Kd.R_base ho0) hb); have n3_ := Aside0.mk (Kd.R_elder' (by exact Ho.RS <| HO153.out) (Kd.R_base ho0) hb); have n4_ := Aside0.mk (Kd.R_lower (Kd.R_new' (Kd.R_new' (Kd.R_new' (Kd.R_new' ho0 (Kd.R_lt (by exact Ho.RS <| HO_15.out))) (Kd.R_lt (by exact Ho.RS <| HO_18.out))) (Kd.R_lt (by exact Ho.RS <| HO148.out))) (Kd.R_lt (by exact Ho.RS <| HO153.out))) (below_size (by exact eS HB.out))); have n5_ := Aside0.mk (below_step (by exact eS HB.out) hb); clear HO_15; clear HO_18; clear HO148; clear HO153; clear HB; have HO_15 := n0_; have HO_18 := n1_; have HO148 := n2_; have HO153 := n3_; have HO158 := n4_; have HB := n5_; clear n0_ n1_ n2_ n3_ n4_ n5_; (try clear hb); (try clear hb2); (try clear hk); (try clear hi); (try clear ho0))))
         (try simp only [Act.put, List.setIfInBounds_toArray, List.set_cons_zero, List.set_cons_succ])
         go_cut [208] (fun v208 wc => ∃ (kq : Nat) (x208_57 : Bool), v208 = .bool x208_57 ∧ Aside0 (Fd.j4 kq t144 t145 t149 t150 x208_57 = some r) ∧ Aside0 (kq ≤ k4) ∧ Aside0 (Kd.R k41 41 wc w.heap.size (fun k_ => some k_ ≠ (v152 : Value).ownBlock) (.slice Ao61 t144.length co61) t144) ∧ Aside0 (Kd.R k41 41 wc w.heap.size (fun k_ => some k_ ≠ ((.slice Ao61 t144.length co61) : Value).ownBlock) v152 t149) ∧ Aside0 (Below w.heap.size w wc))
         case first =>
          have H := HC58.out
          clear HC58
          by_cases c64 : (t151 != t156) = true
          ·rw [if_pos c64] at H
           have c64b0 : (t151 != t156) = true := c64
           (try (have c64b1 : decide (t151 = t156) = false := by simpa using c64))
           (try (have c64b2 : (t151 == t156) = false := by simpa using c64))
           (try (have c64b3 : ¬ (t151 = t156) := by simpa using c64))
           clear c64
           (first | rw [c64b0] | (simp only [i64_w, i32_w]; rw [c64b0]) | skip)
           as_aux_lemma =>
            have H' := Aside0.mk H
            clear H
            go_wp2
            repeat (go_quiet (fail); try go_wp2)
            go_meet
            case rel => exact ⟨_, (true), (by first | rfl | (simp; done) | (simp [*]; done)), H', ⟨by have := HJ6.out; have := HK2.out; have := HJ31.out; have := HK4.out; first | omega | exact Nat.le_refl _⟩, ⟨by exact Ho.RS <| Kd.R_mono HO148.out (fun _ hk => hk.1.2)⟩, ⟨by exact Ho.RS <| Kd.R_mono HO153.out (fun _ hk => hk.1.2)⟩, ⟨by exact eS HB.out⟩⟩
          rw [if_neg c64] at H
          have c64b0 : (t151 != t156) = false := by simpa using c64
          (try (have c64b1 : decide (t151 = t156) = true := by simpa using c64))
          (try (have c64b2 : (t151 == t156) = true := by simpa using c64))
          clear c64
          (first | rw [c64b0] | (simp only [i64_w, i32_w]; rw [c64b0]) | skip)
          by_cases c65 : t150 = t155
          rotate_left
          ·rw [if_neg c65] at H
           have c65b0 : (t150 == t155) = false := beq_eq_false_iff_ne.mpr c65
           have c65b1 : (t150 != t155) = true := bne_iff_ne.mpr c65
           as_aux_lemma =>
            have H' := Aside0.mk H
            clear H
            go_wp2
            repeat (go_quiet (fail); try go_wp2)
            go_meet
            case rel => exact ⟨_, (true), (by first | rfl | (simp; done) | (simp [*]; done)), H', ⟨by have := HJ6.out; have := HK2.out; have := HJ31.out; have := HK4.out; first | omega | exact Nat.le_refl _⟩, ⟨by exact Ho.RS <| Kd.R_mono HO148.out (fun _ hk => hk.1.2)⟩, ⟨by exact Ho.RS <| Kd.R_mono HO153.out (fun _ hk => hk.1.2)⟩, ⟨by exact eS HB.out⟩⟩
          rw [if_pos c65] at H
          have c65b0 : (t150 == t155) = true := beq_iff_eq.mpr c65
          have c65b1 : (t150 != t155) = false := bne_eq_false_iff_eq.mpr c65
          clear c65
          replace H := Option.bind_eq_some_iff.mp H
          obtain ⟨t159, A660, H⟩ := H
          (try dsimp only at H)
          have A66 := Aside0.mk A660
          clear A660
          as_aux_lemma =>
           have H' := Aside0.mk H
           clear H
           obtain ⟨Ao67, co67, eo67⟩ := Kd.R_slice HO153.out
           subst eo67
           obtain ⟨Ao68, co68, eo68⟩ := Kd.R_slice HO158.out
           subst eo68
           go_wp2_with (first | (go_at_call 49; (with_reducible refine (Fr.calls k4 _ _ t149 _ _ t154 t159 _ ?side1 ?side2 ?side3 ?side4 A66.out).mono ?_); (case side1 => repeat (first | exact (Kd.R_reads' HO153.out).2.2 | (with_reducible refine Kd.C_alloc ?_ _) | (with_reducible refine Kd.C_drewN ?_ _) | (with_reducible refine Kd.C_drew ?_))); (case side2 => exact (Kd.R_reads' HO153.out).2.1); (case side3 => repeat (first | exact (Kd.R_reads' HO158.out).2.2 | (with_reducible refine Kd.C_alloc ?_ _) | (with_reducible refine Kd.C_drewN ?_ _) | (with_reducible refine Kd.C_drew ?_))); (case side4 => exact (Kd.R_reads' HO158.out).2.1); rintro e w' ⟨rfl, ⟨nd, rfl⟩⟩; (try first | exact ⟨rfl, _, World.drewN_drewN _ _ _⟩ | exact ⟨rfl, _, Eq.trans (World.drewN_drewN _ _ _) (congrArg (World.drewN _) (Nat.add_assoc _ _ _))⟩)))
           repeat (go_quiet (first | (go_at_call 49; (with_reducible refine (Fr.calls k4 _ _ t149 _ _ t154 t159 _ ?side1 ?side2 ?side3 ?side4 A66.out).mono ?_); (case side1 => repeat (first | exact (Kd.R_reads' HO153.out).2.2 | (with_reducible refine Kd.C_alloc ?_ _) | (with_reducible refine Kd.C_drewN ?_ _) | (with_reducible refine Kd.C_drew ?_))); (case side2 => exact (Kd.R_reads' HO153.out).2.1); (case side3 => repeat (first | exact (Kd.R_reads' HO158.out).2.2 | (with_reducible refine Kd.C_alloc ?_ _) | (with_reducible refine Kd.C_drewN ?_ _) | (with_reducible refine Kd.C_drew ?_))); (case side4 => exact (Kd.R_reads' HO158.out).2.1); rintro e w' ⟨rfl, ⟨nd, rfl⟩⟩; (try first | exact ⟨rfl, _, World.drewN_drewN _ _ _⟩ | exact ⟨rfl, _, Eq.trans (World.drewN_drewN _ _ _) (congrArg (World.drewN _) (Nat.add_assoc _ _ _))⟩))); try go_wp2_with (first | (go_at_call 49; (with_reducible refine (Fr.calls k4 _ _ t149 _ _ t154 t159 _ ?side1 ?side2 ?side3 ?side4 A66.out).mono ?_); (case side1 => repeat (first | exact (Kd.R_reads' HO153.out).2.2 | (with_reducible refine Kd.C_alloc ?_ _) | (with_reducible refine Kd.C_drewN ?_ _) | (with_reducible refine Kd.C_drew ?_))); (case side2 => exact (Kd.R_reads' HO153.out).2.1); (case side3 => repeat (first | exact (Kd.R_reads' HO158.out).2.2 | (with_reducible refine Kd.C_alloc ?_ _) | (with_reducible refine Kd.C_drewN ?_ _) | (with_reducible refine Kd.C_drew ?_))); (case side4 => exact (Kd.R_reads' HO158.out).2.1); rintro e w' ⟨rfl, ⟨nd, rfl⟩⟩; (try first | exact ⟨rfl, _, World.drewN_drewN _ _ _⟩ | exact ⟨rfl, _, Eq.trans (World.drewN_drewN _ _ _) (congrArg (World.drewN _) (Nat.add_assoc _ _ _))⟩))))
           go_meet
           case rel => exact ⟨_, (!t159), (by first | rfl | (simp; done) | (simp [*]; done)), H', ⟨by have := HJ6.out; have := HK2.out; have := HJ31.out; have := HK4.out; first | omega | exact Nat.le_refl _⟩, ⟨by exact Ho.RS <| Kd.R_mono HO148.out (fun _ hk => hk.1.2)⟩, ⟨by exact Ho.RS <| Kd.R_mono HO153.out (fun _ hk => hk.1.2)⟩, ⟨by exact eS HB.out⟩⟩
         case rest =>
          clear HC58
          try clear c1
          try clear p1
          try clear q1
          try clear hx1
          try clear c2
          try clear p2
          try clear c3
          try clear c4
          try clear c5
          try clear c6
          try clear p6
          try clear p11
          try clear q11
          try clear hx11
          try clear c12
          try clear c12b0
          try clear c12b1
          try clear c12b2
          try clear p12
          try clear q12
          try clear hx12
          try clear c13
          try clear p13
          try clear q13
          try clear hx13
          try clear c16
          try clear c17
          try clear c17b0
          try clear c18
          try clear c18b0
          try clear c19
          try clear c19b0
          try clear c19b1
          try clear c22
          try clear c23
          try clear c24
          try clear c24b0
          try clear c24b1
          try clear c38
          try clear c38b0
          try clear c38b1
          try clear c38b2
          try clear c42
          try clear c43
          try clear c43b0
          try clear c44
          try clear c44b0
          try clear c45
          try clear c45b0
          try clear c45b1
          try clear c46
          try clear c46b0
          try clear c48
          try clear c50
          try clear c64
          try clear c64b0
          try clear c64b1
          try clear c64b2
          try clear p64
          try clear c65
          try clear c65b0
          try clear c65b1
          try clear hx116_0
          try clear hx116_1
          try clear hx116_2
          try clear hx116_3
          try clear hx116_4
          try clear hx116_5
          try clear hx116_6
          try clear hx116_7
          try clear hx117_0
          try clear hx117_1
          try clear hx117_2
          try clear hx117_3
          try clear hx117_4
          try clear hx117_5
          try clear hx117_6
          try clear hx117_7
          try clear hx120_0
          try clear hx120_1
          try clear hx120_2
          try clear hx120_3
          try clear hx120_4
          try clear hx120_5
          try clear hx120_6
          try clear hx120_7
          try clear hx137_0
          try clear hx137_1
          try clear hx137_2
          try clear hx137_3
          try clear hx137_4
          try clear hx137_5
          try clear hx137_6
          try clear hx137_7
          try clear hx138_0
          try clear hx138_1
          try clear hx138_2
          try clear hx138_3
          try clear hx138_4
          try clear hx138_5
          try clear hx138_6
          try clear hx138_7
          try clear p1
          try clear p11
          try clear p116
          try clear p117
          try clear p12
          try clear p120
          try clear p137
          try clear p138
          try clear p2
          try clear p6
          try clear q1
          try clear q11
          try clear q116
          try clear q117
          try clear q12
          try clear q120
          try clear q137
          try clear q138
          obtain ⟨kq, x208_57, rfl, HA, HJ57, HO_25, HO_28, HB⟩ := hcut
          cases kq with
          | zero => exact absurd HA.out (by simp [Fd.j4])
          | succ kj57 =>
           have H := HA.out
           clear HA
           simp only [Fd.j4] at H
           by_cases c69 : x208_57 = true
           ·subst c69
            have H1 : (some false) = some r := by rw [if_pos rfl] at H; exact H
            clear H
            have H := H1
            clear H1
            as_aux_lemma =>
             exact absurd ((Option.some.inj H).trans HT.out) (by decide)
           replace c69 := Bool.eq_false_iff.mpr c69
           subst c69
           have H1 : (Fd.l2 kj57 t144 t145 t149 t150 0) = some r := by rw [if_neg (show ¬ (false = true) by decide)] at H; exact H
           clear H
           have H := H1
           clear H1
           have H' := Aside0.mk H
           clear H
           go_wp2
           repeat (go_quiet (fail); try go_wp2)
           go_loopg [34] kj57 (fun kq v34 w' => ∃ (x34_6 : Int), v34 = .int .i64 x34_6 ∧ Aside0 (Fd.l2 kq t144 t145 t149 t150 x34_6 = some r) ∧ Aside0 (kq ≤ kj57) ∧ Aside0 (Kd.R k41 41 w' w.heap.size (fun k_ => some k_ ≠ (v152 : Value).ownBlock) (.slice Ao61 t144.length co61) t144) ∧ Aside0 (Kd.R k41 41 w' w.heap.size (fun k_ => some k_ ≠ ((.slice Ao61 t144.length co61) : Value).ownBlock) v152 t149) ∧ Aside0 (Below w.heap.size w w'))
           case atStart => exact ⟨(0), (by first | rfl | (simp; done) | (simp [*]; done)), H', ⟨Nat.le_refl _⟩, ⟨by exact Ho.RS <| HO_25.out⟩, ⟨by exact Ho.RS <| HO_28.out⟩, ⟨by exact eS HB.out⟩⟩
           case round =>
            clear H'
            try clear c1
            try clear p1
            try clear q1
            try clear hx1
            try clear c2
            try clear p2
            try clear c3
            try clear c4
            try clear c5
            try clear c6
            try clear p6
            try clear p11
            try clear q11
            try clear hx11
            try clear c12
            try clear c12b0
            try clear c12b1
            try clear c12b2
            try clear p12
            try clear q12
            try clear hx12
            try clear c13
            try clear p13
            try clear q13
            try clear hx13
            try clear c16
            try clear c17
            try clear c17b0
            try clear c18
            try clear c18b0
            try clear c19
            try clear c19b0
            try clear c19b1
            try clear c22
            try clear c23
            try clear c24
            try clear c24b0
            try clear c24b1
            try clear c38
            try clear c38b0
            try clear c38b1
            try clear c38b2
            try clear c42
            try clear c43
            try clear c43b0
            try clear c44
            try clear c44b0
            try clear c45
            try clear c45b0
            try clear c45b1
            try clear c46
            try clear c46b0
            try clear c48
            try clear c50
            try clear c64
            try clear c64b0
            try clear c64b1
            try clear c64b2
            try clear p64
            try clear c65
            try clear c65b0
            try clear c65b1
            try clear c69
            try clear hx116_0
            try clear hx116_1
            try clear hx116_2
            try clear hx116_3
            try clear hx116_4
            try clear hx116_5
            try clear hx116_6
            try clear hx116_7
            try clear hx117_0
            try clear hx117_1
            try clear hx117_2
            try clear hx117_3
            try clear hx117_4
            try clear hx117_5
            try clear hx117_6
            try clear hx117_7
            try clear hx120_0
            try clear hx120_1
            try clear hx120_2
            try clear hx120_3
            try clear hx120_4
            try clear hx120_5
            try clear hx120_6
            try clear hx120_7
            try clear hx137_0
            try clear hx137_1
            try clear hx137_2
            try clear hx137_3
            try clear hx137_4
            try clear hx137_5
            try clear hx137_6
            try clear hx137_7
            try clear hx138_0
            try clear hx138_1
            try clear hx138_2
            try clear hx138_3
            try clear hx138_4
            try clear hx138_5
            try clear hx138_6
            try clear hx138_7
            try clear p1
            try clear p11
            try clear p116
            try clear p117
            try clear p12
            try clear p120
            try clear p13
            try clear p137
            try clear p138
            try clear p2
            try clear p6
            try clear p64
            try clear q1
            try clear q11
            try clear q116
            try clear q117
            try clear q12
            try clear q120
            try clear q13
            try clear q137
            try clear q138
            obtain ⟨x34_6, rfl, HA, HK6, HO_25, HO_28, HB⟩ := hrel
            cases gk with
            | zero => exact absurd HA.out (by simp [Fd.l2])
            | succ k6 =>
             have H := HA.out
             clear HA
             simp only [Fd.l2] at H
             by_cases c70 : x34_6 < (t149.length : Int)
             rotate_left
             ·rw [if_neg c70] at H
              have c70b0 : decide (x34_6 < (t149.length : Int)) = false := decide_eq_false c70
              clear c70
              as_aux_lemma =>
               obtain rfl := Option.some.inj H
               obtain ⟨Ao78, co78, eo78⟩ := Kd.R_slice HO_28.out
               subst eo78
               go_wp2
               repeat (go_quiet (fail); try go_wp2)
               go_ret
               exact ⟨by first | rfl | (simp [errW_none, errW_some] <;> rfl) | (simp [*, errW_none, errW_some] <;> rfl), by exact eS HB.out⟩
             rw [if_pos c70] at H
             have c70b0 : decide (x34_6 < (t149.length : Int)) = true := decide_eq_true c70
             clear c70
             by_cases c71 : 0 ≤ x34_6
             rotate_left
             ·rw [if_neg c71] at H
              exact absurd H (by simp)
             rw [if_pos c71] at H
             have c71b0 : decide (0 ≤ x34_6) = true := decide_eq_true c71
             clear c71
             by_cases c72 : ((rd_T41 t149 x34_6).f0) = t145
             rotate_left
             ·rw [if_neg c72] at H
              have c72b0 : (((rd_T41 t149 x34_6).f0) == t145) = false := beq_eq_false_iff_ne.mpr c72
              have c72b1 : (((rd_T41 t149 x34_6).f0) != t145) = true := bne_iff_ne.mpr c72
              as_aux_lemma =>
               have H' := Aside0.mk H
               clear H
               obtain ⟨Ao77, co77, eo77⟩ := Kd.R_slice HO_28.out
               subst eo77
               have p160 : 0 ≤ (x34_6 : Int) := of_decide_eq_true (by first | (with_reducible assumption) | assumption)
               have q160 : x34_6 < (t149.length : Int) := of_decide_eq_true (by first | (with_reducible assumption) | assumption)
               obtain ⟨ad160, e160, hx160_0, hx160_1, hx160_2, hx160_3, hx160_4, hx160_5, hx160_6, hx160_7⟩ := at_T41 (Kd.R_reads' HO_28.out).2.2 x34_6 p160 q160
               cases e160
               replace p160 := eq_true p160
               replace q160 := eq_true q160
               go_wp2
               repeat (go_quiet (fail); try go_wp2)
               go_roundg k6
               case measure => have := HJ6.out; have := HK2.out; have := HJ31.out; have := HK4.out; have := HJ57.out; have := HK6.out; omega
               case rel => exact ⟨(wrap64 (x34_6 + 1)), (by first | rfl | (simp; done) | (simp [*]; done)), H', ⟨by have := HJ6.out; have := HK2.out; have := HJ31.out; have := HK4.out; have := HJ57.out; have := HK6.out; omega⟩, ⟨by exact Ho.RS <| HO_25.out⟩, ⟨by exact Ho.RS <| HO_28.out⟩, ⟨by exact eS HB.out⟩⟩
             rw [if_pos c72] at H
             have c72b0 : (((rd_T41 t149 x34_6).f0) == t145) = true := beq_iff_eq.mpr c72
             have c72b1 : (((rd_T41 t149 x34_6).f0) != t145) = false := bne_eq_false_iff_eq.mpr c72
             clear c72
             by_cases c73 : x34_6 < (t144.length : Int)
             rotate_left
             ·rw [if_neg c73] at H
              exact absurd H (by simp)
             rw [if_pos c73] at H
             have c73b0 : decide (x34_6 < (t144.length : Int)) = true := decide_eq_true c73
             clear c73
             by_cases c74 : (wrap64 (((rd_T41 t149 x34_6).f6) + t150)) = ((rd_T41 t144 x34_6).f6)
             rotate_left
             ·rw [if_neg c74] at H
              have c74b0 : ((wrap64 (((rd_T41 t149 x34_6).f6) + t150)) == ((rd_T41 t144 x34_6).f6)) = false := beq_eq_false_iff_ne.mpr c74
              have c74b1 : ((wrap64 (((rd_T41 t149 x34_6).f6) + t150)) != ((rd_T41 t144 x34_6).f6)) = true := bne_iff_ne.mpr c74
              as_aux_lemma =>
               exact absurd ((Option.some.inj H).trans HT.out) (by decide)
             rw [if_pos c74] at H
             have c74b0 : ((wrap64 (((rd_T41 t149 x34_6).f6) + t150)) == ((rd_T41 t144 x34_6).f6)) = true := beq_iff_eq.mpr c74
             have c74b1 : ((wrap64 (((rd_T41 t149 x34_6).f6) + t150)) != ((rd_T41 t144 x34_6).f6)) = false := bne_eq_false_iff_eq.mpr c74
             clear c74
             by_cases c75 : t150 < ((rd_T41 t149 x34_6).f6)
             ·rw [if_pos c75] at H
              have c75b0 : decide (t150 < ((rd_T41 t149 x34_6).f6)) = true := decide_eq_true c75
              clear c75
              as_aux_lemma =>
               exact absurd ((Option.some.inj H).trans HT.out) (by decide)
             rw [if_neg c75] at H
             have c75b0 : decide (t150 < ((rd_T41 t149 x34_6).f6)) = false := decide_eq_false c75
             clear c75
             as_aux_lemma =>
              have H' := Aside0.mk H
              clear H
              obtain ⟨Ao76, co76, eo76⟩ := Kd.R_slice HO_28.out
              subst eo76
              have p160 : 0 ≤ (x34_6 : Int) := of_decide_eq_true (by first | (with_reducible assumption) | assumption)
              have q160 : x34_6 < (t149.length : Int) := of_decide_eq_true (by first | (with_reducible assumption) | assumption)
              obtain ⟨ad160, e160, hx160_0, hx160_1, hx160_2, hx160_3, hx160_4, hx160_5, hx160_6, hx160_7⟩ := at_T41 (Kd.R_reads' HO_28.out).2.2 x34_6 p160 q160
              cases e160
              replace p160 := eq_true p160
              replace q160 := eq_true q160
              have p161 : 0 ≤ (x34_6 : Int) := of_decide_eq_true (by first | (with_reducible assumption) | assumption)
              have q161 : x34_6 < (t149.length : Int) := of_decide_eq_true (by first | (with_reducible assumption) | assumption)
              obtain ⟨ad161, e161, hx161_0, hx161_1, hx161_2, hx161_3, hx161_4, hx161_5, hx161_6, hx161_7⟩ := at_T41 (Kd.R_reads' HO_28.out).2.2 x34_6 p161 q161
              obtain rfl : ad160 = ad161 := (by injection e161)
              replace p161 := eq_true p161
              replace q161 := eq_true q161
              have p162 : 0 ≤ (x34_6 : Int) := of_decide_eq_true (by first | (with_reducible assumption) | assumption)
              have q162 : x34_6 < (t144.length : Int) := of_decide_eq_true (by first | (with_reducible assumption) | assumption)
              obtain ⟨ad162, e162, hx162_0, hx162_1, hx162_2, hx162_3, hx162_4, hx162_5, hx162_6, hx162_7⟩ := at_T41 (Kd.R_reads' HO_25.out).2.2 x34_6 p162 q162
              cases e162
              replace p162 := eq_true p162
              replace q162 := eq_true q162
              have p163 : 0 ≤ (x34_6 : Int) := of_decide_eq_true (by first | (with_reducible assumption) | assumption)
              have q163 : x34_6 < (t149.length : Int) := of_decide_eq_true (by first | (with_reducible assumption) | assumption)
              obtain ⟨ad163, e163, hx163_0, hx163_1, hx163_2, hx163_3, hx163_4, hx163_5, hx163_6, hx163_7⟩ := at_T41 (Kd.R_reads' HO_28.out).2.2 x34_6 p163 q163
              obtain rfl : ad160 = ad163 := (by injection e163)
              replace p163 := eq_true p163
              replace q163 := eq_true q163
              go_wp2
              repeat (go_quiet (fail); try go_wp2)
              go_roundg k6
              case measure => have := HJ6.out; have := HK2.out; have := HJ31.out; have := HK4.out; have := HJ57.out; have := HK6.out; omega
              case rel => exact ⟨(wrap64 (x34_6 + 1)), (by first | rfl | (simp; done) | (simp [*]; done)), H', ⟨by have := HJ6.out; have := HK2.out; have := HJ31.out; have := HK4.out; have := HJ57.out; have := HK6.out; omega⟩, ⟨by exact Ho.RS <| HO_25.out⟩, ⟨by exact Ho.RS <| HO_28.out⟩, ⟨by exact eS HB.out⟩⟩
/-- THE ONE PURE STATEMENT of Fd: yours. -/
def Fd.Pure : Prop := ∀ (l0 : List Int), (l0.length ≤ 9223372036854775807 ∧ ∀ y_ ∈ l0, (Lit.int .u8 y_).wf = true) → ∃ k, Fd.f k l0 = some true
end Go.Proofs.YtahfahlbdgbfeaaDoor.X

namespace Go.Proofs.YtahfahlbdgbfeaaDoor.Pure
open Go Go.RowKit Go.Proofs Go.Proofs.YtahfahlbdgbfeaaDoorW.PrintWords Go.Proofs.YtahfahlbdgbfeaaDoorW.PrintLast
set_option linter.unusedVariables false
set_option linter.unusedSimpArgs false
theorem w64 {x : Int} (h1 : -9223372036854775808 ≤ x) (h2 : x ≤ 9223372036854775807) : wrap64 x = x := by unfold wrap64; omega
theorem drop_step {α : Type} {l : List α} {i : Nat} (h : i < l.length) (d : α) : l.drop i = l.getD i d :: l.drop (i + 1) := by
  rw [List.drop_eq_getElem_cons h]; congr 1; simp [List.getD_eq_getElem?_getD, List.getElem?_eq_getElem h]
theorem wstep {i : Nat} {n : Nat} (h : i < n) (hn : n ≤ 9223372036854775807) : wrap64 ((i : Int) + 1) = ((i + 1 : Nat) : Int) := by unfold wrap64; omega
theorem nat_of {i : Int} (h : 0 ≤ i) : ∃ n : Nat, i = n := ⟨i.toNat, by omega⟩
theorem succ_of {k d : Nat} (h : d < k) : ∃ m, k = m + 1 ∧ d ≤ m := ⟨k - 1, by omega, by omega⟩
/-- q at all numbers from i on, n of them -/
def allR (q : Nat → Bool) (i n : Nat) : Bool := (List.range' i n).all q
theorem allR_iff {q : Nat → Bool} {i n : Nat} : allR q i n = true ↔ ∀ j, i ≤ j → j < i + n → q j = true := by
  unfold allR
  rw [List.all_eq_true]
  exact ⟨fun h j h1 h2 => h j (List.mem_range'_1.mpr ⟨h1, h2⟩), fun h j hj => h j (List.mem_range'_1.mp hj).1 (List.mem_range'_1.mp hj).2⟩
theorem allR_succ (q : Nat → Bool) (i n : Nat) : allR q i (n + 1) = (q i && allR q (i + 1) n) := by
  unfold allR; rw [List.range'_succ, List.all_cons]
/-- A loop that asks of all numbers, from i on. -/
theorem idx_loop (L : Nat → Int → Option Bool) (q : Nat → Bool) (i0 n0 : Nat) (e : Bool) (hb : n0 ≤ 9223372036854775806)
    (hs : ∀ k (i : Nat), i0 ≤ i → i < n0 → L (k + 1) i = if q i = true then L k (wrap64 ((i : Int) + 1)) else some false) (he : ∀ k (i : Nat), n0 ≤ i → L (k + 1) i = some e) :
    ∀ n k (i : Nat), i0 ≤ i → i + n = n0 → n < k → L k i = some (allR q i n && e) := by
  intro n
  induction n with
  | zero =>
    intro k i h0 hi hk
    obtain ⟨k, rfl, _⟩ := succ_of hk
    rw [he k i (by omega)]; simp [allR]
  | succ n ih =>
    intro k i h0 hi hk
    obtain ⟨k, rfl, hk⟩ := succ_of hk
    rw [hs k i h0 (by omega), wstep (show i < n0 by omega) (by omega), allR_succ, ih k (i + 1) (by omega) (by omega) (by omega)]
    cases q i <;> simp
theorem all_getD {α : Type} {p : α → Bool} {l : List α} (d : α) : l.all p = true ↔ ∀ j, j < l.length → p (l.getD j d) = true := by
  rw [List.all_eq_true]
  constructor
  · intro h j hj
    rw [List.getD_eq_getElem?_getD, List.getElem?_eq_getElem hj]
    exact h _ (List.getElem_mem hj)
  · intro h x hx
    obtain ⟨j, hj, rfl⟩ := List.mem_iff_getElem.mp hx
    have := h j hj
    rwa [List.getD_eq_getElem?_getD, List.getElem?_eq_getElem hj] at this
/-- A loop that adds up. -/
theorem sum_loop {α β : Type} (L : Nat → Int → Int → Option β) (v : α → Int) (r : Int → Option β) (d : α) (B : Int) (l : List α) (hb : l.length ≤ 9223372036854775806) (hv : ∀ x ∈ l, 0 ≤ v x ∧ v x ≤ B)
    (hs : ∀ k (acc : Int) (i : Nat), i < l.length → 0 ≤ acc → acc ≤ B * i → L (k + 1) acc i = L k (acc + v (l.getD i d)) (wrap64 ((i : Int) + 1)))
    (he : ∀ k (acc : Int) (i : Nat), l.length ≤ i → L (k + 1) acc i = r acc) :
    ∀ n k (acc : Int) (i : Nat), i + n = l.length → n < k → 0 ≤ acc → acc ≤ B * i → L k acc i = r (acc + ((l.drop i).map v).sum) := by
  intro n
  induction n with
  | zero =>
    intro k acc i hi hk h0 h1
    obtain ⟨k, rfl, _⟩ := succ_of hk
    rw [he k acc i (by omega), List.drop_eq_nil_of_le (by omega)]; simp
  | succ n ih =>
    intro k acc i hi hk h0 h1
    obtain ⟨k, rfl, hk⟩ := succ_of hk
    have hlt : i < l.length := by omega
    have hm : l.getD i d ∈ l := by rw [List.getD_eq_getElem?_getD, List.getElem?_eq_getElem hlt]; exact List.getElem_mem hlt
    have := hv _ hm
    rw [hs k acc i hlt h0 h1, wstep hlt (by omega), drop_step hlt d, List.map_cons, List.sum_cons]
    have hB : B * ((i + 1 : Nat) : Int) = B * i + B := by push_cast; rw [Int.mul_add, Int.mul_one]
    rw [ih k _ (i + 1) (by omega) (by omega) (by omega) (by omega), Int.add_assoc]
/-- The same, where the end leans on all that was asked, and needs fuel of its own. -/
theorem idx_loop2 (L : Nat → Int → Option Bool) (q : Nat → Bool) (i0 n0 m0 : Nat) (e : Bool) (hb : n0 ≤ 9223372036854775806)
    (hs : ∀ k (i : Nat), i0 ≤ i → i < n0 → m0 ≤ k → L (k + 1) i = if q i = true then L k (wrap64 ((i : Int) + 1)) else some false) (he : (∀ j, i0 ≤ j → j < n0 → q j = true) → ∀ k, m0 ≤ k → L (k + 1) (n0 : Int) = some e) :
    ∀ n k (i : Nat), i0 ≤ i → i + n = n0 → n + m0 < k → (∀ j, i0 ≤ j → j < i → q j = true) → L k i = some (allR q i n && e) := by
  intro n
  induction n with
  | zero =>
    intro k i h0 hi hk hq
    obtain ⟨k, rfl, _⟩ := succ_of (show 0 < k by omega)
    obtain rfl : i = n0 := by omega
    rw [he hq k (by omega)]; simp [allR]
  | succ n ih =>
    intro k i h0 hi hk hq
    obtain ⟨k, rfl, hk'⟩ := succ_of (show 0 < k by omega)
    rw [hs k i h0 (by omega) (by omega), wstep (show i < n0 by omega) (by omega), allR_succ]
    cases hc : q i
    · simp
    · rw [if_pos rfl, ih k (i + 1) (by omega) (by omega) (by omega) (fun j h1 h2 => by
        by_cases hj : j = i
        · rw [hj]; exact hc
        · exact hq j h1 (by omega)), Bool.true_and]
/-- A loop that compares a row with itself. -/
theorem refl_loop {α : Type} (L : Nat → List α → List α → Int → Option Bool) (l : List α) (hb : l.length ≤ 9223372036854775806)
    (hs : ∀ k (i : Nat), i < l.length → L (k + 1) l l i = L k l l (wrap64 ((i : Int) + 1))) (he : ∀ k (i : Nat), l.length ≤ i → L (k + 1) l l i = some true) :
    ∀ n k (i : Nat), i + n = l.length → n < k → L k l l i = some true := by
  intro n
  induction n with
  | zero =>
    intro k i hi hk
    obtain ⟨k, rfl, _⟩ := succ_of hk
    exact he k i (by omega)
  | succ n ih =>
    intro k i hi hk
    obtain ⟨k, rfl, hk⟩ := succ_of hk
    rw [hs k i (by omega), wstep (show i < l.length by omega) (by omega)]
    exact ih k (i + 1) (by omega) (by omega)
/-- A loop that asks of all elements, from i on. -/
theorem all_loop {α : Type} (L : Nat → Int → Option Bool) (q : α → Bool) (d : α) (l : List α) (e : Bool) (hb : l.length ≤ 9223372036854775806)
    (hs : ∀ k (i : Nat), i < l.length → L (k + 1) i = if q (l.getD i d) = true then L k (wrap64 ((i : Int) + 1)) else some false) (he : ∀ k (i : Nat), l.length ≤ i → L (k + 1) i = some e) :
    ∀ n k (i : Nat), i + n = l.length → n < k → L k i = some ((l.drop i).all q && e) := by
  intro n
  induction n with
  | zero =>
    intro k i hi hk
    obtain ⟨k, rfl, _⟩ := succ_of hk
    rw [he k i (by omega), List.drop_eq_nil_of_le (by omega)]; rfl
  | succ n ih =>
    intro k i hi hk
    obtain ⟨k, rfl, hk⟩ := succ_of hk
    rw [hs k i (by omega), wstep (show i < l.length by omega) (by omega), drop_step (by omega) d, List.all_cons, ih k (i + 1) (by omega) (by omega)]
    cases q (l.getD i d) <;> simp
theorem rd_nat (l : List Int) (i : Nat) : rd l (i : Int) = l.getD i 0 := by simp [rd]
end Go.Proofs.YtahfahlbdgbfeaaDoor.Pure

namespace Go.Proofs.YtahfahlbdgbfeaaDoor.Pure
open Go Go.RowKit Go.Proofs Go.Proofs.YtahfahlbdgbfeaaDoor.X Go.Proofs.YtahfahlbdgbfeaaDoorW.PrintWords Go.Proofs.YtahfahlbdgbfeaaDoorW.PrintLast
set_option linter.unusedVariables false
set_option linter.unusedSimpArgs false
theorem rdIOrder_nat (l : List S41) (i : Nat) : rd_T41 l (i : Int) = l.getD i z41 := by simp [rd_T41]
theorem in_eq (x a b : Int) : Faq.f x a b = some (decide (a ≤ x ∧ x ≤ b)) := by
  unfold Faq.f
  by_cases h1 : a ≤ x <;> simp [h1]
theorem l1In_eq (x a b : Int) : Fac.f x a b = some (decide (a ≤ x ∧ x ≤ b)) := by
  unfold Fac.f
  by_cases h1 : a ≤ x <;> simp [h1]
def lowB (b : UInt8) : Bool := decide (97 ≤ b.toNat ∧ b.toNat ≤ 122)
/-- a word: one to ten small letters -/
def wordB (s : ByteArray) : Bool := decide (1 ≤ s.size ∧ s.size ≤ 10) && s.data.toList.all lowB
theorem bt_nat (s : ByteArray) (i : Nat) (h : i < s.size) : bt s (i : Int) = ((s.data.toList.getD i 0).toNat : Int) := by
  have h2 : i < s.data.toList.length := by simpa using h
  unfold bt
  rw [dif_pos (by simpa using h), List.getD_eq_getElem?_getD, List.getElem?_eq_getElem h2]
  rfl
theorem wordS_eq {k : Nat} {s : ByteArray} (hk : s.size < k) (hs : s.size ≤ 9223372036854775806) : Fag.f k s = some (wordB s) := by
  unfold Fag.f
  have hl : s.data.toList.length = s.size := by rw [Array.length_toList]; rfl
  have h := all_loop (fun k i => Fag.l0 k s i) lowB 0 s.data.toList (decide (1 ≤ s.size ∧ s.size ≤ 10)) (by omega)
    (fun k i h1 => by
      simp only [Fag.l0]
      rw [if_pos (by omega), if_pos (by omega), bt_nat s i (by omega)]
      unfold lowB
      by_cases g1 : ((s.data.toList.getD i 0).toNat : Int) < 97
      · rw [if_pos g1, decide_eq_false (by omega)]; simp
      · rw [if_neg g1]
        by_cases g2 : ((s.data.toList.getD i 0).toNat : Int) > 122
        · rw [if_pos g2, decide_eq_false (by omega)]; simp
        · rw [if_neg g2, decide_eq_true (by omega)]; simp)
    (fun k i h1 => by
      simp only [Fag.l0]
      rw [if_neg (by omega), l1In_eq]
      simp only [Option.bind_some]
      congr 2
      exact propext ⟨fun h => by omega, fun h => by omega⟩)
    s.data.toList.length k 0 (by omega) (by omega)
  refine h.trans ?_
  simp only [List.drop_zero, wordB, Bool.and_comm]
theorem dropWhile_nil (p : UInt8 → Bool) (l : List UInt8) : l.dropWhile p = [] ↔ l.all p = true := by
  induction l with
  | nil => simp
  | cons a l ih =>
    by_cases h : p a = true
    · rw [List.dropWhile_cons_of_pos h, ih]; simp [h]
    · rw [List.dropWhile_cons_of_neg h]; simp [h]
theorem trim_nil (p : UInt8 → Bool) (l : List UInt8) : ((l.reverse.dropWhile p).reverse.dropWhile p) = [] ↔ l.all p = true := by
  rw [dropWhile_nil, List.all_reverse]
  constructor
  · intro h
    have : (l.reverse.dropWhile p) = [] := by
      cases hd : l.reverse.dropWhile p with
      | nil => rfl
      | cons x t =>
        rw [hd] at h
        have h1 : p x = true := by simp at h; exact h.1
        have h2 := List.head?_dropWhile_not p l.reverse
        rw [hd] at h2
        simp [h1] at h2
    rw [dropWhile_nil, List.all_reverse] at this
    exact this
  · intro h
    have : (l.reverse.dropWhile p) = [] := by rw [dropWhile_nil, List.all_reverse]; exact h
    rw [this]; rfl
def abcB : ByteArray := ⟨#[97, 98, 99, 100, 101, 102, 103, 104, 105, 106, 107, 108, 109, 110, 111, 112, 113, 114, 115, 116, 117, 118, 119, 120, 121, 122]⟩
theorem abc_has (b : UInt8) : abcB.data.toList.contains b = lowB b := by
  have e : ∀ c : UInt8, (b == c) = decide (b.toNat = c.toNat) := fun c => by
    rw [Bool.eq_iff_iff]; simp [UInt8.toNat_inj]
  unfold lowB abcB
  simp only [List.contains_cons, List.contains_nil, e]
  rw [Bool.eq_iff_iff]
  simp only [Bool.or_eq_true, decide_eq_true_eq, Bool.false_eq_true, or_false, UInt8.reduceToNat]
  omega
theorem wordI_eq (s : ByteArray) : Faw.f s = some (wordB s) := by
  unfold Faw.f
  rw [in_eq]
  simp only [Option.bind_some, wordB]
  by_cases hs : 1 ≤ s.size ∧ s.size ≤ 10
  · rw [decide_eq_true (show 1 ≤ (s.size : Int) ∧ (s.size : Int) ≤ 10 by omega), decide_eq_true hs, if_pos rfl, Bool.true_and]
    show (Fbc.f s abcB).bind _ = _
    unfold Fbc.f
    rw [if_pos ⟨by omega, by decide, by decide⟩]
    simp only [Option.bind_some, ByteArray.toList_eq]
    congr 1
    unfold Go.Lib.trimS Go.Lib.trimLeftS Go.Lib.trimRightS
    rw [Bool.eq_iff_iff, beq_iff_eq, trim_nil, show (fun b => abcB.data.toList.contains b) = lowB from funext abc_has]
  · rw [decide_eq_false (show ¬ (1 ≤ (s.size : Int) ∧ (s.size : Int) ≤ 10) by omega), decide_eq_false hs]; simp
def orderB (x : S41) : Bool := decide (1 ≤ x.f0 ∧ x.f0 ≤ 999) && (wordB x.f1 && (decide (30 ≤ x.f2 ∧ x.f2 ≤ 600) && (decide (30 ≤ x.f3 ∧ x.f3 ≤ 600) && (decide (0 ≤ x.f4 ∧ x.f4 ≤ 5) && (decide (0 ≤ x.f5 ∧ x.f5 ≤ 10000000) && (decide (0 ≤ x.f6 ∧ x.f6 ≤ x.f5) && decide (0 ≤ x.f7 ∧ x.f7 ≤ 4000)))))))
def ascO (l : List S41) (j : Nat) : Bool := decide ((l.getD (j - 1) z41).f0 < (l.getD j z41).f0)
def ordersB (l : List S41) : Bool := decide (l.length ≤ 10) && (l.all orderB && allR (ascO l) 1 (l.length - 1))
def sizesOk (l : List S41) : Prop := l.length ≤ 1048576 ∧ ∀ x ∈ l, x.f1.size ≤ 1048576
theorem oneOS_eq {k : Nat} (x : S41) (hk : x.f1.size < k) (hs : x.f1.size ≤ 1048576) : Fas.f k x.f0 x.f1 x.f2 x.f3 x.f4 x.f5 x.f6 x.f7 = some (orderB x) := by
  simp only [Fas.f, Fap.f, Fbb.f, l1In_eq, wordS_eq hk (by omega), Option.bind_some, orderB]
  generalize decide (1 ≤ x.f0 ∧ x.f0 ≤ 999) = p1; generalize wordB x.f1 = p2; generalize decide (30 ≤ x.f2 ∧ x.f2 ≤ 600) = p3; generalize decide (30 ≤ x.f3 ∧ x.f3 ≤ 600) = p4; generalize decide (0 ≤ x.f4 ∧ x.f4 ≤ 5) = p5; generalize decide (0 ≤ x.f5 ∧ x.f5 ≤ 10000000) = p6; generalize decide (0 ≤ x.f6 ∧ x.f6 ≤ x.f5) = p7; generalize decide (0 ≤ x.f7 ∧ x.f7 ≤ 4000) = p8
  cases p1 <;> cases p2 <;> cases p3 <;> cases p4 <;> cases p5 <;> cases p6 <;> cases p7 <;> rfl
theorem oneOI_eq {k : Nat} (x : S41) (hk : 0 < k) : Fn.f k x.f0 x.f1 x.f2 x.f3 x.f4 x.f5 x.f6 x.f7 = some (orderB x) := by
  obtain ⟨k, rfl, _⟩ := succ_of hk
  simp only [Fn.f, Fn.j0, Fbd.f, Fav.f, Fau.f, Fat.f, Fbi.f, in_eq, wordI_eq, Option.bind_some, orderB]
  generalize decide (1 ≤ x.f0 ∧ x.f0 ≤ 999) = p1; generalize wordB x.f1 = p2; generalize decide (30 ≤ x.f2 ∧ x.f2 ≤ 600) = p3; generalize decide (30 ≤ x.f3 ∧ x.f3 ≤ 600) = p4; generalize decide (0 ≤ x.f4 ∧ x.f4 ≤ 5) = p5; generalize decide (0 ≤ x.f5 ∧ x.f5 ≤ 10000000) = p6; generalize decide (0 ≤ x.f6 ∧ x.f6 ≤ x.f5) = p7; generalize decide (0 ≤ x.f7 ∧ x.f7 ≤ 4000) = p8
  cases p1 <;> cases p2 <;> cases p3 <;> cases p4 <;> cases p5 <;> cases p6 <;> cases p7 <;> rfl
theorem ordersS_eq {k : Nat} {l : List S41} (hk : l.length + 1048577 < k) (hs : sizesOk l) : Fo.f k l = some (ordersB l) := by
  unfold Fo.f
  have hx := idx_loop2 (fun k i => Fo.l0 k l i) (fun j => orderB (l.getD j z41) && (decide (j = 0) || ascO l j)) 0 l.length 1048577 (decide (l.length ≤ 10)) (by have := hs.1; omega)
    (fun k i _ h1 h2 => by
      have hm : l.getD i z41 ∈ l := by rw [List.getD_eq_getElem?_getD, List.getElem?_eq_getElem h1]; exact List.getElem_mem h1
      have hsz := hs.2 _ hm
      have hlen := hs.1
      simp only [Fo.l0, rdIOrder_nat]
      rw [if_pos (by omega), if_pos (by omega), oneOS_eq _ (by omega) hsz]
      simp only [Option.bind_some]
      cases orderB (l.getD i z41)
      · simp
      · by_cases hi : i = 0
        · rw [if_pos rfl, if_neg (by omega), decide_eq_true hi]; simp
        · rw [if_pos rfl, if_pos (by omega), w64 (x := (i : Int) - 1) (by omega) (by omega), if_pos (by omega), if_pos (by omega), show (i : Int) - 1 = ((i - 1 : Nat) : Int) by omega, rdIOrder_nat, decide_eq_false hi]
          unfold ascO
          by_cases g : (l.getD (i - 1) z41).f0 ≥ (l.getD i z41).f0
          · rw [if_pos g, decide_eq_false (by omega)]; simp
          · rw [if_neg g, decide_eq_true (by omega)]; simp)
    (fun hq k hk => by
      simp only [Fo.l0]
      rw [if_neg (by omega)]
      congr 2
      exact propext ⟨fun h => by omega, fun h => by omega⟩)
    l.length k 0 (by omega) (by omega) (by omega) (fun j h1 h2 => by omega)
  refine hx.trans (congrArg some ?_)
  unfold ordersB
  rw [Bool.and_comm]
  congr 1
  rw [Bool.eq_iff_iff, Bool.and_eq_true, allR_iff, allR_iff, all_getD z41]
  constructor
  · intro h
    refine ⟨fun j hj => ?_, fun j h1 h2 => ?_⟩
    · have := h j (by omega) (by omega)
      rw [Bool.and_eq_true] at this; exact this.1
    · have := h j (by omega) (by omega)
      rw [Bool.and_eq_true, decide_eq_false (show ¬ j = 0 by omega), Bool.false_or] at this; exact this.2
  · intro h j h1 h2
    rw [Bool.and_eq_true]
    refine ⟨h.1 j (by omega), ?_⟩
    by_cases hj : j = 0
    · rw [decide_eq_true hj]; rfl
    · rw [h.2 j (by omega) (by omega), Bool.or_true]
theorem ordersI_eq {k : Nat} {l : List S41} (hk : l.length + 1 < k) (hs : l.length ≤ 1048576) : Fk.f k l = some (ordersB l) := by
  unfold Fk.f ordersB
  by_cases h10 : (l.length : Int) ≤ 10
  · rw [if_pos h10, decide_eq_true (show l.length ≤ 10 by omega), Bool.true_and]
    simp only [Fw.f]
    rw [Ho.allO_eq (q := orderB) (fun x _ => oneOI_eq x (by omega))]
    simp only [Option.bind_some]
    have hasc : Ff.f k l = some (allR (ascO l) 1 (l.length - 1)) := by
      unfold Ff.f
      by_cases h0 : l.length = 0
      · obtain ⟨k, rfl, _⟩ := succ_of (show 0 < k by omega)
        simp only [Ff.l0]
        rw [if_neg (by omega), h0]; rfl
      have h := idx_loop (fun k i => Ff.l0 k l i) (ascO l) 1 l.length true (by omega)
        (fun k i h1 h2 => by
          simp only [Ff.l0, Fal.f, Option.bind_some]
          rw [if_pos (by omega), w64 (x := (i : Int) - 1) (by omega) (by omega), if_pos (by omega), if_pos (by omega), if_pos (by omega), show (i : Int) - 1 = ((i - 1 : Nat) : Int) by omega, rdIOrder_nat, rdIOrder_nat]
          unfold ascO
          by_cases g : (l.getD (i - 1) z41).f0 ≥ (l.getD i z41).f0
          · rw [if_pos g, decide_eq_false (by omega)]; simp
          · rw [if_neg g, decide_eq_true (by omega)]; simp)
        (fun k i h1 => by simp only [Ff.l0]; rw [if_neg (by omega)])
        (l.length - 1) k 1 (by omega) (by omega) (by omega)
      simpa using h
    rw [hasc]
    simp only [Option.bind_some]
    cases l.all orderB <;> simp
  · rw [if_neg h10, decide_eq_false (show ¬ l.length ≤ 10 by omega)]; simp
theorem orders_of {l : List S41} (h : ordersB l = true) : l.length ≤ 10 ∧ ∀ x ∈ l, orderB x = true := by
  simp only [ordersB, Bool.and_eq_true, decide_eq_true_eq, List.all_eq_true] at h
  exact ⟨h.1, h.2.1⟩
theorem order_of {x : S41} (h : orderB x = true) : (1 ≤ x.f0 ∧ x.f0 ≤ 999) ∧ wordB x.f1 = true ∧ (30 ≤ x.f2 ∧ x.f2 ≤ 600) ∧ (30 ≤ x.f3 ∧ x.f3 ≤ 600) ∧ (0 ≤ x.f4 ∧ x.f4 ≤ 5) ∧ (0 ≤ x.f5 ∧ x.f5 ≤ 10000000) ∧ (0 ≤ x.f6 ∧ x.f6 ≤ x.f5) ∧ (0 ≤ x.f7 ∧ x.f7 ≤ 4000) := by
  simpa only [orderB, Bool.and_eq_true, decide_eq_true_eq] using h
def cmpI (a b : Int) : Int := if a < b then -1 else if a > b then 1 else 0
theorem cmpI_eq (a b : Int) : Fbe.f a b = some (cmpI a b) := by
  simp only [Fbe.f, Fay.f, bne_self_eq_false, Option.bind_some, Bool.false_eq_true, if_false, cmpI]
  (repeat' split) <;> rfl
theorem clr_take_ {α : Type} (l : List α) (k : Nat) (z : α) (h : k ≤ l.length) : (Cl.clr l k z).take k = l.take k := by
  unfold Cl.clr
  rw [List.take_append_of_le_length (by rw [List.length_take]; omega), List.take_of_length_le (by rw [List.length_take]; omega)]
/-- A loop that keeps, in place, what q does not hold of. -/
theorem del_loop {α : Type} (z : α) (L : Nat → List α → Int → Int → Option (List α)) (q : α → Bool) (l : List α) (hs : l.length ≤ 1048576)
    (hstep : ∀ k (s : List α) (o j : Nat), j < l.length → s.length = l.length → o ≤ j → L (k + 1) s (o : Int) (j : Int) = if q (s.getD j z) = true then L k s (o : Int) (wrap64 ((j : Int) + 1)) else L k (s.set o (s.getD j z)) (wrap64 ((o : Int) + 1)) (wrap64 ((j : Int) + 1)))
    (hend : ∀ k (s : List α) (o : Nat), s.length = l.length → o ≤ l.length → L (k + 1) s (o : Int) (l.length : Int) = some ((Cl.clr s o z).take o)) :
    ∀ (m k o j : Nat) (s : List α), j + m = l.length → m < k → o ≤ j → s.length = l.length → s.take o = (l.take j).filter (fun x => !q x) → s.drop j = l.drop j → L k s (o : Int) (j : Int) = some (l.filter (fun x => !q x)) := by
  intro m
  induction m with
  | zero =>
    intro k o j s hj hk ho hl ht hd
    obtain ⟨k, rfl, _⟩ := succ_of hk
    obtain rfl : j = l.length := by omega
    rw [hend k s o hl ho, clr_take_ _ _ _ (by omega), ht, List.take_of_length_le (by omega)]
  | succ m ih =>
    intro k o j s hj hk ho hl ht hd
    obtain ⟨k, rfl, _⟩ := succ_of hk
    have hlt : j < l.length := by omega
    have hg : s.getD j z = l.getD j z := by
      have h := congrArg (fun (q : List α) => q[0]?) hd
      simp only [List.getElem?_drop, Nat.add_zero] at h
      rw [List.getD_eq_getElem?_getD, List.getD_eq_getElem?_getD, h]
    have hst : l.take (j + 1) = l.take j ++ [l.getD j z] := by
      rw [List.take_add_one, List.getD_eq_getElem?_getD, List.getElem?_eq_getElem hlt]; rfl
    have hd1 : s.drop (j + 1) = l.drop (j + 1) := by
      simpa [List.drop_drop, Nat.add_comm] using congrArg (List.drop 1) hd
    rw [hstep k s o j hlt hl ho, hg]
    by_cases g : q (l.getD j z) = true
    · rw [if_pos g, wstep hlt (by omega)]
      exact ih k o (j + 1) s (by omega) (by omega) (by omega) hl (by rw [hst, List.filter_append, ht]; simp only [List.filter_cons, g, List.filter_nil]; simp) hd1
    · have g2 : q (l.getD j z) = false := by simpa using g
      rw [if_neg g, wstep (n := l.length) (i := o) (by omega) (by omega), wstep hlt (by omega)]
      refine ih k (o + 1) (j + 1) (s.set o (l.getD j z)) (by omega) (by omega) (by omega) (by rw [List.length_set]; exact hl) ?_ ?_
      · rw [hst, List.filter_append, ← ht, List.take_add_one, List.take_set_of_le (by omega), List.getElem?_set_self (by omega)]
        simp only [List.filter_cons, g2, List.filter_nil]; simp
      · rw [List.drop_set_of_lt (by omega)]; exact hd1
theorem del_eq {α : Type} (z : α) (L : Nat → List α → Int → Int → Option (List α)) (p : α → Option Bool) (q : α → Bool) (l : List α) (hp : ∀ x ∈ l, p x = some (q x)) (hs : l.length ≤ 1048576)
    (hstep : ∀ k (s : List α) (o j : Nat), j < l.length → s.length = l.length → o ≤ j → L (k + 1) s (o : Int) (j : Int) = if q (s.getD j z) = true then L k s (o : Int) (wrap64 ((j : Int) + 1)) else L k (s.set o (s.getD j z)) (wrap64 ((o : Int) + 1)) (wrap64 ((j : Int) + 1)))
    (hend : ∀ k (s : List α) (o : Nat), s.length = l.length → o ≤ l.length → L (k + 1) s (o : Int) (l.length : Int) = some ((Cl.clr s o z).take o)) {k : Nat} (hk : l.length < k) :
    ((Ho.idxO p l 0).bind fun t => if t = (-1) then some l else L k l t (wrap64 (t + 1))) = some (l.filter (fun x => !q x)) := by
  rw [Ho.idxO_eq (p := p) (q := q) hp]
  simp only [Option.bind_some]
  cases h : l.findIdx? q with
  | none =>
    simp only [if_true]
    congr 1
    rw [eq_comm, List.filter_eq_self]
    intro x hx
    have := (List.findIdx?_eq_none_iff.mp h) x hx
    rw [this]; rfl
  | some j =>
    obtain ⟨hj, hq, hb⟩ := List.findIdx?_eq_some_iff_getElem.mp h
    simp only [Int.zero_add]
    rw [if_neg (by omega), wstep hj (by omega)]
    have hst : l.take (j + 1) = l.take j ++ [l[j]] := by rw [List.take_add_one, List.getElem?_eq_getElem hj]; rfl
    refine del_loop z L q l hs hstep hend (l.length - (j + 1)) k j (j + 1) l (by omega) (by omega) (by omega) rfl ?_ rfl
    rw [hst, List.filter_append, List.filter_cons, hq]
    simp only [Bool.not_true, Bool.false_eq_true, if_false, List.filter_nil, List.append_nil]
    rw [eq_comm, List.filter_eq_self]
    intro x hx
    obtain ⟨i, hi, rfl⟩ := List.mem_iff_getElem.mp hx
    rw [List.getElem_take]
    have := hb i (by rw [List.length_take] at hi; omega)
    simpa using this
end Go.Proofs.YtahfahlbdgbfeaaDoor.Pure

namespace Go.Proofs.YtahfahlbdgbfeaaDoor.Pure
open Go Go.RowKit Go.Proofs Go.Proofs.YtahfahlbdgbfeaaDoorW.PrintWords Go.Proofs.YtahfahlbdgbfeaaDoorW.PrintLast
set_option linter.unusedVariables false
set_option linter.unusedSimpArgs false
/-- an element put into a list (whose reverse is given), from the right -/
def insB {α : Type} (lt : α → α → Bool) : List α → α → List α
  | [], x => [x]
  | y :: rp, x => if lt x y = true then insB lt rp x ++ [y] else (y :: rp).reverse ++ [x]
def isortB {α : Type} (lt : α → α → Bool) (P l : List α) : List α := l.foldl (fun P x => insB lt P.reverse x) P
theorem insB_perm {α : Type} (lt : α → α → Bool) : ∀ (rp : List α) (x : α), (insB lt rp x).Perm (x :: rp) := by
  intro rp
  induction rp with
  | nil => intro x; exact List.Perm.refl _
  | cons y rp ih =>
    intro x
    rw [insB]
    split
    · have h1 : (insB lt rp x ++ [y]).Perm ((x :: rp) ++ [y]) := (ih x).append_right _
      refine h1.trans ?_
      have h2 : ((x :: rp) ++ [y]).Perm ([y] ++ (x :: rp)) := List.perm_append_comm
      exact h2.trans (List.Perm.swap _ _ _)
    · have h1 : ((y :: rp).reverse ++ [x]).Perm ([x] ++ (y :: rp).reverse) := List.perm_append_comm
      refine h1.trans ?_
      exact List.Perm.cons _ (List.reverse_perm _)
theorem insB_len {α : Type} (lt : α → α → Bool) (rp : List α) (x : α) : (insB lt rp x).length = rp.length + 1 := by
  rw [(insB_perm lt rp x).length_eq, List.length_cons]
theorem isortB_perm {α : Type} (lt : α → α → Bool) : ∀ (l P : List α), (isortB lt P l).Perm (P ++ l) := by
  intro l
  induction l with
  | nil => intro P; rw [List.append_nil]; exact List.Perm.refl _
  | cons x l ih =>
    intro P
    unfold isortB at *
    rw [List.foldl_cons]
    refine (ih _).trans ?_
    have h1 : (insB lt P.reverse x ++ l).Perm ((x :: P.reverse) ++ l) := (insB_perm lt _ x).append_right _
    refine h1.trans ?_
    have h2 : ((x :: P.reverse) ++ l).Perm ((x :: P) ++ l) := (List.Perm.cons _ (List.reverse_perm _)).append_right _
    exact h2.trans List.perm_middle.symm
theorem insB_sorted {α : Type} (lt : α → α → Bool) (R : α → α → Prop) (tr : ∀ a b c, R a b → R b c → R a c) : ∀ (rp : List α) (x : α), rp.reverse.Pairwise R → (∀ y ∈ rp, lt x y = true → R x y) → (∀ y ∈ rp, lt x y = false → R y x) → (insB lt rp x).Pairwise R := by
  intro rp
  induction rp with
  | nil => intro x _ _ _; simp [insB]
  | cons y rp ih =>
    intro x hP h1 h2
    rw [List.reverse_cons, List.pairwise_append] at hP
    rw [insB]
    split
    · rename_i g
      rw [List.pairwise_append]
      refine ⟨ih x hP.1 (fun z hz => h1 z (List.mem_cons_of_mem _ hz)) (fun z hz => h2 z (List.mem_cons_of_mem _ hz)), List.pairwise_singleton _ _, fun a ha b hb => ?_⟩
      rw [List.mem_singleton] at hb
      subst hb
      rcases List.mem_cons.mp ((insB_perm lt rp x).mem_iff.mp ha) with e | e
      · subst e; exact h1 b List.mem_cons_self g
      · exact hP.2.2 a (List.mem_reverse.mpr e) b (List.mem_singleton.mpr rfl)
    · rename_i g
      have g : lt x y = false := by simpa using g
      have hy := h2 y List.mem_cons_self g
      rw [List.pairwise_append]
      refine ⟨by rw [List.reverse_cons, List.pairwise_append]; exact hP, List.pairwise_singleton _ _, fun a ha b hb => ?_⟩
      rw [List.mem_singleton] at hb
      subst hb
      rw [List.mem_reverse] at ha
      rcases List.mem_cons.mp ha with e | e
      · subst e; exact hy
      · exact tr _ _ _ (hP.2.2 a (List.mem_reverse.mpr e) y (List.mem_singleton.mpr rfl)) hy
/-- the inner loop of the library's insertion sort -/
theorem ins_l1 {α : Type} (z : α) (lt : α → α → Bool) (L0 : Nat → List α → Int → Option (List α)) (L1 : Nat → List α → Int → Int → Option (List α))
    (h1 : ∀ k (s : List α) (i : Int) (j : Nat), 0 < j → j < s.length → s.length ≤ 1048576 → L1 (k + 1) s i (j : Int) = if lt (s.getD j z) (s.getD (j - 1) z) = true then L1 k ((s.set j (s.getD (j - 1) z)).set (j - 1) (s.getD j z)) i ((j - 1 : Nat) : Int) else L0 k s (wrap64 (i + 1)))
    (h2 : ∀ k (s : List α) (i : Int), L1 (k + 1) s i 0 = L0 k s (wrap64 (i + 1))) :
    ∀ (rp : List α) (k : Nat) (x : α) (Q : List α) (i : Int), rp.length + 1 + Q.length ≤ 1048576 → rp.length < k → ∃ k', k ≤ k' + rp.length + 1 ∧ L1 k (rp.reverse ++ x :: Q) i (rp.length : Int) = L0 k' (insB lt rp x ++ Q) (wrap64 (i + 1)) := by
  intro rp
  induction rp with
  | nil =>
    intro k x Q i hb hk
    obtain ⟨k, rfl, _⟩ := succ_of hk
    refine ⟨k, by simp, ?_⟩
    have := h2 k (x :: Q) i
    simpa [insB] using this
  | cons y rp ih =>
    intro k x Q i hb hk
    obtain ⟨k, rfl, hk2⟩ := succ_of hk
    rw [List.length_cons] at *
    have hs : (y :: rp).reverse ++ x :: Q = rp.reverse ++ y :: x :: Q := by simp
    have hlen : (rp.reverse ++ y :: x :: Q).length = rp.length + 2 + Q.length := by simp; omega
    have e1 : (rp.reverse ++ y :: x :: Q).getD (rp.length + 1) z = x := by
      rw [List.getD_eq_getElem?_getD, List.getElem?_append_right (by rw [List.length_reverse]; omega), List.length_reverse, show rp.length + 1 - rp.length = 1 by omega]; rfl
    have e2 : (rp.reverse ++ y :: x :: Q).getD rp.length z = y := by
      rw [List.getD_eq_getElem?_getD, List.getElem?_append_right (by rw [List.length_reverse]; omega), List.length_reverse, Nat.sub_self]; rfl
    have e3 : ((rp.reverse ++ y :: x :: Q).set (rp.length + 1) y).set rp.length x = rp.reverse ++ x :: y :: Q := by
      rw [List.set_append_right _ _ (by rw [List.length_reverse]; omega), List.length_reverse, show rp.length + 1 - rp.length = 1 by omega, List.set_append_right _ _ (by rw [List.length_reverse]; omega), List.length_reverse, Nat.sub_self]; rfl
    rw [hs, h1 k _ i (rp.length + 1) (by omega) (by omega) (by omega), e1, Nat.add_sub_cancel, e2, e3]
    by_cases g : lt x y = true
    · rw [if_pos g]
      obtain ⟨k', hk', e⟩ := ih k x (y :: Q) i (by rw [List.length_cons]; omega) (by omega)
      refine ⟨k', by omega, ?_⟩
      rw [e, insB, if_pos g, List.append_assoc]; rfl
    · rw [if_neg g]
      refine ⟨k, by omega, ?_⟩
      rw [insB, if_neg g]; simp
theorem ins_l0 {α : Type} (z : α) (lt : α → α → Bool) (n0 : Nat) (hn0 : n0 ≤ 1048576) (L0 : Nat → List α → Int → Option (List α)) (L1 : Nat → List α → Int → Int → Option (List α))
    (h1 : ∀ k (s : List α) (i : Int) (j : Nat), 0 < j → j < s.length → s.length ≤ 1048576 → L1 (k + 1) s i (j : Int) = if lt (s.getD j z) (s.getD (j - 1) z) = true then L1 k ((s.set j (s.getD (j - 1) z)).set (j - 1) (s.getD j z)) i ((j - 1 : Nat) : Int) else L0 k s (wrap64 (i + 1)))
    (h2 : ∀ k (s : List α) (i : Int), L1 (k + 1) s i 0 = L0 k s (wrap64 (i + 1)))
    (h3 : ∀ k (s : List α) (i : Nat), i < n0 → L0 (k + 1) s (i : Int) = L1 k s (i : Int) (i : Int)) (h4 : ∀ k (s : List α) (i : Nat), n0 ≤ i → L0 (k + 1) s (i : Int) = some s) :
    ∀ (Q P : List α) (k : Nat), P.length + Q.length = n0 → (Q.length + 1) * (n0 + 3) < k → L0 k (P ++ Q) (P.length : Int) = some (isortB lt P Q) := by
  intro Q
  induction Q with
  | nil =>
    intro P k hn hk
    obtain ⟨k, rfl, _⟩ := succ_of (show 0 < k by omega)
    rw [h4 k _ _ (by simpa using Nat.le_of_eq hn.symm), List.append_nil]; rfl
  | cons x Q ih =>
    intro P k hn hk
    rw [List.length_cons, Nat.add_mul, Nat.one_mul] at hk
    rw [List.length_cons] at hn
    obtain ⟨k, rfl, _⟩ := succ_of (show 0 < k by omega)
    rw [h3 k _ _ (by omega)]
    obtain ⟨k', hk', e⟩ := ins_l1 z lt L0 L1 h1 h2 P.reverse k x Q (P.length : Int) (by rw [List.length_reverse]; omega) (by rw [List.length_reverse]; omega)
    rw [List.reverse_reverse, List.length_reverse] at e
    rw [List.length_reverse] at hk'
    have hl := insB_len lt P.reverse x
    rw [List.length_reverse] at hl
    rw [e, wstep (n := n0) (by omega) (by omega), ← hl, ih (insB lt P.reverse x) k' (by omega) (by omega)]
    rfl
/-- the library's insertion sort, from the second element on -/
theorem ins_eq {α : Type} (z : α) (lt : α → α → Bool) (l : List α) (hl : l.length ≤ 1048576) (L0 : Nat → List α → Int → Option (List α)) (L1 : Nat → List α → Int → Int → Option (List α))
    (h1 : ∀ k (s : List α) (i : Int) (j : Nat), 0 < j → j < s.length → s.length ≤ 1048576 → L1 (k + 1) s i (j : Int) = if lt (s.getD j z) (s.getD (j - 1) z) = true then L1 k ((s.set j (s.getD (j - 1) z)).set (j - 1) (s.getD j z)) i ((j - 1 : Nat) : Int) else L0 k s (wrap64 (i + 1)))
    (h2 : ∀ k (s : List α) (i : Int), L1 (k + 1) s i 0 = L0 k s (wrap64 (i + 1)))
    (h3 : ∀ k (s : List α) (i : Nat), i < l.length → L0 (k + 1) s (i : Int) = L1 k s (i : Int) (i : Int)) (h4 : ∀ k (s : List α) (i : Nat), l.length ≤ i → L0 (k + 1) s (i : Int) = some s) {k : Nat} (hk : (l.length + 1) * (l.length + 3) < k) :
    L0 k l 1 = some (isortB lt [] l) := by
  cases l with
  | nil =>
    obtain ⟨k, rfl, _⟩ := succ_of (show 0 < k by omega)
    exact h4 k [] 1 (by simp)
  | cons x l =>
    have hk2 : (l.length + 1) * ((x :: l).length + 3) < k := Nat.lt_of_le_of_lt (Nat.mul_le_mul_right _ (by rw [List.length_cons]; omega)) hk
    exact ins_l0 z lt (x :: l).length hl L0 L1 h1 h2 h3 h4 l [x] k (by simp only [List.length_cons, List.length_nil]; omega) hk2
theorem insB_last {α : Type} (lt : α → α → Bool) : ∀ (rp : List α) (x : α), (∀ y ∈ rp, lt x y = false) → insB lt rp x = rp.reverse ++ [x] := by
  intro rp x h
  cases rp with
  | nil => rfl
  | cons y rp => rw [insB, if_neg (by rw [h y List.mem_cons_self]; simp)]
/-- a list in order, put into by the key -/
theorem insB_filter {α : Type} (lt : α → α → Bool) (q : α → Bool) (tr : ∀ x a b, lt x a = false → lt a b = false → lt x b = false) : ∀ (rp : List α) (x : α), rp.Pairwise (fun a b => lt a b = false) → (insB lt rp x).filter q = if q x = true then insB lt (rp.filter q) x else (rp.filter q).reverse := by
  intro rp
  induction rp with
  | nil => intro x _; cases g : q x <;> simp [insB, g]
  | cons y rp ih =>
    intro x hp
    rw [List.pairwise_cons] at hp
    by_cases g : lt x y = true
    · have e : insB lt (y :: rp) x = insB lt rp x ++ [y] := by rw [insB, if_pos g]
      rw [e, List.filter_append, ih x hp.2]
      cases gy : q y
      · have e2 : (y :: rp).filter q = rp.filter q := by rw [List.filter_cons, gy]; simp
        have e3 : [y].filter q = [] := by rw [List.filter_cons, gy]; simp
        rw [e2, e3, List.append_nil]
      · have e2 : (y :: rp).filter q = y :: rp.filter q := by rw [List.filter_cons, gy]; simp
        have e3 : [y].filter q = [y] := by rw [List.filter_cons, gy]; simp
        rw [e2, e3]
        cases gx : q x
        · simp
        · simp only [if_true]
          rw [insB, if_pos g]
    · have g2 : lt x y = false := by simpa using g
      have hall : ∀ w ∈ y :: rp, lt x w = false := by
        intro w hw
        rcases List.mem_cons.mp hw with e | e
        · rw [e]; exact g2
        · exact tr x y w g2 (hp.1 w e)
      rw [insB_last lt (y :: rp) x hall, insB_last lt ((y :: rp).filter q) x (fun w hw => hall w (List.mem_filter.mp hw).1), List.filter_append, ← List.filter_reverse]
      cases gx : q x
      · simp [List.filter_cons, gx]
      · simp [List.filter_cons, gx]
theorem insB_rev {α : Type} (lt : α → α → Bool) (tot : ∀ x y, lt x y = true → lt y x = false) (tr : ∀ x a b, lt x a = false → lt a b = false → lt x b = false) (rp : List α) (x : α) (hp : rp.Pairwise (fun a b => lt a b = false)) : (insB lt rp x).reverse.Pairwise (fun a b => lt a b = false) := by
  have h := insB_sorted lt (fun a b => lt b a = false) (fun a b c h1 h2 => tr c b a h2 h1) rp x (by rw [List.pairwise_reverse]; exact hp) (fun y _ h => tot x y h) (fun y _ h => h)
  rw [List.pairwise_reverse]
  exact h
theorem isortB_filter {α : Type} (lt : α → α → Bool) (q : α → Bool) (tot : ∀ x y, lt x y = true → lt y x = false) (tr : ∀ x a b, lt x a = false → lt a b = false → lt x b = false) : ∀ (l P : List α), P.reverse.Pairwise (fun a b => lt a b = false) → (isortB lt P l).filter q = isortB lt (P.filter q) (l.filter q) := by
  intro l
  induction l with
  | nil => intro P _; rfl
  | cons x l ih =>
    intro P hP
    show (isortB lt (insB lt P.reverse x) l).filter q = _
    rw [ih _ (insB_rev lt tot tr P.reverse x hP), insB_filter lt q tr P.reverse x hP]
    cases gx : q x
    · rw [List.filter_cons, gx]
      simp only [Bool.false_eq_true, if_false]
      rw [List.filter_reverse, List.reverse_reverse]
    · rw [List.filter_cons, gx]
      simp only [if_true]
      rw [List.filter_reverse]
      rfl
end Go.Proofs.YtahfahlbdgbfeaaDoor.Pure

namespace Go.Proofs.YtahfahlbdgbfeaaDoor.Pure
open Go Go.RowKit Go.Proofs Go.Proofs.YtahfahlbdgbfeaaDoor.X Go.Proofs.YtahfahlbdgbfeaaDoorW.PrintWords Go.Proofs.YtahfahlbdgbfeaaDoorW.PrintLast
set_option linter.unusedVariables false
set_option linter.unusedSimpArgs false
theorem idsO_eq {l : List S41} (hs : l.length ≤ 1048576) : ∀ (m k i : Nat) (acc : List Int), i + m = l.length → m < k → acc.length ≤ i → Faa.l0 k acc l (l.length : Int) (i : Int) = some (acc ++ (l.drop i).map (fun x => x.f0)) := by
  intro m
  induction m with
  | zero =>
    intro k i acc hi hk ha
    obtain ⟨k, rfl, _⟩ := succ_of hk
    rw [Faa.l0, if_neg (by omega), List.drop_eq_nil_of_le (by omega)]; simp
  | succ m ih =>
    intro k i acc hi hk ha
    obtain ⟨k, rfl, hk⟩ := succ_of hk
    have hlt : i < l.length := by omega
    rw [Faa.l0, if_pos (by omega), if_pos (by omega), if_pos (by omega), if_pos (by omega), rdIOrder_nat, wstep hlt (by omega), ih k (i + 1) _ (by omega) (by omega) (by rw [List.length_append, List.length_singleton]; omega), drop_step hlt z41, List.map_cons, List.append_assoc]
    rfl
theorem ids_eq {k : Nat} {l : List S41} (hk : l.length < k) (hs : l.length ≤ 1048576) : Faa.f k l = some (l.map (fun x => x.f0)) := by
  have h := idsO_eq hs l.length k 0 [] (by omega) (by omega) (by simp)
  simpa [Faa.f] using h
def ltD (x y : S41) : Bool := decide (x.f7 < y.f7)
theorem ltD_tot (x y : S41) (h : ltD x y = true) : ltD y x = false := by
  unfold ltD at *
  have := of_decide_eq_true h
  exact decide_eq_false (by omega)
theorem ltD_tr (x a b : S41) (h1 : ltD x a = false) (h2 : ltD a b = false) : ltD x b = false := by
  unfold ltD at *
  have := of_decide_eq_false h1
  have := of_decide_eq_false h2
  exact decide_eq_false (by omega)
def stageQ (s : Int) (x : S41) : Bool := decide (x.f4 = s)
def atM (l : List S41) (s : Int) : List Int × Bool := if ordersB l && decide (0 ≤ s ∧ s ≤ 5) then (((isortB ltD [] l).filter (stageQ s)).map (fun x => x.f0), true) else ([], false)
theorem isortD_len (l : List S41) : (isortB ltD [] l).length = l.length := by
  have h := (isortB_perm ltD l []).length_eq
  simpa using h
theorem atM_len (l : List S41) (s : Int) : (atM l s).1.length ≤ 10 := by
  unfold atM
  split
  · rename_i h
    simp only [Bool.and_eq_true] at h
    have := (orders_of h.1).1
    simp only [List.length_map]
    have h2 := List.length_filter_le (stageQ s) (isortB ltD [] l)
    rw [isortD_len] at h2
    omega
  · simp
theorem insD_eq {k : Nat} {l : List S41} (hl : l.length ≤ 10) (hk : 200 ≤ k) : Fa.f k l 0 (l.length : Int) = some (isortB ltD [] l) := by
  unfold Fa.f
  rw [Int.zero_add]
  rw [show wrap64 1 = 1 from w64 (by omega) (by omega)]
  exact ins_eq z41 ltD l (by omega) (fun k s i => Fa.l0 k s 0 (l.length : Int) i) (fun k s i j => Fa.l1 k s 0 (l.length : Int) i j)
    (fun k s i j h0 h1 h2 => by
      simp only [Fa.l1]
      rw [w64 (x := (j : Int) - 1) (by omega) (by omega), if_pos (by omega), if_pos (by omega), if_pos (by omega), if_pos (by omega), if_pos (by omega), show (j : Int) - 1 = ((j - 1 : Nat) : Int) by omega]
      simp only [rdIOrder_nat, Fbg.f, cmpI_eq, Option.bind_some, Int.toNat_natCast]
      by_cases g : (s.getD j z41).f7 < (s.getD (j - 1) z41).f7
      · rw [if_pos (by unfold cmpI; rw [if_pos g]; omega), if_pos (show ltD _ _ = true from decide_eq_true g)]
      · rw [if_neg (by unfold cmpI; rw [if_neg g]; split <;> omega), if_neg (by unfold ltD; rw [decide_eq_false g]; simp)])
    (fun k s i => by
      simp only [Fa.l1]
      rw [if_neg (by omega)])
    (fun k s i h => by
      simp only [Fa.l0]
      rw [if_pos (by omega)])
    (fun k s i h => by
      simp only [Fa.l0]
      rw [if_neg (by omega)]) (by have : (l.length + 1) * (l.length + 3) ≤ 11 * 13 := Nat.mul_le_mul (by omega) (by omega); omega)
theorem stableD_eq {k : Nat} {l : List S41} (hl : l.length ≤ 10) (hk : 300 ≤ k) : Fi.f k l = some (isortB ltD [] l) := by
  unfold Fi.f Fb.f
  obtain ⟨k, rfl, hk2⟩ := succ_of (show 299 < k by omega)
  rw [Fb.l0, if_neg (by omega), insD_eq hl (by omega)]
  obtain ⟨k, rfl, hk3⟩ := succ_of (show 0 < k by omega)
  simp only [Option.bind_some, Fb.l1]
  rw [if_neg (by omega)]; rfl
theorem delA_eq {k : Nat} {l : List S41} {s : Int} (hk : l.length < k) (hl : l.length ≤ 1048576) : Fe.f k l s = some (l.filter (stageQ s)) := by
  simp only [Fe.f, Fak.f]
  rw [del_eq z41 (fun k q o j => Fe.l0 k q o j s) (fun (x_ : S41) => Faz.f x_.f0 x_.f1 x_.f2 x_.f3 x_.f4 x_.f5 x_.f6 x_.f7 s) (fun x => x.f4 != s) l (fun x _ => rfl) hl
    (fun k q o j h1 h2 h3 => by
      simp only [Fe.l0, rdIOrder_nat, Faz.f, Option.bind_some]
      rw [if_pos (by omega), if_pos (by omega), if_pos (show (0 : Int) ≤ (o : Int) by omega), if_pos (show (o : Int) < (q.length : Int) by omega), Int.toNat_natCast])
    (fun k q o h2 h3 => by
      simp only [Fe.l0]
      rw [if_neg (by omega), if_pos (by omega), if_pos (by omega), Int.toNat_natCast]) hk]
  congr 1
  refine List.filter_congr (fun x _ => ?_)
  unfold stageQ
  by_cases g : x.f4 = s <;> simp [g]
theorem atI_eq {k : Nat} {l : List S41} {s : Int} (hk : 2000000 < k) (hs : l.length ≤ 1048576) : Fu.f k l s = some (atM l s) := by
  obtain ⟨k, rfl, hk⟩ := succ_of hk
  simp only [Fu.f, ordersI_eq (k := k + 1) (l := l) (by omega) hs, Fau.f, in_eq, Option.bind_some, atM, Fu.j0]
  cases ho : ordersB l
  · simp
  cases decide (0 ≤ s ∧ s ≤ 5)
  · simp
  have h10 := (orders_of ho).1
  have hf := List.length_filter_le (stageQ s) l
  simp only [if_true, Bool.not_true, Bool.false_eq_true, if_false, Bool.and_self, Fao.f, Option.bind_some, List.length_nil, List.nil_append]
  rw [if_pos (by omega)]
  simp only [Option.bind_some, delA_eq (k := k) (l := l) (s := s) (by omega) hs, stableD_eq (k := k) (l := l.filter (stageQ s)) (by omega) (by omega)]
  have hi : isortB ltD [] (l.filter (stageQ s)) = (isortB ltD [] l).filter (stageQ s) := by
    have := isortB_filter ltD (stageQ s) ltD_tot ltD_tr l [] (by simp)
    simpa using this.symm
  have hl2 := isortD_len (l.filter (stageQ s))
  rw [ids_eq (k := k) (by omega) (by omega), hi]
  rfl
/-- the place of an order, or -1 -/
def findI (l : List S41) (id : Int) : Int := match l.findIdx? (fun x => x.f0 == id) with | some j => (j : Int) | none => -1
def findM (l : List S41) (id : Int) : Int := if ordersB l then findI l id else -1
theorem findI_bd (l : List S41) (id : Int) : findI l id = -1 ∨ ∃ j : Nat, findI l id = j ∧ j < l.length := by
  unfold findI
  cases h : l.findIdx? (fun x => x.f0 == id) with
  | none => exact .inl rfl
  | some j => exact .inr ⟨j, rfl, (List.findIdx?_eq_some_iff_getElem.mp h).1⟩
theorem findO_eq {k : Nat} {l : List S41} {id : Int} (hk : l.length + 1 < k) (hs : l.length ≤ 1048576) : Fab.f k l id = some (findM l id) := by
  simp only [Fab.f, ordersI_eq hk hs, Option.bind_some, findM]
  cases hb : ordersB l
  · simp
  simp only [if_true, Faj.f, Fbf.f]
  rw [Ho.idxO_eq (p := fun (x_ : S41) => some (x_.f0 == id)) (q := fun x => x.f0 == id) (fun x _ => rfl)]
  simp only [Option.bind_some, findI]
  cases l.findIdx? (fun x => x.f0 == id) <;> simp
theorem findS_eq {k : Nat} {l : List S41} {id : Int} (hk : 2 * l.length + 1048700 < k) (hs : sizesOk l) : Fm.f k l id = some (findM l id) := by
  unfold Fm.f
  have hlen := hs.1
  by_cases hl0 : l.length = 0
  · have hnil : l = [] := List.eq_nil_of_length_eq_zero hl0
    subst hnil
    obtain ⟨k, rfl, _⟩ := succ_of (show 0 < k by omega)
    obtain ⟨k, rfl, _⟩ := succ_of (show 0 < k by simp at hk; omega)
    rw [Fm.l0, if_neg (by simp), Fm.j1]
    simp [findM, findI]
  cases hb : ordersB l
  · obtain ⟨k, rfl, _⟩ := succ_of (show 0 < k by omega)
    obtain ⟨k, rfl, _⟩ := succ_of (show 0 < k by omega)
    rw [Fm.l0, if_pos (by omega), ordersS_eq (by omega) hs, hb]
    simp only [Option.bind_some, Fm.j1]
    simp [findM, hb]
  have : ∀ (n k i : Nat), i + n = l.length → 2 * n + l.length + 1048590 < k → Fm.l0 k l id (i : Int) = some (match (l.drop i).findIdx? (fun x => x.f0 == id) with | some j => ((i + j : Nat) : Int) | none => -1) := by
    intro n
    induction n with
    | zero =>
      intro k i hi hk
      obtain ⟨k, rfl, _⟩ := succ_of (show 0 < k by omega)
      obtain ⟨k, rfl, _⟩ := succ_of (show 0 < k by omega)
      rw [Fm.l0, if_neg (by omega), Fm.j1, List.drop_eq_nil_of_le (by omega)]
      simp
    | succ n ih =>
      intro k i hi hk
      obtain ⟨k, rfl, _⟩ := succ_of (show 0 < k by omega)
      obtain ⟨k, rfl, _⟩ := succ_of (show 0 < k by omega)
      have hlt : i < l.length := by omega
      rw [Fm.l0, if_pos (by omega), ordersS_eq (by omega) hs, hb]
      simp only [Option.bind_some, Fm.j1, if_true, rdIOrder_nat]
      rw [if_pos (by omega), if_pos (by omega), drop_step hlt z41, List.findIdx?_cons]
      by_cases g : (l.getD i z41).f0 = id
      · rw [if_pos g, if_pos (by simpa using g)]; simp
      · rw [if_neg g, if_neg (by simpa using g), wstep hlt (by omega), ih k (i + 1) (by omega) (by omega)]
        congr 1
        cases (l.drop (i + 1)).findIdx? (fun x => x.f0 == id) with
        | none => rfl
        | some j => simp only [Option.map_some]; rw [show i + 1 + j = i + (j + 1) by omega]
  have h10 := (orders_of hb).1
  have h := this l.length k 0 (by omega) (by omega)
  rw [show ((0 : Nat) : Int) = 0 from rfl] at h
  rw [h]
  simp only [findM, hb, if_true, findI, List.drop_zero, Nat.zero_add]
/-- a list in which an order is replaced, if it is valid -/
def withM (l : List S41) (i : Int) (o : S41) : List S41 × Bool := if ordersB (l.set i.toNat o) then (l.set i.toNat o, true) else ([], false)
theorem withM_len (l : List S41) (i : Int) (o : S41) : (withM l i o).1.length ≤ 10 := by
  unfold withM
  split
  · rename_i h; exact (orders_of h).1
  · simp
theorem withS_eq {k : Nat} {l : List S41} {i : Int} (o : S41) (hk : l.length + 1048577 < k) (hs : sizesOk l) (ho : o.f1.size ≤ 1048576) (hi : 0 ≤ i ∧ i < l.length) : Fx.f k l i o.f0 o.f1 o.f2 o.f3 o.f4 o.f5 o.f6 o.f7 = some (withM l i o) := by
  have hlen := hs.1
  have hs2 : sizesOk (l.set i.toNat o) := by
    refine ⟨by rw [List.length_set]; exact hlen, fun x hx => ?_⟩
    rcases List.mem_or_eq_of_mem_set hx with h | rfl
    · exact hs.2 x h
    · exact ho
  simp only [Fx.f, Option.bind_some, List.length_nil, List.nil_append]
  rw [if_pos (by omega), if_pos hi.1, if_pos hi.2, ordersS_eq (l := l.set i.toNat o) (by rw [List.length_set]; omega) hs2]
  simp only [Option.bind_some, withM]
  cases ordersB (l.set i.toNat o) <;> simp
theorem withI_eq {k : Nat} {l : List S41} {i : Int} (o : S41) (hk : l.length + 1 < k) (hlen : l.length ≤ 1048576) (hi : 0 ≤ i ∧ i < l.length) : Fad.f k l i o.f0 o.f1 o.f2 o.f3 o.f4 o.f5 o.f6 o.f7 = some (withM l i o) := by
  simp only [Fad.f, Fao.f, Option.bind_some, List.length_nil, List.nil_append]
  rw [if_pos (by omega)]
  simp only [Option.bind_some]
  rw [if_pos hi.1, if_pos hi.2, ordersI_eq (l := l.set i.toNat o) (by rw [List.length_set]; omega) (by rw [List.length_set]; omega)]
  simp only [Option.bind_some, withM]
  cases ordersB (l.set i.toNat o) <;> simp
theorem findM_cases (l : List S41) (id : Int) : findM l id = -1 ∨ ∃ j : Nat, findM l id = j ∧ j < l.length ∧ ordersB l = true ∧ orderB (l.getD j z41) = true := by
  unfold findM
  cases hb : ordersB l
  · exact .inl rfl
  · rcases findI_bd l id with h | ⟨j, h, hj⟩
    · exact .inl (by rw [if_pos rfl]; exact h)
    · refine .inr ⟨j, by rw [if_pos rfl]; exact h, hj, rfl, (orders_of hb).2 _ ?_⟩
      rw [List.getD_eq_getElem?_getD, List.getElem?_eq_getElem hj]; exact List.getElem_mem hj
theorem word_size {s : ByteArray} (h : wordB s = true) : s.size ≤ 10 := by
  simp only [wordB, Bool.and_eq_true, decide_eq_true_eq] at h; exact h.1.2
def payM (l : List S41) (id c : Int) : List S41 × Bool :=
  let i := findM l id
  let x := l.getD i.toNat z41
  if i < 0 then ([], false) else if x.f4 = 5 then ([], false) else if 0 ≤ c ∧ c ≤ 10000000 then withM l i ⟨x.f0, x.f1, x.f2, x.f3, x.f4, x.f5, x.f6 + c, x.f7⟩ else ([], false)
theorem payM_len (l : List S41) (id c : Int) : (payM l id c).1.length ≤ 10 := by
  unfold payM
  simp only
  (repeat' split) <;> first | exact withM_len _ _ _ | simp
theorem payS_eq {k : Nat} {l : List S41} {id c : Int} (hk : 4000000 < k) (hs : sizesOk l) : Fai.f k l id c = some (payM l id c) := by
  have hlen := hs.1
  simp only [Fai.f, findS_eq (k := k) (l := l) (id := id) (by omega) hs, Option.bind_some, payM]
  rcases findM_cases l id with h | ⟨j, h, hj, _, ho⟩
  · rw [h]; simp
  rw [h]
  simp only [rdIOrder_nat, Int.toNat_natCast]
  simp only [if_neg (show ¬ (j : Int) < 0 by omega)]
  rw [if_pos (by omega), if_pos (by omega)]
  obtain ⟨x, hx⟩ : ∃ x, l.getD j z41 = x := ⟨_, rfl⟩
  rw [hx] at ho ⊢
  have hb := order_of ho
  by_cases g : x.f4 = 5
  · rw [if_pos g, if_pos g]
  rw [if_neg g, if_neg g]
  simp only [Fap.f, l1In_eq, Option.bind_some]
  by_cases gc : 0 ≤ c ∧ c ≤ 10000000
  · rw [decide_eq_true gc, if_pos rfl, if_pos gc, w64 (x := x.f6 + c) (by omega) (by omega)]
    have := withS_eq (k := k) (l := l) (i := (j : Int)) ⟨x.f0, x.f1, x.f2, x.f3, x.f4, x.f5, x.f6 + c, x.f7⟩ (by omega) hs (by have := word_size hb.2.1; simp only; omega) (by omega)
    simp only at this
    rw [this]; rfl
  · rw [decide_eq_false gc, if_neg gc]; simp
theorem payI_eq {k : Nat} {l : List S41} {id c : Int} (hk : 4000000 < k) (hlen : l.length ≤ 1048576) : Fah.f k l id c = some (payM l id c) := by
  simp only [Fah.f, findO_eq (k := k) (l := l) (id := id) (by omega) hlen, Option.bind_some, payM]
  rcases findM_cases l id with h | ⟨j, h, hj, _, ho⟩
  · rw [h]; simp
  rw [h]
  simp only [rdIOrder_nat, Int.toNat_natCast, Fat.f, in_eq, Option.bind_some]
  simp only [if_neg (show ¬ (j : Int) < 0 by omega)]
  obtain ⟨x, hx⟩ : ∃ x, l.getD j z41 = x := ⟨_, rfl⟩
  rw [hx] at ho ⊢
  have hb := order_of ho
  by_cases gc : 0 ≤ c ∧ c ≤ 10000000
  · rw [decide_eq_true gc, if_pos rfl, if_pos (by omega), if_pos (by omega), if_pos gc]
    by_cases g : x.f4 = 5
    · rw [if_pos g, if_pos g]
    rw [if_neg g, if_neg g, w64 (x := x.f6 + c) (by omega) (by omega)]
    have := withI_eq (k := k) (l := l) (i := (j : Int)) ⟨x.f0, x.f1, x.f2, x.f3, x.f4, x.f5, x.f6 + c, x.f7⟩ (by omega) hlen (by omega)
    simp only at this
    rw [this]; rfl
  · rw [decide_eq_false gc, if_neg gc]; simp
def callM (l : List S41) (id d : Int) : List S41 × Int × Bool :=
  let i := findM l id
  let x := l.getD i.toNat z41
  if i < 0 then ([], 0, false) else if x.f4 > 1 ∨ d < x.f7 then ([], 0, false) else
  let y := withM l i ⟨x.f0, x.f1, x.f2, x.f3, 5, x.f5, x.f6 - (x.f6 + 1) / 2, d⟩
  if y.2 = true then (y.1, (x.f6 + 1) / 2, true) else ([], 0, false)
theorem callM_len (l : List S41) (id c : Int) : (callM l id c).1.length ≤ 10 := by
  unfold callM
  simp only
  (repeat' split) <;> first | exact withM_len _ _ _ | simp
theorem callS_eq {k : Nat} {l : List S41} {id d : Int} (hk : 4000000 < k) (hs : sizesOk l) : Ft.f k l id d = some (callM l id d) := by
  have hlen := hs.1
  obtain ⟨k, rfl, hk⟩ := succ_of hk
  simp only [Ft.f, findS_eq (k := k + 1) (l := l) (id := id) (by omega) hs, Option.bind_some, callM]
  rcases findM_cases l id with h | ⟨j, h, hj, _, ho⟩
  · rw [h]; simp [Ft.j0]
  rw [h]
  simp only [rdIOrder_nat, Int.toNat_natCast]
  simp only [if_neg (show ¬ (j : Int) < 0 by omega)]
  rw [if_pos (by omega), if_pos (by omega)]
  simp only [Ft.j0, rdIOrder_nat]
  obtain ⟨x, hx⟩ : ∃ x, l.getD j z41 = x := ⟨_, rfl⟩
  rw [hx] at ho ⊢
  have hb := order_of ho
  have hw := withS_eq (k := k) (l := l) (i := (j : Int)) ⟨x.f0, x.f1, x.f2, x.f3, 5, x.f5, x.f6 - (x.f6 + 1) / 2, d⟩ (by omega) hs (by have := word_size hb.2.1; simp only; omega) (by omega)
  simp only at hw
  have hd : Int.tdiv (x.f6 + 1) 2 = (x.f6 + 1) / 2 := Int.tdiv_eq_ediv_of_nonneg (by omega)
  rw [w64 (x := x.f6 + 1) (by omega) (by omega), hd, w64 (x := (x.f6 + 1) / 2) (by omega) (by omega), w64 (x := x.f6 - (x.f6 + 1) / 2) (by omega) (by omega), hw]
  simp only [Option.bind_some]
  by_cases g1 : x.f4 > 1
  · rw [if_pos g1, if_pos trivial, if_pos (.inl g1)]
  rw [if_neg g1]
  by_cases g2 : d < x.f7
  · rw [decide_eq_true g2, if_pos rfl, if_pos (.inr g2)]
  rw [decide_eq_false g2, if_neg (by simp), if_pos (by omega), if_pos (by omega), if_neg (show ¬ (x.f4 > 1 ∨ d < x.f7) by omega)]
  split <;> rfl
theorem callI_eq {k : Nat} {l : List S41} {id d : Int} (hk : 4000000 < k) (hlen : l.length ≤ 1048576) : Fs.f k l id d = some (callM l id d) := by
  obtain ⟨k, rfl, hk⟩ := succ_of hk
  simp only [Fs.f, findO_eq (k := k + 1) (l := l) (id := id) (by omega) hlen, Option.bind_some, callM]
  rcases findM_cases l id with h | ⟨j, h, hj, _, ho⟩
  · rw [h]; simp [Fs.j0]
  rw [h]
  simp only [rdIOrder_nat, Int.toNat_natCast]
  simp only [if_neg (show ¬ (j : Int) < 0 by omega)]
  rw [if_pos (by omega), if_pos (by omega)]
  simp only [Fs.j0, rdIOrder_nat, Fbj.f]
  obtain ⟨x, hx⟩ : ∃ x, l.getD j z41 = x := ⟨_, rfl⟩
  rw [hx] at ho ⊢
  have hb := order_of ho
  have hw := withI_eq (k := k) (l := l) (i := (j : Int)) ⟨x.f0, x.f1, x.f2, x.f3, 5, x.f5, x.f6 - (x.f6 + 1) / 2, d⟩ (by omega) hlen (by omega)
  simp only at hw
  have hd : Int.tdiv (x.f6 + 1) 2 = (x.f6 + 1) / 2 := Int.tdiv_eq_ediv_of_nonneg (by omega)
  rw [if_neg (show ¬ (2 : Int) = 0 by omega), w64 (x := x.f6 + 2) (by omega) (by omega), show x.f6 + 2 - 1 = x.f6 + 1 by omega, w64 (x := x.f6 + 1) (by omega) (by omega), hd, w64 (x := (x.f6 + 1) / 2) (by omega) (by omega)]
  simp only [Option.bind_some]
  rw [w64 (x := x.f6 - (x.f6 + 1) / 2) (by omega) (by omega), hw]
  simp only [Option.bind_some]
  by_cases g1 : x.f4 > 1
  · rw [if_pos g1, if_pos trivial, if_pos (.inl g1)]
  rw [if_neg g1]
  by_cases g2 : d < x.f7
  · rw [decide_eq_true g2, if_pos rfl, if_pos (.inr g2)]
  rw [decide_eq_false g2, if_neg (by simp), if_pos (by omega), if_pos (by omega), if_neg (show ¬ (x.f4 > 1 ∨ d < x.f7) by omega)]
  split <;> rfl
/-- a code that is drawn from: bytes, and not too many -/
def curOk (s : List Int) : Prop := s.length ≤ 65536 ∧ ∀ y ∈ s, 0 ≤ y ∧ y ≤ 255
theorem wf8 {x : Int} (h : (Lit.int .u8 x).wf = true) : 0 ≤ x ∧ x ≤ 255 := by
  have h1 := h
  simp [Lit.wf] at h1
  have h2 := h1.1; have h3 := h1.2
  constructor
  · exact h2
  · exact h3
theorem and255 (n : Int) : 0 ≤ wrap64 (Go.bits .and .u64 (IntKind.u64.wrap n / 1099511627776) 255) ∧ wrap64 (Go.bits .and .u64 (IntKind.u64.wrap n / 1099511627776) 255) ≤ 255 := by
  have hw : IntKind.u64.wrap n = n % 18446744073709551616 := by simp [IntKind.wrap, IntKind.bits, IntKind.signed]
  have h32 : (2 : Int) ^ 32 = 4294967296 := by decide
  have h := bits_mask .u64 32 (by decide) (fun n h0 h1 => by simp [IntKind.wrap, IntKind.bits, IntKind.signed]; omega) 8 (by decide) (IntKind.u64.wrap n / 1099511627776) (by rw [hw]; omega) (by rw [hw]; omega)
  rw [show ((2 : Int) ^ 8 - 1) = 255 by decide, show ((2 : Int) ^ 8) = 256 by decide] at h
  rw [h, w64 (by omega) (by omega)]
  omega
theorem next_ex {s : List Int} {p : Int} (h : Int) (hs : curOk s) (hp : 0 ≤ p ∧ p ≤ 1000000000) : ∃ a h', Far.f s p h = some (a, p + 1, h') ∧ 0 ≤ a ∧ a ≤ 255 := by
  have hw : wrap64 (p + 1) = p + 1 := w64 (by omega) (by omega)
  simp only [Far.f, hw]
  by_cases g : p < s.length
  · rw [if_pos g, if_pos hp.1, if_pos (by omega)]
    refine ⟨_, _, rfl, ?_⟩
    obtain ⟨n, rfl⟩ := nat_of hp.1
    have hm : s.getD n 0 ∈ s := by rw [List.getD_eq_getElem?_getD, List.getElem?_eq_getElem (by omega)]; exact List.getElem_mem (by omega)
    have := hs.2 _ hm
    rw [rd_nat, w64 (by omega) (by omega)]
    exact this
  · rw [if_neg g, if_neg (by omega)]
    exact ⟨_, _, rfl, and255 _⟩
theorem pick_ex {s : List Int} {p n : Int} (h : Int) (hs : curOk s) (hp : 0 ≤ p ∧ p ≤ 1000000) (hn : n ≤ 50000) : ∃ a p' h', Fp.f s p h n = some (a, p', h') ∧ (p ≤ p' ∧ p' ≤ p + 2) ∧ 0 ≤ a ∧ (1 ≤ n → a < n) := by
  unfold Fp.f
  by_cases g : n ≤ 1
  · rw [if_pos g]; exact ⟨_, _, _, rfl, by omega, by omega, by omega⟩
  rw [if_neg g]
  obtain ⟨a, h1, e1, b1⟩ := next_ex h hs (p := p) (by omega)
  rw [e1]
  simp only [Option.bind_some]
  by_cases g2 : n > 200
  · rw [if_pos g2]
    obtain ⟨b, h2, e2, b2⟩ := next_ex h1 hs (p := p + 1) (by omega)
    rw [e2]
    simp only [Option.bind_some]
    rw [if_neg (by omega), w64 (x := a * 256) (by omega) (by omega), w64 (x := a * 256 + b) (by omega) (by omega)]
    exact ⟨_, _, _, rfl, by omega, Int.tmod_nonneg _ (by omega), fun _ => Int.tmod_lt_of_pos _ (by omega)⟩
  · rw [if_neg g2, if_neg (by omega)]
    exact ⟨_, _, _, rfl, by omega, Int.tmod_nonneg _ (by omega), fun _ => Int.tmod_lt_of_pos _ (by omega)⟩
theorem one_ex {s : List Int} {p n : Int} (h : Int) (hs : curOk s) (hp : 0 ≤ p ∧ p ≤ 1000000) (hn : n ≤ 50000) : ∃ b p' h', Fba.f s p h n = some (b, p', h') ∧ (p ≤ p' ∧ p' ≤ p + 2) := by
  obtain ⟨a, p1, h1, e1, b1, _⟩ := pick_ex h hs hp hn
  simp only [Fba.f, e1, Option.bind_some]
  exact ⟨_, _, _, rfl, b1⟩
theorem among_ex {s : List Int} {p : Int} (h : Int) (xs : List Int) (hs : curOk s) (hp : 0 ≤ p ∧ p ≤ 1000000) (hx : 1 ≤ xs.length ∧ xs.length ≤ 50000) : ∃ v p' h', Fc.f s p h xs = some (v, p', h') ∧ (p ≤ p' ∧ p' ≤ p + 2) ∧ v ∈ xs := by
  obtain ⟨a, p1, h1, e1, b1, b2, b3⟩ := pick_ex (n := (xs.length : Int)) h hs hp (by omega)
  have b4 := b3 (by omega)
  simp only [Fc.f, e1, Option.bind_some]
  rw [if_pos b2, if_pos b4]
  refine ⟨_, _, _, rfl, b1, ?_⟩
  obtain ⟨n, rfl⟩ := nat_of b2
  rw [rd_nat, List.getD_eq_getElem?_getD, List.getElem?_eq_getElem (by omega)]
  exact List.getElem_mem (by omega)
def nextM (l : List S41) (id d : Int) : List S41 × Bool :=
  let i := findM l id
  let x := l.getD i.toNat z41
  if i < 0 then ([], false) else if x.f4 > 3 ∨ d < x.f7 ∨ (x.f4 = 0 ∧ 3 * x.f6 < x.f5) ∨ (x.f4 = 3 ∧ x.f6 < x.f5) then ([], false) else withM l i ⟨x.f0, x.f1, x.f2, x.f3, x.f4 + 1, x.f5, x.f6, d⟩
theorem nextM_len (l : List S41) (id c : Int) : (nextM l id c).1.length ≤ 10 := by
  unfold nextM
  simp only
  (repeat' split) <;> first | exact withM_len _ _ _ | simp
theorem nextS_eq {k : Nat} {l : List S41} {id d : Int} (hk : 4000000 < k) (hs : sizesOk l) : Fq.f k l id d = some (nextM l id d) := by
  have hlen := hs.1
  obtain ⟨k, rfl, hk⟩ := succ_of hk
  simp only [Fq.f, findS_eq (k := k + 1) (l := l) (id := id) (by omega) hs, Option.bind_some, nextM]
  rcases findM_cases l id with h | ⟨j, h, hj, _, ho⟩
  · rw [h]; simp [Fq.j0]
  rw [h]
  simp only [rdIOrder_nat, Int.toNat_natCast, Fbk.f, Option.bind_some]
  simp only [if_neg (show ¬ (j : Int) < 0 by omega)]
  rw [if_pos (by omega), if_pos (by omega)]
  simp only [Fq.j0, rdIOrder_nat]
  obtain ⟨x, hx⟩ : ∃ x, l.getD j z41 = x := ⟨_, rfl⟩
  rw [hx] at ho ⊢
  have hb := order_of ho
  have hw := withS_eq (k := k) (l := l) (i := (j : Int)) ⟨x.f0, x.f1, x.f2, x.f3, x.f4 + 1, x.f5, x.f6, d⟩ (by omega) hs (by have := word_size hb.2.1; simp only; omega) (by omega)
  simp only at hw
  have hw2 : (Fx.f k l (j : Int) x.f0 x.f1 x.f2 x.f3 (x.f4 + 1) x.f5 x.f6 d).bind (fun bt => some (bt.1, bt.2)) = some (withM l (j : Int) ⟨x.f0, x.f1, x.f2, x.f3, x.f4 + 1, x.f5, x.f6, d⟩) := by rw [hw]; rfl
  rw [w64 (x := x.f4 + 1) (by omega) (by omega), w64 (x := 3 * x.f6) (by omega) (by omega)]
  simp only [hw2]
  by_cases g1 : x.f4 ≤ 3
  · rw [decide_eq_true g1]
    by_cases g2 : d < x.f7
    · rw [decide_eq_true g2]
      simp only [if_true]
      rw [if_pos (.inr (.inl g2))]
    · rw [decide_eq_false g2]
      simp only [if_true, Bool.false_eq_true, if_false]
      rw [if_pos (by omega), if_pos (by omega)]
      by_cases g3 : x.f4 = 0
      · rw [if_pos g3, if_neg (show ¬ x.f4 = 3 by omega)]
        by_cases g4 : 3 * x.f6 < x.f5
        · rw [if_pos g4, if_pos (by omega)]
        · rw [if_neg g4, if_neg (by omega)]
      · rw [if_neg g3]
        by_cases g5 : x.f4 = 3
        · rw [if_pos g5]
          by_cases g6 : x.f6 < x.f5
          · rw [if_pos g6, if_pos (by omega)]
          · rw [if_neg g6, if_neg (by omega)]
        · rw [if_neg g5, if_neg (by omega)]
  · rw [decide_eq_false g1]
    simp only [Bool.false_eq_true, if_false, if_true]
    rw [if_pos (by omega)]
theorem nextI_eq {k : Nat} {l : List S41} {id d : Int} (hk : 4000000 < k) (hlen : l.length ≤ 1048576) : Fae.f k l id d = some (nextM l id d) := by
  obtain ⟨k, rfl, hk⟩ := succ_of hk
  simp only [Fae.f, findO_eq (k := k + 1) (l := l) (id := id) (by omega) hlen, Option.bind_some, nextM]
  rcases findM_cases l id with h | ⟨j, h, hj, _, ho⟩
  · rw [h]; simp
  rw [h]
  simp only [rdIOrder_nat, Int.toNat_natCast]
  simp only [if_neg (show ¬ (j : Int) < 0 by omega)]
  rw [if_pos (by omega), if_pos (by omega)]
  obtain ⟨x, hx⟩ : ∃ x, l.getD j z41 = x := ⟨_, rfl⟩
  rw [hx] at ho ⊢
  have hb := order_of ho
  have hw := withI_eq (k := k + 1) (l := l) (i := (j : Int)) ⟨x.f0, x.f1, x.f2, x.f3, x.f4 + 1, x.f5, x.f6, d⟩ (by omega) hlen (by omega)
  simp only at hw
  have hgo : Fl.f (k + 1) x.f0 x.f1 x.f2 x.f3 x.f4 x.f5 x.f6 x.f7 = some (!decide (x.f4 > 3 ∨ (x.f4 = 0 ∧ 3 * x.f6 < x.f5) ∨ (x.f4 = 3 ∧ x.f6 < x.f5))) := by
    simp only [Fl.f, Fl.j0]
    rw [w64 (x := 3 * x.f6) (by omega) (by omega)]
    rcases (show x.f4 = 0 ∨ x.f4 = 1 ∨ x.f4 = 2 ∨ x.f4 = 3 ∨ x.f4 = 4 ∨ x.f4 = 5 by omega) with e | e | e | e | e | e
    · rw [e]
      simp only [if_true]
      by_cases g : 3 * x.f6 < x.f5
      · rw [decide_eq_false (by omega), decide_eq_true (.inr (.inl ⟨trivial, g⟩))]; rfl
      · rw [decide_eq_true (by omega), decide_eq_false (fun h => by rcases h with h | ⟨_, h⟩ | ⟨h, _⟩ <;> first | exact g h | (exact absurd h (by decide)) | omega)]; rfl
    · rw [e]; simp
    · rw [e]; simp
    · rw [e]
      by_cases g : x.f6 < x.f5
      · simp [g, show ¬ x.f6 = x.f5 by omega]
      · have : x.f6 = x.f5 := by omega
        simp [this]
    · rw [e]; simp
    · rw [e]; simp
  have hw2 : (Fad.f (k + 1) l (j : Int) x.f0 x.f1 x.f2 x.f3 (x.f4 + 1) x.f5 x.f6 d).bind (fun bt => some (bt.1, bt.2)) = some (withM l (j : Int) ⟨x.f0, x.f1, x.f2, x.f3, x.f4 + 1, x.f5, x.f6, d⟩) := by rw [hw]; rfl
  rw [hgo, w64 (x := x.f4 + 1) (by omega) (by omega)]
  simp only [hw2, Option.bind_some]
  by_cases g1 : x.f4 > 3 ∨ (x.f4 = 0 ∧ 3 * x.f6 < x.f5) ∨ (x.f4 = 3 ∧ x.f6 < x.f5)
  · rw [decide_eq_true g1]
    simp only [Bool.not_true, Bool.false_eq_true, if_false]
    rw [if_pos (by omega)]
  · rw [decide_eq_false g1]
    simp only [Bool.not_false, if_true]
    by_cases g2 : d < x.f7
    · rw [if_pos g2, if_pos (.inr (.inl g2))]
    · rw [if_neg g2, if_neg (by omega)]
theorem tdiv11 {t : Int} (h : 0 ≤ t ∧ t < 24) : wrap64 (Int.tdiv t 11) = t / 11 := by
  rw [Int.tdiv_eq_ediv_of_nonneg h.1]; exact w64 (by omega) (by omega)
/-- an element of the front of a list, how much of it is drawn -/
theorem some_ex {s : List Int} {p b : Int} (h : Int) (xs : List Int) (hs : curOk s) (hp : 0 ≤ p ∧ p ≤ 900000) (hb : 1 ≤ b ∧ b + 2 ≤ xs.length) (hx : xs.length ≤ 1000) : ∃ t p1 h1 v p2 h2, Fp.f s p h 24 = some (t, p1, h1) ∧ 0 ≤ wrap64 (b + wrap64 (Int.tdiv t 11)) ∧ wrap64 (b + wrap64 (Int.tdiv t 11)) ≤ (xs.length : Int) ∧ Fc.f s p1 h1 (xs.take (wrap64 (b + wrap64 (Int.tdiv t 11))).toNat) = some (v, p2, h2) ∧ p ≤ p2 ∧ p2 ≤ p + 4 := by
  obtain ⟨t, p1, h1, e1, b1, b2, b3⟩ := pick_ex h hs (p := p) (n := 24) (by omega) (by omega)
  have b4 := b3 (by omega)
  have ht := tdiv11 (t := t) (by omega)
  have hw : wrap64 (b + wrap64 (Int.tdiv t 11)) = b + t / 11 := by rw [ht]; exact w64 (by omega) (by omega)
  have hl : (xs.take (b + t / 11).toNat).length = (b + t / 11).toNat := by rw [List.length_take]; omega
  obtain ⟨v, p2, h2, e2, b5, _⟩ := among_ex h1 (xs.take (b + t / 11).toNat) hs (p := p1) (by omega) (by omega)
  exact ⟨t, p1, h1, v, p2, h2, e1, by omega, by omega, by rw [hw]; exact e2, by omega, by omega⟩
theorem rdOf_nat {α : Type} (d : α) (l : List α) (i : Nat) : rdOf d l (i : Int) = l.getD i d := by simp [rdOf]
theorem of_ex {s : List Int} {p : Int} (h : Int) (xs : List ByteArray) (hs : curOk s) (hp : 0 ≤ p ∧ p ≤ 1000000) (hx : 1 ≤ xs.length ∧ xs.length ≤ 50000) : ∃ v p' h', Fam.f s p h xs = some (v, p', h') ∧ (p ≤ p' ∧ p' ≤ p + 2) ∧ v ∈ xs := by
  obtain ⟨a, p1, h1, e1, b1, b2, b3⟩ := pick_ex (n := (xs.length : Int)) h hs hp (by omega)
  have b4 := b3 (by omega)
  simp only [Fam.f, e1, Option.bind_some]
  rw [if_pos b2, if_pos b4]
  refine ⟨_, _, _, rfl, b1, ?_⟩
  obtain ⟨n, rfl⟩ := nat_of b2
  rw [rdOf_nat, List.getD_eq_getElem?_getD, List.getElem?_eq_getElem (by omega)]
  exact List.getElem_mem (by omega)
theorem names_small {v : ByteArray} (h : v ∈ [(⟨#[97, 110, 110, 97]⟩ : ByteArray), (⟨#[98, 114, 117, 110, 111]⟩ : ByteArray), (⟨#[97, 110, 110, 97]⟩ : ByteArray), (⟨#[99, 108, 101, 111]⟩ : ByteArray)]) : v.size ≤ 20 := by
  simp only [List.mem_cons, List.not_mem_nil, or_false] at h
  rcases h with rfl | rfl | rfl | rfl <;> decide
theorem names_bad {v : ByteArray} (h : v ∈ [(⟨#[]⟩ : ByteArray), (⟨#[65]⟩ : ByteArray), (⟨#[97, 98, 99, 100, 101, 102, 103, 104, 105, 106, 107]⟩ : ByteArray)]) : v.size ≤ 20 := by
  simp only [List.mem_cons, List.not_mem_nil, or_false] at h
  rcases h with rfl | rfl | rfl <;> decide
theorem carpetOrder_ex {s : List Int} {p : Int} (h id : Int) (hs : curOk s) (hp : 0 ≤ p ∧ p ≤ 900000) : ∃ a b c d e f g i p' h', Fax.f s p h id = some (a, b, c, d, e, f, g, i, p', h') ∧ (p ≤ p' ∧ p' ≤ p + 20) ∧ b.size ≤ 20 := by
  obtain ⟨v1, p1, h1, e1, b1, m1⟩ := of_ex h [(⟨#[97, 110, 110, 97]⟩ : ByteArray), (⟨#[98, 114, 117, 110, 111]⟩ : ByteArray), (⟨#[97, 110, 110, 97]⟩ : ByteArray), (⟨#[99, 108, 101, 111]⟩ : ByteArray)] hs (p := p) (by omega) (by simp)
  have m1 := names_small m1
  obtain ⟨v2, p2, h2, e2, b2, _⟩ := among_ex h1 [30, 120, 600] hs (p := p1) (by omega) (by simp)
  obtain ⟨v3, p3, h3, e3, b3, _⟩ := among_ex h2 [30, 180, 600] hs (p := p2) (by omega) (by simp)
  obtain ⟨v4, p4, h4, e4, b4, _⟩ := among_ex h3 [0, 0, 1, 1, 2, 3, 3, 4, 5] hs (p := p3) (by omega) (by simp)
  obtain ⟨v5, p5, h5, e5, b5, _⟩ := among_ex h4 [0, 300, 90000, 10000000] hs (p := p4) (by omega) (by simp)
  obtain ⟨v6, p6, h6, e6, b6, _⟩ := among_ex h5 [0, 10, 10, 50, 4000] hs (p := p5) (by omega) (by simp)
  obtain ⟨v7, p7, h7, e7, b7, _⟩ := among_ex h6 [0, wrap64 (Int.tdiv v5 3), wrap64 (Int.tdiv v5 3), wrap64 (Int.tdiv v5 2), v5, v5] hs (p := p6) (by omega) (by simp)
  obtain ⟨v8, p8, h8, e8, b8, _⟩ := pick_ex h7 hs (p := p7) (n := 80) (by omega) (by omega)
  obtain ⟨w0, q0, g0, f0, c0, _⟩ := among_ex h8 [0, 999, 1000] hs (p := p8) (by omega) (by simp)
  obtain ⟨w1, q1, g1, f1, c1, n1⟩ := of_ex h8 [(⟨#[]⟩ : ByteArray), (⟨#[65]⟩ : ByteArray), (⟨#[97, 98, 99, 100, 101, 102, 103, 104, 105, 106, 107]⟩ : ByteArray)] hs (p := p8) (by omega) (by simp)
  have n1 := names_bad n1
  obtain ⟨w2, q2, g2, f2, c2, _⟩ := among_ex h8 [29, 601] hs (p := p8) (by omega) (by simp)
  obtain ⟨w4, q4, g4, f4, c4, _⟩ := among_ex h8 [-1, 6] hs (p := p8) (by omega) (by simp)
  obtain ⟨w5, q5, g5, f5, c5, _⟩ := among_ex h8 [-1, 10000001] hs (p := p8) (by omega) (by simp)
  obtain ⟨w6, q6, g6, f6, c6, _⟩ := among_ex h8 [-1, wrap64 (v5 + 1)] hs (p := p8) (by omega) (by simp)
  obtain ⟨w7, q7, g7, f7, c7, _⟩ := among_ex h8 [-1, 4001] hs (p := p8) (by omega) (by simp)
  simp only [Fax.f, e1, e2, e3, e4, e5, e6, e7, e8, f0, f1, f2, f4, f5, f6, f7, Option.bind_some]
  by_cases z0 : v8 = 0
  · rw [if_pos z0]; exact ⟨_, _, _, _, _, _, _, _, _, _, rfl, by omega, m1⟩
  rw [if_neg z0]
  by_cases z1 : v8 = 1
  · rw [if_pos z1]; exact ⟨_, _, _, _, _, _, _, _, _, _, rfl, by omega, n1⟩
  rw [if_neg z1]
  by_cases z2 : v8 = 2
  · rw [if_pos z2]; exact ⟨_, _, _, _, _, _, _, _, _, _, rfl, by omega, m1⟩
  rw [if_neg z2]
  by_cases z3 : v8 = 3
  · rw [if_pos z3]; exact ⟨_, _, _, _, _, _, _, _, _, _, rfl, by omega, m1⟩
  rw [if_neg z3]
  by_cases z4 : v8 = 4
  · rw [if_pos z4]; exact ⟨_, _, _, _, _, _, _, _, _, _, rfl, by omega, m1⟩
  rw [if_neg z4]
  by_cases z5 : v8 = 5
  · rw [if_pos z5]; exact ⟨_, _, _, _, _, _, _, _, _, _, rfl, by omega, m1⟩
  rw [if_neg z5]
  by_cases z6 : v8 = 6
  · rw [if_pos z6]; exact ⟨_, _, _, _, _, _, _, _, _, _, rfl, by omega, m1⟩
  rw [if_neg z6]
  by_cases z7 : v8 = 7
  · rw [if_pos z7]; exact ⟨_, _, _, _, _, _, _, _, _, _, rfl, by omega, m1⟩
  rw [if_neg z7]; exact ⟨_, _, _, _, _, _, _, _, _, _, rfl, by omega, m1⟩
def clientsOk (l : List S41) : Prop := ∀ x ∈ l, x.f1.size ≤ 20
theorem clientsOk_app {l : List S41} {x : S41} (h : clientsOk l) (hx : x.f1.size ≤ 20) : clientsOk (l ++ [x]) := by
  intro y hy
  rcases List.mem_append.mp hy with e | e
  · exact h y e
  · rw [List.mem_singleton] at e; rw [e]; exact hx
theorem ords_l1 {s : List Int} (hs : curOk s) : ∀ (n k : Nat) (x : List S41) (id p h : Int), x.length + n = 12 → n < k → 0 ≤ p → p + 2 * n ≤ 900000 → clientsOk x → ∃ x' p' h', Fg.l1 k x id s p h = some (x', p', h') ∧ x'.length ≤ 12 ∧ clientsOk x' ∧ p ≤ p' ∧ p' ≤ p + 2 * n + 2 := by
  intro n
  induction n with
  | zero =>
    intro k x id p h hx hk h0 h1 hc
    obtain ⟨k, rfl, _⟩ := succ_of hk
    obtain ⟨t, p1, h1', e1, b1, b2, b3⟩ := pick_ex h hs (p := p) (n := 2) (by omega) (by omega)
    have b4 := b3 (by omega)
    simp only [Fg.l1, e1, Option.bind_some]
    rw [w64 (x := 10 + t) (by omega) (by omega), if_neg (by omega)]
    exact ⟨_, _, _, rfl, by omega, hc, by omega, by omega⟩
  | succ n ih =>
    intro k x id p h hx hk h0 h1 hc
    obtain ⟨k, rfl, _⟩ := succ_of hk
    obtain ⟨t, p1, h1', e1, b1, b2, b3⟩ := pick_ex h hs (p := p) (n := 2) (by omega) (by omega)
    have b4 := b3 (by omega)
    simp only [Fg.l1, e1, Option.bind_some]
    rw [w64 (x := 10 + t) (by omega) (by omega)]
    by_cases g : (x.length : Int) < 10 + t
    · rw [if_pos g, if_pos (by omega)]
      obtain ⟨x', p', h', e, c1, c2, c3, c4⟩ := ih k (x ++ [⟨wrap64 (id + 1), (⟨#[120]⟩ : ByteArray), 100, 100, 0, 0, 0, 0⟩]) (wrap64 (id + 1)) p1 h1' (by rw [List.length_append, List.length_singleton]; omega) (by omega) (by omega) (by push_cast at h1; omega) (clientsOk_app hc (show (⟨#[120]⟩ : ByteArray).size ≤ 20 by decide))
      exact ⟨x', p', h', e, c1, c2, by omega, by push_cast; omega⟩
    · rw [if_neg g]
      exact ⟨_, _, _, rfl, by omega, hc, by omega, by push_cast; omega⟩
theorem ords_l0 {s : List Int} (hs : curOk s) : ∀ (n k : Nat) (x : List S41) (id p h : Int), x.length + n ≤ 7 → n + 20 < k → 0 ≤ p → p + 26 * n ≤ 800000 → clientsOk x → ∃ x' p' h', Fg.l0 k x id (n : Int) s p h = some (x', p', h') ∧ x'.length ≤ 12 ∧ clientsOk x' ∧ p ≤ p' ∧ p' ≤ p + 26 * n + 40 := by
  intro n
  induction n with
  | zero =>
    intro k x id p h hx hk h0 h1 hc
    obtain ⟨k, rfl, _⟩ := succ_of (show 0 < k by omega)
    obtain ⟨b, p1, h1', e1, b1⟩ := one_ex h hs (p := p) (n := 24) (by omega) (by omega)
    simp only [Fg.l0, e1, Option.bind_some]
    rw [if_neg (by omega)]
    cases b
    · simp only [Bool.false_eq_true, if_false]
      exact ⟨_, _, _, rfl, by omega, hc, by omega, by omega⟩
    · simp only [if_true]
      obtain ⟨x', p', h', e, c1, c2, c3, c4⟩ := ords_l1 hs (12 - x.length) k x id p1 h1' (by omega) (by omega) (by omega) (by omega) hc
      exact ⟨x', p', h', e, c1, c2, by omega, by omega⟩
  | succ n ih =>
    intro k x id p h hx hk h0 h1 hc
    obtain ⟨k, rfl, _⟩ := succ_of (show 0 < k by omega)
    push_cast at h1
    obtain ⟨t1, p1, h1', e1, b1, _⟩ := pick_ex h hs (p := p) (n := 3) (by omega) (by omega)
    obtain ⟨t2, p2, h2', e2, b2, _⟩ := pick_ex h1' hs (p := p1) (n := 90) (by omega) (by omega)
    obtain ⟨a, b, c, d, e, f, g, i, p3, h3', e3, b3, b4⟩ := carpetOrder_ex h2' (wrap64 ((wrap64 ((wrap64 (id + 1)) + t1)) - (wrap64 (Int.tdiv t2 89)))) hs (p := p2) (by omega)
    simp only [Fg.l0, e1, e2, e3, Option.bind_some]
    rw [if_pos (by omega), if_pos (by omega), w64 (x := ((n + 1 : Nat) : Int) - 1) (by omega) (by omega), show ((n + 1 : Nat) : Int) - 1 = (n : Int) by omega]
    obtain ⟨x', p', h', e4, c1, c2, c3, c4⟩ := ih k (x ++ [⟨a, b, c, d, e, f, g, i⟩]) (wrap64 ((wrap64 ((wrap64 (id + 1)) + t1)) - (wrap64 (Int.tdiv t2 89)))) p3 h3' (by rw [List.length_append, List.length_singleton]; omega) (by omega) (by omega) (by omega) (clientsOk_app hc b4)
    exact ⟨x', p', h', e4, c1, c2, by omega, by push_cast; omega⟩
theorem ords_ex {k : Nat} {s : List Int} (h : Int) (hs : curOk s) (hk : 100 < k) : ∃ x' p' h', Fg.f k s 0 h = some (x', p', h') ∧ x'.length ≤ 12 ∧ clientsOk x' ∧ 0 ≤ p' ∧ p' ≤ 1000 := by
  obtain ⟨t, p1, h1, e1, b1, b2, b3⟩ := pick_ex h hs (p := 0) (n := 8) (by omega) (by omega)
  have b4 := b3 (by omega)
  obtain ⟨n, rfl⟩ := nat_of b2
  obtain ⟨x', p', h', e, c1, c2, c3, c4⟩ := ords_l0 hs n k [] 0 p1 h1 (by simp; omega) (by omega) (by omega) (by omega) (fun x hx => absurd hx (by simp))
  simp only [Fg.f, e1, Option.bind_some]
  exact ⟨x', p', h', e, c1, c2, by omega, by omega⟩
theorem carpetId_loop {s : List Int} (hs : curOk s) (l : List S41) (st : Int) (hl : l.length ≤ 50) : ∀ (m k i : Nat) (ids : List Int) (p h : Int), i + m = l.length → m < k → ids.length ≤ i → 0 ≤ p → p + 2 * m ≤ 800000 → ∃ v p' h', Fh.l0 k l st ids (i : Int) s p h = some (v, p', h') ∧ p ≤ p' ∧ p' ≤ p + 2 * m + 2 := by
  intro m
  induction m with
  | zero =>
    intro k i ids p h hi hk hids h0 h1
    obtain ⟨k, rfl, _⟩ := succ_of hk
    obtain ⟨v3, p3, h3, e3, b3, _⟩ := among_ex h [0, 1, 2, 500] hs (p := p) (by omega) (by simp)
    obtain ⟨v4, p4, h4, e4, b4, b5, b6⟩ := pick_ex h hs (p := p) (n := (ids.length : Int)) (by omega) (by omega)
    simp only [Fh.l0, e3, e4, Option.bind_some]
    rw [if_neg (by omega)]
    by_cases g : (ids.length : Int) = 0
    · rw [if_pos g]; exact ⟨_, _, _, rfl, by omega, by omega⟩
    · rw [if_neg g]
      have := b6 (by omega)
      rw [if_pos b5, if_pos this]; exact ⟨_, _, _, rfl, by omega, by omega⟩
  | succ m ih =>
    intro k i ids p h hi hk hids h0 h1
    obtain ⟨k, rfl, _⟩ := succ_of hk
    push_cast at h1
    obtain ⟨b, p1, h1', e1, b1⟩ := one_ex h hs (p := p) (n := 6) (by omega) (by omega)
    simp only [Fh.l0, e1, Option.bind_some, rdIOrder_nat]
    rw [if_pos (by omega), if_pos (by omega), wstep (n := l.length) (by omega) (by omega)]
    have ha : ∀ v : Int, (ids ++ [v]).length ≤ i + 1 := fun v => by rw [List.length_append, List.length_singleton]; omega
    by_cases g : (l.getD i z41).f4 ≤ st
    · rw [if_pos g, if_pos (by omega)]
      obtain ⟨v, p', h', e, c1, c2⟩ := ih k (i + 1) (ids ++ [(l.getD i z41).f0]) p h (by omega) (by omega) (ha _) (by omega) (by omega)
      exact ⟨v, p', h', e, by omega, by push_cast; omega⟩
    · rw [if_neg g]
      cases b
      · simp only [Bool.false_eq_true, if_false]
        obtain ⟨v, p', h', e, c1, c2⟩ := ih k (i + 1) ids p1 h1' (by omega) (by omega) (by omega) (by omega) (by omega)
        exact ⟨v, p', h', e, by omega, by push_cast; omega⟩
      · simp only [if_true]
        rw [if_pos (by omega)]
        obtain ⟨v, p', h', e, c1, c2⟩ := ih k (i + 1) (ids ++ [(l.getD i z41).f0]) p1 h1' (by omega) (by omega) (ha _) (by omega) (by omega)
        exact ⟨v, p', h', e, by omega, by push_cast; omega⟩
theorem carpetId_ex {k : Nat} {s : List Int} {p : Int} (h : Int) (l : List S41) (st : Int) (hs : curOk s) (hl : l.length ≤ 50) (hk : l.length < k) (hp : 0 ≤ p ∧ p ≤ 10000) : ∃ v p' h', Fh.f k s p h l st = some (v, p', h') ∧ p ≤ p' ∧ p' ≤ p + 200 := by
  obtain ⟨v, p', h', e, c1, c2⟩ := carpetId_loop hs l st hl l.length k 0 [] p h (by omega) hk (by simp) (by omega) (by omega)
  exact ⟨v, p', h', e, by omega, by omega⟩
theorem day17_ex {s : List Int} {p : Int} (h : Int) (hs : curOk s) (hp : 0 ≤ p ∧ p ≤ 900000) : ∃ v p' h', Fan.f s p h = some (v, p', h') ∧ p ≤ p' ∧ p' ≤ p + 4 := by
  obtain ⟨t, p1, h1, v, p2, h2, e1, c1, c2, e2, b⟩ := some_ex (b := 7) h [9, 10, 12, 60, 3999, 4000, 4000, 4001, -1] hs hp (by simp) (by simp)
  simp only [Fan.f, e1, Option.bind_some]
  rw [if_pos c1, if_pos c2, e2]
  exact ⟨_, _, _, rfl, b⟩
theorem rOrders_refl {k : Nat} {l : List S41} (hk : l.length < k) (hl : l.length ≤ 1048576) : Fr.f k l l = some true := by
  unfold Fr.f
  rw [if_pos rfl]
  exact refl_loop Fr.l0 l (by omega)
    (fun k i h => by simp only [Fr.l0]; rw [if_pos (by omega), if_pos (by omega), if_pos (by omega)]; simp)
    (fun k i h => by simp only [Fr.l0]; rw [if_neg (by omega)])
    l.length k 0 (by omega) hk
end Go.Proofs.YtahfahlbdgbfeaaDoor.Pure
