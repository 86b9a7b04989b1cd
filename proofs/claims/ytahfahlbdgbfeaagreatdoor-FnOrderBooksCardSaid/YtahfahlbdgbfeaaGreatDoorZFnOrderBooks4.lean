/- What the law FnOrderBooks needs, part 5 of 5: what each function of the program that it reaches returns (printed by this session's own program, checked by Lean), and plain mathematics about it. Conditions: those of each theorem. -/
import Derived.Test.YtahfahlbdgbfeaaGreatDoorZFnOrderBooks3
import Derived.Great.BuildSlice
import Derived.Laws.CopyOwn
import Derived.Test.YtahfahlbdgbfeaaGreatDoorYG
import Derived.ProofKit
import Derived.WideShapes
namespace Go.Proofs.YtahfahlbdgbfeaaGreatDoor.X
open Ho (bS eS RS Ak Cs Ct Cd)
open Go.RowKit Go.Proofs.YtahfahlbdgbfeaaGreatDoorW.PrintWords Go.Proofs.YtahfahlbdgbfeaaGreatDoorW.PrintLast Go.Proofs.YtahfahlbdgbfeaaGreatDoorW.PrintMore
attribute [local go_sem] max2_int min2_int max_two min_two max_three min_three max_four min_four   -- for this text's walks alone
set_option linter.unusedVariables false
set_option linter.unusedSimpArgs false
/-! ### Fk: function 16 -/
mutual
def Fk.j0 : Nat → List (S34) → Int → Int → List Int → Bool → Option (List Int × Bool)
  | 0, _, _, _, _, _ => none
  | k + 1, x0, x1, x2, x8, x23 => if x23 = true then (some (x8, false)) else (Fk.l0 k x0 x1 x2 x8 0)
def Fk.l0 : Nat → List (S34) → Int → Int → List Int → Int → Option (List Int × Bool)
  | 0, _, _, _, _, _ => none
  | k + 1, x0, x1, x2, x8, x9 => if x9 < (x0.length : Int) then (if 0 ≤ x9 then (if ((rd_T34 x0 x9).f7) > x1 then (some ((([] : List Int)), false)) else ((Fbp.f ((rd_T34 x0 x9).f0) ((rd_T34 x0 x9).f1) ((rd_T34 x0 x9).f2) ((rd_T34 x0 x9).f3) ((rd_T34 x0 x9).f4) ((rd_T34 x0 x9).f5) ((rd_T34 x0 x9).f6) ((rd_T34 x0 x9).f7)).bind fun t112 => (if t112 = true then (if (wrap64 (x1 - ((rd_T34 x0 x9).f7))) > x2 then (if x8.length < 17592186044416 then (Fk.l0 k x0 x1 x2 (x8 ++ [(rd_T34 x0 x9).f0]) (wrap64 (x9 + 1))) else (none)) else (Fk.l0 k x0 x1 x2 x8 (wrap64 (x9 + 1)))) else (Fk.l0 k x0 x1 x2 x8 (wrap64 (x9 + 1)))))) else (none)) else (some (x8, true))
end
def Fk.f (k : Nat) (l0 : List (S34)) (a1 : Int) (a2 : Int) : Option (List Int × Bool) := (some (([] : List Int) : List Int)).bind fun y101 => ((Fm.f k l0).bind fun t104 => (if t104 = true then ((Far.f a1).bind fun t105 => (if t105 = true then ((Far.f a2).bind fun t106 => (Fk.j0 k l0 a1 a2 y101 (!t106))) else (Fk.j0 k l0 a1 a2 y101 true))) else (Fk.j0 k l0 a1 a2 y101 true)))
theorem Fk.mono_l : ∀ k, (∀ y0 y1 y2 y3 y4, LeO (Fk.j0 k y0 y1 y2 y3 y4) (Fk.j0 (k + 1) y0 y1 y2 y3 y4)) ∧ (∀ y0 y1 y2 y3 y4, LeO (Fk.l0 k y0 y1 y2 y3 y4) (Fk.l0 (k + 1) y0 y1 y2 y3 y4))
  | 0 => ⟨fun _ _ _ _ _ r h => by simp [Fk.j0] at h, fun _ _ _ _ _ r h => by simp [Fk.l0] at h⟩
  | k + 1 => by
    obtain ⟨ih0, ih1⟩ := Fk.mono_l k
    refine ⟨?_, ?_⟩
    · intro y0 y1 y2 y3 y4
      unfold Fk.j0
      repeat' first | (with_reducible first | exact ih0 _ _ _ _ _ | exact ih1 _ _ _ _ _ | exact Fm.mono _ _ | exact LeO.refl _ | exact LeO.none _ | refine LeO.ite ?_ ?_ | refine LeO.bind ?_ (fun _ => ?_)) | exact ih0 _ _ _ _ _ | exact ih1 _ _ _ _ _ | exact Fm.mono _ _ | exact LeO.none _ | refine LeO.ite ?_ ?_ | refine LeO.bind ?_ (fun _ => ?_)
    · intro y0 y1 y2 y3 y4
      unfold Fk.l0
      repeat' first | (with_reducible first | exact ih0 _ _ _ _ _ | exact ih1 _ _ _ _ _ | exact Fm.mono _ _ | exact LeO.refl _ | exact LeO.none _ | refine LeO.ite ?_ ?_ | refine LeO.bind ?_ (fun _ => ?_)) | exact ih0 _ _ _ _ _ | exact ih1 _ _ _ _ _ | exact Fm.mono _ _ | exact LeO.none _ | refine LeO.ite ?_ ?_ | refine LeO.bind ?_ (fun _ => ?_)
theorem Fk.mono : ∀ a0 a1 a2 k, LeO (Fk.f k a0 a1 a2) (Fk.f (k + 1) a0 a1 a2) := by
  intro a0 a1 a2 k
  obtain ⟨ih0, ih1⟩ := Fk.mono_l k
  unfold Fk.f
  repeat' first | (with_reducible first | exact ih0 _ _ _ _ _ | exact ih1 _ _ _ _ _ | exact Fm.mono _ _ | exact LeO.refl _ | exact LeO.none _ | refine LeO.ite ?_ ?_ | refine LeO.bind ?_ (fun _ => ?_)) | exact ih0 _ _ _ _ _ | exact ih1 _ _ _ _ _ | exact Fm.mono _ _ | exact LeO.none _ | refine LeO.ite ?_ ?_ | refine LeO.bind ?_ (fun _ => ?_)
set_option maxHeartbeats 8000000 in
set_option maxRecDepth 100000 in
theorem Fk.calls (k : Nat) (A0 : Option Addr) (c0 : Nat) (l0 : List (S34)) (a1 : Int) (a2 : Int) (r1 : List Int) (r2 : Bool) (w : World) (hr0 : Kd.C k34 w A0 l0.length l0) (hc0 : l0.length ≤ c0) (h : Fk.f k l0 a1 a2 = some (r1, r2)) :
  Calls Tryz.prog 16 #[.slice A0 l0.length c0, .int .i64 a1, .int .i64 a2] w fun e w' => ∃ v0_ : Value, e = .returned (.tuple #[v0_, .bool r2]) ∧ Kd.R (Kd.int .i64) 3 w' w.heap.size (fun _ => True) v0_ r1 ∧ Below w.heap.size w w' := by
 have hu34 := Tryz.underlying34
 have HR0 := Ak hr0
 have HC0 := Ak hc0
 clear hr0 hc0
 have HB := Ak (Below.refl w.heap.size w)
 have H : ((some (([] : List Int) : List Int)).bind fun y101 => ((Fm.f k l0).bind fun t104 => (if t104 = true then ((Far.f a1).bind fun t105 => (if t105 = true then ((Far.f a2).bind fun t106 => (Fk.j0 k l0 a1 a2 y101 (!t106))) else (Fk.j0 k l0 a1 a2 y101 true))) else (Fk.j0 k l0 a1 a2 y101 true)))) = some (r1, r2) := h
 clear h
 obtain ⟨y101, hy101⟩ : ∃ y_ : List Int, y_ = (([] : List Int)) := ⟨_, rfl⟩
 replace H : ((Fm.f k l0).bind fun t104 => (if t104 = true then ((Far.f a1).bind fun t105 => (if t105 = true then ((Far.f a2).bind fun t106 => (Fk.j0 k l0 a1 a2 y101 (!t106))) else (Fk.j0 k l0 a1 a2 y101 true))) else (Fk.j0 k l0 a1 a2 y101 true))) = some (r1, r2) := by first | (rw [hy101]; with_reducible exact H) | (have H2_ := (Option.bind_some _ _).symm.trans H; rw [hy101]; with_reducible exact H2_) | (have H2_ := (Option.bind_some _ _).symm.trans H; with_reducible exact H2_) | with_reducible exact H | (rw [hy101]; exact H) | exact H
 have Ny101 := Ak hy101
 clear hy101
 have HC4 := Ak H
 clear H
 go_enter Tryz.func16, Tryz.ntmps16
 go_upto_region 2 with (first | ((with_reducible refine gate_dst (N := 10) rfl ?_); refine Kd.R_lit (Kd.int .i64) _ 3 ?hg (N := 10) ?hd (xs := ([] : List Int)) (inner := []) (ok := fun _ => True) (okp := fun _ => True) ?hr ?hp (fun _ hk => hk) trivial (Below.refl _ _) (Nat.le_refl _) (by simp) ?_; (case hd => rfl); (case hg => rfl); (case hr => first | (go_simp; done) | (go_simp; rfl)); (case hp => exact (Reps.none _ _)); intro v102 w5 ho6 hb hg_ hnew_; clear hg_ hnew_; (first | rw [← Ny101.out] at ho6 | (simp only [Int.reduceToNat] at ho6; rw [← Ny101.out] at ho6)); have n0_ := Ak (Kd.R_lower ho6 (below_size (by exact eS HB.out))); have n1_ := Ak (below_step (by exact eS HB.out) hb); clear HB; have HO103 := n0_; have HB := n1_; clear n0_ n1_; clear hb ho6))
 (try simp only [Act.put, List.setIfInBounds_toArray, List.set_cons_zero, List.set_cons_succ])
 go_cut [23] (fun v23 wc => ∃ (kq : Nat) (x23_3 : Bool), v23 = .bool x23_3 ∧ Aside0 (Fk.j0 kq l0 a1 a2 y101 x23_3 = some (r1, r2)) ∧ Aside0 (kq ≤ k) ∧ Aside0 (Kd.R (Kd.int .i64) 3 wc w.heap.size (fun _ => True) v102 y101) ∧ Aside0 (Below w.heap.size w wc))
 case first =>
  have H := HC4.out
  clear HC4
  replace H := Option.bind_eq_some_iff.mp H
  obtain ⟨t104, A70, H⟩ := H
  (try dsimp only at H)
  have A7 := Ak A70
  clear A70
  by_cases c8 : t104 = true
  rotate_left
  ·replace c8 := Bool.eq_false_iff.mpr c8
   subst c8
   have H1 : (Fk.j0 k l0 a1 a2 y101 true) = some (r1, r2) := by rw [if_neg (show ¬ (false = true) by decide)] at H; exact H
   clear H
   have H := H1
   clear H1
   have H' := Ak H
   clear H
   go_wp2_with (first | ((with_reducible refine gate_callee (f := 32) rfl ?_); refine goesL_ (some 12) rfl rfl Tryz.func32 (by kernel_rfl) rfl #[.slice A0 l0.length c0] rfl (by (try simp only [List.map_toArray, List.map_cons, List.map_nil]); first | done | rfl | (simp only [List.length_drop, List.length_take]; rfl)) ?_; (with_reducible refine (Fm.calls k _ _ l0 false _ ?side1 ?side2 A7.out).mono ?_); (case side1 => repeat (first | exact (Kd.C_below HR0.out HB.out) | (with_reducible refine Kd.C_alloc ?_ _) | (with_reducible refine Kd.C_drewN ?_ _) | (with_reducible refine Kd.C_drew ?_))); (case side2 => exact HC0.out); rintro e w14 ⟨rfl, hb⟩; refine ⟨_, rfl, ?_⟩; have n0_ := Ak (Kd.R_below (by exact RS <| HO103.out) hb); have n1_ := Ak (below_step (by exact eS HB.out) hb); clear HO103; clear HB; have HO103 := n0_; have HB := n1_; clear n0_ n1_; (try clear hb); (try clear hb2); (try clear hk); (try clear hi)))
   go_meet
   case rel => exact ⟨_, (true), (by first | rfl | (simp; done) | (simp [*]; done)), H', ⟨by first | omega | exact Nat.le_refl _⟩, ⟨by exact RS <| HO103.out⟩, ⟨by exact eS HB.out⟩⟩
  subst c8
  have H1 : ((Far.f a1).bind fun t105 => (if t105 = true then ((Far.f a2).bind fun t106 => (Fk.j0 k l0 a1 a2 y101 (!t106))) else (Fk.j0 k l0 a1 a2 y101 true))) = some (r1, r2) := by rw [if_pos rfl] at H; exact H
  clear H
  have H := H1
  clear H1
  replace H := Option.bind_eq_some_iff.mp H
  obtain ⟨t105, A90, H⟩ := H
  (try dsimp only at H)
  have A9 := Ak A90
  clear A90
  by_cases c10 : t105 = true
  rotate_left
  ·replace c10 := Bool.eq_false_iff.mpr c10
   subst c10
   have H1 : (Fk.j0 k l0 a1 a2 y101 true) = some (r1, r2) := by rw [if_neg (show ¬ (false = true) by decide)] at H; exact H
   clear H
   have H := H1
   clear H1
   have H' := Ak H
   clear H
   go_wp2_with (first | ((with_reducible refine gate_callee (f := 32) rfl ?_); refine goesL_ (some 12) rfl rfl Tryz.func32 (by kernel_rfl) rfl #[.slice A0 l0.length c0] rfl (by (try simp only [List.map_toArray, List.map_cons, List.map_nil]); first | done | rfl | (simp only [List.length_drop, List.length_take]; rfl)) ?_; (with_reducible refine (Fm.calls k _ _ l0 true _ ?side1 ?side2 A7.out).mono ?_); (case side1 => repeat (first | exact (Kd.C_below HR0.out HB.out) | (with_reducible refine Kd.C_alloc ?_ _) | (with_reducible refine Kd.C_drewN ?_ _) | (with_reducible refine Kd.C_drew ?_))); (case side2 => exact HC0.out); rintro e w13 ⟨rfl, hb⟩; refine ⟨_, rfl, ?_⟩; have n0_ := Ak (Kd.R_below (by exact RS <| HO103.out) hb); have n1_ := Ak (below_step (by exact eS HB.out) hb); clear HO103; clear HB; have HO103 := n0_; have HB := n1_; clear n0_ n1_; (try clear hb); (try clear hb2); (try clear hk); (try clear hi)) | (go_at_call 50; (with_reducible refine (Far.calls a1 false _ A9.out).mono ?_); rintro e w' ⟨rfl, ⟨nd, rfl⟩⟩))
   go_meet
   case rel => exact ⟨_, (true), (by first | rfl | (simp; done) | (simp [*]; done)), H', ⟨by first | omega | exact Nat.le_refl _⟩, ⟨by exact RS <| HO103.out⟩, ⟨by exact eS HB.out⟩⟩
  subst c10
  have H1 : ((Far.f a2).bind fun t106 => (Fk.j0 k l0 a1 a2 y101 (!t106))) = some (r1, r2) := by rw [if_pos rfl] at H; exact H
  clear H
  have H := H1
  clear H1
  replace H := Option.bind_eq_some_iff.mp H
  obtain ⟨t106, A110, H⟩ := H
  (try dsimp only at H)
  have A11 := Ak A110
  clear A110
  have H' := Ak H
  clear H
  go_wp2_with (first | ((with_reducible refine gate_callee (f := 32) rfl ?_); refine goesL_ (some 12) rfl rfl Tryz.func32 (by kernel_rfl) rfl #[.slice A0 l0.length c0] rfl (by (try simp only [List.map_toArray, List.map_cons, List.map_nil]); first | done | rfl | (simp only [List.length_drop, List.length_take]; rfl)) ?_; (with_reducible refine (Fm.calls k _ _ l0 true _ ?side1 ?side2 A7.out).mono ?_); (case side1 => repeat (first | exact (Kd.C_below HR0.out HB.out) | (with_reducible refine Kd.C_alloc ?_ _) | (with_reducible refine Kd.C_drewN ?_ _) | (with_reducible refine Kd.C_drew ?_))); (case side2 => exact HC0.out); rintro e w12 ⟨rfl, hb⟩; refine ⟨_, rfl, ?_⟩; have n0_ := Ak (Kd.R_below (by exact RS <| HO103.out) hb); have n1_ := Ak (below_step (by exact eS HB.out) hb); clear HO103; clear HB; have HO103 := n0_; have HB := n1_; clear n0_ n1_; (try clear hb); (try clear hb2); (try clear hk); (try clear hi)) | (go_at_call 50; (with_reducible refine (Far.calls a1 true _ A9.out).mono ?_); rintro e w' ⟨rfl, ⟨nd, rfl⟩⟩) | (go_at_call 50; (with_reducible refine (Far.calls a2 t106 _ A11.out).mono ?_); rintro e w' ⟨rfl, ⟨nd, rfl⟩⟩))
  go_meet
  case rel => exact ⟨_, (!t106), (by first | rfl | (simp; done) | (simp [*]; done)), H', ⟨by first | omega | exact Nat.le_refl _⟩, ⟨by exact RS <| HO103.out⟩, ⟨by exact eS HB.out⟩⟩
 case rest =>
  clear HC4; (try clear c1); (try clear p2); (try clear c3); (try clear c8); (try clear c10)
  obtain ⟨kq, x23_3, rfl, HA, HJ3, HO_8, HB⟩ := hcut
  cases kq with
  | zero => exact absurd HA.out (by simp [Fk.j0])
  | succ kj3 =>
   have H := HA.out
   clear HA
   simp only [Fk.j0] at H
   by_cases c15 : x23_3 = true
   ·subst c15
    have H1 : (some (y101, false)) = some (r1, r2) := by rw [if_pos rfl] at H; exact H
    clear H
    have H := H1
    clear H1
    simp only [Option.some.injEq, Prod.mk.injEq] at H
    obtain ⟨rfl, rfl⟩ := H
    go_wp2
    go_ret2
    exact ⟨_, by first | rfl | (simp [errW_none, errW_some] <;> rfl) | (simp [*, errW_none, errW_some] <;> rfl), by exact RS <| HO_8.out, by exact eS HB.out⟩
   replace c15 := Bool.eq_false_iff.mpr c15
   subst c15
   have H1 : (Fk.l0 kj3 l0 a1 a2 y101 0) = some (r1, r2) := by rw [if_neg (show ¬ (false = true) by decide)] at H; exact H
   clear H
   have H := H1
   clear H1
   have H' := Ak H
   clear H
   go_wp2
   go_loopg [8, 9] kj3 (fun kq v8 v9 w' => ∃ (x8_2 : List Int) (x9_2 : Int), v9 = .int .i64 x9_2 ∧ Aside0 (Fk.l0 kq l0 a1 a2 x8_2 x9_2 = some (r1, r2)) ∧ Aside0 (kq ≤ kj3) ∧ Aside0 (Kd.R (Kd.int .i64) 3 w' w.heap.size (fun _ => True) v8 x8_2) ∧ Aside0 (Below w.heap.size w w'))
   case atStart => exact ⟨(y101), (0), (by first | rfl | (simp; done) | (simp [*]; done)), H', ⟨Nat.le_refl _⟩, ⟨by exact RS <| HO_8.out⟩, ⟨by exact eS HB.out⟩⟩
   case round =>
    clear H'; (try clear c1); (try clear p2); (try clear c3); (try clear c8); (try clear c10); (try clear c15); (try clear p2)
    obtain ⟨x8_2, x9_2, rfl, HA, HK2, HO_8, HB⟩ := hrel
    cases gk with
    | zero => exact absurd HA.out (by simp [Fk.l0])
    | succ k2 =>
     have H := HA.out
     clear HA
     simp only [Fk.l0] at H
     by_cases c16 : x9_2 < (l0.length : Int)
     rotate_left
     ·rw [if_neg c16] at H
      have c16b0 : decide (x9_2 < (l0.length : Int)) = false := decide_eq_false c16
      clear c16
      simp only [Option.some.injEq, Prod.mk.injEq] at H
      obtain ⟨rfl, rfl⟩ := H
      go_wp2
      go_ret2
      exact ⟨_, by first | rfl | (simp [errW_none, errW_some] <;> rfl) | (simp [*, errW_none, errW_some] <;> rfl), by exact RS <| HO_8.out, by exact eS HB.out⟩
     rw [if_pos c16] at H
     have c16b0 : decide (x9_2 < (l0.length : Int)) = true := decide_eq_true c16
     clear c16
     by_cases c17 : 0 ≤ x9_2
     rotate_left
     ·rw [if_neg c17] at H
      exact absurd H (by simp)
     rw [if_pos c17] at H
     have c17b0 : decide (0 ≤ x9_2) = true := decide_eq_true c17
     clear c17
     by_cases c18 : ((rd_T34 l0 x9_2).f7) > a1
     ·rw [if_pos c18] at H
      have c18b0 : decide (a1 < ((rd_T34 l0 x9_2).f7)) = true := decide_eq_true c18
      clear c18
      obtain ⟨y108, hy108⟩ : ∃ y_ : List Int, y_ = (([] : List Int)) := ⟨_, rfl⟩
      replace H : (some (y108, false)) = some (r1, r2) := by first | (rw [hy108]; with_reducible exact H) | (have H2_ := (Option.bind_some _ _).symm.trans H; rw [hy108]; with_reducible exact H2_) | (have H2_ := (Option.bind_some _ _).symm.trans H; with_reducible exact H2_) | with_reducible exact H | (rw [hy108]; exact H) | exact H
      have Ny108 := Ak hy108
      clear hy108
      simp only [Option.some.injEq, Prod.mk.injEq] at H
      obtain ⟨rfl, rfl⟩ := H
      have p107 : 0 ≤ (x9_2 : Int) := of_decide_eq_true (by first | (with_reducible assumption) | assumption)
      have q107 : x9_2 < (l0.length : Int) := of_decide_eq_true (by first | (with_reducible assumption) | assumption)
      obtain ⟨ad107, e107, hx107_0, hx107_1, hx107_2, hx107_3, hx107_4, hx107_5, hx107_6, hx107_7⟩ := at_T34 HR0.out x9_2 p107 q107
      cases e107
      replace hx107_0 := Sq.cB HB.out hx107_0
      replace hx107_1 := Sq.cB HB.out hx107_1
      replace hx107_2 := Sq.cB HB.out hx107_2
      replace hx107_3 := Sq.cB HB.out hx107_3
      replace hx107_4 := Sq.cB HB.out hx107_4
      replace hx107_5 := Sq.cB HB.out hx107_5
      replace hx107_6 := Sq.cB HB.out hx107_6
      replace hx107_7 := Sq.cB HB.out hx107_7
      replace p107 := eq_true p107; replace q107 := eq_true q107
      go_wp2_with (first | ((with_reducible refine gate_dst (N := 38) rfl ?_); refine Kd.R_lit (Kd.int .i64) _ 3 ?hg (N := 38) ?hd (xs := ([] : List Int)) (inner := []) (ok := fun _ => True) (okp := fun _ => True) ?hr ?hp (fun _ hk => hk) trivial (Below.refl _ _) (Nat.le_refl _) (by simp) ?_; (case hd => rfl); (case hg => rfl); (case hr => first | (go_simp; done) | (go_simp; rfl)); (case hp => exact (Reps.none _ _)); intro v109 w19 ho20 hb hg_ hnew_; clear hg_ hnew_; (first | rw [← Ny108.out] at ho20 | (simp only [Int.reduceToNat] at ho20; rw [← Ny108.out] at ho20)); have n0_ := Ak (Kd.R_elder' (by exact RS <| HO_8.out) (Kd.R_base ho20) hb); have n1_ := Ak (Kd.R_lower (Kd.R_new' ho20 (Kd.R_lt (by exact RS <| HO_8.out))) (below_size (by exact eS HB.out))); have n2_ := Ak (below_step (by exact eS HB.out) hb); clear HO_8; clear HB; have HO_8 := n0_; have HO110 := n1_; have HB := n2_; clear n0_ n1_ n2_; clear hb ho20))
      go_ret2
      exact ⟨_, by first | rfl | (simp [errW_none, errW_some] <;> rfl) | (simp [*, errW_none, errW_some] <;> rfl), by exact RS <| Kd.R_mono HO110.out (fun _ hk => trivial), by exact eS HB.out⟩
     rw [if_neg c18] at H
     have c18b0 : decide (a1 < ((rd_T34 l0 x9_2).f7)) = false := decide_eq_false c18
     clear c18
     replace H := Option.bind_eq_some_iff.mp H
     obtain ⟨t112, A210, H⟩ := H
     (try dsimp only at H)
     have A21 := Ak A210
     clear A210
     by_cases c22 : t112 = true
     rotate_left
     ·replace c22 := Bool.eq_false_iff.mpr c22
      subst c22
      have H1 : (Fk.l0 k2 l0 a1 a2 x8_2 (wrap64 (x9_2 + 1))) = some (r1, r2) := by rw [if_neg (show ¬ (false = true) by decide)] at H; exact H
      clear H
      have H := H1
      clear H1
      have H' := Ak H
      clear H
      have p107 : 0 ≤ (x9_2 : Int) := of_decide_eq_true (by first | (with_reducible assumption) | assumption)
      have q107 : x9_2 < (l0.length : Int) := of_decide_eq_true (by first | (with_reducible assumption) | assumption)
      obtain ⟨ad107, e107, hx107_0, hx107_1, hx107_2, hx107_3, hx107_4, hx107_5, hx107_6, hx107_7⟩ := at_T34 HR0.out x9_2 p107 q107
      cases e107
      replace hx107_0 := Sq.cB HB.out hx107_0
      replace hx107_1 := Sq.cB HB.out hx107_1
      replace hx107_2 := Sq.cB HB.out hx107_2
      replace hx107_3 := Sq.cB HB.out hx107_3
      replace hx107_4 := Sq.cB HB.out hx107_4
      replace hx107_5 := Sq.cB HB.out hx107_5
      replace hx107_6 := Sq.cB HB.out hx107_6
      replace hx107_7 := Sq.cB HB.out hx107_7
      replace p107 := eq_true p107; replace q107 := eq_true q107
      have p111 : 0 ≤ (x9_2 : Int) := of_decide_eq_true (by first | (with_reducible assumption) | assumption)
      have q111 : x9_2 < (l0.length : Int) := of_decide_eq_true (by first | (with_reducible assumption) | assumption)
      obtain ⟨ad111, e111, hx111_0, hx111_1, hx111_2, hx111_3, hx111_4, hx111_5, hx111_6, hx111_7⟩ := at_T34 HR0.out x9_2 p111 q111
      obtain rfl : ad107 = ad111 := (by injection e111)
      replace hx111_0 := Sq.cB HB.out hx111_0
      replace hx111_1 := Sq.cB HB.out hx111_1
      replace hx111_2 := Sq.cB HB.out hx111_2
      replace hx111_3 := Sq.cB HB.out hx111_3
      replace hx111_4 := Sq.cB HB.out hx111_4
      replace hx111_5 := Sq.cB HB.out hx111_5
      replace hx111_6 := Sq.cB HB.out hx111_6
      replace hx111_7 := Sq.cB HB.out hx111_7
      replace p111 := eq_true p111; replace q111 := eq_true q111
      go_wp2_with (first | ((with_reducible refine gate_callee (f := 51) rfl ?_); refine goesL_ (some 43) rfl rfl Tryz.func51 (by kernel_rfl) rfl #[.agg #[.int .i64 ((rd_T34 l0 x9_2).f0), .string ((rd_T34 l0 x9_2).f1), .int .i64 ((rd_T34 l0 x9_2).f2), .int .i64 ((rd_T34 l0 x9_2).f3), .int .i64 ((rd_T34 l0 x9_2).f4), .int .i64 ((rd_T34 l0 x9_2).f5), .int .i64 ((rd_T34 l0 x9_2).f6), .int .i64 ((rd_T34 l0 x9_2).f7)]] rfl (by (try simp only [List.map_toArray, List.map_cons, List.map_nil]); first | done | rfl | (simp only [List.length_drop, List.length_take]; rfl)) ?_; (with_reducible refine (Fbp.calls ((rd_T34 l0 x9_2).f0) ((rd_T34 l0 x9_2).f1) ((rd_T34 l0 x9_2).f2) ((rd_T34 l0 x9_2).f3) ((rd_T34 l0 x9_2).f4) ((rd_T34 l0 x9_2).f5) ((rd_T34 l0 x9_2).f6) ((rd_T34 l0 x9_2).f7) false _ A21.out).mono ?_); rintro e w28 ⟨rfl, hb⟩; refine ⟨_, rfl, ?_⟩; have n0_ := Ak (Kd.R_below (by exact RS <| HO_8.out) hb); have n1_ := Ak (below_step (by exact eS HB.out) hb); clear HO_8; clear HB; have HO_8 := n0_; have HB := n1_; clear n0_ n1_; (try clear hb); (try clear hb2); (try clear hk); (try clear hi)))
      go_roundg k2
      case measure => have := HJ3.out; have := HK2.out; omega
      case rel => exact ⟨(x8_2), (wrap64 (x9_2 + 1)), (by first | rfl | (simp; done) | (simp [*]; done)), H', ⟨by have := HJ3.out; have := HK2.out; omega⟩, ⟨by exact RS <| HO_8.out⟩, ⟨by exact eS HB.out⟩⟩
     subst c22
     have H1 : (if (wrap64 (a1 - ((rd_T34 l0 x9_2).f7))) > a2 then (if x8_2.length < 17592186044416 then (Fk.l0 k2 l0 a1 a2 (x8_2 ++ [(rd_T34 l0 x9_2).f0]) (wrap64 (x9_2 + 1))) else (none)) else (Fk.l0 k2 l0 a1 a2 x8_2 (wrap64 (x9_2 + 1)))) = some (r1, r2) := by rw [if_pos rfl] at H; exact H
     clear H
     have H := H1
     clear H1
     by_cases c23 : (wrap64 (a1 - ((rd_T34 l0 x9_2).f7))) > a2
     rotate_left
     ·rw [if_neg c23] at H
      have c23b0 : decide (a2 < (wrap64 (a1 - ((rd_T34 l0 x9_2).f7)))) = false := decide_eq_false c23
      clear c23
      have H' := Ak H
      clear H
      have p107 : 0 ≤ (x9_2 : Int) := of_decide_eq_true (by first | (with_reducible assumption) | assumption)
      have q107 : x9_2 < (l0.length : Int) := of_decide_eq_true (by first | (with_reducible assumption) | assumption)
      obtain ⟨ad107, e107, hx107_0, hx107_1, hx107_2, hx107_3, hx107_4, hx107_5, hx107_6, hx107_7⟩ := at_T34 HR0.out x9_2 p107 q107
      cases e107
      replace hx107_0 := Sq.cB HB.out hx107_0
      replace hx107_1 := Sq.cB HB.out hx107_1
      replace hx107_2 := Sq.cB HB.out hx107_2
      replace hx107_3 := Sq.cB HB.out hx107_3
      replace hx107_4 := Sq.cB HB.out hx107_4
      replace hx107_5 := Sq.cB HB.out hx107_5
      replace hx107_6 := Sq.cB HB.out hx107_6
      replace hx107_7 := Sq.cB HB.out hx107_7
      replace p107 := eq_true p107; replace q107 := eq_true q107
      have p111 : 0 ≤ (x9_2 : Int) := of_decide_eq_true (by first | (with_reducible assumption) | assumption)
      have q111 : x9_2 < (l0.length : Int) := of_decide_eq_true (by first | (with_reducible assumption) | assumption)
      obtain ⟨ad111, e111, hx111_0, hx111_1, hx111_2, hx111_3, hx111_4, hx111_5, hx111_6, hx111_7⟩ := at_T34 HR0.out x9_2 p111 q111
      obtain rfl : ad107 = ad111 := (by injection e111)
      replace hx111_0 := Sq.cB HB.out hx111_0
      replace hx111_1 := Sq.cB HB.out hx111_1
      replace hx111_2 := Sq.cB HB.out hx111_2
      replace hx111_3 := Sq.cB HB.out hx111_3
      replace hx111_4 := Sq.cB HB.out hx111_4
      replace hx111_5 := Sq.cB HB.out hx111_5
      replace hx111_6 := Sq.cB HB.out hx111_6
      replace hx111_7 := Sq.cB HB.out hx111_7
      replace p111 := eq_true p111; replace q111 := eq_true q111
      go_wp2_with (first | ((with_reducible refine gate_callee (f := 51) rfl ?_); refine goesL_ (some 43) rfl rfl Tryz.func51 (by kernel_rfl) rfl #[.agg #[.int .i64 ((rd_T34 l0 x9_2).f0), .string ((rd_T34 l0 x9_2).f1), .int .i64 ((rd_T34 l0 x9_2).f2), .int .i64 ((rd_T34 l0 x9_2).f3), .int .i64 ((rd_T34 l0 x9_2).f4), .int .i64 ((rd_T34 l0 x9_2).f5), .int .i64 ((rd_T34 l0 x9_2).f6), .int .i64 ((rd_T34 l0 x9_2).f7)]] rfl (by (try simp only [List.map_toArray, List.map_cons, List.map_nil]); first | done | rfl | (simp only [List.length_drop, List.length_take]; rfl)) ?_; (with_reducible refine (Fbp.calls ((rd_T34 l0 x9_2).f0) ((rd_T34 l0 x9_2).f1) ((rd_T34 l0 x9_2).f2) ((rd_T34 l0 x9_2).f3) ((rd_T34 l0 x9_2).f4) ((rd_T34 l0 x9_2).f5) ((rd_T34 l0 x9_2).f6) ((rd_T34 l0 x9_2).f7) true _ A21.out).mono ?_); rintro e w27 ⟨rfl, hb⟩; refine ⟨_, rfl, ?_⟩; have n0_ := Ak (Kd.R_below (by exact RS <| HO_8.out) hb); have n1_ := Ak (below_step (by exact eS HB.out) hb); clear HO_8; clear HB; have HO_8 := n0_; have HB := n1_; clear n0_ n1_; (try clear hb); (try clear hb2); (try clear hk); (try clear hi); have p113 : 0 ≤ (x9_2 : Int) := of_decide_eq_true (by first | (with_reducible assumption) | assumption); have q113 : x9_2 < (l0.length : Int) := of_decide_eq_true (by first | (with_reducible assumption) | assumption); obtain ⟨ad113, e113, hx113_0, hx113_1, hx113_2, hx113_3, hx113_4, hx113_5, hx113_6, hx113_7⟩ := at_T34 HR0.out x9_2 p113 q113; obtain rfl : ad107 = ad113 := (by injection e113); replace hx113_0 := Sq.cB HB.out hx113_0; replace hx113_1 := Sq.cB HB.out hx113_1; replace hx113_2 := Sq.cB HB.out hx113_2; replace hx113_3 := Sq.cB HB.out hx113_3; replace hx113_4 := Sq.cB HB.out hx113_4; replace hx113_5 := Sq.cB HB.out hx113_5; replace hx113_6 := Sq.cB HB.out hx113_6; replace hx113_7 := Sq.cB HB.out hx113_7; replace p113 := eq_true p113; replace q113 := eq_true q113))
      go_roundg k2
      case measure => have := HJ3.out; have := HK2.out; omega
      case rel => exact ⟨(x8_2), (wrap64 (x9_2 + 1)), (by first | rfl | (simp; done) | (simp [*]; done)), H', ⟨by have := HJ3.out; have := HK2.out; omega⟩, ⟨by exact RS <| HO_8.out⟩, ⟨by exact eS HB.out⟩⟩
     rw [if_pos c23] at H
     have c23b0 : decide (a2 < (wrap64 (a1 - ((rd_T34 l0 x9_2).f7)))) = true := decide_eq_true c23
     clear c23
     by_cases c24 : x8_2.length < 17592186044416
     rotate_left
     ·rw [if_neg c24] at H
      exact absurd H (by simp)
     rw [if_pos c24] at H
     have LMc24 := Ak c24
     clear c24
     obtain ⟨y115, hy115⟩ : ∃ y_ : List Int, y_ = (x8_2 ++ [(rd_T34 l0 x9_2).f0]) := ⟨_, rfl⟩
     replace H : (Fk.l0 k2 l0 a1 a2 y115 (wrap64 (x9_2 + 1))) = some (r1, r2) := by first | (rw [hy115]; with_reducible exact H) | (have H2_ := (Option.bind_some _ _).symm.trans H; rw [hy115]; with_reducible exact H2_) | (have H2_ := (Option.bind_some _ _).symm.trans H; with_reducible exact H2_) | with_reducible exact H | (rw [hy115]; exact H) | exact H
     have Ny115 := Ak hy115
     clear hy115
     have H' := Ak H
     clear H
     have p107 : 0 ≤ (x9_2 : Int) := of_decide_eq_true (by first | (with_reducible assumption) | assumption)
     have q107 : x9_2 < (l0.length : Int) := of_decide_eq_true (by first | (with_reducible assumption) | assumption)
     obtain ⟨ad107, e107, hx107_0, hx107_1, hx107_2, hx107_3, hx107_4, hx107_5, hx107_6, hx107_7⟩ := at_T34 HR0.out x9_2 p107 q107
     cases e107
     replace hx107_0 := Sq.cB HB.out hx107_0
     replace hx107_1 := Sq.cB HB.out hx107_1
     replace hx107_2 := Sq.cB HB.out hx107_2
     replace hx107_3 := Sq.cB HB.out hx107_3
     replace hx107_4 := Sq.cB HB.out hx107_4
     replace hx107_5 := Sq.cB HB.out hx107_5
     replace hx107_6 := Sq.cB HB.out hx107_6
     replace hx107_7 := Sq.cB HB.out hx107_7
     replace p107 := eq_true p107; replace q107 := eq_true q107
     have p111 : 0 ≤ (x9_2 : Int) := of_decide_eq_true (by first | (with_reducible assumption) | assumption)
     have q111 : x9_2 < (l0.length : Int) := of_decide_eq_true (by first | (with_reducible assumption) | assumption)
     obtain ⟨ad111, e111, hx111_0, hx111_1, hx111_2, hx111_3, hx111_4, hx111_5, hx111_6, hx111_7⟩ := at_T34 HR0.out x9_2 p111 q111
     obtain rfl : ad107 = ad111 := (by injection e111)
     replace hx111_0 := Sq.cB HB.out hx111_0
     replace hx111_1 := Sq.cB HB.out hx111_1
     replace hx111_2 := Sq.cB HB.out hx111_2
     replace hx111_3 := Sq.cB HB.out hx111_3
     replace hx111_4 := Sq.cB HB.out hx111_4
     replace hx111_5 := Sq.cB HB.out hx111_5
     replace hx111_6 := Sq.cB HB.out hx111_6
     replace hx111_7 := Sq.cB HB.out hx111_7
     replace p111 := eq_true p111; replace q111 := eq_true q111
     go_wp2_with (first | ((with_reducible refine gate_callee (f := 51) rfl ?_); refine goesL_ (some 43) rfl rfl Tryz.func51 (by kernel_rfl) rfl #[.agg #[.int .i64 ((rd_T34 l0 x9_2).f0), .string ((rd_T34 l0 x9_2).f1), .int .i64 ((rd_T34 l0 x9_2).f2), .int .i64 ((rd_T34 l0 x9_2).f3), .int .i64 ((rd_T34 l0 x9_2).f4), .int .i64 ((rd_T34 l0 x9_2).f5), .int .i64 ((rd_T34 l0 x9_2).f6), .int .i64 ((rd_T34 l0 x9_2).f7)]] rfl (by (try simp only [List.map_toArray, List.map_cons, List.map_nil]); first | done | rfl | (simp only [List.length_drop, List.length_take]; rfl)) ?_; (with_reducible refine (Fbp.calls ((rd_T34 l0 x9_2).f0) ((rd_T34 l0 x9_2).f1) ((rd_T34 l0 x9_2).f2) ((rd_T34 l0 x9_2).f3) ((rd_T34 l0 x9_2).f4) ((rd_T34 l0 x9_2).f5) ((rd_T34 l0 x9_2).f6) ((rd_T34 l0 x9_2).f7) true _ A21.out).mono ?_); rintro e w25 ⟨rfl, hb⟩; refine ⟨_, rfl, ?_⟩; have n0_ := Ak (Kd.R_below (by exact RS <| HO_8.out) hb); have n1_ := Ak (below_step (by exact eS HB.out) hb); clear HO_8; clear HB; have HO_8 := n0_; have HB := n1_; clear n0_ n1_; (try clear hb); (try clear hb2); (try clear hk); (try clear hi); have p113 : 0 ≤ (x9_2 : Int) := of_decide_eq_true (by first | (with_reducible assumption) | assumption); have q113 : x9_2 < (l0.length : Int) := of_decide_eq_true (by first | (with_reducible assumption) | assumption); obtain ⟨ad113, e113, hx113_0, hx113_1, hx113_2, hx113_3, hx113_4, hx113_5, hx113_6, hx113_7⟩ := at_T34 HR0.out x9_2 p113 q113; obtain rfl : ad107 = ad113 := (by injection e113); replace hx113_0 := Sq.cB HB.out hx113_0; replace hx113_1 := Sq.cB HB.out hx113_1; replace hx113_2 := Sq.cB HB.out hx113_2; replace hx113_3 := Sq.cB HB.out hx113_3; replace hx113_4 := Sq.cB HB.out hx113_4; replace hx113_5 := Sq.cB HB.out hx113_5; replace hx113_6 := Sq.cB HB.out hx113_6; replace hx113_7 := Sq.cB HB.out hx113_7; replace p113 := eq_true p113; replace q113 := eq_true q113; have p114 : 0 ≤ (x9_2 : Int) := of_decide_eq_true (by first | (with_reducible assumption) | assumption); have q114 : x9_2 < (l0.length : Int) := of_decide_eq_true (by first | (with_reducible assumption) | assumption); obtain ⟨ad114, e114, hx114_0, hx114_1, hx114_2, hx114_3, hx114_4, hx114_5, hx114_6, hx114_7⟩ := at_T34 HR0.out x9_2 p114 q114; obtain rfl : ad107 = ad114 := (by injection e114); replace hx114_0 := Sq.cB HB.out hx114_0; replace hx114_1 := Sq.cB HB.out hx114_1; replace hx114_2 := Sq.cB HB.out hx114_2; replace hx114_3 := Sq.cB HB.out hx114_3; replace hx114_4 := Sq.cB HB.out hx114_4; replace hx114_5 := Sq.cB HB.out hx114_5; replace hx114_6 := Sq.cB HB.out hx114_6; replace hx114_7 := Sq.cB HB.out hx114_7; replace p114 := eq_true p114; replace q114 := eq_true q114) | ((with_reducible refine gate_builtin (b := .append) (xs := #[.tmp 55, .tmp 61]) rfl ?_); at_builtin; refine Kd.R_append (Kd.int .i64) (w0 := w) w.heap.size rfl (.tmp 55) (.tmp 61) 27 3 (.int .i64 0) 8 rfl Tryz.underlying27 info3 rfl (by decide) (by omega) u8 x8_2 ((rd_T34 l0 x9_2).f0) [.int .i64 ((rd_T34 l0 x9_2).f0)] (fun _ => True) (fun _ => False) rfl rfl ?aP (fun _ hk => hk.elim) ?aF ?aO ?aB ?aS ?aL ?_; (case aP => exact rfl); (case aB => exact (by exact eS HB.out)); (case aF => exact (fun _ _ => trivial)); (case aO => exact (by exact RS <| HO_8.out)); (case aS => exact (below_size (by exact eS HB.out))); (case aL => have := LMc24.out; omega); intro v116 w26 ho hb hg hat; rw [← Ny115.out] at ho; have n0_ := Ak (hb); have n1_ := Ak (ho); clear HB; clear HO_8; have HB := n0_; have HO117 := n1_; clear n0_ n1_; clear ho hb hg hat))
     go_roundg k2
     case measure => have := HJ3.out; have := HK2.out; omega
     case rel => exact ⟨(y115), (wrap64 (x9_2 + 1)), (by first | rfl | (simp; done) | (simp [*]; done)), H', ⟨by have := HJ3.out; have := HK2.out; omega⟩, ⟨by exact RS <| HO117.out⟩, ⟨by exact eS HB.out⟩⟩
open Sq (I O Z Dz)
attribute [local go_sem ↓] Ho.isSome_setCell_   -- a store leaves all places there
/-! ### Fd: function 3 -/
mutual
def Fd.j0 : Nat → List Int → List (S34) → List ByteArray → List Int → Bool → Bool → Option (Bool)
  | 0, _, _, _, _, _, _ => none
  | k + 1, x0, x3, x4, x5, x6, x71 => if x71 = true then (some false) else (Fd.l0 k x0 x3 x4 x5 x6 0 0 0)
def Fd.l0 : Nat → List Int → List (S34) → List ByteArray → List Int → Bool → Int → Int → Int → Option (Bool)
  | 0, _, _, _, _, _, _, _, _ => none
  | k + 1, x0, x3, x4, x5, x6, x10, x11, x12 => if x12 < (x3.length : Int) then (Fd.j2 k x0 x3 x4 x5 x6 x10 x11 x12 x6) else (Fd.j2 k x0 x3 x4 x5 x6 x10 x11 x12 false)
def Fd.j2 : Nat → List Int → List (S34) → List ByteArray → List Int → Bool → Int → Int → Int → Bool → Option (Bool)
  | 0, _, _, _, _, _, _, _, _, _ => none
  | k + 1, x0, x3, x4, x5, x6, x10, x11, x12, x78 => if x78 = true then (if 0 ≤ x12 then (if x12 < (x3.length : Int) then ((Fy.f k x4 ((rd_T34 x3 x12).f1)).bind fun t124 => (if t124 = true then (Fd.l0 k x0 x3 x4 x5 x6 (wrap64 (x10 + ((rd_T34 x3 x12).f6))) x11 (wrap64 (x12 + 1))) else (some false))) else (none)) else (none)) else (Fd.l1 k x0 x3 x5 x6 x10 x11 0)
def Fd.l1 : Nat → List Int → List (S34) → List Int → Bool → Int → Int → Int → Option (Bool)
  | 0, _, _, _, _, _, _, _ => none
  | k + 1, x0, x3, x5, x6, x10, x11, x13 => if x13 ≤ 5 then ((Faa.f k x3 x13).bind fun bt125 => (if (bt125.2 != x6) = true then (some false) else (Fd.l1 k x0 x3 x5 x6 x10 (wrap64 (x11 + (bt125.1.length : Int))) (wrap64 (x13 + 1))))) else (if x6 = true then ((Fak.f k x5).bind fun t129 => (if t129 = x10 then (Fd.j4 k x0 (x11 != (x3.length : Int))) else (Fd.j4 k x0 true))) else (Fd.j4 k x0 false))
def Fd.j4 : Nat → List Int → Bool → Option (Bool)
  | 0, _, _ => none
  | k + 1, x0, x125 => if x125 = true then (some false) else ((Fw.f k x0).bind fun bt130 => ((Fn.f k bt130.1 bt130.2.1 bt130.2.2).bind fun bt135 => ((Fk.f k bt130.1 bt130.2.1 bt130.2.2).bind fun bt139 => (if (bt135.2 != bt139.2) = true then (Fd.j5 k x0 true) else ((Fad.f k bt135.1 bt139.1).bind fun t143 => (Fd.j5 k x0 (!t143)))))))
def Fd.j5 : Nat → List Int → Bool → Option (Bool)
  | 0, _, _ => none
  | k + 1, x0, x154 => if x154 = true then (some false) else ((Fac.f k x0).bind fun bt144 => ((Fp.f k bt144.1 bt144.2).bind fun bt148 => ((Fq.f k bt144.1 bt144.2).bind fun bt150 => (if bt148.1 = bt150.1 then (if (bt148.2 != bt150.2) = true then (Fd.j6 k x0 true) else (Fd.j6 k x0 (decide (bt148.1 < 0)))) else (Fd.j6 k x0 true)))))
def Fd.j6 : Nat → List Int → Bool → Option (Bool)
  | 0, _, _ => none
  | k + 1, x0, x183 => if x183 = true then (some false) else ((Fx.f k x0).bind fun t152 => ((Fr.f k t152).bind fun bt155 => ((Fs.f k t152).bind fun bt157 => ((Fbb.f x0).bind fun bt159 => (if bt155.1 = bt157.1 then (if (bt155.2 == bt157.2) = true then ((Fl.f k bt159.1 bt159.2.1 bt159.2.2.1 bt159.2.2.2.1 bt159.2.2.2.2.1 bt159.2.2.2.2.2.1 bt159.2.2.2.2.2.2.1 bt159.2.2.2.2.2.2.2).bind fun t168 => ((Faf.f k bt159.1 bt159.2.1 bt159.2.2.1 bt159.2.2.2.1 bt159.2.2.2.2.1 bt159.2.2.2.2.2.1 bt159.2.2.2.2.2.2.1 bt159.2.2.2.2.2.2.2).bind fun t169 => (some (t168 == t169)))) else (some false)) else (some false))))))
end
def Fd.f (k : Nat) (l0 : List Int) : Option (Bool) := (Fbq.f l0).bind fun t101 => (if t101 = true then (some true) else ((Fu.f k l0).bind fun t102 => ((Fv.f k t102).bind fun bt105 => ((Fc.f k t102).bind fun bt112 => (if (bt105.2.2 != bt112.2.2) = true then (Fd.j0 k l0 t102 bt105.1 bt105.2.1 bt105.2.2 true) else ((Fab.f k bt105.1 bt112.1).bind fun t119 => (if t119 = true then ((Fad.f k bt105.2.1 bt112.2.1).bind fun t120 => (if t120 = true then ((Fi.f k t102).bind fun t121 => (Fd.j0 k l0 t102 bt105.1 bt105.2.1 bt105.2.2 (bt105.2.2 != t121))) else (Fd.j0 k l0 t102 bt105.1 bt105.2.1 bt105.2.2 true))) else (Fd.j0 k l0 t102 bt105.1 bt105.2.1 bt105.2.2 true))))))))
theorem Fd.mono_l : ∀ k, (∀ y0 y1 y2 y3 y4 y5, LeO (Fd.j0 k y0 y1 y2 y3 y4 y5) (Fd.j0 (k + 1) y0 y1 y2 y3 y4 y5)) ∧ (∀ y0 y1 y2 y3 y4 y5 y6 y7, LeO (Fd.l0 k y0 y1 y2 y3 y4 y5 y6 y7) (Fd.l0 (k + 1) y0 y1 y2 y3 y4 y5 y6 y7)) ∧ (∀ y0 y1 y2 y3 y4 y5 y6 y7 y8, LeO (Fd.j2 k y0 y1 y2 y3 y4 y5 y6 y7 y8) (Fd.j2 (k + 1) y0 y1 y2 y3 y4 y5 y6 y7 y8)) ∧ (∀ y0 y1 y2 y3 y4 y5 y6, LeO (Fd.l1 k y0 y1 y2 y3 y4 y5 y6) (Fd.l1 (k + 1) y0 y1 y2 y3 y4 y5 y6)) ∧ (∀ y0 y1, LeO (Fd.j4 k y0 y1) (Fd.j4 (k + 1) y0 y1)) ∧ (∀ y0 y1, LeO (Fd.j5 k y0 y1) (Fd.j5 (k + 1) y0 y1)) ∧ (∀ y0 y1, LeO (Fd.j6 k y0 y1) (Fd.j6 (k + 1) y0 y1))
  | 0 => ⟨fun _ _ _ _ _ _ r h => by simp [Fd.j0] at h, fun _ _ _ _ _ _ _ _ r h => by simp [Fd.l0] at h, fun _ _ _ _ _ _ _ _ _ r h => by simp [Fd.j2] at h, fun _ _ _ _ _ _ _ r h => by simp [Fd.l1] at h, fun _ _ r h => by simp [Fd.j4] at h, fun _ _ r h => by simp [Fd.j5] at h, fun _ _ r h => by simp [Fd.j6] at h⟩
  | k + 1 => by
    obtain ⟨ih0, ih1, ih2, ih3, ih4, ih5, ih6⟩ := Fd.mono_l k
    refine ⟨?_, ?_, ?_, ?_, ?_, ?_, ?_⟩
    · intro y0 y1 y2 y3 y4 y5
      unfold Fd.j0
      repeat' first | (with_reducible first | exact ih0 _ _ _ _ _ _ | exact ih1 _ _ _ _ _ _ _ _ | exact ih2 _ _ _ _ _ _ _ _ _ | exact ih3 _ _ _ _ _ _ _ | exact ih4 _ _ | exact ih5 _ _ | exact ih6 _ _ | exact Fi.mono _ _ | exact Fr.mono _ _ | exact Faa.mono _ _ _ | exact Fv.mono _ _ | exact Fl.mono _ _ _ _ _ _ _ _ _ | exact Fp.mono _ _ _ | exact Fn.mono _ _ _ _ | exact Fy.mono _ _ _ | exact Fad.mono _ _ _ | exact Fak.mono _ _ | exact Fab.mono _ _ _ | exact Fs.mono _ _ | exact Fc.mono _ _ | exact Fx.mono _ _ | exact Fu.mono _ _ | exact Fac.mono _ _ | exact Fw.mono _ _ | exact Faf.mono _ _ _ _ _ _ _ _ _ | exact Fq.mono _ _ _ | exact Fk.mono _ _ _ _ | exact LeO.refl _ | exact LeO.none _ | refine LeO.ite ?_ ?_ | refine LeO.bind ?_ (fun _ => ?_)) | exact ih0 _ _ _ _ _ _ | exact ih1 _ _ _ _ _ _ _ _ | exact ih2 _ _ _ _ _ _ _ _ _ | exact ih3 _ _ _ _ _ _ _ | exact ih4 _ _ | exact ih5 _ _ | exact ih6 _ _ | exact Fi.mono _ _ | exact Fr.mono _ _ | exact Faa.mono _ _ _ | exact Fv.mono _ _ | exact Fl.mono _ _ _ _ _ _ _ _ _ | exact Fp.mono _ _ _ | exact Fn.mono _ _ _ _ | exact Fy.mono _ _ _ | exact Fad.mono _ _ _ | exact Fak.mono _ _ | exact Fab.mono _ _ _ | exact Fs.mono _ _ | exact Fc.mono _ _ | exact Fx.mono _ _ | exact Fu.mono _ _ | exact Fac.mono _ _ | exact Fw.mono _ _ | exact Faf.mono _ _ _ _ _ _ _ _ _ | exact Fq.mono _ _ _ | exact Fk.mono _ _ _ _ | exact LeO.none _ | refine LeO.ite ?_ ?_ | refine LeO.bind ?_ (fun _ => ?_)
    · intro y0 y1 y2 y3 y4 y5 y6 y7
      unfold Fd.l0
      repeat' first | (with_reducible first | exact ih0 _ _ _ _ _ _ | exact ih1 _ _ _ _ _ _ _ _ | exact ih2 _ _ _ _ _ _ _ _ _ | exact ih3 _ _ _ _ _ _ _ | exact ih4 _ _ | exact ih5 _ _ | exact ih6 _ _ | exact Fi.mono _ _ | exact Fr.mono _ _ | exact Faa.mono _ _ _ | exact Fv.mono _ _ | exact Fl.mono _ _ _ _ _ _ _ _ _ | exact Fp.mono _ _ _ | exact Fn.mono _ _ _ _ | exact Fy.mono _ _ _ | exact Fad.mono _ _ _ | exact Fak.mono _ _ | exact Fab.mono _ _ _ | exact Fs.mono _ _ | exact Fc.mono _ _ | exact Fx.mono _ _ | exact Fu.mono _ _ | exact Fac.mono _ _ | exact Fw.mono _ _ | exact Faf.mono _ _ _ _ _ _ _ _ _ | exact Fq.mono _ _ _ | exact Fk.mono _ _ _ _ | exact LeO.refl _ | exact LeO.none _ | refine LeO.ite ?_ ?_ | refine LeO.bind ?_ (fun _ => ?_)) | exact ih0 _ _ _ _ _ _ | exact ih1 _ _ _ _ _ _ _ _ | exact ih2 _ _ _ _ _ _ _ _ _ | exact ih3 _ _ _ _ _ _ _ | exact ih4 _ _ | exact ih5 _ _ | exact ih6 _ _ | exact Fi.mono _ _ | exact Fr.mono _ _ | exact Faa.mono _ _ _ | exact Fv.mono _ _ | exact Fl.mono _ _ _ _ _ _ _ _ _ | exact Fp.mono _ _ _ | exact Fn.mono _ _ _ _ | exact Fy.mono _ _ _ | exact Fad.mono _ _ _ | exact Fak.mono _ _ | exact Fab.mono _ _ _ | exact Fs.mono _ _ | exact Fc.mono _ _ | exact Fx.mono _ _ | exact Fu.mono _ _ | exact Fac.mono _ _ | exact Fw.mono _ _ | exact Faf.mono _ _ _ _ _ _ _ _ _ | exact Fq.mono _ _ _ | exact Fk.mono _ _ _ _ | exact LeO.none _ | refine LeO.ite ?_ ?_ | refine LeO.bind ?_ (fun _ => ?_)
    · intro y0 y1 y2 y3 y4 y5 y6 y7 y8
      unfold Fd.j2
      repeat' first | (with_reducible first | exact ih0 _ _ _ _ _ _ | exact ih1 _ _ _ _ _ _ _ _ | exact ih2 _ _ _ _ _ _ _ _ _ | exact ih3 _ _ _ _ _ _ _ | exact ih4 _ _ | exact ih5 _ _ | exact ih6 _ _ | exact Fi.mono _ _ | exact Fr.mono _ _ | exact Faa.mono _ _ _ | exact Fv.mono _ _ | exact Fl.mono _ _ _ _ _ _ _ _ _ | exact Fp.mono _ _ _ | exact Fn.mono _ _ _ _ | exact Fy.mono _ _ _ | exact Fad.mono _ _ _ | exact Fak.mono _ _ | exact Fab.mono _ _ _ | exact Fs.mono _ _ | exact Fc.mono _ _ | exact Fx.mono _ _ | exact Fu.mono _ _ | exact Fac.mono _ _ | exact Fw.mono _ _ | exact Faf.mono _ _ _ _ _ _ _ _ _ | exact Fq.mono _ _ _ | exact Fk.mono _ _ _ _ | exact LeO.refl _ | exact LeO.none _ | refine LeO.ite ?_ ?_ | refine LeO.bind ?_ (fun _ => ?_)) | exact ih0 _ _ _ _ _ _ | exact ih1 _ _ _ _ _ _ _ _ | exact ih2 _ _ _ _ _ _ _ _ _ | exact ih3 _ _ _ _ _ _ _ | exact ih4 _ _ | exact ih5 _ _ | exact ih6 _ _ | exact Fi.mono _ _ | exact Fr.mono _ _ | exact Faa.mono _ _ _ | exact Fv.mono _ _ | exact Fl.mono _ _ _ _ _ _ _ _ _ | exact Fp.mono _ _ _ | exact Fn.mono _ _ _ _ | exact Fy.mono _ _ _ | exact Fad.mono _ _ _ | exact Fak.mono _ _ | exact Fab.mono _ _ _ | exact Fs.mono _ _ | exact Fc.mono _ _ | exact Fx.mono _ _ | exact Fu.mono _ _ | exact Fac.mono _ _ | exact Fw.mono _ _ | exact Faf.mono _ _ _ _ _ _ _ _ _ | exact Fq.mono _ _ _ | exact Fk.mono _ _ _ _ | exact LeO.none _ | refine LeO.ite ?_ ?_ | refine LeO.bind ?_ (fun _ => ?_)
    · intro y0 y1 y2 y3 y4 y5 y6
      unfold Fd.l1
      repeat' first | (with_reducible first | exact ih0 _ _ _ _ _ _ | exact ih1 _ _ _ _ _ _ _ _ | exact ih2 _ _ _ _ _ _ _ _ _ | exact ih3 _ _ _ _ _ _ _ | exact ih4 _ _ | exact ih5 _ _ | exact ih6 _ _ | exact Fi.mono _ _ | exact Fr.mono _ _ | exact Faa.mono _ _ _ | exact Fv.mono _ _ | exact Fl.mono _ _ _ _ _ _ _ _ _ | exact Fp.mono _ _ _ | exact Fn.mono _ _ _ _ | exact Fy.mono _ _ _ | exact Fad.mono _ _ _ | exact Fak.mono _ _ | exact Fab.mono _ _ _ | exact Fs.mono _ _ | exact Fc.mono _ _ | exact Fx.mono _ _ | exact Fu.mono _ _ | exact Fac.mono _ _ | exact Fw.mono _ _ | exact Faf.mono _ _ _ _ _ _ _ _ _ | exact Fq.mono _ _ _ | exact Fk.mono _ _ _ _ | exact LeO.refl _ | exact LeO.none _ | refine LeO.ite ?_ ?_ | refine LeO.bind ?_ (fun _ => ?_)) | exact ih0 _ _ _ _ _ _ | exact ih1 _ _ _ _ _ _ _ _ | exact ih2 _ _ _ _ _ _ _ _ _ | exact ih3 _ _ _ _ _ _ _ | exact ih4 _ _ | exact ih5 _ _ | exact ih6 _ _ | exact Fi.mono _ _ | exact Fr.mono _ _ | exact Faa.mono _ _ _ | exact Fv.mono _ _ | exact Fl.mono _ _ _ _ _ _ _ _ _ | exact Fp.mono _ _ _ | exact Fn.mono _ _ _ _ | exact Fy.mono _ _ _ | exact Fad.mono _ _ _ | exact Fak.mono _ _ | exact Fab.mono _ _ _ | exact Fs.mono _ _ | exact Fc.mono _ _ | exact Fx.mono _ _ | exact Fu.mono _ _ | exact Fac.mono _ _ | exact Fw.mono _ _ | exact Faf.mono _ _ _ _ _ _ _ _ _ | exact Fq.mono _ _ _ | exact Fk.mono _ _ _ _ | exact LeO.none _ | refine LeO.ite ?_ ?_ | refine LeO.bind ?_ (fun _ => ?_)
    · intro y0 y1
      unfold Fd.j4
      repeat' first | (with_reducible first | exact ih0 _ _ _ _ _ _ | exact ih1 _ _ _ _ _ _ _ _ | exact ih2 _ _ _ _ _ _ _ _ _ | exact ih3 _ _ _ _ _ _ _ | exact ih4 _ _ | exact ih5 _ _ | exact ih6 _ _ | exact Fi.mono _ _ | exact Fr.mono _ _ | exact Faa.mono _ _ _ | exact Fv.mono _ _ | exact Fl.mono _ _ _ _ _ _ _ _ _ | exact Fp.mono _ _ _ | exact Fn.mono _ _ _ _ | exact Fy.mono _ _ _ | exact Fad.mono _ _ _ | exact Fak.mono _ _ | exact Fab.mono _ _ _ | exact Fs.mono _ _ | exact Fc.mono _ _ | exact Fx.mono _ _ | exact Fu.mono _ _ | exact Fac.mono _ _ | exact Fw.mono _ _ | exact Faf.mono _ _ _ _ _ _ _ _ _ | exact Fq.mono _ _ _ | exact Fk.mono _ _ _ _ | exact LeO.refl _ | exact LeO.none _ | refine LeO.ite ?_ ?_ | refine LeO.bind ?_ (fun _ => ?_)) | exact ih0 _ _ _ _ _ _ | exact ih1 _ _ _ _ _ _ _ _ | exact ih2 _ _ _ _ _ _ _ _ _ | exact ih3 _ _ _ _ _ _ _ | exact ih4 _ _ | exact ih5 _ _ | exact ih6 _ _ | exact Fi.mono _ _ | exact Fr.mono _ _ | exact Faa.mono _ _ _ | exact Fv.mono _ _ | exact Fl.mono _ _ _ _ _ _ _ _ _ | exact Fp.mono _ _ _ | exact Fn.mono _ _ _ _ | exact Fy.mono _ _ _ | exact Fad.mono _ _ _ | exact Fak.mono _ _ | exact Fab.mono _ _ _ | exact Fs.mono _ _ | exact Fc.mono _ _ | exact Fx.mono _ _ | exact Fu.mono _ _ | exact Fac.mono _ _ | exact Fw.mono _ _ | exact Faf.mono _ _ _ _ _ _ _ _ _ | exact Fq.mono _ _ _ | exact Fk.mono _ _ _ _ | exact LeO.none _ | refine LeO.ite ?_ ?_ | refine LeO.bind ?_ (fun _ => ?_)
    · intro y0 y1
      unfold Fd.j5
      repeat' first | (with_reducible first | exact ih0 _ _ _ _ _ _ | exact ih1 _ _ _ _ _ _ _ _ | exact ih2 _ _ _ _ _ _ _ _ _ | exact ih3 _ _ _ _ _ _ _ | exact ih4 _ _ | exact ih5 _ _ | exact ih6 _ _ | exact Fi.mono _ _ | exact Fr.mono _ _ | exact Faa.mono _ _ _ | exact Fv.mono _ _ | exact Fl.mono _ _ _ _ _ _ _ _ _ | exact Fp.mono _ _ _ | exact Fn.mono _ _ _ _ | exact Fy.mono _ _ _ | exact Fad.mono _ _ _ | exact Fak.mono _ _ | exact Fab.mono _ _ _ | exact Fs.mono _ _ | exact Fc.mono _ _ | exact Fx.mono _ _ | exact Fu.mono _ _ | exact Fac.mono _ _ | exact Fw.mono _ _ | exact Faf.mono _ _ _ _ _ _ _ _ _ | exact Fq.mono _ _ _ | exact Fk.mono _ _ _ _ | exact LeO.refl _ | exact LeO.none _ | refine LeO.ite ?_ ?_ | refine LeO.bind ?_ (fun _ => ?_)) | exact ih0 _ _ _ _ _ _ | exact ih1 _ _ _ _ _ _ _ _ | exact ih2 _ _ _ _ _ _ _ _ _ | exact ih3 _ _ _ _ _ _ _ | exact ih4 _ _ | exact ih5 _ _ | exact ih6 _ _ | exact Fi.mono _ _ | exact Fr.mono _ _ | exact Faa.mono _ _ _ | exact Fv.mono _ _ | exact Fl.mono _ _ _ _ _ _ _ _ _ | exact Fp.mono _ _ _ | exact Fn.mono _ _ _ _ | exact Fy.mono _ _ _ | exact Fad.mono _ _ _ | exact Fak.mono _ _ | exact Fab.mono _ _ _ | exact Fs.mono _ _ | exact Fc.mono _ _ | exact Fx.mono _ _ | exact Fu.mono _ _ | exact Fac.mono _ _ | exact Fw.mono _ _ | exact Faf.mono _ _ _ _ _ _ _ _ _ | exact Fq.mono _ _ _ | exact Fk.mono _ _ _ _ | exact LeO.none _ | refine LeO.ite ?_ ?_ | refine LeO.bind ?_ (fun _ => ?_)
    · intro y0 y1
      unfold Fd.j6
      repeat' first | (with_reducible first | exact ih0 _ _ _ _ _ _ | exact ih1 _ _ _ _ _ _ _ _ | exact ih2 _ _ _ _ _ _ _ _ _ | exact ih3 _ _ _ _ _ _ _ | exact ih4 _ _ | exact ih5 _ _ | exact ih6 _ _ | exact Fi.mono _ _ | exact Fr.mono _ _ | exact Faa.mono _ _ _ | exact Fv.mono _ _ | exact Fl.mono _ _ _ _ _ _ _ _ _ | exact Fp.mono _ _ _ | exact Fn.mono _ _ _ _ | exact Fy.mono _ _ _ | exact Fad.mono _ _ _ | exact Fak.mono _ _ | exact Fab.mono _ _ _ | exact Fs.mono _ _ | exact Fc.mono _ _ | exact Fx.mono _ _ | exact Fu.mono _ _ | exact Fac.mono _ _ | exact Fw.mono _ _ | exact Faf.mono _ _ _ _ _ _ _ _ _ | exact Fq.mono _ _ _ | exact Fk.mono _ _ _ _ | exact LeO.refl _ | exact LeO.none _ | refine LeO.ite ?_ ?_ | refine LeO.bind ?_ (fun _ => ?_)) | exact ih0 _ _ _ _ _ _ | exact ih1 _ _ _ _ _ _ _ _ | exact ih2 _ _ _ _ _ _ _ _ _ | exact ih3 _ _ _ _ _ _ _ | exact ih4 _ _ | exact ih5 _ _ | exact ih6 _ _ | exact Fi.mono _ _ | exact Fr.mono _ _ | exact Faa.mono _ _ _ | exact Fv.mono _ _ | exact Fl.mono _ _ _ _ _ _ _ _ _ | exact Fp.mono _ _ _ | exact Fn.mono _ _ _ _ | exact Fy.mono _ _ _ | exact Fad.mono _ _ _ | exact Fak.mono _ _ | exact Fab.mono _ _ _ | exact Fs.mono _ _ | exact Fc.mono _ _ | exact Fx.mono _ _ | exact Fu.mono _ _ | exact Fac.mono _ _ | exact Fw.mono _ _ | exact Faf.mono _ _ _ _ _ _ _ _ _ | exact Fq.mono _ _ _ | exact Fk.mono _ _ _ _ | exact LeO.none _ | refine LeO.ite ?_ ?_ | refine LeO.bind ?_ (fun _ => ?_)
theorem Fd.mono : ∀ a0 k, LeO (Fd.f k a0) (Fd.f (k + 1) a0) := by
  intro a0 k
  obtain ⟨ih0, ih1, ih2, ih3, ih4, ih5, ih6⟩ := Fd.mono_l k
  unfold Fd.f
  repeat' first | (with_reducible first | exact ih0 _ _ _ _ _ _ | exact ih1 _ _ _ _ _ _ _ _ | exact ih2 _ _ _ _ _ _ _ _ _ | exact ih3 _ _ _ _ _ _ _ | exact ih4 _ _ | exact ih5 _ _ | exact ih6 _ _ | exact Fi.mono _ _ | exact Fr.mono _ _ | exact Faa.mono _ _ _ | exact Fv.mono _ _ | exact Fl.mono _ _ _ _ _ _ _ _ _ | exact Fp.mono _ _ _ | exact Fn.mono _ _ _ _ | exact Fy.mono _ _ _ | exact Fad.mono _ _ _ | exact Fak.mono _ _ | exact Fab.mono _ _ _ | exact Fs.mono _ _ | exact Fc.mono _ _ | exact Fx.mono _ _ | exact Fu.mono _ _ | exact Fac.mono _ _ | exact Fw.mono _ _ | exact Faf.mono _ _ _ _ _ _ _ _ _ | exact Fq.mono _ _ _ | exact Fk.mono _ _ _ _ | exact LeO.refl _ | exact LeO.none _ | refine LeO.ite ?_ ?_ | refine LeO.bind ?_ (fun _ => ?_)) | exact ih0 _ _ _ _ _ _ | exact ih1 _ _ _ _ _ _ _ _ | exact ih2 _ _ _ _ _ _ _ _ _ | exact ih3 _ _ _ _ _ _ _ | exact ih4 _ _ | exact ih5 _ _ | exact ih6 _ _ | exact Fi.mono _ _ | exact Fr.mono _ _ | exact Faa.mono _ _ _ | exact Fv.mono _ _ | exact Fl.mono _ _ _ _ _ _ _ _ _ | exact Fp.mono _ _ _ | exact Fn.mono _ _ _ _ | exact Fy.mono _ _ _ | exact Fad.mono _ _ _ | exact Fak.mono _ _ | exact Fab.mono _ _ _ | exact Fs.mono _ _ | exact Fc.mono _ _ | exact Fx.mono _ _ | exact Fu.mono _ _ | exact Fac.mono _ _ | exact Fw.mono _ _ | exact Faf.mono _ _ _ _ _ _ _ _ _ | exact Fq.mono _ _ _ | exact Fk.mono _ _ _ _ | exact LeO.none _ | refine LeO.ite ?_ ?_ | refine LeO.bind ?_ (fun _ => ?_)
def Fd.T38 : Bool × List (List Nat × List Nat) := (true, [([], []), ([], []), ([0, 1], [0, 1]), ([2], [2]), ([3], [3]), ([3], [3]), ([4, 5, 3], [3, 4, 5]), ([3, 6], [3, 6]), ([7, 3], [7]), ([8], [8]), ([9, 8, 8], [8, 9]), ([8], [8]), ([11, 10, 8], [8, 11]), ([10, 12, 8], [8, 10, 12]), ([8, 13], [8, 13]), ([14, 12, 0, 1, 2, 3, 4, 5, 6, 7, 8, 9, 10, 11, 12, 13, 14], [14])])
def Fd.B38 : List Nat := [0, 0, 3, 7, 15, 15, 63, 127, 255, 511, 1023, 511, 4095, 8191, 16383, 32767]
theorem Fd.tab38 : rtab .any (opsOf Tryz.f3 38) = Fd.T38 := by kernel_rfl
theorem Fd.bits38 : waitsOk Fd.T38.2 Fd.B38 = true := by kernel_rfl
set_option maxHeartbeats 64000000 in
set_option maxRecDepth 100000 in
theorem Fd.calls (k : Nat) (A0 : Option Addr) (c0 : Nat) (l0 : List Int) (r : Bool) (w : World) (hr0 : Kd.C (Kd.int .u8) w A0 l0.length l0) (hc0 : l0.length ≤ c0) (ht : r = true) (h : Fd.f k l0 = some r) :
  Calls Tryz.prog 3 #[.slice A0 l0.length c0] w fun e w' => e = .returned (.bool r) ∧ Below w.heap.size w w' := by
 have hu34 := Tryz.underlying34
 have HR0 := Ak hr0
 have HC0 := Ak hc0
 clear hr0 hc0
 have HB := Ak (Below.refl w.heap.size w)
 have HT := Ak ht
 clear ht
 have H : ((Fbq.f l0).bind fun t101 => (if t101 = true then (some true) else ((Fu.f k l0).bind fun t102 => ((Fv.f k t102).bind fun bt105 => ((Fc.f k t102).bind fun bt112 => (if (bt105.2.2 != bt112.2.2) = true then (Fd.j0 k l0 t102 bt105.1 bt105.2.1 bt105.2.2 true) else ((Fab.f k bt105.1 bt112.1).bind fun t119 => (if t119 = true then ((Fad.f k bt105.2.1 bt112.2.1).bind fun t120 => (if t120 = true then ((Fi.f k t102).bind fun t121 => (Fd.j0 k l0 t102 bt105.1 bt105.2.1 bt105.2.2 (bt105.2.2 != t121))) else (Fd.j0 k l0 t102 bt105.1 bt105.2.1 bt105.2.2 true))) else (Fd.j0 k l0 t102 bt105.1 bt105.2.1 bt105.2.2 true))))))))) = some r := h
 clear h
 replace H := Option.bind_eq_some_iff.mp H
 obtain ⟨t101, A20, H⟩ := H
 (try dsimp only at H)
 have A2 := Ak A20
 clear A20
 by_cases c3 : t101 = true
 ·subst c3
  have H1 : (some true) = some r := by rw [if_pos rfl] at H; exact H
  clear H
  have H := H1
  clear H1
  as_aux_lemma =>
   obtain rfl := Option.some.inj H
   go_enter Tryz.func3, Tryz.ntmps3
   go_wp2_with (first | ((with_reducible refine gate_callee (f := 4) rfl ?_); refine goesL_ (some 36) rfl rfl Tryz.func4 (by kernel_rfl) rfl #[.slice A0 l0.length c0] rfl (by (try simp only [List.map_toArray, List.map_cons, List.map_nil]); first | done | rfl | (simp only [List.length_drop, List.length_take]; rfl)) ?_; (with_reducible refine (Fbq.calls _ _ l0 true _ ?side1 ?side2 A2.out).mono ?_); (case side1 => exact Cs HR0.out); (case side2 => exact HC0.out); rintro e w' ⟨rfl, ⟨nd, rfl⟩⟩; refine ⟨_, rfl, ?_⟩))
   go_ret
   exact ⟨by first | rfl | (simp [errW_none, errW_some] <;> rfl) | (simp [*, errW_none, errW_some] <;> rfl), by exact eS HB.out⟩
 replace c3 := Bool.eq_false_iff.mpr c3
 subst c3
 have H1 : ((Fu.f k l0).bind fun t102 => ((Fv.f k t102).bind fun bt105 => ((Fc.f k t102).bind fun bt112 => (if (bt105.2.2 != bt112.2.2) = true then (Fd.j0 k l0 t102 bt105.1 bt105.2.1 bt105.2.2 true) else ((Fab.f k bt105.1 bt112.1).bind fun t119 => (if t119 = true then ((Fad.f k bt105.2.1 bt112.2.1).bind fun t120 => (if t120 = true then ((Fi.f k t102).bind fun t121 => (Fd.j0 k l0 t102 bt105.1 bt105.2.1 bt105.2.2 (bt105.2.2 != t121))) else (Fd.j0 k l0 t102 bt105.1 bt105.2.1 bt105.2.2 true))) else (Fd.j0 k l0 t102 bt105.1 bt105.2.1 bt105.2.2 true))))))) = some r := by rw [if_neg (show ¬ (false = true) by decide)] at H; exact H
 clear H
 have H := H1
 clear H1
 replace H := Option.bind_eq_some_iff.mp H
 obtain ⟨t102, A40, H⟩ := H
 (try dsimp only at H)
 have A4 := Ak A40
 clear A40
 replace H := Option.bind_eq_some_iff.mp H
 obtain ⟨⟨t105, t106, t107⟩, A50, H⟩ := H
 (try dsimp only at H)
 have A5 := Ak A50
 clear A50
 replace H := Option.bind_eq_some_iff.mp H
 obtain ⟨⟨t112, t113, t114⟩, A60, H⟩ := H
 (try dsimp only at H)
 have A6 := Ak A60
 clear A60
 have HC7 := Ak H
 clear H
 go_enter Tryz.func3, Tryz.ntmps3
 go_upto_region 6 with (first | ((with_reducible refine gate_callee (f := 4) rfl ?_); refine goesL_ (some 36) rfl rfl Tryz.func4 (by kernel_rfl) rfl #[.slice A0 l0.length c0] rfl (by (try simp only [List.map_toArray, List.map_cons, List.map_nil]); first | done | rfl | (simp only [List.length_drop, List.length_take]; rfl)) ?_; (with_reducible refine (Fbq.calls _ _ l0 false _ ?side1 ?side2 A2.out).mono ?_); (case side1 => exact Cs HR0.out); (case side2 => exact HC0.out); rintro e w' ⟨rfl, ⟨nd, rfl⟩⟩; refine ⟨_, rfl, ?_⟩) | ((with_reducible refine gate_callee (f := 5) rfl ?_); refine goesL_ (some 38) rfl rfl Tryz.func5 (by kernel_rfl) rfl #[.slice A0 l0.length c0] rfl (by (try simp only [List.map_toArray, List.map_cons, List.map_nil]); first | done | rfl | (simp only [List.length_drop, List.length_take]; rfl)) ?_; (with_reducible refine (Fu.calls k _ _ l0 t102 _ ?side1 ?side2 A4.out).mono ?_); (case side1 => exact Cs HR0.out); (case side2 => exact HC0.out); rintro e w8 ⟨v103, rfl, ho0, hb⟩; refine ⟨_, rfl, ?_⟩; have n0_ := Ak (Kd.R_lower ho0 (below_size (by exact eS HB.out))); have n1_ := Ak (below_step (by exact eS HB.out) hb); clear HB; have HO104 := n0_; have HB := n1_; clear n0_ n1_; (try clear hb); (try clear hb2); (try clear hk); (try clear hi); (try clear ho0); obtain ⟨Ao9, co9, eo9⟩ := Kd.R_slice HO104.out; subst eo9) | ((with_reducible refine gate_callee (f := 6) rfl ?_); refine goesL_ (some 41) rfl rfl Tryz.func6 (by kernel_rfl) rfl #[.slice Ao9 t102.length co9] rfl (by (try simp only [List.map_toArray, List.map_cons, List.map_nil]); first | done | rfl | (simp only [List.length_drop, List.length_take]; rfl)) ?_; (with_reducible refine (Fv.calls k _ _ t102 t105 t106 t107 _ ?side1 ?side2 A5.out).mono ?_); (case side1 => repeat (first | exact (Kd.R_reads' HO104.out).2.2 | (with_reducible refine Kd.C_alloc ?_ _) | (with_reducible refine Kd.C_drewN ?_ _) | (with_reducible refine Kd.C_drew ?_))); (case side2 => exact (Kd.R_reads' HO104.out).2.1); rintro e w10 ⟨v108, v110, rfl, ho0, ho1, hb⟩; refine ⟨_, rfl, ?_⟩; have n0_ := Ak (Kd.R_below (by exact RS <| HO104.out) hb); have n1_ := Ak (Kd.R_lower ho0 (below_size (by exact eS HB.out))); have n2_ := Ak (Kd.R_lower ho1 (below_size (by exact eS HB.out))); have n3_ := Ak (below_step (by exact eS HB.out) hb); clear HO104; clear HB; have HO104 := n0_; have HO109 := n1_; have HO111 := n2_; have HB := n3_; clear n0_ n1_ n2_ n3_; (try clear hb); (try clear hb2); (try clear hk); (try clear hi); (try clear ho0); (try clear ho1)) | ((with_reducible refine gate_callee (f := 7) rfl ?_); refine goesL_ (some 47) rfl rfl Tryz.func7 (by kernel_rfl) rfl #[.slice Ao9 t102.length co9] rfl (by (try simp only [List.map_toArray, List.map_cons, List.map_nil]); first | done | rfl | (simp only [List.length_drop, List.length_take]; rfl)) ?_; (with_reducible refine (Fc.calls k _ _ t102 t112 t113 t114 _ ?side1 ?side2 A6.out).mono ?_); (case side1 => repeat (first | exact (Kd.R_reads' HO104.out).2.2 | (with_reducible refine Kd.C_alloc ?_ _) | (with_reducible refine Kd.C_drewN ?_ _) | (with_reducible refine Kd.C_drew ?_))); (case side2 => exact (Kd.R_reads' HO104.out).2.1); rintro e w11 ⟨v115, v117, rfl, ho0, ho1, hb⟩; refine ⟨_, rfl, ?_⟩; have n0_ := Ak (Kd.R_below (by exact RS <| HO104.out) hb); have n1_ := Ak (Kd.R_elder' (by exact RS <| HO109.out) (Kd.R_base ho0) hb); have n2_ := Ak (Kd.R_elder' (by exact RS <| HO111.out) (Kd.R_base ho1) hb); have n3_ := Ak (Kd.R_lower (Kd.R_new' ho0 (Kd.R_lt (by exact RS <| HO109.out))) (below_size (by exact eS HB.out))); have n4_ := Ak (Kd.R_lower (Kd.R_new' ho1 (Kd.R_lt (by exact RS <| HO111.out))) (below_size (by exact eS HB.out))); have n5_ := Ak (below_step (by exact eS HB.out) hb); clear HO104; clear HO109; clear HO111; clear HB; have HO104 := n0_; have HO109 := n1_; have HO111 := n2_; have HO116 := n3_; have HO118 := n4_; have HB := n5_; clear n0_ n1_ n2_ n3_ n4_ n5_; (try clear hb); (try clear hb2); (try clear hk); (try clear hi); (try clear ho0); (try clear ho1)))
 (try simp only [Act.put, List.setIfInBounds_toArray, List.set_cons_zero, List.set_cons_succ])
 go_cut [71] (fun v71 wc => ∃ (kq : Nat) (x71_6 : Bool), v71 = .bool x71_6 ∧ Aside0 (Fd.j0 kq l0 t102 t105 t106 t107 x71_6 = some r) ∧ Aside0 (kq ≤ k) ∧ Aside0 (Kd.R k34 34 wc w.heap.size (fun _ => True) (.slice Ao9 t102.length co9) t102) ∧ Aside0 (Kd.R Kd.string 9 wc w.heap.size (fun _ => True) v108 t105) ∧ Aside0 (Kd.R (Kd.int .i64) 3 wc w.heap.size (fun _ => True) v110 t106) ∧ Aside0 (Below w.heap.size w wc))
 case first =>
  have H := HC7.out
  clear HC7
  by_cases c12 : (t107 != t114) = true
  ·rw [if_pos c12] at H
   have c12b0 : (t107 != t114) = true := c12
   (try (have c12b1 : decide (t107 = t114) = false := by simpa using c12))
   (try (have c12b2 : (t107 == t114) = false := by simpa using c12))
   (try (have c12b3 : ¬ (t107 = t114) := by simpa using c12))
   clear c12
   (first | rw [c12b0] | (simp only [i64_w, i32_w]; rw [c12b0]) | skip)
   as_aux_lemma =>
    have H' := Ak H
    clear H
    go_wp2
    go_meet
    case rel => exact ⟨_, (true), (by first | rfl | (simp; done) | (simp [*]; done)), H', ⟨by first | omega | exact Nat.le_refl _⟩, ⟨by exact RS <| HO104.out⟩, ⟨by exact RS <| Kd.R_mono HO109.out (fun _ hk => trivial)⟩, ⟨by exact RS <| Kd.R_mono HO111.out (fun _ hk => trivial)⟩, ⟨by exact eS HB.out⟩⟩
  rw [if_neg c12] at H
  have c12b0 : (t107 != t114) = false := by simpa using c12
  (try (have c12b1 : decide (t107 = t114) = true := by simpa using c12))
  (try (have c12b2 : (t107 == t114) = true := by simpa using c12))
  clear c12
  (first | rw [c12b0] | (simp only [i64_w, i32_w]; rw [c12b0]) | skip)
  replace H := Option.bind_eq_some_iff.mp H
  obtain ⟨t119, A130, H⟩ := H
  (try dsimp only at H)
  have A13 := Ak A130
  clear A130
  by_cases c14 : t119 = true
  rotate_left
  ·replace c14 := Bool.eq_false_iff.mpr c14
   subst c14
   have H1 : (Fd.j0 k l0 t102 t105 t106 t107 true) = some r := by rw [if_neg (show ¬ (false = true) by decide)] at H; exact H
   clear H
   have H := H1
   clear H1
   as_aux_lemma =>
    have H' := Ak H
    clear H
    obtain ⟨Ao27, co27, eo27⟩ := Kd.R_slice HO109.out
    subst eo27
    obtain ⟨Ao28, co28, eo28⟩ := Kd.R_slice HO116.out
    subst eo28
    go_wp2_with (first | (go_at_call 8; (with_reducible refine (Fab.calls k _ _ t105 _ _ t112 false _ ?side1 ?side2 ?side3 ?side4 A13.out).mono ?_); (case side1 => repeat (first | exact (Kd.R_reads' HO109.out).2.2 | (with_reducible refine Kd.C_alloc ?_ _) | (with_reducible refine Kd.C_drewN ?_ _) | (with_reducible refine Kd.C_drew ?_))); (case side2 => exact (Kd.R_reads' HO109.out).2.1); (case side3 => repeat (first | exact (Kd.R_reads' HO116.out).2.2 | (with_reducible refine Kd.C_alloc ?_ _) | (with_reducible refine Kd.C_drewN ?_ _) | (with_reducible refine Kd.C_drew ?_))); (case side4 => exact (Kd.R_reads' HO116.out).2.1); rintro e w' ⟨rfl, ⟨nd, rfl⟩⟩))
    go_meet
    case rel => exact ⟨_, (true), (by first | rfl | (simp; done) | (simp [*]; done)), H', ⟨by first | omega | exact Nat.le_refl _⟩, ⟨by exact RS <| HO104.out⟩, ⟨by exact RS <| Kd.R_mono HO109.out (fun _ hk => trivial)⟩, ⟨by exact RS <| Kd.R_mono HO111.out (fun _ hk => trivial)⟩, ⟨by exact eS HB.out⟩⟩
  subst c14
  have H1 : ((Fad.f k t106 t113).bind fun t120 => (if t120 = true then ((Fi.f k t102).bind fun t121 => (Fd.j0 k l0 t102 t105 t106 t107 (t107 != t121))) else (Fd.j0 k l0 t102 t105 t106 t107 true))) = some r := by rw [if_pos rfl] at H; exact H
  clear H
  have H := H1
  clear H1
  replace H := Option.bind_eq_some_iff.mp H
  obtain ⟨t120, A150, H⟩ := H
  (try dsimp only at H)
  have A15 := Ak A150
  clear A150
  by_cases c16 : t120 = true
  rotate_left
  ·replace c16 := Bool.eq_false_iff.mpr c16
   subst c16
   have H1 : (Fd.j0 k l0 t102 t105 t106 t107 true) = some r := by rw [if_neg (show ¬ (false = true) by decide)] at H; exact H
   clear H
   have H := H1
   clear H1
   as_aux_lemma =>
    have H' := Ak H
    clear H
    obtain ⟨Ao23, co23, eo23⟩ := Kd.R_slice HO109.out
    subst eo23
    obtain ⟨Ao24, co24, eo24⟩ := Kd.R_slice HO116.out
    subst eo24
    go_wp2_with (first | (go_at_call 8; (with_reducible refine (Fab.calls k _ _ t105 _ _ t112 true _ ?side1 ?side2 ?side3 ?side4 A13.out).mono ?_); (case side1 => repeat (first | exact (Kd.R_reads' HO109.out).2.2 | (with_reducible refine Kd.C_alloc ?_ _) | (with_reducible refine Kd.C_drewN ?_ _) | (with_reducible refine Kd.C_drew ?_))); (case side2 => exact (Kd.R_reads' HO109.out).2.1); (case side3 => repeat (first | exact (Kd.R_reads' HO116.out).2.2 | (with_reducible refine Kd.C_alloc ?_ _) | (with_reducible refine Kd.C_drewN ?_ _) | (with_reducible refine Kd.C_drew ?_))); (case side4 => exact (Kd.R_reads' HO116.out).2.1); rintro e w' ⟨rfl, ⟨nd, rfl⟩⟩; obtain ⟨Ao25, co25, eo25⟩ := Kd.R_slice HO111.out; subst eo25; obtain ⟨Ao26, co26, eo26⟩ := Kd.R_slice HO118.out; subst eo26) | (go_at_call 9; (with_reducible refine (Fad.calls k _ _ t106 _ _ t113 false _ ?side1 ?side2 ?side3 ?side4 A15.out).mono ?_); (case side1 => repeat (first | exact (Kd.R_reads' HO111.out).2.2 | (with_reducible refine Kd.C_alloc ?_ _) | (with_reducible refine Kd.C_drewN ?_ _) | (with_reducible refine Kd.C_drew ?_))); (case side2 => exact (Kd.R_reads' HO111.out).2.1); (case side3 => repeat (first | exact (Kd.R_reads' HO118.out).2.2 | (with_reducible refine Kd.C_alloc ?_ _) | (with_reducible refine Kd.C_drewN ?_ _) | (with_reducible refine Kd.C_drew ?_))); (case side4 => exact (Kd.R_reads' HO118.out).2.1); rintro e w' ⟨rfl, ⟨nd, rfl⟩⟩))
    go_meet
    case rel => exact ⟨_, (true), (by first | rfl | (simp; done) | (simp [*]; done)), H', ⟨by first | omega | exact Nat.le_refl _⟩, ⟨by exact RS <| HO104.out⟩, ⟨by exact RS <| Kd.R_mono HO109.out (fun _ hk => trivial)⟩, ⟨by exact RS <| Kd.R_mono HO111.out (fun _ hk => trivial)⟩, ⟨by exact eS HB.out⟩⟩
  subst c16
  have H1 : ((Fi.f k t102).bind fun t121 => (Fd.j0 k l0 t102 t105 t106 t107 (t107 != t121))) = some r := by rw [if_pos rfl] at H; exact H
  clear H
  have H := H1
  clear H1
  replace H := Option.bind_eq_some_iff.mp H
  obtain ⟨t121, A170, H⟩ := H
  (try dsimp only at H)
  have A17 := Ak A170
  clear A170
  as_aux_lemma =>
   have H' := Ak H
   clear H
   obtain ⟨Ao18, co18, eo18⟩ := Kd.R_slice HO109.out
   subst eo18
   obtain ⟨Ao19, co19, eo19⟩ := Kd.R_slice HO116.out
   subst eo19
   go_wp2_with (first | (go_at_call 8; (with_reducible refine (Fab.calls k _ _ t105 _ _ t112 true _ ?side1 ?side2 ?side3 ?side4 A13.out).mono ?_); (case side1 => repeat (first | exact (Kd.R_reads' HO109.out).2.2 | (with_reducible refine Kd.C_alloc ?_ _) | (with_reducible refine Kd.C_drewN ?_ _) | (with_reducible refine Kd.C_drew ?_))); (case side2 => exact (Kd.R_reads' HO109.out).2.1); (case side3 => repeat (first | exact (Kd.R_reads' HO116.out).2.2 | (with_reducible refine Kd.C_alloc ?_ _) | (with_reducible refine Kd.C_drewN ?_ _) | (with_reducible refine Kd.C_drew ?_))); (case side4 => exact (Kd.R_reads' HO116.out).2.1); rintro e w' ⟨rfl, ⟨nd, rfl⟩⟩; obtain ⟨Ao20, co20, eo20⟩ := Kd.R_slice HO111.out; subst eo20; obtain ⟨Ao21, co21, eo21⟩ := Kd.R_slice HO118.out; subst eo21) | (go_at_call 9; (with_reducible refine (Fad.calls k _ _ t106 _ _ t113 true _ ?side1 ?side2 ?side3 ?side4 A15.out).mono ?_); (case side1 => repeat (first | exact (Kd.R_reads' HO111.out).2.2 | (with_reducible refine Kd.C_alloc ?_ _) | (with_reducible refine Kd.C_drewN ?_ _) | (with_reducible refine Kd.C_drew ?_))); (case side2 => exact (Kd.R_reads' HO111.out).2.1); (case side3 => repeat (first | exact (Kd.R_reads' HO118.out).2.2 | (with_reducible refine Kd.C_alloc ?_ _) | (with_reducible refine Kd.C_drewN ?_ _) | (with_reducible refine Kd.C_drew ?_))); (case side4 => exact (Kd.R_reads' HO118.out).2.1); rintro e w' ⟨rfl, ⟨nd, rfl⟩⟩) | (go_at_call 10; (with_reducible refine (Fi.calls k _ _ t102 t121 _ ?side1 ?side2 A17.out).mono ?_); (case side1 => repeat (first | exact (Kd.R_reads' HO104.out).2.2 | (with_reducible refine Kd.C_alloc ?_ _) | (with_reducible refine Kd.C_drewN ?_ _) | (with_reducible refine Kd.C_drew ?_))); (case side2 => exact (Kd.R_reads' HO104.out).2.1); rintro e w22 ⟨rfl, hb⟩; have n0_ := Ak (Kd.R_below (by exact RS <| HO104.out) hb); have n1_ := Ak (Kd.R_below (by exact RS <| HO109.out) hb); have n2_ := Ak (Kd.R_below (by exact RS <| HO111.out) hb); have n3_ := Ak (Kd.R_below (by exact RS <| HO116.out) hb); have n4_ := Ak (Kd.R_below (by exact RS <| HO118.out) hb); have n5_ := Ak (below_step (by exact eS HB.out) hb); clear HO104; clear HO109; clear HO111; clear HO116; clear HO118; clear HB; have HO104 := n0_; have HO109 := n1_; have HO111 := n2_; have HO116 := n3_; have HO118 := n4_; have HB := n5_; clear n0_ n1_ n2_ n3_ n4_ n5_; (try clear hb); (try clear hb2); (try clear hk); (try clear hi)))
   go_meet
   case rel => exact ⟨_, ((t107 != t121)), (by first | rfl | (simp; done) | (simp [*]; done)), H', ⟨by first | omega | exact Nat.le_refl _⟩, ⟨by exact RS <| HO104.out⟩, ⟨by exact RS <| Kd.R_mono HO109.out (fun _ hk => trivial)⟩, ⟨by exact RS <| Kd.R_mono HO111.out (fun _ hk => trivial)⟩, ⟨by exact eS HB.out⟩⟩
 case rest =>
  clear HC7; (try clear c1); (try clear p2); (try clear c3); (try clear c4); (try clear c5); (try clear c6); (try clear c7); (try clear c12); (try clear c12b0); (try clear c12b1); (try clear c12b2); (try clear c14); (try clear c16)
  as_aux_lemma =>
   obtain ⟨kq, x71_6, rfl, HA, HJ6, HO_3, HO_4, HO_5, HB⟩ := hcut
   cases kq with
   | zero => exact absurd HA.out (by simp [Fd.j0])
   | succ kj6 =>
    have H := HA.out
    clear HA
    simp only [Fd.j0] at H
    by_cases c29 : x71_6 = true
    ·subst c29
     have H1 : (some false) = some r := by rw [if_pos rfl] at H; exact H
     clear H
     have H := H1
     clear H1
     as_aux_lemma =>
      exact absurd ((Option.some.inj H).trans HT.out) (by decide)
    replace c29 := Bool.eq_false_iff.mpr c29
    subst c29
    have H1 : (Fd.l0 kj6 l0 t102 t105 t106 t107 0 0 0) = some r := by rw [if_neg (show ¬ (false = true) by decide)] at H; exact H
    clear H
    have H := H1
    clear H1
    have H' := Ak H
    clear H
    go_wp2
    go_loopg [10, 12] kj6 (fun kq v10 v12 w' => ∃ (x10_2 : Int) (x12_2 : Int), v10 = .int .i64 x10_2 ∧ v12 = .int .i64 x12_2 ∧ Aside0 (Fd.l0 kq l0 t102 t105 t106 t107 x10_2 0 x12_2 = some r) ∧ Aside0 (kq ≤ kj6) ∧ Aside0 (Kd.R k34 34 w' w.heap.size (fun _ => True) (.slice Ao9 t102.length co9) t102) ∧ Aside0 (Kd.R Kd.string 9 w' w.heap.size (fun _ => True) v108 t105) ∧ Aside0 (Kd.R (Kd.int .i64) 3 w' w.heap.size (fun _ => True) v110 t106) ∧ Aside0 (Below w.heap.size w w'))
    case atStart => exact ⟨(0), (0), (by first | rfl | (simp; done) | (simp [*]; done)), (by first | rfl | (simp; done) | (simp [*]; done)), H', ⟨Nat.le_refl _⟩, ⟨by exact RS <| HO_3.out⟩, ⟨by exact RS <| HO_4.out⟩, ⟨by exact RS <| HO_5.out⟩, ⟨by exact eS HB.out⟩⟩
    case round =>
     clear H'; (try clear c1); (try clear c2); (try clear p2); (try clear c3); (try clear c4); (try clear c5); (try clear c6); (try clear c7); (try clear c12); (try clear c12b0); (try clear c12b1); (try clear c12b2); (try clear c14); (try clear c16); (try clear c29); (try clear p2)
     obtain ⟨x10_2, x12_2, rfl, rfl, HA, HK2, HO_3, HO_4, HO_5, HB⟩ := hrel
     cases gk with
     | zero => exact absurd HA.out (by simp [Fd.l0])
     | succ k2 =>
      have H := HA.out
      clear HA
      simp only [Fd.l0] at H
      have HC30 := Ak H
      clear H
      go_upto_region 10 with (fail)
      go_cut [78] (fun v78 wc => ∃ (kq : Nat) (x78_29 : Bool), v78 = .bool x78_29 ∧ Aside0 (Fd.j2 kq l0 t102 t105 t106 t107 x10_2 0 x12_2 x78_29 = some r) ∧ Aside0 (kq ≤ k2) ∧ Aside0 (Kd.R k34 34 wc w.heap.size (fun _ => True) (.slice Ao9 t102.length co9) t102) ∧ Aside0 (Kd.R Kd.string 9 wc w.heap.size (fun _ => True) v108 t105) ∧ Aside0 (Kd.R (Kd.int .i64) 3 wc w.heap.size (fun _ => True) v110 t106) ∧ Aside0 (Below w.heap.size w wc))
      case first =>
       have H := HC30.out
       clear HC30
       by_cases c31 : x12_2 < (t102.length : Int)
       ·rw [if_pos c31] at H
        have c31b0 : decide (x12_2 < (t102.length : Int)) = true := decide_eq_true c31
        clear c31
        (first | rw [c31b0] | (simp only [i64_w, i32_w]; rw [c31b0]) | skip)
        as_aux_lemma =>
         have H' := Ak H
         clear H
         go_wp2
         go_meet
         case rel => exact ⟨_, (t107), (by first | rfl | (simp; done) | (simp [*]; done)), H', ⟨by have := HJ6.out; have := HK2.out; first | omega | exact Nat.le_refl _⟩, ⟨by exact RS <| HO_3.out⟩, ⟨by exact RS <| HO_4.out⟩, ⟨by exact RS <| HO_5.out⟩, ⟨by exact eS HB.out⟩⟩
       rw [if_neg c31] at H
       have c31b0 : decide (x12_2 < (t102.length : Int)) = false := decide_eq_false c31
       clear c31
       (first | rw [c31b0] | (simp only [i64_w, i32_w]; rw [c31b0]) | skip)
       as_aux_lemma =>
        have H' := Ak H
        clear H
        go_wp2
        go_meet
        case rel => exact ⟨_, (false), (by first | rfl | (simp; done) | (simp [*]; done)), H', ⟨by have := HJ6.out; have := HK2.out; first | omega | exact Nat.le_refl _⟩, ⟨by exact RS <| HO_3.out⟩, ⟨by exact RS <| HO_4.out⟩, ⟨by exact RS <| HO_5.out⟩, ⟨by exact eS HB.out⟩⟩
      case rest =>
       clear HC30; (try clear c1); (try clear c2); (try clear p2); (try clear c3); (try clear c4); (try clear c5); (try clear c6); (try clear c7); (try clear c12); (try clear c12b0); (try clear c12b1); (try clear c12b2); (try clear c14); (try clear c16); (try clear c29); (try clear c31); (try clear c31b0); (try clear p2)
       as_aux_lemma =>
        obtain ⟨kq, x78_29, rfl, HA, HJ29, HO_3, HO_4, HO_5, HB⟩ := hcut
        cases kq with
        | zero => exact absurd HA.out (by simp [Fd.j2])
        | succ kj29 =>
         have H := HA.out
         clear HA
         simp only [Fd.j2] at H
         by_cases c32 : x78_29 = true
         ·subst c32
          have H1 : (if 0 ≤ x12_2 then (if x12_2 < (t102.length : Int) then ((Fy.f kj29 t105 ((rd_T34 t102 x12_2).f1)).bind fun t124 => (if t124 = true then (Fd.l0 kj29 l0 t102 t105 t106 t107 (wrap64 (x10_2 + ((rd_T34 t102 x12_2).f6))) 0 (wrap64 (x12_2 + 1))) else (some false))) else (none)) else (none)) = some r := by rw [if_pos rfl] at H; exact H
          clear H
          have H := H1
          clear H1
          by_cases c33 : 0 ≤ x12_2
          rotate_left
          ·rw [if_neg c33] at H
           exact absurd H (by simp)
          rw [if_pos c33] at H
          have c33b0 : decide (0 ≤ x12_2) = true := decide_eq_true c33
          clear c33
          by_cases c34 : x12_2 < (t102.length : Int)
          rotate_left
          ·rw [if_neg c34] at H
           exact absurd H (by simp)
          rw [if_pos c34] at H
          have c34b0 : decide (x12_2 < (t102.length : Int)) = true := decide_eq_true c34
          clear c34
          replace H := Option.bind_eq_some_iff.mp H
          obtain ⟨t124, A350, H⟩ := H
          (try dsimp only at H)
          have A35 := Ak A350
          clear A350
          by_cases c36 : t124 = true
          rotate_left
          ·replace c36 := Bool.eq_false_iff.mpr c36
           subst c36
           have H1 : (some false) = some r := by rw [if_neg (show ¬ (false = true) by decide)] at H; exact H
           clear H
           have H := H1
           clear H1
           as_aux_lemma =>
            exact absurd ((Option.some.inj H).trans HT.out) (by decide)
          subst c36
          have H1 : (Fd.l0 kj29 l0 t102 t105 t106 t107 (wrap64 (x10_2 + ((rd_T34 t102 x12_2).f6))) 0 (wrap64 (x12_2 + 1))) = some r := by rw [if_pos rfl] at H; exact H
          clear H
          have H := H1
          clear H1
          as_aux_lemma =>
           have H' := Ak H
           clear H
           have p122 : 0 ≤ (x12_2 : Int) := Dz
           have q122 : x12_2 < (t102.length : Int) := Dz
           obtain ⟨ad122, e122, hx122_0, hx122_1, hx122_2, hx122_3, hx122_4, hx122_5, hx122_6, hx122_7⟩ := at_T34 (Kd.R_reads' HO_3.out).2.2 x12_2 p122 q122
           cases e122
           replace p122 := eq_true p122; replace q122 := eq_true q122
           have p123 : 0 ≤ (x12_2 : Int) := Dz
           have q123 : x12_2 < (t102.length : Int) := Dz
           obtain ⟨ad123, e123, hx123_0, hx123_1, hx123_2, hx123_3, hx123_4, hx123_5, hx123_6, hx123_7⟩ := at_T34 (Kd.R_reads' HO_3.out).2.2 x12_2 p123 q123
           obtain rfl : ad122 = ad123 := (by injection e123)
           replace p123 := eq_true p123; replace q123 := eq_true q123
           obtain ⟨Ao37, co37, eo37⟩ := Kd.R_slice HO_4.out
           subst eo37
           go_wp2_with (first | ((with_reducible refine gate_callee (f := 11) rfl ?_); refine goesL_ (some 94) rfl rfl Tryz.func11 (by kernel_rfl) rfl #[.slice Ao37 t105.length co37, .string ((rd_T34 t102 x12_2).f1)] rfl (by (try simp only [List.map_toArray, List.map_cons, List.map_nil]); first | done | rfl | (simp only [List.length_drop, List.length_take]; rfl)) ?_; (with_reducible refine (Fy.calls kj29 _ _ t105 ((rd_T34 t102 x12_2).f1) true _ ?side1 ?side2 A35.out).mono ?_); (case side1 => repeat (first | exact (Kd.R_reads' HO_4.out).2.2 | (with_reducible refine Kd.C_alloc ?_ _) | (with_reducible refine Kd.C_drewN ?_ _) | (with_reducible refine Kd.C_drew ?_))); (case side2 => exact (Kd.R_reads' HO_4.out).2.1); rintro e w' ⟨rfl, ⟨nd, rfl⟩⟩; refine ⟨_, rfl, ?_⟩))
           go_roundg kj29
           case measure => have := HJ6.out; have := HK2.out; have := HJ29.out; omega
           case rel => exact ⟨(wrap64 (x10_2 + ((rd_T34 t102 x12_2).f6))), (wrap64 (x12_2 + 1)), (by first | rfl | (simp; done) | (simp [*]; done)), (by first | rfl | (simp; done) | (simp [*]; done)), H', ⟨by have := HJ6.out; have := HK2.out; have := HJ29.out; omega⟩, ⟨by exact RS <| HO_3.out⟩, ⟨by exact RS <| HO_4.out⟩, ⟨by exact RS <| HO_5.out⟩, ⟨by exact eS HB.out⟩⟩
         replace c32 := Bool.eq_false_iff.mpr c32
         subst c32
         have H1 : (Fd.l1 kj29 l0 t102 t106 t107 x10_2 0 0) = some r := by rw [if_neg (show ¬ (false = true) by decide)] at H; exact H
         clear H
         have H := H1
         clear H1
         have H' := Ak H
         clear H
         go_wp2
         go_loopg [11, 13] kj29 (fun kq v11 v13 w' => ∃ (x11_4 : Int) (x13_4 : Int), v11 = .int .i64 x11_4 ∧ v13 = .int .i64 x13_4 ∧ Aside0 (Fd.l1 kq l0 t102 t106 t107 x10_2 x11_4 x13_4 = some r) ∧ Aside0 (kq ≤ kj29) ∧ Aside0 (Kd.R k34 34 w' w.heap.size (fun _ => True) (.slice Ao9 t102.length co9) t102) ∧ Aside0 (Kd.R (Kd.int .i64) 3 w' w.heap.size (fun _ => True) v110 t106) ∧ Aside0 (Below w.heap.size w w'))
         case atStart => exact ⟨(0), (0), (by first | rfl | (simp; done) | (simp [*]; done)), (by first | rfl | (simp; done) | (simp [*]; done)), H', ⟨Nat.le_refl _⟩, ⟨by exact RS <| HO_3.out⟩, ⟨by exact RS <| HO_5.out⟩, ⟨by exact eS HB.out⟩⟩
         case round =>
          clear H'; (try clear c1); (try clear p1); (try clear q1); (try clear hx1); (try clear c2); (try clear p2); (try clear c3); (try clear c4); (try clear c5); (try clear c6); (try clear p6); (try clear c7); (try clear c11); (try clear c12); (try clear c12b0); (try clear c12b1); (try clear c12b2); (try clear p12); (try clear q12); (try clear hx12); (try clear c14); (try clear c16); (try clear c29); (try clear c31); (try clear c31b0); (try clear c32); (try clear c33); (try clear c33b0); (try clear c34); (try clear c34b0); (try clear c36); (try clear hx122_0); (try clear hx122_1); (try clear hx122_2); (try clear hx122_3); (try clear hx122_4); (try clear hx122_5); (try clear hx122_6); (try clear hx122_7); (try clear hx123_0); (try clear hx123_1); (try clear hx123_2); (try clear hx123_3); (try clear hx123_4); (try clear hx123_5); (try clear hx123_6); (try clear hx123_7); (try clear p122); (try clear p123); (try clear p2); (try clear q122); (try clear q123)
          obtain ⟨x11_4, x13_4, rfl, rfl, HA, HK4, HO_3, HO_5, HB⟩ := hrel
          cases gk with
          | zero => exact absurd HA.out (by simp [Fd.l1])
          | succ k4 =>
           have H := HA.out
           clear HA
           simp only [Fd.l1] at H
           by_cases c38 : x13_4 ≤ 5
           ·rw [if_pos c38] at H
            have c38b0 : decide (x13_4 ≤ 5) = true := decide_eq_true c38
            clear c38
            replace H := Option.bind_eq_some_iff.mp H
            obtain ⟨⟨t125, t126⟩, A390, H⟩ := H
            (try dsimp only at H)
            have A39 := Ak A390
            clear A390
            by_cases c40 : (t126 != t107) = true
            ·rw [if_pos c40] at H
             have c40b0 : (t126 != t107) = true := c40
             (try (have c40b1 : decide (t126 = t107) = false := by simpa using c40))
             (try (have c40b2 : (t126 == t107) = false := by simpa using c40))
             (try (have c40b3 : ¬ (t126 = t107) := by simpa using c40))
             clear c40
             as_aux_lemma =>
              exact absurd ((Option.some.inj H).trans HT.out) (by decide)
            rw [if_neg c40] at H
            have c40b0 : (t126 != t107) = false := by simpa using c40
            (try (have c40b1 : decide (t126 = t107) = true := by simpa using c40))
            (try (have c40b2 : (t126 == t107) = true := by simpa using c40))
            clear c40
            as_aux_lemma =>
             have H' := Ak H
             clear H
             go_wp2_with (first | ((with_reducible refine gate_callee (f := 12) rfl ?_); refine goesL_ (some 103) rfl rfl Tryz.func12 (by kernel_rfl) rfl #[.slice Ao9 t102.length co9, .int .i64 x13_4] rfl (by (try simp only [List.map_toArray, List.map_cons, List.map_nil]); first | done | rfl | (simp only [List.length_drop, List.length_take]; rfl)) ?_; (with_reducible refine (Faa.calls k4 _ _ t102 x13_4 t125 t126 _ ?side1 ?side2 A39.out).mono ?_); (case side1 => repeat (first | exact (Kd.R_reads' HO_3.out).2.2 | (with_reducible refine Kd.C_alloc ?_ _) | (with_reducible refine Kd.C_drewN ?_ _) | (with_reducible refine Kd.C_drew ?_))); (case side2 => exact (Kd.R_reads' HO_3.out).2.1); rintro e w41 ⟨v127, rfl, ho0, hb⟩; refine ⟨_, rfl, ?_⟩; have n0_ := Ak (Kd.R_below (by exact RS <| HO_3.out) hb); have n1_ := Ak (Kd.R_elder' (by exact RS <| HO_5.out) (Kd.R_base ho0) hb); have n2_ := Ak (Kd.R_lower (Kd.R_new' ho0 (Kd.R_lt (by exact RS <| HO_5.out))) (below_size (by exact eS HB.out))); have n3_ := Ak (below_step (by exact eS HB.out) hb); clear HO_3; clear HO_5; clear HB; have HO_3 := n0_; have HO_5 := n1_; have HO128 := n2_; have HB := n3_; clear n0_ n1_ n2_ n3_; (try clear hb); (try clear hb2); (try clear hk); (try clear hi); (try clear ho0); obtain ⟨Ao42, co42, eo42⟩ := Kd.R_slice HO128.out; subst eo42))
             go_roundg k4
             case measure => have := HJ6.out; have := HK2.out; have := HJ29.out; have := HK4.out; omega
             case rel => exact ⟨(wrap64 (x11_4 + (t125.length : Int))), (wrap64 (x13_4 + 1)), (by first | rfl | (simp; done) | (simp [*]; done)), (by first | rfl | (simp; done) | (simp [*]; done)), H', ⟨by have := HJ6.out; have := HK2.out; have := HJ29.out; have := HK4.out; omega⟩, ⟨by exact RS <| HO_3.out⟩, ⟨by exact RS <| Kd.R_mono HO_5.out (fun _ hk => trivial)⟩, ⟨by exact eS HB.out⟩⟩
           rw [if_neg c38] at H
           have c38b0 : decide (x13_4 ≤ 5) = false := decide_eq_false c38
           clear c38
           have HC43 := Ak H
           clear H
           go_upto_region 22 with (fail)
           go_cut [125] (fun v125 wc => ∃ (kq : Nat) (x125_42 : Bool), v125 = .bool x125_42 ∧ Aside0 (Fd.j4 kq l0 x125_42 = some r) ∧ Aside0 (kq ≤ k4) ∧ Aside0 (Below w.heap.size w wc))
           case first =>
            have H := HC43.out
            clear HC43
            by_cases c44 : t107 = true
            rotate_left
            ·replace c44 := Bool.eq_false_iff.mpr c44
             subst c44
             have H1 : (Fd.j4 k4 l0 false) = some r := by rw [if_neg (show ¬ (false = true) by decide)] at H; exact H
             clear H
             have H := H1
             clear H1
             as_aux_lemma =>
              have H' := Ak H
              clear H
              go_wp2
              go_meet
              case rel => exact ⟨_, (false), (by first | rfl | (simp; done) | (simp [*]; done)), H', ⟨by have := HJ6.out; have := HK2.out; have := HJ29.out; have := HK4.out; first | omega | exact Nat.le_refl _⟩, ⟨by exact eS HB.out⟩⟩
            subst c44
            have H1 : ((Fak.f k4 t106).bind fun t129 => (if t129 = x10_2 then (Fd.j4 k4 l0 (x11_4 != (t102.length : Int))) else (Fd.j4 k4 l0 true))) = some r := by rw [if_pos rfl] at H; exact H
            clear H
            have H := H1
            clear H1
            replace H := Option.bind_eq_some_iff.mp H
            obtain ⟨t129, A450, H⟩ := H
            (try dsimp only at H)
            have A45 := Ak A450
            clear A450
            by_cases c46 : t129 = x10_2
            rotate_left
            ·rw [if_neg c46] at H
             have c46b0 : (t129 == x10_2) = false := beq_eq_false_iff_ne.mpr c46
             have c46b1 : (t129 != x10_2) = true := bne_iff_ne.mpr c46
             (first | rw [c46b0] | (simp only [i64_w, i32_w]; rw [c46b0]) | skip)
             as_aux_lemma =>
              have H' := Ak H
              clear H
              obtain ⟨Ao48, co48, eo48⟩ := Kd.R_slice HO_5.out
              subst eo48
              go_wp2_with (first | (go_at_call 13; (with_reducible refine (Fak.calls k4 _ _ t106 t129 _ ?side1 ?side2 A45.out).mono ?_); (case side1 => repeat (first | exact (Kd.R_reads' HO_5.out).2.2 | (with_reducible refine Kd.C_alloc ?_ _) | (with_reducible refine Kd.C_drewN ?_ _) | (with_reducible refine Kd.C_drew ?_))); (case side2 => exact (Kd.R_reads' HO_5.out).2.1); rintro e w' ⟨rfl, ⟨nd, rfl⟩⟩))
              go_meet
              case rel => exact ⟨_, (true), (by first | rfl | (simp; done) | (simp [*]; done)), H', ⟨by have := HJ6.out; have := HK2.out; have := HJ29.out; have := HK4.out; first | omega | exact Nat.le_refl _⟩, ⟨by exact eS HB.out⟩⟩
            rw [if_pos c46] at H
            have c46b0 : (t129 == x10_2) = true := beq_iff_eq.mpr c46
            have c46b1 : (t129 != x10_2) = false := bne_eq_false_iff_eq.mpr c46
            clear c46
            (first | rw [c46b0] | (simp only [i64_w, i32_w]; rw [c46b0]) | skip)
            as_aux_lemma =>
             have H' := Ak H
             clear H
             obtain ⟨Ao47, co47, eo47⟩ := Kd.R_slice HO_5.out
             subst eo47
             go_wp2_with (first | (go_at_call 13; (with_reducible refine (Fak.calls k4 _ _ t106 t129 _ ?side1 ?side2 A45.out).mono ?_); (case side1 => repeat (first | exact (Kd.R_reads' HO_5.out).2.2 | (with_reducible refine Kd.C_alloc ?_ _) | (with_reducible refine Kd.C_drewN ?_ _) | (with_reducible refine Kd.C_drew ?_))); (case side2 => exact (Kd.R_reads' HO_5.out).2.1); rintro e w' ⟨rfl, ⟨nd, rfl⟩⟩))
             go_meet
             case rel => exact ⟨_, ((x11_4 != (t102.length : Int))), (by first | rfl | (simp; done) | (simp [*]; done)), H', ⟨by have := HJ6.out; have := HK2.out; have := HJ29.out; have := HK4.out; first | omega | exact Nat.le_refl _⟩, ⟨by exact eS HB.out⟩⟩
           case rest =>
            clear HC43; (try clear c1); (try clear p1); (try clear q1); (try clear hx1); (try clear c2); (try clear p2); (try clear c3); (try clear c4); (try clear c5); (try clear c6); (try clear p6); (try clear c7); (try clear c11); (try clear c12); (try clear c12b0); (try clear c12b1); (try clear c12b2); (try clear p12); (try clear q12); (try clear hx12); (try clear c14); (try clear c16); (try clear c29); (try clear c31); (try clear c31b0); (try clear c32); (try clear c33); (try clear c33b0); (try clear c34); (try clear c34b0); (try clear c36); (try clear c38); (try clear c38b0); (try clear c40); (try clear c40b0); (try clear c40b1); (try clear c40b2); (try clear c44); (try clear c46); (try clear c46b0); (try clear c46b1); (try clear hx122_0); (try clear hx122_1); (try clear hx122_2); (try clear hx122_3); (try clear hx122_4); (try clear hx122_5); (try clear hx122_6); (try clear hx122_7); (try clear hx123_0); (try clear hx123_1); (try clear hx123_2); (try clear hx123_3); (try clear hx123_4); (try clear hx123_5); (try clear hx123_6); (try clear hx123_7); (try clear p1); (try clear p12); (try clear p122); (try clear p123); (try clear p2); (try clear p6); (try clear q1); (try clear q12); (try clear q122); (try clear q123)
            as_aux_lemma =>
             obtain ⟨kq, x125_42, rfl, HA, HJ42, HB⟩ := hcut
             cases kq with
             | zero => exact absurd HA.out (by simp [Fd.j4])
             | succ kj42 =>
              have H := HA.out
              clear HA
              simp only [Fd.j4] at H
              by_cases c49 : x125_42 = true
              ·subst c49
               have H1 : (some false) = some r := by rw [if_pos rfl] at H; exact H
               clear H
               have H := H1
               clear H1
               as_aux_lemma =>
                exact absurd ((Option.some.inj H).trans HT.out) (by decide)
              replace c49 := Bool.eq_false_iff.mpr c49
              subst c49
              have H1 : ((Fw.f kj42 l0).bind fun bt130 => ((Fn.f kj42 bt130.1 bt130.2.1 bt130.2.2).bind fun bt135 => ((Fk.f kj42 bt130.1 bt130.2.1 bt130.2.2).bind fun bt139 => (if (bt135.2 != bt139.2) = true then (Fd.j5 kj42 l0 true) else ((Fad.f kj42 bt135.1 bt139.1).bind fun t143 => (Fd.j5 kj42 l0 (!t143))))))) = some r := by rw [if_neg (show ¬ (false = true) by decide)] at H; exact H
              clear H
              have H := H1
              clear H1
              replace H := Option.bind_eq_some_iff.mp H
              obtain ⟨⟨t130, t131, t132⟩, A500, H⟩ := H
              (try dsimp only at H)
              have A50 := Ak A500
              clear A500
              replace H := Option.bind_eq_some_iff.mp H
              obtain ⟨⟨t135, t136⟩, A510, H⟩ := H
              (try dsimp only at H)
              have A51 := Ak A510
              clear A510
              replace H := Option.bind_eq_some_iff.mp H
              obtain ⟨⟨t139, t140⟩, A520, H⟩ := H
              (try dsimp only at H)
              have A52 := Ak A520
              clear A520
              have HC53 := Ak H
              clear H
              go_upto_region 27 with (first | ((with_reducible refine gate_callee (f := 14) rfl ?_); refine goesL_ (some 128) rfl rfl Tryz.func14 (by kernel_rfl) rfl #[.slice A0 l0.length c0] rfl (by (try simp only [List.map_toArray, List.map_cons, List.map_nil]); first | done | rfl | (simp only [List.length_drop, List.length_take]; rfl)) ?_; (with_reducible refine (Fw.calls kj42 _ _ l0 t130 t131 t132 _ ?side1 ?side2 A50.out).mono ?_); (case side1 => repeat (first | exact (Kd.C_below HR0.out HB.out) | (with_reducible refine Kd.C_alloc ?_ _) | (with_reducible refine Kd.C_drewN ?_ _) | (with_reducible refine Kd.C_drew ?_))); (case side2 => exact HC0.out); rintro e w54 ⟨v133, rfl, ho0, hb⟩; refine ⟨_, rfl, ?_⟩; have n0_ := Ak (Kd.R_lower ho0 (below_size (by exact eS HB.out))); have n1_ := Ak (below_step (by exact eS HB.out) hb); clear HB; have HO134 := n0_; have HB := n1_; clear n0_ n1_; (try clear hb); (try clear hb2); (try clear hk); (try clear hi); (try clear ho0); obtain ⟨Ao55, co55, eo55⟩ := Kd.R_slice HO134.out; subst eo55) | ((with_reducible refine gate_callee (f := 15) rfl ?_); refine goesL_ (some 136) rfl rfl Tryz.func15 (by kernel_rfl) rfl #[.slice Ao55 t130.length co55, .int .i64 t131, .int .i64 t132] rfl (by (try simp only [List.map_toArray, List.map_cons, List.map_nil]); first | done | rfl | (simp only [List.length_drop, List.length_take]; rfl)) ?_; (with_reducible refine (Fn.calls kj42 _ _ t130 t131 t132 t135 t136 _ ?side1 ?side2 A51.out).mono ?_); (case side1 => repeat (first | exact (Kd.R_reads' HO134.out).2.2 | (with_reducible refine Kd.C_alloc ?_ _) | (with_reducible refine Kd.C_drewN ?_ _) | (with_reducible refine Kd.C_drew ?_))); (case side2 => exact (Kd.R_reads' HO134.out).2.1); rintro e w56 ⟨v137, rfl, ho0, hb⟩; refine ⟨_, rfl, ?_⟩; have n0_ := Ak (Kd.R_below (by exact RS <| HO134.out) hb); have n1_ := Ak (Kd.R_lower ho0 (below_size (by exact eS HB.out))); have n2_ := Ak (below_step (by exact eS HB.out) hb); clear HO134; clear HB; have HO134 := n0_; have HO138 := n1_; have HB := n2_; clear n0_ n1_ n2_; (try clear hb); (try clear hb2); (try clear hk); (try clear hi); (try clear ho0)) | ((with_reducible refine gate_callee (f := 16) rfl ?_); refine goesL_ (some 143) rfl rfl Tryz.func16 (by kernel_rfl) rfl #[.slice Ao55 t130.length co55, .int .i64 t131, .int .i64 t132] rfl (by (try simp only [List.map_toArray, List.map_cons, List.map_nil]); first | done | rfl | (simp only [List.length_drop, List.length_take]; rfl)) ?_; (with_reducible refine (Fk.calls kj42 _ _ t130 t131 t132 t139 t140 _ ?side1 ?side2 A52.out).mono ?_); (case side1 => repeat (first | exact (Kd.R_reads' HO134.out).2.2 | (with_reducible refine Kd.C_alloc ?_ _) | (with_reducible refine Kd.C_drewN ?_ _) | (with_reducible refine Kd.C_drew ?_))); (case side2 => exact (Kd.R_reads' HO134.out).2.1); rintro e w57 ⟨v141, rfl, ho0, hb⟩; refine ⟨_, rfl, ?_⟩; have n0_ := Ak (Kd.R_below (by exact RS <| HO134.out) hb); have n1_ := Ak (Kd.R_elder' (by exact RS <| HO138.out) (Kd.R_base ho0) hb); have n2_ := Ak (Kd.R_lower (Kd.R_new' ho0 (Kd.R_lt (by exact RS <| HO138.out))) (below_size (by exact eS HB.out))); have n3_ := Ak (below_step (by exact eS HB.out) hb); clear HO134; clear HO138; clear HB; have HO134 := n0_; have HO138 := n1_; have HO142 := n2_; have HB := n3_; clear n0_ n1_ n2_ n3_; (try clear hb); (try clear hb2); (try clear hk); (try clear hi); (try clear ho0)))
              (try simp only [Act.put, List.setIfInBounds_toArray, List.set_cons_zero, List.set_cons_succ])
              go_cut [154] (fun v154 wc => ∃ (kq : Nat) (x154_52 : Bool), v154 = .bool x154_52 ∧ Aside0 (Fd.j5 kq l0 x154_52 = some r) ∧ Aside0 (kq ≤ kj42) ∧ Aside0 (Below w.heap.size w wc))
              case first =>
               have H := HC53.out
               clear HC53
               by_cases c58 : (t136 != t140) = true
               ·rw [if_pos c58] at H
                have c58b0 : (t136 != t140) = true := c58
                (try (have c58b1 : decide (t136 = t140) = false := by simpa using c58))
                (try (have c58b2 : (t136 == t140) = false := by simpa using c58))
                (try (have c58b3 : ¬ (t136 = t140) := by simpa using c58))
                clear c58
                (first | rw [c58b0] | (simp only [i64_w, i32_w]; rw [c58b0]) | skip)
                as_aux_lemma =>
                 have H' := Ak H
                 clear H
                 go_wp2
                 go_meet
                 case rel => exact ⟨_, (true), (by first | rfl | (simp; done) | (simp [*]; done)), H', ⟨by have := HJ6.out; have := HK2.out; have := HJ29.out; have := HK4.out; have := HJ42.out; first | omega | exact Nat.le_refl _⟩, ⟨by exact eS HB.out⟩⟩
               rw [if_neg c58] at H
               have c58b0 : (t136 != t140) = false := by simpa using c58
               (try (have c58b1 : decide (t136 = t140) = true := by simpa using c58))
               (try (have c58b2 : (t136 == t140) = true := by simpa using c58))
               clear c58
               (first | rw [c58b0] | (simp only [i64_w, i32_w]; rw [c58b0]) | skip)
               replace H := Option.bind_eq_some_iff.mp H
               obtain ⟨t143, A590, H⟩ := H
               (try dsimp only at H)
               have A59 := Ak A590
               clear A590
               as_aux_lemma =>
                have H' := Ak H
                clear H
                obtain ⟨Ao60, co60, eo60⟩ := Kd.R_slice HO138.out
                subst eo60
                obtain ⟨Ao61, co61, eo61⟩ := Kd.R_slice HO142.out
                subst eo61
                go_wp2_with (first | (go_at_call 9; (with_reducible refine (Fad.calls kj42 _ _ t135 _ _ t139 t143 _ ?side1 ?side2 ?side3 ?side4 A59.out).mono ?_); (case side1 => repeat (first | exact (Kd.R_reads' HO138.out).2.2 | (with_reducible refine Kd.C_alloc ?_ _) | (with_reducible refine Kd.C_drewN ?_ _) | (with_reducible refine Kd.C_drew ?_))); (case side2 => exact (Kd.R_reads' HO138.out).2.1); (case side3 => repeat (first | exact (Kd.R_reads' HO142.out).2.2 | (with_reducible refine Kd.C_alloc ?_ _) | (with_reducible refine Kd.C_drewN ?_ _) | (with_reducible refine Kd.C_drew ?_))); (case side4 => exact (Kd.R_reads' HO142.out).2.1); rintro e w' ⟨rfl, ⟨nd, rfl⟩⟩))
                go_meet
                case rel => exact ⟨_, (!t143), (by first | rfl | (simp; done) | (simp [*]; done)), H', ⟨by have := HJ6.out; have := HK2.out; have := HJ29.out; have := HK4.out; have := HJ42.out; first | omega | exact Nat.le_refl _⟩, ⟨by exact eS HB.out⟩⟩
              case rest =>
               clear HC53; (try clear c1); (try clear p1); (try clear q1); (try clear hx1); (try clear c2); (try clear p2); (try clear c3); (try clear c4); (try clear c5); (try clear c6); (try clear p6); (try clear c7); (try clear c11); (try clear c12); (try clear c12b0); (try clear c12b1); (try clear c12b2); (try clear p12); (try clear q12); (try clear hx12); (try clear c14); (try clear c15); (try clear c16); (try clear c29); (try clear c31); (try clear c31b0); (try clear c32); (try clear c33); (try clear c33b0); (try clear c34); (try clear c34b0); (try clear c36); (try clear c38); (try clear c38b0); (try clear c40); (try clear c40b0); (try clear c40b1); (try clear c40b2); (try clear c44); (try clear c46); (try clear c46b0); (try clear c46b1); (try clear c49); (try clear c58); (try clear c58b0); (try clear c58b1); (try clear c58b2); (try clear hx122_0); (try clear hx122_1); (try clear hx122_2); (try clear hx122_3); (try clear hx122_4); (try clear hx122_5); (try clear hx122_6); (try clear hx122_7); (try clear hx123_0); (try clear hx123_1); (try clear hx123_2); (try clear hx123_3); (try clear hx123_4); (try clear hx123_5); (try clear hx123_6); (try clear hx123_7); (try clear p1); (try clear p12); (try clear p122); (try clear p123); (try clear p2); (try clear p6); (try clear q1); (try clear q12); (try clear q122); (try clear q123)
               as_aux_lemma =>
                obtain ⟨kq, x154_52, rfl, HA, HJ52, HB⟩ := hcut
                cases kq with
                | zero => exact absurd HA.out (by simp [Fd.j5])
                | succ kj52 =>
                 have H := HA.out
                 clear HA
                 simp only [Fd.j5] at H
                 by_cases c62 : x154_52 = true
                 ·subst c62
                  have H1 : (some false) = some r := by rw [if_pos rfl] at H; exact H
                  clear H
                  have H := H1
                  clear H1
                  as_aux_lemma =>
                   exact absurd ((Option.some.inj H).trans HT.out) (by decide)
                 replace c62 := Bool.eq_false_iff.mpr c62
                 subst c62
                 have H1 : ((Fac.f kj52 l0).bind fun bt144 => ((Fp.f kj52 bt144.1 bt144.2).bind fun bt148 => ((Fq.f kj52 bt144.1 bt144.2).bind fun bt150 => (if bt148.1 = bt150.1 then (if (bt148.2 != bt150.2) = true then (Fd.j6 kj52 l0 true) else (Fd.j6 kj52 l0 (decide (bt148.1 < 0)))) else (Fd.j6 kj52 l0 true))))) = some r := by rw [if_neg (show ¬ (false = true) by decide)] at H; exact H
                 clear H
                 have H := H1
                 clear H1
                 replace H := Option.bind_eq_some_iff.mp H
                 obtain ⟨⟨t144, t145⟩, A630, H⟩ := H
                 (try dsimp only at H)
                 have A63 := Ak A630
                 clear A630
                 replace H := Option.bind_eq_some_iff.mp H
                 obtain ⟨⟨t148, t149⟩, A640, H⟩ := H
                 (try dsimp only at H)
                 have A64 := Ak A640
                 clear A640
                 replace H := Option.bind_eq_some_iff.mp H
                 obtain ⟨⟨t150, t151⟩, A650, H⟩ := H
                 (try dsimp only at H)
                 have A65 := Ak A650
                 clear A650
                 have HC66 := Ak H
                 clear H
                 go_upto_region 32 with (first | ((with_reducible refine gate_callee (f := 17) rfl ?_); refine goesL_ (some 157) rfl rfl Tryz.func17 (by kernel_rfl) rfl #[.slice A0 l0.length c0] rfl (by (try simp only [List.map_toArray, List.map_cons, List.map_nil]); first | done | rfl | (simp only [List.length_drop, List.length_take]; rfl)) ?_; (with_reducible refine (Fac.calls kj52 _ _ l0 t144 t145 _ ?side1 ?side2 A63.out).mono ?_); (case side1 => repeat (first | exact (Kd.C_below HR0.out HB.out) | (with_reducible refine Kd.C_alloc ?_ _) | (with_reducible refine Kd.C_drewN ?_ _) | (with_reducible refine Kd.C_drew ?_))); (case side2 => exact HC0.out); rintro e w67 ⟨v146, rfl, ho0, hb⟩; refine ⟨_, rfl, ?_⟩; have n0_ := Ak (Kd.R_lower ho0 (below_size (by exact eS HB.out))); have n1_ := Ak (below_step (by exact eS HB.out) hb); clear HB; have HO147 := n0_; have HB := n1_; clear n0_ n1_; (try clear hb); (try clear hb2); (try clear hk); (try clear hi); (try clear ho0); obtain ⟨Ao68, co68, eo68⟩ := Kd.R_slice HO147.out; subst eo68) | ((with_reducible refine gate_callee (f := 18) rfl ?_); refine goesL_ (some 163) rfl rfl Tryz.func18 (by kernel_rfl) rfl #[.slice Ao68 t144.length co68, .string t145] rfl (by (try simp only [List.map_toArray, List.map_cons, List.map_nil]); first | done | rfl | (simp only [List.length_drop, List.length_take]; rfl)) ?_; (with_reducible refine (Fp.calls kj52 _ _ t144 t145 t148 t149 _ ?side1 ?side2 A64.out).mono ?_); (case side1 => repeat (first | exact (Kd.R_reads' HO147.out).2.2 | (with_reducible refine Kd.C_alloc ?_ _) | (with_reducible refine Kd.C_drewN ?_ _) | (with_reducible refine Kd.C_drew ?_))); (case side2 => exact (Kd.R_reads' HO147.out).2.1); rintro e w69 ⟨rfl, hb⟩; refine ⟨_, rfl, ?_⟩; have n0_ := Ak (Kd.R_below (by exact RS <| HO147.out) hb); have n1_ := Ak (below_step (by exact eS HB.out) hb); clear HO147; clear HB; have HO147 := n0_; have HB := n1_; clear n0_ n1_; (try clear hb); (try clear hb2); (try clear hk); (try clear hi)) | ((with_reducible refine gate_callee (f := 19) rfl ?_); refine goesL_ (some 169) rfl rfl Tryz.func19 (by kernel_rfl) rfl #[.slice Ao68 t144.length co68, .string t145] rfl (by (try simp only [List.map_toArray, List.map_cons, List.map_nil]); first | done | rfl | (simp only [List.length_drop, List.length_take]; rfl)) ?_; (with_reducible refine (Fq.calls kj52 _ _ t144 t145 t150 t151 _ ?side1 ?side2 A65.out).mono ?_); (case side1 => repeat (first | exact (Kd.R_reads' HO147.out).2.2 | (with_reducible refine Kd.C_alloc ?_ _) | (with_reducible refine Kd.C_drewN ?_ _) | (with_reducible refine Kd.C_drew ?_))); (case side2 => exact (Kd.R_reads' HO147.out).2.1); rintro e w70 ⟨rfl, hb⟩; refine ⟨_, rfl, ?_⟩; have n0_ := Ak (Kd.R_below (by exact RS <| HO147.out) hb); have n1_ := Ak (below_step (by exact eS HB.out) hb); clear HO147; clear HB; have HO147 := n0_; have HB := n1_; clear n0_ n1_; (try clear hb); (try clear hb2); (try clear hk); (try clear hi)))
                 (try simp only [Act.put, List.setIfInBounds_toArray, List.set_cons_zero, List.set_cons_succ])
                 go_cut [183] (fun v183 wc => ∃ (kq : Nat) (x183_65 : Bool), v183 = .bool x183_65 ∧ Aside0 (Fd.j6 kq l0 x183_65 = some r) ∧ Aside0 (kq ≤ kj52) ∧ Aside0 (Below w.heap.size w wc))
                 case first =>
                  have H := HC66.out
                  clear HC66
                  by_cases c71 : t148 = t150
                  rotate_left
                  ·rw [if_neg c71] at H
                   have c71b0 : (t148 == t150) = false := beq_eq_false_iff_ne.mpr c71
                   have c71b1 : (t148 != t150) = true := bne_iff_ne.mpr c71
                   (first | rw [c71b0] | (simp only [i64_w, i32_w]; rw [c71b0]) | skip)
                   as_aux_lemma =>
                    have H' := Ak H
                    clear H
                    go_wp2
                    go_meet
                    case rel => exact ⟨_, (true), (by first | rfl | (simp; done) | (simp [*]; done)), H', ⟨by have := HJ6.out; have := HK2.out; have := HJ29.out; have := HK4.out; have := HJ42.out; have := HJ52.out; first | omega | exact Nat.le_refl _⟩, ⟨by exact eS HB.out⟩⟩
                  rw [if_pos c71] at H
                  have c71b0 : (t148 == t150) = true := beq_iff_eq.mpr c71
                  have c71b1 : (t148 != t150) = false := bne_eq_false_iff_eq.mpr c71
                  clear c71
                  (first | rw [c71b0] | (simp only [i64_w, i32_w]; rw [c71b0]) | skip)
                  by_cases c72 : (t149 != t151) = true
                  rotate_left
                  ·rw [if_neg c72] at H
                   have c72b0 : (t149 != t151) = false := by simpa using c72
                   (try (have c72b1 : decide (t149 = t151) = true := by simpa using c72))
                   (try (have c72b2 : (t149 == t151) = true := by simpa using c72))
                   clear c72
                   as_aux_lemma =>
                    have H' := Ak H
                    clear H
                    go_wp2
                    go_meet
                    case rel => exact ⟨_, (decide (t148 < 0)), (by first | rfl | (simp; done) | (simp [*]; done)), H', ⟨by have := HJ6.out; have := HK2.out; have := HJ29.out; have := HK4.out; have := HJ42.out; have := HJ52.out; first | omega | exact Nat.le_refl _⟩, ⟨by exact eS HB.out⟩⟩
                  rw [if_pos c72] at H
                  have c72b0 : (t149 != t151) = true := c72
                  (try (have c72b1 : decide (t149 = t151) = false := by simpa using c72))
                  (try (have c72b2 : (t149 == t151) = false := by simpa using c72))
                  (try (have c72b3 : ¬ (t149 = t151) := by simpa using c72))
                  clear c72
                  as_aux_lemma =>
                   have H' := Ak H
                   clear H
                   go_wp2
                   go_meet
                   case rel => exact ⟨_, (true), (by first | rfl | (simp; done) | (simp [*]; done)), H', ⟨by have := HJ6.out; have := HK2.out; have := HJ29.out; have := HK4.out; have := HJ42.out; have := HJ52.out; first | omega | exact Nat.le_refl _⟩, ⟨by exact eS HB.out⟩⟩
                 case rest =>
                  clear HC66; (try clear c1); (try clear p1); (try clear q1); (try clear hx1); (try clear c2); (try clear p2); (try clear c3); (try clear c4); (try clear c5); (try clear c6); (try clear p6); (try clear c7); (try clear c11); (try clear c12); (try clear c12b0); (try clear c12b1); (try clear c12b2); (try clear p12); (try clear q12); (try clear hx12); (try clear c14); (try clear c15); (try clear c16); (try clear c17); (try clear c18); (try clear c19); (try clear c29); (try clear c31); (try clear c31b0); (try clear c32); (try clear c33); (try clear c33b0); (try clear c34); (try clear c34b0); (try clear c36); (try clear c38); (try clear c38b0); (try clear c40); (try clear c40b0); (try clear c40b1); (try clear c40b2); (try clear c44); (try clear c46); (try clear c46b0); (try clear c46b1); (try clear c49); (try clear c58); (try clear c58b0); (try clear c58b1); (try clear c58b2); (try clear c62); (try clear p64); (try clear c71); (try clear c71b0); (try clear c71b1); (try clear c72); (try clear c72b0); (try clear c72b1); (try clear c72b2); (try clear hx122_0); (try clear hx122_1); (try clear hx122_2); (try clear hx122_3); (try clear hx122_4); (try clear hx122_5); (try clear hx122_6); (try clear hx122_7); (try clear hx123_0); (try clear hx123_1); (try clear hx123_2); (try clear hx123_3); (try clear hx123_4); (try clear hx123_5); (try clear hx123_6); (try clear hx123_7); (try clear p1); (try clear p12); (try clear p122); (try clear p123); (try clear p2); (try clear p6); (try clear q1); (try clear q12); (try clear q122); (try clear q123)
                  as_aux_lemma =>
                   obtain ⟨kq, x183_65, rfl, HA, HJ65, HB⟩ := hcut
                   cases kq with
                   | zero => exact absurd HA.out (by simp [Fd.j6])
                   | succ kj65 =>
                    have H := HA.out
                    clear HA
                    simp only [Fd.j6] at H
                    by_cases c73 : x183_65 = true
                    ·subst c73
                     have H1 : (some false) = some r := by rw [if_pos rfl] at H; exact H
                     clear H
                     have H := H1
                     clear H1
                     as_aux_lemma =>
                      exact absurd ((Option.some.inj H).trans HT.out) (by decide)
                    replace c73 := Bool.eq_false_iff.mpr c73
                    subst c73
                    have H1 : ((Fx.f kj65 l0).bind fun t152 => ((Fr.f kj65 t152).bind fun bt155 => ((Fs.f kj65 t152).bind fun bt157 => ((Fbb.f l0).bind fun bt159 => (if bt155.1 = bt157.1 then (if (bt155.2 == bt157.2) = true then ((Fl.f kj65 bt159.1 bt159.2.1 bt159.2.2.1 bt159.2.2.2.1 bt159.2.2.2.2.1 bt159.2.2.2.2.2.1 bt159.2.2.2.2.2.2.1 bt159.2.2.2.2.2.2.2).bind fun t168 => ((Faf.f kj65 bt159.1 bt159.2.1 bt159.2.2.1 bt159.2.2.2.1 bt159.2.2.2.2.1 bt159.2.2.2.2.2.1 bt159.2.2.2.2.2.2.1 bt159.2.2.2.2.2.2.2).bind fun t169 => (some (t168 == t169)))) else (some false)) else (some false)))))) = some r := by rw [if_neg (show ¬ (false = true) by decide)] at H; exact H
                    clear H
                    have H := H1
                    clear H1
                    replace H := Option.bind_eq_some_iff.mp H
                    obtain ⟨t152, A740, H⟩ := H
                    (try dsimp only at H)
                    have A74 := Ak A740
                    clear A740
                    replace H := Option.bind_eq_some_iff.mp H
                    obtain ⟨⟨t155, t156⟩, A750, H⟩ := H
                    (try dsimp only at H)
                    have A75 := Ak A750
                    clear A750
                    replace H := Option.bind_eq_some_iff.mp H
                    obtain ⟨⟨t157, t158⟩, A760, H⟩ := H
                    (try dsimp only at H)
                    have A76 := Ak A760
                    clear A760
                    replace H := Option.bind_eq_some_iff.mp H
                    obtain ⟨⟨t159, t160, t161, t162, t163, t164, t165, t166⟩, A770, H⟩ := H
                    (try dsimp only at H)
                    have A77 := Ak A770
                    clear A770
                    by_cases c78 : t155 = t157
                    rotate_left
                    ·rw [if_neg c78] at H
                     have c78b0 : (t155 == t157) = false := beq_eq_false_iff_ne.mpr c78
                     have c78b1 : (t155 != t157) = true := bne_iff_ne.mpr c78
                     as_aux_lemma =>
                      exact absurd ((Option.some.inj H).trans HT.out) (by decide)
                    rw [if_pos c78] at H
                    have c78b0 : (t155 == t157) = true := beq_iff_eq.mpr c78
                    have c78b1 : (t155 != t157) = false := bne_eq_false_iff_eq.mpr c78
                    clear c78
                    by_cases c79 : (t156 == t158) = true
                    rotate_left
                    ·rw [if_neg c79] at H
                     have c79b0 : (t156 == t158) = false := by simpa using c79
                     (try (have c79b1 : decide (t156 = t158) = false := by simpa using c79))
                     (try (have c79b2 : (t156 == t158) = false := by simpa using c79))
                     (try (have c79b3 : ¬ (t156 = t158) := by simpa using c79))
                     clear c79
                     as_aux_lemma =>
                      exact absurd ((Option.some.inj H).trans HT.out) (by decide)
                    rw [if_pos c79] at H
                    have c79b0 : (t156 == t158) = true := c79
                    (try (have c79b1 : decide (t156 = t158) = true := by simpa using c79))
                    (try (have c79b2 : (t156 == t158) = true := by simpa using c79))
                    clear c79
                    replace H := Option.bind_eq_some_iff.mp H
                    obtain ⟨t168, A800, H⟩ := H
                    (try dsimp only at H)
                    have A80 := Ak A800
                    clear A800
                    replace H := Option.bind_eq_some_iff.mp H
                    obtain ⟨t169, A810, H⟩ := H
                    (try dsimp only at H)
                    have A81 := Ak A810
                    clear A810
                    as_aux_lemma =>
                     obtain rfl := Option.some.inj H
                     try go_wp2_with (first | ((with_reducible refine gate_callee (f := 20) rfl ?_); refine goesL_ (some 185) rfl rfl Tryz.func20 (by kernel_rfl) rfl #[.slice A0 l0.length c0] rfl (by (try simp only [List.map_toArray, List.map_cons, List.map_nil]); first | done | rfl | (simp only [List.length_drop, List.length_take]; rfl)) ?_; (with_reducible refine (Fx.calls kj65 _ _ l0 t152 _ ?side1 ?side2 A74.out).mono ?_); (case side1 => repeat (first | exact (Kd.C_below HR0.out HB.out) | (with_reducible refine Kd.C_alloc ?_ _) | (with_reducible refine Kd.C_drewN ?_ _) | (with_reducible refine Kd.C_drew ?_))); (case side2 => exact HC0.out); rintro e w82 ⟨v153, rfl, ho0, hb⟩; refine ⟨_, rfl, ?_⟩; have n0_ := Ak (Kd.R_lower ho0 (below_size (by exact eS HB.out))); have n1_ := Ak (below_step (by exact eS HB.out) hb); clear HB; have HO154 := n0_; have HB := n1_; clear n0_ n1_; (try clear hb); (try clear hb2); (try clear hk); (try clear hi); (try clear ho0); obtain ⟨Ao83, co83, eo83⟩ := Kd.R_slice HO154.out; subst eo83) | ((with_reducible refine gate_callee (f := 21) rfl ?_); refine goesL_ (some 188) rfl rfl Tryz.func21 (by kernel_rfl) rfl #[.slice Ao83 t152.length co83] rfl (by (try simp only [List.map_toArray, List.map_cons, List.map_nil]); first | done | rfl | (simp only [List.length_drop, List.length_take]; rfl)) ?_; (with_reducible refine (Fr.calls kj65 _ _ t152 t155 t156 _ ?side1 ?side2 A75.out).mono ?_); (case side1 => repeat (first | exact (Kd.R_reads' HO154.out).2.2 | (with_reducible refine Kd.C_alloc ?_ _) | (with_reducible refine Kd.C_drewN ?_ _) | (with_reducible refine Kd.C_drew ?_))); (case side2 => exact (Kd.R_reads' HO154.out).2.1); rintro e w84 ⟨rfl, hb⟩; refine ⟨_, rfl, ?_⟩; have n0_ := Ak (Kd.R_below (by exact RS <| HO154.out) hb); have n1_ := Ak (below_step (by exact eS HB.out) hb); clear HO154; clear HB; have HO154 := n0_; have HB := n1_; clear n0_ n1_; (try clear hb); (try clear hb2); (try clear hk); (try clear hi)) | ((with_reducible refine gate_callee (f := 22) rfl ?_); refine goesL_ (some 193) rfl rfl Tryz.func22 (by kernel_rfl) rfl #[.slice Ao83 t152.length co83] rfl (by (try simp only [List.map_toArray, List.map_cons, List.map_nil]); first | done | rfl | (simp only [List.length_drop, List.length_take]; rfl)) ?_; (with_reducible refine (Fs.calls kj65 _ _ t152 t157 t158 _ ?side1 ?side2 A76.out).mono ?_); (case side1 => repeat (first | exact (Kd.R_reads' HO154.out).2.2 | (with_reducible refine Kd.C_alloc ?_ _) | (with_reducible refine Kd.C_drewN ?_ _) | (with_reducible refine Kd.C_drew ?_))); (case side2 => exact (Kd.R_reads' HO154.out).2.1); rintro e w85 ⟨rfl, hb⟩; refine ⟨_, rfl, ?_⟩; have n0_ := Ak (Kd.R_below (by exact RS <| HO154.out) hb); have n1_ := Ak (below_step (by exact eS HB.out) hb); clear HO154; clear HB; have HO154 := n0_; have HB := n1_; clear n0_ n1_; (try clear hb); (try clear hb2); (try clear hk); (try clear hi)) | ((with_reducible refine gate_callee (f := 23) rfl ?_); refine goesL_ (some 197) rfl rfl Tryz.func23 (by kernel_rfl) rfl #[.slice A0 l0.length c0] rfl (by (try simp only [List.map_toArray, List.map_cons, List.map_nil]); first | done | rfl | (simp only [List.length_drop, List.length_take]; rfl)) ?_; (with_reducible refine (Fbb.calls _ _ l0 t159 t160 t161 t162 t163 t164 t165 t166 _ ?side1 ?side2 A77.out).mono ?_); (case side1 => repeat (first | exact (Kd.C_below HR0.out HB.out) | (with_reducible refine Kd.C_alloc ?_ _) | (with_reducible refine Kd.C_drewN ?_ _) | (with_reducible refine Kd.C_drew ?_))); (case side2 => exact HC0.out); rintro e w86 ⟨rfl, hb⟩; refine ⟨_, rfl, ?_⟩; have n0_ := Ak (Kd.R_below (by exact RS <| HO154.out) hb); have n1_ := Ak (below_step (by exact eS HB.out) hb); clear HO154; clear HB; have HO154 := n0_; have HB := n1_; clear n0_ n1_; (try clear hb); (try clear hb2); (try clear hk); (try clear hi)) | ((with_reducible refine gate_dst (N := 34) rfl ?_); (try (refine gate_guard (by rfl) ?_; dsimp only)); refine box_event ?hg (N := 34) ?hd (cs := #[.int .i64 0, .string (⟨#[]⟩ : ByteArray), .int .i64 0, .int .i64 0, .int .i64 0, .int .i64 0, .int .i64 0, .int .i64 0]) (t := 34) ?hr ?_; (case hd => rfl); (case hg => rfl); (case hr => first | (go_simp; done) | (go_simp; rfl)); intro gb167 hg w87 hbox hb; have n0_ := Ak (Kd.R_below (Kd.R_elderB (by exact RS <| HO154.out) gb167 (Nat.le_of_eq hg.symm)) hb); have n1_ := Ak (below_step (by exact eS HB.out) hb); have n2_ := Ak (hbox); have n3_ := Ak ((by rw [hg]; exact (below_size (by exact eS HB.out)) : w.heap.size ≤ gb167)); have n4_ := Ak ((by rw [hg]; exact (below_size (by exact eS HB.out)) : w.heap.size ≤ gb167)); clear HO154; clear HB; have HO154 := n0_; have HB := n1_; have BK167 := n2_; have GW167 := n3_; have GE167 := n4_; clear n0_ n1_ n2_ n3_ n4_; clear hb hbox hg; obtain ⟨hcz88_0, hcz88_1, hcz88_2, hcz88_3, hcz88_4, hcz88_5, hcz88_6, hcz88_7, hfz88_0, hfz88_1, hfz88_2, hfz88_3, hfz88_4, hfz88_5, hfz88_6, hfz88_7⟩ := Sq.c8 BK167.out) | ((with_reducible refine gate_store (t := 34) (p := 34) rfl ?_); (with_reducible refine wpList_store_rowTo ?hg 34 (.tmp 34) (.tmp 197) ?ho ?hd gb167 #[.int .i64 t159, .string t160, .int .i64 t161, .int .i64 t162, .int .i64 t163, .int .i64 t164, .int .i64 t165, .int .i64 t166] ?hx ?hy 34 #[.int .i64 0, .string (⟨#[]⟩ : ByteArray), .int .i64 0, .int .i64 0, .int .i64 0, .int .i64 0, .int .i64 0, .int .i64 0] ?hk ?hi ?hs ?h1 ?_); (case hg => rfl); (case ho => rfl); (case hd => rfl); (case hk => exact bS BK167.out); (case hs => rfl); (case hx => rfl); (case hy => rfl); (case hi => kernel_rfl); (case h1 => kernel_rfl); have n0_ := Ak (Kd.R_mono (Kd.R_move HO154.out (fun k_ hk_ => setRow_other w87 gb167 k_ #[.int .i64 t159, .string t160, .int .i64 t161, .int .i64 t162, .int .i64 t163, .int .i64 t164, .int .i64 t165, .int .i64 t166] hk_.2)) (fun k_ hk_ => hk_.2)); have n1_ := Ak (setRow_heap w87 gb167 _ #[.int .i64 t159, .string t160, .int .i64 t161, .int .i64 t162, .int .i64 t163, .int .i64 t164, .int .i64 t165, .int .i64 t166] _ _ (by exact bS BK167.out)); have n2_ := Ak (below_setRow HB.out GE167.out #[.int .i64 t159, .string t160, .int .i64 t161, .int .i64 t162, .int .i64 t163, .int .i64 t164, .int .i64 t165, .int .i64 t166]); generalize w87.setRow gb167 #[.int .i64 t159, .string t160, .int .i64 t161, .int .i64 t162, .int .i64 t163, .int .i64 t164, .int .i64 t165, .int .i64 t166] = w89 at n0_ n1_ n2_ ⊢; (try clear HO154); (try clear BK167); (try clear HB); have HO154 := n0_; have BK167 := n1_; have HB := n2_; clear n0_ n1_ n2_))
                     have n0_ := Ak (Kd.R_drew HO154.out)
                     have n1_ := Ak (blk_drew BK167.out)
                     have n2_ := Ak (below_drew1 HB.out)
                     clear HO154 BK167 HB; have HO154 := n0_; have BK167 := n1_; have HB := n2_; clear n0_ n1_ n2_
                     refine start_ (n := 16) (S := fun w' => w'.cell? ⟨gb167, 0, none⟩ = some (.int .i64 t159) ∧ w'.cell? ⟨gb167, 1, none⟩ = some (.string t160) ∧ w'.cell? ⟨gb167, 2, none⟩ = some (.int .i64 t161) ∧ w'.cell? ⟨gb167, 3, none⟩ = some (.int .i64 t162) ∧ w'.cell? ⟨gb167, 4, none⟩ = some (.int .i64 t163) ∧ w'.cell? ⟨gb167, 5, none⟩ = some (.int .i64 t164) ∧ w'.cell? ⟨gb167, 6, none⟩ = some (.int .i64 t165) ∧ w'.cell? ⟨gb167, 7, none⟩ = some (.int .i64 t166)) (ds := []) #[O,O,O,O,O,O,O,O,O,O,O,O,O,O,O,O] (by kernel_rfl) rfl rfl ⟨(blk_cell BK167.out 0).trans rfl, (blk_cell BK167.out 1).trans rfl, (blk_cell BK167.out 2).trans rfl, (blk_cell BK167.out 3).trans rfl, (blk_cell BK167.out 4).trans rfl, (blk_cell BK167.out 5).trans rfl, (blk_cell BK167.out 6).trans rfl, (blk_cell BK167.out 7).trans rfl⟩ (fun hHeld => ?_); refine with_tabW Fd.tab38 Fd.bits38 (fun HT_ HW_ => ?_)
                     generalize w89.drew = w90 at HO154 BK167 HB hHeld ⊢
                     refine pure_ (i := 0) (N := some 198) (v := ?_) (a' := ?_) #[I,O,O,O,O,O,O,O,O,O,O,O,O,O,O,O] rfl rfl (any_of HT_.out (by kernel_rfl)) (fun _ _ _ h => h) (Or.inl ⟨by rfl, ?_⟩) ?_ ?_
                     rotate_left; (intro w'; go_simp; with_reducible rfl); rotate_left; (simp only [Z]; rfl)
                     refine pure_ (i := 1) (N := some 199) (v := ?_) (a' := ?_) #[I,I,O,O,O,O,O,O,O,O,O,O,O,O,O,O] rfl rfl (any_of HT_.out (by kernel_rfl)) (fun _ _ _ h => h) (Or.inl ⟨by rfl, ?_⟩) ?_ ?_
                     rotate_left; (intro w'; go_simp; with_reducible rfl); rotate_left; (simp only [Z]; rfl)
                     refine pure_ (i := 2) (N := some 200) (v := ?_) (a' := ?_) #[I,I,I,O,O,O,O,O,O,O,O,O,O,O,O,O] rfl rfl (any_of HT_.out (by kernel_rfl)) (fun _ _ _ h => h) (Or.inl ⟨by rfl, ?_⟩) ?_ ?_
                     rotate_left; (intro w'; go_simp; with_reducible rfl); rotate_left; (simp only [Z]; rfl)
                     refine pure_ (i := 3) (N := some 201) (v := ?_) (a' := ?_) #[I,I,I,I,O,O,O,O,O,O,O,O,O,O,O,O] rfl rfl (any_of HT_.out (by kernel_rfl)) (fun _ _ _ h => h) (Or.inl ⟨by rfl, ?_⟩) ?_ ?_
                     rotate_left; (intro w'; go_simp; with_reducible rfl); rotate_left; (simp only [Z]; rfl)
                     refine pure_ (i := 4) (N := some 202) (v := ?_) (a' := ?_) #[I,I,I,I,I,O,O,O,O,O,O,O,O,O,O,O] rfl rfl (any_of HT_.out (by kernel_rfl)) (fun _ _ _ h => h) (Or.inl ⟨by rfl, ?_⟩) ?_ ?_
                     rotate_left; (intro w'; go_simp; with_reducible rfl); rotate_left; (simp only [Z]; rfl)
                     refine pure_ (i := 5) (N := some 203) (v := ?_) (a' := ?_) #[I,I,I,I,I,I,O,O,O,O,O,O,O,O,O,O] rfl rfl (any_of HT_.out (by kernel_rfl)) (fun _ _ _ h => h) (Or.inl ⟨by rfl, ?_⟩) ?_ ?_
                     rotate_left; (intro w'; go_simp; with_reducible rfl); rotate_left; (simp only [Z]; rfl)
                     refine pure_ (i := 6) (N := some 204) (v := ?_) (a' := ?_) #[I,I,I,I,I,I,I,O,O,O,O,O,O,O,O,O] rfl rfl (any_of HT_.out (by kernel_rfl)) (fun _ _ _ h => h) (Or.inl ⟨by rfl, ?_⟩) ?_ ?_
                     rotate_left; (intro w'; go_simp; with_reducible rfl); rotate_left; (simp only [Z]; rfl)
                     refine pure_ (i := 7) (N := some 205) (v := ?_) (a' := ?_) #[I,I,I,I,I,I,I,I,O,O,O,O,O,O,O,O] rfl rfl (any_of HT_.out (by kernel_rfl)) (fun _ _ _ h => h) (Or.inl ⟨by rfl, ?_⟩) ?_ ?_
                     rotate_left; (intro w'; go_simp; with_reducible rfl); rotate_left; (simp only [Z]; rfl)
                     refine pure_ (i := 8) (N := some 206) (v := ?_) (a' := ?_) #[I,I,I,I,I,I,I,I,I,O,O,O,O,O,O,O] rfl rfl (any_of HT_.out (by kernel_rfl)) (fun _ _ _ h => h) (Or.inl ⟨by rfl, ?_⟩) ?_ ?_
                     rotate_left; (intro w'; go_simp; with_reducible rfl); rotate_left; (simp only [Z]; rfl)
                     refine take_ (i := 9) (N := some 207) (v := ?_) (a' := ?_) #[I,I,I,I,I,I,I,I,I,I,O,O,O,O,O,O] rfl rfl (take_ofW HT_.out HW_.out (by kernel_rfl)) (fun _ _ _ h => h) (Or.inl ⟨by rfl, ?_⟩) hHeld ?_ ?_
                     rotate_left; (rintro w' ⟨s0, s1, s2, s3, s4, s5, s6, s7⟩; go_simp; with_reducible rfl); rotate_left; (simp only [Z]; rfl)
                     refine take_ (i := 11) (N := some 209) (v := ?_) (a' := ?_) #[I,I,I,I,I,I,I,I,I,I,O,I,O,O,O,O] rfl rfl (take_ofW HT_.out HW_.out (by kernel_rfl)) (fun _ _ _ h => h) (Or.inl ⟨by rfl, ?_⟩) hHeld ?_ ?_
                     rotate_left; (rintro w' ⟨s0, s1, s2, s3, s4, s5, s6, s7⟩; go_simp; with_reducible rfl); rotate_left; (simp only [Z]; rfl)
                     refine one_ (i := 10) (N := some 208) #[I,I,I,I,I,I,I,I,I,I,I,I,O,O,O,O] rfl rfl (one_of HT_.out (by kernel_rfl)) (by decide) (fun K hK => ?_)
                     refine goes_ Tryz.func24 (by kernel_rfl) rfl #[.agg #[.int .i64 t159, .string t160, .int .i64 t161, .int .i64 t162, .int .i64 t163, .int .i64 t164, .int .i64 t165, .int .i64 t166]] (by rfl) rfl rfl (by (try simp only [List.map_toArray, List.map_cons, List.map_nil]); first | done | rfl | (simp only [List.length_drop, List.length_take]; rfl)) ?_
                     with_reducible refine (Fl.calls kj65 t159 t160 t161 t162 t163 t164 t165 t166 t168 _ A80.out).mono ?_
                     rintro e w91 ⟨rfl, hb⟩
                     refine ⟨_, rfl, ?_⟩
                     have n0_ := Ak (Kd.R_below (by exact RS <| HO154.out) hb)
                     have n1_ := Ak (blk_below (bS BK167.out) hb)
                     have n2_ := Ak (below_step (by exact eS HB.out) hb)
                     clear HO154 BK167 HB; have HO154 := n0_; have BK167 := n1_; have HB := n2_; clear n0_ n1_ n2_; (try clear hb); (try clear hb2); (try clear hk); (try clear hi)
                     refine hK.out _ _ ⟨(blk_cell BK167.out 0).trans rfl, (blk_cell BK167.out 1).trans rfl, (blk_cell BK167.out 2).trans rfl, (blk_cell BK167.out 3).trans rfl, (blk_cell BK167.out 4).trans rfl, (blk_cell BK167.out 5).trans rfl, (blk_cell BK167.out 6).trans rfl, (blk_cell BK167.out 7).trans rfl⟩ (fun hHeld => ?_)
                     clear hK K
                     refine norm_ (a' := ?_) ?_ ?_; rotate_left; (show Act.put _ (some 208) _ = _; simp only [Z]; rfl)
                     refine one_ (i := 12) (N := some 210) #[I,I,I,I,I,I,I,I,I,I,I,I,I,O,O,O] rfl rfl (one_of HT_.out (by kernel_rfl)) (by decide) (fun K hK => ?_)
                     refine goes_ Tryz.func25 (by kernel_rfl) rfl #[.agg #[.int .i64 t159, .string t160, .int .i64 t161, .int .i64 t162, .int .i64 t163, .int .i64 t164, .int .i64 t165, .int .i64 t166]] (by rfl) rfl rfl (by (try simp only [List.map_toArray, List.map_cons, List.map_nil]); first | done | rfl | (simp only [List.length_drop, List.length_take]; rfl)) ?_
                     with_reducible refine (Faf.calls kj65 t159 t160 t161 t162 t163 t164 t165 t166 t169 _ A81.out).mono ?_
                     rintro e w92 ⟨rfl, hb⟩
                     refine ⟨_, rfl, ?_⟩
                     have n0_ := Ak (Kd.R_below (by exact RS <| HO154.out) hb)
                     have n1_ := Ak (blk_below (bS BK167.out) hb)
                     have n2_ := Ak (below_step (by exact eS HB.out) hb)
                     clear HO154 BK167 HB; have HO154 := n0_; have BK167 := n1_; have HB := n2_; clear n0_ n1_ n2_; (try clear hb); (try clear hb2); (try clear hk); (try clear hi)
                     refine hK.out _ _ ⟨(blk_cell BK167.out 0).trans rfl, (blk_cell BK167.out 1).trans rfl, (blk_cell BK167.out 2).trans rfl, (blk_cell BK167.out 3).trans rfl, (blk_cell BK167.out 4).trans rfl, (blk_cell BK167.out 5).trans rfl, (blk_cell BK167.out 6).trans rfl, (blk_cell BK167.out 7).trans rfl⟩ (fun hHeld => ?_)
                     clear hK K
                     refine norm_ (a' := ?_) ?_ ?_; rotate_left; (show Act.put _ (some 210) _ = _; simp only [Z]; rfl)
                     refine pure_ (i := 13) (N := some 211) (v := ?_) (a' := ?_) #[I,I,I,I,I,I,I,I,I,I,I,I,I,I,O,O] rfl rfl (any_of HT_.out (by kernel_rfl)) (fun _ _ _ h => h) (Or.inl ⟨by rfl, ?_⟩) ?_ ?_
                     rotate_left; (intro w'; go_simp; with_reducible rfl); rotate_left; (simp only [Z]; rfl)
                     refine pure_ (i := 14) (N := some 212) (v := ?_) (a' := ?_) #[I,I,I,I,I,I,I,I,I,I,I,I,I,I,I,O] rfl rfl (any_of HT_.out (by kernel_rfl)) (fun _ _ _ h => h) (Or.inl ⟨by rfl, ?_⟩) ?_ ?_
                     rotate_left; (intro w'; go_simp; with_reducible rfl); rotate_left; (simp only [Z]; rfl)
                     refine pure_ (i := 15) (N := some 2) (v := ?_) (a' := ?_) #[I,I,I,I,I,I,I,I,I,I,I,I,I,I,I,I] rfl rfl (any_of HT_.out (by kernel_rfl)) (fun _ _ _ h => h) (Or.inl ⟨by rfl, ?_⟩) ?_ ?_
                     rotate_left; (intro w'; go_simp; with_reducible rfl); rotate_left; (simp only [Z]; rfl)
                     refine done_ (done_of HT_.out (by kernel_rfl)) ?_
                     try go_wp2
                     go_ret
                     exact ⟨by first | rfl | (simp [errW_none, errW_some] <;> rfl) | (simp [*, errW_none, errW_some] <;> rfl), by exact eS HB.out⟩
/-- THE ONE PURE STATEMENT of Fd: yours. -/
def Fd.Pure : Prop := ∀ (l0 : List Int), (l0.length ≤ 9223372036854775807 ∧ ∀ y_ ∈ l0, (Lit.int .u8 y_).wf = true) → ∃ k, Fd.f k l0 = some true
end Go.Proofs.YtahfahlbdgbfeaaGreatDoor.X

namespace Go.Proofs.YtahfahlbdgbfeaaGreatDoor.Pure
open Go Go.RowKit Go.Proofs Go.Proofs.YtahfahlbdgbfeaaGreatDoorW.PrintWords Go.Proofs.YtahfahlbdgbfeaaGreatDoorW.PrintLast
set_option linter.unusedVariables false
set_option linter.unusedSimpArgs false
theorem w64 {x : Int} (h1 : -9223372036854775808 ≤ x) (h2 : x ≤ 9223372036854775807) : wrap64 x = x := by unfold wrap64; omega
/-- a product of two numbers within bounds -/
theorem mul_bd {a b A B : Int} (ha : 0 ≤ a) (hA : a ≤ A) (hb : 0 ≤ b) (hB : b ≤ B) : 0 ≤ a * b ∧ a * b ≤ A * B :=
  ⟨Int.mul_nonneg ha hb, Int.mul_le_mul hA hB hb (Int.le_trans ha hA)⟩
theorem drop_step {α : Type} {l : List α} {i : Nat} (h : i < l.length) (d : α) : l.drop i = l.getD i d :: l.drop (i + 1) := by
  rw [List.drop_eq_getElem_cons h]; congr 1; simp [List.getD_eq_getElem?_getD, List.getElem?_eq_getElem h]
theorem wstep {i : Nat} {n : Nat} (h : i < n) (hn : n ≤ 9223372036854775807) : wrap64 ((i : Int) + 1) = ((i + 1 : Nat) : Int) := by unfold wrap64; omega
theorem nat_of {i : Int} (h : 0 ≤ i) : ∃ n : Nat, i = n := ⟨i.toNat, by omega⟩
theorem succ_of {k d : Nat} (h : d < k) : ∃ m, k = m + 1 ∧ d ≤ m := ⟨k - 1, by omega, by omega⟩
/-- q at all numbers from i on, n of them -/
def allR (q : Nat → Bool) (i n : Nat) : Bool := (List.range' i n).all q
theorem allR_iff {q : Nat → Bool} {i n : Nat} : allR q i n = true ↔ ∀ j, i ≤ j → j < i + n → q j = true := by
  unfold allR
  rw [List.all_eq_true]
  exact ⟨fun h j h1 h2 => h j (List.mem_range'_1.mpr ⟨h1, h2⟩), fun h j hj => h j (List.mem_range'_1.mp hj).1 (List.mem_range'_1.mp hj).2⟩
theorem allR_succ (q : Nat → Bool) (i n : Nat) : allR q i (n + 1) = (q i && allR q (i + 1) n) := by
  unfold allR; rw [List.range'_succ, List.all_cons]
/-- A loop that asks of all numbers, from i on. -/
theorem idx_loop (L : Nat → Int → Option Bool) (q : Nat → Bool) (i0 n0 : Nat) (e : Bool) (hb : n0 ≤ 9223372036854775806)
    (hs : ∀ k (i : Nat), i0 ≤ i → i < n0 → L (k + 1) i = if q i = true then L k (wrap64 ((i : Int) + 1)) else some false) (he : ∀ k (i : Nat), n0 ≤ i → L (k + 1) i = some e) :
    ∀ n k (i : Nat), i0 ≤ i → i + n = n0 → n < k → L k i = some (allR q i n && e) := by
  intro n
  induction n with
  | zero =>
    intro k i h0 hi hk
    obtain ⟨k, rfl, _⟩ := succ_of hk
    rw [he k i (by omega)]; simp [allR]
  | succ n ih =>
    intro k i h0 hi hk
    obtain ⟨k, rfl, hk⟩ := succ_of hk
    rw [hs k i h0 (by omega), wstep (show i < n0 by omega) (by omega), allR_succ, ih k (i + 1) (by omega) (by omega) (by omega)]
    cases q i <;> simp
theorem all_getD {α : Type} {p : α → Bool} {l : List α} (d : α) : l.all p = true ↔ ∀ j, j < l.length → p (l.getD j d) = true := by
  rw [List.all_eq_true]
  constructor
  · intro h j hj
    rw [List.getD_eq_getElem?_getD, List.getElem?_eq_getElem hj]
    exact h _ (List.getElem_mem hj)
  · intro h x hx
    obtain ⟨j, hj, rfl⟩ := List.mem_iff_getElem.mp hx
    have := h j hj
    rwa [List.getD_eq_getElem?_getD, List.getElem?_eq_getElem hj] at this
/-- A loop that adds up. -/
theorem sum_loop {α β : Type} (L : Nat → Int → Int → Option β) (v : α → Int) (r : Int → Option β) (d : α) (B : Int) (l : List α) (hb : l.length ≤ 9223372036854775806) (hv : ∀ x ∈ l, 0 ≤ v x ∧ v x ≤ B)
    (hs : ∀ k (acc : Int) (i : Nat), i < l.length → 0 ≤ acc → acc ≤ B * i → L (k + 1) acc i = L k (acc + v (l.getD i d)) (wrap64 ((i : Int) + 1)))
    (he : ∀ k (acc : Int) (i : Nat), l.length ≤ i → L (k + 1) acc i = r acc) :
    ∀ n k (acc : Int) (i : Nat), i + n = l.length → n < k → 0 ≤ acc → acc ≤ B * i → L k acc i = r (acc + ((l.drop i).map v).sum) := by
  intro n
  induction n with
  | zero =>
    intro k acc i hi hk h0 h1
    obtain ⟨k, rfl, _⟩ := succ_of hk
    rw [he k acc i (by omega), List.drop_eq_nil_of_le (by omega)]; simp
  | succ n ih =>
    intro k acc i hi hk h0 h1
    obtain ⟨k, rfl, hk⟩ := succ_of hk
    have hlt : i < l.length := by omega
    have hm : l.getD i d ∈ l := by rw [List.getD_eq_getElem?_getD, List.getElem?_eq_getElem hlt]; exact List.getElem_mem hlt
    have := hv _ hm
    rw [hs k acc i hlt h0 h1, wstep hlt (by omega), drop_step hlt d, List.map_cons, List.sum_cons]
    have hB : B * ((i + 1 : Nat) : Int) = B * i + B := by push_cast; rw [Int.mul_add, Int.mul_one]
    rw [ih k _ (i + 1) (by omega) (by omega) (by omega) (by omega), Int.add_assoc]
/-- The same, where the end leans on all that was asked, and needs fuel of its own. -/
theorem idx_loop2 (L : Nat → Int → Option Bool) (q : Nat → Bool) (i0 n0 m0 : Nat) (e : Bool) (hb : n0 ≤ 9223372036854775806)
    (hs : ∀ k (i : Nat), i0 ≤ i → i < n0 → m0 ≤ k → L (k + 1) i = if q i = true then L k (wrap64 ((i : Int) + 1)) else some false) (he : (∀ j, i0 ≤ j → j < n0 → q j = true) → ∀ k, m0 ≤ k → L (k + 1) (n0 : Int) = some e) :
    ∀ n k (i : Nat), i0 ≤ i → i + n = n0 → n + m0 < k → (∀ j, i0 ≤ j → j < i → q j = true) → L k i = some (allR q i n && e) := by
  intro n
  induction n with
  | zero =>
    intro k i h0 hi hk hq
    obtain ⟨k, rfl, _⟩ := succ_of (show 0 < k by omega)
    obtain rfl : i = n0 := by omega
    rw [he hq k (by omega)]; simp [allR]
  | succ n ih =>
    intro k i h0 hi hk hq
    obtain ⟨k, rfl, hk'⟩ := succ_of (show 0 < k by omega)
    rw [hs k i h0 (by omega) (by omega), wstep (show i < n0 by omega) (by omega), allR_succ]
    cases hc : q i
    · simp
    · rw [if_pos rfl, ih k (i + 1) (by omega) (by omega) (by omega) (fun j h1 h2 => by
        by_cases hj : j = i
        · rw [hj]; exact hc
        · exact hq j h1 (by omega)), Bool.true_and]
end Go.Proofs.YtahfahlbdgbfeaaGreatDoor.Pure

namespace Go.Proofs.YtahfahlbdgbfeaaGreatDoor.Pure
open Go Go.RowKit Go.Proofs Go.Proofs.YtahfahlbdgbfeaaGreatDoor.X Go.Proofs.YtahfahlbdgbfeaaGreatDoorW.PrintWords Go.Proofs.YtahfahlbdgbfeaaGreatDoorW.PrintLast
set_option linter.unusedVariables false
set_option linter.unusedSimpArgs false
theorem in_eq (x a b : Int) : Fay.f x a b = some (decide (a ≤ x ∧ x ≤ b)) := by
  unfold Fay.f
  by_cases h1 : a ≤ x <;> simp [h1]
theorem rdIOrder_nat (l : List S34) (i : Nat) : rd_T34 l (i : Int) = l.getD i z34 := by simp [rd_T34]
theorem l1In_eq (x a b : Int) : Faj.f x a b = some (decide (a ≤ x ∧ x ≤ b)) := by
  unfold Faj.f
  by_cases h1 : a ≤ x <;> simp [h1]
end Go.Proofs.YtahfahlbdgbfeaaGreatDoor.Pure

namespace Go.Proofs.YtahfahlbdgbfeaaGreatDoor.Pure
open Go Go.RowKit Go.Proofs Go.Proofs.YtahfahlbdgbfeaaGreatDoorW.PrintWords Go.Proofs.YtahfahlbdgbfeaaGreatDoorW.PrintLast
set_option linter.unusedVariables false
set_option linter.unusedSimpArgs false
/-- A loop that compares a row with itself. -/
theorem refl_loop {α : Type} (L : Nat → List α → List α → Int → Option Bool) (l : List α) (hb : l.length ≤ 9223372036854775806)
    (hs : ∀ k (i : Nat), i < l.length → L (k + 1) l l i = L k l l (wrap64 ((i : Int) + 1))) (he : ∀ k (i : Nat), l.length ≤ i → L (k + 1) l l i = some true) :
    ∀ n k (i : Nat), i + n = l.length → n < k → L k l l i = some true := by
  intro n
  induction n with
  | zero =>
    intro k i hi hk
    obtain ⟨k, rfl, _⟩ := succ_of hk
    exact he k i (by omega)
  | succ n ih =>
    intro k i hi hk
    obtain ⟨k, rfl, hk⟩ := succ_of hk
    rw [hs k i (by omega), wstep (show i < l.length by omega) (by omega)]
    exact ih k (i + 1) (by omega) (by omega)
/-- A loop that asks of all elements, from i on. -/
theorem all_loop {α : Type} (L : Nat → Int → Option Bool) (q : α → Bool) (d : α) (l : List α) (e : Bool) (hb : l.length ≤ 9223372036854775806)
    (hs : ∀ k (i : Nat), i < l.length → L (k + 1) i = if q (l.getD i d) = true then L k (wrap64 ((i : Int) + 1)) else some false) (he : ∀ k (i : Nat), l.length ≤ i → L (k + 1) i = some e) :
    ∀ n k (i : Nat), i + n = l.length → n < k → L k i = some ((l.drop i).all q && e) := by
  intro n
  induction n with
  | zero =>
    intro k i hi hk
    obtain ⟨k, rfl, _⟩ := succ_of hk
    rw [he k i (by omega), List.drop_eq_nil_of_le (by omega)]; rfl
  | succ n ih =>
    intro k i hi hk
    obtain ⟨k, rfl, hk⟩ := succ_of hk
    rw [hs k i (by omega), wstep (show i < l.length by omega) (by omega), drop_step (by omega) d, List.all_cons, ih k (i + 1) (by omega) (by omega)]
    cases q (l.getD i d) <;> simp
theorem rd_nat (l : List Int) (i : Nat) : rd l (i : Int) = l.getD i 0 := by simp [rd]
end Go.Proofs.YtahfahlbdgbfeaaGreatDoor.Pure

namespace Go.Proofs.YtahfahlbdgbfeaaGreatDoor.Pure
open Go Go.RowKit Go.Proofs Go.Proofs.YtahfahlbdgbfeaaGreatDoor.X Go.Proofs.YtahfahlbdgbfeaaGreatDoorW.PrintWords Go.Proofs.YtahfahlbdgbfeaaGreatDoorW.PrintLast
set_option linter.unusedVariables false
set_option linter.unusedSimpArgs false
def lowB (b : UInt8) : Bool := decide (97 ≤ b.toNat ∧ b.toNat ≤ 122)
/-- a word: one to ten small letters -/
def wordB (s : ByteArray) : Bool := decide (1 ≤ s.size ∧ s.size ≤ 10) && s.data.toList.all lowB
theorem bt_nat (s : ByteArray) (i : Nat) (h : i < s.size) : bt s (i : Int) = ((s.data.toList.getD i 0).toNat : Int) := by
  have h2 : i < s.data.toList.length := by simpa using h
  unfold bt
  rw [dif_pos (by simpa using h), List.getD_eq_getElem?_getD, List.getElem?_eq_getElem h2]
  rfl
theorem wordS_eq {k : Nat} {s : ByteArray} (hk : s.size < k) (hs : s.size ≤ 9223372036854775806) : Fag.f k s = some (wordB s) := by
  unfold Fag.f
  have hl : s.data.toList.length = s.size := by rw [Array.length_toList]; rfl
  have h := all_loop (fun k i => Fag.l0 k s i) lowB 0 s.data.toList (decide (1 ≤ s.size ∧ s.size ≤ 10)) (by omega)
    (fun k i h1 => by
      simp only [Fag.l0]
      rw [if_pos (by omega), if_pos (by omega), bt_nat s i (by omega)]
      unfold lowB
      by_cases g1 : ((s.data.toList.getD i 0).toNat : Int) < 97
      · rw [if_pos g1, decide_eq_false (by omega)]; simp
      · rw [if_neg g1]
        by_cases g2 : ((s.data.toList.getD i 0).toNat : Int) > 122
        · rw [if_pos g2, decide_eq_false (by omega)]; simp
        · rw [if_neg g2, decide_eq_true (by omega)]; simp)
    (fun k i h1 => by
      simp only [Fag.l0]
      rw [if_neg (by omega), l1In_eq]
      simp only [Option.bind_some]
      congr 2
      exact propext ⟨fun h => by omega, fun h => by omega⟩)
    s.data.toList.length k 0 (by omega) (by omega)
  refine h.trans ?_
  simp only [List.drop_zero, wordB, Bool.and_comm]
theorem dropWhile_nil (p : UInt8 → Bool) (l : List UInt8) : l.dropWhile p = [] ↔ l.all p = true := by
  induction l with
  | nil => simp
  | cons a l ih =>
    by_cases h : p a = true
    · rw [List.dropWhile_cons_of_pos h, ih]; simp [h]
    · rw [List.dropWhile_cons_of_neg h]; simp [h]
theorem trim_nil (p : UInt8 → Bool) (l : List UInt8) : ((l.reverse.dropWhile p).reverse.dropWhile p) = [] ↔ l.all p = true := by
  rw [dropWhile_nil, List.all_reverse]
  constructor
  · intro h
    have : (l.reverse.dropWhile p) = [] := by
      cases hd : l.reverse.dropWhile p with
      | nil => rfl
      | cons x t =>
        rw [hd] at h
        have h1 : p x = true := by simp at h; exact h.1
        have h2 := List.head?_dropWhile_not p l.reverse
        rw [hd] at h2
        simp [h1] at h2
    rw [dropWhile_nil, List.all_reverse] at this
    exact this
  · intro h
    have : (l.reverse.dropWhile p) = [] := by rw [dropWhile_nil, List.all_reverse]; exact h
    rw [this]; rfl
def abcB : ByteArray := ⟨#[97, 98, 99, 100, 101, 102, 103, 104, 105, 106, 107, 108, 109, 110, 111, 112, 113, 114, 115, 116, 117, 118, 119, 120, 121, 122]⟩
theorem abc_has (b : UInt8) : abcB.data.toList.contains b = lowB b := by
  have e : ∀ c : UInt8, (b == c) = decide (b.toNat = c.toNat) := fun c => by
    rw [Bool.eq_iff_iff]; simp [UInt8.toNat_inj]
  unfold lowB abcB
  simp only [List.contains_cons, List.contains_nil, e]
  rw [Bool.eq_iff_iff]
  simp only [Bool.or_eq_true, decide_eq_true_eq, Bool.false_eq_true, or_false, UInt8.reduceToNat]
  omega
theorem wordI_eq (s : ByteArray) : Fbh.f s = some (wordB s) := by
  unfold Fbh.f
  rw [in_eq]
  simp only [Option.bind_some, wordB]
  by_cases hs : 1 ≤ s.size ∧ s.size ≤ 10
  · rw [decide_eq_true (show 1 ≤ (s.size : Int) ∧ (s.size : Int) ≤ 10 by omega), decide_eq_true hs, if_pos rfl, Bool.true_and]
    show (Fbk.f s abcB).bind _ = _
    unfold Fbk.f
    rw [if_pos ⟨by omega, by decide, by decide⟩]
    simp only [Option.bind_some, ByteArray.toList_eq]
    congr 1
    unfold Go.Lib.trimS Go.Lib.trimLeftS Go.Lib.trimRightS
    rw [Bool.eq_iff_iff, beq_iff_eq, trim_nil, show (fun b => abcB.data.toList.contains b) = lowB from funext abc_has]
  · rw [decide_eq_false (show ¬ (1 ≤ (s.size : Int) ∧ (s.size : Int) ≤ 10) by omega), decide_eq_false hs]; simp
def orderB (x : S34) : Bool := decide (1 ≤ x.f0 ∧ x.f0 ≤ 999) && (wordB x.f1 && (decide (30 ≤ x.f2 ∧ x.f2 ≤ 600) && (decide (30 ≤ x.f3 ∧ x.f3 ≤ 600) && (decide (0 ≤ x.f4 ∧ x.f4 ≤ 5) && (decide (0 ≤ x.f5 ∧ x.f5 ≤ 10000000) && (decide (0 ≤ x.f6 ∧ x.f6 ≤ x.f5) && decide (0 ≤ x.f7 ∧ x.f7 ≤ 4000)))))))
def ascO (l : List S34) (j : Nat) : Bool := decide ((l.getD (j - 1) z34).f0 < (l.getD j z34).f0)
def ordersB (l : List S34) : Bool := decide (l.length ≤ 10) && (l.all orderB && allR (ascO l) 1 (l.length - 1))
def sizesOk (l : List S34) : Prop := l.length ≤ 1048576 ∧ ∀ x ∈ l, x.f1.size ≤ 1048576
theorem oneOS_eq {k : Nat} (x : S34) (hk : x.f1.size < k) (hs : x.f1.size ≤ 1048576) : Fas.f k x.f0 x.f1 x.f2 x.f3 x.f4 x.f5 x.f6 x.f7 = some (orderB x) := by
  simp only [Fas.f, Fbg.f, Far.f, l1In_eq, wordS_eq hk (by omega), Option.bind_some, orderB]
  generalize decide (1 ≤ x.f0 ∧ x.f0 ≤ 999) = p1; generalize wordB x.f1 = p2; generalize decide (30 ≤ x.f2 ∧ x.f2 ≤ 600) = p3; generalize decide (30 ≤ x.f3 ∧ x.f3 ≤ 600) = p4; generalize decide (0 ≤ x.f4 ∧ x.f4 ≤ 5) = p5; generalize decide (0 ≤ x.f5 ∧ x.f5 ≤ 10000000) = p6; generalize decide (0 ≤ x.f6 ∧ x.f6 ≤ x.f5) = p7; generalize decide (0 ≤ x.f7 ∧ x.f7 ≤ 4000) = p8
  cases p1 <;> cases p2 <;> cases p3 <;> cases p4 <;> cases p5 <;> cases p6 <;> cases p7 <;> rfl
theorem oneOI_eq {k : Nat} (x : S34) (hk : 0 < k) : Fl.f k x.f0 x.f1 x.f2 x.f3 x.f4 x.f5 x.f6 x.f7 = some (orderB x) := by
  obtain ⟨k, rfl, _⟩ := succ_of hk
  simp only [Fl.f, Fl.j0, Fbl.f, Fbe.f, Fbd.f, Fbm.f, Faw.f, in_eq, wordI_eq, Option.bind_some, orderB]
  generalize decide (1 ≤ x.f0 ∧ x.f0 ≤ 999) = p1; generalize wordB x.f1 = p2; generalize decide (30 ≤ x.f2 ∧ x.f2 ≤ 600) = p3; generalize decide (30 ≤ x.f3 ∧ x.f3 ≤ 600) = p4; generalize decide (0 ≤ x.f4 ∧ x.f4 ≤ 5) = p5; generalize decide (0 ≤ x.f5 ∧ x.f5 ≤ 10000000) = p6; generalize decide (0 ≤ x.f6 ∧ x.f6 ≤ x.f5) = p7; generalize decide (0 ≤ x.f7 ∧ x.f7 ≤ 4000) = p8
  cases p1 <;> cases p2 <;> cases p3 <;> cases p4 <;> cases p5 <;> cases p6 <;> cases p7 <;> rfl
theorem ordersS_eq {k : Nat} {l : List S34} (hk : l.length + 1048577 < k) (hs : sizesOk l) : Fm.f k l = some (ordersB l) := by
  unfold Fm.f
  have hx := idx_loop2 (fun k i => Fm.l0 k l i) (fun j => orderB (l.getD j z34) && (decide (j = 0) || ascO l j)) 0 l.length 1048577 (decide (l.length ≤ 10)) (by have := hs.1; omega)
    (fun k i _ h1 h2 => by
      have hm : l.getD i z34 ∈ l := by rw [List.getD_eq_getElem?_getD, List.getElem?_eq_getElem h1]; exact List.getElem_mem h1
      have hsz := hs.2 _ hm
      have hlen := hs.1
      simp only [Fm.l0, rdIOrder_nat]
      rw [if_pos (by omega), if_pos (by omega), oneOS_eq _ (by omega) hsz]
      simp only [Option.bind_some]
      cases orderB (l.getD i z34)
      · simp
      · by_cases hi : i = 0
        · rw [if_pos rfl, if_neg (by omega), decide_eq_true hi]; simp
        · rw [if_pos rfl, if_pos (by omega), w64 (x := (i : Int) - 1) (by omega) (by omega), if_pos (by omega), if_pos (by omega), show (i : Int) - 1 = ((i - 1 : Nat) : Int) by omega, rdIOrder_nat, decide_eq_false hi]
          unfold ascO
          by_cases g : (l.getD (i - 1) z34).f0 ≥ (l.getD i z34).f0
          · rw [if_pos g, decide_eq_false (by omega)]; simp
          · rw [if_neg g, decide_eq_true (by omega)]; simp)
    (fun hq k hk => by
      simp only [Fm.l0]
      rw [if_neg (by omega)]
      congr 2
      exact propext ⟨fun h => by omega, fun h => by omega⟩)
    l.length k 0 (by omega) (by omega) (by omega) (fun j h1 h2 => by omega)
  refine hx.trans (congrArg some ?_)
  unfold ordersB
  rw [Bool.and_comm]
  congr 1
  rw [Bool.eq_iff_iff, Bool.and_eq_true, allR_iff, allR_iff, all_getD z34]
  constructor
  · intro h
    refine ⟨fun j hj => ?_, fun j h1 h2 => ?_⟩
    · have := h j (by omega) (by omega)
      rw [Bool.and_eq_true] at this; exact this.1
    · have := h j (by omega) (by omega)
      rw [Bool.and_eq_true, decide_eq_false (show ¬ j = 0 by omega), Bool.false_or] at this; exact this.2
  · intro h j h1 h2
    rw [Bool.and_eq_true]
    refine ⟨h.1 j (by omega), ?_⟩
    by_cases hj : j = 0
    · rw [decide_eq_true hj]; rfl
    · rw [h.2 j (by omega) (by omega), Bool.or_true]
theorem ordersI_eq {k : Nat} {l : List S34} (hk : l.length + 1 < k) (hs : l.length ≤ 1048576) : Fi.f k l = some (ordersB l) := by
  unfold Fi.f ordersB
  by_cases h10 : (l.length : Int) ≤ 10
  · rw [if_pos h10, decide_eq_true (show l.length ≤ 10 by omega), Bool.true_and]
    simp only [Fae.f]
    rw [Ho.allO_eq (q := orderB) (fun x _ => oneOI_eq x (by omega))]
    simp only [Option.bind_some]
    have hasc : Fh.f k l = some (allR (ascO l) 1 (l.length - 1)) := by
      unfold Fh.f
      by_cases h0 : l.length = 0
      · obtain ⟨k, rfl, _⟩ := succ_of (show 0 < k by omega)
        simp only [Fh.l0]
        rw [if_neg (by omega), h0]; rfl
      have h := idx_loop (fun k i => Fh.l0 k l i) (ascO l) 1 l.length true (by omega)
        (fun k i h1 h2 => by
          simp only [Fh.l0, Faq.f, Option.bind_some]
          rw [if_pos (by omega), w64 (x := (i : Int) - 1) (by omega) (by omega), if_pos (by omega), if_pos (by omega), if_pos (by omega), show (i : Int) - 1 = ((i - 1 : Nat) : Int) by omega, rdIOrder_nat, rdIOrder_nat]
          unfold ascO
          by_cases g : (l.getD (i - 1) z34).f0 ≥ (l.getD i z34).f0
          · rw [if_pos g, decide_eq_false (by omega)]; simp
          · rw [if_neg g, decide_eq_true (by omega)]; simp)
        (fun k i h1 => by simp only [Fh.l0]; rw [if_neg (by omega)])
        (l.length - 1) k 1 (by omega) (by omega) (by omega)
      simpa using h
    rw [hasc]
    simp only [Option.bind_some]
    cases l.all orderB <;> simp
  · rw [if_neg h10, decide_eq_false (show ¬ l.length ≤ 10 by omega)]; simp
theorem orders_of {l : List S34} (h : ordersB l = true) : l.length ≤ 10 ∧ ∀ x ∈ l, orderB x = true := by
  simp only [ordersB, Bool.and_eq_true, decide_eq_true_eq, List.all_eq_true] at h
  exact ⟨h.1, h.2.1⟩
theorem order_of {x : S34} (h : orderB x = true) : (1 ≤ x.f0 ∧ x.f0 ≤ 999) ∧ wordB x.f1 = true ∧ (30 ≤ x.f2 ∧ x.f2 ≤ 600) ∧ (30 ≤ x.f3 ∧ x.f3 ≤ 600) ∧ (0 ≤ x.f4 ∧ x.f4 ≤ 5) ∧ (0 ≤ x.f5 ∧ x.f5 ≤ 10000000) ∧ (0 ≤ x.f6 ∧ x.f6 ≤ x.f5) ∧ (0 ≤ x.f7 ∧ x.f7 ≤ 4000) := by
  simpa only [orderB, Bool.and_eq_true, decide_eq_true_eq] using h
def areaV (x : S34) : Int := if x.f4 = 1 then x.f2 * x.f3 else if x.f4 = 2 then x.f2 * x.f3 else 0
def areaM (l : List S34) : Int × Bool := if ordersB l then ((l.map areaV).sum, true) else (0, false)
theorem area_bd {x : S34} (h : orderB x = true) : (0 ≤ x.f2 * x.f3 ∧ x.f2 * x.f3 ≤ 360000) ∧ 0 ≤ areaV x ∧ areaV x ≤ 360000 := by
  have hx := order_of h
  have := mul_bd (a := x.f2) (b := x.f3) (A := 600) (B := 600) (by omega) (by omega) (by omega) (by omega)
  refine ⟨by omega, ?_⟩
  unfold areaV
  (repeat' split) <;> omega
theorem areaS_eq {k : Nat} {l : List S34} (hk : l.length + 1048577 < k) (hs : sizesOk l) : Fs.f k l = some (areaM l) := by
  simp only [Fs.f, ordersS_eq hk hs, Option.bind_some, areaM]
  cases hb : ordersB l
  · simp
  obtain ⟨h10, hx⟩ := orders_of hb
  simp only [if_true]
  have := sum_loop (fun k a i => Fs.l0 k l a i) areaV (fun a => some (a, true)) z34 360000 l (by omega) (fun x hm => by have := (area_bd (hx x hm)).2; omega)
    (fun k acc i h1 h2 h3 => by
      have hm : l.getD i z34 ∈ l := by rw [List.getD_eq_getElem?_getD, List.getElem?_eq_getElem h1]; exact List.getElem_mem h1
      have hb := (area_bd (hx _ hm)).1
      simp only [Fs.l0, rdIOrder_nat]
      rw [if_pos (by omega), if_pos (by omega)]
      unfold areaV
      by_cases g1 : (l.getD i z34).f4 = 1
      · rw [if_pos g1, if_pos g1, w64 (x := _ * _) (by omega) (by omega), w64 (x := acc + _) (by omega) (by omega)]
      · rw [if_neg g1, if_neg g1]
        by_cases g2 : (l.getD i z34).f4 = 2
        · rw [if_pos g2, if_pos g2, w64 (x := _ * _) (by omega) (by omega), w64 (x := acc + _) (by omega) (by omega)]
        · rw [if_neg g2, if_neg g2, Int.add_zero])
    (fun k acc i h1 => by simp only [Fs.l0]; rw [if_neg (by omega)])
    l.length k 0 0 (by omega) (by omega) (by omega) (by omega)
  simpa using this
theorem areaI_eq {k : Nat} {l : List S34} (hk : l.length + 1 < k) (hs : l.length ≤ 1048576) : Fr.f k l = some (areaM l) := by
  simp only [Fr.f, ordersI_eq hk hs, Option.bind_some, areaM]
  cases hb : ordersB l
  · simp
  obtain ⟨h10, hx⟩ := orders_of hb
  simp only [if_true]
  have := sum_loop (fun k a i => Fr.l0 k a l (l.length : Int) i) areaV (fun a => some (a, true)) z34 360000 l (by omega) (fun x hm => by have := (area_bd (hx x hm)).2; omega)
    (fun k acc i h1 h2 h3 => by
      have hm : l.getD i z34 ∈ l := by rw [List.getD_eq_getElem?_getD, List.getElem?_eq_getElem h1]; exact List.getElem_mem h1
      have hb := (area_bd (hx _ hm)).1
      simp only [Fr.l0, rdIOrder_nat]
      rw [if_pos (by omega), if_pos (by omega), if_pos (by omega)]
      unfold areaV
      by_cases g1 : (l.getD i z34).f4 = 1
      · rw [if_pos g1, if_pos g1, w64 (x := _ * _) (by omega) (by omega), w64 (x := acc + _) (by omega) (by omega)]
      · rw [if_neg g1, if_neg g1]
        by_cases g2 : (l.getD i z34).f4 = 2
        · rw [if_pos g2, if_pos g2, w64 (x := _ * _) (by omega) (by omega), w64 (x := acc + _) (by omega) (by omega)]
        · rw [if_neg g2, if_neg g2, Int.add_zero])
    (fun k acc i h1 => by simp only [Fr.l0]; rw [if_neg (by omega)])
    l.length k 0 0 (by omega) (by omega) (by omega) (by omega)
  simpa using this
def cmpI (a b : Int) : Int := if a < b then -1 else if a > b then 1 else 0
theorem cmpI_eq (a b : Int) : Fbc.f a b = some (cmpI a b) := by
  simp only [Fbc.f, Fbf.f, bne_self_eq_false, Option.bind_some, Bool.false_eq_true, if_false, cmpI]
  (repeat' split) <;> rfl
theorem clr_take_ {α : Type} (l : List α) (k : Nat) (z : α) (h : k ≤ l.length) : (Cl.clr l k z).take k = l.take k := by
  unfold Cl.clr
  rw [List.take_append_of_le_length (by rw [List.length_take]; omega), List.take_of_length_le (by rw [List.length_take]; omega)]
/-- A loop that keeps, in place, what q does not hold of. -/
theorem del_loop {α : Type} (z : α) (L : Nat → List α → Int → Int → Option (List α)) (q : α → Bool) (l : List α) (hs : l.length ≤ 1048576)
    (hstep : ∀ k (s : List α) (o j : Nat), j < l.length → s.length = l.length → o ≤ j → L (k + 1) s (o : Int) (j : Int) = if q (s.getD j z) = true then L k s (o : Int) (wrap64 ((j : Int) + 1)) else L k (s.set o (s.getD j z)) (wrap64 ((o : Int) + 1)) (wrap64 ((j : Int) + 1)))
    (hend : ∀ k (s : List α) (o : Nat), s.length = l.length → o ≤ l.length → L (k + 1) s (o : Int) (l.length : Int) = some ((Cl.clr s o z).take o)) :
    ∀ (m k o j : Nat) (s : List α), j + m = l.length → m < k → o ≤ j → s.length = l.length → s.take o = (l.take j).filter (fun x => !q x) → s.drop j = l.drop j → L k s (o : Int) (j : Int) = some (l.filter (fun x => !q x)) := by
  intro m
  induction m with
  | zero =>
    intro k o j s hj hk ho hl ht hd
    obtain ⟨k, rfl, _⟩ := succ_of hk
    obtain rfl : j = l.length := by omega
    rw [hend k s o hl ho, clr_take_ _ _ _ (by omega), ht, List.take_of_length_le (by omega)]
  | succ m ih =>
    intro k o j s hj hk ho hl ht hd
    obtain ⟨k, rfl, _⟩ := succ_of hk
    have hlt : j < l.length := by omega
    have hg : s.getD j z = l.getD j z := by
      have h := congrArg (fun (q : List α) => q[0]?) hd
      simp only [List.getElem?_drop, Nat.add_zero] at h
      rw [List.getD_eq_getElem?_getD, List.getD_eq_getElem?_getD, h]
    have hst : l.take (j + 1) = l.take j ++ [l.getD j z] := by
      rw [List.take_add_one, List.getD_eq_getElem?_getD, List.getElem?_eq_getElem hlt]; rfl
    have hd1 : s.drop (j + 1) = l.drop (j + 1) := by
      simpa [List.drop_drop, Nat.add_comm] using congrArg (List.drop 1) hd
    rw [hstep k s o j hlt hl ho, hg]
    by_cases g : q (l.getD j z) = true
    · rw [if_pos g, wstep hlt (by omega)]
      exact ih k o (j + 1) s (by omega) (by omega) (by omega) hl (by rw [hst, List.filter_append, ht]; simp only [List.filter_cons, g, List.filter_nil]; simp) hd1
    · have g2 : q (l.getD j z) = false := by simpa using g
      rw [if_neg g, wstep (n := l.length) (i := o) (by omega) (by omega), wstep hlt (by omega)]
      refine ih k (o + 1) (j + 1) (s.set o (l.getD j z)) (by omega) (by omega) (by omega) (by rw [List.length_set]; exact hl) ?_ ?_
      · rw [hst, List.filter_append, ← ht, List.take_add_one, List.take_set_of_le (by omega), List.getElem?_set_self (by omega)]
        simp only [List.filter_cons, g2, List.filter_nil]; simp
      · rw [List.drop_set_of_lt (by omega)]; exact hd1
theorem del_eq {α : Type} (z : α) (L : Nat → List α → Int → Int → Option (List α)) (p : α → Option Bool) (q : α → Bool) (l : List α) (hp : ∀ x ∈ l, p x = some (q x)) (hs : l.length ≤ 1048576)
    (hstep : ∀ k (s : List α) (o j : Nat), j < l.length → s.length = l.length → o ≤ j → L (k + 1) s (o : Int) (j : Int) = if q (s.getD j z) = true then L k s (o : Int) (wrap64 ((j : Int) + 1)) else L k (s.set o (s.getD j z)) (wrap64 ((o : Int) + 1)) (wrap64 ((j : Int) + 1)))
    (hend : ∀ k (s : List α) (o : Nat), s.length = l.length → o ≤ l.length → L (k + 1) s (o : Int) (l.length : Int) = some ((Cl.clr s o z).take o)) {k : Nat} (hk : l.length < k) :
    ((Ho.idxO p l 0).bind fun t => if t = (-1) then some l else L k l t (wrap64 (t + 1))) = some (l.filter (fun x => !q x)) := by
  rw [Ho.idxO_eq (p := p) (q := q) hp]
  simp only [Option.bind_some]
  cases h : l.findIdx? q with
  | none =>
    simp only [if_true]
    congr 1
    rw [eq_comm, List.filter_eq_self]
    intro x hx
    have := (List.findIdx?_eq_none_iff.mp h) x hx
    rw [this]; rfl
  | some j =>
    obtain ⟨hj, hq, hb⟩ := List.findIdx?_eq_some_iff_getElem.mp h
    simp only [Int.zero_add]
    rw [if_neg (by omega), wstep hj (by omega)]
    have hst : l.take (j + 1) = l.take j ++ [l[j]] := by rw [List.take_add_one, List.getElem?_eq_getElem hj]; rfl
    refine del_loop z L q l hs hstep hend (l.length - (j + 1)) k j (j + 1) l (by omega) (by omega) (by omega) rfl ?_ rfl
    rw [hst, List.filter_append, List.filter_cons, hq]
    simp only [Bool.not_true, Bool.false_eq_true, if_false, List.filter_nil, List.append_nil]
    rw [eq_comm, List.filter_eq_self]
    intro x hx
    obtain ⟨i, hi, rfl⟩ := List.mem_iff_getElem.mp hx
    rw [List.getElem_take]
    have := hb i (by rw [List.length_take] at hi; omega)
    simpa using this
end Go.Proofs.YtahfahlbdgbfeaaGreatDoor.Pure

namespace Go.Proofs.YtahfahlbdgbfeaaGreatDoor.Pure
open Go Go.RowKit Go.Proofs Go.Proofs.YtahfahlbdgbfeaaGreatDoorW.PrintWords Go.Proofs.YtahfahlbdgbfeaaGreatDoorW.PrintLast
set_option linter.unusedVariables false
set_option linter.unusedSimpArgs false
/-- an element put into a list (whose reverse is given), from the right -/
def insB {α : Type} (lt : α → α → Bool) : List α → α → List α
  | [], x => [x]
  | y :: rp, x => if lt x y = true then insB lt rp x ++ [y] else (y :: rp).reverse ++ [x]
def isortB {α : Type} (lt : α → α → Bool) (P l : List α) : List α := l.foldl (fun P x => insB lt P.reverse x) P
theorem insB_perm {α : Type} (lt : α → α → Bool) : ∀ (rp : List α) (x : α), (insB lt rp x).Perm (x :: rp) := by
  intro rp
  induction rp with
  | nil => intro x; exact List.Perm.refl _
  | cons y rp ih =>
    intro x
    rw [insB]
    split
    · have h1 : (insB lt rp x ++ [y]).Perm ((x :: rp) ++ [y]) := (ih x).append_right _
      refine h1.trans ?_
      have h2 : ((x :: rp) ++ [y]).Perm ([y] ++ (x :: rp)) := List.perm_append_comm
      exact h2.trans (List.Perm.swap _ _ _)
    · have h1 : ((y :: rp).reverse ++ [x]).Perm ([x] ++ (y :: rp).reverse) := List.perm_append_comm
      refine h1.trans ?_
      exact List.Perm.cons _ (List.reverse_perm _)
theorem insB_len {α : Type} (lt : α → α → Bool) (rp : List α) (x : α) : (insB lt rp x).length = rp.length + 1 := by
  rw [(insB_perm lt rp x).length_eq, List.length_cons]
theorem isortB_perm {α : Type} (lt : α → α → Bool) : ∀ (l P : List α), (isortB lt P l).Perm (P ++ l) := by
  intro l
  induction l with
  | nil => intro P; rw [List.append_nil]; exact List.Perm.refl _
  | cons x l ih =>
    intro P
    unfold isortB at *
    rw [List.foldl_cons]
    refine (ih _).trans ?_
    have h1 : (insB lt P.reverse x ++ l).Perm ((x :: P.reverse) ++ l) := (insB_perm lt _ x).append_right _
    refine h1.trans ?_
    have h2 : ((x :: P.reverse) ++ l).Perm ((x :: P) ++ l) := (List.Perm.cons _ (List.reverse_perm _)).append_right _
    exact h2.trans List.perm_middle.symm
theorem insB_sorted {α : Type} (lt : α → α → Bool) (R : α → α → Prop) (tr : ∀ a b c, R a b → R b c → R a c) : ∀ (rp : List α) (x : α), rp.reverse.Pairwise R → (∀ y ∈ rp, lt x y = true → R x y) → (∀ y ∈ rp, lt x y = false → R y x) → (insB lt rp x).Pairwise R := by
  intro rp
  induction rp with
  | nil => intro x _ _ _; simp [insB]
  | cons y rp ih =>
    intro x hP h1 h2
    rw [List.reverse_cons, List.pairwise_append] at hP
    rw [insB]
    split
    · rename_i g
      rw [List.pairwise_append]
      refine ⟨ih x hP.1 (fun z hz => h1 z (List.mem_cons_of_mem _ hz)) (fun z hz => h2 z (List.mem_cons_of_mem _ hz)), List.pairwise_singleton _ _, fun a ha b hb => ?_⟩
      rw [List.mem_singleton] at hb
      subst hb
      rcases List.mem_cons.mp ((insB_perm lt rp x).mem_iff.mp ha) with e | e
      · subst e; exact h1 b List.mem_cons_self g
      · exact hP.2.2 a (List.mem_reverse.mpr e) b (List.mem_singleton.mpr rfl)
    · rename_i g
      have g : lt x y = false := by simpa using g
      have hy := h2 y List.mem_cons_self g
      rw [List.pairwise_append]
      refine ⟨by rw [List.reverse_cons, List.pairwise_append]; exact hP, List.pairwise_singleton _ _, fun a ha b hb => ?_⟩
      rw [List.mem_singleton] at hb
      subst hb
      rw [List.mem_reverse] at ha
      rcases List.mem_cons.mp ha with e | e
      · subst e; exact hy
      · exact tr _ _ _ (hP.2.2 a (List.mem_reverse.mpr e) y (List.mem_singleton.mpr rfl)) hy
/-- the inner loop of the library's insertion sort -/
theorem ins_l1 {α : Type} (z : α) (lt : α → α → Bool) (L0 : Nat → List α → Int → Option (List α)) (L1 : Nat → List α → Int → Int → Option (List α))
    (h1 : ∀ k (s : List α) (i : Int) (j : Nat), 0 < j → j < s.length → s.length ≤ 1048576 → L1 (k + 1) s i (j : Int) = if lt (s.getD j z) (s.getD (j - 1) z) = true then L1 k ((s.set j (s.getD (j - 1) z)).set (j - 1) (s.getD j z)) i ((j - 1 : Nat) : Int) else L0 k s (wrap64 (i + 1)))
    (h2 : ∀ k (s : List α) (i : Int), L1 (k + 1) s i 0 = L0 k s (wrap64 (i + 1))) :
    ∀ (rp : List α) (k : Nat) (x : α) (Q : List α) (i : Int), rp.length + 1 + Q.length ≤ 1048576 → rp.length < k → ∃ k', k ≤ k' + rp.length + 1 ∧ L1 k (rp.reverse ++ x :: Q) i (rp.length : Int) = L0 k' (insB lt rp x ++ Q) (wrap64 (i + 1)) := by
  intro rp
  induction rp with
  | nil =>
    intro k x Q i hb hk
    obtain ⟨k, rfl, _⟩ := succ_of hk
    refine ⟨k, by simp, ?_⟩
    have := h2 k (x :: Q) i
    simpa [insB] using this
  | cons y rp ih =>
    intro k x Q i hb hk
    obtain ⟨k, rfl, hk2⟩ := succ_of hk
    rw [List.length_cons] at *
    have hs : (y :: rp).reverse ++ x :: Q = rp.reverse ++ y :: x :: Q := by simp
    have hlen : (rp.reverse ++ y :: x :: Q).length = rp.length + 2 + Q.length := by simp; omega
    have e1 : (rp.reverse ++ y :: x :: Q).getD (rp.length + 1) z = x := by
      rw [List.getD_eq_getElem?_getD, List.getElem?_append_right (by rw [List.length_reverse]; omega), List.length_reverse, show rp.length + 1 - rp.length = 1 by omega]; rfl
    have e2 : (rp.reverse ++ y :: x :: Q).getD rp.length z = y := by
      rw [List.getD_eq_getElem?_getD, List.getElem?_append_right (by rw [List.length_reverse]; omega), List.length_reverse, Nat.sub_self]; rfl
    have e3 : ((rp.reverse ++ y :: x :: Q).set (rp.length + 1) y).set rp.length x = rp.reverse ++ x :: y :: Q := by
      rw [List.set_append_right _ _ (by rw [List.length_reverse]; omega), List.length_reverse, show rp.length + 1 - rp.length = 1 by omega, List.set_append_right _ _ (by rw [List.length_reverse]; omega), List.length_reverse, Nat.sub_self]; rfl
    rw [hs, h1 k _ i (rp.length + 1) (by omega) (by omega) (by omega), e1, Nat.add_sub_cancel, e2, e3]
    by_cases g : lt x y = true
    · rw [if_pos g]
      obtain ⟨k', hk', e⟩ := ih k x (y :: Q) i (by rw [List.length_cons]; omega) (by omega)
      refine ⟨k', by omega, ?_⟩
      rw [e, insB, if_pos g, List.append_assoc]; rfl
    · rw [if_neg g]
      refine ⟨k, by omega, ?_⟩
      rw [insB, if_neg g]; simp
theorem ins_l0 {α : Type} (z : α) (lt : α → α → Bool) (n0 : Nat) (hn0 : n0 ≤ 1048576) (L0 : Nat → List α → Int → Option (List α)) (L1 : Nat → List α → Int → Int → Option (List α))
    (h1 : ∀ k (s : List α) (i : Int) (j : Nat), 0 < j → j < s.length → s.length ≤ 1048576 → L1 (k + 1) s i (j : Int) = if lt (s.getD j z) (s.getD (j - 1) z) = true then L1 k ((s.set j (s.getD (j - 1) z)).set (j - 1) (s.getD j z)) i ((j - 1 : Nat) : Int) else L0 k s (wrap64 (i + 1)))
    (h2 : ∀ k (s : List α) (i : Int), L1 (k + 1) s i 0 = L0 k s (wrap64 (i + 1)))
    (h3 : ∀ k (s : List α) (i : Nat), i < n0 → L0 (k + 1) s (i : Int) = L1 k s (i : Int) (i : Int)) (h4 : ∀ k (s : List α) (i : Nat), n0 ≤ i → L0 (k + 1) s (i : Int) = some s) :
    ∀ (Q P : List α) (k : Nat), P.length + Q.length = n0 → (Q.length + 1) * (n0 + 3) < k → L0 k (P ++ Q) (P.length : Int) = some (isortB lt P Q) := by
  intro Q
  induction Q with
  | nil =>
    intro P k hn hk
    obtain ⟨k, rfl, _⟩ := succ_of (show 0 < k by omega)
    rw [h4 k _ _ (by simpa using Nat.le_of_eq hn.symm), List.append_nil]; rfl
  | cons x Q ih =>
    intro P k hn hk
    rw [List.length_cons, Nat.add_mul, Nat.one_mul] at hk
    rw [List.length_cons] at hn
    obtain ⟨k, rfl, _⟩ := succ_of (show 0 < k by omega)
    rw [h3 k _ _ (by omega)]
    obtain ⟨k', hk', e⟩ := ins_l1 z lt L0 L1 h1 h2 P.reverse k x Q (P.length : Int) (by rw [List.length_reverse]; omega) (by rw [List.length_reverse]; omega)
    rw [List.reverse_reverse, List.length_reverse] at e
    rw [List.length_reverse] at hk'
    have hl := insB_len lt P.reverse x
    rw [List.length_reverse] at hl
    rw [e, wstep (n := n0) (by omega) (by omega), ← hl, ih (insB lt P.reverse x) k' (by omega) (by omega)]
    rfl
/-- the library's insertion sort, from the second element on -/
theorem ins_eq {α : Type} (z : α) (lt : α → α → Bool) (l : List α) (hl : l.length ≤ 1048576) (L0 : Nat → List α → Int → Option (List α)) (L1 : Nat → List α → Int → Int → Option (List α))
    (h1 : ∀ k (s : List α) (i : Int) (j : Nat), 0 < j → j < s.length → s.length ≤ 1048576 → L1 (k + 1) s i (j : Int) = if lt (s.getD j z) (s.getD (j - 1) z) = true then L1 k ((s.set j (s.getD (j - 1) z)).set (j - 1) (s.getD j z)) i ((j - 1 : Nat) : Int) else L0 k s (wrap64 (i + 1)))
    (h2 : ∀ k (s : List α) (i : Int), L1 (k + 1) s i 0 = L0 k s (wrap64 (i + 1)))
    (h3 : ∀ k (s : List α) (i : Nat), i < l.length → L0 (k + 1) s (i : Int) = L1 k s (i : Int) (i : Int)) (h4 : ∀ k (s : List α) (i : Nat), l.length ≤ i → L0 (k + 1) s (i : Int) = some s) {k : Nat} (hk : (l.length + 1) * (l.length + 3) < k) :
    L0 k l 1 = some (isortB lt [] l) := by
  cases l with
  | nil =>
    obtain ⟨k, rfl, _⟩ := succ_of (show 0 < k by omega)
    exact h4 k [] 1 (by simp)
  | cons x l =>
    have hk2 : (l.length + 1) * ((x :: l).length + 3) < k := Nat.lt_of_le_of_lt (Nat.mul_le_mul_right _ (by rw [List.length_cons]; omega)) hk
    exact ins_l0 z lt (x :: l).length hl L0 L1 h1 h2 h3 h4 l [x] k (by simp only [List.length_cons, List.length_nil]; omega) hk2
theorem insB_last {α : Type} (lt : α → α → Bool) : ∀ (rp : List α) (x : α), (∀ y ∈ rp, lt x y = false) → insB lt rp x = rp.reverse ++ [x] := by
  intro rp x h
  cases rp with
  | nil => rfl
  | cons y rp => rw [insB, if_neg (by rw [h y List.mem_cons_self]; simp)]
/-- a list in order, put into by the key -/
theorem insB_filter {α : Type} (lt : α → α → Bool) (q : α → Bool) (tr : ∀ x a b, lt x a = false → lt a b = false → lt x b = false) : ∀ (rp : List α) (x : α), rp.Pairwise (fun a b => lt a b = false) → (insB lt rp x).filter q = if q x = true then insB lt (rp.filter q) x else (rp.filter q).reverse := by
  intro rp
  induction rp with
  | nil => intro x _; cases g : q x <;> simp [insB, g]
  | cons y rp ih =>
    intro x hp
    rw [List.pairwise_cons] at hp
    by_cases g : lt x y = true
    · have e : insB lt (y :: rp) x = insB lt rp x ++ [y] := by rw [insB, if_pos g]
      rw [e, List.filter_append, ih x hp.2]
      cases gy : q y
      · have e2 : (y :: rp).filter q = rp.filter q := by rw [List.filter_cons, gy]; simp
        have e3 : [y].filter q = [] := by rw [List.filter_cons, gy]; simp
        rw [e2, e3, List.append_nil]
      · have e2 : (y :: rp).filter q = y :: rp.filter q := by rw [List.filter_cons, gy]; simp
        have e3 : [y].filter q = [y] := by rw [List.filter_cons, gy]; simp
        rw [e2, e3]
        cases gx : q x
        · simp
        · simp only [if_true]
          rw [insB, if_pos g]
    · have g2 : lt x y = false := by simpa using g
      have hall : ∀ w ∈ y :: rp, lt x w = false := by
        intro w hw
        rcases List.mem_cons.mp hw with e | e
        · rw [e]; exact g2
        · exact tr x y w g2 (hp.1 w e)
      rw [insB_last lt (y :: rp) x hall, insB_last lt ((y :: rp).filter q) x (fun w hw => hall w (List.mem_filter.mp hw).1), List.filter_append, ← List.filter_reverse]
      cases gx : q x
      · simp [List.filter_cons, gx]
      · simp [List.filter_cons, gx]
theorem insB_rev {α : Type} (lt : α → α → Bool) (tot : ∀ x y, lt x y = true → lt y x = false) (tr : ∀ x a b, lt x a = false → lt a b = false → lt x b = false) (rp : List α) (x : α) (hp : rp.Pairwise (fun a b => lt a b = false)) : (insB lt rp x).reverse.Pairwise (fun a b => lt a b = false) := by
  have h := insB_sorted lt (fun a b => lt b a = false) (fun a b c h1 h2 => tr c b a h2 h1) rp x (by rw [List.pairwise_reverse]; exact hp) (fun y _ h => tot x y h) (fun y _ h => h)
  rw [List.pairwise_reverse]
  exact h
theorem isortB_filter {α : Type} (lt : α → α → Bool) (q : α → Bool) (tot : ∀ x y, lt x y = true → lt y x = false) (tr : ∀ x a b, lt x a = false → lt a b = false → lt x b = false) : ∀ (l P : List α), P.reverse.Pairwise (fun a b => lt a b = false) → (isortB lt P l).filter q = isortB lt (P.filter q) (l.filter q) := by
  intro l
  induction l with
  | nil => intro P _; rfl
  | cons x l ih =>
    intro P hP
    show (isortB lt (insB lt P.reverse x) l).filter q = _
    rw [ih _ (insB_rev lt tot tr P.reverse x hP), insB_filter lt q tr P.reverse x hP]
    cases gx : q x
    · rw [List.filter_cons, gx]
      simp only [Bool.false_eq_true, if_false]
      rw [List.filter_reverse, List.reverse_reverse]
    · rw [List.filter_cons, gx]
      simp only [if_true]
      rw [List.filter_reverse]
      rfl
end Go.Proofs.YtahfahlbdgbfeaaGreatDoor.Pure

namespace Go.Proofs.YtahfahlbdgbfeaaGreatDoor.Pure
open Go Go.RowKit Go.Proofs Go.Proofs.YtahfahlbdgbfeaaGreatDoor.X Go.Proofs.YtahfahlbdgbfeaaGreatDoorW.PrintWords Go.Proofs.YtahfahlbdgbfeaaGreatDoorW.PrintLast
set_option linter.unusedVariables false
set_option linter.unusedSimpArgs false
def isNewB (d n : Int) (x : S34) : Bool := decide (x.f4 > 3) || decide (wrap64 (d - x.f7) ≤ n)
theorem isNew_eq (d n : Int) (x : S34) : Fav.f x.f0 x.f1 x.f2 x.f3 x.f4 x.f5 x.f6 x.f7 d n = some (isNewB d n x) := by
  unfold Fav.f isNewB
  by_cases g : x.f4 > 3
  · rw [if_pos g, decide_eq_true g]; rfl
  · rw [if_neg g, decide_eq_false g]; rfl
theorem clr_take {α : Type} (l : List α) (k : Nat) (z : α) (h : k ≤ l.length) : (Cl.clr l k z).take k = l.take k := by
  unfold Cl.clr
  rw [List.take_append_of_le_length (by rw [List.length_take]; omega), List.take_of_length_le (by rw [List.length_take]; omega)]
theorem delW_loop {l : List S34} {d n : Int} (hs : l.length ≤ 1048576) : ∀ (m k o j : Nat) (s : List S34), j + m = l.length → m < k → o ≤ j → s.length = l.length → s.take o = (l.take j).filter (fun x => !isNewB d n x) → s.drop j = l.drop j → Ff.l0 k s (o : Int) (j : Int) d n = some (l.filter (fun x => !isNewB d n x)) := by
  intro m
  induction m with
  | zero =>
    intro k o j s hj hk ho hl ht hd
    obtain ⟨k, rfl, _⟩ := succ_of hk
    rw [Ff.l0, if_neg (by omega), if_pos (by omega), if_pos (by omega), Int.toNat_natCast, clr_take _ _ _ (by omega), ht, List.take_of_length_le (by omega)]
  | succ m ih =>
    intro k o j s hj hk ho hl ht hd
    obtain ⟨k, rfl, hk⟩ := succ_of hk
    have hlt : j < l.length := by omega
    have hg : s.getD j z34 = l.getD j z34 := by
      have h := congrArg (fun (q : List S34) => q[0]?) hd
      simp only [List.getElem?_drop, Nat.add_zero] at h
      rw [List.getD_eq_getElem?_getD, List.getD_eq_getElem?_getD, h]
    have hstep : l.take (j + 1) = l.take j ++ [l.getD j z34] := by
      rw [List.take_add_one, List.getD_eq_getElem?_getD, List.getElem?_eq_getElem hlt]; rfl
    have hd1 : s.drop (j + 1) = l.drop (j + 1) := by
      simpa [List.drop_drop, Nat.add_comm] using congrArg (List.drop 1) hd
    rw [Ff.l0, if_pos (by omega), if_pos (by omega)]
    simp only [rdIOrder_nat, isNew_eq, Option.bind_some, hg]
    by_cases g : isNewB d n (l.getD j z34) = true
    · rw [if_pos g, wstep hlt (by omega)]
      exact ih k o (j + 1) s (by omega) (by omega) (by omega) hl (by rw [hstep, List.filter_append, ht]; simp only [List.filter_cons, g, List.filter_nil]; simp) hd1
    · have g2 : isNewB d n (l.getD j z34) = false := by simpa using g
      rw [if_neg g, if_pos (by omega), if_pos (by omega), wstep (n := l.length) (i := o) (by omega) (by omega), wstep hlt (by omega), Int.toNat_natCast]
      refine ih k (o + 1) (j + 1) (s.set o (l.getD j z34)) (by omega) (by omega) (by omega) (by rw [List.length_set]; exact hl) ?_ ?_
      · rw [hstep, List.filter_append, ← ht, List.take_add_one, List.take_set_of_le (by omega), List.getElem?_set_self (by omega)]
        simp only [List.filter_cons, g2, List.filter_nil]; simp
      · rw [List.drop_set_of_lt (by omega)]; exact hd1
theorem delW_eq {k : Nat} {l : List S34} {d n : Int} (hk : l.length + 1 < k) (hs : l.length ≤ 1048576) : Ff.f k l d n = some (l.filter (fun x => !isNewB d n x)) := by
  simp only [Ff.f, Fan.f]
  rw [Ho.idxO_eq (p := fun (x_ : S34) => Fav.f x_.f0 x_.f1 x_.f2 x_.f3 x_.f4 x_.f5 x_.f6 x_.f7 d n) (q := isNewB d n) (fun x _ => isNew_eq d n x)]
  simp only [Option.bind_some]
  cases h : l.findIdx? (isNewB d n) with
  | none =>
    simp only [if_true]
    congr 1
    rw [eq_comm, List.filter_eq_self]
    intro x hx
    have := (List.findIdx?_eq_none_iff.mp h) x hx
    rw [this]; rfl
  | some j =>
    obtain ⟨hj, hq, hb⟩ := List.findIdx?_eq_some_iff_getElem.mp h
    simp only [Int.zero_add]
    rw [if_neg (by omega), wstep hj (by omega)]
    have hstep : l.take (j + 1) = l.take j ++ [l[j]] := by rw [List.take_add_one, List.getElem?_eq_getElem hj]; rfl
    refine delW_loop hs (l.length - (j + 1)) k j (j + 1) l (by omega) (by omega) (by omega) rfl ?_ rfl
    rw [hstep, List.filter_append, List.filter_cons, hq]
    simp only [Bool.not_true, Bool.false_eq_true, if_false, List.filter_nil, List.append_nil]
    rw [eq_comm, List.filter_eq_self]
    intro x hx
    obtain ⟨i, hi, rfl⟩ := List.mem_iff_getElem.mp hx
    rw [List.getElem_take]
    have := hb i (by rw [List.length_take] at hi; omega)
    simpa using this
theorem idsO_eq {l : List S34} (hs : l.length ≤ 1048576) : ∀ (m k i : Nat) (acc : List Int), i + m = l.length → m < k → acc.length ≤ i → Fz.l0 k acc l (l.length : Int) (i : Int) = some (acc ++ (l.drop i).map (fun x => x.f0)) := by
  intro m
  induction m with
  | zero =>
    intro k i acc hi hk ha
    obtain ⟨k, rfl, _⟩ := succ_of hk
    rw [Fz.l0, if_neg (by omega), List.drop_eq_nil_of_le (by omega)]; simp
  | succ m ih =>
    intro k i acc hi hk ha
    obtain ⟨k, rfl, hk⟩ := succ_of hk
    have hlt : i < l.length := by omega
    rw [Fz.l0, if_pos (by omega), if_pos (by omega), if_pos (by omega), if_pos (by omega), rdIOrder_nat, wstep hlt (by omega), ih k (i + 1) _ (by omega) (by omega) (by rw [List.length_append, List.length_singleton]; omega), drop_step hlt z34, List.map_cons, List.append_assoc]
    rfl
theorem ids_eq {k : Nat} {l : List S34} (hk : l.length < k) (hs : l.length ≤ 1048576) : Fz.f k l = some (l.map (fun x => x.f0)) := by
  have h := idsO_eq hs l.length k 0 [] (by omega) (by omega) (by simp)
  simpa [Fz.f] using h
/-- who waits longer than n days at day d, if the list and the days are valid and no order lies in the future -/
def waitM (l : List S34) (d n : Int) : List Int × Bool :=
  if ordersB l && (decide (0 ≤ d ∧ d ≤ 4000) && (decide (0 ≤ n ∧ n ≤ 4000) && l.all fun x => decide (x.f7 ≤ d))) then ((l.filter (fun x => !isNewB d n x)).map (fun x => x.f0), true) else ([], false)
theorem waitM_len (l : List S34) (d n : Int) : (waitM l d n).1.length ≤ 10 := by
  unfold waitM
  split
  · rename_i h
    simp only [Bool.and_eq_true] at h
    have := (orders_of h.1).1
    simp only [List.length_map]
    exact Nat.le_trans (List.length_filter_le _ _) this
  · simp
theorem waitI_eq {k : Nat} {l : List S34} {d n : Int} (hk : 4000000 < k) (hs : l.length ≤ 1048576) : Fn.f k l d n = some (waitM l d n) := by
  obtain ⟨k, rfl, hk⟩ := succ_of hk
  simp only [Fn.f, ordersI_eq (k := k + 1) (l := l) (by omega) hs, Faw.f, in_eq, Option.bind_some, waitM, Fn.j0, Fal.f, Fbj.f]
  rw [Ho.allO_eq (p := fun (x_ : S34) => some (decide (x_.f7 ≤ d))) (q := fun x => decide (x.f7 ≤ d)) (fun x _ => rfl)]
  simp only [Option.bind_some]
  cases ordersB l
  · simp
  cases decide (0 ≤ d ∧ d ≤ 4000)
  · simp
  cases decide (0 ≤ n ∧ n ≤ 4000)
  · simp
  cases l.all fun x => decide (x.f7 ≤ d)
  · simp
  simp only [if_true, Bool.not_true, Bool.false_eq_true, if_false, Bool.and_self, Fax.f, Option.bind_some, List.length_nil, List.nil_append]
  have hf : (l.filter (fun x => !isNewB d n x)).length ≤ l.length := List.length_filter_le _ _
  rw [if_pos (by omega)]
  simp only [Option.bind_some, delW_eq (k := k) (l := l) (d := d) (n := n) (by omega) hs, ids_eq (k := k) (l := l.filter (fun x => !isNewB d n x)) (by omega) (by omega)]
theorem waitS_loop {l : List S34} {d n : Int} (hs : l.length ≤ 1048576) : ∀ (m k i : Nat) (acc : List Int), i + m = l.length → m < k → acc.length ≤ i → Fk.l0 k l d n acc (i : Int) = some (if (l.drop i).all (fun x => decide (x.f7 ≤ d)) then (acc ++ ((l.drop i).filter (fun x => !isNewB d n x)).map (fun x => x.f0), true) else ([], false)) := by
  intro m
  induction m with
  | zero =>
    intro k i acc hi hk ha
    obtain ⟨k, rfl, _⟩ := succ_of hk
    rw [Fk.l0, if_neg (by omega), List.drop_eq_nil_of_le (by omega)]; simp
  | succ m ih =>
    intro k i acc hi hk ha
    obtain ⟨k, rfl, hk⟩ := succ_of hk
    have hlt : i < l.length := by omega
    rw [Fk.l0, if_pos (by omega), if_pos (by omega)]
    simp only [rdIOrder_nat, Fbp.f, Option.bind_some]
    rw [drop_step hlt z34, List.all_cons, List.filter_cons]
    generalize l.getD i z34 = x
    by_cases g : x.f7 > d
    · rw [if_pos g, decide_eq_false (show ¬ x.f7 ≤ d by omega)]; simp
    rw [if_neg g, decide_eq_true (show x.f7 ≤ d by omega), Bool.true_and]
    by_cases g1 : x.f4 ≤ 3
    · rw [decide_eq_true g1, if_pos rfl]
      by_cases g2 : wrap64 (d - x.f7) > n
      · rw [if_pos g2, if_pos (by omega), wstep hlt (by omega), ih k (i + 1) _ (by omega) (by omega) (by rw [List.length_append, List.length_singleton]; omega)]
        have e : isNewB d n x = false := by unfold isNewB; rw [decide_eq_false (by omega), decide_eq_false (by omega)]; rfl
        simp only [e, Bool.not_false, if_true, List.map_cons, List.append_assoc, List.singleton_append]
      · rw [if_neg g2, wstep hlt (by omega), ih k (i + 1) _ (by omega) (by omega) (by omega)]
        have e : isNewB d n x = true := by unfold isNewB; rw [decide_eq_true (show wrap64 (d - x.f7) ≤ n by omega), Bool.or_true]
        simp only [e, Bool.not_true, Bool.false_eq_true, if_false]
    · rw [decide_eq_false g1, if_neg (by simp), wstep hlt (by omega), ih k (i + 1) _ (by omega) (by omega) (by omega)]
      have e : isNewB d n x = true := by unfold isNewB; rw [decide_eq_true (show x.f4 > 3 by omega), Bool.true_or]
      simp only [e, Bool.not_true, Bool.false_eq_true, if_false]
theorem waitS_eq {k : Nat} {l : List S34} {d n : Int} (hk : 4000000 < k) (hs : sizesOk l) : Fk.f k l d n = some (waitM l d n) := by
  have hlen := hs.1
  obtain ⟨k, rfl, hk⟩ := succ_of hk
  simp only [Fk.f, ordersS_eq (k := k + 1) (l := l) (by omega) hs, Far.f, l1In_eq, Option.bind_some, waitM, Fk.j0]
  cases ordersB l
  · simp
  cases decide (0 ≤ d ∧ d ≤ 4000)
  · simp
  cases decide (0 ≤ n ∧ n ≤ 4000)
  · simp
  simp only [if_true, Bool.not_true, Bool.false_eq_true, if_false, Bool.true_and]
  have h := waitS_loop (d := d) (n := n) hlen l.length k 0 [] (by omega) (by omega) (by simp)
  rw [show ((0 : Nat) : Int) = 0 from rfl] at h
  rw [h]; simp
def ltD (x y : S34) : Bool := decide (x.f7 < y.f7)
theorem ltD_tot (x y : S34) (h : ltD x y = true) : ltD y x = false := by
  unfold ltD at *
  have := of_decide_eq_true h
  exact decide_eq_false (by omega)
theorem ltD_tr (x a b : S34) (h1 : ltD x a = false) (h2 : ltD a b = false) : ltD x b = false := by
  unfold ltD at *
  have := of_decide_eq_false h1
  have := of_decide_eq_false h2
  exact decide_eq_false (by omega)
def stageQ (s : Int) (x : S34) : Bool := decide (x.f4 = s)
def atM (l : List S34) (s : Int) : List Int × Bool := if ordersB l && decide (0 ≤ s ∧ s ≤ 5) then (((isortB ltD [] l).filter (stageQ s)).map (fun x => x.f0), true) else ([], false)
theorem isortD_len (l : List S34) : (isortB ltD [] l).length = l.length := by
  have h := (isortB_perm ltD l []).length_eq
  simpa using h
theorem atM_len (l : List S34) (s : Int) : (atM l s).1.length ≤ 10 := by
  unfold atM
  split
  · rename_i h
    simp only [Bool.and_eq_true] at h
    have := (orders_of h.1).1
    simp only [List.length_map]
    have h2 := List.length_filter_le (stageQ s) (isortB ltD [] l)
    rw [isortD_len] at h2
    omega
  · simp
theorem insD_eq {k : Nat} {l : List S34} (hl : l.length ≤ 10) (hk : 200 ≤ k) : Fa.f k l 0 (l.length : Int) = some (isortB ltD [] l) := by
  unfold Fa.f
  rw [Int.zero_add]
  rw [show wrap64 1 = 1 from w64 (by omega) (by omega)]
  exact ins_eq z34 ltD l (by omega) (fun k s i => Fa.l0 k s 0 (l.length : Int) i) (fun k s i j => Fa.l1 k s 0 (l.length : Int) i j)
    (fun k s i j h0 h1 h2 => by
      simp only [Fa.l1]
      rw [w64 (x := (j : Int) - 1) (by omega) (by omega), if_pos (by omega), if_pos (by omega), if_pos (by omega), if_pos (by omega), if_pos (by omega), show (j : Int) - 1 = ((j - 1 : Nat) : Int) by omega]
      simp only [rdIOrder_nat, Fbn.f, cmpI_eq, Option.bind_some, Int.toNat_natCast]
      by_cases g : (s.getD j z34).f7 < (s.getD (j - 1) z34).f7
      · rw [if_pos (by unfold cmpI; rw [if_pos g]; omega), if_pos (show ltD _ _ = true from decide_eq_true g)]
      · rw [if_neg (by unfold cmpI; rw [if_neg g]; split <;> omega), if_neg (by unfold ltD; rw [decide_eq_false g]; simp)])
    (fun k s i => by
      simp only [Fa.l1]
      rw [if_neg (by omega)])
    (fun k s i h => by
      simp only [Fa.l0]
      rw [if_pos (by omega)])
    (fun k s i h => by
      simp only [Fa.l0]
      rw [if_neg (by omega)]) (by have : (l.length + 1) * (l.length + 3) ≤ 11 * 13 := Nat.mul_le_mul (by omega) (by omega); omega)
theorem stableD_eq {k : Nat} {l : List S34} (hl : l.length ≤ 10) (hk : 300 ≤ k) : Fo.f k l = some (isortB ltD [] l) := by
  unfold Fo.f Fb.f
  obtain ⟨k, rfl, hk2⟩ := succ_of (show 299 < k by omega)
  rw [Fb.l0, if_neg (by omega), insD_eq hl (by omega)]
  obtain ⟨k, rfl, hk3⟩ := succ_of (show 0 < k by omega)
  simp only [Option.bind_some, Fb.l1]
  rw [if_neg (by omega)]; rfl
theorem delA_eq {k : Nat} {l : List S34} {s : Int} (hk : l.length < k) (hl : l.length ≤ 1048576) : Fg.f k l s = some (l.filter (stageQ s)) := by
  simp only [Fg.f, Fap.f]
  rw [del_eq z34 (fun k q o j => Fg.l0 k q o j s) (fun (x_ : S34) => Fbi.f x_.f0 x_.f1 x_.f2 x_.f3 x_.f4 x_.f5 x_.f6 x_.f7 s) (fun x => x.f4 != s) l (fun x _ => rfl) hl
    (fun k q o j h1 h2 h3 => by
      simp only [Fg.l0, rdIOrder_nat, Fbi.f, Option.bind_some]
      rw [if_pos (by omega), if_pos (by omega), if_pos (show (0 : Int) ≤ (o : Int) by omega), if_pos (show (o : Int) < (q.length : Int) by omega), Int.toNat_natCast])
    (fun k q o h2 h3 => by
      simp only [Fg.l0]
      rw [if_neg (by omega), if_pos (by omega), if_pos (by omega), Int.toNat_natCast]) hk]
  congr 1
  refine List.filter_congr (fun x _ => ?_)
  unfold stageQ
  by_cases g : x.f4 = s <;> simp [g]
theorem atI_eq {k : Nat} {l : List S34} {s : Int} (hk : 2000000 < k) (hs : l.length ≤ 1048576) : Faa.f k l s = some (atM l s) := by
  obtain ⟨k, rfl, hk⟩ := succ_of hk
  simp only [Faa.f, ordersI_eq (k := k + 1) (l := l) (by omega) hs, Fbd.f, in_eq, Option.bind_some, atM, Faa.j0]
  cases ho : ordersB l
  · simp
  cases decide (0 ≤ s ∧ s ≤ 5)
  · simp
  have h10 := (orders_of ho).1
  have hf := List.length_filter_le (stageQ s) l
  simp only [if_true, Bool.not_true, Bool.false_eq_true, if_false, Bool.and_self, Fax.f, Option.bind_some, List.length_nil, List.nil_append]
  rw [if_pos (by omega)]
  simp only [Option.bind_some, delA_eq (k := k) (l := l) (s := s) (by omega) hs, stableD_eq (k := k) (l := l.filter (stageQ s)) (by omega) (by omega)]
  have hi : isortB ltD [] (l.filter (stageQ s)) = (isortB ltD [] l).filter (stageQ s) := by
    have := isortB_filter ltD (stageQ s) ltD_tot ltD_tr l [] (by simp)
    simpa using this.symm
  have hl2 := isortD_len (l.filter (stageQ s))
  rw [ids_eq (k := k) (by omega) (by omega), hi]
  rfl
def cbP (l : List S34) (c : ByteArray) : Int := (l.map fun o => if o.f1 = c then o.f6 else 0).sum
instance cbDecMem (x : ByteArray) (l : List ByteArray) : Decidable (x ∈ l) := decidable_of_iff (l.any (fun y => decide (y = x)) = true) (by simp)
def cbFirst (l : List S34) : List ByteArray := l.foldl (fun acc o => if o.f1 ∈ acc then acc else acc ++ [o.f1]) []
def cbLe (p : ByteArray → Int) (x y : ByteArray) : Prop := p y < p x ∨ p x = p y ∧ Op.bytesLess y.toList x.toList = false
theorem cbKey_ne {x y : ByteArray} (h : y ≠ x) : CbKey y ≠ CbKey x := by
  intro e
  injection e with e
  exact h (ByteArray.ext (Array.toList_inj.mp e))
theorem cbKey_lit (x : ByteArray) : Go.WideAt.IsKeyLit (CbKey x) := trivial
theorem CbStep_map {s : DataW Unit × List ByteArray} (h : Go.Maps.IsMap s.1) (o : S34) : Go.Maps.IsMap (CbStep s o).1 := h.put _ _
theorem CbStep_at {s : DataW Unit × List ByteArray} (h : Go.Maps.IsMap s.1) (o : S34) (c : ByteArray) : CbAt (CbStep s o).1 c = if o.f1 = c then wrap64 (CbAt s.1 o.f1 + o.f6) else CbAt s.1 c := by
  by_cases g : o.f1 = c
  · subst g
    rw [if_pos rfl]
    exact CbAt_of (Go.Maps.atKey_put_same h (cbKey_lit _) _ _)
  · rw [if_neg g]
    have e := Go.Maps.atKey_put_other (D := s.1) (cbKey_ne (x := o.f1) (y := c) (fun e => g e.symm)) (.lit (.int .i64 (wrap64 (CbAt s.1 o.f1 + o.f6)))) (.lit (.int .i64 0))
    unfold CbAt CbStep
    dsimp only
    exact congrArg (fun d : DataW Unit => match d with | .lit (.int _ c) => c | _ => (0 : Int)) e
theorem CbStep_has {s : DataW Unit × List ByteArray} (h : Go.Maps.IsMap s.1) (hi : ∀ c, Go.Maps.has s.1 (CbKey c) = true ↔ c ∈ s.2) (o : S34) : (∀ c, Go.Maps.has (CbStep s o).1 (CbKey c) = true ↔ c ∈ (CbStep s o).2) ∧ (CbStep s o).2 = if o.f1 ∈ s.2 then s.2 else s.2 ++ [o.f1] := by
  have h2 : (CbStep s o).2 = if o.f1 ∈ s.2 then s.2 else s.2 ++ [o.f1] := by
    unfold CbStep
    dsimp only
    by_cases g : o.f1 ∈ s.2
    · rw [if_pos g, if_pos ((hi _).mpr g)]
    · rw [if_neg g, if_neg (fun e => g ((hi _).mp e))]
  refine ⟨fun c => ?_, h2⟩
  rw [h2]
  by_cases g : o.f1 = c
  · subst g
    have := Go.Maps.has_put_same h (cbKey_lit o.f1) (.lit (.int .i64 (wrap64 (CbAt s.1 o.f1 + o.f6))))
    refine ⟨fun _ => ?_, fun _ => this⟩
    split
    · assumption
    · simp
  · have e := Go.Maps.has_put_other (D := s.1) (cbKey_ne (x := o.f1) (y := c) (fun e => g e.symm)) (.lit (.int .i64 (wrap64 (CbAt s.1 o.f1 + o.f6))))
    rw [show Go.Maps.has (CbStep s o).1 (CbKey c) = Go.Maps.has s.1 (CbKey c) from e, hi c]
    split
    · rfl
    · rw [List.mem_append, List.mem_singleton]
      exact ⟨.inl, fun h => h.resolve_right (fun e => g e.symm)⟩
theorem CbRun_inv (B : Int) (hB : 0 ≤ B) : ∀ (l : List S34) (s : DataW Unit × List ByteArray) (M : Int), Go.Maps.IsMap s.1 → (∀ c, Go.Maps.has s.1 (CbKey c) = true ↔ c ∈ s.2) → (∀ c, 0 ≤ CbAt s.1 c ∧ CbAt s.1 c ≤ M) → (∀ o ∈ l, 0 ≤ o.f6 ∧ o.f6 ≤ B) → M + B * l.length ≤ 9223372036854775807 →
    (∀ c, CbAt (l.foldl CbStep s).1 c = CbAt s.1 c + cbP l c) ∧ (l.foldl CbStep s).2 = l.foldl (fun acc o => if o.f1 ∈ acc then acc else acc ++ [o.f1]) s.2
  | [], s, M, _, _, _, _, _ => ⟨fun c => by simp [cbP], rfl⟩
  | o :: l, s, M, h1, h2, h3, h4, h5 => by
    have ho := h4 o (List.mem_cons_self)
    have hlen : B * ((o :: l).length : Int) = B * (l.length : Int) + B := by rw [List.length_cons]; push_cast; rw [Int.mul_add, Int.mul_one]
    have hnn : 0 ≤ B * (l.length : Int) := Int.mul_nonneg hB (by omega)
    have hat : ∀ c, CbAt (CbStep s o).1 c = CbAt s.1 c + if o.f1 = c then o.f6 else 0 := fun c => by
      rw [CbStep_at h1]
      by_cases g : o.f1 = c
      · subst g
        have := h3 o.f1
        rw [if_pos rfl, if_pos rfl, w64 (by omega) (by omega)]
      · rw [if_neg g, if_neg g, Int.add_zero]
    obtain ⟨g1, g2⟩ := CbStep_has h1 h2 o
    obtain ⟨r1, r2⟩ := CbRun_inv B hB l (CbStep s o) (M + B) (CbStep_map h1 o) g1 (fun c => by
      rw [hat c]
      have := h3 c
      split <;> omega) (fun x hx => h4 x (List.mem_cons_of_mem _ hx)) (by omega)
    refine ⟨fun c => ?_, ?_⟩
    · rw [List.foldl_cons, r1 c, hat c]
      simp only [cbP, List.map_cons, List.sum_cons]
      omega
    · rw [List.foldl_cons, r2, g2, List.foldl_cons]
theorem CbRun_eq {l : List S34} {B : Int} (hB : 0 ≤ B) (h4 : ∀ o ∈ l, 0 ≤ o.f6 ∧ o.f6 ≤ B) (h5 : B * l.length ≤ 9223372036854775807) : (∀ c, CbAt (CbRun l).1 c = cbP l c) ∧ (CbRun l).2 = cbFirst l := by
  have z : ∀ c, CbAt (.map []) c = 0 := fun c => rfl
  obtain ⟨h1, h2⟩ := CbRun_inv B hB l (.map [], []) 0 Go.Maps.isMap_empty (fun c => by simp [Go.Maps.has_eq]) (fun c => by rw [z]; omega) h4 (by omega)
  exact ⟨fun c => by rw [CbRun, h1 c, z, Int.zero_add], h2⟩
theorem cbLe_trans {p : ByteArray → Int} {x y z : ByteArray} (h1 : cbLe p x y) (h2 : cbLe p y z) : cbLe p x z := by
  rcases h1 with h1 | ⟨e1, h1⟩ <;> rcases h2 with h2 | ⟨e2, h2⟩
  · exact .inl (by omega)
  · exact .inl (by omega)
  · exact .inl (by omega)
  · refine .inr ⟨by omega, Bool.eq_false_iff.mpr fun h3 => ?_⟩
    rcases hb : Op.bytesLess z.toList y.toList with _ | _
    · rcases hc : Op.bytesLess y.toList z.toList with _ | _
      · rw [CbL_total _ _ hb hc, h1] at h3; cases h3
      · have := CbL_trans _ _ _ hc h3
        rw [h1] at this; cases this
    · rw [h2] at hb; cases hb
theorem cbLe_anti {p : ByteArray → Int} {x y : ByteArray} (h1 : cbLe p x y) (h2 : cbLe p y x) : x = y := by
  rcases h1 with h1 | ⟨e1, h1⟩ <;> rcases h2 with h2 | ⟨e2, h2⟩
  · omega
  · omega
  · omega
  · exact CbBytes (CbL_total _ _ h2 h1)
theorem CbSorted_le (D : DataW Unit) (acc : List ByteArray) : (CbSorted D acc).Pairwise (cbLe (CbAt D)) := by
  unfold CbSorted
  have hS := CbSWO D
  have h := List.pairwise_mergeSort (le := fun x y : CbT => !(ltOf (CbCf D)) y x) (fun a b c h1 h2 => by
      simp only [Bool.not_eq_true'] at h1 h2 ⊢
      exact hS.ntrans _ _ _ h2 h1) (fun a b => by
      rcases h1 : ltOf (CbCf D) b a with _ | _
      · rfl
      · rcases h2 : ltOf (CbCf D) a b with _ | _
        · rfl
        · have := hS.trans _ _ _ h1 h2
          rw [hS.irrefl] at this; cases this) (acc.map CbMk)
  refine List.pairwise_map.mpr (h.imp fun {x y} h => ?_)
  simp only [Bool.not_eq_true'] at h
  have g := mt (CbLt_iff D y x).mpr (by rw [h]; decide)
  by_cases e : CbAt D y.1 < CbAt D x.1
  · exact .inl e
  · refine .inr ⟨by omega, Bool.eq_false_iff.mpr fun e2 => g (.inr ⟨by omega, e2⟩)⟩
theorem CbSorted_perm (D : DataW Unit) (acc : List ByteArray) (h : ∀ s ∈ acc, s.size ≤ maxLen) : (CbSorted D acc).Perm acc := by
  unfold CbSorted
  have e : acc = (acc.map CbMk).map Subtype.val := by
    rw [List.map_map]
    conv => lhs; rw [← List.map_id acc]
    exact List.map_congr_left fun s hs => (CbMk_val (h s hs)).symm
  conv => rhs; rw [e]
  exact (List.mergeSort_perm _ _).map _
/-- whoever sorts the names alike has the same list -/
theorem CbSorted_uniq {D : DataW Unit} {acc L : List ByteArray} (h : ∀ s ∈ acc, s.size ≤ maxLen) (hL : L.Pairwise (cbLe (CbAt D))) (hp : L.Perm acc) : CbSorted D acc = L :=
  List.Perm.eq_of_pairwise (fun _ _ _ _ h1 h2 => cbLe_anti h1 h2) (CbSorted_le D acc) hL ((CbSorted_perm D acc h).trans hp.symm)
theorem cbIns_perm (L : List ByteArray) (c : ByteArray) (k : Nat) : (L.take k ++ c :: L.drop k).Perm (c :: L) := by
  have := List.perm_middle (a := c) (l₁ := L.take k) (l₂ := L.drop k)
  rwa [List.take_append_drop] at this
theorem cbIns_le {p : ByteArray → Int} {L : List ByteArray} {c : ByteArray} {k : Nat} (hL : L.Pairwise (cbLe p)) (hk : k ≤ L.length) (h1 : ∀ j, k ≤ j → (hj : j < L.length) → cbLe p c L[j]) (h2 : ∀ h : 0 < k, cbLe p L[k - 1] c) : (L.take k ++ c :: L.drop k).Pairwise (cbLe p) := by
  have h12 : ∀ x ∈ L.take k, cbLe p x c := fun x hx => by
    obtain ⟨i, hi, rfl⟩ := List.mem_iff_getElem.mp hx
    rw [List.length_take] at hi
    rw [List.getElem_take]
    by_cases e : i = k - 1
    · subst e; exact h2 (by omega)
    · exact cbLe_trans (List.pairwise_iff_getElem.mp hL i (k - 1) (by omega) (by omega) (by omega)) (h2 (by omega))
  have h13 : ∀ x ∈ L.drop k, cbLe p c x := fun x hx => by
    obtain ⟨i, hi, rfl⟩ := List.mem_iff_getElem.mp hx
    rw [List.length_drop] at hi
    rw [List.getElem_drop]
    exact h1 _ (by omega) (by omega)
  refine List.pairwise_append.mpr ⟨hL.sublist (List.take_sublist _ _), List.pairwise_cons.mpr ⟨h13, hL.sublist (List.drop_sublist _ _)⟩, fun x hx y hy => ?_⟩
  rcases List.mem_cons.mp hy with rfl | hy
  · exact h12 x hx
  · exact cbLe_trans (h12 x hx) (h13 y hy)
theorem cbFirst_mem {l : List S34} (c : ByteArray) : c ∈ cbFirst l ↔ ∃ o ∈ l, o.f1 = c := by
  suffices h : ∀ (l : List S34) acc, c ∈ l.foldl (fun acc o => if o.f1 ∈ acc then acc else acc ++ [o.f1]) acc ↔ c ∈ acc ∨ ∃ o ∈ l, o.f1 = c by simpa [cbFirst] using h l []
  intro l
  induction l with
  | nil => intro acc; simp
  | cons o l ih =>
    intro acc
    rw [List.foldl_cons, ih]
    by_cases g : o.f1 ∈ acc
    · rw [if_pos g]
      constructor
      · rintro (h | ⟨x, hx, e⟩)
        · exact .inl h
        · exact .inr ⟨x, List.mem_cons_of_mem _ hx, e⟩
      · rintro (h | ⟨x, hx, e⟩)
        · exact .inl h
        · rcases List.mem_cons.mp hx with rfl | hx
          · exact .inl (e ▸ g)
          · exact .inr ⟨x, hx, e⟩
    · rw [if_neg g, List.mem_append, List.mem_singleton]
      constructor
      · rintro ((h | h) | ⟨x, hx, e⟩)
        · exact .inl h
        · exact .inr ⟨o, List.mem_cons_self, h.symm⟩
        · exact .inr ⟨x, List.mem_cons_of_mem _ hx, e⟩
      · rintro (h | ⟨x, hx, e⟩)
        · exact .inl (.inl h)
        · rcases List.mem_cons.mp hx with rfl | hx
          · exact .inl (.inr e.symm)
          · exact .inr ⟨x, hx, e⟩
theorem cbFirst_take {l : List S34} {i : Nat} {o : S34} (h : l[i]? = some o) : cbFirst (l.take (i + 1)) = if o.f1 ∈ cbFirst (l.take i) then cbFirst (l.take i) else cbFirst (l.take i) ++ [o.f1] := by
  unfold cbFirst
  rw [List.take_add_one, h, Option.toList_some, List.foldl_append]
  rfl
theorem cbL_asymm {x y : ByteArray} (h : Op.bytesLess x.toList y.toList = true) : Op.bytesLess y.toList x.toList = false := by
  refine Bool.eq_false_iff.mpr fun h2 => ?_
  have := CbL_trans _ _ _ h h2
  rw [CbL_irrefl] at this; cases this
theorem cbEq_iff {x y : ByteArray} : x.toList = y.toList ↔ x = y := ⟨CbBytes, fun h => h ▸ rfl⟩
theorem paidS_eq {k : Nat} {l : List S34} {c : ByteArray} (hk : l.length < k) (h : ordersB l = true) : Fah.f k l c = some (cbP l c) := by
  obtain ⟨h10, hx⟩ := orders_of h
  unfold Fah.f
  have := sum_loop (fun k a i => Fah.l0 k l c a i) (fun o => if o.f1 = c then o.f6 else 0) (fun a => some a) z34 10000000 l (by omega) (fun x hm => by
      have := order_of (hx x hm)
      split <;> omega)
    (fun k acc i h1 h2 h3 => by
      have hm : l.getD i z34 ∈ l := by rw [List.getD_eq_getElem?_getD, List.getElem?_eq_getElem h1]; exact List.getElem_mem h1
      have hb := order_of (hx _ hm)
      simp only [Fah.l0, rdIOrder_nat, cbEq_iff]
      rw [if_pos (by omega), if_pos (by omega)]
      by_cases g1 : (l.getD i z34).f1 = c
      · rw [if_pos g1, if_pos g1, w64 (x := acc + _) (by omega) (by omega)]
      · rw [if_neg g1, if_neg g1, Int.add_zero])
    (fun k acc i h1 => by simp only [Fah.l0]; rw [if_neg (by omega)])
    l.length k 0 0 (by omega) (by omega) (by omega) (by omega)
  simpa [cbP] using this
/-- the search for the place -/
theorem clients_l2 {l : List S34} {L : List ByteArray} {p : ByteArray → Int} {c : ByteArray} {i : Nat} (hL : L.length ≤ 100) (hi : i ≤ 1000) :
    ∀ (j : Nat) (K : Nat), j ≤ L.length → (∀ q, j ≤ q → (hq : q < L.length) → cbLe p c L[q]) →
      ∃ m K', m ≤ L.length ∧ K ≤ K' ∧ (∀ q, m ≤ q → (hq : q < L.length) → cbLe p c L[q]) ∧ (∀ h : 0 < m, ∃ hq : m - 1 < L.length, cbLe p (L[m - 1]'hq) c) ∧
        Fc.l2 (K + j + 1) l L (L.map p) (i : Int) c (j : Int) (p c) = Fc.l0 K' l (L.take m ++ c :: L.drop m) ((L.take m ++ c :: L.drop m).map p) ((i + 1 : Nat) : Int)
  | 0, K, hj, h1 => by
    refine ⟨0, K, Nat.zero_le _, Nat.le_refl _, h1, fun h => absurd h (by omega), ?_⟩
    have w1 : wrap64 ((i : Int) + 1) = ((i + 1 : Nat) : Int) := by rw [w64 (by omega) (by omega)]; push_cast; rfl
    simp only [Fc.l2, Option.bind_some, Nat.add_zero, w1, Int.toNat_natCast, List.nil_append, List.length_nil, List.length_append, List.length_take, List.length_drop, List.length_cons, List.length_map]
    rw [if_neg (by omega)]
    simp only [show (0 : Int) ≤ ((0 : Nat) : Int) by omega, show ((0 : Nat) : Int) ≤ (L.length : Int) by omega, if_true]
    repeat rw [if_pos (by omega)]
    simp
  | j + 1, K, hj, h1 => by
    have hlt : j < L.length := by omega
    have w1 : wrap64 ((i : Int) + 1) = ((i + 1 : Nat) : Int) := by rw [w64 (by omega) (by omega)]; push_cast; rfl
    have w2 : wrap64 (((j + 1 : Nat) : Int) - 1) = (j : Int) := by rw [w64 (by omega) (by omega)]; push_cast; omega
    have e1 : rd (L.map p) (j : Int) = p L[j] := by rw [rd_nat, List.getD_eq_getElem?_getD, List.getElem?_map, List.getElem?_eq_getElem hlt]; rfl
    have e2 : rdOf ByteArray.empty L (j : Int) = L[j] := by simp [rdOf, List.getElem?_eq_getElem hlt]
    have stop : cbLe p L[j] c → (∀ q, j + 1 ≤ q → (hq : q < L.length) → cbLe p c L[q]) ∧ (∀ h : 0 < j + 1, ∃ hq : j + 1 - 1 < L.length, cbLe p (L[j + 1 - 1]'hq) c) := fun h => ⟨h1, fun _ => ⟨hlt, h⟩⟩
    have go : cbLe p c L[j] → ∀ q, j ≤ q → (hq : q < L.length) → cbLe p c L[q] := fun h q h2 hq => by
      rcases Nat.lt_or_ge j q with h3 | h3
      · exact h1 q h3 hq
      · obtain rfl : q = j := by omega
        exact h
    have a1 : ((j + 1 : Nat) : Int) > 0 := by omega
    have a2 : (0 : Int) ≤ (j : Int) := by omega
    have a3 : (j : Int) < ((L.map p).length : Int) := by rw [List.length_map]; omega
    have a4 : (j : Int) < (L.length : Int) := by omega
    have a5 : (0 : Int) ≤ ((j + 1 : Nat) : Int) := by omega
    have a6 : ((j + 1 : Nat) : Int) ≤ (L.length : Int) := by omega
    by_cases g1 : p L[j] < p c
    · obtain ⟨m, K', hm, hK, h2, h3, h4⟩ := clients_l2 hL hi j K (by omega) (go (.inl g1))
      refine ⟨m, K', hm, hK, h2, h3, ?_⟩
      rw [← h4, show K + (j + 1) + 1 = (K + j + 1) + 1 by omega]
      conv => lhs; rw [Fc.l2]
      simp only [w2, e1, a1, a2, a3, g1, if_true]
    · by_cases g2 : p L[j] = p c
      · by_cases g3 : Op.bytesLess c.toList L[j].toList = true
        · obtain ⟨m, K', hm, hK, h2, h3, h4⟩ := clients_l2 hL hi j K (by omega) (go (.inr ⟨g2.symm, cbL_asymm g3⟩))
          refine ⟨m, K', hm, hK, h2, h3, ?_⟩
          rw [← h4, show K + (j + 1) + 1 = (K + j + 1) + 1 by omega]
          conv => lhs; rw [Fc.l2]
          simp only [w2, e1, e2, a1, a2, a3, a4, g2, g3, if_true, Int.lt_irrefl, if_false]
        · obtain ⟨h2, h3⟩ := stop (.inr ⟨g2, by simpa using g3⟩)
          refine ⟨j + 1, K + j + 1, hj, by omega, h2, h3, ?_⟩
          rw [show K + (j + 1) + 1 = (K + j + 1) + 1 by omega]
          conv => lhs; rw [Fc.l2]
          simp only [w2, e1, e2, a1, a2, a3, a4, g2, g3, if_true, Int.lt_irrefl, if_false, Bool.false_eq_true, Option.bind_some, w1, Int.toNat_natCast, List.nil_append, List.length_nil, List.length_append, List.length_take, List.length_drop, List.length_cons, List.length_map, a5, a6]
          repeat rw [if_pos (by omega)]
          simp [List.map_take, List.map_drop]
      · obtain ⟨h2, h3⟩ := stop (.inl (by omega))
        refine ⟨j + 1, K + j + 1, hj, by omega, h2, h3, ?_⟩
        rw [show K + (j + 1) + 1 = (K + j + 1) + 1 by omega]
        conv => lhs; rw [Fc.l2]
        simp only [w2, e1, e2, a1, a2, a3, a4, g1, g2, if_true, if_false, Option.bind_some, w1, Int.toNat_natCast, List.nil_append, List.length_nil, List.length_append, List.length_take, List.length_drop, List.length_cons, List.length_map, a5, a6]
        repeat rw [if_pos (by omega)]
        simp [List.map_take, List.map_drop]
/-- was the client met before? -/
theorem clients_l1 {l : List S34} {L : List ByteArray} {S : List Int} {c : ByteArray} {i K : Nat} (hi : i ≤ l.length) (hl : l.length ≤ 1000) :
    ∀ (n j : Nat) (b : Bool), j + n = i → (b = true ↔ ∃ q, q < j ∧ (l.getD q z34).f1 = c) →
      Fc.l1 (K + n + 1) l L S (i : Int) c b (j : Int) = if (∃ q, q < i ∧ (l.getD q z34).f1 = c) then Fc.l0 K l L S ((i + 1 : Nat) : Int) else (Fah.f K l c).bind fun t => Fc.l2 K l L S (i : Int) c (L.length : Int) t := by
  intro n
  induction n with
  | zero =>
    intro j b hj hb
    obtain rfl : j = i := by omega
    have w1 : wrap64 ((j : Int) + 1) = ((j + 1 : Nat) : Int) := by rw [w64 (by omega) (by omega)]; push_cast; rfl
    conv => lhs; rw [Fc.l1]
    rw [if_neg (by omega), w1]
    cases b
    · rw [if_neg (by decide), if_neg (fun h => absurd (hb.mpr h) (by decide))]
    · rw [if_pos rfl, if_pos (hb.mp rfl)]
  | succ n ih =>
    intro j b hj hb
    have w1 : wrap64 ((j : Int) + 1) = ((j + 1 : Nat) : Int) := by rw [w64 (by omega) (by omega)]; push_cast; rfl
    rw [show K + (n + 1) + 1 = (K + n + 1) + 1 by omega]
    conv => lhs; rw [Fc.l1]
    rw [if_pos (by omega), w1]
    cases b
    · rw [if_neg (by decide), if_pos (by omega), if_pos (by omega), rdIOrder_nat]
      refine ih (j + 1) _ (by omega) ?_
      rw [beq_iff_eq, cbEq_iff]
      constructor
      · intro h; exact ⟨j, by omega, h⟩
      · rintro ⟨q, hq, e⟩
        rcases Nat.lt_or_ge q j with h2 | h2
        · exact absurd (hb.mpr ⟨q, h2, e⟩) (by decide)
        · obtain rfl : q = j := by omega
          exact e
    · rw [if_pos rfl]
      refine ih (j + 1) _ (by omega) ?_
      obtain ⟨q, hq, e⟩ := hb.mp rfl
      exact ⟨fun _ => ⟨q, by omega, e⟩, fun _ => rfl⟩
theorem cbFirst_len (l : List S34) : (cbFirst l).length ≤ l.length := by
  unfold cbFirst
  suffices h : ∀ (l : List S34) acc, (l.foldl (fun acc o => if o.f1 ∈ acc then acc else acc ++ [o.f1]) acc).length ≤ acc.length + l.length by simpa using h l []
  intro l
  induction l with
  | nil => intro acc; simp
  | cons o l ih =>
    intro acc
    rw [List.foldl_cons, List.length_cons]
    have := ih (if o.f1 ∈ acc then acc else acc ++ [o.f1])
    by_cases g : o.f1 ∈ acc
    · rw [if_pos g] at this ⊢; omega
    · rw [if_neg g] at this ⊢; rw [List.length_append, List.length_singleton] at this; omega
/-- all orders -/
theorem clients_l0 {l : List S34} (h : ordersB l = true) :
    ∀ (n i K : Nat) (L : List ByteArray), i + n = l.length → 64 * n + 64 ≤ K → L.Perm (cbFirst (l.take i)) → L.Pairwise (cbLe (cbP l)) →
      ∃ L', L'.Perm (cbFirst l) ∧ L'.Pairwise (cbLe (cbP l)) ∧ Fc.l0 K l L (L.map (cbP l)) (i : Int) = some (L', L'.map (cbP l), true) := by
  obtain ⟨h10, hx⟩ := orders_of h
  intro n
  induction n with
  | zero =>
    intro i K L hi hK hp hs
    obtain rfl : i = l.length := by omega
    rw [List.take_length] at hp
    refine ⟨L, hp, hs, ?_⟩
    obtain ⟨K, rfl, _⟩ := succ_of (show 0 < K by omega)
    rw [Fc.l0, if_neg (by omega)]
  | succ n ih =>
    intro i K L hi hK hp hs
    have hlt : i < l.length := by omega
    have hLl : L.length ≤ 10 := by
      have h1 := hp.length_eq
      have h2 := cbFirst_len (l.take i)
      rw [List.length_take] at h2
      omega
    have hgd : ∀ q, (hq : q < l.length) → l.getD q z34 = l[q] := fun q hq => by rw [List.getD_eq_getElem?_getD, List.getElem?_eq_getElem hq, Option.getD_some]
    have hget : l[i]? = some (l.getD i z34) := by rw [hgd i hlt, List.getElem?_eq_getElem hlt]
    have hf := cbFirst_take hget
    have hmem : (l.getD i z34).f1 ∈ cbFirst (l.take i) ↔ ∃ q, q < i ∧ (l.getD q z34).f1 = (l.getD i z34).f1 := by
      rw [cbFirst_mem]
      generalize (l.getD i z34).f1 = c
      constructor
      · rintro ⟨o, ho, e⟩
        obtain ⟨q, hq, rfl⟩ := List.mem_iff_getElem.mp ho
        rw [List.length_take] at hq
        rw [List.getElem_take] at e
        exact ⟨q, by omega, by rw [hgd q (by omega)]; exact e⟩
      · rintro ⟨q, hq, e⟩
        rw [hgd q (by omega)] at e
        exact ⟨l[q], List.mem_iff_getElem.mpr ⟨q, by rw [List.length_take]; omega, List.getElem_take⟩, e⟩
    obtain ⟨K1, rfl⟩ : ∃ K1, K = (K1 + i + 1) + 1 := ⟨K - i - 2, by omega⟩
    have hK1 : 64 * n + 64 + 40 ≤ K1 := by have := hK; have := hi; clear hK hi hget hf hmem hgd hp hs ih; omega
    rw [Fc.l0, if_pos (by omega), if_pos (by omega), rdIOrder_nat]
    have e1 := clients_l1 (l := l) (L := L) (S := L.map (cbP l)) (c := (l.getD i z34).f1) (i := i) (K := K1) (by omega) (by omega) i 0 false (by omega) ⟨fun h => absurd h (by decide), fun ⟨q, hq, _⟩ => absurd hq (by omega)⟩
    rw [show ((0 : Nat) : Int) = 0 from rfl] at e1
    rw [e1]
    by_cases g : (l.getD i z34).f1 ∈ cbFirst (l.take i)
    · rw [if_pos (hmem.mp g)]
      rw [if_pos g] at hf
      exact ih (i + 1) K1 L (by clear hK; omega) (Nat.le_trans (Nat.le_add_right _ _) hK1) (by rw [hf]; exact hp) hs
    · rw [if_neg (fun e => g (hmem.mpr e)), paidS_eq (k := K1) (l := l) (c := (l.getD i z34).f1) (by omega) h, Option.bind_some]
      rw [if_neg g] at hf
      obtain ⟨K2, rfl⟩ : ∃ K2, K1 = K2 + L.length + 1 := ⟨K1 - L.length - 1, by clear hK; omega⟩
      have hK2 : 64 * n + 64 ≤ K2 := by clear hK; omega
      obtain ⟨m, K', hm, hK', h2, h3, h4⟩ := clients_l2 (l := l) (L := L) (p := cbP l) (c := (l.getD i z34).f1) (i := i) (by omega) (by omega) L.length K2 (Nat.le_refl _) (fun q h1 hq => absurd hq (by omega))
      rw [h4]
      refine ih (i + 1) K' _ (by clear hK hK1; omega) (Nat.le_trans hK2 hK') ?_ ?_
      · rw [hf]
        refine (cbIns_perm L _ m).trans ?_
        refine ((hp.cons _).trans ?_)
        exact (List.perm_append_singleton _ _).symm
      · exact cbIns_le hs hm h2 (fun h => (h3 h).2)
def clientsM (l : List S34) : List ByteArray × List Int × Bool := if ordersB l then (CbSorted (CbRun l).1 (CbRun l).2, (CbSorted (CbRun l).1 (CbRun l).2).map (CbAt (CbRun l).1), true) else ([], [], false)
theorem clients_run {l : List S34} (h : ordersB l = true) : CbAt (CbRun l).1 = cbP l ∧ (CbRun l).2 = cbFirst l := by
  obtain ⟨h10, hx⟩ := orders_of h
  obtain ⟨h1, h2⟩ := CbRun_eq (l := l) (B := 10000000) (by omega) (fun o ho => by have := order_of (hx o ho); omega) (by omega)
  exact ⟨funext h1, h2⟩
theorem clients_word {s : ByteArray} (h : wordB s = true) : s.size ≤ 10 := by
  simp only [wordB, Bool.and_eq_true, decide_eq_true_eq] at h
  exact h.1.2
theorem clientsI_eq {k : Nat} {l : List S34} (hk : l.length + 1 < k) (hs : l.length ≤ 1048576) : Fv.f k l = some (clientsM l) := by
  simp only [Fv.f, ordersI_eq (k := k) (l := l) hk hs, Option.bind_some, clientsM]
  cases hb : ordersB l
  · simp
  · obtain ⟨h10, hx⟩ := orders_of hb
    have ho : CbOk l := ⟨by omega, fun o ho => by have := clients_word (order_of (hx o ho)).2.1; omega⟩
    simp only [if_true, if_pos ho]
theorem clientsS_eq {k : Nat} {l : List S34} (hk : l.length + 1048577 < k) (hs : sizesOk l) : Fc.f k l = some (clientsM l) := by
  simp only [Fc.f, Option.bind_some, ordersS_eq (k := k) (l := l) hk hs, clientsM]
  cases hb : ordersB l
  · simp
  · obtain ⟨h10, hx⟩ := orders_of hb
    obtain ⟨h1, h2⟩ := clients_run hb
    obtain ⟨L', hp, hl, e⟩ := clients_l0 hb l.length 0 k [] (by omega) (by omega) (by simp [cbFirst]) List.Pairwise.nil
    have hu := CbSorted_uniq (D := (CbRun l).1) (acc := (CbRun l).2) (L := L') (fun s hs => by
      rw [h2, cbFirst_mem] at hs
      obtain ⟨o, ho, rfl⟩ := hs
      have := clients_word (order_of (hx o ho)).2.1
      unfold maxLen; omega) (by rw [h1]; exact hl) (by rw [h2]; exact hp)
    rw [if_pos rfl, if_pos rfl, hu, h1]
    exact e
theorem clientsM_len (l : List S34) : (clientsM l).1.length ≤ 10 ∧ (clientsM l).2.1.length = (clientsM l).1.length := by
  unfold clientsM
  cases hb : ordersB l
  · simp
  · obtain ⟨h10, hx⟩ := orders_of hb
    have h2 := (clients_run hb).2
    have := cbFirst_len l
    simp only [if_true, List.length_map, CbSorted_len, h2]
    exact ⟨by omega, trivial⟩
end Go.Proofs.YtahfahlbdgbfeaaGreatDoor.Pure

namespace Go.Proofs.YtahfahlbdgbfeaaGreatDoor.Pure
open Go Go.RowKit Go.Proofs Go.Proofs.YtahfahlbdgbfeaaGreatDoorW.PrintWords Go.Proofs.YtahfahlbdgbfeaaGreatDoorW.PrintLast
set_option linter.unusedVariables false
set_option linter.unusedSimpArgs false
theorem rdOf_nat {α : Type} (d : α) (l : List α) (i : Nat) : rdOf d l (i : Int) = l.getD i d := by simp [rdOf]
end Go.Proofs.YtahfahlbdgbfeaaGreatDoor.Pure

namespace Go.Proofs.YtahfahlbdgbfeaaGreatDoor.Pure
open Go Go.RowKit Go.Proofs Go.Proofs.YtahfahlbdgbfeaaGreatDoor.X Go.Proofs.YtahfahlbdgbfeaaGreatDoorW.PrintWords Go.Proofs.YtahfahlbdgbfeaaGreatDoorW.PrintLast
set_option linter.unusedVariables false
set_option linter.unusedSimpArgs false
theorem rTexts_refl {k : Nat} {l : List ByteArray} (hk : l.length < k) (hl : l.length ≤ 1048576) : Fab.f k l l = some true := by
  unfold Fab.f
  rw [if_pos rfl]
  exact refl_loop Fab.l0 l (by omega)
    (fun k i h => by simp only [Fab.l0]; rw [if_pos (by omega), if_pos (by omega), if_pos (by omega)]; simp)
    (fun k i h => by simp only [Fab.l0]; rw [if_neg (by omega)])
    l.length k 0 (by omega) hk
theorem rSum_eq {k : Nat} {l : List Int} (hk : l.length < k) (hl : l.length ≤ 1000) (hb : ∀ x ∈ l, 0 ≤ x ∧ x ≤ 1000000000) : Fak.f k l = some l.sum := by
  unfold Fak.f
  have := sum_loop (fun k a i => Fak.l0 k l a i) (fun x : Int => x) (fun a => some a) 0 1000000000 l (by omega) hb
    (fun k acc i h1 h2 h3 => by
      have hm := hb (l.getD i 0) (by rw [List.getD_eq_getElem?_getD, List.getElem?_eq_getElem h1]; exact List.getElem_mem h1)
      simp only [Fak.l0, rd_nat]
      rw [if_pos (by omega), if_pos (by omega), w64 (x := acc + _) (by omega) (by omega)])
    (fun k acc i h1 => by simp only [Fak.l0]; rw [if_neg (by omega)])
    l.length k 0 0 (by omega) (by omega) (by omega) (by omega)
  simpa using this
theorem rHasText_loop {l : List ByteArray} {c : ByteArray} (hl : l.length ≤ 1000) : ∀ (n k i : Nat), i + n = l.length → n < k → c ∈ l.drop i → Fy.l0 k l c (i : Int) = some true := by
  intro n
  induction n with
  | zero => intro k i hi hk hc; rw [List.drop_eq_nil_of_le (by omega)] at hc; cases hc
  | succ n ih =>
    intro k i hi hk hc
    obtain ⟨k, rfl, _⟩ := succ_of (show 0 < k by omega)
    have hlt : i < l.length := by omega
    rw [Fy.l0, if_pos (by omega), if_pos (by omega), rdOf_nat]
    by_cases g : (l.getD i ByteArray.empty).toList = c.toList
    · rw [if_pos g]
    · rw [if_neg g, w64 (x := (i : Int) + 1) (by omega) (by omega)]
      refine ih k (i + 1) (by omega) (by omega) ?_
      rw [List.drop_eq_getElem_cons hlt] at hc
      rcases List.mem_cons.mp hc with h | h
      · rw [List.getD_eq_getElem?_getD, List.getElem?_eq_getElem hlt, Option.getD_some, ← h] at g
        exact absurd rfl g
      · exact h
theorem rHasText_eq {k : Nat} {l : List ByteArray} {c : ByteArray} (hk : l.length < k) (hl : l.length ≤ 1000) (hc : c ∈ l) : Fy.f k l c = some true := rHasText_loop hl l.length k 0 (by omega) hk hc
theorem perm_sum {l l' : List Int} (h : l.Perm l') : l.sum = l'.sum := by
  induction h with
  | nil => rfl
  | cons x _ ih => simp only [List.sum_cons, ih]
  | swap x y l => simp only [List.sum_cons]; omega
  | trans _ _ h1 h2 => exact h1.trans h2
theorem sum_add {α : Type} (F : List α) (g h : α → Int) : (F.map fun c => g c + h c).sum = (F.map g).sum + (F.map h).sum := by
  induction F with
  | nil => rfl
  | cons x F ih => simp only [List.map_cons, List.sum_cons, ih]; omega
theorem sum_zero {α : Type} (F : List α) : (F.map fun _ => (0 : Int)).sum = 0 := by
  induction F with
  | nil => rfl
  | cons x F ih => simp only [List.map_cons, List.sum_cons, ih]; omega
theorem sum_one {F : List ByteArray} {a : ByteArray} {v : Int} (hn : F.Nodup) (ha : a ∈ F) : (F.map fun c => if a = c then v else 0).sum = v := by
  induction F with
  | nil => cases ha
  | cons x F ih =>
    rw [List.nodup_cons] at hn
    rw [List.map_cons, List.sum_cons]
    by_cases g : a = x
    · subst g
      have : (F.map fun c => if a = c then v else 0) = F.map fun _ => (0 : Int) := List.map_congr_left fun c hc => if_neg (fun e : a = c => hn.1 (e.symm ▸ hc))
      rw [if_pos rfl, this, sum_zero]; omega
    · rw [if_neg g, ih hn.2 ((List.mem_cons.mp ha).resolve_left g)]; omega
theorem cbP_sum {F : List ByteArray} (hn : F.Nodup) : ∀ (l : List S34), (∀ o ∈ l, o.f1 ∈ F) → (F.map (cbP l)).sum = (l.map fun o => o.f6).sum
  | [], _ => by
    have : F.map (cbP []) = F.map fun _ => (0 : Int) := List.map_congr_left fun c _ => rfl
    rw [this, sum_zero]; rfl
  | o :: l, h => by
    have e : F.map (cbP (o :: l)) = F.map fun c => (if o.f1 = c then o.f6 else 0) + cbP l c := List.map_congr_left fun c _ => by simp only [cbP, List.map_cons, List.sum_cons]
    rw [e, sum_add, sum_one hn (h o List.mem_cons_self), cbP_sum hn l (fun x hx => h x (List.mem_cons_of_mem _ hx)), List.map_cons, List.sum_cons]
theorem cbFirst_nodup (l : List S34) : (cbFirst l).Nodup := by
  unfold cbFirst
  suffices h : ∀ (l : List S34) (acc : List ByteArray), acc.Nodup → (l.foldl (fun acc o => if o.f1 ∈ acc then acc else acc ++ [o.f1]) acc).Nodup from h l [] List.nodup_nil
  intro l
  induction l with
  | nil => intro acc h; exact h
  | cons o l ih =>
    intro acc h
    rw [List.foldl_cons]
    refine ih _ ?_
    by_cases g : o.f1 ∈ acc
    · rw [if_pos g]; exact h
    · rw [if_neg g]
      refine List.nodup_append.mpr ⟨h, by simp, fun a ha b hb => ?_⟩
      rw [List.mem_singleton] at hb
      subst hb
      exact fun e => g (e ▸ ha)
/-- the clients' sums are all that was paid; and everybody is a client -/
theorem clientsM_facts {l : List S34} (h : ordersB l = true) : (clientsM l).2.2 = true ∧ (clientsM l).2.1.sum = (l.map fun o => o.f6).sum ∧ (∀ o ∈ l, o.f1 ∈ (clientsM l).1) ∧ (∀ x ∈ (clientsM l).2.1, 0 ≤ x ∧ x ≤ 1000000000) := by
  obtain ⟨h10, hx⟩ := orders_of h
  obtain ⟨h1, h2⟩ := clients_run h
  have hp := CbSorted_perm (CbRun l).1 (CbRun l).2 (fun s hs => by
      rw [h2, cbFirst_mem] at hs
      obtain ⟨o, ho, rfl⟩ := hs
      have := clients_word (order_of (hx o ho)).2.1
      unfold maxLen; omega)
  have hb : ∀ (l : List S34) c, (∀ o ∈ l, 0 ≤ o.f6 ∧ o.f6 ≤ 10000000) → 0 ≤ cbP l c ∧ cbP l c ≤ 10000000 * (l.length : Int) := by
    intro l c
    induction l with
    | nil => intro _; simp [cbP]
    | cons o l ih =>
      intro ho
      have h3 := ih (fun x hx => ho x (List.mem_cons_of_mem _ hx))
      have h4 := ho o List.mem_cons_self
      have e : cbP (o :: l) c = (if o.f1 = c then o.f6 else 0) + cbP l c := by simp only [cbP, List.map_cons, List.sum_cons]
      rw [e, List.length_cons]
      split <;> omega
  have hc : clientsM l = (CbSorted (CbRun l).1 (CbRun l).2, (CbSorted (CbRun l).1 (CbRun l).2).map (CbAt (CbRun l).1), true) := by unfold clientsM; rw [if_pos h]
  rw [hc]
  refine ⟨rfl, ?_, fun o ho => ?_, fun x hx2 => ?_⟩
  · show ((CbSorted (CbRun l).1 (CbRun l).2).map (CbAt (CbRun l).1)).sum = _
    rw [perm_sum (hp.map (CbAt (CbRun l).1)), h1, h2]
    exact cbP_sum (cbFirst_nodup l) l (fun o ho => (cbFirst_mem _).mpr ⟨o, ho, rfl⟩)
  · show o.f1 ∈ CbSorted (CbRun l).1 (CbRun l).2
    rw [hp.mem_iff, h2]
    exact (cbFirst_mem _).mpr ⟨o, ho, rfl⟩
  · obtain ⟨c, _, rfl⟩ := List.mem_map.mp hx2
    rw [h1]
    have := hb l c (fun o ho => by have := order_of (hx o ho); omega)
    omega
theorem clientsM_ok (l : List S34) : (clientsM l).2.2 = ordersB l := by
  unfold clientsM
  cases ordersB l <;> rfl
/-- orders at stages are all orders -/
theorem stage_sum : ∀ (L : List S34), (∀ x ∈ L, 0 ≤ x.f4 ∧ x.f4 ≤ 5) → (L.filter (stageQ 0)).length + ((L.filter (stageQ 1)).length + ((L.filter (stageQ 2)).length + ((L.filter (stageQ 3)).length + ((L.filter (stageQ 4)).length + (L.filter (stageQ 5)).length)))) = L.length
  | [], _ => rfl
  | x :: L, h => by
    have ih := stage_sum L (fun y hy => h y (List.mem_cons_of_mem _ hy))
    have hx := h x List.mem_cons_self
    have : x.f4 = 0 ∨ x.f4 = 1 ∨ x.f4 = 2 ∨ x.f4 = 3 ∨ x.f4 = 4 ∨ x.f4 = 5 := by omega
    have hq : ∀ s : Int, ((x :: L).filter (stageQ s)).length = (L.filter (stageQ s)).length + if x.f4 = s then 1 else 0 := fun s => by
      rw [List.filter_cons]
      unfold stageQ
      by_cases g : x.f4 = s
      · rw [if_pos (decide_eq_true g), if_pos g, List.length_cons]
      · rw [if_neg (by rw [decide_eq_false g]; decide), if_neg g]; rfl
    rw [hq, hq, hq, hq, hq, hq, List.length_cons]
    rcases this with e | e | e | e | e | e <;> simp only [e] <;> simp <;> omega
theorem atM_ok {l : List S34} {s : Int} (h : 0 ≤ s ∧ s ≤ 5) : (atM l s).2 = ordersB l := by
  unfold atM
  rw [decide_eq_true h, Bool.and_true]
  cases ordersB l <;> rfl
theorem atM_cnt {l : List S34} {s : Int} (h : 0 ≤ s ∧ s ≤ 5) (ho : ordersB l = true) : (atM l s).1.length = ((isortB ltD [] l).filter (stageQ s)).length := by
  unfold atM
  rw [decide_eq_true h, ho, Bool.and_self, if_pos rfl, List.length_map]
theorem atM_all {l : List S34} (ho : ordersB l = true) : (atM l 0).1.length + ((atM l 1).1.length + ((atM l 2).1.length + ((atM l 3).1.length + ((atM l 4).1.length + (atM l 5).1.length)))) = l.length := by
  obtain ⟨h10, hx⟩ := orders_of ho
  have hp := isortB_perm ltD l []
  rw [List.nil_append] at hp
  rw [atM_cnt (by omega) ho, atM_cnt (by omega) ho, atM_cnt (by omega) ho, atM_cnt (by omega) ho, atM_cnt (by omega) ho, atM_cnt (by omega) ho, stage_sum _ (fun x hx2 => by
    have := order_of (hx x (hp.mem_iff.mp hx2))
    omega)]
  exact isortD_len l
/-- a code that is drawn from: bytes, and not too many -/
def curOk (s : List Int) : Prop := s.length ≤ 65536 ∧ ∀ y ∈ s, 0 ≤ y ∧ y ≤ 255
theorem wf8 {x : Int} (h : (Lit.int .u8 x).wf = true) : 0 ≤ x ∧ x ≤ 255 := by
  have h1 := h
  simp [Lit.wf] at h1
  have h2 := h1.1; have h3 := h1.2
  constructor
  · exact h2
  · exact h3
theorem and255 (n : Int) : 0 ≤ wrap64 (Go.bits .and .u64 (IntKind.u64.wrap n / 1099511627776) 255) ∧ wrap64 (Go.bits .and .u64 (IntKind.u64.wrap n / 1099511627776) 255) ≤ 255 := by
  have hw : IntKind.u64.wrap n = n % 18446744073709551616 := by simp [IntKind.wrap, IntKind.bits, IntKind.signed]
  have h32 : (2 : Int) ^ 32 = 4294967296 := by decide
  have h := bits_mask .u64 32 (by decide) (fun n h0 h1 => by simp [IntKind.wrap, IntKind.bits, IntKind.signed]; omega) 8 (by decide) (IntKind.u64.wrap n / 1099511627776) (by rw [hw]; omega) (by rw [hw]; omega)
  rw [show ((2 : Int) ^ 8 - 1) = 255 by decide, show ((2 : Int) ^ 8) = 256 by decide] at h
  rw [h, w64 (by omega) (by omega)]
  omega
theorem next_ex {s : List Int} {p : Int} (h : Int) (hs : curOk s) (hp : 0 ≤ p ∧ p ≤ 1000000000) : ∃ a h', Faz.f s p h = some (a, p + 1, h') ∧ 0 ≤ a ∧ a ≤ 255 := by
  have hw : wrap64 (p + 1) = p + 1 := w64 (by omega) (by omega)
  simp only [Faz.f, hw]
  by_cases g : p < s.length
  · rw [if_pos g, if_pos hp.1, if_pos (by omega)]
    refine ⟨_, _, rfl, ?_⟩
    obtain ⟨n, rfl⟩ := nat_of hp.1
    have hm : s.getD n 0 ∈ s := by rw [List.getD_eq_getElem?_getD, List.getElem?_eq_getElem (by omega)]; exact List.getElem_mem (by omega)
    have := hs.2 _ hm
    rw [rd_nat, w64 (by omega) (by omega)]
    exact this
  · rw [if_neg g, if_neg (by omega)]
    exact ⟨_, _, rfl, and255 _⟩
theorem pick_ex {s : List Int} {p n : Int} (h : Int) (hs : curOk s) (hp : 0 ≤ p ∧ p ≤ 1000000) (hn : n ≤ 50000) : ∃ a p' h', Ft.f s p h n = some (a, p', h') ∧ (p ≤ p' ∧ p' ≤ p + 2) ∧ 0 ≤ a ∧ (1 ≤ n → a < n) := by
  unfold Ft.f
  by_cases g : n ≤ 1
  · rw [if_pos g]; exact ⟨_, _, _, rfl, by omega, by omega, by omega⟩
  rw [if_neg g]
  obtain ⟨a, h1, e1, b1⟩ := next_ex h hs (p := p) (by omega)
  rw [e1]
  simp only [Option.bind_some]
  by_cases g2 : n > 200
  · rw [if_pos g2]
    obtain ⟨b, h2, e2, b2⟩ := next_ex h1 hs (p := p + 1) (by omega)
    rw [e2]
    simp only [Option.bind_some]
    rw [if_neg (by omega), w64 (x := a * 256) (by omega) (by omega), w64 (x := a * 256 + b) (by omega) (by omega)]
    exact ⟨_, _, _, rfl, by omega, Int.tmod_nonneg _ (by omega), fun _ => Int.tmod_lt_of_pos _ (by omega)⟩
  · rw [if_neg g2, if_neg (by omega)]
    exact ⟨_, _, _, rfl, by omega, Int.tmod_nonneg _ (by omega), fun _ => Int.tmod_lt_of_pos _ (by omega)⟩
theorem one_ex {s : List Int} {p n : Int} (h : Int) (hs : curOk s) (hp : 0 ≤ p ∧ p ≤ 1000000) (hn : n ≤ 50000) : ∃ b p' h', Fbo.f s p h n = some (b, p', h') ∧ (p ≤ p' ∧ p' ≤ p + 2) := by
  obtain ⟨a, p1, h1, e1, b1, _⟩ := pick_ex h hs hp hn
  simp only [Fbo.f, e1, Option.bind_some]
  exact ⟨_, _, _, rfl, b1⟩
theorem among_ex {s : List Int} {p : Int} (h : Int) (xs : List Int) (hs : curOk s) (hp : 0 ≤ p ∧ p ≤ 1000000) (hx : 1 ≤ xs.length ∧ xs.length ≤ 50000) : ∃ v p' h', Fe.f s p h xs = some (v, p', h') ∧ (p ≤ p' ∧ p' ≤ p + 2) ∧ v ∈ xs := by
  obtain ⟨a, p1, h1, e1, b1, b2, b3⟩ := pick_ex (n := (xs.length : Int)) h hs hp (by omega)
  have b4 := b3 (by omega)
  simp only [Fe.f, e1, Option.bind_some]
  rw [if_pos b2, if_pos b4]
  refine ⟨_, _, _, rfl, b1, ?_⟩
  obtain ⟨n, rfl⟩ := nat_of b2
  rw [rd_nat, List.getD_eq_getElem?_getD, List.getElem?_eq_getElem (by omega)]
  exact List.getElem_mem (by omega)
theorem of_ex {s : List Int} {p : Int} (h : Int) (xs : List ByteArray) (hs : curOk s) (hp : 0 ≤ p ∧ p ≤ 1000000) (hx : 1 ≤ xs.length ∧ xs.length ≤ 50000) : ∃ v p' h', Fao.f s p h xs = some (v, p', h') ∧ (p ≤ p' ∧ p' ≤ p + 2) ∧ v ∈ xs := by
  obtain ⟨a, p1, h1, e1, b1, b2, b3⟩ := pick_ex (n := (xs.length : Int)) h hs hp (by omega)
  have b4 := b3 (by omega)
  simp only [Fao.f, e1, Option.bind_some]
  rw [if_pos b2, if_pos b4]
  refine ⟨_, _, _, rfl, b1, ?_⟩
  obtain ⟨n, rfl⟩ := nat_of b2
  rw [rdOf_nat, List.getD_eq_getElem?_getD, List.getElem?_eq_getElem (by omega)]
  exact List.getElem_mem (by omega)
theorem names_small {v : ByteArray} (h : v ∈ [(⟨#[97, 110, 110, 97]⟩ : ByteArray), (⟨#[98, 114, 117, 110, 111]⟩ : ByteArray), (⟨#[97, 110, 110, 97]⟩ : ByteArray), (⟨#[99, 108, 101, 111]⟩ : ByteArray)]) : v.size ≤ 20 := by
  simp only [List.mem_cons, List.not_mem_nil, or_false] at h
  rcases h with rfl | rfl | rfl | rfl <;> decide
theorem names_bad {v : ByteArray} (h : v ∈ [(⟨#[]⟩ : ByteArray), (⟨#[65]⟩ : ByteArray), (⟨#[97, 98, 99, 100, 101, 102, 103, 104, 105, 106, 107]⟩ : ByteArray)]) : v.size ≤ 20 := by
  simp only [List.mem_cons, List.not_mem_nil, or_false] at h
  rcases h with rfl | rfl | rfl <;> decide
theorem carpetOrder_ex {s : List Int} {p : Int} (h id : Int) (hs : curOk s) (hp : 0 ≤ p ∧ p ≤ 900000) : ∃ a b c d e f g i p' h', Fat.f s p h id = some (a, b, c, d, e, f, g, i, p', h') ∧ (p ≤ p' ∧ p' ≤ p + 20) ∧ b.size ≤ 20 := by
  obtain ⟨v1, p1, h1, e1, b1, m1⟩ := of_ex h [(⟨#[97, 110, 110, 97]⟩ : ByteArray), (⟨#[98, 114, 117, 110, 111]⟩ : ByteArray), (⟨#[97, 110, 110, 97]⟩ : ByteArray), (⟨#[99, 108, 101, 111]⟩ : ByteArray)] hs (p := p) (by omega) (by simp)
  have m1 := names_small m1
  obtain ⟨v2, p2, h2, e2, b2, _⟩ := among_ex h1 [30, 120, 600] hs (p := p1) (by omega) (by simp)
  obtain ⟨v3, p3, h3, e3, b3, _⟩ := among_ex h2 [30, 180, 600] hs (p := p2) (by omega) (by simp)
  obtain ⟨v4, p4, h4, e4, b4, _⟩ := among_ex h3 [0, 0, 1, 1, 2, 3, 3, 4, 5] hs (p := p3) (by omega) (by simp)
  obtain ⟨v5, p5, h5, e5, b5, _⟩ := among_ex h4 [0, 300, 90000, 10000000] hs (p := p4) (by omega) (by simp)
  obtain ⟨v6, p6, h6, e6, b6, _⟩ := among_ex h5 [0, 10, 10, 50, 4000] hs (p := p5) (by omega) (by simp)
  obtain ⟨v7, p7, h7, e7, b7, _⟩ := among_ex h6 [0, wrap64 (Int.tdiv v5 3), wrap64 (Int.tdiv v5 3), wrap64 (Int.tdiv v5 2), v5, v5] hs (p := p6) (by omega) (by simp)
  obtain ⟨v8, p8, h8, e8, b8, _⟩ := pick_ex h7 hs (p := p7) (n := 80) (by omega) (by omega)
  obtain ⟨w0, q0, g0, f0, c0, _⟩ := among_ex h8 [0, 999, 1000] hs (p := p8) (by omega) (by simp)
  obtain ⟨w1, q1, g1, f1, c1, n1⟩ := of_ex h8 [(⟨#[]⟩ : ByteArray), (⟨#[65]⟩ : ByteArray), (⟨#[97, 98, 99, 100, 101, 102, 103, 104, 105, 106, 107]⟩ : ByteArray)] hs (p := p8) (by omega) (by simp)
  have n1 := names_bad n1
  obtain ⟨w2, q2, g2, f2, c2, _⟩ := among_ex h8 [29, 601] hs (p := p8) (by omega) (by simp)
  obtain ⟨w4, q4, g4, f4, c4, _⟩ := among_ex h8 [-1, 6] hs (p := p8) (by omega) (by simp)
  obtain ⟨w5, q5, g5, f5, c5, _⟩ := among_ex h8 [-1, 10000001] hs (p := p8) (by omega) (by simp)
  obtain ⟨w6, q6, g6, f6, c6, _⟩ := among_ex h8 [-1, wrap64 (v5 + 1)] hs (p := p8) (by omega) (by simp)
  obtain ⟨w7, q7, g7, f7, c7, _⟩ := among_ex h8 [-1, 4001] hs (p := p8) (by omega) (by simp)
  simp only [Fat.f, e1, e2, e3, e4, e5, e6, e7, e8, f0, f1, f2, f4, f5, f6, f7, Option.bind_some]
  by_cases z0 : v8 = 0
  · rw [if_pos z0]; exact ⟨_, _, _, _, _, _, _, _, _, _, rfl, by omega, m1⟩
  rw [if_neg z0]
  by_cases z1 : v8 = 1
  · rw [if_pos z1]; exact ⟨_, _, _, _, _, _, _, _, _, _, rfl, by omega, n1⟩
  rw [if_neg z1]
  by_cases z2 : v8 = 2
  · rw [if_pos z2]; exact ⟨_, _, _, _, _, _, _, _, _, _, rfl, by omega, m1⟩
  rw [if_neg z2]
  by_cases z3 : v8 = 3
  · rw [if_pos z3]; exact ⟨_, _, _, _, _, _, _, _, _, _, rfl, by omega, m1⟩
  rw [if_neg z3]
  by_cases z4 : v8 = 4
  · rw [if_pos z4]; exact ⟨_, _, _, _, _, _, _, _, _, _, rfl, by omega, m1⟩
  rw [if_neg z4]
  by_cases z5 : v8 = 5
  · rw [if_pos z5]; exact ⟨_, _, _, _, _, _, _, _, _, _, rfl, by omega, m1⟩
  rw [if_neg z5]
  by_cases z6 : v8 = 6
  · rw [if_pos z6]; exact ⟨_, _, _, _, _, _, _, _, _, _, rfl, by omega, m1⟩
  rw [if_neg z6]
  by_cases z7 : v8 = 7
  · rw [if_pos z7]; exact ⟨_, _, _, _, _, _, _, _, _, _, rfl, by omega, m1⟩
  rw [if_neg z7]; exact ⟨_, _, _, _, _, _, _, _, _, _, rfl, by omega, m1⟩
def clientsOk (l : List S34) : Prop := ∀ x ∈ l, x.f1.size ≤ 20
theorem clientsOk_app {l : List S34} {x : S34} (h : clientsOk l) (hx : x.f1.size ≤ 20) : clientsOk (l ++ [x]) := by
  intro y hy
  rcases List.mem_append.mp hy with e | e
  · exact h y e
  · rw [List.mem_singleton] at e; rw [e]; exact hx
theorem ords_l1 {s : List Int} (hs : curOk s) : ∀ (n k : Nat) (x : List S34) (id p h : Int), x.length + n = 12 → n < k → 0 ≤ p → p + 2 * n ≤ 900000 → clientsOk x → ∃ x' p' h', Fj.l1 k x id s p h = some (x', p', h') ∧ x'.length ≤ 12 ∧ clientsOk x' ∧ p ≤ p' ∧ p' ≤ p + 2 * n + 2 := by
  intro n
  induction n with
  | zero =>
    intro k x id p h hx hk h0 h1 hc
    obtain ⟨k, rfl, _⟩ := succ_of hk
    obtain ⟨t, p1, h1', e1, b1, b2, b3⟩ := pick_ex h hs (p := p) (n := 2) (by omega) (by omega)
    have b4 := b3 (by omega)
    simp only [Fj.l1, e1, Option.bind_some]
    rw [w64 (x := 10 + t) (by omega) (by omega), if_neg (by omega)]
    exact ⟨_, _, _, rfl, by omega, hc, by omega, by omega⟩
  | succ n ih =>
    intro k x id p h hx hk h0 h1 hc
    obtain ⟨k, rfl, _⟩ := succ_of hk
    obtain ⟨t, p1, h1', e1, b1, b2, b3⟩ := pick_ex h hs (p := p) (n := 2) (by omega) (by omega)
    have b4 := b3 (by omega)
    simp only [Fj.l1, e1, Option.bind_some]
    rw [w64 (x := 10 + t) (by omega) (by omega)]
    by_cases g : (x.length : Int) < 10 + t
    · rw [if_pos g, if_pos (by omega)]
      obtain ⟨x', p', h', e, c1, c2, c3, c4⟩ := ih k (x ++ [⟨wrap64 (id + 1), (⟨#[120]⟩ : ByteArray), 100, 100, 0, 0, 0, 0⟩]) (wrap64 (id + 1)) p1 h1' (by rw [List.length_append, List.length_singleton]; omega) (by omega) (by omega) (by push_cast at h1; omega) (clientsOk_app hc (show (⟨#[120]⟩ : ByteArray).size ≤ 20 by decide))
      exact ⟨x', p', h', e, c1, c2, by omega, by push_cast; omega⟩
    · rw [if_neg g]
      exact ⟨_, _, _, rfl, by omega, hc, by omega, by push_cast; omega⟩
theorem ords_l0 {s : List Int} (hs : curOk s) : ∀ (n k : Nat) (x : List S34) (id p h : Int), x.length + n ≤ 7 → n + 20 < k → 0 ≤ p → p + 26 * n ≤ 800000 → clientsOk x → ∃ x' p' h', Fj.l0 k x id (n : Int) s p h = some (x', p', h') ∧ x'.length ≤ 12 ∧ clientsOk x' ∧ p ≤ p' ∧ p' ≤ p + 26 * n + 40 := by
  intro n
  induction n with
  | zero =>
    intro k x id p h hx hk h0 h1 hc
    obtain ⟨k, rfl, _⟩ := succ_of (show 0 < k by omega)
    obtain ⟨b, p1, h1', e1, b1⟩ := one_ex h hs (p := p) (n := 24) (by omega) (by omega)
    simp only [Fj.l0, e1, Option.bind_some]
    rw [if_neg (by omega)]
    cases b
    · simp only [Bool.false_eq_true, if_false]
      exact ⟨_, _, _, rfl, by omega, hc, by omega, by omega⟩
    · simp only [if_true]
      obtain ⟨x', p', h', e, c1, c2, c3, c4⟩ := ords_l1 hs (12 - x.length) k x id p1 h1' (by omega) (by omega) (by omega) (by omega) hc
      exact ⟨x', p', h', e, c1, c2, by omega, by omega⟩
  | succ n ih =>
    intro k x id p h hx hk h0 h1 hc
    obtain ⟨k, rfl, _⟩ := succ_of (show 0 < k by omega)
    push_cast at h1
    obtain ⟨t1, p1, h1', e1, b1, _⟩ := pick_ex h hs (p := p) (n := 3) (by omega) (by omega)
    obtain ⟨t2, p2, h2', e2, b2, _⟩ := pick_ex h1' hs (p := p1) (n := 90) (by omega) (by omega)
    obtain ⟨a, b, c, d, e, f, g, i, p3, h3', e3, b3, b4⟩ := carpetOrder_ex h2' (wrap64 ((wrap64 ((wrap64 (id + 1)) + t1)) - (wrap64 (Int.tdiv t2 89)))) hs (p := p2) (by omega)
    simp only [Fj.l0, e1, e2, e3, Option.bind_some]
    rw [if_pos (by omega), if_pos (by omega), w64 (x := ((n + 1 : Nat) : Int) - 1) (by omega) (by omega), show ((n + 1 : Nat) : Int) - 1 = (n : Int) by omega]
    obtain ⟨x', p', h', e4, c1, c2, c3, c4⟩ := ih k (x ++ [⟨a, b, c, d, e, f, g, i⟩]) (wrap64 ((wrap64 ((wrap64 (id + 1)) + t1)) - (wrap64 (Int.tdiv t2 89)))) p3 h3' (by rw [List.length_append, List.length_singleton]; omega) (by omega) (by omega) (by omega) (clientsOk_app hc b4)
    exact ⟨x', p', h', e4, c1, c2, by omega, by push_cast; omega⟩
theorem ords_ex {k : Nat} {s : List Int} (h : Int) (hs : curOk s) (hk : 100 < k) : ∃ x' p' h', Fj.f k s 0 h = some (x', p', h') ∧ x'.length ≤ 12 ∧ clientsOk x' ∧ 0 ≤ p' ∧ p' ≤ 1000 := by
  obtain ⟨t, p1, h1, e1, b1, b2, b3⟩ := pick_ex h hs (p := 0) (n := 8) (by omega) (by omega)
  have b4 := b3 (by omega)
  obtain ⟨n, rfl⟩ := nat_of b2
  obtain ⟨x', p', h', e, c1, c2, c3, c4⟩ := ords_l0 hs n k [] 0 p1 h1 (by simp; omega) (by omega) (by omega) (by omega) (fun x hx => absurd hx (by simp))
  simp only [Fj.f, e1, Option.bind_some]
  exact ⟨x', p', h', e, c1, c2, by omega, by omega⟩
def owedV (c : ByteArray) (x : S34) : Int := if x.f1.toList = c.toList then (if x.f4 = 5 then 0 else x.f5 - x.f6) else 0
def owedM (l : List S34) (c : ByteArray) : Int × Bool := if ordersB l && wordB c then ((l.map (owedV c)).sum, true) else (0, false)
theorem owed_bd {c : ByteArray} {x : S34} (h : orderB x = true) : 0 ≤ owedV c x ∧ owedV c x ≤ 10000000 := by
  have hx := order_of h
  unfold owedV
  (repeat' split) <;> omega
theorem owedS_eq {k : Nat} {l : List S34} {c : ByteArray} (hk : l.length + 1048578 < k) (hs : sizesOk l) (hc : c.size ≤ 1048576) : Fq.f k l c = some (owedM l c) := by
  obtain ⟨k, rfl, hk⟩ := succ_of (show 0 < k by omega)
  simp only [Fq.f, Fq.j0, ordersS_eq (k := k + 1) (l := l) (by omega) hs, wordS_eq (k := k + 1) (s := c) (by omega) (by omega), Option.bind_some, owedM]
  cases hb : ordersB l
  · simp
  cases hw : wordB c
  · simp
  obtain ⟨h10, hx⟩ := orders_of hb
  simp only [if_true, Bool.not_true, Bool.false_eq_true, if_false, Bool.and_self]
  have := sum_loop (fun k a i => Fq.l0 k l c a i) (owedV c) (fun a => some (a, true)) z34 10000000 l (by omega) (fun x hm => owed_bd (hx x hm))
    (fun k acc i h1 h2 h3 => by
      have hm : l.getD i z34 ∈ l := by rw [List.getD_eq_getElem?_getD, List.getElem?_eq_getElem h1]; exact List.getElem_mem h1
      have hb := order_of (hx _ hm)
      simp only [Fq.l0, rdIOrder_nat]
      rw [if_pos (by omega), if_pos (by omega)]
      unfold owedV
      by_cases g1 : (l.getD i z34).f1.toList = c.toList
      · rw [if_pos g1, if_pos g1]
        by_cases g2 : (l.getD i z34).f4 = 5
        · rw [if_pos g2, if_pos g2, Int.add_zero]
        · rw [if_neg g2, if_neg g2, w64 (x := acc + _) (by omega) (by omega), w64 (by omega) (by omega)]
          congr 1; omega
      · rw [if_neg g1, if_neg g1, Int.add_zero])
    (fun k acc i h1 => by simp only [Fq.l0]; rw [if_neg (by omega)])
    l.length k 0 0 (by omega) (by omega) (by omega) (by omega)
  simpa using this
theorem owedI_eq {k : Nat} {l : List S34} {c : ByteArray} (hk : l.length + 2 < k) (hs : l.length ≤ 1048576) : Fp.f k l c = some (owedM l c) := by
  obtain ⟨k, rfl, hk⟩ := succ_of (show 0 < k by omega)
  simp only [Fp.f, Fp.j0, ordersI_eq (k := k + 1) (l := l) (by omega) hs, wordI_eq, Option.bind_some, owedM]
  cases hb : ordersB l
  · simp
  cases hw : wordB c
  · simp
  obtain ⟨h10, hx⟩ := orders_of hb
  simp only [if_true, Bool.not_true, Bool.false_eq_true, if_false, Bool.and_self]
  have := sum_loop (fun k a i => Fp.l0 k c a l (l.length : Int) i) (owedV c) (fun a => some (a, true)) z34 10000000 l (by omega) (fun x hm => owed_bd (hx x hm))
    (fun k acc i h1 h2 h3 => by
      have hm : l.getD i z34 ∈ l := by rw [List.getD_eq_getElem?_getD, List.getElem?_eq_getElem h1]; exact List.getElem_mem h1
      have hb := order_of (hx _ hm)
      simp only [Fp.l0, rdIOrder_nat]
      rw [if_pos (by omega), if_pos (by omega), if_pos (by omega)]
      unfold owedV
      by_cases g1 : (l.getD i z34).f1.toList = c.toList
      · rw [if_pos g1, if_pos g1]
        by_cases g2 : (l.getD i z34).f4 = 5
        · rw [if_pos g2, if_pos g2, Int.add_zero]
        · rw [if_neg g2, if_neg g2, w64 (x := _ - _) (by omega) (by omega), w64 (by omega) (by omega)]
      · rw [if_neg g1, if_neg g1, Int.add_zero])
    (fun k acc i h1 => by simp only [Fp.l0]; rw [if_neg (by omega)])
    l.length k 0 0 (by omega) (by omega) (by omega) (by omega)
  simpa using this
theorem rInts_refl {k : Nat} {l : List Int} (hk : l.length < k) (hl : l.length ≤ 1048576) : Fad.f k l l = some true := by
  unfold Fad.f
  rw [if_pos rfl]
  exact refl_loop Fad.l0 l (by omega)
    (fun k i h => by simp only [Fad.l0]; rw [if_pos (by omega), if_pos (by omega), if_pos (by omega), if_pos trivial])
    (fun k i h => by simp only [Fad.l0]; rw [if_neg (by omega)])
    l.length k 0 (by omega) hk
theorem tdiv11 {t : Int} (h : 0 ≤ t ∧ t < 24) : wrap64 (Int.tdiv t 11) = t / 11 := by
  rw [Int.tdiv_eq_ediv_of_nonneg h.1]; exact w64 (by omega) (by omega)
/-- an element of the front of a list, how much of it is drawn -/
theorem some_ex {s : List Int} {p b : Int} (h : Int) (xs : List Int) (hs : curOk s) (hp : 0 ≤ p ∧ p ≤ 900000) (hb : 1 ≤ b ∧ b + 2 ≤ xs.length) (hx : xs.length ≤ 1000) : ∃ t p1 h1 v p2 h2, Ft.f s p h 24 = some (t, p1, h1) ∧ 0 ≤ wrap64 (b + wrap64 (Int.tdiv t 11)) ∧ wrap64 (b + wrap64 (Int.tdiv t 11)) ≤ (xs.length : Int) ∧ Fe.f s p1 h1 (xs.take (wrap64 (b + wrap64 (Int.tdiv t 11))).toNat) = some (v, p2, h2) ∧ p ≤ p2 ∧ p2 ≤ p + 4 := by
  obtain ⟨t, p1, h1, e1, b1, b2, b3⟩ := pick_ex h hs (p := p) (n := 24) (by omega) (by omega)
  have b4 := b3 (by omega)
  have ht := tdiv11 (t := t) (by omega)
  have hw : wrap64 (b + wrap64 (Int.tdiv t 11)) = b + t / 11 := by rw [ht]; exact w64 (by omega) (by omega)
  have hl : (xs.take (b + t / 11).toNat).length = (b + t / 11).toNat := by rw [List.length_take]; omega
  obtain ⟨v, p2, h2, e2, b5, _⟩ := among_ex h1 (xs.take (b + t / 11).toNat) hs (p := p1) (by omega) (by omega)
  exact ⟨t, p1, h1, v, p2, h2, e1, by omega, by omega, by rw [hw]; exact e2, by omega, by omega⟩
/-- an element of the front of a list, or seldom of one more -/
theorem some23_ex {s : List Int} {p b : Int} (h : Int) (xs : List Int) (hs : curOk s) (hp : 0 ≤ p ∧ p ≤ 900000) (hb : 1 ≤ b ∧ b + 1 ≤ xs.length) (hx : xs.length ≤ 1000) : ∃ t p1 h1 v p2 h2, Ft.f s p h 24 = some (t, p1, h1) ∧ 0 ≤ wrap64 (b + wrap64 (Int.tdiv t 23)) ∧ wrap64 (b + wrap64 (Int.tdiv t 23)) ≤ (xs.length : Int) ∧ Fe.f s p1 h1 (xs.take (wrap64 (b + wrap64 (Int.tdiv t 23))).toNat) = some (v, p2, h2) ∧ p ≤ p2 ∧ p2 ≤ p + 4 := by
  obtain ⟨t, p1, h1, e1, b1, b2, b3⟩ := pick_ex h hs (p := p) (n := 24) (by omega) (by omega)
  have b4 := b3 (by omega)
  have ht : wrap64 (Int.tdiv t 23) = t / 23 := by rw [Int.tdiv_eq_ediv_of_nonneg b2]; exact w64 (by omega) (by omega)
  have hw : wrap64 (b + wrap64 (Int.tdiv t 23)) = b + t / 23 := by rw [ht]; exact w64 (by omega) (by omega)
  have hl : (xs.take (b + t / 23).toNat).length = (b + t / 23).toNat := by rw [List.length_take]; omega
  obtain ⟨v, p2, h2, e2, b5, _⟩ := among_ex h1 (xs.take (b + t / 23).toNat) hs (p := p1) (by omega) (by omega)
  exact ⟨t, p1, h1, v, p2, h2, e1, by omega, by omega, by rw [hw]; exact e2, by omega, by omega⟩
theorem sizes_of2 {l : List S34} (h1 : l.length ≤ 12) (h2 : clientsOk l) : sizesOk l := ⟨by omega, fun x hx => by have := h2 x hx; omega⟩
theorem small_of {v : ByteArray} (h : v ∈ [(⟨#[97, 110, 110, 97]⟩ : ByteArray), (⟨#[98, 114, 117, 110, 111]⟩ : ByteArray), (⟨#[99, 108, 101, 111]⟩ : ByteArray), (⟨#[100, 111, 114, 97]⟩ : ByteArray), (⟨#[]⟩ : ByteArray), (⟨#[65]⟩ : ByteArray)]) : v.size ≤ 20 := by
  simp only [List.mem_cons, List.not_mem_nil, or_false] at h
  rcases h with rfl | rfl | rfl | rfl | rfl | rfl <;> decide
theorem owed_nn (l : List S34) (c : ByteArray) : ¬ (owedM l c).1 < 0 := by
  unfold owedM
  split
  · rename_i h
    simp only [Bool.and_eq_true] at h
    have hx := (orders_of h.1).2
    have : ∀ (l : List S34), (∀ x ∈ l, orderB x = true) → 0 ≤ (l.map (owedV c)).sum := by
      intro l
      induction l with
      | nil => intro _; simp
      | cons x l ih =>
        intro hq
        have := ih (fun y hy => hq y (List.mem_cons_of_mem _ hy))
        have := (owed_bd (c := c) (hq x List.mem_cons_self)).1
        rw [List.map_cons, List.sum_cons]; omega
    have := this l hx
    simp only; omega
  · simp
theorem books_j6 {k : Nat} {l : List Int} (hs : curOk l) (hk : 8000000 < k) : Fd.j6 k l false = some true := by
  obtain ⟨k, rfl, hk⟩ := succ_of hk
  obtain ⟨x, p1, h1, e1, hx, hc, b1, b2⟩ := ords_ex (k := k) 0 hs (by omega)
  have hz := sizes_of2 hx hc
  have hd : Fx.f k l = some x := by simp only [Fx.f, Fai.f, e1, Option.bind_some]
  obtain ⟨n, p2, h2, e2, b3, _⟩ := among_ex 0 [1, 42, 999] hs (p := 0) (by omega) (by simp)
  obtain ⟨a, b, c, d, e, f, g, i, p3, h3, e3, b4, b5⟩ := carpetOrder_ex h2 n hs (p := p2) (by omega)
  have hd2 : Fbb.f l = some (a, b, c, d, e, f, g, i) := by simp only [Fbb.f, e2, e3, Option.bind_some]
  have o1 := oneOI_eq (k := k) ⟨a, b, c, d, e, f, g, i⟩ (by omega)
  have o2 := oneOS_eq (k := k) ⟨a, b, c, d, e, f, g, i⟩ (by show b.size < k; omega) (by show b.size ≤ 1048576; omega)
  simp only at o1 o2
  simp only [Fd.j6, Bool.false_eq_true, if_false, hd, hd2, Option.bind_some, areaI_eq (k := k) (l := x) (by omega) hz.1, areaS_eq (k := k) (l := x) (by omega) hz, if_true, beq_self_eq_true, o1, Faf.f, o2]
theorem books_j5 {k : Nat} {l : List Int} (hs : curOk l) (hk : 8000001 < k) : Fd.j5 k l false = some true := by
  obtain ⟨k, rfl, hk⟩ := succ_of (show 8000000 < k by omega)
  obtain ⟨x, p1, h1, e1, hx, hc, b1, b2⟩ := ords_ex (k := k) 0 hs (by omega)
  have hz := sizes_of2 hx hc
  obtain ⟨v, p2, h2, e2, b3, m⟩ := of_ex h1 [(⟨#[97, 110, 110, 97]⟩ : ByteArray), (⟨#[98, 114, 117, 110, 111]⟩ : ByteArray), (⟨#[99, 108, 101, 111]⟩ : ByteArray), (⟨#[100, 111, 114, 97]⟩ : ByteArray), (⟨#[]⟩ : ByteArray), (⟨#[65]⟩ : ByteArray)] hs (p := p1) (by omega) (by simp)
  have hv := small_of m
  have hd : Fac.f k l = some (x, v) := by simp only [Fac.f, e1, e2, Option.bind_some]
  simp only [Fd.j5, Bool.false_eq_true, if_false, hd, Option.bind_some, owedI_eq (k := k) (l := x) (c := v) (by omega) hz.1, owedS_eq (k := k) (l := x) (c := v) (by omega) hz (by omega), if_true, bne_self_eq_false, decide_eq_false (owed_nn x v)]
  exact books_j6 hs (by omega)
theorem books_j4 {k : Nat} {l : List Int} (hs : curOk l) (hk : 8000002 < k) : Fd.j4 k l false = some true := by
  obtain ⟨k, rfl, hk⟩ := succ_of (show 8000001 < k by omega)
  obtain ⟨x, p1, h1, e1, hx, hc, b1, b2⟩ := ords_ex (k := k) 0 hs (by omega)
  have hz := sizes_of2 hx hc
  obtain ⟨t, p2, h2, d, p3, h3, e2, c1, c2, e3, c3, c4⟩ := some23_ex (b := 5) h1 [60, 4000, 4000, 4000, 9, 4001] hs (p := p1) (by omega) (by simp) (by simp)
  obtain ⟨t2, p4, h4, n, p5, h5, e4, c5, c6, e5, c7, c8⟩ := some_ex (b := 5) h3 [0, 10, 50, 3990, 4000, -1, 4001] hs (p := p3) (by omega) (by simp) (by simp)
  have hd : Fw.f k l = some (x, d, n) := by
    simp only [Fw.f, e1, e2, Option.bind_some]
    rw [if_pos c1, if_pos c2, e3]
    simp only [e4, Option.bind_some]
    rw [if_pos c5, if_pos c6, e5]; rfl
  have hlen := waitM_len x d n
  simp only [Fd.j4, Bool.false_eq_true, if_false, hd, Option.bind_some, waitI_eq (k := k) (l := x) (d := d) (n := n) (by omega) hz.1, waitS_eq (k := k) (l := x) (d := d) (n := n) (by omega) hz, bne_self_eq_false, rInts_refl (k := k) (l := (waitM x d n).1) (by omega) (by omega), Bool.not_true]
  exact books_j5 hs (by omega)
theorem books_one {k : Nat} {l : List Int} {x : List S34} {S : List Int} {all n : Int} {s : Nat} (hs5 : s ≤ 5) (hk : 2000000 < k) (hx : x.length ≤ 12) (hn : 0 ≤ n ∧ n ≤ 1000) : Fd.l1 (k + 1) l x S (ordersB x) all n (s : Int) = Fd.l1 k l x S (ordersB x) all (n + ((atM x s).1.length : Int)) ((s + 1 : Nat) : Int) := by
  have hl := atM_len x s
  rw [Fd.l1, if_pos (by omega), atI_eq (k := k) (l := x) (s := (s : Int)) hk (by omega)]
  simp only [Option.bind_some, atM_ok (l := x) (s := (s : Int)) (by omega), bne_self_eq_false, Bool.false_eq_true, if_false]
  rw [w64 (x := n + _) (by omega) (by omega), w64 (x := (s : Int) + 1) (by omega) (by omega)]
  rfl
theorem books_l1 {k : Nat} {l : List Int} {x : List S34} {S : List Int} {all : Int} (hs : curOk l) (hk : 8000020 < k) (hx : x.length ≤ 12) (hS : ordersB x = true → S.sum = all ∧ S.length ≤ 10 ∧ ∀ y ∈ S, 0 ≤ y ∧ y ≤ 1000000000) : Fd.l1 k l x S (ordersB x) all 0 0 = some true := by
  obtain ⟨q, rfl⟩ : ∃ q, k = q + 1 + 1 + 1 + 1 + 1 + 1 + 1 := ⟨k - 7, by omega⟩
  have l0 := atM_len x 0
  have l1 := atM_len x 1
  have l2 := atM_len x 2
  have l3 := atM_len x 3
  have l4 := atM_len x 4
  have l5 := atM_len x 5
  have s0 := books_one (k := q + 1 + 1 + 1 + 1 + 1 + 1) (l := l) (x := x) (S := S) (all := all) (n := 0) (s := 0) (by omega) (by omega) hx (by omega)
  have s1 := books_one (k := q + 1 + 1 + 1 + 1 + 1) (l := l) (x := x) (S := S) (all := all) (n := 0 + ((atM x 0).1.length : Int)) (s := 1) (by omega) (by omega) hx (by omega)
  have s2 := books_one (k := q + 1 + 1 + 1 + 1) (l := l) (x := x) (S := S) (all := all) (n := 0 + ((atM x 0).1.length : Int) + ((atM x 1).1.length : Int)) (s := 2) (by omega) (by omega) hx (by omega)
  have s3 := books_one (k := q + 1 + 1 + 1) (l := l) (x := x) (S := S) (all := all) (n := 0 + ((atM x 0).1.length : Int) + ((atM x 1).1.length : Int) + ((atM x 2).1.length : Int)) (s := 3) (by omega) (by omega) hx (by omega)
  have s4 := books_one (k := q + 1 + 1) (l := l) (x := x) (S := S) (all := all) (n := 0 + ((atM x 0).1.length : Int) + ((atM x 1).1.length : Int) + ((atM x 2).1.length : Int) + ((atM x 3).1.length : Int)) (s := 4) (by omega) (by omega) hx (by omega)
  have s5 := books_one (k := q + 1) (l := l) (x := x) (S := S) (all := all) (n := 0 + ((atM x 0).1.length : Int) + ((atM x 1).1.length : Int) + ((atM x 2).1.length : Int) + ((atM x 3).1.length : Int) + ((atM x 4).1.length : Int)) (s := 5) (by omega) (by omega) hx (by omega)
  refine s0.trans (s1.trans (s2.trans (s3.trans (s4.trans (s5.trans ?_)))))
  generalize hN : 0 + ((atM x 0).1.length : Int) + ((atM x 1).1.length : Int) + ((atM x 2).1.length : Int) + ((atM x 3).1.length : Int) + ((atM x 4).1.length : Int) = N
  show Fd.l1 (q + 1) l x S (ordersB x) all (N + ((atM x 5).1.length : Int)) 6 = some true
  rw [Fd.l1, if_neg (by omega)]
  cases ho : ordersB x
  · rw [if_neg (by decide)]
    exact books_j4 hs (by omega)
  · obtain ⟨g1, g2, g3⟩ := hS ho
    have ha := atM_all ho
    rw [if_pos rfl, rSum_eq (k := q) (l := S) (by omega) (by omega) g3, Option.bind_some, if_pos g1, show N + ((atM x 5).1.length : Int) = (x.length : Int) by omega, bne_self_eq_false]
    exact books_j4 hs (by omega)
theorem books_l0 {l : List Int} {x : List S34} {C : List ByteArray} {S : List Int} (hs : curOk l) (ho : ordersB x = true) (hC : ∀ o ∈ x, o.f1 ∈ C) (hCl : C.length ≤ 10) (hS : S.sum = (x.map fun o => o.f6).sum ∧ S.length ≤ 10 ∧ ∀ y ∈ S, 0 ≤ y ∧ y ≤ 1000000000) :
    ∀ (m k i : Nat), i + m = x.length → 8000030 + 2 * m < k → Fd.l0 k l x C S true ((x.take i).map fun o => o.f6).sum 0 (i : Int) = some true := by
  obtain ⟨h10, hx⟩ := orders_of ho
  have hb : ∀ i, i ≤ x.length → 0 ≤ ((x.take i).map fun o => o.f6).sum ∧ ((x.take i).map fun o => o.f6).sum ≤ 10000000 * (i : Int) := by
    intro i
    induction i with
    | zero => intro _; simp
    | succ i ih =>
      intro hi
      have h1 := ih (by omega)
      have hg : x[i]? = some x[i] := List.getElem?_eq_getElem (by omega)
      have h2 := order_of (hx x[i] (List.getElem_mem (by omega)))
      rw [List.take_add_one, hg, Option.toList_some, List.map_append, List.sum_append, List.map_singleton, List.sum_singleton]
      omega
  intro m
  induction m with
  | zero =>
    intro k i hi hk
    obtain ⟨k, rfl⟩ : ∃ q, k = q + 1 + 1 := ⟨k - 2, by omega⟩
    obtain rfl : i = x.length := by omega
    rw [Fd.l0, if_neg (by omega), Fd.j2, if_neg (by decide), List.take_length]
    have e := books_l1 (k := k) (l := l) (x := x) (S := S) (all := (x.map fun o => o.f6).sum) hs (by omega) (by omega) (fun _ => hS)
    rw [ho] at e
    exact e
  | succ m ih =>
    intro k i hi hk
    obtain ⟨k, rfl⟩ : ∃ q, k = q + 1 + 1 := ⟨k - 2, by omega⟩
    have hlt : i < x.length := by omega
    have hm : x.getD i z34 ∈ x := by rw [List.getD_eq_getElem?_getD, List.getElem?_eq_getElem hlt]; exact List.getElem_mem hlt
    have hg : x[i]? = some (x.getD i z34) := (List.getElem?_eq_getElem hlt).trans (congrArg some (by rw [List.getD_eq_getElem?_getD, List.getElem?_eq_getElem hlt]; rfl))
    have h2 := order_of (hx _ hm)
    have h3 := hb i (by omega)
    have e := ih k (i + 1) (by omega) (by omega)
    rw [List.take_add_one, hg, Option.toList_some, List.map_append, List.sum_append, List.map_singleton, List.sum_singleton] at e
    rw [Fd.l0, if_pos (by omega), Fd.j2, if_pos rfl, if_pos (by omega), if_pos (by omega), rdIOrder_nat, rHasText_eq (k := k) (l := C) (c := (x.getD i z34).f1) (by omega) (by omega) (hC _ hm), Option.bind_some, if_pos rfl]
    rw [w64 (x := _ + (x.getD i z34).f6) (by omega) (by omega), w64 (x := (i : Int) + 1) (by omega) (by omega)]
    exact e
theorem FnOrderBooks : Fd.Pure := by
  intro l hl
  refine ⟨12600000 + 1, ?_⟩
  obtain ⟨k, hk⟩ : ∃ k, k = 12600000 + 1 := ⟨_, rfl⟩
  rw [← hk]
  simp only [Fd.f, Fbq.f, Option.bind_some]
  by_cases hbig : (l.length : Int) > 65536
  · rw [decide_eq_true hbig, if_pos rfl]
  rw [decide_eq_false hbig, if_neg (by simp)]
  have hs : curOk l := ⟨by omega, fun y hy => wf8 (hl.2 y hy)⟩
  obtain ⟨x, p1, h1, e1, hx, hc, b1, b2⟩ := ords_ex (k := k) 0 hs (by omega)
  have hd : Fu.f k l = some x := by simp only [Fu.f, Fai.f, e1, Option.bind_some]
  have hz := sizes_of2 hx hc
  obtain ⟨g1, g2⟩ := clientsM_len x
  simp only [hd, Option.bind_some, clientsI_eq (k := k) (l := x) (by omega) hz.1, clientsS_eq (k := k) (l := x) (by omega) hz, bne_self_eq_false, Bool.false_eq_true, if_false, rTexts_refl (k := k) (l := (clientsM x).1) (by omega) (by omega), rInts_refl (k := k) (l := (clientsM x).2.1) (by omega) (by omega), if_true, ordersI_eq (k := k) (l := x) (by omega) hz.1, clientsM_ok x]
  obtain ⟨k, rfl, hk2⟩ := succ_of (show 12600000 < k by omega)
  simp only [Fd.j0, Bool.false_eq_true, if_false]
  cases ho : ordersB x
  · obtain ⟨k, rfl⟩ : ∃ q, k = q + 1 + 1 := ⟨k - 2, by omega⟩
    have e := books_l1 (k := k) (l := l) (x := x) (S := (clientsM x).2.1) (all := 0) hs (by omega) hx (fun h => by rw [ho] at h; cases h)
    rw [ho] at e
    rw [Fd.l0]
    by_cases h0 : (0 : Int) < (x.length : Int)
    · rw [if_pos h0, Fd.j2, if_neg (by decide)]; exact e
    · rw [if_neg h0, Fd.j2, if_neg (by decide)]; exact e
  · obtain ⟨_, f2, f3, f4⟩ := clientsM_facts ho
    have e := books_l0 (C := (clientsM x).1) (S := (clientsM x).2.1) hs ho f3 g1 ⟨f2, by omega, f4⟩ x.length k 0 (by omega) (by omega)
    exact e
end Go.Proofs.YtahfahlbdgbfeaaGreatDoor.Pure

namespace Go.Proofs.Open
open Go.RowKit Go.WideShapes Go.Proofs.YtahfahlbdgbfeaaGreatDoorW.PrintWords
set_option linter.unusedVariables false
theorem mapM_cons_some {α β : Type} {f : α → Option β} {a : α} {l : List α} {ys : List β} (h : (a :: l).mapM f = some ys) : ∃ y ys', f a = some y ∧ l.mapM f = some ys' ∧ ys = y :: ys' := by
  rw [List.mapM_cons] at h
  obtain ⟨y, hy, h⟩ := Option.bind_eq_some_iff.mp h
  obtain ⟨ys', hys, h⟩ := Option.bind_eq_some_iff.mp h
  exact ⟨y, ys', hy, hys, (Option.some.inj h).symm⟩
theorem mapM_some_get {α β : Type} {f : α → Option β} : ∀ {l : List α} {ys : List β}, l.mapM f = some ys → ys.length = l.length ∧ ∀ (i : Nat) (a : α), l[i]? = some a → ∃ y, f a = some y ∧ ys[i]? = some y
  | [], ys, h => by
    obtain rfl : ys = [] := by simpa using h
    exact ⟨rfl, fun i a h => by simp at h⟩
  | a :: l, ys, h => by
    obtain ⟨y, ys', hy, hys, rfl⟩ := mapM_cons_some h
    obtain ⟨hl, hg⟩ := mapM_some_get hys
    refine ⟨by simp [hl], fun i b hb => ?_⟩
    cases i with
    | zero => obtain rfl : a = b := by simpa using hb
              exact ⟨y, hy, rfl⟩
    | succ i => exact hg i b (by simpa using hb)
theorem cells_get {w : World} {base n : Nat} {a : Addr} {cs : List Value} (h : w.cells? base a n = some cs) : cs.length = n ∧ ∀ i u, cs[i]? = some u → w.cell? (a.add i) = some u := by
  unfold World.cells? at h
  split at h
  · obtain ⟨hl, hg⟩ := mapM_some_get h
    rw [List.length_range] at hl
    refine ⟨hl, fun i u hu => ?_⟩
    have hi : i < n := by have := (List.getElem?_eq_some_iff.1 hu).1; omega
    obtain ⟨y, hy, hy2⟩ := hg i i (by simp [List.getElem?_range hi])
    rw [hu] at hy2
    injection hy2 with hy2
    rw [hy2]; exact hy
  · cases h
theorem add_add (a : Addr) (i j : Nat) : (a.add i).add j = a.add (i + j) := by
  by_cases hi : i = 0
  · subst hi
    rw [Nat.zero_add, show a.add 0 = a by unfold Addr.add; simp]
  · by_cases hj : j = 0
    · subst hj
      rw [Nat.add_zero, show (a.add i).add 0 = a.add i by unfold Addr.add; simp]
    · unfold Addr.add
      simp [hi, hj, Nat.add_assoc]
/-- Whatever reads as a datum of type t is an x of kind d, within ok. -/
structure Opens {α : Type} (P : Program) (W : World) (t : TypeId) (d : Kd α) (ok : α → Prop) : Prop where
  get : ∀ {H : Type} (enc : TypeId × Value → H) (base : Nat) (spare : Nat → Bool) (held : Bool) (fuel : Nat) (cs : List Value) (y : DataW H × List MemPlace), DataW.trod enc P W base spare held fuel t cs = some y → ∃ x, d.K W x cs ∧ ok x
theorem Opens.int {P : Program} {W : World} {t : TypeId} {k : IntKind} (hu : P.underlying t = some (.int k)) : Opens P W t (Kd.int k) (fun x => (Lit.int k x).wf = true) := ⟨by
  intro H enc base spare held fuel cs y h
  cases fuel with
  | zero => simp [DataW.trod] at h
  | succ fuel =>
    simp only [DataW.trod, hu] at h
    split at h <;> first | (cases h; done) | skip
    all_goals rename_i heq
    all_goals first | (cases heq; done) | skip
    rename_i k0 k' n
    injection heq with heq
    injection heq with heq
    subst heq
    split at h
    · rename_i hk
      obtain ⟨rfl, hw⟩ := hk
      exact ⟨n, rfl, hw⟩
    · cases h⟩
theorem Opens.bool {P : Program} {W : World} {t : TypeId} (hu : P.underlying t = some .bool) : Opens P W t Kd.bool (fun _ => True) := ⟨by
  intro H enc base spare held fuel cs y h
  cases fuel with
  | zero => simp [DataW.trod] at h
  | succ fuel =>
    simp only [DataW.trod, hu] at h
    split at h <;> first | (cases h; done) | skip
    all_goals rename_i heq
    all_goals first | (cases heq; done) | skip
    rename_i b
    exact ⟨b, rfl, trivial⟩⟩
theorem Opens.string {P : Program} {W : World} {t : TypeId} (hu : P.underlying t = some .string) : Opens P W t Kd.string (fun s => s.size ≤ 9223372036854775807) := ⟨by
  intro H enc base spare held fuel cs y h
  cases fuel with
  | zero => simp [DataW.trod] at h
  | succ fuel =>
    simp only [DataW.trod, hu] at h
    split at h <;> first | (cases h; done) | skip
    all_goals rename_i heq
    all_goals first | (cases heq; done) | skip
    rename_i s
    split at h
    · rename_i hs
      exact ⟨s, rfl, by simpa [maxLen] using hs⟩
    · cases h⟩
theorem pick {α : Type} {n : Nat} {Q : Nat → α → Prop} (h : ∀ i, i < n → ∃ x, Q i x) : ∃ xs : List α, xs.length = n ∧ ∀ i x, xs[i]? = some x → Q i x := by
  induction n with
  | zero => exact ⟨[], rfl, fun i x h => by simp at h⟩
  | succ n ih =>
    obtain ⟨xs, hl, hq⟩ := ih (fun i hi => h i (by omega))
    obtain ⟨x, hx⟩ := h n (by omega)
    refine ⟨xs ++ [x], by simp [hl], fun i z hz => ?_⟩
    by_cases hi : i < n
    · rw [List.getElem?_append_left (by omega)] at hz
      exact hq i z hz
    · have hlt := (List.getElem?_eq_some_iff.1 hz).1
      simp [hl] at hlt
      obtain rfl : i = n := by omega
      rw [List.getElem?_append_right (by omega), hl, Nat.sub_self] at hz
      obtain rfl : x = z := by simpa using hz
      exact hx
theorem Opens.slice {α : Type} {P : Program} {W : World} {t e : TypeId} {d : Kd α} {ok : α → Prop} (hu : P.underlying t = some (.slice e)) (hc : P.cellsOf e = d.sz) (h : Opens P W e d ok) :
    Opens P W t (Kd.slice e d) (fun l => l.length ≤ 9223372036854775807 ∧ ∀ x ∈ l, ok x) := ⟨by
  intro H enc base spare held fuel cs y hd
  cases fuel with
  | zero => simp [DataW.trod] at hd
  | succ fuel =>
    simp only [DataW.trod, hu] at hd
    split at hd <;> first | (cases hd; done) | skip
    all_goals rename_i heq
    all_goals first | (cases heq; done) | skip
    · exact ⟨[], ⟨none, 0, rfl, Nat.le_refl _, rfl, by simp, fun hp => absurd hp (by simp)⟩, by simp, fun x hx => by simp at hx⟩
    · rename_i e' a len cap
      injection heq with heq
      injection heq with heq
      subst heq
      split at hd
      · rename_i hb
        obtain ⟨hb1, hb2, hb3⟩ := hb
        obtain ⟨elems, hel, _⟩ := Option.bind_eq_some_iff.mp hd
        obtain ⟨hl, hg⟩ := mapM_some_get hel
        rw [List.length_range] at hl
        have hm : len ≤ 9223372036854775807 := by have : cap ≤ 9223372036854775807 := by simpa [maxLen] using hb3
                                                  omega
        obtain ⟨xs, hxl, hxs⟩ := pick (n := len) (Q := fun i x => ∃ c, c.length = d.sz ∧ d.K W x c ∧ ok x ∧ ∀ j u, c[j]? = some u → W.cell? (a.add (i * d.sz + j)) = some u) (fun i hi => by
          obtain ⟨z, hz, _⟩ := hg i i (by simp [List.getElem?_range hi])
          obtain ⟨c, hcc, hct⟩ := Option.bind_eq_some_iff.mp hz
          obtain ⟨x, hK, hok⟩ := h.get enc base spare held fuel c z hct
          obtain ⟨hcl, hcell⟩ := cells_get hcc
          refine ⟨x, c, by rw [hcl, hc], hK, hok, fun j u hu => ?_⟩
          have := hcell j u hu
          rw [add_add, hc] at this
          exact this)
        refine ⟨xs, ⟨some a, cap, by rw [hxl], by omega, rfl, by omega, fun _ => ⟨a, rfl, fun j p hj => ?_⟩⟩, by omega, fun x hx => ?_⟩
        · obtain ⟨c, h1, h2, h3, h4⟩ := hxs j p hj
          exact ⟨c, h1, h2, h4⟩
        · obtain ⟨j, hj, rfl⟩ := List.mem_iff_getElem.mp hx
          obtain ⟨c, h1, h2, h3, h4⟩ := hxs j _ (List.getElem?_eq_getElem hj)
          exact h3
      · cases hd⟩
/-- The fields from an offset on. -/
structure OpensAt {α : Type} (P : Program) (W : World) (fs : List Field) (off : Nat) (d : Kd α) (ok : α → Prop) : Prop where
  get : ∀ {H : Type} (enc : TypeId × Value → H) (base : Nat) (spare : Nat → Bool) (held : Bool) (fuel : Nat) (cs : List Value) (ys : List (DataW H × List MemPlace)), cs.length = off + d.sz →
    (fs.mapM fun f => DataW.trod enc P W base spare held fuel f.type ((cs.drop f.offset).take (P.cellsOf f.type))) = some ys → ∃ x, d.K W x (cs.drop off) ∧ ok x
theorem OpensAt.one {α : Type} {P : Program} {W : World} {f : Field} {off : Nat} {d : Kd α} {ok : α → Prop} (ho : f.offset = off) (hc : P.cellsOf f.type = d.sz) (h : Opens P W f.type d ok) : OpensAt P W [f] off d ok := ⟨by
  intro H enc base spare held fuel cs ys hl hm
  obtain ⟨y, _, hy, _, _⟩ := mapM_cons_some hm
  rw [ho, hc, List.take_of_length_le (by rw [List.length_drop]; omega)] at hy
  exact h.get enc base spare held fuel _ y hy⟩
theorem OpensAt.cons {α β : Type} {P : Program} {W : World} {f : Field} {fs : List Field} {off : Nat} {d : Kd α} {d2 : Kd β} {ok : α → Prop} {ok2 : β → Prop} (ho : f.offset = off) (hc : P.cellsOf f.type = d.sz) (h : Opens P W f.type d ok) (h2 : OpensAt P W fs (off + d.sz) d2 ok2) :
    OpensAt P W (f :: fs) off (Kd.pair d d2) (fun x => ok x.1 ∧ ok2 x.2) := ⟨by
  intro H enc base spare held fuel cs ys hl hm
  have hl2 : cs.length = off + (d.sz + d2.sz) := hl
  obtain ⟨y, ys', hy, hys, _⟩ := mapM_cons_some hm
  rw [ho, hc] at hy
  obtain ⟨x, hK, hok⟩ := h.get enc base spare held fuel _ y hy
  obtain ⟨x2, hK2, hok2⟩ := h2.get enc base spare held fuel cs ys' (by omega) hys
  refine ⟨(x, x2), ⟨(cs.drop off).take d.sz, cs.drop (off + d.sz), ?_, hK, hK2⟩, hok, hok2⟩
  rw [← List.drop_drop, List.take_append_drop]⟩
theorem Opens.struct {α : Type} {P : Program} {W : World} {t : TypeId} {fs : Array Field} {d : Kd α} {ok : α → Prop} (hu : P.underlying t = some (.struct fs)) (hc : P.cellsOf t = d.sz) (h : OpensAt P W fs.toList 0 d ok) : Opens P W t d ok := ⟨by
  intro H enc base spare held fuel cs y hd
  cases fuel with
  | zero => simp [DataW.trod] at hd
  | succ fuel =>
    simp only [DataW.trod, hu] at hd
    split at hd
    · rename_i hl
      obtain ⟨ys, hys, _⟩ := Option.map_eq_some_iff.mp hd
      exact h.get enc base spare held fuel cs ys (by omega) hys
    · cases hd⟩
theorem Opens.iso {α β : Type} {P : Program} {W : World} {t : TypeId} {d : Kd α} {f : β → α} {ok : α → Prop} (h : Opens P W t d ok) (g : α → β) (hg : ∀ x, f (g x) = x) : Opens P W t (Kd.iso d f) (fun y => ok (f y)) := ⟨by
  intro H enc base spare held fuel cs y hd
  obtain ⟨x, hK, hok⟩ := h.get enc base spare held fuel cs y hd
  refine ⟨g x, ?_, ?_⟩
  · show d.K W (f (g x)) cs
    rw [hg]; exact hK
  · rw [hg]; exact hok⟩
theorem wf_i64 {x : Int} (h : (Lit.int .i64 x).wf = true) : -9223372036854775808 ≤ x ∧ x ≤ 9223372036854775807 := by
  have h1 := h
  simp [Lit.wf] at h1
  exact ⟨h1.1, h1.2⟩
end Go.Proofs.Open

namespace Go.Proofs.YtahfahlbdgbfeaaGreatDoor.X
open Ho (bS eS)
open Go.RowKit Go.Proofs.YtahfahlbdgbfeaaGreatDoorW.PrintWords Go.Proofs.YtahfahlbdgbfeaaGreatDoorW.PrintLast Go.Proofs.YtahfahlbdgbfeaaGreatDoorW.PrintMore
attribute [local go_sem] max2_int min2_int max_two min_two max_three min_three max_four min_four   -- for this text's walks alone
set_option linter.unusedVariables false
set_option linter.unusedSimpArgs false

end Go.Proofs.YtahfahlbdgbfeaaGreatDoor.X
