/- What the law FnExactAtStage needs, part 4 of 5: what each function of the program that it reaches returns (printed by this session's own program, checked by Lean), and plain mathematics about it. Conditions: those of each theorem. -/
import Derived.Test.YtahfahlbdgbfeaaDoorZFnExactAtStage2
import Derived.Test.YtahfahlbdgbfeaaDoorYG
-- XspecAtStageF45
namespace Go.Proofs.YtahfahlbdgbfeaaDoor.X
open Ho (bS eS)
open Go.RowKit Go.Proofs.YtahfahlbdgbfeaaDoorW.PrintWords Go.Proofs.YtahfahlbdgbfeaaDoorW.PrintLast Go.Proofs.YtahfahlbdgbfeaaDoorW.PrintMore
attribute [local go_sem] max2_int min2_int max_two min_two max_three min_three max_four min_four   -- for this text's walks alone
set_option linter.unusedVariables false
set_option linter.unusedSimpArgs false

open Sq (I O Z)
/-! ### spec_AtStage: function 45 -/
mutual
def spec_AtStage.j0 : Nat → List (S41) → Int → List Int → Bool → Option (List Int × Bool)
  | 0, _, _, _, _ => none
  | k + 1, x0, x1, x6, x19 => if x19 = true then (some (x6, false)) else (spec_AtStage.l0 k x0 x1 x6 (([] : List (S41))) 0)
def spec_AtStage.l0 : Nat → List (S41) → Int → List Int → List (S41) → Int → Option (List Int × Bool)
  | 0, _, _, _, _, _ => none
  | k + 1, x0, x1, x6, x7, x8 => if x8 < (x0.length : Int) then (spec_AtStage.l1 k x0 x1 x6 x7 x8 (x7.length : Int)) else (spec_AtStage.l2 k x1 x6 x7 0)
def spec_AtStage.l1 : Nat → List (S41) → Int → List Int → List (S41) → Int → Int → Option (List Int × Bool)
  | 0, _, _, _, _, _, _ => none
  | k + 1, x0, x1, x6, x7, x8, x9 => if x9 > 0 then (if 0 ≤ (wrap64 (x9 - 1)) then (if (wrap64 (x9 - 1)) < (x7.length : Int) then (if 0 ≤ x8 then (if x8 < (x0.length : Int) then (if ((rd_T41 x7 (wrap64 (x9 - 1))).f7) > ((rd_T41 x0 x8).f7) then (spec_AtStage.l1 k x0 x1 x6 x7 x8 (wrap64 (x9 - 1))) else ((some (([] : List (S41)) : List (S41))).bind fun y111 => (if 0 ≤ x9 then (if x9 ≤ (x7.length : Int) then ((some (x7.take (x9 : Int).toNat : List (S41))).bind fun y114 => (if y111.length + y114.length < 1954687338268 then ((some (y111 ++ y114 : List (S41))).bind fun y118 => ((some (([(⟨(rd_T41 x0 x8).f0, (rd_T41 x0 x8).f1, (rd_T41 x0 x8).f2, (rd_T41 x0 x8).f3, (rd_T41 x0 x8).f4, (rd_T41 x0 x8).f5, (rd_T41 x0 x8).f6, (rd_T41 x0 x8).f7⟩ : S41)] : List (S41)) : List (S41))).bind fun y122 => (if y118.length + y122.length < 1954687338268 then ((some (y118 ++ y122 : List (S41))).bind fun y125 => ((some (x7.drop (x9 : Int).toNat : List (S41))).bind fun y128 => (if y125.length + y128.length < 1954687338268 then (spec_AtStage.l0 k x0 x1 x6 (y125 ++ y128) (wrap64 (x8 + 1))) else (none)))) else (none)))) else (none))) else (none)) else (none)))) else (none)) else (none)) else (none)) else (none)) else ((some (([] : List (S41)) : List (S41))).bind fun y135 => (if 0 ≤ x9 then (if x9 ≤ (x7.length : Int) then ((some (x7.take (x9 : Int).toNat : List (S41))).bind fun y138 => (if y135.length + y138.length < 1954687338268 then ((some (y135 ++ y138 : List (S41))).bind fun y142 => (if 0 ≤ x8 then (if x8 < (x0.length : Int) then ((some (([(⟨(rd_T41 x0 x8).f0, (rd_T41 x0 x8).f1, (rd_T41 x0 x8).f2, (rd_T41 x0 x8).f3, (rd_T41 x0 x8).f4, (rd_T41 x0 x8).f5, (rd_T41 x0 x8).f6, (rd_T41 x0 x8).f7⟩ : S41)] : List (S41)) : List (S41))).bind fun y146 => (if y142.length + y146.length < 1954687338268 then ((some (y142 ++ y146 : List (S41))).bind fun y149 => ((some (x7.drop (x9 : Int).toNat : List (S41))).bind fun y152 => (if y149.length + y152.length < 1954687338268 then (spec_AtStage.l0 k x0 x1 x6 (y149 ++ y152) (wrap64 (x8 + 1))) else (none)))) else (none))) else (none)) else (none))) else (none))) else (none)) else (none)))
def spec_AtStage.l2 : Nat → Int → List Int → List (S41) → Int → Option (List Int × Bool)
  | 0, _, _, _, _ => none
  | k + 1, x1, x6, x7, x10 => if x10 < (x7.length : Int) then (if 0 ≤ x10 then (if ((rd_T41 x7 x10).f4) = x1 then ((some (([(rd_T41 x7 x10).f0] : List Int) : List Int)).bind fun y161 => (if x6.length + y161.length < 17592186044416 then (spec_AtStage.l2 k x1 (x6 ++ y161) x7 (wrap64 (x10 + 1))) else (none))) else (spec_AtStage.l2 k x1 x6 x7 (wrap64 (x10 + 1)))) else (none)) else (some (x6, true))
end
def spec_AtStage.f (k : Nat) (l0 : List (S41)) (a1 : Int) : Option (List Int × Bool) := (some (([] : List Int) : List Int)).bind fun y101 => ((spec_l17Good.f k l0).bind fun t104 => (if t104 = true then ((spec_l1In.f a1 0 5).bind fun t105 => (spec_AtStage.j0 k l0 a1 y101 (!t105))) else (spec_AtStage.j0 k l0 a1 y101 true)))
theorem spec_AtStage.mono_l : ∀ k, (∀ y0 y1 y2 y3, LeO (spec_AtStage.j0 k y0 y1 y2 y3) (spec_AtStage.j0 (k + 1) y0 y1 y2 y3)) ∧ (∀ y0 y1 y2 y3 y4, LeO (spec_AtStage.l0 k y0 y1 y2 y3 y4) (spec_AtStage.l0 (k + 1) y0 y1 y2 y3 y4)) ∧ (∀ y0 y1 y2 y3 y4 y5, LeO (spec_AtStage.l1 k y0 y1 y2 y3 y4 y5) (spec_AtStage.l1 (k + 1) y0 y1 y2 y3 y4 y5)) ∧ (∀ y0 y1 y2 y3, LeO (spec_AtStage.l2 k y0 y1 y2 y3) (spec_AtStage.l2 (k + 1) y0 y1 y2 y3))
  | 0 => ⟨fun _ _ _ _ r h => by simp [spec_AtStage.j0] at h, fun _ _ _ _ _ r h => by simp [spec_AtStage.l0] at h, fun _ _ _ _ _ _ r h => by simp [spec_AtStage.l1] at h, fun _ _ _ _ r h => by simp [spec_AtStage.l2] at h⟩
  | k + 1 => by
    obtain ⟨ih0, ih1, ih2, ih3⟩ := spec_AtStage.mono_l k
    refine ⟨?_, ?_, ?_, ?_⟩
    · intro y0 y1 y2 y3
      unfold spec_AtStage.j0
      repeat' first
      | (with_reducible exact ih0 _ _ _ _)
      | (with_reducible exact ih1 _ _ _ _ _)
      | (with_reducible exact ih2 _ _ _ _ _ _)
      | (with_reducible exact ih3 _ _ _ _)
      | (with_reducible exact spec_l17Good.mono _ _)
      | (with_reducible exact LeO.refl _)
      | (with_reducible exact LeO.none _)
      | (with_reducible refine LeO.ite ?_ ?_)
      | (with_reducible refine LeO.bind ?_ (fun _ => ?_))
      | exact ih0 _ _ _ _
      | exact ih1 _ _ _ _ _
      | exact ih2 _ _ _ _ _ _
      | exact ih3 _ _ _ _
      | exact spec_l17Good.mono _ _
      | exact LeO.none _
      | refine LeO.ite ?_ ?_
      | refine LeO.bind ?_ (fun _ => ?_)
    · intro y0 y1 y2 y3 y4
      unfold spec_AtStage.l0
      repeat' first
      | (with_reducible exact ih0 _ _ _ _)
      | (with_reducible exact ih1 _ _ _ _ _)
      | (with_reducible exact ih2 _ _ _ _ _ _)
      | (with_reducible exact ih3 _ _ _ _)
      | (with_reducible exact spec_l17Good.mono _ _)
      | (with_reducible exact LeO.refl _)
      | (with_reducible exact LeO.none _)
      | (with_reducible refine LeO.ite ?_ ?_)
      | (with_reducible refine LeO.bind ?_ (fun _ => ?_))
      | exact ih0 _ _ _ _
      | exact ih1 _ _ _ _ _
      | exact ih2 _ _ _ _ _ _
      | exact ih3 _ _ _ _
      | exact spec_l17Good.mono _ _
      | exact LeO.none _
      | refine LeO.ite ?_ ?_
      | refine LeO.bind ?_ (fun _ => ?_)
    · intro y0 y1 y2 y3 y4 y5
      unfold spec_AtStage.l1
      repeat' first
      | (with_reducible exact ih0 _ _ _ _)
      | (with_reducible exact ih1 _ _ _ _ _)
      | (with_reducible exact ih2 _ _ _ _ _ _)
      | (with_reducible exact ih3 _ _ _ _)
      | (with_reducible exact spec_l17Good.mono _ _)
      | (with_reducible exact LeO.refl _)
      | (with_reducible exact LeO.none _)
      | (with_reducible refine LeO.ite ?_ ?_)
      | (with_reducible refine LeO.bind ?_ (fun _ => ?_))
      | exact ih0 _ _ _ _
      | exact ih1 _ _ _ _ _
      | exact ih2 _ _ _ _ _ _
      | exact ih3 _ _ _ _
      | exact spec_l17Good.mono _ _
      | exact LeO.none _
      | refine LeO.ite ?_ ?_
      | refine LeO.bind ?_ (fun _ => ?_)
    · intro y0 y1 y2 y3
      unfold spec_AtStage.l2
      repeat' first
      | (with_reducible exact ih0 _ _ _ _)
      | (with_reducible exact ih1 _ _ _ _ _)
      | (with_reducible exact ih2 _ _ _ _ _ _)
      | (with_reducible exact ih3 _ _ _ _)
      | (with_reducible exact spec_l17Good.mono _ _)
      | (with_reducible exact LeO.refl _)
      | (with_reducible exact LeO.none _)
      | (with_reducible refine LeO.ite ?_ ?_)
      | (with_reducible refine LeO.bind ?_ (fun _ => ?_))
      | exact ih0 _ _ _ _
      | exact ih1 _ _ _ _ _
      | exact ih2 _ _ _ _ _ _
      | exact ih3 _ _ _ _
      | exact spec_l17Good.mono _ _
      | exact LeO.none _
      | refine LeO.ite ?_ ?_
      | refine LeO.bind ?_ (fun _ => ?_)
theorem spec_AtStage.mono : ∀ a0 a1 k, LeO (spec_AtStage.f k a0 a1) (spec_AtStage.f (k + 1) a0 a1) := by
  intro a0 a1 k
  obtain ⟨ih0, ih1, ih2, ih3⟩ := spec_AtStage.mono_l k
  unfold spec_AtStage.f
  repeat' first
      | (with_reducible exact ih0 _ _ _ _)
      | (with_reducible exact ih1 _ _ _ _ _)
      | (with_reducible exact ih2 _ _ _ _ _ _)
      | (with_reducible exact ih3 _ _ _ _)
      | (with_reducible exact spec_l17Good.mono _ _)
      | (with_reducible exact LeO.refl _)
      | (with_reducible exact LeO.none _)
      | (with_reducible refine LeO.ite ?_ ?_)
      | (with_reducible refine LeO.bind ?_ (fun _ => ?_))
      | exact ih0 _ _ _ _
      | exact ih1 _ _ _ _ _
      | exact ih2 _ _ _ _ _ _
      | exact ih3 _ _ _ _
      | exact spec_l17Good.mono _ _
      | exact LeO.none _
      | refine LeO.ite ?_ ?_
      | refine LeO.bind ?_ (fun _ => ?_)
def spec_AtStage.T9 : Bool × List (List Nat × List Nat) := (true, [([], []), ([0], [0]), ([1], [1]), ([2], [2]), ([2], [2]), ([4, 2], [2, 4]), ([3, 5, 2], [2, 3, 5]), ([6, 2], [2, 6]), ([7, 2], [2, 7]), ([2], [2]), ([2], [2]), ([9, 10, 2], [2, 9, 10]), ([11, 2], [2, 11]), ([12, 2], [2, 12]), ([8, 13, 2], [2, 8, 13]), ([2, 14], [2, 14])])
def spec_AtStage.B9 : List Nat := [0, 1, 3, 7, 7, 23, 63, 127, 255, 7, 7, 1543, 3591, 7687, 16383, 32767]
theorem spec_AtStage.tab9 : rtab .any (opsOf Tryd.f45 9) = spec_AtStage.T9 := by kernel_rfl
theorem spec_AtStage.bits9 : waitsOk spec_AtStage.T9.2 spec_AtStage.B9 = true := by kernel_rfl
def spec_AtStage.T11 : Bool × List (List Nat × List Nat) := (true, [([], []), ([], []), ([], []), ([1, 2], [1, 2]), ([0, 3], [0, 3]), ([], []), ([], []), ([5, 6], [5, 6]), ([7], [7]), ([8], [8]), ([4, 9, 4], [4, 9]), ([], []), ([], []), ([11, 12], [11, 12]), ([10, 13, 10], [10, 13]), ([14, 14, 0, 1, 2, 3, 4, 5, 6, 7, 8, 9, 10, 11, 12, 13, 14], [1, 11, 14])])
def spec_AtStage.B11 : List Nat := [0, 0, 0, 6, 15, 0, 0, 96, 224, 480, 1023, 0, 0, 6144, 16383, 32767]
theorem spec_AtStage.tab11 : rtab .any (opsOf Tryd.f45 11) = spec_AtStage.T11 := by kernel_rfl
theorem spec_AtStage.bits11 : waitsOk spec_AtStage.T11.2 spec_AtStage.B11 = true := by kernel_rfl
set_option maxHeartbeats 8000000 in
set_option maxRecDepth 100000 in
theorem spec_AtStage.calls (k : Nat) (A0 : Option Addr) (c0 : Nat) (l0 : List (S41)) (a1 : Int) (r1 : List Int) (r2 : Bool) (w : World) (hr0 : Kd.C k41 w A0 l0.length l0) (hc0 : l0.length ≤ c0) (h : spec_AtStage.f k l0 a1 = some (r1, r2)) :
  Calls Tryd.prog 45 #[.slice A0 l0.length c0, .int .i64 a1] w fun e w' => ∃ v0_ : Value, e = .returned (.tuple #[v0_, .bool r2]) ∧ Kd.R (Kd.int .i64) 3 w' w.heap.size (fun _ => True) v0_ r1 ∧ Below w.heap.size w w' := by
 have hu41 := Tryd.underlying41
 have HR0 := Aside0.mk hr0
 have HC0 := Aside0.mk hc0
 clear hr0 hc0
 have HB := Aside0.mk (Below.refl w.heap.size w)
 have H : ((some (([] : List Int) : List Int)).bind fun y101 => ((spec_l17Good.f k l0).bind fun t104 => (if t104 = true then ((spec_l1In.f a1 0 5).bind fun t105 => (spec_AtStage.j0 k l0 a1 y101 (!t105))) else (spec_AtStage.j0 k l0 a1 y101 true)))) = some (r1, r2) := h
 clear h
 obtain ⟨y101, hy101⟩ : ∃ y_ : List Int, y_ = (([] : List Int)) := ⟨_, rfl⟩
 replace H : ((spec_l17Good.f k l0).bind fun t104 => (if t104 = true then ((spec_l1In.f a1 0 5).bind fun t105 => (spec_AtStage.j0 k l0 a1 y101 (!t105))) else (spec_AtStage.j0 k l0 a1 y101 true))) = some (r1, r2) := by first | (rw [hy101]; with_reducible exact H) | (have H2_ := (Option.bind_some _ _).symm.trans H; rw [hy101]; with_reducible exact H2_) | (have H2_ := (Option.bind_some _ _).symm.trans H; with_reducible exact H2_) | with_reducible exact H | (rw [hy101]; exact H) | exact H
 have Ny101 := Aside0.mk hy101
 clear hy101
 have HC3 := Aside0.mk H
 clear H
 go_enter Tryd.func45, Tryd.ntmps45
 go_upto_region 2 with (first | ((with_reducible refine gate_dst (N := 11) rfl ?_); refine Kd.R_lit (Kd.int .i64) _ 3 ?hg (N := 11) ?hd (xs := ([] : List Int)) (inner := []) (ok := fun _ => True) (okp := fun _ => True) ?hr ?hp (fun _ hk => hk) trivial (Below.refl _ _) (Nat.le_refl _) (by simp) ?_; (case hd => rfl); (case hg => rfl); (case hr => first | (go_simp; done) | (go_simp; rfl)); (case hp => exact (Reps.none _ _)); intro v102 w4 ho5 hb hg_ hnew_; clear hg_ hnew_; (first | rw [← Ny101.out] at ho5 | (simp only [Int.reduceToNat] at ho5; rw [← Ny101.out] at ho5)); have n0_ := Aside0.mk (Kd.R_lower ho5 (below_size (by exact eS HB.out))); have n1_ := Aside0.mk (below_step (by exact eS HB.out) hb); clear HB; have HO103 := n0_; have HB := n1_; clear n0_ n1_; clear hb ho5))
 (try simp only [Act.put, List.setIfInBounds_toArray, List.set_cons_zero, List.set_cons_succ])
 go_cut [19] (fun v19 wc => ∃ (kq : Nat) (x19_2 : Bool), v19 = .bool x19_2 ∧ Aside0 (spec_AtStage.j0 kq l0 a1 y101 x19_2 = some (r1, r2)) ∧ Aside0 (kq ≤ k) ∧ Aside0 (Kd.R (Kd.int .i64) 3 wc w.heap.size (fun _ => True) v102 y101) ∧ Aside0 (Below w.heap.size w wc))
 case first =>
  have H := HC3.out
  clear HC3
  replace H := Option.bind_eq_some_iff.mp H
  obtain ⟨t104, A60, H⟩ := H
  replace H : (if t104 = true then ((spec_l1In.f a1 0 5).bind fun t105 => (spec_AtStage.j0 k l0 a1 y101 (!t105))) else (spec_AtStage.j0 k l0 a1 y101 true)) = some (r1, r2) := H
  have A6 := Aside0.mk A60
  clear A60
  by_cases c7 : t104 = true
  ·subst c7
   have H1 : ((spec_l1In.f a1 0 5).bind fun t105 => (spec_AtStage.j0 k l0 a1 y101 (!t105))) = some (r1, r2) := by rw [if_pos rfl] at H; exact H
   clear H
   have H := H1
   clear H1
   replace H := Option.bind_eq_some_iff.mp H
   obtain ⟨t105, A80, H⟩ := H
   replace H : (spec_AtStage.j0 k l0 a1 y101 (!t105)) = some (r1, r2) := H
   have A8 := Aside0.mk A80
   clear A80
   have H' := Aside0.mk H
   clear H
   go_wp2_with (first | ((with_reducible refine gate_callee (f := 53) rfl ?_); refine goesL_ (some 13) rfl rfl Tryd.func53 (by kernel_rfl) rfl #[.slice A0 l0.length c0] rfl (by (try simp only [List.map_toArray, List.map_cons, List.map_nil]); first | done | rfl | (simp only [List.length_drop, List.length_take]; rfl)) ?_; (with_reducible refine (spec_l17Good.calls k _ _ l0 true _ ?side1 ?side2 A6.out).mono ?_); (case side1 => repeat (first | exact (Kd.C_below HR0.out HB.out) | (with_reducible refine Kd.C_alloc ?_ _) | (with_reducible refine Kd.C_drewN ?_ _) | (with_reducible refine Kd.C_drew ?_))); (case side2 => exact HC0.out); rintro e w9 ⟨rfl, hb⟩; refine ⟨_, rfl, ?_⟩; have n0_ := Aside0.mk (Kd.R_below (by exact Ho.RS <| HO103.out) hb); have n1_ := Aside0.mk (below_step (by exact eS HB.out) hb); clear HO103; clear HB; have HO103 := n0_; have HB := n1_; clear n0_ n1_; (try clear hb); (try clear hb2); (try clear hk); (try clear hi)) | (go_at_call 88; (with_reducible refine (spec_l1In.calls a1 0 5 t105 _ A8.out).mono ?_); rintro e w' ⟨rfl, ⟨nd, rfl⟩⟩))
   go_meet
   case rel => exact ⟨_, (!t105), (by first | rfl | (simp; done) | (simp [*]; done)), H', ⟨by first | omega | exact Nat.le_refl _⟩, ⟨by exact Ho.RS <| HO103.out⟩, ⟨by exact eS HB.out⟩⟩
  ·replace c7 := Bool.eq_false_iff.mpr c7
   subst c7
   have H1 : (spec_AtStage.j0 k l0 a1 y101 true) = some (r1, r2) := by rw [if_neg (show ¬ (false = true) by decide)] at H; exact H
   clear H
   have H := H1
   clear H1
   have H' := Aside0.mk H
   clear H
   go_wp2_with (first | ((with_reducible refine gate_callee (f := 53) rfl ?_); refine goesL_ (some 13) rfl rfl Tryd.func53 (by kernel_rfl) rfl #[.slice A0 l0.length c0] rfl (by (try simp only [List.map_toArray, List.map_cons, List.map_nil]); first | done | rfl | (simp only [List.length_drop, List.length_take]; rfl)) ?_; (with_reducible refine (spec_l17Good.calls k _ _ l0 false _ ?side1 ?side2 A6.out).mono ?_); (case side1 => repeat (first | exact (Kd.C_below HR0.out HB.out) | (with_reducible refine Kd.C_alloc ?_ _) | (with_reducible refine Kd.C_drewN ?_ _) | (with_reducible refine Kd.C_drew ?_))); (case side2 => exact HC0.out); rintro e w10 ⟨rfl, hb⟩; refine ⟨_, rfl, ?_⟩; have n0_ := Aside0.mk (Kd.R_below (by exact Ho.RS <| HO103.out) hb); have n1_ := Aside0.mk (below_step (by exact eS HB.out) hb); clear HO103; clear HB; have HO103 := n0_; have HB := n1_; clear n0_ n1_; (try clear hb); (try clear hb2); (try clear hk); (try clear hi)))
   go_meet
   case rel => exact ⟨_, (true), (by first | rfl | (simp; done) | (simp [*]; done)), H', ⟨by first | omega | exact Nat.le_refl _⟩, ⟨by exact Ho.RS <| HO103.out⟩, ⟨by exact eS HB.out⟩⟩
 case rest =>
  clear HC3
  try clear p2
  try clear c4
  try clear c5
  try clear c7
  obtain ⟨kq, x19_2, rfl, HA, HJ2, HO_6, HB⟩ := hcut
  cases kq with
  | zero => exact absurd HA.out (by simp [spec_AtStage.j0])
  | succ kj2 =>
   have H := HA.out
   clear HA
   simp only [spec_AtStage.j0] at H
   by_cases c11 : x19_2 = true
   ·subst c11
    have H1 : (some (y101, false)) = some (r1, r2) := by rw [if_pos rfl] at H; exact H
    clear H
    have H := H1
    clear H1
    simp only [Option.some.injEq, Prod.mk.injEq] at H
    obtain ⟨rfl, rfl⟩ := H
    go_wp2
    go_ret2
    exact ⟨_, by first | rfl | (simp [errW_none, errW_some] <;> rfl) | (simp [*, errW_none, errW_some] <;> rfl), by exact Ho.RS <| HO_6.out, by exact eS HB.out⟩
   ·replace c11 := Bool.eq_false_iff.mpr c11
    subst c11
    have H1 : (spec_AtStage.l0 kj2 l0 a1 y101 (([] : List (S41))) 0) = some (r1, r2) := by rw [if_neg (show ¬ (false = true) by decide)] at H; exact H
    clear H
    have H := H1
    clear H1
    obtain ⟨y106, hy106⟩ : ∃ y_ : List (S41), y_ = (([] : List (S41))) := ⟨_, rfl⟩
    replace H : (spec_AtStage.l0 kj2 l0 a1 y101 y106 0) = some (r1, r2) := by first | (rw [hy106]; with_reducible exact H) | (have H2_ := (Option.bind_some _ _).symm.trans H; rw [hy106]; with_reducible exact H2_) | (have H2_ := (Option.bind_some _ _).symm.trans H; with_reducible exact H2_) | with_reducible exact H | (rw [hy106]; exact H) | exact H
    have Ny106 := Aside0.mk hy106
    clear hy106
    have H' := Aside0.mk H
    clear H
    go_wp2_with (first | ((with_reducible refine gate_dst (N := 21) rfl ?_); refine Kd.R_lit k41 _ 41 ?hg (N := 21) ?hd (xs := ([] : List (S41))) (inner := []) (ok := fun _ => True) (okp := fun _ => True) ?hr ?hp (fun _ hk => hk) trivial (Below.refl _ _) (Nat.le_refl _) (by simp) ?_; (case hd => rfl); (case hg => rfl); (case hr => first | (go_simp; done) | (go_simp; rfl)); (case hp => exact (Reps.none _ _)); intro v107 w12 ho13 hb hg_ hnew_; clear hg_ hnew_; (first | rw [← Ny106.out] at ho13 | (simp only [Int.reduceToNat] at ho13; rw [← Ny106.out] at ho13)); have n0_ := Aside0.mk (Kd.R_below (by exact Ho.RS <| HO_6.out) hb); have n1_ := Aside0.mk (Kd.R_lower ho13 (below_size (by exact eS HB.out))); have n2_ := Aside0.mk (below_step (by exact eS HB.out) hb); clear HO_6; clear HB; have HO_6 := n0_; have HO108 := n1_; have HB := n2_; clear n0_ n1_ n2_; clear hb ho13))
    go_loopg [7, 8] kj2 (fun kq v7 v8 w' => ∃ (x7_2 : List (S41)) (x8_2 : Int), v8 = .int .i64 x8_2 ∧ Aside0 (spec_AtStage.l0 kq l0 a1 y101 x7_2 x8_2 = some (r1, r2)) ∧ Aside0 (kq ≤ kj2) ∧ Aside0 (Kd.R (Kd.int .i64) 3 w' w.heap.size (fun _ => True) v102 y101) ∧ Aside0 (Kd.R k41 41 w' w.heap.size (fun _ => True) v7 x7_2) ∧ Aside0 (Below w.heap.size w w'))
    case atStart => exact ⟨(y106), (0), (by first | rfl | (simp; done) | (simp [*]; done)), H', ⟨Nat.le_refl _⟩, ⟨by exact Ho.RS <| HO_6.out⟩, ⟨by exact Ho.RS <| HO108.out⟩, ⟨by exact eS HB.out⟩⟩
    case round =>
     clear H'
     try clear c1
     try clear p2
     try clear c4
     try clear c5
     try clear c7
     try clear c11
     try clear p2
     obtain ⟨x7_2, x8_2, rfl, HA, HK2, HO_6, HO_7, HB⟩ := hrel
     cases gk with
     | zero => exact absurd HA.out (by simp [spec_AtStage.l0])
     | succ k2 =>
      have H := HA.out
      clear HA
      simp only [spec_AtStage.l0] at H
      by_cases c14 : x8_2 < (l0.length : Int)
      ·rw [if_pos c14] at H
       have c14b0 : decide (x8_2 < (l0.length : Int)) = true := decide_eq_true c14
       clear c14
       have H' := Aside0.mk H
       clear H
       obtain ⟨Ao15, co15, eo15⟩ := Kd.R_slice HO_7.out
       subst eo15
       go_wp2
       go_loopg [9] k2 (fun kq v9 w' => ∃ (x9_3 : Int), v9 = .int .i64 x9_3 ∧ Aside0 (spec_AtStage.l1 kq l0 a1 y101 x7_2 x8_2 x9_3 = some (r1, r2)) ∧ Aside0 (kq ≤ k2) ∧ Aside0 (Kd.R (Kd.int .i64) 3 w' w.heap.size (fun _ => True) v102 y101) ∧ Aside0 (Kd.R k41 41 w' w.heap.size (fun _ => True) (.slice Ao15 x7_2.length co15) x7_2) ∧ Aside0 (Below w.heap.size w w'))
       case atStart => exact ⟨((x7_2.length : Int)), (by first | rfl | (simp; done) | (simp [*]; done)), H', ⟨Nat.le_refl _⟩, ⟨by exact Ho.RS <| HO_6.out⟩, ⟨by exact Ho.RS <| HO_7.out⟩, ⟨by exact eS HB.out⟩⟩
       case round =>
        clear H'
        try clear c1
        try clear p2
        try clear c4
        try clear c5
        try clear c7
        try clear c11
        try clear c14
        try clear c14b0
        try clear p2
        obtain ⟨x9_3, rfl, HA, HK3, HO_6, HO_7, HB⟩ := hrel
        cases gk with
        | zero => exact absurd HA.out (by simp [spec_AtStage.l1])
        | succ k3 =>
         have H := HA.out
         clear HA
         simp only [spec_AtStage.l1] at H
         by_cases c16 : x9_3 > 0
         ·rw [if_pos c16] at H
          have c16b0 : decide (0 < x9_3) = true := decide_eq_true c16
          clear c16
          obtain ⟨ji17, hji17⟩ : ∃ j_ : Int, (wrap64 (x9_3 - 1)) = j_ := ⟨_, rfl⟩
          replace H : (if 0 ≤ (ji17) then (if (ji17) < (x7_2.length : Int) then (if 0 ≤ x8_2 then (if x8_2 < (l0.length : Int) then (if ((rd_T41 x7_2 (ji17)).f7) > ((rd_T41 l0 x8_2).f7) then (spec_AtStage.l1 k3 l0 a1 y101 x7_2 x8_2 ji17) else ((some (([] : List (S41)) : List (S41))).bind fun y111 => (if 0 ≤ x9_3 then (if x9_3 ≤ (x7_2.length : Int) then ((some (x7_2.take (x9_3 : Int).toNat : List (S41))).bind fun y114 => (if y111.length + y114.length < 1954687338268 then ((some (y111 ++ y114 : List (S41))).bind fun y118 => ((some (([(⟨(rd_T41 l0 x8_2).f0, (rd_T41 l0 x8_2).f1, (rd_T41 l0 x8_2).f2, (rd_T41 l0 x8_2).f3, (rd_T41 l0 x8_2).f4, (rd_T41 l0 x8_2).f5, (rd_T41 l0 x8_2).f6, (rd_T41 l0 x8_2).f7⟩ : S41)] : List (S41)) : List (S41))).bind fun y122 => (if y118.length + y122.length < 1954687338268 then ((some (y118 ++ y122 : List (S41))).bind fun y125 => ((some (x7_2.drop (x9_3 : Int).toNat : List (S41))).bind fun y128 => (if y125.length + y128.length < 1954687338268 then (spec_AtStage.l0 k3 l0 a1 y101 (y125 ++ y128) (wrap64 (x8_2 + 1))) else (none)))) else (none)))) else (none))) else (none)) else (none)))) else (none)) else (none)) else (none)) else (none)) = some (r1, r2) := by first | (rw [hji17] at H; exact H) | (simp only [hji17] at H ⊢; exact H)
          have hji17w : (IntKind.i64.wrap (x9_3 - 1)) = ji17 := (i64_w _).trans hji17
          by_cases c18 : 0 ≤ (ji17)
          ·rw [if_pos c18] at H
           have c18b0 : decide (0 ≤ (ji17)) = true := decide_eq_true c18
           clear c18
           by_cases c19 : (ji17) < (x7_2.length : Int)
           ·rw [if_pos c19] at H
            have c19b0 : decide ((ji17) < (x7_2.length : Int)) = true := decide_eq_true c19
            clear c19
            by_cases c20 : 0 ≤ x8_2
            ·rw [if_pos c20] at H
             have c20b0 : decide (0 ≤ x8_2) = true := decide_eq_true c20
             clear c20
             by_cases c21 : x8_2 < (l0.length : Int)
             ·rw [if_pos c21] at H
              have c21b0 : decide (x8_2 < (l0.length : Int)) = true := decide_eq_true c21
              clear c21
              by_cases c22 : ((rd_T41 x7_2 (ji17)).f7) > ((rd_T41 l0 x8_2).f7)
              ·rw [if_pos c22] at H
               have c22b0 : decide (((rd_T41 l0 x8_2).f7) < ((rd_T41 x7_2 (ji17)).f7)) = true := decide_eq_true c22
               clear c22
               have H' := Aside0.mk H
               clear H
               try go_wp2
               have n0_ := Aside0.mk (Kd.R_drew HO_6.out)
               have n1_ := Aside0.mk (Kd.R_drew HO_7.out)
               have n2_ := Aside0.mk (below_drew1 HB.out)
               clear HO_6
               clear HO_7
               clear HB
               have HO_6 := n0_
               have HO_7 := n1_
               have HB := n2_
               clear n0_ n1_ n2_
               have p109 : 0 ≤ ((ji17) : Int) := of_decide_eq_true (by first | (with_reducible assumption) | assumption)
               have q109 : (ji17) < (x7_2.length : Int) := of_decide_eq_true (by first | (with_reducible assumption) | assumption)
               obtain ⟨ad109, e109, hx109_0, hx109_1, hx109_2, hx109_3, hx109_4, hx109_5, hx109_6, hx109_7⟩ := at_T41 (Kd.R_reads' HO_7.out).2.2 (ji17) p109 q109
               cases e109
               replace p109 := eq_true p109
               replace q109 := eq_true q109
               have p110 : 0 ≤ (x8_2 : Int) := of_decide_eq_true (by first | (with_reducible assumption) | assumption)
               have q110 : x8_2 < (l0.length : Int) := of_decide_eq_true (by first | (with_reducible assumption) | assumption)
               obtain ⟨ad110, e110, hx110_0, hx110_1, hx110_2, hx110_3, hx110_4, hx110_5, hx110_6, hx110_7⟩ := at_T41 HR0.out x8_2 p110 q110
               have hw110_7 := hx110_7
               have hw110_6 := hx110_6
               have hw110_5 := hx110_5
               have hw110_4 := hx110_4
               have hw110_3 := hx110_3
               have hw110_2 := hx110_2
               have hw110_1 := hx110_1
               have hw110_0 := hx110_0
               cases e110
               replace hx110_0 := (HB.out.cell (World.block_lt_of_cell? w _ hx110_0)).trans hx110_0
               replace hx110_1 := (HB.out.cell (World.block_lt_of_cell? w _ hx110_1)).trans hx110_1
               replace hx110_2 := (HB.out.cell (World.block_lt_of_cell? w _ hx110_2)).trans hx110_2
               replace hx110_3 := (HB.out.cell (World.block_lt_of_cell? w _ hx110_3)).trans hx110_3
               replace hx110_4 := (HB.out.cell (World.block_lt_of_cell? w _ hx110_4)).trans hx110_4
               replace hx110_5 := (HB.out.cell (World.block_lt_of_cell? w _ hx110_5)).trans hx110_5
               replace hx110_6 := (HB.out.cell (World.block_lt_of_cell? w _ hx110_6)).trans hx110_6
               replace hx110_7 := (HB.out.cell (World.block_lt_of_cell? w _ hx110_7)).trans hx110_7
               replace p110 := eq_true p110
               replace q110 := eq_true q110
               refine start_ (n := 16) (S := fun w' => w'.cell? (ad109.add (((ji17)).toNat * 8)) = some (.int .i64 ((rd_T41 x7_2 (ji17)).f0)) ∧ w'.cell? ⟨(ad109.add (((ji17)).toNat * 8)).block, (ad109.add (((ji17)).toNat * 8)).off + 1, none⟩ = some (.string ((rd_T41 x7_2 (ji17)).f1)) ∧ w'.cell? ⟨(ad109.add (((ji17)).toNat * 8)).block, (ad109.add (((ji17)).toNat * 8)).off + 2, none⟩ = some (.int .i64 ((rd_T41 x7_2 (ji17)).f2)) ∧ w'.cell? ⟨(ad109.add (((ji17)).toNat * 8)).block, (ad109.add (((ji17)).toNat * 8)).off + 3, none⟩ = some (.int .i64 ((rd_T41 x7_2 (ji17)).f3)) ∧ w'.cell? ⟨(ad109.add (((ji17)).toNat * 8)).block, (ad109.add (((ji17)).toNat * 8)).off + 4, none⟩ = some (.int .i64 ((rd_T41 x7_2 (ji17)).f4)) ∧ w'.cell? ⟨(ad109.add (((ji17)).toNat * 8)).block, (ad109.add (((ji17)).toNat * 8)).off + 5, none⟩ = some (.int .i64 ((rd_T41 x7_2 (ji17)).f5)) ∧ w'.cell? ⟨(ad109.add (((ji17)).toNat * 8)).block, (ad109.add (((ji17)).toNat * 8)).off + 6, none⟩ = some (.int .i64 ((rd_T41 x7_2 (ji17)).f6)) ∧ w'.cell? ⟨(ad109.add (((ji17)).toNat * 8)).block, (ad109.add (((ji17)).toNat * 8)).off + 7, none⟩ = some (.int .i64 ((rd_T41 x7_2 (ji17)).f7)) ∧ w'.cell? (ad110.add ((x8_2).toNat * 8)) = some (.int .i64 ((rd_T41 l0 x8_2).f0)) ∧ w'.cell? ⟨(ad110.add ((x8_2).toNat * 8)).block, (ad110.add ((x8_2).toNat * 8)).off + 1, none⟩ = some (.string ((rd_T41 l0 x8_2).f1)) ∧ w'.cell? ⟨(ad110.add ((x8_2).toNat * 8)).block, (ad110.add ((x8_2).toNat * 8)).off + 2, none⟩ = some (.int .i64 ((rd_T41 l0 x8_2).f2)) ∧ w'.cell? ⟨(ad110.add ((x8_2).toNat * 8)).block, (ad110.add ((x8_2).toNat * 8)).off + 3, none⟩ = some (.int .i64 ((rd_T41 l0 x8_2).f3)) ∧ w'.cell? ⟨(ad110.add ((x8_2).toNat * 8)).block, (ad110.add ((x8_2).toNat * 8)).off + 4, none⟩ = some (.int .i64 ((rd_T41 l0 x8_2).f4)) ∧ w'.cell? ⟨(ad110.add ((x8_2).toNat * 8)).block, (ad110.add ((x8_2).toNat * 8)).off + 5, none⟩ = some (.int .i64 ((rd_T41 l0 x8_2).f5)) ∧ w'.cell? ⟨(ad110.add ((x8_2).toNat * 8)).block, (ad110.add ((x8_2).toNat * 8)).off + 6, none⟩ = some (.int .i64 ((rd_T41 l0 x8_2).f6)) ∧ w'.cell? ⟨(ad110.add ((x8_2).toNat * 8)).block, (ad110.add ((x8_2).toNat * 8)).off + 7, none⟩ = some (.int .i64 ((rd_T41 l0 x8_2).f7))) (ds := []) #[O,O,O,O,O,O,O,O,O,O,O,O,O,O,O,O] (by kernel_rfl) rfl rfl ⟨hx109_0, hx109_1, hx109_2, hx109_3, hx109_4, hx109_5, hx109_6, hx109_7, ((HB.out.cell (World.block_lt_of_cell? w _ hw110_0)).trans hw110_0), ((HB.out.cell (World.block_lt_of_cell? w _ hw110_1)).trans hw110_1), ((HB.out.cell (World.block_lt_of_cell? w _ hw110_2)).trans hw110_2), ((HB.out.cell (World.block_lt_of_cell? w _ hw110_3)).trans hw110_3), ((HB.out.cell (World.block_lt_of_cell? w _ hw110_4)).trans hw110_4), ((HB.out.cell (World.block_lt_of_cell? w _ hw110_5)).trans hw110_5), ((HB.out.cell (World.block_lt_of_cell? w _ hw110_6)).trans hw110_6), ((HB.out.cell (World.block_lt_of_cell? w _ hw110_7)).trans hw110_7)⟩ (fun hHeld => ?_); refine with_tabW spec_AtStage.tab9 spec_AtStage.bits9 (fun HT_ HW_ => ?_)
               generalize wr.drew = w23 at HO_6 HO_7 HB hx109_0 hx109_1 hx109_2 hx109_3 hx109_4 hx109_5 hx109_6 hx109_7 hx110_0 hx110_1 hx110_2 hx110_3 hx110_4 hx110_5 hx110_6 hx110_7 hHeld ⊢
               refine pure_ (i := 0) (N := some 30) (v := ?_) (a' := ?_) #[I,O,O,O,O,O,O,O,O,O,O,O,O,O,O,O] rfl rfl (any_of HT_.out (by kernel_rfl)) (fun _ _ _ h => h) (Or.inl ⟨by rfl, ?_⟩) ?_ ?_
               rotate_left; (intro w'; go_simp; with_reducible rfl); rotate_left; (simp only [Z]; rfl)
               refine pure_ (i := 1) (N := some 31) (v := ?_) (a' := ?_) #[I,I,O,O,O,O,O,O,O,O,O,O,O,O,O,O] rfl rfl (any_of HT_.out (by kernel_rfl)) (fun _ _ _ h => h) (Or.inl ⟨by rfl, ?_⟩) ?_ ?_
               rotate_left; (intro w'; go_simp; with_reducible rfl); rotate_left; (simp only [Z]; rfl)
               refine pure_ (i := 2) (N := some 32) (v := ?_) (a' := ?_) #[I,I,I,O,O,O,O,O,O,O,O,O,O,O,O,O] rfl rfl (any_of HT_.out (by kernel_rfl)) (fun _ _ _ h => h) (Or.inl ⟨by rfl, ?_⟩) ?_ ?_
               rotate_left; (intro w'; go_simp; with_reducible rfl); rotate_left; (simp only [Z]; rfl)
               refine pure_ (i := 3) (N := some 33) (v := ?_) (a' := ?_) #[I,I,I,I,O,O,O,O,O,O,O,O,O,O,O,O] rfl rfl (any_of HT_.out (by kernel_rfl)) (fun _ _ _ h => h) (Or.inl ⟨by rfl, ?_⟩) ?_ ?_
               rotate_left; (intro w'; go_simp; with_reducible rfl); rotate_left; (simp only [Z]; rfl)
               refine pure_ (i := 4) (N := some 34) (v := ?_) (a' := ?_) #[I,I,I,I,I,O,O,O,O,O,O,O,O,O,O,O] rfl rfl (any_of HT_.out (by kernel_rfl)) (fun _ _ _ h => h) (Or.inl ⟨by rfl, ?_⟩) ?_ ?_
               rotate_left; (intro w'; go_simp; with_reducible rfl); rotate_left; (simp only [Z]; rfl)
               refine pure_ (i := 5) (N := some 35) (v := ?_) (a' := ?_) #[I,I,I,I,I,I,O,O,O,O,O,O,O,O,O,O] rfl rfl (any_of HT_.out (by kernel_rfl)) (fun _ _ _ h => h) (Or.inl ⟨by rfl, ?_⟩) ?_ ?_
               rotate_left; (intro w'; go_simp; with_reducible rfl); rotate_left; (simp only [Z]; rfl)
               refine pure_ (i := 6) (N := some 36) (v := ?_) (a' := ?_) #[I,I,I,I,I,I,I,O,O,O,O,O,O,O,O,O] rfl rfl (any_of HT_.out (by kernel_rfl)) (fun _ _ _ h => h) (Or.inl ⟨by rfl, ?_⟩) ?_ ?_
               rotate_left; (intro w'; go_simp; with_reducible rfl); rotate_left; (simp only [Z]; rfl)
               refine pure_ (i := 7) (N := some 37) (v := ?_) (a' := ?_) #[I,I,I,I,I,I,I,I,O,O,O,O,O,O,O,O] rfl rfl (any_of HT_.out (by kernel_rfl)) (fun _ _ _ h => h) (Or.inl ⟨by rfl, ?_⟩) ?_ ?_
               rotate_left; (intro w'; go_simp; with_reducible rfl); rotate_left; (simp only [Z]; rfl)
               refine pure_ (i := 9) (N := some 39) (v := ?_) (a' := ?_) #[I,I,I,I,I,I,I,I,O,I,O,O,O,O,O,O] rfl rfl (any_of HT_.out (by kernel_rfl)) (fun _ _ _ h => h) (Or.inl ⟨by rfl, ?_⟩) ?_ ?_
               rotate_left; (intro w'; go_simp; with_reducible rfl); rotate_left; (simp only [Z]; rfl)
               refine pure_ (i := 10) (N := some 40) (v := ?_) (a' := ?_) #[I,I,I,I,I,I,I,I,O,I,I,O,O,O,O,O] rfl rfl (any_of HT_.out (by kernel_rfl)) (fun _ _ _ h => h) (Or.inl ⟨by rfl, ?_⟩) ?_ ?_
               rotate_left; (intro w'; go_simp; with_reducible rfl); rotate_left; (simp only [Z]; rfl)
               refine pure_ (i := 11) (N := some 41) (v := ?_) (a' := ?_) #[I,I,I,I,I,I,I,I,O,I,I,I,O,O,O,O] rfl rfl (any_of HT_.out (by kernel_rfl)) (fun _ _ _ h => h) (Or.inl ⟨by rfl, ?_⟩) ?_ ?_
               rotate_left; (intro w'; go_simp; with_reducible rfl); rotate_left; (simp only [Z]; rfl)
               refine pure_ (i := 12) (N := some 42) (v := ?_) (a' := ?_) #[I,I,I,I,I,I,I,I,O,I,I,I,I,O,O,O] rfl rfl (any_of HT_.out (by kernel_rfl)) (fun _ _ _ h => h) (Or.inl ⟨by rfl, ?_⟩) ?_ ?_
               rotate_left; (intro w'; go_simp; with_reducible rfl); rotate_left; (simp only [Z]; rfl)
               refine take_ (i := 8) (N := some 38) (v := ?_) (a' := ?_) #[I,I,I,I,I,I,I,I,I,I,I,I,I,O,O,O] rfl rfl (take_ofW HT_.out HW_.out (by kernel_rfl)) (fun _ _ _ h => h) (Or.inl ⟨by rfl, ?_⟩) hHeld ?_ ?_
               rotate_left; (rintro w' ⟨s0, s1, s2, s3, s4, s5, s6, s7, s8, s9, s10, s11, s12, s13, s14, s15⟩; go_simp; with_reducible rfl); rotate_left; (simp only [Z]; rfl)
               refine take_ (i := 13) (N := some 43) (v := ?_) (a' := ?_) #[I,I,I,I,I,I,I,I,I,I,I,I,I,I,O,O] rfl rfl (take_ofW HT_.out HW_.out (by kernel_rfl)) (fun _ _ _ h => h) (Or.inl ⟨by rfl, ?_⟩) hHeld ?_ ?_
               rotate_left; (rintro w' ⟨s0, s1, s2, s3, s4, s5, s6, s7, s8, s9, s10, s11, s12, s13, s14, s15⟩; go_simp; with_reducible rfl); rotate_left; (simp only [Z]; rfl)
               refine pure_ (i := 14) (N := some 44) (v := ?_) (a' := ?_) #[I,I,I,I,I,I,I,I,I,I,I,I,I,I,I,O] rfl rfl (any_of HT_.out (by kernel_rfl)) (fun _ _ _ h => h) (Or.inl ⟨by rfl, ?_⟩) ?_ ?_
               rotate_left; (intro w'; go_simp; with_reducible rfl); rotate_left; (simp only [Z]; rfl)
               refine pure_ (i := 15) (N := some 45) (v := ?_) (a' := ?_) #[I,I,I,I,I,I,I,I,I,I,I,I,I,I,I,I] rfl rfl (any_of HT_.out (by kernel_rfl)) (fun _ _ _ h => h) (Or.inl ⟨by rfl, ?_⟩) ?_ ?_
               rotate_left; (intro w'; go_simp; with_reducible rfl); rotate_left; (simp only [Z]; rfl)
               refine done_ (done_of HT_.out (by kernel_rfl)) ?_
               try go_wp2
               go_roundg k3
               case measure => have := HJ2.out; have := HK2.out; have := HK3.out; omega
               case rel => exact ⟨(ji17), (by first | rfl | (simp; done) | (simp only [← hji17] <;> (first | rfl | simp)) | (simp [*]; done)), H', ⟨by have := HJ2.out; have := HK2.out; have := HK3.out; omega⟩, ⟨by exact Ho.RS <| HO_6.out⟩, ⟨by exact Ho.RS <| HO_7.out⟩, ⟨by exact eS HB.out⟩⟩
              ·rw [if_neg c22] at H
               have c22b0 : decide (((rd_T41 l0 x8_2).f7) < ((rd_T41 x7_2 (ji17)).f7)) = false := decide_eq_false c22
               clear c22
               obtain ⟨y111, hy111⟩ : ∃ y_ : List (S41), y_ = (([] : List (S41))) := ⟨_, rfl⟩
               replace H : (if 0 ≤ x9_3 then (if x9_3 ≤ (x7_2.length : Int) then ((some (x7_2.take (x9_3 : Int).toNat : List (S41))).bind fun y114 => (if y111.length + y114.length < 1954687338268 then ((some (y111 ++ y114 : List (S41))).bind fun y118 => ((some (([(⟨(rd_T41 l0 x8_2).f0, (rd_T41 l0 x8_2).f1, (rd_T41 l0 x8_2).f2, (rd_T41 l0 x8_2).f3, (rd_T41 l0 x8_2).f4, (rd_T41 l0 x8_2).f5, (rd_T41 l0 x8_2).f6, (rd_T41 l0 x8_2).f7⟩ : S41)] : List (S41)) : List (S41))).bind fun y122 => (if y118.length + y122.length < 1954687338268 then ((some (y118 ++ y122 : List (S41))).bind fun y125 => ((some (x7_2.drop (x9_3 : Int).toNat : List (S41))).bind fun y128 => (if y125.length + y128.length < 1954687338268 then (spec_AtStage.l0 k3 l0 a1 y101 (y125 ++ y128) (wrap64 (x8_2 + 1))) else (none)))) else (none)))) else (none))) else (none)) else (none)) = some (r1, r2) := by first | (rw [hy111]; with_reducible exact H) | (have H2_ := (Option.bind_some _ _).symm.trans H; rw [hy111]; with_reducible exact H2_) | (have H2_ := (Option.bind_some _ _).symm.trans H; with_reducible exact H2_) | with_reducible exact H | (rw [hy111]; exact H) | exact H
               have Ny111 := Aside0.mk hy111
               clear hy111
               by_cases c24 : 0 ≤ x9_3
               ·rw [if_pos c24] at H
                have c24b0 := eq_true c24
                have c24b1 : decide (0 ≤ x9_3) = true := decide_eq_true c24
                clear c24
                by_cases c25 : x9_3 ≤ (x7_2.length : Int)
                ·rw [if_pos c25] at H
                 have c25b0 := eq_true c25
                 have c25b1 : decide (x9_3 ≤ (x7_2.length : Int)) = true := decide_eq_true c25
                 clear c25
                 obtain ⟨y114, hy114⟩ : ∃ y_ : List (S41), y_ = (x7_2.take (x9_3 : Int).toNat) := ⟨_, rfl⟩
                 replace H : (if y111.length + y114.length < 1954687338268 then ((some (y111 ++ y114 : List (S41))).bind fun y118 => ((some (([(⟨(rd_T41 l0 x8_2).f0, (rd_T41 l0 x8_2).f1, (rd_T41 l0 x8_2).f2, (rd_T41 l0 x8_2).f3, (rd_T41 l0 x8_2).f4, (rd_T41 l0 x8_2).f5, (rd_T41 l0 x8_2).f6, (rd_T41 l0 x8_2).f7⟩ : S41)] : List (S41)) : List (S41))).bind fun y122 => (if y118.length + y122.length < 1954687338268 then ((some (y118 ++ y122 : List (S41))).bind fun y125 => ((some (x7_2.drop (x9_3 : Int).toNat : List (S41))).bind fun y128 => (if y125.length + y128.length < 1954687338268 then (spec_AtStage.l0 k3 l0 a1 y101 (y125 ++ y128) (wrap64 (x8_2 + 1))) else (none)))) else (none)))) else (none)) = some (r1, r2) := by first | (rw [hy114]; with_reducible exact H) | (have H2_ := (Option.bind_some _ _).symm.trans H; rw [hy114]; with_reducible exact H2_) | (have H2_ := (Option.bind_some _ _).symm.trans H; with_reducible exact H2_) | with_reducible exact H | (rw [hy114]; exact H) | exact H
                 have Ny114 := Aside0.mk hy114
                 clear hy114
                 by_cases c26 : y111.length + y114.length < 1954687338268
                 ·rw [if_pos c26] at H
                  have LMc26 := Aside0.mk c26
                  clear c26
                  obtain ⟨y118, hy118⟩ : ∃ y_ : List (S41), y_ = (y111 ++ y114) := ⟨_, rfl⟩
                  replace H : ((some (([(⟨(rd_T41 l0 x8_2).f0, (rd_T41 l0 x8_2).f1, (rd_T41 l0 x8_2).f2, (rd_T41 l0 x8_2).f3, (rd_T41 l0 x8_2).f4, (rd_T41 l0 x8_2).f5, (rd_T41 l0 x8_2).f6, (rd_T41 l0 x8_2).f7⟩ : S41)] : List (S41)) : List (S41))).bind fun y122 => (if y118.length + y122.length < 1954687338268 then ((some (y118 ++ y122 : List (S41))).bind fun y125 => ((some (x7_2.drop (x9_3 : Int).toNat : List (S41))).bind fun y128 => (if y125.length + y128.length < 1954687338268 then (spec_AtStage.l0 k3 l0 a1 y101 (y125 ++ y128) (wrap64 (x8_2 + 1))) else (none)))) else (none))) = some (r1, r2) := by first | (rw [hy118]; with_reducible exact H) | (have H2_ := (Option.bind_some _ _).symm.trans H; rw [hy118]; with_reducible exact H2_) | (have H2_ := (Option.bind_some _ _).symm.trans H; with_reducible exact H2_) | with_reducible exact H | (rw [hy118]; exact H) | exact H
                  have Ny118 := Aside0.mk hy118
                  clear hy118
                  obtain ⟨y122, hy122⟩ : ∃ y_ : List (S41), y_ = (([(⟨(rd_T41 l0 x8_2).f0, (rd_T41 l0 x8_2).f1, (rd_T41 l0 x8_2).f2, (rd_T41 l0 x8_2).f3, (rd_T41 l0 x8_2).f4, (rd_T41 l0 x8_2).f5, (rd_T41 l0 x8_2).f6, (rd_T41 l0 x8_2).f7⟩ : S41)] : List (S41))) := ⟨_, rfl⟩
                  replace H : (if y118.length + y122.length < 1954687338268 then ((some (y118 ++ y122 : List (S41))).bind fun y125 => ((some (x7_2.drop (x9_3 : Int).toNat : List (S41))).bind fun y128 => (if y125.length + y128.length < 1954687338268 then (spec_AtStage.l0 k3 l0 a1 y101 (y125 ++ y128) (wrap64 (x8_2 + 1))) else (none)))) else (none)) = some (r1, r2) := by first | (rw [hy122]; with_reducible exact H) | (have H2_ := (Option.bind_some _ _).symm.trans H; rw [hy122]; with_reducible exact H2_) | (have H2_ := (Option.bind_some _ _).symm.trans H; with_reducible exact H2_) | with_reducible exact H | (rw [hy122]; exact H) | exact H
                  have Ny122 := Aside0.mk hy122
                  clear hy122
                  by_cases c27 : y118.length + y122.length < 1954687338268
                  ·rw [if_pos c27] at H
                   have LMc27 := Aside0.mk c27
                   clear c27
                   obtain ⟨y125, hy125⟩ : ∃ y_ : List (S41), y_ = (y118 ++ y122) := ⟨_, rfl⟩
                   replace H : ((some (x7_2.drop (x9_3 : Int).toNat : List (S41))).bind fun y128 => (if y125.length + y128.length < 1954687338268 then (spec_AtStage.l0 k3 l0 a1 y101 (y125 ++ y128) (wrap64 (x8_2 + 1))) else (none))) = some (r1, r2) := by first | (rw [hy125]; with_reducible exact H) | (have H2_ := (Option.bind_some _ _).symm.trans H; rw [hy125]; with_reducible exact H2_) | (have H2_ := (Option.bind_some _ _).symm.trans H; with_reducible exact H2_) | with_reducible exact H | (rw [hy125]; exact H) | exact H
                   have Ny125 := Aside0.mk hy125
                   clear hy125
                   have c28b0 := eq_true (of_decide_eq_true (by first | (with_reducible assumption) | assumption) : 0 ≤ x9_3)
                   have c29b0 := eq_true (of_decide_eq_true (by first | (with_reducible assumption) | assumption) : x9_3 ≤ (x7_2.length : Int))
                   obtain ⟨y128, hy128⟩ : ∃ y_ : List (S41), y_ = (x7_2.drop (x9_3 : Int).toNat) := ⟨_, rfl⟩
                   replace H : (if y125.length + y128.length < 1954687338268 then (spec_AtStage.l0 k3 l0 a1 y101 (y125 ++ y128) (wrap64 (x8_2 + 1))) else (none)) = some (r1, r2) := by first | (rw [hy128]; with_reducible exact H) | (have H2_ := (Option.bind_some _ _).symm.trans H; rw [hy128]; with_reducible exact H2_) | (have H2_ := (Option.bind_some _ _).symm.trans H; with_reducible exact H2_) | with_reducible exact H | (rw [hy128]; exact H) | exact H
                   have Ny128 := Aside0.mk hy128
                   clear hy128
                   by_cases c30 : y125.length + y128.length < 1954687338268
                   ·rw [if_pos c30] at H
                    have LMc30 := Aside0.mk c30
                    clear c30
                    obtain ⟨y132, hy132⟩ : ∃ y_ : List (S41), y_ = (y125 ++ y128) := ⟨_, rfl⟩
                    replace H : (spec_AtStage.l0 k3 l0 a1 y101 y132 (wrap64 (x8_2 + 1))) = some (r1, r2) := by first | (rw [hy132]; with_reducible exact H) | (have H2_ := (Option.bind_some _ _).symm.trans H; rw [hy132]; with_reducible exact H2_) | (have H2_ := (Option.bind_some _ _).symm.trans H; with_reducible exact H2_) | with_reducible exact H | (rw [hy132]; exact H) | exact H
                    have Ny132 := Aside0.mk hy132
                    clear hy132
                    have H' := Aside0.mk H
                    clear H
                    try go_wp2
                    have n0_ := Aside0.mk (Kd.R_drew HO_6.out)
                    have n1_ := Aside0.mk (Kd.R_drew HO_7.out)
                    have n2_ := Aside0.mk (below_drew1 HB.out)
                    clear HO_6
                    clear HO_7
                    clear HB
                    have HO_6 := n0_
                    have HO_7 := n1_
                    have HB := n2_
                    clear n0_ n1_ n2_
                    have p109 : 0 ≤ ((ji17) : Int) := of_decide_eq_true (by first | (with_reducible assumption) | assumption)
                    have q109 : (ji17) < (x7_2.length : Int) := of_decide_eq_true (by first | (with_reducible assumption) | assumption)
                    obtain ⟨ad109, e109, hx109_0, hx109_1, hx109_2, hx109_3, hx109_4, hx109_5, hx109_6, hx109_7⟩ := at_T41 (Kd.R_reads' HO_7.out).2.2 (ji17) p109 q109
                    cases e109
                    replace p109 := eq_true p109
                    replace q109 := eq_true q109
                    have p110 : 0 ≤ (x8_2 : Int) := of_decide_eq_true (by first | (with_reducible assumption) | assumption)
                    have q110 : x8_2 < (l0.length : Int) := of_decide_eq_true (by first | (with_reducible assumption) | assumption)
                    obtain ⟨ad110, e110, hx110_0, hx110_1, hx110_2, hx110_3, hx110_4, hx110_5, hx110_6, hx110_7⟩ := at_T41 HR0.out x8_2 p110 q110
                    have hw110_7 := hx110_7
                    have hw110_6 := hx110_6
                    have hw110_5 := hx110_5
                    have hw110_4 := hx110_4
                    have hw110_3 := hx110_3
                    have hw110_2 := hx110_2
                    have hw110_1 := hx110_1
                    have hw110_0 := hx110_0
                    cases e110
                    replace hx110_0 := (HB.out.cell (World.block_lt_of_cell? w _ hx110_0)).trans hx110_0
                    replace hx110_1 := (HB.out.cell (World.block_lt_of_cell? w _ hx110_1)).trans hx110_1
                    replace hx110_2 := (HB.out.cell (World.block_lt_of_cell? w _ hx110_2)).trans hx110_2
                    replace hx110_3 := (HB.out.cell (World.block_lt_of_cell? w _ hx110_3)).trans hx110_3
                    replace hx110_4 := (HB.out.cell (World.block_lt_of_cell? w _ hx110_4)).trans hx110_4
                    replace hx110_5 := (HB.out.cell (World.block_lt_of_cell? w _ hx110_5)).trans hx110_5
                    replace hx110_6 := (HB.out.cell (World.block_lt_of_cell? w _ hx110_6)).trans hx110_6
                    replace hx110_7 := (HB.out.cell (World.block_lt_of_cell? w _ hx110_7)).trans hx110_7
                    replace p110 := eq_true p110
                    replace q110 := eq_true q110
                    refine start_ (n := 16) (S := fun w' => w'.cell? (ad109.add (((ji17)).toNat * 8)) = some (.int .i64 ((rd_T41 x7_2 (ji17)).f0)) ∧ w'.cell? ⟨(ad109.add (((ji17)).toNat * 8)).block, (ad109.add (((ji17)).toNat * 8)).off + 1, none⟩ = some (.string ((rd_T41 x7_2 (ji17)).f1)) ∧ w'.cell? ⟨(ad109.add (((ji17)).toNat * 8)).block, (ad109.add (((ji17)).toNat * 8)).off + 2, none⟩ = some (.int .i64 ((rd_T41 x7_2 (ji17)).f2)) ∧ w'.cell? ⟨(ad109.add (((ji17)).toNat * 8)).block, (ad109.add (((ji17)).toNat * 8)).off + 3, none⟩ = some (.int .i64 ((rd_T41 x7_2 (ji17)).f3)) ∧ w'.cell? ⟨(ad109.add (((ji17)).toNat * 8)).block, (ad109.add (((ji17)).toNat * 8)).off + 4, none⟩ = some (.int .i64 ((rd_T41 x7_2 (ji17)).f4)) ∧ w'.cell? ⟨(ad109.add (((ji17)).toNat * 8)).block, (ad109.add (((ji17)).toNat * 8)).off + 5, none⟩ = some (.int .i64 ((rd_T41 x7_2 (ji17)).f5)) ∧ w'.cell? ⟨(ad109.add (((ji17)).toNat * 8)).block, (ad109.add (((ji17)).toNat * 8)).off + 6, none⟩ = some (.int .i64 ((rd_T41 x7_2 (ji17)).f6)) ∧ w'.cell? ⟨(ad109.add (((ji17)).toNat * 8)).block, (ad109.add (((ji17)).toNat * 8)).off + 7, none⟩ = some (.int .i64 ((rd_T41 x7_2 (ji17)).f7)) ∧ w'.cell? (ad110.add ((x8_2).toNat * 8)) = some (.int .i64 ((rd_T41 l0 x8_2).f0)) ∧ w'.cell? ⟨(ad110.add ((x8_2).toNat * 8)).block, (ad110.add ((x8_2).toNat * 8)).off + 1, none⟩ = some (.string ((rd_T41 l0 x8_2).f1)) ∧ w'.cell? ⟨(ad110.add ((x8_2).toNat * 8)).block, (ad110.add ((x8_2).toNat * 8)).off + 2, none⟩ = some (.int .i64 ((rd_T41 l0 x8_2).f2)) ∧ w'.cell? ⟨(ad110.add ((x8_2).toNat * 8)).block, (ad110.add ((x8_2).toNat * 8)).off + 3, none⟩ = some (.int .i64 ((rd_T41 l0 x8_2).f3)) ∧ w'.cell? ⟨(ad110.add ((x8_2).toNat * 8)).block, (ad110.add ((x8_2).toNat * 8)).off + 4, none⟩ = some (.int .i64 ((rd_T41 l0 x8_2).f4)) ∧ w'.cell? ⟨(ad110.add ((x8_2).toNat * 8)).block, (ad110.add ((x8_2).toNat * 8)).off + 5, none⟩ = some (.int .i64 ((rd_T41 l0 x8_2).f5)) ∧ w'.cell? ⟨(ad110.add ((x8_2).toNat * 8)).block, (ad110.add ((x8_2).toNat * 8)).off + 6, none⟩ = some (.int .i64 ((rd_T41 l0 x8_2).f6)) ∧ w'.cell? ⟨(ad110.add ((x8_2).toNat * 8)).block, (ad110.add ((x8_2).toNat * 8)).off + 7, none⟩ = some (.int .i64 ((rd_T41 l0 x8_2).f7))) (ds := []) #[O,O,O,O,O,O,O,O,O,O,O,O,O,O,O,O] (by kernel_rfl) rfl rfl ⟨hx109_0, hx109_1, hx109_2, hx109_3, hx109_4, hx109_5, hx109_6, hx109_7, ((HB.out.cell (World.block_lt_of_cell? w _ hw110_0)).trans hw110_0), ((HB.out.cell (World.block_lt_of_cell? w _ hw110_1)).trans hw110_1), ((HB.out.cell (World.block_lt_of_cell? w _ hw110_2)).trans hw110_2), ((HB.out.cell (World.block_lt_of_cell? w _ hw110_3)).trans hw110_3), ((HB.out.cell (World.block_lt_of_cell? w _ hw110_4)).trans hw110_4), ((HB.out.cell (World.block_lt_of_cell? w _ hw110_5)).trans hw110_5), ((HB.out.cell (World.block_lt_of_cell? w _ hw110_6)).trans hw110_6), ((HB.out.cell (World.block_lt_of_cell? w _ hw110_7)).trans hw110_7)⟩ (fun hHeld => ?_); refine with_tabW spec_AtStage.tab9 spec_AtStage.bits9 (fun HT_ HW_ => ?_)
                    generalize wr.drew = w31 at HO_6 HO_7 HB hx109_0 hx109_1 hx109_2 hx109_3 hx109_4 hx109_5 hx109_6 hx109_7 hx110_0 hx110_1 hx110_2 hx110_3 hx110_4 hx110_5 hx110_6 hx110_7 hHeld ⊢
                    refine pure_ (i := 0) (N := some 30) (v := ?_) (a' := ?_) #[I,O,O,O,O,O,O,O,O,O,O,O,O,O,O,O] rfl rfl (any_of HT_.out (by kernel_rfl)) (fun _ _ _ h => h) (Or.inl ⟨by rfl, ?_⟩) ?_ ?_
                    rotate_left; (intro w'; go_simp; with_reducible rfl); rotate_left; (simp only [Z]; rfl)
                    refine pure_ (i := 1) (N := some 31) (v := ?_) (a' := ?_) #[I,I,O,O,O,O,O,O,O,O,O,O,O,O,O,O] rfl rfl (any_of HT_.out (by kernel_rfl)) (fun _ _ _ h => h) (Or.inl ⟨by rfl, ?_⟩) ?_ ?_
                    rotate_left; (intro w'; go_simp; with_reducible rfl); rotate_left; (simp only [Z]; rfl)
                    refine pure_ (i := 2) (N := some 32) (v := ?_) (a' := ?_) #[I,I,I,O,O,O,O,O,O,O,O,O,O,O,O,O] rfl rfl (any_of HT_.out (by kernel_rfl)) (fun _ _ _ h => h) (Or.inl ⟨by rfl, ?_⟩) ?_ ?_
                    rotate_left; (intro w'; go_simp; with_reducible rfl); rotate_left; (simp only [Z]; rfl)
                    refine pure_ (i := 3) (N := some 33) (v := ?_) (a' := ?_) #[I,I,I,I,O,O,O,O,O,O,O,O,O,O,O,O] rfl rfl (any_of HT_.out (by kernel_rfl)) (fun _ _ _ h => h) (Or.inl ⟨by rfl, ?_⟩) ?_ ?_
                    rotate_left; (intro w'; go_simp; with_reducible rfl); rotate_left; (simp only [Z]; rfl)
                    refine pure_ (i := 4) (N := some 34) (v := ?_) (a' := ?_) #[I,I,I,I,I,O,O,O,O,O,O,O,O,O,O,O] rfl rfl (any_of HT_.out (by kernel_rfl)) (fun _ _ _ h => h) (Or.inl ⟨by rfl, ?_⟩) ?_ ?_
                    rotate_left; (intro w'; go_simp; with_reducible rfl); rotate_left; (simp only [Z]; rfl)
                    refine pure_ (i := 5) (N := some 35) (v := ?_) (a' := ?_) #[I,I,I,I,I,I,O,O,O,O,O,O,O,O,O,O] rfl rfl (any_of HT_.out (by kernel_rfl)) (fun _ _ _ h => h) (Or.inl ⟨by rfl, ?_⟩) ?_ ?_
                    rotate_left; (intro w'; go_simp; with_reducible rfl); rotate_left; (simp only [Z]; rfl)
                    refine pure_ (i := 6) (N := some 36) (v := ?_) (a' := ?_) #[I,I,I,I,I,I,I,O,O,O,O,O,O,O,O,O] rfl rfl (any_of HT_.out (by kernel_rfl)) (fun _ _ _ h => h) (Or.inl ⟨by rfl, ?_⟩) ?_ ?_
                    rotate_left; (intro w'; go_simp; with_reducible rfl); rotate_left; (simp only [Z]; rfl)
                    refine pure_ (i := 7) (N := some 37) (v := ?_) (a' := ?_) #[I,I,I,I,I,I,I,I,O,O,O,O,O,O,O,O] rfl rfl (any_of HT_.out (by kernel_rfl)) (fun _ _ _ h => h) (Or.inl ⟨by rfl, ?_⟩) ?_ ?_
                    rotate_left; (intro w'; go_simp; with_reducible rfl); rotate_left; (simp only [Z]; rfl)
                    refine pure_ (i := 9) (N := some 39) (v := ?_) (a' := ?_) #[I,I,I,I,I,I,I,I,O,I,O,O,O,O,O,O] rfl rfl (any_of HT_.out (by kernel_rfl)) (fun _ _ _ h => h) (Or.inl ⟨by rfl, ?_⟩) ?_ ?_
                    rotate_left; (intro w'; go_simp; with_reducible rfl); rotate_left; (simp only [Z]; rfl)
                    refine pure_ (i := 10) (N := some 40) (v := ?_) (a' := ?_) #[I,I,I,I,I,I,I,I,O,I,I,O,O,O,O,O] rfl rfl (any_of HT_.out (by kernel_rfl)) (fun _ _ _ h => h) (Or.inl ⟨by rfl, ?_⟩) ?_ ?_
                    rotate_left; (intro w'; go_simp; with_reducible rfl); rotate_left; (simp only [Z]; rfl)
                    refine pure_ (i := 11) (N := some 41) (v := ?_) (a' := ?_) #[I,I,I,I,I,I,I,I,O,I,I,I,O,O,O,O] rfl rfl (any_of HT_.out (by kernel_rfl)) (fun _ _ _ h => h) (Or.inl ⟨by rfl, ?_⟩) ?_ ?_
                    rotate_left; (intro w'; go_simp; with_reducible rfl); rotate_left; (simp only [Z]; rfl)
                    refine pure_ (i := 12) (N := some 42) (v := ?_) (a' := ?_) #[I,I,I,I,I,I,I,I,O,I,I,I,I,O,O,O] rfl rfl (any_of HT_.out (by kernel_rfl)) (fun _ _ _ h => h) (Or.inl ⟨by rfl, ?_⟩) ?_ ?_
                    rotate_left; (intro w'; go_simp; with_reducible rfl); rotate_left; (simp only [Z]; rfl)
                    refine take_ (i := 8) (N := some 38) (v := ?_) (a' := ?_) #[I,I,I,I,I,I,I,I,I,I,I,I,I,O,O,O] rfl rfl (take_ofW HT_.out HW_.out (by kernel_rfl)) (fun _ _ _ h => h) (Or.inl ⟨by rfl, ?_⟩) hHeld ?_ ?_
                    rotate_left; (rintro w' ⟨s0, s1, s2, s3, s4, s5, s6, s7, s8, s9, s10, s11, s12, s13, s14, s15⟩; go_simp; with_reducible rfl); rotate_left; (simp only [Z]; rfl)
                    refine take_ (i := 13) (N := some 43) (v := ?_) (a' := ?_) #[I,I,I,I,I,I,I,I,I,I,I,I,I,I,O,O] rfl rfl (take_ofW HT_.out HW_.out (by kernel_rfl)) (fun _ _ _ h => h) (Or.inl ⟨by rfl, ?_⟩) hHeld ?_ ?_
                    rotate_left; (rintro w' ⟨s0, s1, s2, s3, s4, s5, s6, s7, s8, s9, s10, s11, s12, s13, s14, s15⟩; go_simp; with_reducible rfl); rotate_left; (simp only [Z]; rfl)
                    refine pure_ (i := 14) (N := some 44) (v := ?_) (a' := ?_) #[I,I,I,I,I,I,I,I,I,I,I,I,I,I,I,O] rfl rfl (any_of HT_.out (by kernel_rfl)) (fun _ _ _ h => h) (Or.inl ⟨by rfl, ?_⟩) ?_ ?_
                    rotate_left; (intro w'; go_simp; with_reducible rfl); rotate_left; (simp only [Z]; rfl)
                    refine pure_ (i := 15) (N := some 45) (v := ?_) (a' := ?_) #[I,I,I,I,I,I,I,I,I,I,I,I,I,I,I,I] rfl rfl (any_of HT_.out (by kernel_rfl)) (fun _ _ _ h => h) (Or.inl ⟨by rfl, ?_⟩) ?_ ?_
                    rotate_left; (intro w'; go_simp; with_reducible rfl); rotate_left; (simp only [Z]; rfl)
                    refine done_ (done_of HT_.out (by kernel_rfl)) ?_
                    try go_wp2
                    have n0_ := Aside0.mk (Kd.R_drew HO_6.out)
                    have n1_ := Aside0.mk (Kd.R_drew HO_7.out)
                    have n2_ := Aside0.mk (below_drew1 HB.out)
                    clear HO_6
                    clear HO_7
                    clear HB
                    have HO_6 := n0_
                    have HO_7 := n1_
                    have HB := n2_
                    clear n0_ n1_ n2_
                    have q33 : (x9_3 : Int) ≤ ((x7_2.length : Int) : Int) := of_decide_eq_true (by first | (with_reducible assumption) | assumption)
                    obtain ⟨i033, hi033, _, hsz33, _⟩ := info_parts info41
                    have hroom33 : x7_2.length ≤ co15 := (Kd.R_reads' HO_7.out).2.1
                    have hC33 : Kd.C k41 _ (some ad109) x7_2.length x7_2 := (Kd.R_reads' HO_7.out).2.2
                    have hcut33 := cut_to (P := Tryd.prog) 28 41 .i64 Tryd.underlying28 hi033 (some ad109) x7_2.length co15 x9_3 (of_decide_eq_true (by first | (with_reducible assumption) | assumption)) q33 hroom33
                    have hr33 := Kd.C_take (m := (x9_3 : Int).toNat) hC33 (by omega)
                    have hy33 : y114.length = (x9_3 : Int).toNat := (by rw [Ny114.out, List.length_take]; omega)
                    rw [← Ny114.out] at hr33
                    rw [← hy33] at hcut33
                    have HR117 := Aside0.mk hr33
                    have HC117 := Aside0.mk (show y114.length ≤ co15 from by omega)
                    clear hr33 hC33 hroom33 hi033 hsz33
                    have KY33 := Aside0.mk hy33
                    clear hy33
                    have KL33 := Aside0.mk (show (x9_3 : Int).toNat ≤ x7_2.length from by omega)
                    replace q33 := eq_true q33
                    have p121 : 0 ≤ (x8_2 : Int) := of_decide_eq_true (by first | (with_reducible assumption) | assumption)
                    have q121 : x8_2 < (l0.length : Int) := of_decide_eq_true (by first | (with_reducible assumption) | assumption)
                    obtain ⟨ad121, e121, hx121_0, hx121_1, hx121_2, hx121_3, hx121_4, hx121_5, hx121_6, hx121_7⟩ := at_T41 HR0.out x8_2 p121 q121
                    have hw121_7 := hx121_7
                    have hw121_6 := hx121_6
                    have hw121_5 := hx121_5
                    have hw121_4 := hx121_4
                    have hw121_3 := hx121_3
                    have hw121_2 := hx121_2
                    have hw121_1 := hx121_1
                    have hw121_0 := hx121_0
                    obtain rfl : ad110 = ad121 := (by injection e121)
                    replace hx121_0 := (HB.out.cell (World.block_lt_of_cell? w _ hx121_0)).trans hx121_0
                    replace hx121_1 := (HB.out.cell (World.block_lt_of_cell? w _ hx121_1)).trans hx121_1
                    replace hx121_2 := (HB.out.cell (World.block_lt_of_cell? w _ hx121_2)).trans hx121_2
                    replace hx121_3 := (HB.out.cell (World.block_lt_of_cell? w _ hx121_3)).trans hx121_3
                    replace hx121_4 := (HB.out.cell (World.block_lt_of_cell? w _ hx121_4)).trans hx121_4
                    replace hx121_5 := (HB.out.cell (World.block_lt_of_cell? w _ hx121_5)).trans hx121_5
                    replace hx121_6 := (HB.out.cell (World.block_lt_of_cell? w _ hx121_6)).trans hx121_6
                    replace hx121_7 := (HB.out.cell (World.block_lt_of_cell? w _ hx121_7)).trans hx121_7
                    replace p121 := eq_true p121
                    replace q121 := eq_true q121
                    have q34 : (x9_3 : Int) ≤ ((x7_2.length : Int) : Int) := of_decide_eq_true (by first | (with_reducible assumption) | assumption)
                    obtain ⟨i034, hi034, _, hsz34, _⟩ := info_parts info41
                    have hroom34 : x7_2.length ≤ co15 := (Kd.R_reads' HO_7.out).2.1
                    have hC34 : Kd.C k41 _ (some ad109) x7_2.length x7_2 := (Kd.R_reads' HO_7.out).2.2
                    have q034 : (0 : Int) ≤ (x9_3 : Int) := of_decide_eq_true (by first | (with_reducible assumption) | assumption)
                    have hcut34 := cut_from (P := Tryd.prog) 28 41 .i64 Tryd.underlying28 hi034 8 hsz34 (some ad109) x7_2.length co15 x9_3 q034 q34
                    have hr34 := Kd.C_drop (m := (x9_3 : Int).toNat) (c := co15) hC34 (by omega) hroom34
                    obtain ⟨A34, hA34⟩ : ∃ A1, A1 = (if co15 = (x9_3 : Int).toNat then (some ad109) else ((some ad109) : Option Addr).map (·.add ((x9_3 : Int).toNat * 8))) := ⟨_, rfl⟩
                    obtain ⟨c34, hc34⟩ : ∃ c1, c1 = co15 - (x9_3 : Int).toNat := ⟨_, rfl⟩
                    have hy34 : y128.length = x7_2.length - (x9_3 : Int).toNat := (by rw [Ny128.out, List.length_drop] <;> omega)
                    rw [show (x7_2).drop (x9_3 : Int).toNat = y128 from Ny128.out.symm] at hr34
                    replace hr34 : Kd.C k41 _ A34 y128.length y128 := (by rw [hA34]; exact hr34)
                    rw [← hy34, ← hA34, ← hc34] at hcut34
                    have HR131 := Aside0.mk hr34
                    have HC131 := Aside0.mk (show y128.length ≤ c34 from by rw [hy34, hc34]; exact Nat.sub_le_sub_right hroom34 _)
                    clear hr34 hC34 hroom34 hi034 hsz34 hc34
                    have KY34 := Aside0.mk hy34
                    have KA34 := Aside0.mk hA34
                    clear hy34 hA34
                    have KL34 := Aside0.mk (show (x9_3 : Int).toNat ≤ x7_2.length from by omega)
                    replace q34 := eq_true q34
                    refine start_ (n := 16) (S := fun w' => w'.cell? (ad110.add ((x8_2).toNat * 8)) = some (.int .i64 ((rd_T41 l0 x8_2).f0)) ∧ w'.cell? ⟨(ad110.add ((x8_2).toNat * 8)).block, (ad110.add ((x8_2).toNat * 8)).off + 1, none⟩ = some (.string ((rd_T41 l0 x8_2).f1)) ∧ w'.cell? ⟨(ad110.add ((x8_2).toNat * 8)).block, (ad110.add ((x8_2).toNat * 8)).off + 2, none⟩ = some (.int .i64 ((rd_T41 l0 x8_2).f2)) ∧ w'.cell? ⟨(ad110.add ((x8_2).toNat * 8)).block, (ad110.add ((x8_2).toNat * 8)).off + 3, none⟩ = some (.int .i64 ((rd_T41 l0 x8_2).f3)) ∧ w'.cell? ⟨(ad110.add ((x8_2).toNat * 8)).block, (ad110.add ((x8_2).toNat * 8)).off + 4, none⟩ = some (.int .i64 ((rd_T41 l0 x8_2).f4)) ∧ w'.cell? ⟨(ad110.add ((x8_2).toNat * 8)).block, (ad110.add ((x8_2).toNat * 8)).off + 5, none⟩ = some (.int .i64 ((rd_T41 l0 x8_2).f5)) ∧ w'.cell? ⟨(ad110.add ((x8_2).toNat * 8)).block, (ad110.add ((x8_2).toNat * 8)).off + 6, none⟩ = some (.int .i64 ((rd_T41 l0 x8_2).f6)) ∧ w'.cell? ⟨(ad110.add ((x8_2).toNat * 8)).block, (ad110.add ((x8_2).toNat * 8)).off + 7, none⟩ = some (.int .i64 ((rd_T41 l0 x8_2).f7))) (ds := []) #[O,O,O,O,O,O,O,O,O,O,O,O,O,O,O,O] (by kernel_rfl) rfl rfl ⟨((HB.out.cell (World.block_lt_of_cell? w _ hw121_0)).trans hw121_0), ((HB.out.cell (World.block_lt_of_cell? w _ hw121_1)).trans hw121_1), ((HB.out.cell (World.block_lt_of_cell? w _ hw121_2)).trans hw121_2), ((HB.out.cell (World.block_lt_of_cell? w _ hw121_3)).trans hw121_3), ((HB.out.cell (World.block_lt_of_cell? w _ hw121_4)).trans hw121_4), ((HB.out.cell (World.block_lt_of_cell? w _ hw121_5)).trans hw121_5), ((HB.out.cell (World.block_lt_of_cell? w _ hw121_6)).trans hw121_6), ((HB.out.cell (World.block_lt_of_cell? w _ hw121_7)).trans hw121_7)⟩ (fun hHeld => ?_); refine with_tabW spec_AtStage.tab11 spec_AtStage.bits11 (fun HT_ HW_ => ?_)
                    generalize w31.drew = w32 at HO_6 HO_7 HB HR117 HR131 hx121_0 hx121_1 hx121_2 hx121_3 hx121_4 hx121_5 hx121_6 hx121_7 hHeld ⊢
                    refine pure_ (i := 1) (N := some 49) (v := ?_) (a' := ?_) #[O,I,O,O,O,O,O,O,O,O,O,O,O,O,O,O] rfl rfl (any_of HT_.out (by kernel_rfl)) (fun _ _ _ h => h) (Or.inl ⟨by rfl, ?_⟩) ?_ ?_
                    rotate_left; (intro w'; go_simp; with_reducible rfl); rotate_left; (simp only [Z]; rfl)
                    refine pure_ (i := 2) (N := some 50) (v := ?_) (a' := ?_) #[O,I,I,O,O,O,O,O,O,O,O,O,O,O,O,O] rfl rfl (any_of HT_.out (by kernel_rfl)) (fun _ _ _ h => h) (Or.inl ⟨by rfl, ?_⟩) ?_ ?_
                    rotate_left; (intro w'; go_simp; with_reducible rfl); rotate_left; (simp only [Z]; rfl)
                    refine pure_ (i := 3) (N := some 51) (v := ?_) (a' := ?_) #[O,I,I,I,O,O,O,O,O,O,O,O,O,O,O,O] rfl rfl (any_of HT_.out (by kernel_rfl)) (fun _ _ _ h => h) (Or.inl ⟨by rfl, ?_⟩) ?_ ?_
                    rotate_left; (intro w'; go_simp; with_reducible rfl); rotate_left; (simp only [Z]; rfl)
                    refine pure_ (i := 5) (N := some 53) (v := ?_) (a' := ?_) #[O,I,I,I,O,I,O,O,O,O,O,O,O,O,O,O] rfl rfl (any_of HT_.out (by kernel_rfl)) (fun _ _ _ h => h) (Or.inl ⟨by rfl, ?_⟩) ?_ ?_
                    rotate_left; (intro w'; go_simp; with_reducible rfl); rotate_left; (simp only [Z]; rfl)
                    refine pure_ (i := 6) (N := some 54) (v := ?_) (a' := ?_) #[O,I,I,I,O,I,I,O,O,O,O,O,O,O,O,O] rfl rfl (any_of HT_.out (by kernel_rfl)) (fun _ _ _ h => h) (Or.inl ⟨by rfl, ?_⟩) ?_ ?_
                    rotate_left; (intro w'; go_simp; with_reducible rfl); rotate_left; (simp only [Z]; rfl)
                    refine pure_ (i := 7) (N := some 55) (v := ?_) (a' := ?_) #[O,I,I,I,O,I,I,I,O,O,O,O,O,O,O,O] rfl rfl (any_of HT_.out (by kernel_rfl)) (fun _ _ _ h => h) (Or.inl ⟨by rfl, ?_⟩) ?_ ?_
                    rotate_left; (intro w'; go_simp; with_reducible rfl); rotate_left; (simp only [Z]; rfl)
                    refine pure_ (i := 11) (N := some 59) (v := ?_) (a' := ?_) #[O,I,I,I,O,I,I,I,O,O,O,I,O,O,O,O] rfl rfl (any_of HT_.out (by kernel_rfl)) (fun _ _ _ h => h) (Or.inl ⟨by rfl, ?_⟩) ?_ ?_
                    rotate_left; (intro w'; go_simp; with_reducible rfl); rotate_left; (simp only [Z]; rfl)
                    refine pure_ (i := 12) (N := some 60) (v := ?_) (a' := ?_) #[O,I,I,I,O,I,I,I,O,O,O,I,I,O,O,O] rfl rfl (any_of HT_.out (by kernel_rfl)) (fun _ _ _ h => h) (Or.inl ⟨by rfl, ?_⟩) ?_ ?_
                    rotate_left; (intro w'; go_simp; with_reducible rfl); rotate_left; (simp only [Z]; rfl)
                    refine pure_ (i := 13) (N := some 61) (v := ?_) (a' := ?_) #[O,I,I,I,O,I,I,I,O,O,O,I,I,I,O,O] rfl rfl (any_of HT_.out (by kernel_rfl)) (fun _ _ _ h => h) (Or.inl ⟨by rfl, ?_⟩) ?_ ?_
                    rotate_left; (intro w'; go_simp; with_reducible rfl); rotate_left; (simp only [Z]; rfl)
                    refine take_ (i := 8) (N := some 56) (v := ?_) (a' := ?_) #[O,I,I,I,O,I,I,I,I,O,O,I,I,I,O,O] rfl rfl (take_ofW HT_.out HW_.out (by kernel_rfl)) (fun _ _ _ h => h) (Or.inl ⟨by rfl, ?_⟩) hHeld ?_ ?_
                    rotate_left; (rintro w' ⟨s0, s1, s2, s3, s4, s5, s6, s7⟩; go_simp; with_reducible rfl); rotate_left; (simp only [Z]; rfl)
                    refine join_ (σ := Value × Value × Value) 3 #[I,I,I,I,I,I,I,I,I,I,O,I,I,I,O,O] (fun s_ => [(48, s_.1), (52, s_.2.1), (57, s_.2.2)]) (fun s_ w' => (w'.cell? (ad110.add ((x8_2).toNat * 8)) = some (.int .i64 ((rd_T41 l0 x8_2).f0)) ∧ w'.cell? ⟨(ad110.add ((x8_2).toNat * 8)).block, (ad110.add ((x8_2).toNat * 8)).off + 1, none⟩ = some (.string ((rd_T41 l0 x8_2).f1)) ∧ w'.cell? ⟨(ad110.add ((x8_2).toNat * 8)).block, (ad110.add ((x8_2).toNat * 8)).off + 2, none⟩ = some (.int .i64 ((rd_T41 l0 x8_2).f2)) ∧ w'.cell? ⟨(ad110.add ((x8_2).toNat * 8)).block, (ad110.add ((x8_2).toNat * 8)).off + 3, none⟩ = some (.int .i64 ((rd_T41 l0 x8_2).f3)) ∧ w'.cell? ⟨(ad110.add ((x8_2).toNat * 8)).block, (ad110.add ((x8_2).toNat * 8)).off + 4, none⟩ = some (.int .i64 ((rd_T41 l0 x8_2).f4)) ∧ w'.cell? ⟨(ad110.add ((x8_2).toNat * 8)).block, (ad110.add ((x8_2).toNat * 8)).off + 5, none⟩ = some (.int .i64 ((rd_T41 l0 x8_2).f5)) ∧ w'.cell? ⟨(ad110.add ((x8_2).toNat * 8)).block, (ad110.add ((x8_2).toNat * 8)).off + 6, none⟩ = some (.int .i64 ((rd_T41 l0 x8_2).f6)) ∧ w'.cell? ⟨(ad110.add ((x8_2).toNat * 8)).block, (ad110.add ((x8_2).toNat * 8)).off + 7, none⟩ = some (.int .i64 ((rd_T41 l0 x8_2).f7))) ∧ (Kd.R k41 41 w' w.heap.size (fun k_ => some k_ ≠ (s_.2.2 : Value).ownBlock ∧ some k_ ≠ (.slice (some ad109) x7_2.length co15 : Value).ownBlock) s_.2.1 y118) ∧ (Kd.R k41 41 w' w.heap.size (fun k_ => some k_ ≠ (s_.2.1 : Value).ownBlock ∧ some k_ ≠ (.slice (some ad109) x7_2.length co15 : Value).ownBlock) s_.2.2 y122) ∧ (Kd.R (Kd.int .i64) 3 w' w.heap.size (fun _ => True) v102 y101) ∧ (Kd.R k41 41 w' w.heap.size (fun k_ => some k_ ≠ (s_.2.1 : Value).ownBlock ∧ some k_ ≠ (s_.2.2 : Value).ownBlock) (.slice (some ad109) x7_2.length co15) x7_2) ∧ (Below w.heap.size w w')) ?_ ?_
                    rotate_left
                    ·intro hCont
                     refine two_ (i := 0) (j := 9) (Ni := some 48) (Nj := some 57) #[I,I,I,I,O,I,I,I,I,O,O,I,I,I,O,O] #[O,I,I,I,O,I,I,I,I,I,O,I,I,I,O,O] rfl rfl rfl rfl (two_of HT_.out (by kernel_rfl)) (by decide) (by decide) (fun K hK => ?_) (fun K hK => ?_)
                     ·skip
                      refine Kd.R_lit_step k41 _ 41 ?hg (N := 48) ?hd (xs := ([] : List (S41))) (inner := []) (ok := fun _ => True) (okp := fun _ => True) ?hr ?hp (fun _ hk => hk) trivial (Below.refl _ _) (Nat.le_refl _) (by simp) ?_; (case hd => rfl); (case hg => rfl); (case hr => first | (go_simp; done) | (go_simp; rfl)); (case hp => exact (Reps.none _ _))
                      intro v112 w35 ho36 hb hg_ hnew_
                      clear hg_ hnew_
                      (first | rw [← Ny111.out] at ho36 | (simp only [Int.reduceToNat] at ho36; rw [← Ny111.out] at ho36))
                      have n0_ := Aside0.mk (Kd.R_below (by exact Ho.RS <| HO_6.out) hb)
                      have n1_ := Aside0.mk (Kd.R_elder' (by exact Ho.RS <| HO_7.out) (Kd.R_base ho36) hb)
                      have n2_ := Aside0.mk (Kd.R_lower (Kd.R_new' ho36 (Kd.R_lt (by exact Ho.RS <| HO_7.out))) (below_size (by exact eS HB.out)))
                      have n3_ := Aside0.mk (Kd.C_below (by repeat (first | (with_reducible exact HR117.out) | (with_reducible refine Kd.C_alloc ?_ _) | (with_reducible refine Kd.C_drewN ?_ _) | (with_reducible refine Kd.C_drew ?_) | exact HR117.out)) hb)
                      have n4_ := Aside0.mk (Kd.C_below (by repeat (first | (with_reducible exact HR131.out) | (with_reducible refine Kd.C_alloc ?_ _) | (with_reducible refine Kd.C_drewN ?_ _) | (with_reducible refine Kd.C_drew ?_) | exact HR131.out)) hb)
                      have n5_ := Aside0.mk (below_step (by exact eS HB.out) hb)
                      clear HO_6
                      clear HO_7
                      clear HR117
                      clear HR131
                      clear HB
                      have HO_6 := n0_
                      have HO_7 := n1_
                      have HO113 := n2_
                      have HR117 := n3_
                      have HR131 := n4_
                      have HB := n5_
                      clear n0_ n1_ n2_ n3_ n4_ n5_
                      clear hb ho36
                      refine hK.out _ _ ⟨((HB.out.cell (World.block_lt_of_cell? w _ hw121_0)).trans hw121_0), ((HB.out.cell (World.block_lt_of_cell? w _ hw121_1)).trans hw121_1), ((HB.out.cell (World.block_lt_of_cell? w _ hw121_2)).trans hw121_2), ((HB.out.cell (World.block_lt_of_cell? w _ hw121_3)).trans hw121_3), ((HB.out.cell (World.block_lt_of_cell? w _ hw121_4)).trans hw121_4), ((HB.out.cell (World.block_lt_of_cell? w _ hw121_5)).trans hw121_5), ((HB.out.cell (World.block_lt_of_cell? w _ hw121_6)).trans hw121_6), ((HB.out.cell (World.block_lt_of_cell? w _ hw121_7)).trans hw121_7)⟩ (fun hHeld => ?_)
                      clear hK K
                      refine norm_ (a' := ?_) ?_ ?_
                      rotate_left
                      ·show Act.put _ (some 48) _ = _
                       simp only [Z]
                       rfl
                      refine two_ (i := 4) (j := 9) (Ni := some 52) (Nj := some 57) #[I,I,I,I,I,I,I,I,I,O,O,I,I,I,O,O] #[I,I,I,I,O,I,I,I,I,I,O,I,I,I,O,O] rfl rfl rfl rfl (two_of HT_.out (by kernel_rfl)) (by decide) (by decide) (fun K hK => ?_) (fun K hK => ?_)
                      ·skip
                       refine Kd.R_append_rows_step k41 (w0 := w) w.heap.size (by rfl) (.tmp 48) (.tmp 51) 28 41 (.agg #[(.int .i64 0), (.string ⟨#[]⟩), (.int .i64 0), (.int .i64 0), (.int .i64 0), (.int .i64 0), (.int .i64 0), (.int .i64 0)]) 72 rfl Tryd.underlying28 info41 rfl (by decide) (by omega) v112 y111 y114 _ _ _ (fun k_ => some k_ ≠ (.slice (some ad109) x7_2.length co15 : Value).ownBlock) (fun _ => False) rfl rfl ?aO ?aR (fun _ _ h => h) (fun _ h => h.elim) ?aF ?aB ?aS ?aL ?_
                       (case aR => repeat (first | exact (by repeat (first | (with_reducible exact HR117.out) | (with_reducible refine Kd.C_alloc ?_ _) | (with_reducible refine Kd.C_drewN ?_ _) | (with_reducible refine Kd.C_drew ?_) | exact HR117.out)) | (with_reducible refine Kd.C_alloc ?_ _) | (with_reducible refine Kd.C_drewN ?_ _) | (with_reducible refine Kd.C_drew ?_)))
                       (case aB => exact (by exact eS HB.out))
                       (case aF => exact (fun k_ hk => Kd.fresh' (Kd.R_lt (by exact Ho.RS <| HO_7.out)) k_ hk))
                       (case aO => exact (by exact Ho.RS <| Kd.R_mono HO113.out (fun _ hk => hk.2)))
                       (case aS => exact (below_size (by exact eS HB.out)))
                       (case aL => have := LMc26.out; omega)
                       intro v119 w37 ho hb hg hat
                       rw [← Ny118.out] at ho
                       have n0_ := Aside0.mk (Kd.R_over' (by exact Ho.RS <| HO_6.out) (Kd.R_typed (by exact Ho.RS <| HO113.out)) (by decide) hg)
                       have n1_ := Aside0.mk (Kd.R_after (ok := (fun _ => True)) (by exact Ho.RS <| HO_7.out) hg hat)
                       have n2_ := Aside0.mk (hb)
                       have n3_ := Aside0.mk ((show Kd.C k41 w37 (some ad109) y114.length y114 from by rw [Ny114.out]; exact Kd.C_take (m := (x9_3 : Int).toNat) ((Kd.R_reads' (Kd.R_after (ok := (fun _ => True)) (by exact Ho.RS <| HO_7.out) hg hat)).2.2) KL33.out))
                       have n4_ := Aside0.mk ((show Kd.C k41 w37 A34 y128.length y128 from by rw [Ny128.out, KA34.out]; exact Kd.C_drop (m := (x9_3 : Int).toNat) (c := co15) ((Kd.R_reads' (Kd.R_after (ok := (fun _ => True)) (by exact Ho.RS <| HO_7.out) hg hat)).2.2) KL34.out ((Kd.R_reads' (Kd.R_after (ok := (fun _ => True)) (by exact Ho.RS <| HO_7.out) hg hat)).2.1)))
                       have n5_ := Aside0.mk (ho)
                       clear HO_6
                       clear HO_7
                       clear HB
                       clear HR117
                       clear HR131
                       clear HO113
                       have HO_6 := n0_
                       have HO_7 := n1_
                       have HB := n2_
                       have HR117 := n3_
                       have HR131 := n4_
                       have HO120 := n5_
                       clear n0_ n1_ n2_ n3_ n4_ n5_
                       clear ho hb hg hat
                       refine hK.out _ _ ⟨((HB.out.cell (World.block_lt_of_cell? w _ hw121_0)).trans hw121_0), ((HB.out.cell (World.block_lt_of_cell? w _ hw121_1)).trans hw121_1), ((HB.out.cell (World.block_lt_of_cell? w _ hw121_2)).trans hw121_2), ((HB.out.cell (World.block_lt_of_cell? w _ hw121_3)).trans hw121_3), ((HB.out.cell (World.block_lt_of_cell? w _ hw121_4)).trans hw121_4), ((HB.out.cell (World.block_lt_of_cell? w _ hw121_5)).trans hw121_5), ((HB.out.cell (World.block_lt_of_cell? w _ hw121_6)).trans hw121_6), ((HB.out.cell (World.block_lt_of_cell? w _ hw121_7)).trans hw121_7)⟩ (fun hHeld => ?_)
                       clear hK K
                       refine norm_ (a' := ?_) ?_ ?_
                       rotate_left
                       ·show Act.put _ (some 52) _ = _
                        simp only [Z]
                        rfl
                       refine one_ (i := 9) (N := some 57) #[I,I,I,I,I,I,I,I,I,I,O,I,I,I,O,O] rfl rfl (one_of HT_.out (by kernel_rfl)) (by decide) (fun K hK => ?_)
                       refine Kd.R_lit_step k41 _ 41 ?hg (N := 57) ?hd (xs := ([(⟨(rd_T41 l0 x8_2).f0, (rd_T41 l0 x8_2).f1, (rd_T41 l0 x8_2).f2, (rd_T41 l0 x8_2).f3, (rd_T41 l0 x8_2).f4, (rd_T41 l0 x8_2).f5, (rd_T41 l0 x8_2).f6, (rd_T41 l0 x8_2).f7⟩ : S41)] : List (S41))) (inner := [.int .i64 ((rd_T41 l0 x8_2).f0), .string ((rd_T41 l0 x8_2).f1), .int .i64 ((rd_T41 l0 x8_2).f2), .int .i64 ((rd_T41 l0 x8_2).f3), .int .i64 ((rd_T41 l0 x8_2).f4), .int .i64 ((rd_T41 l0 x8_2).f5), .int .i64 ((rd_T41 l0 x8_2).f6), .int .i64 ((rd_T41 l0 x8_2).f7)]) (ok := fun _ => True) (okp := fun _ => True) ?hr ?hp (fun _ hk => hk) trivial (Below.refl _ _) (Nat.le_refl _) (by simp) ?_; (case hd => rfl); (case hg => rfl); (case hr => first | (go_simp; done) | (go_simp; rfl)); (case hp => exact (Reps.c8 (show Kd.M k41 _ _ _ (⟨(rd_T41 l0 x8_2).f0, (rd_T41 l0 x8_2).f1, (rd_T41 l0 x8_2).f2, (rd_T41 l0 x8_2).f3, (rd_T41 l0 x8_2).f4, (rd_T41 l0 x8_2).f5, (rd_T41 l0 x8_2).f6, (rd_T41 l0 x8_2).f7⟩ : S41) [.int .i64 ((rd_T41 l0 x8_2).f0), .string ((rd_T41 l0 x8_2).f1), .int .i64 ((rd_T41 l0 x8_2).f2), .int .i64 ((rd_T41 l0 x8_2).f3), .int .i64 ((rd_T41 l0 x8_2).f4), .int .i64 ((rd_T41 l0 x8_2).f5), .int .i64 ((rd_T41 l0 x8_2).f6), .int .i64 ((rd_T41 l0 x8_2).f7)] from (k41_mkM _ _ _ (⟨(rd_T41 l0 x8_2).f0, (rd_T41 l0 x8_2).f1, (rd_T41 l0 x8_2).f2, (rd_T41 l0 x8_2).f3, (rd_T41 l0 x8_2).f4, (rd_T41 l0 x8_2).f5, (rd_T41 l0 x8_2).f6, (rd_T41 l0 x8_2).f7⟩ : S41) )) (Reps.none _ _)))
                       intro v123 w38 ho39 hb hg_ hnew_
                       clear hg_ hnew_
                       (first | rw [← Ny122.out] at ho39 | (simp only [Int.reduceToNat] at ho39; rw [← Ny122.out] at ho39))
                       have n0_ := Aside0.mk (Kd.R_below (by exact Ho.RS <| HO_6.out) hb)
                       have n1_ := Aside0.mk (Kd.R_elder' (by exact Ho.RS <| HO_7.out) (Kd.R_base ho39) hb)
                       have n2_ := Aside0.mk (Kd.R_elder' (by exact Ho.RS <| HO120.out) (Kd.R_base ho39) hb)
                       have n3_ := Aside0.mk (Kd.R_lower (Kd.R_new' (Kd.R_new' ho39 (Kd.R_lt (by exact Ho.RS <| HO_7.out))) (Kd.R_lt (by exact Ho.RS <| HO120.out))) (below_size (by exact eS HB.out)))
                       have n4_ := Aside0.mk (Kd.C_below (by repeat (first | (with_reducible exact HR117.out) | (with_reducible refine Kd.C_alloc ?_ _) | (with_reducible refine Kd.C_drewN ?_ _) | (with_reducible refine Kd.C_drew ?_) | exact HR117.out)) hb)
                       have n5_ := Aside0.mk (Kd.C_below (by repeat (first | (with_reducible exact HR131.out) | (with_reducible refine Kd.C_alloc ?_ _) | (with_reducible refine Kd.C_drewN ?_ _) | (with_reducible refine Kd.C_drew ?_) | exact HR131.out)) hb)
                       have n6_ := Aside0.mk (below_step (by exact eS HB.out) hb)
                       clear HO_6
                       clear HO_7
                       clear HO120
                       clear HR117
                       clear HR131
                       clear HB
                       have HO_6 := n0_
                       have HO_7 := n1_
                       have HO120 := n2_
                       have HO124 := n3_
                       have HR117 := n4_
                       have HR131 := n5_
                       have HB := n6_
                       clear n0_ n1_ n2_ n3_ n4_ n5_ n6_
                       clear hb ho39
                       refine hK.out _ _ ⟨((HB.out.cell (World.block_lt_of_cell? w _ hw121_0)).trans hw121_0), ((HB.out.cell (World.block_lt_of_cell? w _ hw121_1)).trans hw121_1), ((HB.out.cell (World.block_lt_of_cell? w _ hw121_2)).trans hw121_2), ((HB.out.cell (World.block_lt_of_cell? w _ hw121_3)).trans hw121_3), ((HB.out.cell (World.block_lt_of_cell? w _ hw121_4)).trans hw121_4), ((HB.out.cell (World.block_lt_of_cell? w _ hw121_5)).trans hw121_5), ((HB.out.cell (World.block_lt_of_cell? w _ hw121_6)).trans hw121_6), ((HB.out.cell (World.block_lt_of_cell? w _ hw121_7)).trans hw121_7)⟩ (fun hHeld => ?_)
                       clear hK K
                       refine norm_ (a' := ?_) ?_ ?_
                       rotate_left
                       ·show Act.put _ (some 57) _ = _
                        simp only [Z]
                        rfl
                       exact norm_ (by simp only [putAll, Act.put, List.setIfInBounds_toArray, List.set_cons_zero, List.set_cons_succ]) (hCont (v112, v119, v123) _ ⟨hHeld, (by exact Ho.RS <| Kd.R_mono HO120.out (fun _ hk => ⟨hk.2, hk.1⟩)), (by exact Ho.RS <| Kd.R_mono HO124.out (fun _ hk => ⟨hk.2, hk.1.2⟩)), (by exact Ho.RS <| HO_6.out), (by exact Ho.RS <| Kd.R_mono HO_7.out (fun _ hk => ⟨hk.1.2, hk.2⟩)), (by exact eS HB.out)⟩)
                      ·skip
                       refine Kd.R_lit_step k41 _ 41 ?hg (N := 57) ?hd (xs := ([(⟨(rd_T41 l0 x8_2).f0, (rd_T41 l0 x8_2).f1, (rd_T41 l0 x8_2).f2, (rd_T41 l0 x8_2).f3, (rd_T41 l0 x8_2).f4, (rd_T41 l0 x8_2).f5, (rd_T41 l0 x8_2).f6, (rd_T41 l0 x8_2).f7⟩ : S41)] : List (S41))) (inner := [.int .i64 ((rd_T41 l0 x8_2).f0), .string ((rd_T41 l0 x8_2).f1), .int .i64 ((rd_T41 l0 x8_2).f2), .int .i64 ((rd_T41 l0 x8_2).f3), .int .i64 ((rd_T41 l0 x8_2).f4), .int .i64 ((rd_T41 l0 x8_2).f5), .int .i64 ((rd_T41 l0 x8_2).f6), .int .i64 ((rd_T41 l0 x8_2).f7)]) (ok := fun _ => True) (okp := fun _ => True) ?hr ?hp (fun _ hk => hk) trivial (Below.refl _ _) (Nat.le_refl _) (by simp) ?_; (case hd => rfl); (case hg => rfl); (case hr => first | (go_simp; done) | (go_simp; rfl)); (case hp => exact (Reps.c8 (show Kd.M k41 _ _ _ (⟨(rd_T41 l0 x8_2).f0, (rd_T41 l0 x8_2).f1, (rd_T41 l0 x8_2).f2, (rd_T41 l0 x8_2).f3, (rd_T41 l0 x8_2).f4, (rd_T41 l0 x8_2).f5, (rd_T41 l0 x8_2).f6, (rd_T41 l0 x8_2).f7⟩ : S41) [.int .i64 ((rd_T41 l0 x8_2).f0), .string ((rd_T41 l0 x8_2).f1), .int .i64 ((rd_T41 l0 x8_2).f2), .int .i64 ((rd_T41 l0 x8_2).f3), .int .i64 ((rd_T41 l0 x8_2).f4), .int .i64 ((rd_T41 l0 x8_2).f5), .int .i64 ((rd_T41 l0 x8_2).f6), .int .i64 ((rd_T41 l0 x8_2).f7)] from (k41_mkM _ _ _ (⟨(rd_T41 l0 x8_2).f0, (rd_T41 l0 x8_2).f1, (rd_T41 l0 x8_2).f2, (rd_T41 l0 x8_2).f3, (rd_T41 l0 x8_2).f4, (rd_T41 l0 x8_2).f5, (rd_T41 l0 x8_2).f6, (rd_T41 l0 x8_2).f7⟩ : S41) )) (Reps.none _ _)))
                       intro v123 w37 ho38 hb hg_ hnew_
                       clear hg_ hnew_
                       (first | rw [← Ny122.out] at ho38 | (simp only [Int.reduceToNat] at ho38; rw [← Ny122.out] at ho38))
                       have n0_ := Aside0.mk (Kd.R_below (by exact Ho.RS <| HO_6.out) hb)
                       have n1_ := Aside0.mk (Kd.R_elder' (by exact Ho.RS <| HO_7.out) (Kd.R_base ho38) hb)
                       have n2_ := Aside0.mk (Kd.R_elder' (by exact Ho.RS <| HO113.out) (Kd.R_base ho38) hb)
                       have n3_ := Aside0.mk (Kd.R_lower (Kd.R_new' (Kd.R_new' ho38 (Kd.R_lt (by exact Ho.RS <| HO_7.out))) (Kd.R_lt (by exact Ho.RS <| HO113.out))) (below_size (by exact eS HB.out)))
                       have n4_ := Aside0.mk (Kd.C_below (by repeat (first | (with_reducible exact HR117.out) | (with_reducible refine Kd.C_alloc ?_ _) | (with_reducible refine Kd.C_drewN ?_ _) | (with_reducible refine Kd.C_drew ?_) | exact HR117.out)) hb)
                       have n5_ := Aside0.mk (Kd.C_below (by repeat (first | (with_reducible exact HR131.out) | (with_reducible refine Kd.C_alloc ?_ _) | (with_reducible refine Kd.C_drewN ?_ _) | (with_reducible refine Kd.C_drew ?_) | exact HR131.out)) hb)
                       have n6_ := Aside0.mk (below_step (by exact eS HB.out) hb)
                       clear HO_6
                       clear HO_7
                       clear HO113
                       clear HR117
                       clear HR131
                       clear HB
                       have HO_6 := n0_
                       have HO_7 := n1_
                       have HO113 := n2_
                       have HO124 := n3_
                       have HR117 := n4_
                       have HR131 := n5_
                       have HB := n6_
                       clear n0_ n1_ n2_ n3_ n4_ n5_ n6_
                       clear hb ho38
                       refine hK.out _ _ ⟨((HB.out.cell (World.block_lt_of_cell? w _ hw121_0)).trans hw121_0), ((HB.out.cell (World.block_lt_of_cell? w _ hw121_1)).trans hw121_1), ((HB.out.cell (World.block_lt_of_cell? w _ hw121_2)).trans hw121_2), ((HB.out.cell (World.block_lt_of_cell? w _ hw121_3)).trans hw121_3), ((HB.out.cell (World.block_lt_of_cell? w _ hw121_4)).trans hw121_4), ((HB.out.cell (World.block_lt_of_cell? w _ hw121_5)).trans hw121_5), ((HB.out.cell (World.block_lt_of_cell? w _ hw121_6)).trans hw121_6), ((HB.out.cell (World.block_lt_of_cell? w _ hw121_7)).trans hw121_7)⟩ (fun hHeld => ?_)
                       clear hK K
                       refine norm_ (a' := ?_) ?_ ?_
                       rotate_left
                       ·show Act.put _ (some 57) _ = _
                        simp only [Z]
                        rfl
                       refine one_ (i := 4) (N := some 52) #[I,I,I,I,I,I,I,I,I,I,O,I,I,I,O,O] rfl rfl (one_of HT_.out (by kernel_rfl)) (by decide) (fun K hK => ?_)
                       refine Kd.R_append_rows_step k41 (w0 := w) w.heap.size (by rfl) (.tmp 48) (.tmp 51) 28 41 (.agg #[(.int .i64 0), (.string ⟨#[]⟩), (.int .i64 0), (.int .i64 0), (.int .i64 0), (.int .i64 0), (.int .i64 0), (.int .i64 0)]) 72 rfl Tryd.underlying28 info41 rfl (by decide) (by omega) v112 y111 y114 _ _ _ (fun k_ => some k_ ≠ (.slice (some ad109) x7_2.length co15 : Value).ownBlock ∧ some k_ ≠ (v123 : Value).ownBlock) (fun _ => False) rfl rfl ?aO ?aR (fun _ _ h => h) (fun _ h => h.elim) ?aF ?aB ?aS ?aL ?_
                       (case aR => repeat (first | exact (by repeat (first | (with_reducible exact HR117.out) | (with_reducible refine Kd.C_alloc ?_ _) | (with_reducible refine Kd.C_drewN ?_ _) | (with_reducible refine Kd.C_drew ?_) | exact HR117.out)) | (with_reducible refine Kd.C_alloc ?_ _) | (with_reducible refine Kd.C_drewN ?_ _) | (with_reducible refine Kd.C_drew ?_)))
                       (case aB => exact (by exact eS HB.out))
                       (case aF => exact (fun k_ hk => ⟨Kd.fresh' (Kd.R_lt (by exact Ho.RS <| HO_7.out)) k_ hk, Kd.fresh' (Kd.R_lt (by exact Ho.RS <| HO124.out)) k_ hk⟩))
                       (case aO => exact (by exact Ho.RS <| Kd.R_mono HO113.out (fun _ hk => ⟨hk.1.2, hk.2⟩)))
                       (case aS => exact (below_size (by exact eS HB.out)))
                       (case aL => have := LMc26.out; omega)
                       intro v119 w39 ho hb hg hat
                       rw [← Ny118.out] at ho
                       have n0_ := Aside0.mk (Kd.R_over' (by exact Ho.RS <| HO_6.out) (Kd.R_typed (by exact Ho.RS <| HO113.out)) (by decide) hg)
                       have n1_ := Aside0.mk (Kd.R_after (ok := (fun k_ => some k_ ≠ (v123 : Value).ownBlock)) (by exact Ho.RS <| Kd.R_mono HO_7.out (fun _ hk => ⟨hk.2, hk.1.2⟩)) hg hat)
                       have n2_ := Aside0.mk (Kd.R_after (ok := (fun k_ => some k_ ≠ (.slice (some ad109) x7_2.length co15 : Value).ownBlock)) (by exact Ho.RS <| Kd.R_mono HO124.out (fun _ hk => ⟨hk.1.2, hk.2⟩)) hg hat)
                       have n3_ := Aside0.mk (hb)
                       have n4_ := Aside0.mk ((show Kd.C k41 w39 (some ad109) y114.length y114 from by rw [Ny114.out]; exact Kd.C_take (m := (x9_3 : Int).toNat) ((Kd.R_reads' (Kd.R_after (ok := (fun k_ => some k_ ≠ (v123 : Value).ownBlock)) (by exact Ho.RS <| Kd.R_mono HO_7.out (fun _ hk => ⟨hk.2, hk.1.2⟩)) hg hat)).2.2) KL33.out))
                       have n5_ := Aside0.mk ((show Kd.C k41 w39 A34 y128.length y128 from by rw [Ny128.out, KA34.out]; exact Kd.C_drop (m := (x9_3 : Int).toNat) (c := co15) ((Kd.R_reads' (Kd.R_after (ok := (fun k_ => some k_ ≠ (v123 : Value).ownBlock)) (by exact Ho.RS <| Kd.R_mono HO_7.out (fun _ hk => ⟨hk.2, hk.1.2⟩)) hg hat)).2.2) KL34.out ((Kd.R_reads' (Kd.R_after (ok := (fun k_ => some k_ ≠ (v123 : Value).ownBlock)) (by exact Ho.RS <| Kd.R_mono HO_7.out (fun _ hk => ⟨hk.2, hk.1.2⟩)) hg hat)).2.1)))
                       have n6_ := Aside0.mk (ho)
                       clear HO_6
                       clear HO_7
                       clear HO124
                       clear HB
                       clear HR117
                       clear HR131
                       clear HO113
                       have HO_6 := n0_
                       have HO_7 := n1_
                       have HO124 := n2_
                       have HB := n3_
                       have HR117 := n4_
                       have HR131 := n5_
                       have HO120 := n6_
                       clear n0_ n1_ n2_ n3_ n4_ n5_ n6_
                       clear ho hb hg hat
                       refine hK.out _ _ ⟨((HB.out.cell (World.block_lt_of_cell? w _ hw121_0)).trans hw121_0), ((HB.out.cell (World.block_lt_of_cell? w _ hw121_1)).trans hw121_1), ((HB.out.cell (World.block_lt_of_cell? w _ hw121_2)).trans hw121_2), ((HB.out.cell (World.block_lt_of_cell? w _ hw121_3)).trans hw121_3), ((HB.out.cell (World.block_lt_of_cell? w _ hw121_4)).trans hw121_4), ((HB.out.cell (World.block_lt_of_cell? w _ hw121_5)).trans hw121_5), ((HB.out.cell (World.block_lt_of_cell? w _ hw121_6)).trans hw121_6), ((HB.out.cell (World.block_lt_of_cell? w _ hw121_7)).trans hw121_7)⟩ (fun hHeld => ?_)
                       clear hK K
                       refine norm_ (a' := ?_) ?_ ?_
                       rotate_left
                       ·show Act.put _ (some 52) _ = _
                        simp only [Z]
                        rfl
                       exact norm_ (by simp only [putAll, Act.put, List.setIfInBounds_toArray, List.set_cons_zero, List.set_cons_succ]) (hCont (v112, v119, v123) _ ⟨hHeld, (by exact Ho.RS <| Kd.R_mono HO120.out (fun _ hk => ⟨hk.2, hk.1⟩)), (by exact Ho.RS <| Kd.R_mono HO124.out (fun _ hk => ⟨hk.2, hk.1⟩)), (by exact Ho.RS <| HO_6.out), (by exact Ho.RS <| Kd.R_mono HO_7.out (fun _ hk => ⟨hk.2, hk.1⟩)), (by exact eS HB.out)⟩)
                     ·skip
                      refine Kd.R_lit_step k41 _ 41 ?hg (N := 57) ?hd (xs := ([(⟨(rd_T41 l0 x8_2).f0, (rd_T41 l0 x8_2).f1, (rd_T41 l0 x8_2).f2, (rd_T41 l0 x8_2).f3, (rd_T41 l0 x8_2).f4, (rd_T41 l0 x8_2).f5, (rd_T41 l0 x8_2).f6, (rd_T41 l0 x8_2).f7⟩ : S41)] : List (S41))) (inner := [.int .i64 ((rd_T41 l0 x8_2).f0), .string ((rd_T41 l0 x8_2).f1), .int .i64 ((rd_T41 l0 x8_2).f2), .int .i64 ((rd_T41 l0 x8_2).f3), .int .i64 ((rd_T41 l0 x8_2).f4), .int .i64 ((rd_T41 l0 x8_2).f5), .int .i64 ((rd_T41 l0 x8_2).f6), .int .i64 ((rd_T41 l0 x8_2).f7)]) (ok := fun _ => True) (okp := fun _ => True) ?hr ?hp (fun _ hk => hk) trivial (Below.refl _ _) (Nat.le_refl _) (by simp) ?_; (case hd => rfl); (case hg => rfl); (case hr => first | (go_simp; done) | (go_simp; rfl)); (case hp => exact (Reps.c8 (show Kd.M k41 _ _ _ (⟨(rd_T41 l0 x8_2).f0, (rd_T41 l0 x8_2).f1, (rd_T41 l0 x8_2).f2, (rd_T41 l0 x8_2).f3, (rd_T41 l0 x8_2).f4, (rd_T41 l0 x8_2).f5, (rd_T41 l0 x8_2).f6, (rd_T41 l0 x8_2).f7⟩ : S41) [.int .i64 ((rd_T41 l0 x8_2).f0), .string ((rd_T41 l0 x8_2).f1), .int .i64 ((rd_T41 l0 x8_2).f2), .int .i64 ((rd_T41 l0 x8_2).f3), .int .i64 ((rd_T41 l0 x8_2).f4), .int .i64 ((rd_T41 l0 x8_2).f5), .int .i64 ((rd_T41 l0 x8_2).f6), .int .i64 ((rd_T41 l0 x8_2).f7)] from (k41_mkM _ _ _ (⟨(rd_T41 l0 x8_2).f0, (rd_T41 l0 x8_2).f1, (rd_T41 l0 x8_2).f2, (rd_T41 l0 x8_2).f3, (rd_T41 l0 x8_2).f4, (rd_T41 l0 x8_2).f5, (rd_T41 l0 x8_2).f6, (rd_T41 l0 x8_2).f7⟩ : S41) )) (Reps.none _ _)))
                      intro v123 w35 ho36 hb hg_ hnew_
                      clear hg_ hnew_
                      (first | rw [← Ny122.out] at ho36 | (simp only [Int.reduceToNat] at ho36; rw [← Ny122.out] at ho36))
                      have n0_ := Aside0.mk (Kd.R_below (by exact Ho.RS <| HO_6.out) hb)
                      have n1_ := Aside0.mk (Kd.R_elder' (by exact Ho.RS <| HO_7.out) (Kd.R_base ho36) hb)
                      have n2_ := Aside0.mk (Kd.R_lower (Kd.R_new' ho36 (Kd.R_lt (by exact Ho.RS <| HO_7.out))) (below_size (by exact eS HB.out)))
                      have n3_ := Aside0.mk (Kd.C_below (by repeat (first | (with_reducible exact HR117.out) | (with_reducible refine Kd.C_alloc ?_ _) | (with_reducible refine Kd.C_drewN ?_ _) | (with_reducible refine Kd.C_drew ?_) | exact HR117.out)) hb)
                      have n4_ := Aside0.mk (Kd.C_below (by repeat (first | (with_reducible exact HR131.out) | (with_reducible refine Kd.C_alloc ?_ _) | (with_reducible refine Kd.C_drewN ?_ _) | (with_reducible refine Kd.C_drew ?_) | exact HR131.out)) hb)
                      have n5_ := Aside0.mk (below_step (by exact eS HB.out) hb)
                      clear HO_6
                      clear HO_7
                      clear HR117
                      clear HR131
                      clear HB
                      have HO_6 := n0_
                      have HO_7 := n1_
                      have HO124 := n2_
                      have HR117 := n3_
                      have HR131 := n4_
                      have HB := n5_
                      clear n0_ n1_ n2_ n3_ n4_ n5_
                      clear hb ho36
                      refine hK.out _ _ ⟨((HB.out.cell (World.block_lt_of_cell? w _ hw121_0)).trans hw121_0), ((HB.out.cell (World.block_lt_of_cell? w _ hw121_1)).trans hw121_1), ((HB.out.cell (World.block_lt_of_cell? w _ hw121_2)).trans hw121_2), ((HB.out.cell (World.block_lt_of_cell? w _ hw121_3)).trans hw121_3), ((HB.out.cell (World.block_lt_of_cell? w _ hw121_4)).trans hw121_4), ((HB.out.cell (World.block_lt_of_cell? w _ hw121_5)).trans hw121_5), ((HB.out.cell (World.block_lt_of_cell? w _ hw121_6)).trans hw121_6), ((HB.out.cell (World.block_lt_of_cell? w _ hw121_7)).trans hw121_7)⟩ (fun hHeld => ?_)
                      clear hK K
                      refine norm_ (a' := ?_) ?_ ?_
                      rotate_left
                      ·show Act.put _ (some 57) _ = _
                       simp only [Z]
                       rfl
                      refine one_ (i := 0) (N := some 48) #[I,I,I,I,O,I,I,I,I,I,O,I,I,I,O,O] rfl rfl (one_of HT_.out (by kernel_rfl)) (by decide) (fun K hK => ?_)
                      refine Kd.R_lit_step k41 _ 41 ?hg (N := 48) ?hd (xs := ([] : List (S41))) (inner := []) (ok := fun _ => True) (okp := fun _ => True) ?hr ?hp (fun _ hk => hk) trivial (Below.refl _ _) (Nat.le_refl _) (by simp) ?_; (case hd => rfl); (case hg => rfl); (case hr => first | (go_simp; done) | (go_simp; rfl)); (case hp => exact (Reps.none _ _))
                      intro v112 w37 ho38 hb hg_ hnew_
                      clear hg_ hnew_
                      (first | rw [← Ny111.out] at ho38 | (simp only [Int.reduceToNat] at ho38; rw [← Ny111.out] at ho38))
                      have n0_ := Aside0.mk (Kd.R_below (by exact Ho.RS <| HO_6.out) hb)
                      have n1_ := Aside0.mk (Kd.R_elder' (by exact Ho.RS <| HO_7.out) (Kd.R_base ho38) hb)
                      have n2_ := Aside0.mk (Kd.R_elder' (by exact Ho.RS <| HO124.out) (Kd.R_base ho38) hb)
                      have n3_ := Aside0.mk (Kd.R_lower (Kd.R_new' (Kd.R_new' ho38 (Kd.R_lt (by exact Ho.RS <| HO_7.out))) (Kd.R_lt (by exact Ho.RS <| HO124.out))) (below_size (by exact eS HB.out)))
                      have n4_ := Aside0.mk (Kd.C_below (by repeat (first | (with_reducible exact HR117.out) | (with_reducible refine Kd.C_alloc ?_ _) | (with_reducible refine Kd.C_drewN ?_ _) | (with_reducible refine Kd.C_drew ?_) | exact HR117.out)) hb)
                      have n5_ := Aside0.mk (Kd.C_below (by repeat (first | (with_reducible exact HR131.out) | (with_reducible refine Kd.C_alloc ?_ _) | (with_reducible refine Kd.C_drewN ?_ _) | (with_reducible refine Kd.C_drew ?_) | exact HR131.out)) hb)
                      have n6_ := Aside0.mk (below_step (by exact eS HB.out) hb)
                      clear HO_6
                      clear HO_7
                      clear HO124
                      clear HR117
                      clear HR131
                      clear HB
                      have HO_6 := n0_
                      have HO_7 := n1_
                      have HO124 := n2_
                      have HO113 := n3_
                      have HR117 := n4_
                      have HR131 := n5_
                      have HB := n6_
                      clear n0_ n1_ n2_ n3_ n4_ n5_ n6_
                      clear hb ho38
                      refine hK.out _ _ ⟨((HB.out.cell (World.block_lt_of_cell? w _ hw121_0)).trans hw121_0), ((HB.out.cell (World.block_lt_of_cell? w _ hw121_1)).trans hw121_1), ((HB.out.cell (World.block_lt_of_cell? w _ hw121_2)).trans hw121_2), ((HB.out.cell (World.block_lt_of_cell? w _ hw121_3)).trans hw121_3), ((HB.out.cell (World.block_lt_of_cell? w _ hw121_4)).trans hw121_4), ((HB.out.cell (World.block_lt_of_cell? w _ hw121_5)).trans hw121_5), ((HB.out.cell (World.block_lt_of_cell? w _ hw121_6)).trans hw121_6), ((HB.out.cell (World.block_lt_of_cell? w _ hw121_7)).trans hw121_7)⟩ (fun hHeld => ?_)
                      clear hK K
                      refine norm_ (a' := ?_) ?_ ?_
                      rotate_left
                      ·show Act.put _ (some 48) _ = _
                       simp only [Z]
                       rfl
                      refine one_ (i := 4) (N := some 52) #[I,I,I,I,I,I,I,I,I,I,O,I,I,I,O,O] rfl rfl (one_of HT_.out (by kernel_rfl)) (by decide) (fun K hK => ?_)
                      refine Kd.R_append_rows_step k41 (w0 := w) w.heap.size (by rfl) (.tmp 48) (.tmp 51) 28 41 (.agg #[(.int .i64 0), (.string ⟨#[]⟩), (.int .i64 0), (.int .i64 0), (.int .i64 0), (.int .i64 0), (.int .i64 0), (.int .i64 0)]) 72 rfl Tryd.underlying28 info41 rfl (by decide) (by omega) v112 y111 y114 _ _ _ (fun k_ => some k_ ≠ (.slice (some ad109) x7_2.length co15 : Value).ownBlock ∧ some k_ ≠ (v123 : Value).ownBlock) (fun _ => False) rfl rfl ?aO ?aR (fun _ _ h => h) (fun _ h => h.elim) ?aF ?aB ?aS ?aL ?_
                      (case aR => repeat (first | exact (by repeat (first | (with_reducible exact HR117.out) | (with_reducible refine Kd.C_alloc ?_ _) | (with_reducible refine Kd.C_drewN ?_ _) | (with_reducible refine Kd.C_drew ?_) | exact HR117.out)) | (with_reducible refine Kd.C_alloc ?_ _) | (with_reducible refine Kd.C_drewN ?_ _) | (with_reducible refine Kd.C_drew ?_)))
                      (case aB => exact (by exact eS HB.out))
                      (case aF => exact (fun k_ hk => ⟨Kd.fresh' (Kd.R_lt (by exact Ho.RS <| HO_7.out)) k_ hk, Kd.fresh' (Kd.R_lt (by exact Ho.RS <| HO124.out)) k_ hk⟩))
                      (case aO => exact (by exact Ho.RS <| Kd.R_mono HO113.out (fun _ hk => ⟨hk.1.2, hk.2⟩)))
                      (case aS => exact (below_size (by exact eS HB.out)))
                      (case aL => have := LMc26.out; omega)
                      intro v119 w39 ho hb hg hat
                      rw [← Ny118.out] at ho
                      have n0_ := Aside0.mk (Kd.R_over' (by exact Ho.RS <| HO_6.out) (Kd.R_typed (by exact Ho.RS <| HO113.out)) (by decide) hg)
                      have n1_ := Aside0.mk (Kd.R_after (ok := (fun k_ => some k_ ≠ (v123 : Value).ownBlock)) (by exact Ho.RS <| Kd.R_mono HO_7.out (fun _ hk => ⟨hk.1.2, hk.2⟩)) hg hat)
                      have n2_ := Aside0.mk (Kd.R_after (ok := (fun k_ => some k_ ≠ (.slice (some ad109) x7_2.length co15 : Value).ownBlock)) (by exact Ho.RS <| Kd.R_mono HO124.out (fun _ hk => ⟨hk.1.2, hk.2⟩)) hg hat)
                      have n3_ := Aside0.mk (hb)
                      have n4_ := Aside0.mk ((show Kd.C k41 w39 (some ad109) y114.length y114 from by rw [Ny114.out]; exact Kd.C_take (m := (x9_3 : Int).toNat) ((Kd.R_reads' (Kd.R_after (ok := (fun k_ => some k_ ≠ (v123 : Value).ownBlock)) (by exact Ho.RS <| Kd.R_mono HO_7.out (fun _ hk => ⟨hk.1.2, hk.2⟩)) hg hat)).2.2) KL33.out))
                      have n5_ := Aside0.mk ((show Kd.C k41 w39 A34 y128.length y128 from by rw [Ny128.out, KA34.out]; exact Kd.C_drop (m := (x9_3 : Int).toNat) (c := co15) ((Kd.R_reads' (Kd.R_after (ok := (fun k_ => some k_ ≠ (v123 : Value).ownBlock)) (by exact Ho.RS <| Kd.R_mono HO_7.out (fun _ hk => ⟨hk.1.2, hk.2⟩)) hg hat)).2.2) KL34.out ((Kd.R_reads' (Kd.R_after (ok := (fun k_ => some k_ ≠ (v123 : Value).ownBlock)) (by exact Ho.RS <| Kd.R_mono HO_7.out (fun _ hk => ⟨hk.1.2, hk.2⟩)) hg hat)).2.1)))
                      have n6_ := Aside0.mk (ho)
                      clear HO_6
                      clear HO_7
                      clear HO124
                      clear HB
                      clear HR117
                      clear HR131
                      clear HO113
                      have HO_6 := n0_
                      have HO_7 := n1_
                      have HO124 := n2_
                      have HB := n3_
                      have HR117 := n4_
                      have HR131 := n5_
                      have HO120 := n6_
                      clear n0_ n1_ n2_ n3_ n4_ n5_ n6_
                      clear ho hb hg hat
                      refine hK.out _ _ ⟨((HB.out.cell (World.block_lt_of_cell? w _ hw121_0)).trans hw121_0), ((HB.out.cell (World.block_lt_of_cell? w _ hw121_1)).trans hw121_1), ((HB.out.cell (World.block_lt_of_cell? w _ hw121_2)).trans hw121_2), ((HB.out.cell (World.block_lt_of_cell? w _ hw121_3)).trans hw121_3), ((HB.out.cell (World.block_lt_of_cell? w _ hw121_4)).trans hw121_4), ((HB.out.cell (World.block_lt_of_cell? w _ hw121_5)).trans hw121_5), ((HB.out.cell (World.block_lt_of_cell? w _ hw121_6)).trans hw121_6), ((HB.out.cell (World.block_lt_of_cell? w _ hw121_7)).trans hw121_7)⟩ (fun hHeld => ?_)
                      clear hK K
                      refine norm_ (a' := ?_) ?_ ?_
                      rotate_left
                      ·show Act.put _ (some 52) _ = _
                       simp only [Z]
                       rfl
                      exact norm_ (by simp only [putAll, Act.put, List.setIfInBounds_toArray, List.set_cons_zero, List.set_cons_succ]) (hCont (v112, v119, v123) _ ⟨hHeld, (by exact Ho.RS <| Kd.R_mono HO120.out (fun _ hk => ⟨hk.2, hk.1⟩)), (by exact Ho.RS <| Kd.R_mono HO124.out (fun _ hk => ⟨hk.2, hk.1⟩)), (by exact Ho.RS <| HO_6.out), (by exact Ho.RS <| Kd.R_mono HO_7.out (fun _ hk => ⟨hk.2, hk.1⟩)), (by exact eS HB.out)⟩)
                    rintro ⟨v112, v119, v123⟩ w40 ⟨hS_, h0_, h1_, h2_, h3_, h4_⟩
                    have n0_ : Aside0 (Kd.R k41 41 w40 w.heap.size (fun k_ => some k_ ≠ (v123 : Value).ownBlock ∧ some k_ ≠ (.slice (some ad109) x7_2.length co15 : Value).ownBlock) v119 y118) := ⟨h0_⟩
                    have n1_ : Aside0 (Kd.R k41 41 w40 w.heap.size (fun k_ => some k_ ≠ (v119 : Value).ownBlock ∧ some k_ ≠ (.slice (some ad109) x7_2.length co15 : Value).ownBlock) v123 y122) := ⟨h1_⟩
                    have n2_ : Aside0 (Kd.R (Kd.int .i64) 3 w40 w.heap.size (fun _ => True) v102 y101) := ⟨h2_⟩
                    have n3_ : Aside0 (Kd.R k41 41 w40 w.heap.size (fun k_ => some k_ ≠ (v119 : Value).ownBlock ∧ some k_ ≠ (v123 : Value).ownBlock) (.slice (some ad109) x7_2.length co15) x7_2) := ⟨h3_⟩
                    have n4_ : Aside0 (Below w.heap.size w w40) := ⟨h4_⟩
                    clear HO_6
                    clear HO_7
                    clear HB
                    clear h0_ h1_ h2_ h3_ h4_
                    have HO120 := n0_
                    have HO124 := n1_
                    have HO_6 := n2_
                    have HO_7 := n3_
                    have HB := n4_
                    clear n0_ n1_ n2_ n3_ n4_
                    have hHeld : w40.cell? (ad110.add ((x8_2).toNat * 8)) = some (.int .i64 ((rd_T41 l0 x8_2).f0)) ∧ w40.cell? ⟨(ad110.add ((x8_2).toNat * 8)).block, (ad110.add ((x8_2).toNat * 8)).off + 1, none⟩ = some (.string ((rd_T41 l0 x8_2).f1)) ∧ w40.cell? ⟨(ad110.add ((x8_2).toNat * 8)).block, (ad110.add ((x8_2).toNat * 8)).off + 2, none⟩ = some (.int .i64 ((rd_T41 l0 x8_2).f2)) ∧ w40.cell? ⟨(ad110.add ((x8_2).toNat * 8)).block, (ad110.add ((x8_2).toNat * 8)).off + 3, none⟩ = some (.int .i64 ((rd_T41 l0 x8_2).f3)) ∧ w40.cell? ⟨(ad110.add ((x8_2).toNat * 8)).block, (ad110.add ((x8_2).toNat * 8)).off + 4, none⟩ = some (.int .i64 ((rd_T41 l0 x8_2).f4)) ∧ w40.cell? ⟨(ad110.add ((x8_2).toNat * 8)).block, (ad110.add ((x8_2).toNat * 8)).off + 5, none⟩ = some (.int .i64 ((rd_T41 l0 x8_2).f5)) ∧ w40.cell? ⟨(ad110.add ((x8_2).toNat * 8)).block, (ad110.add ((x8_2).toNat * 8)).off + 6, none⟩ = some (.int .i64 ((rd_T41 l0 x8_2).f6)) ∧ w40.cell? ⟨(ad110.add ((x8_2).toNat * 8)).block, (ad110.add ((x8_2).toNat * 8)).off + 7, none⟩ = some (.int .i64 ((rd_T41 l0 x8_2).f7)) := hS_
                    have HR117 := Aside0.mk (show Kd.C k41 w40 (some ad109) y114.length y114 from by rw [Ny114.out]; exact Kd.C_take (m := (x9_3 : Int).toNat) ((Kd.R_reads' (HO_7.out)).2.2) KL33.out)
                    have HR131 := Aside0.mk (show Kd.C k41 w40 A34 y128.length y128 from by rw [Ny128.out, KA34.out]; exact Kd.C_drop (m := (x9_3 : Int).toNat) (c := co15) ((Kd.R_reads' (HO_7.out)).2.2) KL34.out ((Kd.R_reads' (HO_7.out)).2.1))
                    obtain ⟨Ao42, co42, eo42⟩ := Kd.R_slice HO124.out
                    (first | subst eo42 | (injection eo42 with f1_ f2_ f3_; have f4_ := f1_.symm; have f5_ := f3_.symm; clear f1_ f2_ f3_; subst f4_; subst f5_))
                    refine norm_ (a' := ?_) ?_ ?_
                    rotate_left
                    ·simp only [putAll, Act.put, List.setIfInBounds_toArray, List.set_cons_zero, List.set_cons_succ]
                     rfl
                    refine one_ (i := 10) (N := some 58) #[I,I,I,I,I,I,I,I,I,I,I,I,I,I,O,O] rfl rfl (one_of HT_.out (by kernel_rfl)) (by decide) (fun K hK => ?_)
                    refine Kd.R_append_rows_step k41 (w0 := w) w.heap.size (by rfl) (.tmp 52) (.tmp 57) 28 41 (.agg #[(.int .i64 0), (.string ⟨#[]⟩), (.int .i64 0), (.int .i64 0), (.int .i64 0), (.int .i64 0), (.int .i64 0), (.int .i64 0)]) 72 rfl Tryd.underlying28 info41 rfl (by decide) (by omega) v119 y118 y122 _ _ _ (fun k_ => some k_ ≠ (.slice (some ad109) x7_2.length co15 : Value).ownBlock ∧ some k_ ≠ (.slice Ao42 y122.length co42 : Value).ownBlock) (fun _ => False) rfl rfl ?aO ?aR (fun _ _ h => h) (fun _ h => h.elim) ?aF ?aB ?aS ?aL ?_
                    (case aR => repeat (first | exact (Kd.R_reads' HO124.out).2.2 | (with_reducible refine Kd.C_alloc ?_ _) | (with_reducible refine Kd.C_drewN ?_ _) | (with_reducible refine Kd.C_drew ?_)))
                    (case aB => exact (by exact eS HB.out))
                    (case aF => exact (fun k_ hk => ⟨Kd.fresh' (Kd.R_lt (by exact Ho.RS <| HO_7.out)) k_ hk, Kd.fresh' (Kd.R_lt (by exact Ho.RS <| HO124.out)) k_ hk⟩))
                    (case aO => exact (by exact Ho.RS <| Kd.R_mono HO120.out (fun _ hk => ⟨hk.2, hk.1⟩)))
                    (case aS => exact (below_size (by exact eS HB.out)))
                    (case aL => have := LMc27.out; omega)
                    intro v126 w41 ho hb hg hat
                    rw [← Ny125.out] at ho
                    have n0_ := Aside0.mk (Kd.R_over' (by exact Ho.RS <| HO_6.out) (Kd.R_typed (by exact Ho.RS <| HO120.out)) (by decide) hg)
                    have n1_ := Aside0.mk (Kd.R_after (ok := (fun k_ => some k_ ≠ (.slice Ao42 y122.length co42 : Value).ownBlock)) (by exact Ho.RS <| Kd.R_mono HO_7.out (fun _ hk => ⟨hk.2, hk.1⟩)) hg hat)
                    have n2_ := Aside0.mk (Kd.R_after (ok := (fun k_ => some k_ ≠ (.slice (some ad109) x7_2.length co15 : Value).ownBlock)) (by exact Ho.RS <| Kd.R_mono HO124.out (fun _ hk => ⟨hk.2, hk.1⟩)) hg hat)
                    have n3_ := Aside0.mk (hb)
                    have n4_ := Aside0.mk ((show Kd.C k41 w41 (some ad109) y114.length y114 from by rw [Ny114.out]; exact Kd.C_take (m := (x9_3 : Int).toNat) ((Kd.R_reads' (Kd.R_after (ok := (fun k_ => some k_ ≠ (.slice Ao42 y122.length co42 : Value).ownBlock)) (by exact Ho.RS <| Kd.R_mono HO_7.out (fun _ hk => ⟨hk.2, hk.1⟩)) hg hat)).2.2) KL33.out))
                    have n5_ := Aside0.mk ((show Kd.C k41 w41 A34 y128.length y128 from by rw [Ny128.out, KA34.out]; exact Kd.C_drop (m := (x9_3 : Int).toNat) (c := co15) ((Kd.R_reads' (Kd.R_after (ok := (fun k_ => some k_ ≠ (.slice Ao42 y122.length co42 : Value).ownBlock)) (by exact Ho.RS <| Kd.R_mono HO_7.out (fun _ hk => ⟨hk.2, hk.1⟩)) hg hat)).2.2) KL34.out ((Kd.R_reads' (Kd.R_after (ok := (fun k_ => some k_ ≠ (.slice Ao42 y122.length co42 : Value).ownBlock)) (by exact Ho.RS <| Kd.R_mono HO_7.out (fun _ hk => ⟨hk.2, hk.1⟩)) hg hat)).2.1)))
                    have n6_ := Aside0.mk (ho)
                    clear HO_6
                    clear HO_7
                    clear HO124
                    clear HB
                    clear HR117
                    clear HR131
                    clear HO120
                    have HO_6 := n0_
                    have HO_7 := n1_
                    have HO124 := n2_
                    have HB := n3_
                    have HR117 := n4_
                    have HR131 := n5_
                    have HO127 := n6_
                    clear n0_ n1_ n2_ n3_ n4_ n5_ n6_
                    clear ho hb hg hat
                    refine hK.out _ _ ⟨((HB.out.cell (World.block_lt_of_cell? w _ hw121_0)).trans hw121_0), ((HB.out.cell (World.block_lt_of_cell? w _ hw121_1)).trans hw121_1), ((HB.out.cell (World.block_lt_of_cell? w _ hw121_2)).trans hw121_2), ((HB.out.cell (World.block_lt_of_cell? w _ hw121_3)).trans hw121_3), ((HB.out.cell (World.block_lt_of_cell? w _ hw121_4)).trans hw121_4), ((HB.out.cell (World.block_lt_of_cell? w _ hw121_5)).trans hw121_5), ((HB.out.cell (World.block_lt_of_cell? w _ hw121_6)).trans hw121_6), ((HB.out.cell (World.block_lt_of_cell? w _ hw121_7)).trans hw121_7)⟩ (fun hHeld => ?_)
                    clear hK K
                    refine norm_ (a' := ?_) ?_ ?_
                    rotate_left
                    ·show Act.put _ (some 58) _ = _
                     simp only [Z]
                     rfl
                    refine one_ (i := 14) (N := some 62) #[I,I,I,I,I,I,I,I,I,I,I,I,I,I,I,O] rfl rfl (one_of HT_.out (by kernel_rfl)) (by decide) (fun K hK => ?_)
                    refine Kd.R_append_rows_step k41 (w0 := w) w.heap.size (by rfl) (.tmp 58) (.tmp 61) 28 41 (.agg #[(.int .i64 0), (.string ⟨#[]⟩), (.int .i64 0), (.int .i64 0), (.int .i64 0), (.int .i64 0), (.int .i64 0), (.int .i64 0)]) 72 rfl Tryd.underlying28 info41 rfl (by decide) (by omega) v126 y125 y128 _ _ _ (fun k_ => some k_ ≠ (.slice (some ad109) x7_2.length co15 : Value).ownBlock ∧ some k_ ≠ (.slice Ao42 y122.length co42 : Value).ownBlock) (fun _ => False) rfl rfl ?aO ?aR (fun _ _ h => h) (fun _ h => h.elim) ?aF ?aB ?aS ?aL ?_
                    (case aR => repeat (first | exact (by repeat (first | (with_reducible exact HR131.out) | (with_reducible refine Kd.C_alloc ?_ _) | (with_reducible refine Kd.C_drewN ?_ _) | (with_reducible refine Kd.C_drew ?_) | exact HR131.out)) | (with_reducible refine Kd.C_alloc ?_ _) | (with_reducible refine Kd.C_drewN ?_ _) | (with_reducible refine Kd.C_drew ?_)))
                    (case aB => exact (by exact eS HB.out))
                    (case aF => exact (fun k_ hk => ⟨Kd.fresh' (Kd.R_lt (by exact Ho.RS <| HO_7.out)) k_ hk, Kd.fresh' (Kd.R_lt (by exact Ho.RS <| HO124.out)) k_ hk⟩))
                    (case aO => exact (by exact Ho.RS <| HO127.out))
                    (case aS => exact (below_size (by exact eS HB.out)))
                    (case aL => have := LMc30.out; omega)
                    intro v133 w43 ho hb hg hat
                    rw [← Ny132.out] at ho
                    have n0_ := Aside0.mk (Kd.R_over' (by exact Ho.RS <| HO_6.out) (Kd.R_typed (by exact Ho.RS <| HO127.out)) (by decide) hg)
                    have n1_ := Aside0.mk (Kd.R_after (ok := (fun k_ => some k_ ≠ (.slice Ao42 y122.length co42 : Value).ownBlock)) (by exact Ho.RS <| HO_7.out) hg hat)
                    have n2_ := Aside0.mk (Kd.R_after (ok := (fun k_ => some k_ ≠ (.slice (some ad109) x7_2.length co15 : Value).ownBlock)) (by exact Ho.RS <| HO124.out) hg hat)
                    have n3_ := Aside0.mk (hb)
                    have n4_ := Aside0.mk ((show Kd.C k41 w43 (some ad109) y114.length y114 from by rw [Ny114.out]; exact Kd.C_take (m := (x9_3 : Int).toNat) ((Kd.R_reads' (Kd.R_after (ok := (fun k_ => some k_ ≠ (.slice Ao42 y122.length co42 : Value).ownBlock)) (by exact Ho.RS <| HO_7.out) hg hat)).2.2) KL33.out))
                    have n5_ := Aside0.mk ((show Kd.C k41 w43 A34 y128.length y128 from by rw [Ny128.out, KA34.out]; exact Kd.C_drop (m := (x9_3 : Int).toNat) (c := co15) ((Kd.R_reads' (Kd.R_after (ok := (fun k_ => some k_ ≠ (.slice Ao42 y122.length co42 : Value).ownBlock)) (by exact Ho.RS <| HO_7.out) hg hat)).2.2) KL34.out ((Kd.R_reads' (Kd.R_after (ok := (fun k_ => some k_ ≠ (.slice Ao42 y122.length co42 : Value).ownBlock)) (by exact Ho.RS <| HO_7.out) hg hat)).2.1)))
                    have n6_ := Aside0.mk (ho)
                    clear HO_6
                    clear HO_7
                    clear HO124
                    clear HB
                    clear HR117
                    clear HR131
                    clear HO127
                    have HO_6 := n0_
                    have HO_7 := n1_
                    have HO124 := n2_
                    have HB := n3_
                    have HR117 := n4_
                    have HR131 := n5_
                    have HO134 := n6_
                    clear n0_ n1_ n2_ n3_ n4_ n5_ n6_
                    clear ho hb hg hat
                    refine hK.out _ _ ⟨((HB.out.cell (World.block_lt_of_cell? w _ hw121_0)).trans hw121_0), ((HB.out.cell (World.block_lt_of_cell? w _ hw121_1)).trans hw121_1), ((HB.out.cell (World.block_lt_of_cell? w _ hw121_2)).trans hw121_2), ((HB.out.cell (World.block_lt_of_cell? w _ hw121_3)).trans hw121_3), ((HB.out.cell (World.block_lt_of_cell? w _ hw121_4)).trans hw121_4), ((HB.out.cell (World.block_lt_of_cell? w _ hw121_5)).trans hw121_5), ((HB.out.cell (World.block_lt_of_cell? w _ hw121_6)).trans hw121_6), ((HB.out.cell (World.block_lt_of_cell? w _ hw121_7)).trans hw121_7)⟩ (fun hHeld => ?_)
                    clear hK K
                    refine norm_ (a' := ?_) ?_ ?_
                    rotate_left
                    ·show Act.put _ (some 62) _ = _
                     simp only [Z]
                     rfl
                    refine pure_ (i := 15) (N := some 7) (v := ?_) (a' := ?_) #[I,I,I,I,I,I,I,I,I,I,I,I,I,I,I,I] rfl rfl (any_of HT_.out (by kernel_rfl)) (fun _ _ _ h => h) (Or.inl ⟨by rfl, ?_⟩) ?_ ?_
                    rotate_left; (intro w'; go_simp; with_reducible rfl); rotate_left; (simp only [Z]; rfl)
                    refine done_ (done_of HT_.out (by kernel_rfl)) ?_
                    try go_wp2
                    go_roundg k3
                    case measure => have := HJ2.out; have := HK2.out; have := HK3.out; omega
                    case rel => exact ⟨(y132), (wrap64 (x8_2 + 1)), (by first | rfl | (simp; done) | (simp [*]; done)), H', ⟨by have := HJ2.out; have := HK2.out; have := HK3.out; omega⟩, ⟨by exact Ho.RS <| HO_6.out⟩, ⟨by exact Ho.RS <| Kd.R_mono HO134.out (fun _ hk => trivial)⟩, ⟨by exact eS HB.out⟩⟩
                   ·rw [if_neg c30] at H
                    exact absurd H (by simp)
                  ·rw [if_neg c27] at H
                   exact absurd H (by simp)
                 ·rw [if_neg c26] at H
                  exact absurd H (by simp)
                ·rw [if_neg c25] at H
                 exact absurd H (by simp)
               ·rw [if_neg c24] at H
                exact absurd H (by simp)
             ·rw [if_neg c21] at H
              exact absurd H (by simp)
            ·rw [if_neg c20] at H
             exact absurd H (by simp)
           ·rw [if_neg c19] at H
            exact absurd H (by simp)
          ·rw [if_neg c18] at H
           exact absurd H (by simp)
         ·rw [if_neg c16] at H
          have c16b0 : decide (0 < x9_3) = false := decide_eq_false c16
          clear c16
          obtain ⟨y135, hy135⟩ : ∃ y_ : List (S41), y_ = (([] : List (S41))) := ⟨_, rfl⟩
          replace H : (if 0 ≤ x9_3 then (if x9_3 ≤ (x7_2.length : Int) then ((some (x7_2.take (x9_3 : Int).toNat : List (S41))).bind fun y138 => (if y135.length + y138.length < 1954687338268 then ((some (y135 ++ y138 : List (S41))).bind fun y142 => (if 0 ≤ x8_2 then (if x8_2 < (l0.length : Int) then ((some (([(⟨(rd_T41 l0 x8_2).f0, (rd_T41 l0 x8_2).f1, (rd_T41 l0 x8_2).f2, (rd_T41 l0 x8_2).f3, (rd_T41 l0 x8_2).f4, (rd_T41 l0 x8_2).f5, (rd_T41 l0 x8_2).f6, (rd_T41 l0 x8_2).f7⟩ : S41)] : List (S41)) : List (S41))).bind fun y146 => (if y142.length + y146.length < 1954687338268 then ((some (y142 ++ y146 : List (S41))).bind fun y149 => ((some (x7_2.drop (x9_3 : Int).toNat : List (S41))).bind fun y152 => (if y149.length + y152.length < 1954687338268 then (spec_AtStage.l0 k3 l0 a1 y101 (y149 ++ y152) (wrap64 (x8_2 + 1))) else (none)))) else (none))) else (none)) else (none))) else (none))) else (none)) else (none)) = some (r1, r2) := by first | (rw [hy135]; with_reducible exact H) | (have H2_ := (Option.bind_some _ _).symm.trans H; rw [hy135]; with_reducible exact H2_) | (have H2_ := (Option.bind_some _ _).symm.trans H; with_reducible exact H2_) | with_reducible exact H | (rw [hy135]; exact H) | exact H
          have Ny135 := Aside0.mk hy135
          clear hy135
          by_cases c44 : 0 ≤ x9_3
          ·rw [if_pos c44] at H
           have c44b0 := eq_true c44
           have c44b1 : decide (0 ≤ x9_3) = true := decide_eq_true c44
           clear c44
           by_cases c45 : x9_3 ≤ (x7_2.length : Int)
           ·rw [if_pos c45] at H
            have c45b0 := eq_true c45
            have c45b1 : decide (x9_3 ≤ (x7_2.length : Int)) = true := decide_eq_true c45
            clear c45
            obtain ⟨y138, hy138⟩ : ∃ y_ : List (S41), y_ = (x7_2.take (x9_3 : Int).toNat) := ⟨_, rfl⟩
            replace H : (if y135.length + y138.length < 1954687338268 then ((some (y135 ++ y138 : List (S41))).bind fun y142 => (if 0 ≤ x8_2 then (if x8_2 < (l0.length : Int) then ((some (([(⟨(rd_T41 l0 x8_2).f0, (rd_T41 l0 x8_2).f1, (rd_T41 l0 x8_2).f2, (rd_T41 l0 x8_2).f3, (rd_T41 l0 x8_2).f4, (rd_T41 l0 x8_2).f5, (rd_T41 l0 x8_2).f6, (rd_T41 l0 x8_2).f7⟩ : S41)] : List (S41)) : List (S41))).bind fun y146 => (if y142.length + y146.length < 1954687338268 then ((some (y142 ++ y146 : List (S41))).bind fun y149 => ((some (x7_2.drop (x9_3 : Int).toNat : List (S41))).bind fun y152 => (if y149.length + y152.length < 1954687338268 then (spec_AtStage.l0 k3 l0 a1 y101 (y149 ++ y152) (wrap64 (x8_2 + 1))) else (none)))) else (none))) else (none)) else (none))) else (none)) = some (r1, r2) := by first | (rw [hy138]; with_reducible exact H) | (have H2_ := (Option.bind_some _ _).symm.trans H; rw [hy138]; with_reducible exact H2_) | (have H2_ := (Option.bind_some _ _).symm.trans H; with_reducible exact H2_) | with_reducible exact H | (rw [hy138]; exact H) | exact H
            have Ny138 := Aside0.mk hy138
            clear hy138
            by_cases c46 : y135.length + y138.length < 1954687338268
            ·rw [if_pos c46] at H
             have LMc46 := Aside0.mk c46
             clear c46
             obtain ⟨y142, hy142⟩ : ∃ y_ : List (S41), y_ = (y135 ++ y138) := ⟨_, rfl⟩
             replace H : (if 0 ≤ x8_2 then (if x8_2 < (l0.length : Int) then ((some (([(⟨(rd_T41 l0 x8_2).f0, (rd_T41 l0 x8_2).f1, (rd_T41 l0 x8_2).f2, (rd_T41 l0 x8_2).f3, (rd_T41 l0 x8_2).f4, (rd_T41 l0 x8_2).f5, (rd_T41 l0 x8_2).f6, (rd_T41 l0 x8_2).f7⟩ : S41)] : List (S41)) : List (S41))).bind fun y146 => (if y142.length + y146.length < 1954687338268 then ((some (y142 ++ y146 : List (S41))).bind fun y149 => ((some (x7_2.drop (x9_3 : Int).toNat : List (S41))).bind fun y152 => (if y149.length + y152.length < 1954687338268 then (spec_AtStage.l0 k3 l0 a1 y101 (y149 ++ y152) (wrap64 (x8_2 + 1))) else (none)))) else (none))) else (none)) else (none)) = some (r1, r2) := by first | (rw [hy142]; with_reducible exact H) | (have H2_ := (Option.bind_some _ _).symm.trans H; rw [hy142]; with_reducible exact H2_) | (have H2_ := (Option.bind_some _ _).symm.trans H; with_reducible exact H2_) | with_reducible exact H | (rw [hy142]; exact H) | exact H
             have Ny142 := Aside0.mk hy142
             clear hy142
             by_cases c47 : 0 ≤ x8_2
             ·rw [if_pos c47] at H
              have c47b0 : decide (0 ≤ x8_2) = true := decide_eq_true c47
              clear c47
              by_cases c48 : x8_2 < (l0.length : Int)
              ·rw [if_pos c48] at H
               have c48b0 : decide (x8_2 < (l0.length : Int)) = true := decide_eq_true c48
               clear c48
               obtain ⟨y146, hy146⟩ : ∃ y_ : List (S41), y_ = (([(⟨(rd_T41 l0 x8_2).f0, (rd_T41 l0 x8_2).f1, (rd_T41 l0 x8_2).f2, (rd_T41 l0 x8_2).f3, (rd_T41 l0 x8_2).f4, (rd_T41 l0 x8_2).f5, (rd_T41 l0 x8_2).f6, (rd_T41 l0 x8_2).f7⟩ : S41)] : List (S41))) := ⟨_, rfl⟩
               replace H : (if y142.length + y146.length < 1954687338268 then ((some (y142 ++ y146 : List (S41))).bind fun y149 => ((some (x7_2.drop (x9_3 : Int).toNat : List (S41))).bind fun y152 => (if y149.length + y152.length < 1954687338268 then (spec_AtStage.l0 k3 l0 a1 y101 (y149 ++ y152) (wrap64 (x8_2 + 1))) else (none)))) else (none)) = some (r1, r2) := by first | (rw [hy146]; with_reducible exact H) | (have H2_ := (Option.bind_some _ _).symm.trans H; rw [hy146]; with_reducible exact H2_) | (have H2_ := (Option.bind_some _ _).symm.trans H; with_reducible exact H2_) | with_reducible exact H | (rw [hy146]; exact H) | exact H
               have Ny146 := Aside0.mk hy146
               clear hy146
               by_cases c49 : y142.length + y146.length < 1954687338268
               ·rw [if_pos c49] at H
                have LMc49 := Aside0.mk c49
                clear c49
                obtain ⟨y149, hy149⟩ : ∃ y_ : List (S41), y_ = (y142 ++ y146) := ⟨_, rfl⟩
                replace H : ((some (x7_2.drop (x9_3 : Int).toNat : List (S41))).bind fun y152 => (if y149.length + y152.length < 1954687338268 then (spec_AtStage.l0 k3 l0 a1 y101 (y149 ++ y152) (wrap64 (x8_2 + 1))) else (none))) = some (r1, r2) := by first | (rw [hy149]; with_reducible exact H) | (have H2_ := (Option.bind_some _ _).symm.trans H; rw [hy149]; with_reducible exact H2_) | (have H2_ := (Option.bind_some _ _).symm.trans H; with_reducible exact H2_) | with_reducible exact H | (rw [hy149]; exact H) | exact H
                have Ny149 := Aside0.mk hy149
                clear hy149
                have c50b0 := eq_true (of_decide_eq_true (by first | (with_reducible assumption) | assumption) : 0 ≤ x9_3)
                have c51b0 := eq_true (of_decide_eq_true (by first | (with_reducible assumption) | assumption) : x9_3 ≤ (x7_2.length : Int))
                obtain ⟨y152, hy152⟩ : ∃ y_ : List (S41), y_ = (x7_2.drop (x9_3 : Int).toNat) := ⟨_, rfl⟩
                replace H : (if y149.length + y152.length < 1954687338268 then (spec_AtStage.l0 k3 l0 a1 y101 (y149 ++ y152) (wrap64 (x8_2 + 1))) else (none)) = some (r1, r2) := by first | (rw [hy152]; with_reducible exact H) | (have H2_ := (Option.bind_some _ _).symm.trans H; rw [hy152]; with_reducible exact H2_) | (have H2_ := (Option.bind_some _ _).symm.trans H; with_reducible exact H2_) | with_reducible exact H | (rw [hy152]; exact H) | exact H
                have Ny152 := Aside0.mk hy152
                clear hy152
                by_cases c52 : y149.length + y152.length < 1954687338268
                ·rw [if_pos c52] at H
                 have LMc52 := Aside0.mk c52
                 clear c52
                 obtain ⟨y156, hy156⟩ : ∃ y_ : List (S41), y_ = (y149 ++ y152) := ⟨_, rfl⟩
                 replace H : (spec_AtStage.l0 k3 l0 a1 y101 y156 (wrap64 (x8_2 + 1))) = some (r1, r2) := by first | (rw [hy156]; with_reducible exact H) | (have H2_ := (Option.bind_some _ _).symm.trans H; rw [hy156]; with_reducible exact H2_) | (have H2_ := (Option.bind_some _ _).symm.trans H; with_reducible exact H2_) | with_reducible exact H | (rw [hy156]; exact H) | exact H
                 have Ny156 := Aside0.mk hy156
                 clear hy156
                 have H' := Aside0.mk H
                 clear H
                 try go_wp2
                 have n0_ := Aside0.mk (Kd.R_drew HO_6.out)
                 have n1_ := Aside0.mk (Kd.R_drew HO_7.out)
                 have n2_ := Aside0.mk (below_drew1 HB.out)
                 clear HO_6
                 clear HO_7
                 clear HB
                 have HO_6 := n0_
                 have HO_7 := n1_
                 have HB := n2_
                 clear n0_ n1_ n2_
                 refine start_ (n := 16) (S := fun w' => True) (ds := []) #[O,O,O,O,O,O,O,O,O,O,O,O,O,O,O,O] (by kernel_rfl) rfl rfl trivial (fun hHeld => ?_); refine with_tabW spec_AtStage.tab9 spec_AtStage.bits9 (fun HT_ HW_ => ?_)
                 generalize wr.drew = w53 at HO_6 HO_7 HB hHeld ⊢
                 refine pure_ (i := 0) (N := some 30) (v := ?_) (a' := ?_) #[I,O,O,O,O,O,O,O,O,O,O,O,O,O,O,O] rfl rfl (any_of HT_.out (by kernel_rfl)) (fun _ _ _ h => h) (Or.inl ⟨by rfl, ?_⟩) ?_ ?_
                 rotate_left; (intro w'; go_simp; with_reducible rfl); rotate_left; (simp only [Z]; rfl)
                 refine pure_ (i := 1) (N := some 31) (v := ?_) (a' := ?_) #[I,I,O,O,O,O,O,O,O,O,O,O,O,O,O,O] rfl rfl (any_of HT_.out (by kernel_rfl)) (fun _ _ _ h => h) (Or.inl ⟨by rfl, ?_⟩) ?_ ?_
                 rotate_left; (intro w'; go_simp; with_reducible rfl); rotate_left; (simp only [Z]; rfl)
                 refine pure_ (i := 2) (N := some 32) (v := ?_) (a' := ?_) #[I,I,I,O,O,O,O,O,O,O,O,O,O,O,O,O] rfl rfl (any_of HT_.out (by kernel_rfl)) (fun _ _ _ h => h) (Or.inl ⟨by rfl, ?_⟩) ?_ ?_
                 rotate_left; (intro w'; go_simp; with_reducible rfl); rotate_left; (simp only [Z]; rfl)
                 refine pure_ (i := 3) (N := some 33) (v := undef) (a' := ?_) #[I,I,I,I,O,O,O,O,O,O,O,O,O,O,O,O] rfl rfl (any_of HT_.out (by kernel_rfl)) (fun _ _ _ h => h) (Or.inr ⟨by rfl, rfl⟩) ?_ ?_
                 rotate_left; (simp only [Z]; rfl)
                 refine pure_ (i := 4) (N := some 34) (v := undef) (a' := ?_) #[I,I,I,I,I,O,O,O,O,O,O,O,O,O,O,O] rfl rfl (any_of HT_.out (by kernel_rfl)) (fun _ _ _ h => h) (Or.inr ⟨by rfl, rfl⟩) ?_ ?_
                 rotate_left; (simp only [Z]; rfl)
                 refine pure_ (i := 5) (N := some 35) (v := undef) (a' := ?_) #[I,I,I,I,I,I,O,O,O,O,O,O,O,O,O,O] rfl rfl (any_of HT_.out (by kernel_rfl)) (fun _ _ _ h => h) (Or.inr ⟨by rfl, rfl⟩) ?_ ?_
                 rotate_left; (simp only [Z]; rfl)
                 refine pure_ (i := 6) (N := some 36) (v := undef) (a' := ?_) #[I,I,I,I,I,I,I,O,O,O,O,O,O,O,O,O] rfl rfl (any_of HT_.out (by kernel_rfl)) (fun _ _ _ h => h) (Or.inr ⟨by rfl, rfl⟩) ?_ ?_
                 rotate_left; (simp only [Z]; rfl)
                 refine pure_ (i := 7) (N := some 37) (v := undef) (a' := ?_) #[I,I,I,I,I,I,I,I,O,O,O,O,O,O,O,O] rfl rfl (any_of HT_.out (by kernel_rfl)) (fun _ _ _ h => h) (Or.inr ⟨by rfl, rfl⟩) ?_ ?_
                 rotate_left; (simp only [Z]; rfl)
                 refine pure_ (i := 8) (N := some 38) (v := undef) (a' := ?_) #[I,I,I,I,I,I,I,I,I,O,O,O,O,O,O,O] rfl rfl (any_of HT_.out (by kernel_rfl)) (fun _ _ _ h => h) (Or.inr ⟨by rfl, rfl⟩) ?_ ?_
                 rotate_left; (simp only [Z]; rfl)
                 refine pure_ (i := 9) (N := some 39) (v := undef) (a' := ?_) #[I,I,I,I,I,I,I,I,I,I,O,O,O,O,O,O] rfl rfl (any_of HT_.out (by kernel_rfl)) (fun _ _ _ h => h) (Or.inr ⟨by rfl, rfl⟩) ?_ ?_
                 rotate_left; (simp only [Z]; rfl)
                 refine pure_ (i := 10) (N := some 40) (v := undef) (a' := ?_) #[I,I,I,I,I,I,I,I,I,I,I,O,O,O,O,O] rfl rfl (any_of HT_.out (by kernel_rfl)) (fun _ _ _ h => h) (Or.inr ⟨by rfl, rfl⟩) ?_ ?_
                 rotate_left; (simp only [Z]; rfl)
                 refine pure_ (i := 11) (N := some 41) (v := undef) (a' := ?_) #[I,I,I,I,I,I,I,I,I,I,I,I,O,O,O,O] rfl rfl (any_of HT_.out (by kernel_rfl)) (fun _ _ _ h => h) (Or.inr ⟨by rfl, rfl⟩) ?_ ?_
                 rotate_left; (simp only [Z]; rfl)
                 refine pure_ (i := 12) (N := some 42) (v := undef) (a' := ?_) #[I,I,I,I,I,I,I,I,I,I,I,I,I,O,O,O] rfl rfl (any_of HT_.out (by kernel_rfl)) (fun _ _ _ h => h) (Or.inr ⟨by rfl, rfl⟩) ?_ ?_
                 rotate_left; (simp only [Z]; rfl)
                 refine pure_ (i := 13) (N := some 43) (v := undef) (a' := ?_) #[I,I,I,I,I,I,I,I,I,I,I,I,I,I,O,O] rfl rfl (any_of HT_.out (by kernel_rfl)) (fun _ _ _ h => h) (Or.inr ⟨by rfl, rfl⟩) ?_ ?_
                 rotate_left; (simp only [Z]; rfl)
                 refine pure_ (i := 14) (N := some 44) (v := undef) (a' := ?_) #[I,I,I,I,I,I,I,I,I,I,I,I,I,I,I,O] rfl rfl (any_of HT_.out (by kernel_rfl)) (fun _ _ _ h => h) (Or.inr ⟨by rfl, rfl⟩) ?_ ?_
                 rotate_left; (simp only [Z]; rfl)
                 refine pure_ (i := 15) (N := some 45) (v := ?_) (a' := ?_) #[I,I,I,I,I,I,I,I,I,I,I,I,I,I,I,I] rfl rfl (any_of HT_.out (by kernel_rfl)) (fun _ _ _ h => h) (Or.inl ⟨by rfl, ?_⟩) ?_ ?_
                 rotate_left; (intro w'; go_simp; with_reducible rfl); rotate_left; (simp only [Z]; rfl)
                 refine done_ (done_of HT_.out (by kernel_rfl)) ?_
                 try go_wp2
                 have n0_ := Aside0.mk (Kd.R_drew HO_6.out)
                 have n1_ := Aside0.mk (Kd.R_drew HO_7.out)
                 have n2_ := Aside0.mk (below_drew1 HB.out)
                 clear HO_6
                 clear HO_7
                 clear HB
                 have HO_6 := n0_
                 have HO_7 := n1_
                 have HB := n2_
                 clear n0_ n1_ n2_
                 have q55 : (x9_3 : Int) ≤ ((x7_2.length : Int) : Int) := of_decide_eq_true (by first | (with_reducible assumption) | assumption)
                 obtain ⟨i055, hi055, _, hsz55, _⟩ := info_parts info41
                 have hroom55 : x7_2.length ≤ co15 := (Kd.R_reads' HO_7.out).2.1
                 have hC55 : Kd.C k41 _ Ao15 x7_2.length x7_2 := (Kd.R_reads' HO_7.out).2.2
                 have hcut55 := cut_to (P := Tryd.prog) 28 41 .i64 Tryd.underlying28 hi055 Ao15 x7_2.length co15 x9_3 (of_decide_eq_true (by first | (with_reducible assumption) | assumption)) q55 hroom55
                 have hr55 := Kd.C_take (m := (x9_3 : Int).toNat) hC55 (by omega)
                 have hy55 : y138.length = (x9_3 : Int).toNat := (by rw [Ny138.out, List.length_take]; omega)
                 rw [← Ny138.out] at hr55
                 rw [← hy55] at hcut55
                 have HR141 := Aside0.mk hr55
                 have HC141 := Aside0.mk (show y138.length ≤ co15 from by omega)
                 clear hr55 hC55 hroom55 hi055 hsz55
                 have KY55 := Aside0.mk hy55
                 clear hy55
                 have KL55 := Aside0.mk (show (x9_3 : Int).toNat ≤ x7_2.length from by omega)
                 replace q55 := eq_true q55
                 have p145 : 0 ≤ (x8_2 : Int) := of_decide_eq_true (by first | (with_reducible assumption) | assumption)
                 have q145 : x8_2 < (l0.length : Int) := of_decide_eq_true (by first | (with_reducible assumption) | assumption)
                 obtain ⟨ad145, e145, hx145_0, hx145_1, hx145_2, hx145_3, hx145_4, hx145_5, hx145_6, hx145_7⟩ := at_T41 HR0.out x8_2 p145 q145
                 have hw145_7 := hx145_7
                 have hw145_6 := hx145_6
                 have hw145_5 := hx145_5
                 have hw145_4 := hx145_4
                 have hw145_3 := hx145_3
                 have hw145_2 := hx145_2
                 have hw145_1 := hx145_1
                 have hw145_0 := hx145_0
                 cases e145
                 replace hx145_0 := (HB.out.cell (World.block_lt_of_cell? w _ hx145_0)).trans hx145_0
                 replace hx145_1 := (HB.out.cell (World.block_lt_of_cell? w _ hx145_1)).trans hx145_1
                 replace hx145_2 := (HB.out.cell (World.block_lt_of_cell? w _ hx145_2)).trans hx145_2
                 replace hx145_3 := (HB.out.cell (World.block_lt_of_cell? w _ hx145_3)).trans hx145_3
                 replace hx145_4 := (HB.out.cell (World.block_lt_of_cell? w _ hx145_4)).trans hx145_4
                 replace hx145_5 := (HB.out.cell (World.block_lt_of_cell? w _ hx145_5)).trans hx145_5
                 replace hx145_6 := (HB.out.cell (World.block_lt_of_cell? w _ hx145_6)).trans hx145_6
                 replace hx145_7 := (HB.out.cell (World.block_lt_of_cell? w _ hx145_7)).trans hx145_7
                 replace p145 := eq_true p145
                 replace q145 := eq_true q145
                 have q56 : (x9_3 : Int) ≤ ((x7_2.length : Int) : Int) := of_decide_eq_true (by first | (with_reducible assumption) | assumption)
                 obtain ⟨i056, hi056, _, hsz56, _⟩ := info_parts info41
                 have hroom56 : x7_2.length ≤ co15 := (Kd.R_reads' HO_7.out).2.1
                 have hC56 : Kd.C k41 _ Ao15 x7_2.length x7_2 := (Kd.R_reads' HO_7.out).2.2
                 have q056 : (0 : Int) ≤ (x9_3 : Int) := of_decide_eq_true (by first | (with_reducible assumption) | assumption)
                 have hcut56 := cut_from (P := Tryd.prog) 28 41 .i64 Tryd.underlying28 hi056 8 hsz56 Ao15 x7_2.length co15 x9_3 q056 q56
                 have hr56 := Kd.C_drop (m := (x9_3 : Int).toNat) (c := co15) hC56 (by omega) hroom56
                 obtain ⟨A56, hA56⟩ : ∃ A1, A1 = (if co15 = (x9_3 : Int).toNat then Ao15 else (Ao15 : Option Addr).map (·.add ((x9_3 : Int).toNat * 8))) := ⟨_, rfl⟩
                 obtain ⟨c56, hc56⟩ : ∃ c1, c1 = co15 - (x9_3 : Int).toNat := ⟨_, rfl⟩
                 have hy56 : y152.length = x7_2.length - (x9_3 : Int).toNat := (by rw [Ny152.out, List.length_drop] <;> omega)
                 rw [show (x7_2).drop (x9_3 : Int).toNat = y152 from Ny152.out.symm] at hr56
                 replace hr56 : Kd.C k41 _ A56 y152.length y152 := (by rw [hA56]; exact hr56)
                 rw [← hy56, ← hA56, ← hc56] at hcut56
                 have HR155 := Aside0.mk hr56
                 have HC155 := Aside0.mk (show y152.length ≤ c56 from by rw [hy56, hc56]; exact Nat.sub_le_sub_right hroom56 _)
                 clear hr56 hC56 hroom56 hi056 hsz56 hc56
                 have KY56 := Aside0.mk hy56
                 have KA56 := Aside0.mk hA56
                 clear hy56 hA56
                 have KL56 := Aside0.mk (show (x9_3 : Int).toNat ≤ x7_2.length from by omega)
                 replace q56 := eq_true q56
                 refine start_ (n := 16) (S := fun w' => w'.cell? (ad145.add ((x8_2).toNat * 8)) = some (.int .i64 ((rd_T41 l0 x8_2).f0)) ∧ w'.cell? ⟨(ad145.add ((x8_2).toNat * 8)).block, (ad145.add ((x8_2).toNat * 8)).off + 1, none⟩ = some (.string ((rd_T41 l0 x8_2).f1)) ∧ w'.cell? ⟨(ad145.add ((x8_2).toNat * 8)).block, (ad145.add ((x8_2).toNat * 8)).off + 2, none⟩ = some (.int .i64 ((rd_T41 l0 x8_2).f2)) ∧ w'.cell? ⟨(ad145.add ((x8_2).toNat * 8)).block, (ad145.add ((x8_2).toNat * 8)).off + 3, none⟩ = some (.int .i64 ((rd_T41 l0 x8_2).f3)) ∧ w'.cell? ⟨(ad145.add ((x8_2).toNat * 8)).block, (ad145.add ((x8_2).toNat * 8)).off + 4, none⟩ = some (.int .i64 ((rd_T41 l0 x8_2).f4)) ∧ w'.cell? ⟨(ad145.add ((x8_2).toNat * 8)).block, (ad145.add ((x8_2).toNat * 8)).off + 5, none⟩ = some (.int .i64 ((rd_T41 l0 x8_2).f5)) ∧ w'.cell? ⟨(ad145.add ((x8_2).toNat * 8)).block, (ad145.add ((x8_2).toNat * 8)).off + 6, none⟩ = some (.int .i64 ((rd_T41 l0 x8_2).f6)) ∧ w'.cell? ⟨(ad145.add ((x8_2).toNat * 8)).block, (ad145.add ((x8_2).toNat * 8)).off + 7, none⟩ = some (.int .i64 ((rd_T41 l0 x8_2).f7))) (ds := []) #[O,O,O,O,O,O,O,O,O,O,O,O,O,O,O,O] (by kernel_rfl) rfl rfl ⟨((HB.out.cell (World.block_lt_of_cell? w _ hw145_0)).trans hw145_0), ((HB.out.cell (World.block_lt_of_cell? w _ hw145_1)).trans hw145_1), ((HB.out.cell (World.block_lt_of_cell? w _ hw145_2)).trans hw145_2), ((HB.out.cell (World.block_lt_of_cell? w _ hw145_3)).trans hw145_3), ((HB.out.cell (World.block_lt_of_cell? w _ hw145_4)).trans hw145_4), ((HB.out.cell (World.block_lt_of_cell? w _ hw145_5)).trans hw145_5), ((HB.out.cell (World.block_lt_of_cell? w _ hw145_6)).trans hw145_6), ((HB.out.cell (World.block_lt_of_cell? w _ hw145_7)).trans hw145_7)⟩ (fun hHeld => ?_); refine with_tabW spec_AtStage.tab11 spec_AtStage.bits11 (fun HT_ HW_ => ?_)
                 generalize w53.drew = w54 at HO_6 HO_7 HB HR141 HR155 hx145_0 hx145_1 hx145_2 hx145_3 hx145_4 hx145_5 hx145_6 hx145_7 hHeld ⊢
                 refine pure_ (i := 1) (N := some 49) (v := ?_) (a' := ?_) #[O,I,O,O,O,O,O,O,O,O,O,O,O,O,O,O] rfl rfl (any_of HT_.out (by kernel_rfl)) (fun _ _ _ h => h) (Or.inl ⟨by rfl, ?_⟩) ?_ ?_
                 rotate_left; (intro w'; go_simp; with_reducible rfl); rotate_left; (simp only [Z]; rfl)
                 refine pure_ (i := 2) (N := some 50) (v := ?_) (a' := ?_) #[O,I,I,O,O,O,O,O,O,O,O,O,O,O,O,O] rfl rfl (any_of HT_.out (by kernel_rfl)) (fun _ _ _ h => h) (Or.inl ⟨by rfl, ?_⟩) ?_ ?_
                 rotate_left; (intro w'; go_simp; with_reducible rfl); rotate_left; (simp only [Z]; rfl)
                 refine pure_ (i := 3) (N := some 51) (v := ?_) (a' := ?_) #[O,I,I,I,O,O,O,O,O,O,O,O,O,O,O,O] rfl rfl (any_of HT_.out (by kernel_rfl)) (fun _ _ _ h => h) (Or.inl ⟨by rfl, ?_⟩) ?_ ?_
                 rotate_left; (intro w'; go_simp; with_reducible rfl); rotate_left; (simp only [Z]; rfl)
                 refine pure_ (i := 5) (N := some 53) (v := ?_) (a' := ?_) #[O,I,I,I,O,I,O,O,O,O,O,O,O,O,O,O] rfl rfl (any_of HT_.out (by kernel_rfl)) (fun _ _ _ h => h) (Or.inl ⟨by rfl, ?_⟩) ?_ ?_
                 rotate_left; (intro w'; go_simp; with_reducible rfl); rotate_left; (simp only [Z]; rfl)
                 refine pure_ (i := 6) (N := some 54) (v := ?_) (a' := ?_) #[O,I,I,I,O,I,I,O,O,O,O,O,O,O,O,O] rfl rfl (any_of HT_.out (by kernel_rfl)) (fun _ _ _ h => h) (Or.inl ⟨by rfl, ?_⟩) ?_ ?_
                 rotate_left; (intro w'; go_simp; with_reducible rfl); rotate_left; (simp only [Z]; rfl)
                 refine pure_ (i := 7) (N := some 55) (v := ?_) (a' := ?_) #[O,I,I,I,O,I,I,I,O,O,O,O,O,O,O,O] rfl rfl (any_of HT_.out (by kernel_rfl)) (fun _ _ _ h => h) (Or.inl ⟨by rfl, ?_⟩) ?_ ?_
                 rotate_left; (intro w'; go_simp; with_reducible rfl); rotate_left; (simp only [Z]; rfl)
                 refine pure_ (i := 11) (N := some 59) (v := ?_) (a' := ?_) #[O,I,I,I,O,I,I,I,O,O,O,I,O,O,O,O] rfl rfl (any_of HT_.out (by kernel_rfl)) (fun _ _ _ h => h) (Or.inl ⟨by rfl, ?_⟩) ?_ ?_
                 rotate_left; (intro w'; go_simp; with_reducible rfl); rotate_left; (simp only [Z]; rfl)
                 refine pure_ (i := 12) (N := some 60) (v := ?_) (a' := ?_) #[O,I,I,I,O,I,I,I,O,O,O,I,I,O,O,O] rfl rfl (any_of HT_.out (by kernel_rfl)) (fun _ _ _ h => h) (Or.inl ⟨by rfl, ?_⟩) ?_ ?_
                 rotate_left; (intro w'; go_simp; with_reducible rfl); rotate_left; (simp only [Z]; rfl)
                 refine pure_ (i := 13) (N := some 61) (v := ?_) (a' := ?_) #[O,I,I,I,O,I,I,I,O,O,O,I,I,I,O,O] rfl rfl (any_of HT_.out (by kernel_rfl)) (fun _ _ _ h => h) (Or.inl ⟨by rfl, ?_⟩) ?_ ?_
                 rotate_left; (intro w'; go_simp; with_reducible rfl); rotate_left; (simp only [Z]; rfl)
                 refine take_ (i := 8) (N := some 56) (v := ?_) (a' := ?_) #[O,I,I,I,O,I,I,I,I,O,O,I,I,I,O,O] rfl rfl (take_ofW HT_.out HW_.out (by kernel_rfl)) (fun _ _ _ h => h) (Or.inl ⟨by rfl, ?_⟩) hHeld ?_ ?_
                 rotate_left; (rintro w' ⟨s0, s1, s2, s3, s4, s5, s6, s7⟩; go_simp; with_reducible rfl); rotate_left; (simp only [Z]; rfl)
                 refine join_ (σ := Value × Value × Value) 3 #[I,I,I,I,I,I,I,I,I,I,O,I,I,I,O,O] (fun s_ => [(48, s_.1), (52, s_.2.1), (57, s_.2.2)]) (fun s_ w' => (w'.cell? (ad145.add ((x8_2).toNat * 8)) = some (.int .i64 ((rd_T41 l0 x8_2).f0)) ∧ w'.cell? ⟨(ad145.add ((x8_2).toNat * 8)).block, (ad145.add ((x8_2).toNat * 8)).off + 1, none⟩ = some (.string ((rd_T41 l0 x8_2).f1)) ∧ w'.cell? ⟨(ad145.add ((x8_2).toNat * 8)).block, (ad145.add ((x8_2).toNat * 8)).off + 2, none⟩ = some (.int .i64 ((rd_T41 l0 x8_2).f2)) ∧ w'.cell? ⟨(ad145.add ((x8_2).toNat * 8)).block, (ad145.add ((x8_2).toNat * 8)).off + 3, none⟩ = some (.int .i64 ((rd_T41 l0 x8_2).f3)) ∧ w'.cell? ⟨(ad145.add ((x8_2).toNat * 8)).block, (ad145.add ((x8_2).toNat * 8)).off + 4, none⟩ = some (.int .i64 ((rd_T41 l0 x8_2).f4)) ∧ w'.cell? ⟨(ad145.add ((x8_2).toNat * 8)).block, (ad145.add ((x8_2).toNat * 8)).off + 5, none⟩ = some (.int .i64 ((rd_T41 l0 x8_2).f5)) ∧ w'.cell? ⟨(ad145.add ((x8_2).toNat * 8)).block, (ad145.add ((x8_2).toNat * 8)).off + 6, none⟩ = some (.int .i64 ((rd_T41 l0 x8_2).f6)) ∧ w'.cell? ⟨(ad145.add ((x8_2).toNat * 8)).block, (ad145.add ((x8_2).toNat * 8)).off + 7, none⟩ = some (.int .i64 ((rd_T41 l0 x8_2).f7))) ∧ (Kd.R k41 41 w' w.heap.size (fun k_ => some k_ ≠ (s_.2.2 : Value).ownBlock ∧ some k_ ≠ (.slice Ao15 x7_2.length co15 : Value).ownBlock) s_.2.1 y142) ∧ (Kd.R k41 41 w' w.heap.size (fun k_ => some k_ ≠ (s_.2.1 : Value).ownBlock ∧ some k_ ≠ (.slice Ao15 x7_2.length co15 : Value).ownBlock) s_.2.2 y146) ∧ (Kd.R (Kd.int .i64) 3 w' w.heap.size (fun _ => True) v102 y101) ∧ (Kd.R k41 41 w' w.heap.size (fun k_ => some k_ ≠ (s_.2.1 : Value).ownBlock ∧ some k_ ≠ (s_.2.2 : Value).ownBlock) (.slice Ao15 x7_2.length co15) x7_2) ∧ (Below w.heap.size w w')) ?_ ?_
                 rotate_left
                 ·intro hCont
                  refine two_ (i := 0) (j := 9) (Ni := some 48) (Nj := some 57) #[I,I,I,I,O,I,I,I,I,O,O,I,I,I,O,O] #[O,I,I,I,O,I,I,I,I,I,O,I,I,I,O,O] rfl rfl rfl rfl (two_of HT_.out (by kernel_rfl)) (by decide) (by decide) (fun K hK => ?_) (fun K hK => ?_)
                  ·skip
                   refine Kd.R_lit_step k41 _ 41 ?hg (N := 48) ?hd (xs := ([] : List (S41))) (inner := []) (ok := fun _ => True) (okp := fun _ => True) ?hr ?hp (fun _ hk => hk) trivial (Below.refl _ _) (Nat.le_refl _) (by simp) ?_; (case hd => rfl); (case hg => rfl); (case hr => first | (go_simp; done) | (go_simp; rfl)); (case hp => exact (Reps.none _ _))
                   intro v136 w57 ho58 hb hg_ hnew_
                   clear hg_ hnew_
                   (first | rw [← Ny135.out] at ho58 | (simp only [Int.reduceToNat] at ho58; rw [← Ny135.out] at ho58))
                   have n0_ := Aside0.mk (Kd.R_below (by exact Ho.RS <| HO_6.out) hb)
                   have n1_ := Aside0.mk (Kd.R_elder' (by exact Ho.RS <| HO_7.out) (Kd.R_base ho58) hb)
                   have n2_ := Aside0.mk (Kd.R_lower (Kd.R_new' ho58 (Kd.R_lt (by exact Ho.RS <| HO_7.out))) (below_size (by exact eS HB.out)))
                   have n3_ := Aside0.mk (Kd.C_below (by repeat (first | (with_reducible exact HR141.out) | (with_reducible refine Kd.C_alloc ?_ _) | (with_reducible refine Kd.C_drewN ?_ _) | (with_reducible refine Kd.C_drew ?_) | exact HR141.out)) hb)
                   have n4_ := Aside0.mk (Kd.C_below (by repeat (first | (with_reducible exact HR155.out) | (with_reducible refine Kd.C_alloc ?_ _) | (with_reducible refine Kd.C_drewN ?_ _) | (with_reducible refine Kd.C_drew ?_) | exact HR155.out)) hb)
                   have n5_ := Aside0.mk (below_step (by exact eS HB.out) hb)
                   clear HO_6
                   clear HO_7
                   clear HR141
                   clear HR155
                   clear HB
                   have HO_6 := n0_
                   have HO_7 := n1_
                   have HO137 := n2_
                   have HR141 := n3_
                   have HR155 := n4_
                   have HB := n5_
                   clear n0_ n1_ n2_ n3_ n4_ n5_
                   clear hb ho58
                   refine hK.out _ _ ⟨((HB.out.cell (World.block_lt_of_cell? w _ hw145_0)).trans hw145_0), ((HB.out.cell (World.block_lt_of_cell? w _ hw145_1)).trans hw145_1), ((HB.out.cell (World.block_lt_of_cell? w _ hw145_2)).trans hw145_2), ((HB.out.cell (World.block_lt_of_cell? w _ hw145_3)).trans hw145_3), ((HB.out.cell (World.block_lt_of_cell? w _ hw145_4)).trans hw145_4), ((HB.out.cell (World.block_lt_of_cell? w _ hw145_5)).trans hw145_5), ((HB.out.cell (World.block_lt_of_cell? w _ hw145_6)).trans hw145_6), ((HB.out.cell (World.block_lt_of_cell? w _ hw145_7)).trans hw145_7)⟩ (fun hHeld => ?_)
                   clear hK K
                   refine norm_ (a' := ?_) ?_ ?_
                   rotate_left
                   ·show Act.put _ (some 48) _ = _
                    simp only [Z]
                    rfl
                   refine two_ (i := 4) (j := 9) (Ni := some 52) (Nj := some 57) #[I,I,I,I,I,I,I,I,I,O,O,I,I,I,O,O] #[I,I,I,I,O,I,I,I,I,I,O,I,I,I,O,O] rfl rfl rfl rfl (two_of HT_.out (by kernel_rfl)) (by decide) (by decide) (fun K hK => ?_) (fun K hK => ?_)
                   ·skip
                    refine Kd.R_append_rows_step k41 (w0 := w) w.heap.size (by rfl) (.tmp 48) (.tmp 51) 28 41 (.agg #[(.int .i64 0), (.string ⟨#[]⟩), (.int .i64 0), (.int .i64 0), (.int .i64 0), (.int .i64 0), (.int .i64 0), (.int .i64 0)]) 72 rfl Tryd.underlying28 info41 rfl (by decide) (by omega) v136 y135 y138 _ _ _ (fun k_ => some k_ ≠ (.slice Ao15 x7_2.length co15 : Value).ownBlock) (fun _ => False) rfl rfl ?aO ?aR (fun _ _ h => h) (fun _ h => h.elim) ?aF ?aB ?aS ?aL ?_
                    (case aR => repeat (first | exact (by repeat (first | (with_reducible exact HR141.out) | (with_reducible refine Kd.C_alloc ?_ _) | (with_reducible refine Kd.C_drewN ?_ _) | (with_reducible refine Kd.C_drew ?_) | exact HR141.out)) | (with_reducible refine Kd.C_alloc ?_ _) | (with_reducible refine Kd.C_drewN ?_ _) | (with_reducible refine Kd.C_drew ?_)))
                    (case aB => exact (by exact eS HB.out))
                    (case aF => exact (fun k_ hk => Kd.fresh' (Kd.R_lt (by exact Ho.RS <| HO_7.out)) k_ hk))
                    (case aO => exact (by exact Ho.RS <| Kd.R_mono HO137.out (fun _ hk => hk.2)))
                    (case aS => exact (below_size (by exact eS HB.out)))
                    (case aL => have := LMc46.out; omega)
                    intro v143 w59 ho hb hg hat
                    rw [← Ny142.out] at ho
                    have n0_ := Aside0.mk (Kd.R_over' (by exact Ho.RS <| HO_6.out) (Kd.R_typed (by exact Ho.RS <| HO137.out)) (by decide) hg)
                    have n1_ := Aside0.mk (Kd.R_after (ok := (fun _ => True)) (by exact Ho.RS <| HO_7.out) hg hat)
                    have n2_ := Aside0.mk (hb)
                    have n3_ := Aside0.mk ((show Kd.C k41 w59 Ao15 y138.length y138 from by rw [Ny138.out]; exact Kd.C_take (m := (x9_3 : Int).toNat) ((Kd.R_reads' (Kd.R_after (ok := (fun _ => True)) (by exact Ho.RS <| HO_7.out) hg hat)).2.2) KL55.out))
                    have n4_ := Aside0.mk ((show Kd.C k41 w59 A56 y152.length y152 from by rw [Ny152.out, KA56.out]; exact Kd.C_drop (m := (x9_3 : Int).toNat) (c := co15) ((Kd.R_reads' (Kd.R_after (ok := (fun _ => True)) (by exact Ho.RS <| HO_7.out) hg hat)).2.2) KL56.out ((Kd.R_reads' (Kd.R_after (ok := (fun _ => True)) (by exact Ho.RS <| HO_7.out) hg hat)).2.1)))
                    have n5_ := Aside0.mk (ho)
                    clear HO_6
                    clear HO_7
                    clear HB
                    clear HR141
                    clear HR155
                    clear HO137
                    have HO_6 := n0_
                    have HO_7 := n1_
                    have HB := n2_
                    have HR141 := n3_
                    have HR155 := n4_
                    have HO144 := n5_
                    clear n0_ n1_ n2_ n3_ n4_ n5_
                    clear ho hb hg hat
                    refine hK.out _ _ ⟨((HB.out.cell (World.block_lt_of_cell? w _ hw145_0)).trans hw145_0), ((HB.out.cell (World.block_lt_of_cell? w _ hw145_1)).trans hw145_1), ((HB.out.cell (World.block_lt_of_cell? w _ hw145_2)).trans hw145_2), ((HB.out.cell (World.block_lt_of_cell? w _ hw145_3)).trans hw145_3), ((HB.out.cell (World.block_lt_of_cell? w _ hw145_4)).trans hw145_4), ((HB.out.cell (World.block_lt_of_cell? w _ hw145_5)).trans hw145_5), ((HB.out.cell (World.block_lt_of_cell? w _ hw145_6)).trans hw145_6), ((HB.out.cell (World.block_lt_of_cell? w _ hw145_7)).trans hw145_7)⟩ (fun hHeld => ?_)
                    clear hK K
                    refine norm_ (a' := ?_) ?_ ?_
                    rotate_left
                    ·show Act.put _ (some 52) _ = _
                     simp only [Z]
                     rfl
                    refine one_ (i := 9) (N := some 57) #[I,I,I,I,I,I,I,I,I,I,O,I,I,I,O,O] rfl rfl (one_of HT_.out (by kernel_rfl)) (by decide) (fun K hK => ?_)
                    refine Kd.R_lit_step k41 _ 41 ?hg (N := 57) ?hd (xs := ([(⟨(rd_T41 l0 x8_2).f0, (rd_T41 l0 x8_2).f1, (rd_T41 l0 x8_2).f2, (rd_T41 l0 x8_2).f3, (rd_T41 l0 x8_2).f4, (rd_T41 l0 x8_2).f5, (rd_T41 l0 x8_2).f6, (rd_T41 l0 x8_2).f7⟩ : S41)] : List (S41))) (inner := [.int .i64 ((rd_T41 l0 x8_2).f0), .string ((rd_T41 l0 x8_2).f1), .int .i64 ((rd_T41 l0 x8_2).f2), .int .i64 ((rd_T41 l0 x8_2).f3), .int .i64 ((rd_T41 l0 x8_2).f4), .int .i64 ((rd_T41 l0 x8_2).f5), .int .i64 ((rd_T41 l0 x8_2).f6), .int .i64 ((rd_T41 l0 x8_2).f7)]) (ok := fun _ => True) (okp := fun _ => True) ?hr ?hp (fun _ hk => hk) trivial (Below.refl _ _) (Nat.le_refl _) (by simp) ?_; (case hd => rfl); (case hg => rfl); (case hr => first | (go_simp; done) | (go_simp; rfl)); (case hp => exact (Reps.c8 (show Kd.M k41 _ _ _ (⟨(rd_T41 l0 x8_2).f0, (rd_T41 l0 x8_2).f1, (rd_T41 l0 x8_2).f2, (rd_T41 l0 x8_2).f3, (rd_T41 l0 x8_2).f4, (rd_T41 l0 x8_2).f5, (rd_T41 l0 x8_2).f6, (rd_T41 l0 x8_2).f7⟩ : S41) [.int .i64 ((rd_T41 l0 x8_2).f0), .string ((rd_T41 l0 x8_2).f1), .int .i64 ((rd_T41 l0 x8_2).f2), .int .i64 ((rd_T41 l0 x8_2).f3), .int .i64 ((rd_T41 l0 x8_2).f4), .int .i64 ((rd_T41 l0 x8_2).f5), .int .i64 ((rd_T41 l0 x8_2).f6), .int .i64 ((rd_T41 l0 x8_2).f7)] from (k41_mkM _ _ _ (⟨(rd_T41 l0 x8_2).f0, (rd_T41 l0 x8_2).f1, (rd_T41 l0 x8_2).f2, (rd_T41 l0 x8_2).f3, (rd_T41 l0 x8_2).f4, (rd_T41 l0 x8_2).f5, (rd_T41 l0 x8_2).f6, (rd_T41 l0 x8_2).f7⟩ : S41) )) (Reps.none _ _)))
                    intro v147 w60 ho61 hb hg_ hnew_
                    clear hg_ hnew_
                    (first | rw [← Ny146.out] at ho61 | (simp only [Int.reduceToNat] at ho61; rw [← Ny146.out] at ho61))
                    have n0_ := Aside0.mk (Kd.R_below (by exact Ho.RS <| HO_6.out) hb)
                    have n1_ := Aside0.mk (Kd.R_elder' (by exact Ho.RS <| HO_7.out) (Kd.R_base ho61) hb)
                    have n2_ := Aside0.mk (Kd.R_elder' (by exact Ho.RS <| HO144.out) (Kd.R_base ho61) hb)
                    have n3_ := Aside0.mk (Kd.R_lower (Kd.R_new' (Kd.R_new' ho61 (Kd.R_lt (by exact Ho.RS <| HO_7.out))) (Kd.R_lt (by exact Ho.RS <| HO144.out))) (below_size (by exact eS HB.out)))
                    have n4_ := Aside0.mk (Kd.C_below (by repeat (first | (with_reducible exact HR141.out) | (with_reducible refine Kd.C_alloc ?_ _) | (with_reducible refine Kd.C_drewN ?_ _) | (with_reducible refine Kd.C_drew ?_) | exact HR141.out)) hb)
                    have n5_ := Aside0.mk (Kd.C_below (by repeat (first | (with_reducible exact HR155.out) | (with_reducible refine Kd.C_alloc ?_ _) | (with_reducible refine Kd.C_drewN ?_ _) | (with_reducible refine Kd.C_drew ?_) | exact HR155.out)) hb)
                    have n6_ := Aside0.mk (below_step (by exact eS HB.out) hb)
                    clear HO_6
                    clear HO_7
                    clear HO144
                    clear HR141
                    clear HR155
                    clear HB
                    have HO_6 := n0_
                    have HO_7 := n1_
                    have HO144 := n2_
                    have HO148 := n3_
                    have HR141 := n4_
                    have HR155 := n5_
                    have HB := n6_
                    clear n0_ n1_ n2_ n3_ n4_ n5_ n6_
                    clear hb ho61
                    refine hK.out _ _ ⟨((HB.out.cell (World.block_lt_of_cell? w _ hw145_0)).trans hw145_0), ((HB.out.cell (World.block_lt_of_cell? w _ hw145_1)).trans hw145_1), ((HB.out.cell (World.block_lt_of_cell? w _ hw145_2)).trans hw145_2), ((HB.out.cell (World.block_lt_of_cell? w _ hw145_3)).trans hw145_3), ((HB.out.cell (World.block_lt_of_cell? w _ hw145_4)).trans hw145_4), ((HB.out.cell (World.block_lt_of_cell? w _ hw145_5)).trans hw145_5), ((HB.out.cell (World.block_lt_of_cell? w _ hw145_6)).trans hw145_6), ((HB.out.cell (World.block_lt_of_cell? w _ hw145_7)).trans hw145_7)⟩ (fun hHeld => ?_)
                    clear hK K
                    refine norm_ (a' := ?_) ?_ ?_
                    rotate_left
                    ·show Act.put _ (some 57) _ = _
                     simp only [Z]
                     rfl
                    exact norm_ (by simp only [putAll, Act.put, List.setIfInBounds_toArray, List.set_cons_zero, List.set_cons_succ]) (hCont (v136, v143, v147) _ ⟨hHeld, (by exact Ho.RS <| Kd.R_mono HO144.out (fun _ hk => ⟨hk.2, hk.1⟩)), (by exact Ho.RS <| Kd.R_mono HO148.out (fun _ hk => ⟨hk.2, hk.1.2⟩)), (by exact Ho.RS <| HO_6.out), (by exact Ho.RS <| Kd.R_mono HO_7.out (fun _ hk => ⟨hk.1.2, hk.2⟩)), (by exact eS HB.out)⟩)
                   ·skip
                    refine Kd.R_lit_step k41 _ 41 ?hg (N := 57) ?hd (xs := ([(⟨(rd_T41 l0 x8_2).f0, (rd_T41 l0 x8_2).f1, (rd_T41 l0 x8_2).f2, (rd_T41 l0 x8_2).f3, (rd_T41 l0 x8_2).f4, (rd_T41 l0 x8_2).f5, (rd_T41 l0 x8_2).f6, (rd_T41 l0 x8_2).f7⟩ : S41)] : List (S41))) (inner := [.int .i64 ((rd_T41 l0 x8_2).f0), .string ((rd_T41 l0 x8_2).f1), .int .i64 ((rd_T41 l0 x8_2).f2), .int .i64 ((rd_T41 l0 x8_2).f3), .int .i64 ((rd_T41 l0 x8_2).f4), .int .i64 ((rd_T41 l0 x8_2).f5), .int .i64 ((rd_T41 l0 x8_2).f6), .int .i64 ((rd_T41 l0 x8_2).f7)]) (ok := fun _ => True) (okp := fun _ => True) ?hr ?hp (fun _ hk => hk) trivial (Below.refl _ _) (Nat.le_refl _) (by simp) ?_; (case hd => rfl); (case hg => rfl); (case hr => first | (go_simp; done) | (go_simp; rfl)); (case hp => exact (Reps.c8 (show Kd.M k41 _ _ _ (⟨(rd_T41 l0 x8_2).f0, (rd_T41 l0 x8_2).f1, (rd_T41 l0 x8_2).f2, (rd_T41 l0 x8_2).f3, (rd_T41 l0 x8_2).f4, (rd_T41 l0 x8_2).f5, (rd_T41 l0 x8_2).f6, (rd_T41 l0 x8_2).f7⟩ : S41) [.int .i64 ((rd_T41 l0 x8_2).f0), .string ((rd_T41 l0 x8_2).f1), .int .i64 ((rd_T41 l0 x8_2).f2), .int .i64 ((rd_T41 l0 x8_2).f3), .int .i64 ((rd_T41 l0 x8_2).f4), .int .i64 ((rd_T41 l0 x8_2).f5), .int .i64 ((rd_T41 l0 x8_2).f6), .int .i64 ((rd_T41 l0 x8_2).f7)] from (k41_mkM _ _ _ (⟨(rd_T41 l0 x8_2).f0, (rd_T41 l0 x8_2).f1, (rd_T41 l0 x8_2).f2, (rd_T41 l0 x8_2).f3, (rd_T41 l0 x8_2).f4, (rd_T41 l0 x8_2).f5, (rd_T41 l0 x8_2).f6, (rd_T41 l0 x8_2).f7⟩ : S41) )) (Reps.none _ _)))
                    intro v147 w59 ho60 hb hg_ hnew_
                    clear hg_ hnew_
                    (first | rw [← Ny146.out] at ho60 | (simp only [Int.reduceToNat] at ho60; rw [← Ny146.out] at ho60))
                    have n0_ := Aside0.mk (Kd.R_below (by exact Ho.RS <| HO_6.out) hb)
                    have n1_ := Aside0.mk (Kd.R_elder' (by exact Ho.RS <| HO_7.out) (Kd.R_base ho60) hb)
                    have n2_ := Aside0.mk (Kd.R_elder' (by exact Ho.RS <| HO137.out) (Kd.R_base ho60) hb)
                    have n3_ := Aside0.mk (Kd.R_lower (Kd.R_new' (Kd.R_new' ho60 (Kd.R_lt (by exact Ho.RS <| HO_7.out))) (Kd.R_lt (by exact Ho.RS <| HO137.out))) (below_size (by exact eS HB.out)))
                    have n4_ := Aside0.mk (Kd.C_below (by repeat (first | (with_reducible exact HR141.out) | (with_reducible refine Kd.C_alloc ?_ _) | (with_reducible refine Kd.C_drewN ?_ _) | (with_reducible refine Kd.C_drew ?_) | exact HR141.out)) hb)
                    have n5_ := Aside0.mk (Kd.C_below (by repeat (first | (with_reducible exact HR155.out) | (with_reducible refine Kd.C_alloc ?_ _) | (with_reducible refine Kd.C_drewN ?_ _) | (with_reducible refine Kd.C_drew ?_) | exact HR155.out)) hb)
                    have n6_ := Aside0.mk (below_step (by exact eS HB.out) hb)
                    clear HO_6
                    clear HO_7
                    clear HO137
                    clear HR141
                    clear HR155
                    clear HB
                    have HO_6 := n0_
                    have HO_7 := n1_
                    have HO137 := n2_
                    have HO148 := n3_
                    have HR141 := n4_
                    have HR155 := n5_
                    have HB := n6_
                    clear n0_ n1_ n2_ n3_ n4_ n5_ n6_
                    clear hb ho60
                    refine hK.out _ _ ⟨((HB.out.cell (World.block_lt_of_cell? w _ hw145_0)).trans hw145_0), ((HB.out.cell (World.block_lt_of_cell? w _ hw145_1)).trans hw145_1), ((HB.out.cell (World.block_lt_of_cell? w _ hw145_2)).trans hw145_2), ((HB.out.cell (World.block_lt_of_cell? w _ hw145_3)).trans hw145_3), ((HB.out.cell (World.block_lt_of_cell? w _ hw145_4)).trans hw145_4), ((HB.out.cell (World.block_lt_of_cell? w _ hw145_5)).trans hw145_5), ((HB.out.cell (World.block_lt_of_cell? w _ hw145_6)).trans hw145_6), ((HB.out.cell (World.block_lt_of_cell? w _ hw145_7)).trans hw145_7)⟩ (fun hHeld => ?_)
                    clear hK K
                    refine norm_ (a' := ?_) ?_ ?_
                    rotate_left
                    ·show Act.put _ (some 57) _ = _
                     simp only [Z]
                     rfl
                    refine one_ (i := 4) (N := some 52) #[I,I,I,I,I,I,I,I,I,I,O,I,I,I,O,O] rfl rfl (one_of HT_.out (by kernel_rfl)) (by decide) (fun K hK => ?_)
                    refine Kd.R_append_rows_step k41 (w0 := w) w.heap.size (by rfl) (.tmp 48) (.tmp 51) 28 41 (.agg #[(.int .i64 0), (.string ⟨#[]⟩), (.int .i64 0), (.int .i64 0), (.int .i64 0), (.int .i64 0), (.int .i64 0), (.int .i64 0)]) 72 rfl Tryd.underlying28 info41 rfl (by decide) (by omega) v136 y135 y138 _ _ _ (fun k_ => some k_ ≠ (.slice Ao15 x7_2.length co15 : Value).ownBlock ∧ some k_ ≠ (v147 : Value).ownBlock) (fun _ => False) rfl rfl ?aO ?aR (fun _ _ h => h) (fun _ h => h.elim) ?aF ?aB ?aS ?aL ?_
                    (case aR => repeat (first | exact (by repeat (first | (with_reducible exact HR141.out) | (with_reducible refine Kd.C_alloc ?_ _) | (with_reducible refine Kd.C_drewN ?_ _) | (with_reducible refine Kd.C_drew ?_) | exact HR141.out)) | (with_reducible refine Kd.C_alloc ?_ _) | (with_reducible refine Kd.C_drewN ?_ _) | (with_reducible refine Kd.C_drew ?_)))
                    (case aB => exact (by exact eS HB.out))
                    (case aF => exact (fun k_ hk => ⟨Kd.fresh' (Kd.R_lt (by exact Ho.RS <| HO_7.out)) k_ hk, Kd.fresh' (Kd.R_lt (by exact Ho.RS <| HO148.out)) k_ hk⟩))
                    (case aO => exact (by exact Ho.RS <| Kd.R_mono HO137.out (fun _ hk => ⟨hk.1.2, hk.2⟩)))
                    (case aS => exact (below_size (by exact eS HB.out)))
                    (case aL => have := LMc46.out; omega)
                    intro v143 w61 ho hb hg hat
                    rw [← Ny142.out] at ho
                    have n0_ := Aside0.mk (Kd.R_over' (by exact Ho.RS <| HO_6.out) (Kd.R_typed (by exact Ho.RS <| HO137.out)) (by decide) hg)
                    have n1_ := Aside0.mk (Kd.R_after (ok := (fun k_ => some k_ ≠ (v147 : Value).ownBlock)) (by exact Ho.RS <| Kd.R_mono HO_7.out (fun _ hk => ⟨hk.2, hk.1.2⟩)) hg hat)
                    have n2_ := Aside0.mk (Kd.R_after (ok := (fun k_ => some k_ ≠ (.slice Ao15 x7_2.length co15 : Value).ownBlock)) (by exact Ho.RS <| Kd.R_mono HO148.out (fun _ hk => ⟨hk.1.2, hk.2⟩)) hg hat)
                    have n3_ := Aside0.mk (hb)
                    have n4_ := Aside0.mk ((show Kd.C k41 w61 Ao15 y138.length y138 from by rw [Ny138.out]; exact Kd.C_take (m := (x9_3 : Int).toNat) ((Kd.R_reads' (Kd.R_after (ok := (fun k_ => some k_ ≠ (v147 : Value).ownBlock)) (by exact Ho.RS <| Kd.R_mono HO_7.out (fun _ hk => ⟨hk.2, hk.1.2⟩)) hg hat)).2.2) KL55.out))
                    have n5_ := Aside0.mk ((show Kd.C k41 w61 A56 y152.length y152 from by rw [Ny152.out, KA56.out]; exact Kd.C_drop (m := (x9_3 : Int).toNat) (c := co15) ((Kd.R_reads' (Kd.R_after (ok := (fun k_ => some k_ ≠ (v147 : Value).ownBlock)) (by exact Ho.RS <| Kd.R_mono HO_7.out (fun _ hk => ⟨hk.2, hk.1.2⟩)) hg hat)).2.2) KL56.out ((Kd.R_reads' (Kd.R_after (ok := (fun k_ => some k_ ≠ (v147 : Value).ownBlock)) (by exact Ho.RS <| Kd.R_mono HO_7.out (fun _ hk => ⟨hk.2, hk.1.2⟩)) hg hat)).2.1)))
                    have n6_ := Aside0.mk (ho)
                    clear HO_6
                    clear HO_7
                    clear HO148
                    clear HB
                    clear HR141
                    clear HR155
                    clear HO137
                    have HO_6 := n0_
                    have HO_7 := n1_
                    have HO148 := n2_
                    have HB := n3_
                    have HR141 := n4_
                    have HR155 := n5_
                    have HO144 := n6_
                    clear n0_ n1_ n2_ n3_ n4_ n5_ n6_
                    clear ho hb hg hat
                    refine hK.out _ _ ⟨((HB.out.cell (World.block_lt_of_cell? w _ hw145_0)).trans hw145_0), ((HB.out.cell (World.block_lt_of_cell? w _ hw145_1)).trans hw145_1), ((HB.out.cell (World.block_lt_of_cell? w _ hw145_2)).trans hw145_2), ((HB.out.cell (World.block_lt_of_cell? w _ hw145_3)).trans hw145_3), ((HB.out.cell (World.block_lt_of_cell? w _ hw145_4)).trans hw145_4), ((HB.out.cell (World.block_lt_of_cell? w _ hw145_5)).trans hw145_5), ((HB.out.cell (World.block_lt_of_cell? w _ hw145_6)).trans hw145_6), ((HB.out.cell (World.block_lt_of_cell? w _ hw145_7)).trans hw145_7)⟩ (fun hHeld => ?_)
                    clear hK K
                    refine norm_ (a' := ?_) ?_ ?_
                    rotate_left
                    ·show Act.put _ (some 52) _ = _
                     simp only [Z]
                     rfl
                    exact norm_ (by simp only [putAll, Act.put, List.setIfInBounds_toArray, List.set_cons_zero, List.set_cons_succ]) (hCont (v136, v143, v147) _ ⟨hHeld, (by exact Ho.RS <| Kd.R_mono HO144.out (fun _ hk => ⟨hk.2, hk.1⟩)), (by exact Ho.RS <| Kd.R_mono HO148.out (fun _ hk => ⟨hk.2, hk.1⟩)), (by exact Ho.RS <| HO_6.out), (by exact Ho.RS <| Kd.R_mono HO_7.out (fun _ hk => ⟨hk.2, hk.1⟩)), (by exact eS HB.out)⟩)
                  ·skip
                   refine Kd.R_lit_step k41 _ 41 ?hg (N := 57) ?hd (xs := ([(⟨(rd_T41 l0 x8_2).f0, (rd_T41 l0 x8_2).f1, (rd_T41 l0 x8_2).f2, (rd_T41 l0 x8_2).f3, (rd_T41 l0 x8_2).f4, (rd_T41 l0 x8_2).f5, (rd_T41 l0 x8_2).f6, (rd_T41 l0 x8_2).f7⟩ : S41)] : List (S41))) (inner := [.int .i64 ((rd_T41 l0 x8_2).f0), .string ((rd_T41 l0 x8_2).f1), .int .i64 ((rd_T41 l0 x8_2).f2), .int .i64 ((rd_T41 l0 x8_2).f3), .int .i64 ((rd_T41 l0 x8_2).f4), .int .i64 ((rd_T41 l0 x8_2).f5), .int .i64 ((rd_T41 l0 x8_2).f6), .int .i64 ((rd_T41 l0 x8_2).f7)]) (ok := fun _ => True) (okp := fun _ => True) ?hr ?hp (fun _ hk => hk) trivial (Below.refl _ _) (Nat.le_refl _) (by simp) ?_; (case hd => rfl); (case hg => rfl); (case hr => first | (go_simp; done) | (go_simp; rfl)); (case hp => exact (Reps.c8 (show Kd.M k41 _ _ _ (⟨(rd_T41 l0 x8_2).f0, (rd_T41 l0 x8_2).f1, (rd_T41 l0 x8_2).f2, (rd_T41 l0 x8_2).f3, (rd_T41 l0 x8_2).f4, (rd_T41 l0 x8_2).f5, (rd_T41 l0 x8_2).f6, (rd_T41 l0 x8_2).f7⟩ : S41) [.int .i64 ((rd_T41 l0 x8_2).f0), .string ((rd_T41 l0 x8_2).f1), .int .i64 ((rd_T41 l0 x8_2).f2), .int .i64 ((rd_T41 l0 x8_2).f3), .int .i64 ((rd_T41 l0 x8_2).f4), .int .i64 ((rd_T41 l0 x8_2).f5), .int .i64 ((rd_T41 l0 x8_2).f6), .int .i64 ((rd_T41 l0 x8_2).f7)] from (k41_mkM _ _ _ (⟨(rd_T41 l0 x8_2).f0, (rd_T41 l0 x8_2).f1, (rd_T41 l0 x8_2).f2, (rd_T41 l0 x8_2).f3, (rd_T41 l0 x8_2).f4, (rd_T41 l0 x8_2).f5, (rd_T41 l0 x8_2).f6, (rd_T41 l0 x8_2).f7⟩ : S41) )) (Reps.none _ _)))
                   intro v147 w57 ho58 hb hg_ hnew_
                   clear hg_ hnew_
                   (first | rw [← Ny146.out] at ho58 | (simp only [Int.reduceToNat] at ho58; rw [← Ny146.out] at ho58))
                   have n0_ := Aside0.mk (Kd.R_below (by exact Ho.RS <| HO_6.out) hb)
                   have n1_ := Aside0.mk (Kd.R_elder' (by exact Ho.RS <| HO_7.out) (Kd.R_base ho58) hb)
                   have n2_ := Aside0.mk (Kd.R_lower (Kd.R_new' ho58 (Kd.R_lt (by exact Ho.RS <| HO_7.out))) (below_size (by exact eS HB.out)))
                   have n3_ := Aside0.mk (Kd.C_below (by repeat (first | (with_reducible exact HR141.out) | (with_reducible refine Kd.C_alloc ?_ _) | (with_reducible refine Kd.C_drewN ?_ _) | (with_reducible refine Kd.C_drew ?_) | exact HR141.out)) hb)
                   have n4_ := Aside0.mk (Kd.C_below (by repeat (first | (with_reducible exact HR155.out) | (with_reducible refine Kd.C_alloc ?_ _) | (with_reducible refine Kd.C_drewN ?_ _) | (with_reducible refine Kd.C_drew ?_) | exact HR155.out)) hb)
                   have n5_ := Aside0.mk (below_step (by exact eS HB.out) hb)
                   clear HO_6
                   clear HO_7
                   clear HR141
                   clear HR155
                   clear HB
                   have HO_6 := n0_
                   have HO_7 := n1_
                   have HO148 := n2_
                   have HR141 := n3_
                   have HR155 := n4_
                   have HB := n5_
                   clear n0_ n1_ n2_ n3_ n4_ n5_
                   clear hb ho58
                   refine hK.out _ _ ⟨((HB.out.cell (World.block_lt_of_cell? w _ hw145_0)).trans hw145_0), ((HB.out.cell (World.block_lt_of_cell? w _ hw145_1)).trans hw145_1), ((HB.out.cell (World.block_lt_of_cell? w _ hw145_2)).trans hw145_2), ((HB.out.cell (World.block_lt_of_cell? w _ hw145_3)).trans hw145_3), ((HB.out.cell (World.block_lt_of_cell? w _ hw145_4)).trans hw145_4), ((HB.out.cell (World.block_lt_of_cell? w _ hw145_5)).trans hw145_5), ((HB.out.cell (World.block_lt_of_cell? w _ hw145_6)).trans hw145_6), ((HB.out.cell (World.block_lt_of_cell? w _ hw145_7)).trans hw145_7)⟩ (fun hHeld => ?_)
                   clear hK K
                   refine norm_ (a' := ?_) ?_ ?_
                   rotate_left
                   ·show Act.put _ (some 57) _ = _
                    simp only [Z]
                    rfl
                   refine one_ (i := 0) (N := some 48) #[I,I,I,I,O,I,I,I,I,I,O,I,I,I,O,O] rfl rfl (one_of HT_.out (by kernel_rfl)) (by decide) (fun K hK => ?_)
                   refine Kd.R_lit_step k41 _ 41 ?hg (N := 48) ?hd (xs := ([] : List (S41))) (inner := []) (ok := fun _ => True) (okp := fun _ => True) ?hr ?hp (fun _ hk => hk) trivial (Below.refl _ _) (Nat.le_refl _) (by simp) ?_; (case hd => rfl); (case hg => rfl); (case hr => first | (go_simp; done) | (go_simp; rfl)); (case hp => exact (Reps.none _ _))
                   intro v136 w59 ho60 hb hg_ hnew_
                   clear hg_ hnew_
                   (first | rw [← Ny135.out] at ho60 | (simp only [Int.reduceToNat] at ho60; rw [← Ny135.out] at ho60))
                   have n0_ := Aside0.mk (Kd.R_below (by exact Ho.RS <| HO_6.out) hb)
                   have n1_ := Aside0.mk (Kd.R_elder' (by exact Ho.RS <| HO_7.out) (Kd.R_base ho60) hb)
                   have n2_ := Aside0.mk (Kd.R_elder' (by exact Ho.RS <| HO148.out) (Kd.R_base ho60) hb)
                   have n3_ := Aside0.mk (Kd.R_lower (Kd.R_new' (Kd.R_new' ho60 (Kd.R_lt (by exact Ho.RS <| HO_7.out))) (Kd.R_lt (by exact Ho.RS <| HO148.out))) (below_size (by exact eS HB.out)))
                   have n4_ := Aside0.mk (Kd.C_below (by repeat (first | (with_reducible exact HR141.out) | (with_reducible refine Kd.C_alloc ?_ _) | (with_reducible refine Kd.C_drewN ?_ _) | (with_reducible refine Kd.C_drew ?_) | exact HR141.out)) hb)
                   have n5_ := Aside0.mk (Kd.C_below (by repeat (first | (with_reducible exact HR155.out) | (with_reducible refine Kd.C_alloc ?_ _) | (with_reducible refine Kd.C_drewN ?_ _) | (with_reducible refine Kd.C_drew ?_) | exact HR155.out)) hb)
                   have n6_ := Aside0.mk (below_step (by exact eS HB.out) hb)
                   clear HO_6
                   clear HO_7
                   clear HO148
                   clear HR141
                   clear HR155
                   clear HB
                   have HO_6 := n0_
                   have HO_7 := n1_
                   have HO148 := n2_
                   have HO137 := n3_
                   have HR141 := n4_
                   have HR155 := n5_
                   have HB := n6_
                   clear n0_ n1_ n2_ n3_ n4_ n5_ n6_
                   clear hb ho60
                   refine hK.out _ _ ⟨((HB.out.cell (World.block_lt_of_cell? w _ hw145_0)).trans hw145_0), ((HB.out.cell (World.block_lt_of_cell? w _ hw145_1)).trans hw145_1), ((HB.out.cell (World.block_lt_of_cell? w _ hw145_2)).trans hw145_2), ((HB.out.cell (World.block_lt_of_cell? w _ hw145_3)).trans hw145_3), ((HB.out.cell (World.block_lt_of_cell? w _ hw145_4)).trans hw145_4), ((HB.out.cell (World.block_lt_of_cell? w _ hw145_5)).trans hw145_5), ((HB.out.cell (World.block_lt_of_cell? w _ hw145_6)).trans hw145_6), ((HB.out.cell (World.block_lt_of_cell? w _ hw145_7)).trans hw145_7)⟩ (fun hHeld => ?_)
                   clear hK K
                   refine norm_ (a' := ?_) ?_ ?_
                   rotate_left
                   ·show Act.put _ (some 48) _ = _
                    simp only [Z]
                    rfl
                   refine one_ (i := 4) (N := some 52) #[I,I,I,I,I,I,I,I,I,I,O,I,I,I,O,O] rfl rfl (one_of HT_.out (by kernel_rfl)) (by decide) (fun K hK => ?_)
                   refine Kd.R_append_rows_step k41 (w0 := w) w.heap.size (by rfl) (.tmp 48) (.tmp 51) 28 41 (.agg #[(.int .i64 0), (.string ⟨#[]⟩), (.int .i64 0), (.int .i64 0), (.int .i64 0), (.int .i64 0), (.int .i64 0), (.int .i64 0)]) 72 rfl Tryd.underlying28 info41 rfl (by decide) (by omega) v136 y135 y138 _ _ _ (fun k_ => some k_ ≠ (.slice Ao15 x7_2.length co15 : Value).ownBlock ∧ some k_ ≠ (v147 : Value).ownBlock) (fun _ => False) rfl rfl ?aO ?aR (fun _ _ h => h) (fun _ h => h.elim) ?aF ?aB ?aS ?aL ?_
                   (case aR => repeat (first | exact (by repeat (first | (with_reducible exact HR141.out) | (with_reducible refine Kd.C_alloc ?_ _) | (with_reducible refine Kd.C_drewN ?_ _) | (with_reducible refine Kd.C_drew ?_) | exact HR141.out)) | (with_reducible refine Kd.C_alloc ?_ _) | (with_reducible refine Kd.C_drewN ?_ _) | (with_reducible refine Kd.C_drew ?_)))
                   (case aB => exact (by exact eS HB.out))
                   (case aF => exact (fun k_ hk => ⟨Kd.fresh' (Kd.R_lt (by exact Ho.RS <| HO_7.out)) k_ hk, Kd.fresh' (Kd.R_lt (by exact Ho.RS <| HO148.out)) k_ hk⟩))
                   (case aO => exact (by exact Ho.RS <| Kd.R_mono HO137.out (fun _ hk => ⟨hk.1.2, hk.2⟩)))
                   (case aS => exact (below_size (by exact eS HB.out)))
                   (case aL => have := LMc46.out; omega)
                   intro v143 w61 ho hb hg hat
                   rw [← Ny142.out] at ho
                   have n0_ := Aside0.mk (Kd.R_over' (by exact Ho.RS <| HO_6.out) (Kd.R_typed (by exact Ho.RS <| HO137.out)) (by decide) hg)
                   have n1_ := Aside0.mk (Kd.R_after (ok := (fun k_ => some k_ ≠ (v147 : Value).ownBlock)) (by exact Ho.RS <| Kd.R_mono HO_7.out (fun _ hk => ⟨hk.1.2, hk.2⟩)) hg hat)
                   have n2_ := Aside0.mk (Kd.R_after (ok := (fun k_ => some k_ ≠ (.slice Ao15 x7_2.length co15 : Value).ownBlock)) (by exact Ho.RS <| Kd.R_mono HO148.out (fun _ hk => ⟨hk.1.2, hk.2⟩)) hg hat)
                   have n3_ := Aside0.mk (hb)
                   have n4_ := Aside0.mk ((show Kd.C k41 w61 Ao15 y138.length y138 from by rw [Ny138.out]; exact Kd.C_take (m := (x9_3 : Int).toNat) ((Kd.R_reads' (Kd.R_after (ok := (fun k_ => some k_ ≠ (v147 : Value).ownBlock)) (by exact Ho.RS <| Kd.R_mono HO_7.out (fun _ hk => ⟨hk.1.2, hk.2⟩)) hg hat)).2.2) KL55.out))
                   have n5_ := Aside0.mk ((show Kd.C k41 w61 A56 y152.length y152 from by rw [Ny152.out, KA56.out]; exact Kd.C_drop (m := (x9_3 : Int).toNat) (c := co15) ((Kd.R_reads' (Kd.R_after (ok := (fun k_ => some k_ ≠ (v147 : Value).ownBlock)) (by exact Ho.RS <| Kd.R_mono HO_7.out (fun _ hk => ⟨hk.1.2, hk.2⟩)) hg hat)).2.2) KL56.out ((Kd.R_reads' (Kd.R_after (ok := (fun k_ => some k_ ≠ (v147 : Value).ownBlock)) (by exact Ho.RS <| Kd.R_mono HO_7.out (fun _ hk => ⟨hk.1.2, hk.2⟩)) hg hat)).2.1)))
                   have n6_ := Aside0.mk (ho)
                   clear HO_6
                   clear HO_7
                   clear HO148
                   clear HB
                   clear HR141
                   clear HR155
                   clear HO137
                   have HO_6 := n0_
                   have HO_7 := n1_
                   have HO148 := n2_
                   have HB := n3_
                   have HR141 := n4_
                   have HR155 := n5_
                   have HO144 := n6_
                   clear n0_ n1_ n2_ n3_ n4_ n5_ n6_
                   clear ho hb hg hat
                   refine hK.out _ _ ⟨((HB.out.cell (World.block_lt_of_cell? w _ hw145_0)).trans hw145_0), ((HB.out.cell (World.block_lt_of_cell? w _ hw145_1)).trans hw145_1), ((HB.out.cell (World.block_lt_of_cell? w _ hw145_2)).trans hw145_2), ((HB.out.cell (World.block_lt_of_cell? w _ hw145_3)).trans hw145_3), ((HB.out.cell (World.block_lt_of_cell? w _ hw145_4)).trans hw145_4), ((HB.out.cell (World.block_lt_of_cell? w _ hw145_5)).trans hw145_5), ((HB.out.cell (World.block_lt_of_cell? w _ hw145_6)).trans hw145_6), ((HB.out.cell (World.block_lt_of_cell? w _ hw145_7)).trans hw145_7)⟩ (fun hHeld => ?_)
                   clear hK K
                   refine norm_ (a' := ?_) ?_ ?_
                   rotate_left
                   ·show Act.put _ (some 52) _ = _
                    simp only [Z]
                    rfl
                   exact norm_ (by simp only [putAll, Act.put, List.setIfInBounds_toArray, List.set_cons_zero, List.set_cons_succ]) (hCont (v136, v143, v147) _ ⟨hHeld, (by exact Ho.RS <| Kd.R_mono HO144.out (fun _ hk => ⟨hk.2, hk.1⟩)), (by exact Ho.RS <| Kd.R_mono HO148.out (fun _ hk => ⟨hk.2, hk.1⟩)), (by exact Ho.RS <| HO_6.out), (by exact Ho.RS <| Kd.R_mono HO_7.out (fun _ hk => ⟨hk.2, hk.1⟩)), (by exact eS HB.out)⟩)
                 rintro ⟨v136, v143, v147⟩ w62 ⟨hS_, h0_, h1_, h2_, h3_, h4_⟩
                 have n0_ : Aside0 (Kd.R k41 41 w62 w.heap.size (fun k_ => some k_ ≠ (v147 : Value).ownBlock ∧ some k_ ≠ (.slice Ao15 x7_2.length co15 : Value).ownBlock) v143 y142) := ⟨h0_⟩
                 have n1_ : Aside0 (Kd.R k41 41 w62 w.heap.size (fun k_ => some k_ ≠ (v143 : Value).ownBlock ∧ some k_ ≠ (.slice Ao15 x7_2.length co15 : Value).ownBlock) v147 y146) := ⟨h1_⟩
                 have n2_ : Aside0 (Kd.R (Kd.int .i64) 3 w62 w.heap.size (fun _ => True) v102 y101) := ⟨h2_⟩
                 have n3_ : Aside0 (Kd.R k41 41 w62 w.heap.size (fun k_ => some k_ ≠ (v143 : Value).ownBlock ∧ some k_ ≠ (v147 : Value).ownBlock) (.slice Ao15 x7_2.length co15) x7_2) := ⟨h3_⟩
                 have n4_ : Aside0 (Below w.heap.size w w62) := ⟨h4_⟩
                 clear HO_6
                 clear HO_7
                 clear HB
                 clear h0_ h1_ h2_ h3_ h4_
                 have HO144 := n0_
                 have HO148 := n1_
                 have HO_6 := n2_
                 have HO_7 := n3_
                 have HB := n4_
                 clear n0_ n1_ n2_ n3_ n4_
                 have hHeld : w62.cell? (ad145.add ((x8_2).toNat * 8)) = some (.int .i64 ((rd_T41 l0 x8_2).f0)) ∧ w62.cell? ⟨(ad145.add ((x8_2).toNat * 8)).block, (ad145.add ((x8_2).toNat * 8)).off + 1, none⟩ = some (.string ((rd_T41 l0 x8_2).f1)) ∧ w62.cell? ⟨(ad145.add ((x8_2).toNat * 8)).block, (ad145.add ((x8_2).toNat * 8)).off + 2, none⟩ = some (.int .i64 ((rd_T41 l0 x8_2).f2)) ∧ w62.cell? ⟨(ad145.add ((x8_2).toNat * 8)).block, (ad145.add ((x8_2).toNat * 8)).off + 3, none⟩ = some (.int .i64 ((rd_T41 l0 x8_2).f3)) ∧ w62.cell? ⟨(ad145.add ((x8_2).toNat * 8)).block, (ad145.add ((x8_2).toNat * 8)).off + 4, none⟩ = some (.int .i64 ((rd_T41 l0 x8_2).f4)) ∧ w62.cell? ⟨(ad145.add ((x8_2).toNat * 8)).block, (ad145.add ((x8_2).toNat * 8)).off + 5, none⟩ = some (.int .i64 ((rd_T41 l0 x8_2).f5)) ∧ w62.cell? ⟨(ad145.add ((x8_2).toNat * 8)).block, (ad145.add ((x8_2).toNat * 8)).off + 6, none⟩ = some (.int .i64 ((rd_T41 l0 x8_2).f6)) ∧ w62.cell? ⟨(ad145.add ((x8_2).toNat * 8)).block, (ad145.add ((x8_2).toNat * 8)).off + 7, none⟩ = some (.int .i64 ((rd_T41 l0 x8_2).f7)) := hS_
                 have HR141 := Aside0.mk (show Kd.C k41 w62 Ao15 y138.length y138 from by rw [Ny138.out]; exact Kd.C_take (m := (x9_3 : Int).toNat) ((Kd.R_reads' (HO_7.out)).2.2) KL55.out)
                 have HR155 := Aside0.mk (show Kd.C k41 w62 A56 y152.length y152 from by rw [Ny152.out, KA56.out]; exact Kd.C_drop (m := (x9_3 : Int).toNat) (c := co15) ((Kd.R_reads' (HO_7.out)).2.2) KL56.out ((Kd.R_reads' (HO_7.out)).2.1))
                 obtain ⟨Ao64, co64, eo64⟩ := Kd.R_slice HO148.out
                 (first | subst eo64 | (injection eo64 with f1_ f2_ f3_; have f4_ := f1_.symm; have f5_ := f3_.symm; clear f1_ f2_ f3_; subst f4_; subst f5_))
                 refine norm_ (a' := ?_) ?_ ?_
                 rotate_left
                 ·simp only [putAll, Act.put, List.setIfInBounds_toArray, List.set_cons_zero, List.set_cons_succ]
                  rfl
                 refine one_ (i := 10) (N := some 58) #[I,I,I,I,I,I,I,I,I,I,I,I,I,I,O,O] rfl rfl (one_of HT_.out (by kernel_rfl)) (by decide) (fun K hK => ?_)
                 refine Kd.R_append_rows_step k41 (w0 := w) w.heap.size (by rfl) (.tmp 52) (.tmp 57) 28 41 (.agg #[(.int .i64 0), (.string ⟨#[]⟩), (.int .i64 0), (.int .i64 0), (.int .i64 0), (.int .i64 0), (.int .i64 0), (.int .i64 0)]) 72 rfl Tryd.underlying28 info41 rfl (by decide) (by omega) v143 y142 y146 _ _ _ (fun k_ => some k_ ≠ (.slice Ao15 x7_2.length co15 : Value).ownBlock ∧ some k_ ≠ (.slice Ao64 y146.length co64 : Value).ownBlock) (fun _ => False) rfl rfl ?aO ?aR (fun _ _ h => h) (fun _ h => h.elim) ?aF ?aB ?aS ?aL ?_
                 (case aR => repeat (first | exact (Kd.R_reads' HO148.out).2.2 | (with_reducible refine Kd.C_alloc ?_ _) | (with_reducible refine Kd.C_drewN ?_ _) | (with_reducible refine Kd.C_drew ?_)))
                 (case aB => exact (by exact eS HB.out))
                 (case aF => exact (fun k_ hk => ⟨Kd.fresh' (Kd.R_lt (by exact Ho.RS <| HO_7.out)) k_ hk, Kd.fresh' (Kd.R_lt (by exact Ho.RS <| HO148.out)) k_ hk⟩))
                 (case aO => exact (by exact Ho.RS <| Kd.R_mono HO144.out (fun _ hk => ⟨hk.2, hk.1⟩)))
                 (case aS => exact (below_size (by exact eS HB.out)))
                 (case aL => have := LMc49.out; omega)
                 intro v150 w63 ho hb hg hat
                 rw [← Ny149.out] at ho
                 have n0_ := Aside0.mk (Kd.R_over' (by exact Ho.RS <| HO_6.out) (Kd.R_typed (by exact Ho.RS <| HO144.out)) (by decide) hg)
                 have n1_ := Aside0.mk (Kd.R_after (ok := (fun k_ => some k_ ≠ (.slice Ao64 y146.length co64 : Value).ownBlock)) (by exact Ho.RS <| Kd.R_mono HO_7.out (fun _ hk => ⟨hk.2, hk.1⟩)) hg hat)
                 have n2_ := Aside0.mk (Kd.R_after (ok := (fun k_ => some k_ ≠ (.slice Ao15 x7_2.length co15 : Value).ownBlock)) (by exact Ho.RS <| Kd.R_mono HO148.out (fun _ hk => ⟨hk.2, hk.1⟩)) hg hat)
                 have n3_ := Aside0.mk (hb)
                 have n4_ := Aside0.mk ((show Kd.C k41 w63 Ao15 y138.length y138 from by rw [Ny138.out]; exact Kd.C_take (m := (x9_3 : Int).toNat) ((Kd.R_reads' (Kd.R_after (ok := (fun k_ => some k_ ≠ (.slice Ao64 y146.length co64 : Value).ownBlock)) (by exact Ho.RS <| Kd.R_mono HO_7.out (fun _ hk => ⟨hk.2, hk.1⟩)) hg hat)).2.2) KL55.out))
                 have n5_ := Aside0.mk ((show Kd.C k41 w63 A56 y152.length y152 from by rw [Ny152.out, KA56.out]; exact Kd.C_drop (m := (x9_3 : Int).toNat) (c := co15) ((Kd.R_reads' (Kd.R_after (ok := (fun k_ => some k_ ≠ (.slice Ao64 y146.length co64 : Value).ownBlock)) (by exact Ho.RS <| Kd.R_mono HO_7.out (fun _ hk => ⟨hk.2, hk.1⟩)) hg hat)).2.2) KL56.out ((Kd.R_reads' (Kd.R_after (ok := (fun k_ => some k_ ≠ (.slice Ao64 y146.length co64 : Value).ownBlock)) (by exact Ho.RS <| Kd.R_mono HO_7.out (fun _ hk => ⟨hk.2, hk.1⟩)) hg hat)).2.1)))
                 have n6_ := Aside0.mk (ho)
                 clear HO_6
                 clear HO_7
                 clear HO148
                 clear HB
                 clear HR141
                 clear HR155
                 clear HO144
                 have HO_6 := n0_
                 have HO_7 := n1_
                 have HO148 := n2_
                 have HB := n3_
                 have HR141 := n4_
                 have HR155 := n5_
                 have HO151 := n6_
                 clear n0_ n1_ n2_ n3_ n4_ n5_ n6_
                 clear ho hb hg hat
                 refine hK.out _ _ ⟨((HB.out.cell (World.block_lt_of_cell? w _ hw145_0)).trans hw145_0), ((HB.out.cell (World.block_lt_of_cell? w _ hw145_1)).trans hw145_1), ((HB.out.cell (World.block_lt_of_cell? w _ hw145_2)).trans hw145_2), ((HB.out.cell (World.block_lt_of_cell? w _ hw145_3)).trans hw145_3), ((HB.out.cell (World.block_lt_of_cell? w _ hw145_4)).trans hw145_4), ((HB.out.cell (World.block_lt_of_cell? w _ hw145_5)).trans hw145_5), ((HB.out.cell (World.block_lt_of_cell? w _ hw145_6)).trans hw145_6), ((HB.out.cell (World.block_lt_of_cell? w _ hw145_7)).trans hw145_7)⟩ (fun hHeld => ?_)
                 clear hK K
                 refine norm_ (a' := ?_) ?_ ?_
                 rotate_left
                 ·show Act.put _ (some 58) _ = _
                  simp only [Z]
                  rfl
                 refine one_ (i := 14) (N := some 62) #[I,I,I,I,I,I,I,I,I,I,I,I,I,I,I,O] rfl rfl (one_of HT_.out (by kernel_rfl)) (by decide) (fun K hK => ?_)
                 refine Kd.R_append_rows_step k41 (w0 := w) w.heap.size (by rfl) (.tmp 58) (.tmp 61) 28 41 (.agg #[(.int .i64 0), (.string ⟨#[]⟩), (.int .i64 0), (.int .i64 0), (.int .i64 0), (.int .i64 0), (.int .i64 0), (.int .i64 0)]) 72 rfl Tryd.underlying28 info41 rfl (by decide) (by omega) v150 y149 y152 _ _ _ (fun k_ => some k_ ≠ (.slice Ao15 x7_2.length co15 : Value).ownBlock ∧ some k_ ≠ (.slice Ao64 y146.length co64 : Value).ownBlock) (fun _ => False) rfl rfl ?aO ?aR (fun _ _ h => h) (fun _ h => h.elim) ?aF ?aB ?aS ?aL ?_
                 (case aR => repeat (first | exact (by repeat (first | (with_reducible exact HR155.out) | (with_reducible refine Kd.C_alloc ?_ _) | (with_reducible refine Kd.C_drewN ?_ _) | (with_reducible refine Kd.C_drew ?_) | exact HR155.out)) | (with_reducible refine Kd.C_alloc ?_ _) | (with_reducible refine Kd.C_drewN ?_ _) | (with_reducible refine Kd.C_drew ?_)))
                 (case aB => exact (by exact eS HB.out))
                 (case aF => exact (fun k_ hk => ⟨Kd.fresh' (Kd.R_lt (by exact Ho.RS <| HO_7.out)) k_ hk, Kd.fresh' (Kd.R_lt (by exact Ho.RS <| HO148.out)) k_ hk⟩))
                 (case aO => exact (by exact Ho.RS <| HO151.out))
                 (case aS => exact (below_size (by exact eS HB.out)))
                 (case aL => have := LMc52.out; omega)
                 intro v157 w65 ho hb hg hat
                 rw [← Ny156.out] at ho
                 have n0_ := Aside0.mk (Kd.R_over' (by exact Ho.RS <| HO_6.out) (Kd.R_typed (by exact Ho.RS <| HO151.out)) (by decide) hg)
                 have n1_ := Aside0.mk (Kd.R_after (ok := (fun k_ => some k_ ≠ (.slice Ao64 y146.length co64 : Value).ownBlock)) (by exact Ho.RS <| HO_7.out) hg hat)
                 have n2_ := Aside0.mk (Kd.R_after (ok := (fun k_ => some k_ ≠ (.slice Ao15 x7_2.length co15 : Value).ownBlock)) (by exact Ho.RS <| HO148.out) hg hat)
                 have n3_ := Aside0.mk (hb)
                 have n4_ := Aside0.mk ((show Kd.C k41 w65 Ao15 y138.length y138 from by rw [Ny138.out]; exact Kd.C_take (m := (x9_3 : Int).toNat) ((Kd.R_reads' (Kd.R_after (ok := (fun k_ => some k_ ≠ (.slice Ao64 y146.length co64 : Value).ownBlock)) (by exact Ho.RS <| HO_7.out) hg hat)).2.2) KL55.out))
                 have n5_ := Aside0.mk ((show Kd.C k41 w65 A56 y152.length y152 from by rw [Ny152.out, KA56.out]; exact Kd.C_drop (m := (x9_3 : Int).toNat) (c := co15) ((Kd.R_reads' (Kd.R_after (ok := (fun k_ => some k_ ≠ (.slice Ao64 y146.length co64 : Value).ownBlock)) (by exact Ho.RS <| HO_7.out) hg hat)).2.2) KL56.out ((Kd.R_reads' (Kd.R_after (ok := (fun k_ => some k_ ≠ (.slice Ao64 y146.length co64 : Value).ownBlock)) (by exact Ho.RS <| HO_7.out) hg hat)).2.1)))
                 have n6_ := Aside0.mk (ho)
                 clear HO_6
                 clear HO_7
                 clear HO148
                 clear HB
                 clear HR141
                 clear HR155
                 clear HO151
                 have HO_6 := n0_
                 have HO_7 := n1_
                 have HO148 := n2_
                 have HB := n3_
                 have HR141 := n4_
                 have HR155 := n5_
                 have HO158 := n6_
                 clear n0_ n1_ n2_ n3_ n4_ n5_ n6_
                 clear ho hb hg hat
                 refine hK.out _ _ ⟨((HB.out.cell (World.block_lt_of_cell? w _ hw145_0)).trans hw145_0), ((HB.out.cell (World.block_lt_of_cell? w _ hw145_1)).trans hw145_1), ((HB.out.cell (World.block_lt_of_cell? w _ hw145_2)).trans hw145_2), ((HB.out.cell (World.block_lt_of_cell? w _ hw145_3)).trans hw145_3), ((HB.out.cell (World.block_lt_of_cell? w _ hw145_4)).trans hw145_4), ((HB.out.cell (World.block_lt_of_cell? w _ hw145_5)).trans hw145_5), ((HB.out.cell (World.block_lt_of_cell? w _ hw145_6)).trans hw145_6), ((HB.out.cell (World.block_lt_of_cell? w _ hw145_7)).trans hw145_7)⟩ (fun hHeld => ?_)
                 clear hK K
                 refine norm_ (a' := ?_) ?_ ?_
                 rotate_left
                 ·show Act.put _ (some 62) _ = _
                  simp only [Z]
                  rfl
                 refine pure_ (i := 15) (N := some 7) (v := ?_) (a' := ?_) #[I,I,I,I,I,I,I,I,I,I,I,I,I,I,I,I] rfl rfl (any_of HT_.out (by kernel_rfl)) (fun _ _ _ h => h) (Or.inl ⟨by rfl, ?_⟩) ?_ ?_
                 rotate_left; (intro w'; go_simp; with_reducible rfl); rotate_left; (simp only [Z]; rfl)
                 refine done_ (done_of HT_.out (by kernel_rfl)) ?_
                 try go_wp2
                 go_roundg k3
                 case measure => have := HJ2.out; have := HK2.out; have := HK3.out; omega
                 case rel => exact ⟨(y156), (wrap64 (x8_2 + 1)), (by first | rfl | (simp; done) | (simp [*]; done)), H', ⟨by have := HJ2.out; have := HK2.out; have := HK3.out; omega⟩, ⟨by exact Ho.RS <| HO_6.out⟩, ⟨by exact Ho.RS <| Kd.R_mono HO158.out (fun _ hk => trivial)⟩, ⟨by exact eS HB.out⟩⟩
                ·rw [if_neg c52] at H
                 exact absurd H (by simp)
               ·rw [if_neg c49] at H
                exact absurd H (by simp)
              ·rw [if_neg c48] at H
               exact absurd H (by simp)
             ·rw [if_neg c47] at H
              exact absurd H (by simp)
            ·rw [if_neg c46] at H
             exact absurd H (by simp)
           ·rw [if_neg c45] at H
            exact absurd H (by simp)
          ·rw [if_neg c44] at H
           exact absurd H (by simp)
      ·rw [if_neg c14] at H
       have c14b0 : decide (x8_2 < (l0.length : Int)) = false := decide_eq_false c14
       clear c14
       have H' := Aside0.mk H
       clear H
       go_wp2
       go_loopg [6, 10] k2 (fun kq v6 v10 w' => ∃ (x6_3 : List Int) (x10_3 : Int), v10 = .int .i64 x10_3 ∧ Aside0 (spec_AtStage.l2 kq a1 x6_3 x7_2 x10_3 = some (r1, r2)) ∧ Aside0 (kq ≤ k2) ∧ Aside0 (Kd.R (Kd.int .i64) 3 w' w.heap.size (fun _ => True) v6 x6_3) ∧ Aside0 (Kd.R k41 41 w' w.heap.size (fun _ => True) u7 x7_2) ∧ Aside0 (Below w.heap.size w w'))
       case atStart => exact ⟨(y101), (0), (by first | rfl | (simp; done) | (simp [*]; done)), H', ⟨Nat.le_refl _⟩, ⟨by exact Ho.RS <| HO_6.out⟩, ⟨by exact Ho.RS <| HO_7.out⟩, ⟨by exact eS HB.out⟩⟩
       case round =>
        clear H'
        try clear c1
        try clear p1
        try clear q1
        try clear hx1
        try clear p2
        try clear c4
        try clear c5
        try clear q5
        try clear p6
        try clear c8
        try clear c14
        try clear c14b0
        try clear p14
        try clear q14
        try clear hx14
        try clear c44
        try clear c45
        try clear c46
        try clear c47
        try clear c48
        try clear c49
        try clear c52
        try clear q55
        try clear c56
        try clear q56
        try clear p64
        try clear hx145_0
        try clear hx145_1
        try clear hx145_2
        try clear hx145_3
        try clear hx145_4
        try clear hx145_5
        try clear hx145_6
        try clear hx145_7
        try clear p145
        try clear q056
        try clear q145
        try clear q55
        try clear q56
        obtain ⟨x6_3, x10_3, rfl, HA, HK3, HO_6, HO_7, HB⟩ := hrel
        cases gk with
        | zero => exact absurd HA.out (by simp [spec_AtStage.l2])
        | succ k3 =>
         have H := HA.out
         clear HA
         simp only [spec_AtStage.l2] at H
         by_cases c66 : x10_3 < (x7_2.length : Int)
         ·rw [if_pos c66] at H
          have c66b0 : decide (x10_3 < (x7_2.length : Int)) = true := decide_eq_true c66
          clear c66
          by_cases c67 : 0 ≤ x10_3
          ·rw [if_pos c67] at H
           have c67b0 : decide (0 ≤ x10_3) = true := decide_eq_true c67
           clear c67
           by_cases c68 : ((rd_T41 x7_2 x10_3).f4) = a1
           ·rw [if_pos c68] at H
            have c68b0 : (((rd_T41 x7_2 x10_3).f4) == a1) = true := beq_iff_eq.mpr c68
            have c68b1 : (((rd_T41 x7_2 x10_3).f4) != a1) = false := bne_eq_false_iff_eq.mpr c68
            clear c68
            obtain ⟨y161, hy161⟩ : ∃ y_ : List Int, y_ = (([(rd_T41 x7_2 x10_3).f0] : List Int)) := ⟨_, rfl⟩
            replace H : (if x6_3.length + y161.length < 17592186044416 then (spec_AtStage.l2 k3 a1 (x6_3 ++ y161) x7_2 (wrap64 (x10_3 + 1))) else (none)) = some (r1, r2) := by first | (rw [hy161]; with_reducible exact H) | (have H2_ := (Option.bind_some _ _).symm.trans H; rw [hy161]; with_reducible exact H2_) | (have H2_ := (Option.bind_some _ _).symm.trans H; with_reducible exact H2_) | with_reducible exact H | (rw [hy161]; exact H) | exact H
            have Ny161 := Aside0.mk hy161
            clear hy161
            by_cases c69 : x6_3.length + y161.length < 17592186044416
            ·rw [if_pos c69] at H
             have LMc69 := Aside0.mk c69
             clear c69
             obtain ⟨y164, hy164⟩ : ∃ y_ : List Int, y_ = (x6_3 ++ y161) := ⟨_, rfl⟩
             replace H : (spec_AtStage.l2 k3 a1 y164 x7_2 (wrap64 (x10_3 + 1))) = some (r1, r2) := by first | (rw [hy164]; with_reducible exact H) | (have H2_ := (Option.bind_some _ _).symm.trans H; rw [hy164]; with_reducible exact H2_) | (have H2_ := (Option.bind_some _ _).symm.trans H; with_reducible exact H2_) | with_reducible exact H | (rw [hy164]; exact H) | exact H
             have Ny164 := Aside0.mk hy164
             clear hy164
             have H' := Aside0.mk H
             clear H
             obtain ⟨Ao70, co70, eo70⟩ := Kd.R_slice HO_7.out
             subst eo70
             have p159 : 0 ≤ (x10_3 : Int) := of_decide_eq_true (by first | (with_reducible assumption) | assumption)
             have q159 : x10_3 < (x7_2.length : Int) := of_decide_eq_true (by first | (with_reducible assumption) | assumption)
             obtain ⟨ad159, e159, hx159_0, hx159_1, hx159_2, hx159_3, hx159_4, hx159_5, hx159_6, hx159_7⟩ := at_T41 (Kd.R_reads' HO_7.out).2.2 x10_3 p159 q159
             cases e159
             replace p159 := eq_true p159
             replace q159 := eq_true q159
             have p160 : 0 ≤ (x10_3 : Int) := of_decide_eq_true (by first | (with_reducible assumption) | assumption)
             have q160 : x10_3 < (x7_2.length : Int) := of_decide_eq_true (by first | (with_reducible assumption) | assumption)
             obtain ⟨ad160, e160, hx160_0, hx160_1, hx160_2, hx160_3, hx160_4, hx160_5, hx160_6, hx160_7⟩ := at_T41 (Kd.R_reads' HO_7.out).2.2 x10_3 p160 q160
             obtain rfl : ad159 = ad160 := (by injection e160)
             replace p160 := eq_true p160
             replace q160 := eq_true q160
             go_wp2_with (first | ((with_reducible refine gate_dst (N := 82) rfl ?_); refine Kd.R_lit (Kd.int .i64) _ 3 ?hg (N := 82) ?hd (xs := ([(rd_T41 x7_2 x10_3).f0] : List Int)) (inner := [.int .i64 ((rd_T41 x7_2 x10_3).f0)]) (ok := fun _ => True) (okp := fun _ => True) ?hr ?hp (fun _ hk => hk) trivial (Below.refl _ _) (Nat.le_refl _) (by simp) ?_; (case hd => rfl); (case hg => rfl); (case hr => first | (go_simp; done) | (go_simp; rfl)); (case hp => exact (Reps.one (show Kd.M (Kd.int .i64) _ _ _ ((rd_T41 x7_2 x10_3).f0) [.int .i64 ((rd_T41 x7_2 x10_3).f0)] from rfl) (Reps.none _ _))); intro v162 w71 ho72 hb hg_ hnew_; clear hg_ hnew_; (first | rw [← Ny161.out] at ho72 | (simp only [Int.reduceToNat] at ho72; rw [← Ny161.out] at ho72)); have n0_ := Aside0.mk (Kd.R_elder' (by exact Ho.RS <| HO_6.out) (Kd.R_base ho72) hb); have n1_ := Aside0.mk (Kd.R_below (by exact Ho.RS <| HO_7.out) hb); have n2_ := Aside0.mk (Kd.R_lower (Kd.R_new' ho72 (Kd.R_lt (by exact Ho.RS <| HO_6.out))) (below_size (by exact eS HB.out))); have n3_ := Aside0.mk (below_step (by exact eS HB.out) hb); clear HO_6; clear HO_7; clear HB; have HO_6 := n0_; have HO_7 := n1_; have HO163 := n2_; have HB := n3_; clear n0_ n1_ n2_ n3_; clear hb ho72; obtain ⟨Ao74, co74, eo74⟩ := Kd.R_slice HO163.out; subst eo74) | ((with_reducible refine gate_builtin (b := .append) (xs := #[.tmp 76, .tmp 82]) rfl ?_); at_builtin; refine Kd.R_append_rows (Kd.int .i64) (w0 := w) w.heap.size rfl (.tmp 76) (.tmp 82) 25 3 (.int .i64 0) 8 rfl Tryd.underlying25 info3 rfl (by decide) (by omega) u6 x6_3 y161 _ _ _ (fun k_ => some k_ ≠ (.slice Ao74 y161.length co74 : Value).ownBlock) (fun _ => False) rfl rfl ?aO ?aR (fun _ _ h => h) (fun _ h => h.elim) ?aF ?aB ?aS ?aL ?_; (case aR => repeat (first | exact (Kd.R_reads' HO163.out).2.2 | (with_reducible refine Kd.C_alloc ?_ _) | (with_reducible refine Kd.C_drewN ?_ _) | (with_reducible refine Kd.C_drew ?_))); (case aB => exact (by exact eS HB.out)); (case aF => exact (fun k_ hk => Kd.fresh' (Kd.R_lt (by exact Ho.RS <| HO163.out)) k_ hk)); (case aO => exact (by exact Ho.RS <| Kd.R_mono HO_6.out (fun _ hk => hk.2))); (case aS => exact (below_size (by exact eS HB.out))); (case aL => have := LMc69.out; omega); intro v165 w73 ho hb hg hat; rw [← Ny164.out] at ho; have n0_ := Aside0.mk (Kd.R_over' (by exact Ho.RS <| HO_7.out) (Kd.R_typed (by exact Ho.RS <| HO_6.out)) (by decide) hg); have n1_ := Aside0.mk (Kd.R_after (ok := (fun _ => True)) (by exact Ho.RS <| HO163.out) hg hat); have n2_ := Aside0.mk (hb); have n3_ := Aside0.mk (ho); clear HO_7; clear HO163; clear HB; clear HO_6; have HO_7 := n0_; have HO163 := n1_; have HB := n2_; have HO166 := n3_; clear n0_ n1_ n2_ n3_; clear ho hb hg hat))
             go_roundg k3
             case measure => have := HJ2.out; have := HK2.out; have := HK3.out; omega
             case rel => exact ⟨(y164), (wrap64 (x10_3 + 1)), (by first | rfl | (simp; done) | (simp [*]; done)), H', ⟨by have := HJ2.out; have := HK2.out; have := HK3.out; omega⟩, ⟨by exact Ho.RS <| Kd.R_mono HO166.out (fun _ hk => trivial)⟩, ⟨by exact Ho.RS <| HO_7.out⟩, ⟨by exact eS HB.out⟩⟩
            ·rw [if_neg c69] at H
             exact absurd H (by simp)
           ·rw [if_neg c68] at H
            have c68b0 : (((rd_T41 x7_2 x10_3).f4) == a1) = false := beq_eq_false_iff_ne.mpr c68
            have c68b1 : (((rd_T41 x7_2 x10_3).f4) != a1) = true := bne_iff_ne.mpr c68
            have H' := Aside0.mk H
            clear H
            obtain ⟨Ao75, co75, eo75⟩ := Kd.R_slice HO_7.out
            subst eo75
            have p159 : 0 ≤ (x10_3 : Int) := of_decide_eq_true (by first | (with_reducible assumption) | assumption)
            have q159 : x10_3 < (x7_2.length : Int) := of_decide_eq_true (by first | (with_reducible assumption) | assumption)
            obtain ⟨ad159, e159, hx159_0, hx159_1, hx159_2, hx159_3, hx159_4, hx159_5, hx159_6, hx159_7⟩ := at_T41 (Kd.R_reads' HO_7.out).2.2 x10_3 p159 q159
            cases e159
            replace p159 := eq_true p159
            replace q159 := eq_true q159
            go_wp2
            go_roundg k3
            case measure => have := HJ2.out; have := HK2.out; have := HK3.out; omega
            case rel => exact ⟨(x6_3), (wrap64 (x10_3 + 1)), (by first | rfl | (simp; done) | (simp [*]; done)), H', ⟨by have := HJ2.out; have := HK2.out; have := HK3.out; omega⟩, ⟨by exact Ho.RS <| HO_6.out⟩, ⟨by exact Ho.RS <| HO_7.out⟩, ⟨by exact eS HB.out⟩⟩
          ·rw [if_neg c67] at H
           exact absurd H (by simp)
         ·rw [if_neg c66] at H
          have c66b0 : decide (x10_3 < (x7_2.length : Int)) = false := decide_eq_false c66
          clear c66
          simp only [Option.some.injEq, Prod.mk.injEq] at H
          obtain ⟨rfl, rfl⟩ := H
          obtain ⟨Ao76, co76, eo76⟩ := Kd.R_slice HO_7.out
          subst eo76
          go_wp2
          go_ret2
          exact ⟨_, by first | rfl | (simp [errW_none, errW_some] <;> rfl) | (simp [*, errW_none, errW_some] <;> rfl), by exact Ho.RS <| HO_6.out, by exact eS HB.out⟩

end Go.Proofs.YtahfahlbdgbfeaaDoor.X

-- XlawsFnExactAtStageF12
namespace Go.Proofs.YtahfahlbdgbfeaaDoor.X
open Ho (bS eS)
open Go.RowKit Go.Proofs.YtahfahlbdgbfeaaDoorW.PrintWords Go.Proofs.YtahfahlbdgbfeaaDoorW.PrintLast Go.Proofs.YtahfahlbdgbfeaaDoorW.PrintMore
attribute [local go_sem] max2_int min2_int max_two min_two max_three min_three max_four min_four   -- for this text's walks alone
set_option linter.unusedVariables false
set_option linter.unusedSimpArgs false
open Sq (I O Z)

/-! ### laws_FnExactAtStage: function 12 -/
mutual
def laws_FnExactAtStage.j0 : Nat → List (S38) → Int → List Int → Bool → List (S41) → List Int → Bool → Bool → Option (Bool)
  | 0, _, _, _, _, _, _, _, _ => none
  | k + 1, x0, x1, x6, x7, x8, x9, x10, x44 => if x44 = true then (some false) else ((laws_toCarpetOrderS.f k x0).bind fun t117 => ((laws_eqCarpetOrderS.f k x8 t117).bind fun t120 => (if t120 = true then ((laws_markCarpetOrderS.f k x8 1).bind fun bt121 => (if bt121.1 < 0 then (laws_FnExactAtStage.j1 k x0 x1 x6 x7 x9 true) else ((laws_eqIntS.f k x9 x6).bind fun t123 => (if t123 = true then (laws_FnExactAtStage.j1 k x0 x1 x6 x7 x9 (x10 != x7)) else (laws_FnExactAtStage.j1 k x0 x1 x6 x7 x9 true))))) else (some false))))
def laws_FnExactAtStage.j1 : Nat → List (S38) → Int → List Int → Bool → List Int → Bool → Option (Bool)
  | 0, _, _, _, _, _, _ => none
  | k + 1, x0, x1, x6, x7, x9, x65 => if x65 = true then (some false) else ((laws_markIntS.f k x9 1).bind fun bt124 => ((laws_heldIntS.f k bt124.2 1).bind fun t126 => (if t126 < 0 then (some false) else (if t126 = bt124.1 then ((laws_toCarpetOrderS.f k x0).bind fun t127 => ((impl_AtStage.f k t127 x1).bind fun bt130 => ((laws_eqIntS.f k bt130.1 x6).bind fun t134 => (if t134 = true then (laws_FnExactAtStage.j2 k bt124.2 bt124.1 (bt130.2 != x7)) else (laws_FnExactAtStage.j2 k bt124.2 bt124.1 true))))) else (some false)))))
def laws_FnExactAtStage.j2 : Nat → List Int → Int → Bool → Option (Bool)
  | 0, _, _, _ => none
  | k + 1, x9, x12, x92 => if x92 = true then (some false) else ((laws_heldIntS.f k x9 1).bind fun t135 => (if t135 < 0 then (some false) else (if t135 = x12 then (some true) else (some false))))
end
def laws_FnExactAtStage.f (k : Nat) (l0 : List (S38)) (a1 : Int) : Option (Bool) := (laws_szCarpetOrderS.f k l0 1048576).bind fun t101 => (if t101 < 0 then (some true) else ((laws_toCarpetOrderS.f k l0).bind fun t102 => ((spec_AtStage.f k t102 a1).bind fun bt105 => ((laws_toCarpetOrderS.f k l0).bind fun t109 => ((impl_AtStage.f k t109 a1).bind fun bt112 => ((laws_eqIntS.f k bt112.1 bt105.1).bind fun t116 => (if t116 = true then (laws_FnExactAtStage.j0 k l0 a1 bt105.1 bt105.2 t109 bt112.1 bt112.2 (bt112.2 != bt105.2)) else (laws_FnExactAtStage.j0 k l0 a1 bt105.1 bt105.2 t109 bt112.1 bt112.2 true))))))))
theorem laws_FnExactAtStage.mono_l : ∀ k, (∀ y0 y1 y2 y3 y4 y5 y6 y7, LeO (laws_FnExactAtStage.j0 k y0 y1 y2 y3 y4 y5 y6 y7) (laws_FnExactAtStage.j0 (k + 1) y0 y1 y2 y3 y4 y5 y6 y7)) ∧ (∀ y0 y1 y2 y3 y4 y5, LeO (laws_FnExactAtStage.j1 k y0 y1 y2 y3 y4 y5) (laws_FnExactAtStage.j1 (k + 1) y0 y1 y2 y3 y4 y5)) ∧ (∀ y0 y1 y2, LeO (laws_FnExactAtStage.j2 k y0 y1 y2) (laws_FnExactAtStage.j2 (k + 1) y0 y1 y2))
  | 0 => ⟨fun _ _ _ _ _ _ _ _ r h => by simp [laws_FnExactAtStage.j0] at h, fun _ _ _ _ _ _ r h => by simp [laws_FnExactAtStage.j1] at h, fun _ _ _ r h => by simp [laws_FnExactAtStage.j2] at h⟩
  | k + 1 => by
    obtain ⟨ih0, ih1, ih2⟩ := laws_FnExactAtStage.mono_l k
    refine ⟨?_, ?_, ?_⟩
    · intro y0 y1 y2 y3 y4 y5 y6 y7
      unfold laws_FnExactAtStage.j0
      repeat' first
      | (with_reducible exact ih0 _ _ _ _ _ _ _ _)
      | (with_reducible exact ih1 _ _ _ _ _ _)
      | (with_reducible exact ih2 _ _ _)
      | (with_reducible exact impl_AtStage.mono _ _ _)
      | (with_reducible exact laws_eqCarpetOrderS.mono _ _ _)
      | (with_reducible exact laws_eqIntS.mono _ _ _)
      | (with_reducible exact laws_heldIntS.mono _ _ _)
      | (with_reducible exact laws_markCarpetOrderS.mono _ _ _)
      | (with_reducible exact laws_markIntS.mono _ _ _)
      | (with_reducible exact laws_szCarpetOrderS.mono _ _ _)
      | (with_reducible exact laws_toCarpetOrderS.mono _ _)
      | (with_reducible exact spec_AtStage.mono _ _ _)
      | (with_reducible exact LeO.refl _)
      | (with_reducible exact LeO.none _)
      | (with_reducible refine LeO.ite ?_ ?_)
      | (with_reducible refine LeO.bind ?_ (fun _ => ?_))
      | exact ih0 _ _ _ _ _ _ _ _
      | exact ih1 _ _ _ _ _ _
      | exact ih2 _ _ _
      | exact impl_AtStage.mono _ _ _
      | exact laws_eqCarpetOrderS.mono _ _ _
      | exact laws_eqIntS.mono _ _ _
      | exact laws_heldIntS.mono _ _ _
      | exact laws_markCarpetOrderS.mono _ _ _
      | exact laws_markIntS.mono _ _ _
      | exact laws_szCarpetOrderS.mono _ _ _
      | exact laws_toCarpetOrderS.mono _ _
      | exact spec_AtStage.mono _ _ _
      | exact LeO.none _
      | refine LeO.ite ?_ ?_
      | refine LeO.bind ?_ (fun _ => ?_)
    · intro y0 y1 y2 y3 y4 y5
      unfold laws_FnExactAtStage.j1
      repeat' first
      | (with_reducible exact ih0 _ _ _ _ _ _ _ _)
      | (with_reducible exact ih1 _ _ _ _ _ _)
      | (with_reducible exact ih2 _ _ _)
      | (with_reducible exact impl_AtStage.mono _ _ _)
      | (with_reducible exact laws_eqCarpetOrderS.mono _ _ _)
      | (with_reducible exact laws_eqIntS.mono _ _ _)
      | (with_reducible exact laws_heldIntS.mono _ _ _)
      | (with_reducible exact laws_markCarpetOrderS.mono _ _ _)
      | (with_reducible exact laws_markIntS.mono _ _ _)
      | (with_reducible exact laws_szCarpetOrderS.mono _ _ _)
      | (with_reducible exact laws_toCarpetOrderS.mono _ _)
      | (with_reducible exact spec_AtStage.mono _ _ _)
      | (with_reducible exact LeO.refl _)
      | (with_reducible exact LeO.none _)
      | (with_reducible refine LeO.ite ?_ ?_)
      | (with_reducible refine LeO.bind ?_ (fun _ => ?_))
      | exact ih0 _ _ _ _ _ _ _ _
      | exact ih1 _ _ _ _ _ _
      | exact ih2 _ _ _
      | exact impl_AtStage.mono _ _ _
      | exact laws_eqCarpetOrderS.mono _ _ _
      | exact laws_eqIntS.mono _ _ _
      | exact laws_heldIntS.mono _ _ _
      | exact laws_markCarpetOrderS.mono _ _ _
      | exact laws_markIntS.mono _ _ _
      | exact laws_szCarpetOrderS.mono _ _ _
      | exact laws_toCarpetOrderS.mono _ _
      | exact spec_AtStage.mono _ _ _
      | exact LeO.none _
      | refine LeO.ite ?_ ?_
      | refine LeO.bind ?_ (fun _ => ?_)
    · intro y0 y1 y2
      unfold laws_FnExactAtStage.j2
      repeat' first
      | (with_reducible exact ih0 _ _ _ _ _ _ _ _)
      | (with_reducible exact ih1 _ _ _ _ _ _)
      | (with_reducible exact ih2 _ _ _)
      | (with_reducible exact impl_AtStage.mono _ _ _)
      | (with_reducible exact laws_eqCarpetOrderS.mono _ _ _)
      | (with_reducible exact laws_eqIntS.mono _ _ _)
      | (with_reducible exact laws_heldIntS.mono _ _ _)
      | (with_reducible exact laws_markCarpetOrderS.mono _ _ _)
      | (with_reducible exact laws_markIntS.mono _ _ _)
      | (with_reducible exact laws_szCarpetOrderS.mono _ _ _)
      | (with_reducible exact laws_toCarpetOrderS.mono _ _)
      | (with_reducible exact spec_AtStage.mono _ _ _)
      | (with_reducible exact LeO.refl _)
      | (with_reducible exact LeO.none _)
      | (with_reducible refine LeO.ite ?_ ?_)
      | (with_reducible refine LeO.bind ?_ (fun _ => ?_))
      | exact ih0 _ _ _ _ _ _ _ _
      | exact ih1 _ _ _ _ _ _
      | exact ih2 _ _ _
      | exact impl_AtStage.mono _ _ _
      | exact laws_eqCarpetOrderS.mono _ _ _
      | exact laws_eqIntS.mono _ _ _
      | exact laws_heldIntS.mono _ _ _
      | exact laws_markCarpetOrderS.mono _ _ _
      | exact laws_markIntS.mono _ _ _
      | exact laws_szCarpetOrderS.mono _ _ _
      | exact laws_toCarpetOrderS.mono _ _
      | exact spec_AtStage.mono _ _ _
      | exact LeO.none _
      | refine LeO.ite ?_ ?_
      | refine LeO.bind ?_ (fun _ => ?_)
theorem laws_FnExactAtStage.mono : ∀ a0 a1 k, LeO (laws_FnExactAtStage.f k a0 a1) (laws_FnExactAtStage.f (k + 1) a0 a1) := by
  intro a0 a1 k
  obtain ⟨ih0, ih1, ih2⟩ := laws_FnExactAtStage.mono_l k
  unfold laws_FnExactAtStage.f
  repeat' first
      | (with_reducible exact ih0 _ _ _ _ _ _ _ _)
      | (with_reducible exact ih1 _ _ _ _ _ _)
      | (with_reducible exact ih2 _ _ _)
      | (with_reducible exact impl_AtStage.mono _ _ _)
      | (with_reducible exact laws_eqCarpetOrderS.mono _ _ _)
      | (with_reducible exact laws_eqIntS.mono _ _ _)
      | (with_reducible exact laws_heldIntS.mono _ _ _)
      | (with_reducible exact laws_markCarpetOrderS.mono _ _ _)
      | (with_reducible exact laws_markIntS.mono _ _ _)
      | (with_reducible exact laws_szCarpetOrderS.mono _ _ _)
      | (with_reducible exact laws_toCarpetOrderS.mono _ _)
      | (with_reducible exact spec_AtStage.mono _ _ _)
      | (with_reducible exact LeO.refl _)
      | (with_reducible exact LeO.none _)
      | (with_reducible refine LeO.ite ?_ ?_)
      | (with_reducible refine LeO.bind ?_ (fun _ => ?_))
      | exact ih0 _ _ _ _ _ _ _ _
      | exact ih1 _ _ _ _ _ _
      | exact ih2 _ _ _
      | exact impl_AtStage.mono _ _ _
      | exact laws_eqCarpetOrderS.mono _ _ _
      | exact laws_eqIntS.mono _ _ _
      | exact laws_heldIntS.mono _ _ _
      | exact laws_markCarpetOrderS.mono _ _ _
      | exact laws_markIntS.mono _ _ _
      | exact laws_szCarpetOrderS.mono _ _ _
      | exact laws_toCarpetOrderS.mono _ _
      | exact spec_AtStage.mono _ _ _
      | exact LeO.none _
      | refine LeO.ite ?_ ?_
      | refine LeO.bind ?_ (fun _ => ?_)
set_option maxHeartbeats 8000000 in
set_option maxRecDepth 100000 in
theorem laws_FnExactAtStage.calls (k : Nat) (A0 : Option Addr) (c0 : Nat) (l0 : List (S38)) (a1 : Int) (r : Bool) (w : World) (hr0 : Kd.C k38 w A0 l0.length l0) (hc0 : l0.length ≤ c0) (ht : r = true) (h : laws_FnExactAtStage.f k l0 a1 = some r) :
  Calls Tryd.prog 12 #[.slice A0 l0.length c0, .int .i64 a1] w fun e w' => e = .returned (.bool r) ∧ Below w.heap.size w w' := by
 have HR0 := Aside0.mk hr0
 have HC0 := Aside0.mk hc0
 clear hr0 hc0
 have HB := Aside0.mk (Below.refl w.heap.size w)
 have HT := Aside0.mk ht
 clear ht
 have H : ((laws_szCarpetOrderS.f k l0 1048576).bind fun t101 => (if t101 < 0 then (some true) else ((laws_toCarpetOrderS.f k l0).bind fun t102 => ((spec_AtStage.f k t102 a1).bind fun bt105 => ((laws_toCarpetOrderS.f k l0).bind fun t109 => ((impl_AtStage.f k t109 a1).bind fun bt112 => ((laws_eqIntS.f k bt112.1 bt105.1).bind fun t116 => (if t116 = true then (laws_FnExactAtStage.j0 k l0 a1 bt105.1 bt105.2 t109 bt112.1 bt112.2 (bt112.2 != bt105.2)) else (laws_FnExactAtStage.j0 k l0 a1 bt105.1 bt105.2 t109 bt112.1 bt112.2 true))))))))) = some r := h
 clear h
 replace H := Option.bind_eq_some_iff.mp H
 obtain ⟨t101, A30, H⟩ := H
 replace H : (if t101 < 0 then (some true) else ((laws_toCarpetOrderS.f k l0).bind fun t102 => ((spec_AtStage.f k t102 a1).bind fun bt105 => ((laws_toCarpetOrderS.f k l0).bind fun t109 => ((impl_AtStage.f k t109 a1).bind fun bt112 => ((laws_eqIntS.f k bt112.1 bt105.1).bind fun t116 => (if t116 = true then (laws_FnExactAtStage.j0 k l0 a1 bt105.1 bt105.2 t109 bt112.1 bt112.2 (bt112.2 != bt105.2)) else (laws_FnExactAtStage.j0 k l0 a1 bt105.1 bt105.2 t109 bt112.1 bt112.2 true)))))))) = some r := H
 have A3 := Aside0.mk A30
 clear A30
 by_cases c4 : t101 < 0
 ·rw [if_pos c4] at H
  have c4b0 : decide (t101 < 0) = true := decide_eq_true c4
  clear c4
  as_aux_lemma =>
   obtain rfl := Option.some.inj H
   go_enter Tryd.func12, Tryd.ntmps12
   go_wp2_with (first | ((with_reducible refine gate_callee (f := 14) rfl ?_); refine goesL_ (some 18) rfl rfl Tryd.func14 (by kernel_rfl) rfl #[.slice A0 l0.length c0, .int .i64 1048576] rfl (by (try simp only [List.map_toArray, List.map_cons, List.map_nil]); first | done | rfl | (simp only [List.length_drop, List.length_take]; rfl)) ?_; (with_reducible refine (laws_szCarpetOrderS.calls k _ _ l0 1048576 t101 _ ?side1 ?side2 A3.out).mono ?_); (case side1 => repeat (first | exact HR0.out | (with_reducible refine Kd.C_alloc ?_ _) | (with_reducible refine Kd.C_drewN ?_ _) | (with_reducible refine Kd.C_drew ?_))); (case side2 => exact HC0.out); rintro e w5 ⟨rfl, hb⟩; refine ⟨_, rfl, ?_⟩; have n0_ := Aside0.mk (below_step (by exact eS HB.out) hb); clear HB; have HB := n0_; clear n0_; (try clear hb); (try clear hb2); (try clear hk); (try clear hi)))
   go_ret
   exact ⟨by first | rfl | (simp [errW_none, errW_some] <;> rfl) | (simp [*, errW_none, errW_some] <;> rfl), by exact eS HB.out⟩
 ·rw [if_neg c4] at H
  have c4b0 : decide (t101 < 0) = false := decide_eq_false c4
  clear c4
  replace H := Option.bind_eq_some_iff.mp H
  obtain ⟨t102, A60, H⟩ := H
  replace H : ((spec_AtStage.f k t102 a1).bind fun bt105 => ((laws_toCarpetOrderS.f k l0).bind fun t109 => ((impl_AtStage.f k t109 a1).bind fun bt112 => ((laws_eqIntS.f k bt112.1 bt105.1).bind fun t116 => (if t116 = true then (laws_FnExactAtStage.j0 k l0 a1 bt105.1 bt105.2 t109 bt112.1 bt112.2 (bt112.2 != bt105.2)) else (laws_FnExactAtStage.j0 k l0 a1 bt105.1 bt105.2 t109 bt112.1 bt112.2 true)))))) = some r := H
  have A6 := Aside0.mk A60
  clear A60
  replace H := Option.bind_eq_some_iff.mp H
  obtain ⟨⟨t105, t106⟩, A70, H⟩ := H
  replace H : ((laws_toCarpetOrderS.f k l0).bind fun t109 => ((impl_AtStage.f k t109 a1).bind fun bt112 => ((laws_eqIntS.f k bt112.1 t105).bind fun t116 => (if t116 = true then (laws_FnExactAtStage.j0 k l0 a1 t105 t106 t109 bt112.1 bt112.2 (bt112.2 != t106)) else (laws_FnExactAtStage.j0 k l0 a1 t105 t106 t109 bt112.1 bt112.2 true))))) = some r := H
  have A7 := Aside0.mk A70
  clear A70
  replace H := Option.bind_eq_some_iff.mp H
  obtain ⟨t109, A80, H⟩ := H
  replace H : ((impl_AtStage.f k t109 a1).bind fun bt112 => ((laws_eqIntS.f k bt112.1 t105).bind fun t116 => (if t116 = true then (laws_FnExactAtStage.j0 k l0 a1 t105 t106 t109 bt112.1 bt112.2 (bt112.2 != t106)) else (laws_FnExactAtStage.j0 k l0 a1 t105 t106 t109 bt112.1 bt112.2 true)))) = some r := H
  have A8 := Aside0.mk A80
  clear A80
  replace H := Option.bind_eq_some_iff.mp H
  obtain ⟨⟨t112, t113⟩, A90, H⟩ := H
  replace H : ((laws_eqIntS.f k t112 t105).bind fun t116 => (if t116 = true then (laws_FnExactAtStage.j0 k l0 a1 t105 t106 t109 t112 t113 (t113 != t106)) else (laws_FnExactAtStage.j0 k l0 a1 t105 t106 t109 t112 t113 true))) = some r := H
  have A9 := Aside0.mk A90
  clear A90
  have HC10 := Aside0.mk H
  clear H
  go_enter Tryd.func12, Tryd.ntmps12
  go_upto_region 8 with (first | ((with_reducible refine gate_callee (f := 14) rfl ?_); refine goesL_ (some 18) rfl rfl Tryd.func14 (by kernel_rfl) rfl #[.slice A0 l0.length c0, .int .i64 1048576] rfl (by (try simp only [List.map_toArray, List.map_cons, List.map_nil]); first | done | rfl | (simp only [List.length_drop, List.length_take]; rfl)) ?_; (with_reducible refine (laws_szCarpetOrderS.calls k _ _ l0 1048576 t101 _ ?side1 ?side2 A3.out).mono ?_); (case side1 => repeat (first | exact HR0.out | (with_reducible refine Kd.C_alloc ?_ _) | (with_reducible refine Kd.C_drewN ?_ _) | (with_reducible refine Kd.C_drew ?_))); (case side2 => exact HC0.out); rintro e w11 ⟨rfl, hb⟩; refine ⟨_, rfl, ?_⟩; have n0_ := Aside0.mk (below_step (by exact eS HB.out) hb); clear HB; have HB := n0_; clear n0_; (try clear hb); (try clear hb2); (try clear hk); (try clear hi)) | ((with_reducible refine gate_callee (f := 16) rfl ?_); refine goesL_ (some 23) rfl rfl Tryd.func16 (by kernel_rfl) rfl #[.slice A0 l0.length c0] rfl (by (try simp only [List.map_toArray, List.map_cons, List.map_nil]); first | done | rfl | (simp only [List.length_drop, List.length_take]; rfl)) ?_; (with_reducible refine (laws_toCarpetOrderS.calls k _ _ l0 t102 _ ?side1 ?side2 A6.out).mono ?_); (case side1 => repeat (first | exact (Kd.C_below HR0.out HB.out) | (with_reducible refine Kd.C_alloc ?_ _) | (with_reducible refine Kd.C_drewN ?_ _) | (with_reducible refine Kd.C_drew ?_))); (case side2 => exact HC0.out); rintro e w12 ⟨v103, rfl, ho0, hb⟩; refine ⟨_, rfl, ?_⟩; have n0_ := Aside0.mk (Kd.R_lower ho0 (below_size (by exact eS HB.out))); have n1_ := Aside0.mk (below_step (by exact eS HB.out) hb); clear HB; have HO104 := n0_; have HB := n1_; clear n0_ n1_; (try clear hb); (try clear hb2); (try clear hk); (try clear hi); (try clear ho0); obtain ⟨Ao13, co13, eo13⟩ := Kd.R_slice HO104.out; subst eo13) | ((with_reducible refine gate_callee (f := 45) rfl ?_); refine goesL_ (some 25) rfl rfl Tryd.func45 (by kernel_rfl) rfl #[.slice Ao13 t102.length co13, .int .i64 a1] rfl (by (try simp only [List.map_toArray, List.map_cons, List.map_nil]); first | done | rfl | (simp only [List.length_drop, List.length_take]; rfl)) ?_; (with_reducible refine (spec_AtStage.calls k _ _ t102 a1 t105 t106 _ ?side1 ?side2 A7.out).mono ?_); (case side1 => repeat (first | exact (Kd.R_reads' HO104.out).2.2 | (with_reducible refine Kd.C_alloc ?_ _) | (with_reducible refine Kd.C_drewN ?_ _) | (with_reducible refine Kd.C_drew ?_))); (case side2 => exact (Kd.R_reads' HO104.out).2.1); rintro e w14 ⟨v107, rfl, ho0, hb⟩; refine ⟨_, rfl, ?_⟩; have n0_ := Aside0.mk (Kd.R_below (by exact Ho.RS <| HO104.out) hb); have n1_ := Aside0.mk (Kd.R_lower ho0 (below_size (by exact eS HB.out))); have n2_ := Aside0.mk (below_step (by exact eS HB.out) hb); clear HO104; clear HB; have HO104 := n0_; have HO108 := n1_; have HB := n2_; clear n0_ n1_ n2_; (try clear hb); (try clear hb2); (try clear hk); (try clear hi); (try clear ho0)) | ((with_reducible refine gate_callee (f := 16) rfl ?_); refine goesL_ (some 29) rfl rfl Tryd.func16 (by kernel_rfl) rfl #[.slice A0 l0.length c0] rfl (by (try simp only [List.map_toArray, List.map_cons, List.map_nil]); first | done | rfl | (simp only [List.length_drop, List.length_take]; rfl)) ?_; (with_reducible refine (laws_toCarpetOrderS.calls k _ _ l0 t109 _ ?side1 ?side2 A8.out).mono ?_); (case side1 => repeat (first | exact (Kd.C_below HR0.out HB.out) | (with_reducible refine Kd.C_alloc ?_ _) | (with_reducible refine Kd.C_drewN ?_ _) | (with_reducible refine Kd.C_drew ?_))); (case side2 => exact HC0.out); rintro e w15 ⟨v110, rfl, ho0, hb⟩; refine ⟨_, rfl, ?_⟩; have n0_ := Aside0.mk (Kd.R_elder' (by exact Ho.RS <| HO104.out) (Kd.R_base ho0) hb); have n1_ := Aside0.mk (Kd.R_below (by exact Ho.RS <| HO108.out) hb); have n2_ := Aside0.mk (Kd.R_lower (Kd.R_new' ho0 (Kd.R_lt (by exact Ho.RS <| HO104.out))) (below_size (by exact eS HB.out))); have n3_ := Aside0.mk (below_step (by exact eS HB.out) hb); clear HO104; clear HO108; clear HB; have HO104 := n0_; have HO108 := n1_; have HO111 := n2_; have HB := n3_; clear n0_ n1_ n2_ n3_; (try clear hb); (try clear hb2); (try clear hk); (try clear hi); (try clear ho0); obtain ⟨Ao16, co16, eo16⟩ := Kd.R_slice HO111.out; subst eo16) | ((with_reducible refine gate_callee (f := 46) rfl ?_); refine goesL_ (some 33) rfl rfl Tryd.func46 (by kernel_rfl) rfl #[.slice Ao16 t109.length co16, .int .i64 a1] rfl (by (try simp only [List.map_toArray, List.map_cons, List.map_nil]); first | done | rfl | (simp only [List.length_drop, List.length_take]; rfl)) ?_; (with_reducible refine (impl_AtStage.calls k _ _ t109 a1 t112 t113 _ ?side1 ?side2 A9.out).mono ?_); (case side1 => repeat (first | exact (Kd.R_reads' HO111.out).2.2 | (with_reducible refine Kd.C_alloc ?_ _) | (with_reducible refine Kd.C_drewN ?_ _) | (with_reducible refine Kd.C_drew ?_))); (case side2 => exact (Kd.R_reads' HO111.out).2.1); rintro e w17 ⟨v114, rfl, ho0, hb⟩; refine ⟨_, rfl, ?_⟩; have n0_ := Aside0.mk (Kd.R_below (by exact Ho.RS <| HO104.out) hb); have n1_ := Aside0.mk (Kd.R_elder' (by exact Ho.RS <| HO108.out) (Kd.R_base ho0) hb); have n2_ := Aside0.mk (Kd.R_below (by exact Ho.RS <| HO111.out) hb); have n3_ := Aside0.mk (Kd.R_lower (Kd.R_new' ho0 (Kd.R_lt (by exact Ho.RS <| HO108.out))) (below_size (by exact eS HB.out))); have n4_ := Aside0.mk (below_step (by exact eS HB.out) hb); clear HO104; clear HO108; clear HO111; clear HB; have HO104 := n0_; have HO108 := n1_; have HO111 := n2_; have HO115 := n3_; have HB := n4_; clear n0_ n1_ n2_ n3_ n4_; (try clear hb); (try clear hb2); (try clear hk); (try clear hi); (try clear ho0)))
  (try simp only [Act.put, List.setIfInBounds_toArray, List.set_cons_zero, List.set_cons_succ])
  go_cut [44] (fun v44 wc => ∃ (kq : Nat) (x44_9 : Bool), v44 = .bool x44_9 ∧ Aside0 (laws_FnExactAtStage.j0 kq l0 a1 t105 t106 t109 t112 t113 x44_9 = some r) ∧ Aside0 (kq ≤ k) ∧ Aside0 (Kd.R (Kd.int .i64) 3 wc w.heap.size (fun k_ => some k_ ≠ (v114 : Value).ownBlock) v107 t105) ∧ Aside0 (Kd.R k41 41 wc w.heap.size (fun _ => True) (.slice Ao16 t109.length co16) t109) ∧ Aside0 (Kd.R (Kd.int .i64) 3 wc w.heap.size (fun k_ => some k_ ≠ (v107 : Value).ownBlock) v114 t112) ∧ Aside0 (Below w.heap.size w wc))
  case first =>
   have H := HC10.out
   clear HC10
   replace H := Option.bind_eq_some_iff.mp H
   obtain ⟨t116, A180, H⟩ := H
   replace H : (if t116 = true then (laws_FnExactAtStage.j0 k l0 a1 t105 t106 t109 t112 t113 (t113 != t106)) else (laws_FnExactAtStage.j0 k l0 a1 t105 t106 t109 t112 t113 true)) = some r := H
   have A18 := Aside0.mk A180
   clear A180
   by_cases c19 : t116 = true
   ·subst c19
    have H1 : (laws_FnExactAtStage.j0 k l0 a1 t105 t106 t109 t112 t113 (t113 != t106)) = some r := by rw [if_pos rfl] at H; exact H
    clear H
    have H := H1
    clear H1
    as_aux_lemma =>
     have H' := Aside0.mk H
     clear H
     obtain ⟨Ao20, co20, eo20⟩ := Kd.R_slice HO115.out
     subst eo20
     obtain ⟨Ao21, co21, eo21⟩ := Kd.R_slice HO108.out
     subst eo21
     go_wp2_with (first | ((with_reducible refine gate_callee (f := 19) rfl ?_); refine goesL_ (some 38) rfl rfl Tryd.func19 (by kernel_rfl) rfl #[.slice Ao20 t112.length co20, .slice Ao21 t105.length co21] rfl (by (try simp only [List.map_toArray, List.map_cons, List.map_nil]); first | done | rfl | (simp only [List.length_drop, List.length_take]; rfl)) ?_; (with_reducible refine (laws_eqIntS.calls k _ _ t112 _ _ t105 true _ ?side1 ?side2 ?side3 ?side4 A18.out).mono ?_); (case side1 => repeat (first | exact (Kd.R_reads' HO115.out).2.2 | (with_reducible refine Kd.C_alloc ?_ _) | (with_reducible refine Kd.C_drewN ?_ _) | (with_reducible refine Kd.C_drew ?_))); (case side2 => exact (Kd.R_reads' HO115.out).2.1); (case side3 => repeat (first | exact (Kd.R_reads' HO108.out).2.2 | (with_reducible refine Kd.C_alloc ?_ _) | (with_reducible refine Kd.C_drewN ?_ _) | (with_reducible refine Kd.C_drew ?_))); (case side4 => exact (Kd.R_reads' HO108.out).2.1); rintro e w' ⟨rfl, ⟨nd, rfl⟩⟩; refine ⟨_, rfl, ?_⟩))
     go_meet
     case rel => exact ⟨_, ((t113 != t106)), (by first | rfl | (simp; done) | (simp [*]; done)), H', ⟨by first | omega | exact Nat.le_refl _⟩, ⟨by exact Ho.RS <| Kd.R_mono HO108.out (fun _ hk => hk.2)⟩, ⟨by exact Ho.RS <| Kd.R_mono HO111.out (fun _ hk => trivial)⟩, ⟨by exact Ho.RS <| Kd.R_mono HO115.out (fun _ hk => hk.2)⟩, ⟨by exact eS HB.out⟩⟩
   ·replace c19 := Bool.eq_false_iff.mpr c19
    subst c19
    have H1 : (laws_FnExactAtStage.j0 k l0 a1 t105 t106 t109 t112 t113 true) = some r := by rw [if_neg (show ¬ (false = true) by decide)] at H; exact H
    clear H
    have H := H1
    clear H1
    as_aux_lemma =>
     have H' := Aside0.mk H
     clear H
     obtain ⟨Ao22, co22, eo22⟩ := Kd.R_slice HO115.out
     subst eo22
     obtain ⟨Ao23, co23, eo23⟩ := Kd.R_slice HO108.out
     subst eo23
     go_wp2_with (first | ((with_reducible refine gate_callee (f := 19) rfl ?_); refine goesL_ (some 38) rfl rfl Tryd.func19 (by kernel_rfl) rfl #[.slice Ao22 t112.length co22, .slice Ao23 t105.length co23] rfl (by (try simp only [List.map_toArray, List.map_cons, List.map_nil]); first | done | rfl | (simp only [List.length_drop, List.length_take]; rfl)) ?_; (with_reducible refine (laws_eqIntS.calls k _ _ t112 _ _ t105 false _ ?side1 ?side2 ?side3 ?side4 A18.out).mono ?_); (case side1 => repeat (first | exact (Kd.R_reads' HO115.out).2.2 | (with_reducible refine Kd.C_alloc ?_ _) | (with_reducible refine Kd.C_drewN ?_ _) | (with_reducible refine Kd.C_drew ?_))); (case side2 => exact (Kd.R_reads' HO115.out).2.1); (case side3 => repeat (first | exact (Kd.R_reads' HO108.out).2.2 | (with_reducible refine Kd.C_alloc ?_ _) | (with_reducible refine Kd.C_drewN ?_ _) | (with_reducible refine Kd.C_drew ?_))); (case side4 => exact (Kd.R_reads' HO108.out).2.1); rintro e w' ⟨rfl, ⟨nd, rfl⟩⟩; refine ⟨_, rfl, ?_⟩))
     go_meet
     case rel => exact ⟨_, (true), (by first | rfl | (simp; done) | (simp [*]; done)), H', ⟨by first | omega | exact Nat.le_refl _⟩, ⟨by exact Ho.RS <| Kd.R_mono HO108.out (fun _ hk => hk.2)⟩, ⟨by exact Ho.RS <| Kd.R_mono HO111.out (fun _ hk => trivial)⟩, ⟨by exact Ho.RS <| Kd.R_mono HO115.out (fun _ hk => hk.2)⟩, ⟨by exact eS HB.out⟩⟩
  case rest =>
   clear HC10
   try clear c1
   try clear p2
   try clear c4
   try clear c4b0
   try clear c12
   try clear c14
   try clear c16
   try clear c19
   obtain ⟨kq, x44_9, rfl, HA, HJ9, HO_6, HO_8, HO_9, HB⟩ := hcut
   cases kq with
   | zero => exact absurd HA.out (by simp [laws_FnExactAtStage.j0])
   | succ kj9 =>
    have H := HA.out
    clear HA
    simp only [laws_FnExactAtStage.j0] at H
    by_cases c24 : x44_9 = true
    ·subst c24
     have H1 : (some false) = some r := by rw [if_pos rfl] at H; exact H
     clear H
     have H := H1
     clear H1
     as_aux_lemma =>
      exact absurd ((Option.some.inj H).trans HT.out) (by decide)
    ·replace c24 := Bool.eq_false_iff.mpr c24
     subst c24
     have H1 : ((laws_toCarpetOrderS.f kj9 l0).bind fun t117 => ((laws_eqCarpetOrderS.f kj9 t109 t117).bind fun t120 => (if t120 = true then ((laws_markCarpetOrderS.f kj9 t109 1).bind fun bt121 => (if bt121.1 < 0 then (laws_FnExactAtStage.j1 kj9 l0 a1 t105 t106 t112 true) else ((laws_eqIntS.f kj9 t112 t105).bind fun t123 => (if t123 = true then (laws_FnExactAtStage.j1 kj9 l0 a1 t105 t106 t112 (t113 != t106)) else (laws_FnExactAtStage.j1 kj9 l0 a1 t105 t106 t112 true))))) else (some false)))) = some r := by rw [if_neg (show ¬ (false = true) by decide)] at H; exact H
     clear H
     have H := H1
     clear H1
     replace H := Option.bind_eq_some_iff.mp H
     obtain ⟨t117, A250, H⟩ := H
     replace H : ((laws_eqCarpetOrderS.f kj9 t109 t117).bind fun t120 => (if t120 = true then ((laws_markCarpetOrderS.f kj9 t109 1).bind fun bt121 => (if bt121.1 < 0 then (laws_FnExactAtStage.j1 kj9 l0 a1 t105 t106 t112 true) else ((laws_eqIntS.f kj9 t112 t105).bind fun t123 => (if t123 = true then (laws_FnExactAtStage.j1 kj9 l0 a1 t105 t106 t112 (t113 != t106)) else (laws_FnExactAtStage.j1 kj9 l0 a1 t105 t106 t112 true))))) else (some false))) = some r := H
     have A25 := Aside0.mk A250
     clear A250
     replace H := Option.bind_eq_some_iff.mp H
     obtain ⟨t120, A260, H⟩ := H
     replace H : (if t120 = true then ((laws_markCarpetOrderS.f kj9 t109 1).bind fun bt121 => (if bt121.1 < 0 then (laws_FnExactAtStage.j1 kj9 l0 a1 t105 t106 t112 true) else ((laws_eqIntS.f kj9 t112 t105).bind fun t123 => (if t123 = true then (laws_FnExactAtStage.j1 kj9 l0 a1 t105 t106 t112 (t113 != t106)) else (laws_FnExactAtStage.j1 kj9 l0 a1 t105 t106 t112 true))))) else (some false)) = some r := H
     have A26 := Aside0.mk A260
     clear A260
     by_cases c27 : t120 = true
     ·subst c27
      have H1 : ((laws_markCarpetOrderS.f kj9 t109 1).bind fun bt121 => (if bt121.1 < 0 then (laws_FnExactAtStage.j1 kj9 l0 a1 t105 t106 t112 true) else ((laws_eqIntS.f kj9 t112 t105).bind fun t123 => (if t123 = true then (laws_FnExactAtStage.j1 kj9 l0 a1 t105 t106 t112 (t113 != t106)) else (laws_FnExactAtStage.j1 kj9 l0 a1 t105 t106 t112 true))))) = some r := by rw [if_pos rfl] at H; exact H
      clear H
      have H := H1
      clear H1
      replace H := Option.bind_eq_some_iff.mp H
      obtain ⟨⟨t121, t122⟩, A280, H⟩ := H
      replace H : (if t121 < 0 then (laws_FnExactAtStage.j1 kj9 l0 a1 t105 t106 t112 true) else ((laws_eqIntS.f kj9 t112 t105).bind fun t123 => (if t123 = true then (laws_FnExactAtStage.j1 kj9 l0 a1 t105 t106 t112 (t113 != t106)) else (laws_FnExactAtStage.j1 kj9 l0 a1 t105 t106 t112 true)))) = some r := H
      have A28 := Aside0.mk A280
      clear A280
      have HC29 := Aside0.mk H
      clear H
      go_upto_region 14 with (first | ((with_reducible refine gate_callee (f := 16) rfl ?_); refine goesL_ (some 47) rfl rfl Tryd.func16 (by kernel_rfl) rfl #[.slice A0 l0.length c0] rfl (by (try simp only [List.map_toArray, List.map_cons, List.map_nil]); first | done | rfl | (simp only [List.length_drop, List.length_take]; rfl)) ?_; (with_reducible refine (laws_toCarpetOrderS.calls kj9 _ _ l0 t117 _ ?side1 ?side2 A25.out).mono ?_); (case side1 => repeat (first | exact (Kd.C_below HR0.out HB.out) | (with_reducible refine Kd.C_alloc ?_ _) | (with_reducible refine Kd.C_drewN ?_ _) | (with_reducible refine Kd.C_drew ?_))); (case side2 => exact HC0.out); rintro e w30 ⟨v118, rfl, ho0, hb⟩; refine ⟨_, rfl, ?_⟩; have n0_ := Aside0.mk (Kd.R_below (by exact Ho.RS <| HO_6.out) hb); have n1_ := Aside0.mk (Kd.R_elder' (by exact Ho.RS <| HO_8.out) (Kd.R_base ho0) hb); have n2_ := Aside0.mk (Kd.R_below (by exact Ho.RS <| HO_9.out) hb); have n3_ := Aside0.mk (Kd.R_lower (Kd.R_new' ho0 (Kd.R_lt (by exact Ho.RS <| HO_8.out))) (below_size (by exact eS HB.out))); have n4_ := Aside0.mk (below_step (by exact eS HB.out) hb); clear HO_6; clear HO_8; clear HO_9; clear HB; have HO_6 := n0_; have HO_8 := n1_; have HO_9 := n2_; have HO119 := n3_; have HB := n4_; clear n0_ n1_ n2_ n3_ n4_; (try clear hb); (try clear hb2); (try clear hk); (try clear hi); (try clear ho0); obtain ⟨Ao31, co31, eo31⟩ := Kd.R_slice HO119.out; subst eo31) | ((with_reducible refine gate_callee (f := 20) rfl ?_); refine goesL_ (some 48) rfl rfl Tryd.func20 (by kernel_rfl) rfl #[.slice Ao16 t109.length co16, .slice Ao31 t117.length co31] rfl (by (try simp only [List.map_toArray, List.map_cons, List.map_nil]); first | done | rfl | (simp only [List.length_drop, List.length_take]; rfl)) ?_; (with_reducible refine (laws_eqCarpetOrderS.calls kj9 _ _ t109 _ _ t117 true _ ?side1 ?side2 ?side3 ?side4 A26.out).mono ?_); (case side1 => repeat (first | exact (Kd.R_reads' HO_8.out).2.2 | (with_reducible refine Kd.C_alloc ?_ _) | (with_reducible refine Kd.C_drewN ?_ _) | (with_reducible refine Kd.C_drew ?_))); (case side2 => exact (Kd.R_reads' HO_8.out).2.1); (case side3 => repeat (first | exact (Kd.R_reads' HO119.out).2.2 | (with_reducible refine Kd.C_alloc ?_ _) | (with_reducible refine Kd.C_drewN ?_ _) | (with_reducible refine Kd.C_drew ?_))); (case side4 => exact (Kd.R_reads' HO119.out).2.1); rintro e w32 ⟨rfl, hb⟩; refine ⟨_, rfl, ?_⟩; have n0_ := Aside0.mk (Kd.R_below (by exact Ho.RS <| HO_6.out) hb); have n1_ := Aside0.mk (Kd.R_below (by exact Ho.RS <| HO_8.out) hb); have n2_ := Aside0.mk (Kd.R_below (by exact Ho.RS <| HO_9.out) hb); have n3_ := Aside0.mk (Kd.R_below (by exact Ho.RS <| HO119.out) hb); have n4_ := Aside0.mk (below_step (by exact eS HB.out) hb); clear HO_6; clear HO_8; clear HO_9; clear HO119; clear HB; have HO_6 := n0_; have HO_8 := n1_; have HO_9 := n2_; have HO119 := n3_; have HB := n4_; clear n0_ n1_ n2_ n3_ n4_; (try clear hb); (try clear hb2); (try clear hk); (try clear hi)) | ((with_reducible refine gate_callee (f := 21) rfl ?_); refine goesL_ (some 52) rfl rfl Tryd.func21 (by kernel_rfl) rfl #[.slice Ao16 t109.length co16, .int .i64 1] rfl (by (try simp only [List.map_toArray, List.map_cons, List.map_nil]); first | done | rfl | (simp only [List.length_drop, List.length_take]; rfl)) ?_; (with_reducible refine (laws_markCarpetOrderS.calls kj9 (fun k_ => some k_ = (.slice Ao16 t109.length co16 : Value).ownBlock) (.slice Ao16 t109.length co16) t109 1 t121 t122 w _ ?side1 ?side2 A28.out).mono ?_); (case side1 => exact eS HB.out); (case side2 => exact Kd.R_tight rfl HO_8.out); rintro e w33 ⟨rfl, hy0, hb, hkp⟩; refine ⟨_, rfl, ?_⟩; have n0_ := Aside0.mk (Kd.R_mono (ok' := fun k_ => some k_ ≠ (v114 : Value).ownBlock) (Kd.R_keptB ((Kd.R_apart' HO_6.out (Kd.R_typed HO_8.out) (by decide))) hkp (fun k_ hk_ hs_ => (hk_.2) hs_)) (fun k_ hk_ => hk_.1.1)); have n1_ := Aside0.mk (Kd.R_reok rfl hy0 (fun k_ e_ => HO_8.out.1 k_ e_)); have n2_ := Aside0.mk (Kd.R_mono (ok' := fun k_ => some k_ ≠ (v107 : Value).ownBlock) (Kd.R_keptB ((Kd.R_apart' HO_9.out (Kd.R_typed HO_8.out) (by decide))) hkp (fun k_ hk_ hs_ => (hk_.2) hs_)) (fun k_ hk_ => hk_.1.1)); have n3_ := Aside0.mk (Kd.R_mono (ok' := fun k_ => some k_ ≠ (.slice Ao16 t109.length co16 : Value).ownBlock) (Kd.R_keptB (HO119.out) hkp (fun k_ hk_ hs_ => (hk_.2) hs_)) (fun k_ hk_ => hk_.1.2)); have n4_ := Aside0.mk (hb); clear HO_6; clear HO_8; clear HO_9; clear HO119; clear HB; have HO_6 := n0_; have HO_8 := n1_; have HO_9 := n2_; have HO119 := n3_; have HB := n4_; clear n0_ n1_ n2_ n3_ n4_; (try clear hb); (try clear hkp); (try clear hy0)))
      (try simp only [Act.put, List.setIfInBounds_toArray, List.set_cons_zero, List.set_cons_succ])
      go_cut [65] (fun v65 wc => ∃ (kq : Nat) (x65_28 : Bool), v65 = .bool x65_28 ∧ Aside0 (laws_FnExactAtStage.j1 kq l0 a1 t105 t106 t112 x65_28 = some r) ∧ Aside0 (kq ≤ kj9) ∧ Aside0 (Kd.R (Kd.int .i64) 3 wc w.heap.size (fun k_ => some k_ ≠ (v114 : Value).ownBlock) v107 t105) ∧ Aside0 (Kd.R (Kd.int .i64) 3 wc w.heap.size (fun k_ => some k_ ≠ (v107 : Value).ownBlock) v114 t112) ∧ Aside0 (Below w.heap.size w wc))
      case first =>
       have H := HC29.out
       clear HC29
       by_cases c34 : t121 < 0
       ·rw [if_pos c34] at H
        have c34b0 : decide (t121 < 0) = true := decide_eq_true c34
        clear c34
        (first | rw [c34b0] | (simp only [i64_w, i32_w]; rw [c34b0]) | skip)
        as_aux_lemma =>
         have H' := Aside0.mk H
         clear H
         go_wp2
         go_meet
         case rel => exact ⟨_, (true), (by first | rfl | (simp; done) | (simp [*]; done)), H', ⟨by have := HJ9.out; first | omega | exact Nat.le_refl _⟩, ⟨by exact Ho.RS <| HO_6.out⟩, ⟨by exact Ho.RS <| HO_9.out⟩, ⟨by exact eS HB.out⟩⟩
       ·rw [if_neg c34] at H
        have c34b0 : decide (t121 < 0) = false := decide_eq_false c34
        clear c34
        (first | rw [c34b0] | (simp only [i64_w, i32_w]; rw [c34b0]) | skip)
        replace H := Option.bind_eq_some_iff.mp H
        obtain ⟨t123, A350, H⟩ := H
        replace H : (if t123 = true then (laws_FnExactAtStage.j1 kj9 l0 a1 t105 t106 t112 (t113 != t106)) else (laws_FnExactAtStage.j1 kj9 l0 a1 t105 t106 t112 true)) = some r := H
        have A35 := Aside0.mk A350
        clear A350
        by_cases c36 : t123 = true
        ·subst c36
         have H1 : (laws_FnExactAtStage.j1 kj9 l0 a1 t105 t106 t112 (t113 != t106)) = some r := by rw [if_pos rfl] at H; exact H
         clear H
         have H := H1
         clear H1
         as_aux_lemma =>
          have H' := Aside0.mk H
          clear H
          obtain ⟨Ao37, co37, eo37⟩ := Kd.R_slice HO_9.out
          subst eo37
          obtain ⟨Ao38, co38, eo38⟩ := Kd.R_slice HO_6.out
          subst eo38
          go_wp2_with (first | (go_at_call 19; (with_reducible refine (laws_eqIntS.calls kj9 _ _ t112 _ _ t105 true _ ?side1 ?side2 ?side3 ?side4 A35.out).mono ?_); (case side1 => repeat (first | exact (Kd.R_reads' HO_9.out).2.2 | (with_reducible refine Kd.C_alloc ?_ _) | (with_reducible refine Kd.C_drewN ?_ _) | (with_reducible refine Kd.C_drew ?_))); (case side2 => exact (Kd.R_reads' HO_9.out).2.1); (case side3 => repeat (first | exact (Kd.R_reads' HO_6.out).2.2 | (with_reducible refine Kd.C_alloc ?_ _) | (with_reducible refine Kd.C_drewN ?_ _) | (with_reducible refine Kd.C_drew ?_))); (case side4 => exact (Kd.R_reads' HO_6.out).2.1); rintro e w' ⟨rfl, ⟨nd, rfl⟩⟩))
          go_meet
          case rel => exact ⟨_, ((t113 != t106)), (by first | rfl | (simp; done) | (simp [*]; done)), H', ⟨by have := HJ9.out; first | omega | exact Nat.le_refl _⟩, ⟨by exact Ho.RS <| HO_6.out⟩, ⟨by exact Ho.RS <| HO_9.out⟩, ⟨by exact eS HB.out⟩⟩
        ·replace c36 := Bool.eq_false_iff.mpr c36
         subst c36
         have H1 : (laws_FnExactAtStage.j1 kj9 l0 a1 t105 t106 t112 true) = some r := by rw [if_neg (show ¬ (false = true) by decide)] at H; exact H
         clear H
         have H := H1
         clear H1
         as_aux_lemma =>
          have H' := Aside0.mk H
          clear H
          obtain ⟨Ao39, co39, eo39⟩ := Kd.R_slice HO_9.out
          subst eo39
          obtain ⟨Ao40, co40, eo40⟩ := Kd.R_slice HO_6.out
          subst eo40
          go_wp2_with (first | (go_at_call 19; (with_reducible refine (laws_eqIntS.calls kj9 _ _ t112 _ _ t105 false _ ?side1 ?side2 ?side3 ?side4 A35.out).mono ?_); (case side1 => repeat (first | exact (Kd.R_reads' HO_9.out).2.2 | (with_reducible refine Kd.C_alloc ?_ _) | (with_reducible refine Kd.C_drewN ?_ _) | (with_reducible refine Kd.C_drew ?_))); (case side2 => exact (Kd.R_reads' HO_9.out).2.1); (case side3 => repeat (first | exact (Kd.R_reads' HO_6.out).2.2 | (with_reducible refine Kd.C_alloc ?_ _) | (with_reducible refine Kd.C_drewN ?_ _) | (with_reducible refine Kd.C_drew ?_))); (case side4 => exact (Kd.R_reads' HO_6.out).2.1); rintro e w' ⟨rfl, ⟨nd, rfl⟩⟩))
          go_meet
          case rel => exact ⟨_, (true), (by first | rfl | (simp; done) | (simp [*]; done)), H', ⟨by have := HJ9.out; first | omega | exact Nat.le_refl _⟩, ⟨by exact Ho.RS <| HO_6.out⟩, ⟨by exact Ho.RS <| HO_9.out⟩, ⟨by exact eS HB.out⟩⟩
      case rest =>
       clear HC29
       try clear c1
       try clear c2
       try clear p2
       try clear c3
       try clear c4
       try clear c4b0
       try clear c12
       try clear c14
       try clear c16
       try clear c19
       try clear c20
       try clear c21
       try clear c24
       try clear c27
       try clear c34
       try clear c34b0
       try clear c36
       try clear p2
       obtain ⟨kq, x65_28, rfl, HA, HJ28, HO_6, HO_9, HB⟩ := hcut
       cases kq with
       | zero => exact absurd HA.out (by simp [laws_FnExactAtStage.j1])
       | succ kj28 =>
        have H := HA.out
        clear HA
        simp only [laws_FnExactAtStage.j1] at H
        by_cases c41 : x65_28 = true
        ·subst c41
         have H1 : (some false) = some r := by rw [if_pos rfl] at H; exact H
         clear H
         have H := H1
         clear H1
         as_aux_lemma =>
          exact absurd ((Option.some.inj H).trans HT.out) (by decide)
        ·replace c41 := Bool.eq_false_iff.mpr c41
         subst c41
         have H1 : ((laws_markIntS.f kj28 t112 1).bind fun bt124 => ((laws_heldIntS.f kj28 bt124.2 1).bind fun t126 => (if t126 < 0 then (some false) else (if t126 = bt124.1 then ((laws_toCarpetOrderS.f kj28 l0).bind fun t127 => ((impl_AtStage.f kj28 t127 a1).bind fun bt130 => ((laws_eqIntS.f kj28 bt130.1 t105).bind fun t134 => (if t134 = true then (laws_FnExactAtStage.j2 kj28 bt124.2 bt124.1 (bt130.2 != t106)) else (laws_FnExactAtStage.j2 kj28 bt124.2 bt124.1 true))))) else (some false))))) = some r := by rw [if_neg (show ¬ (false = true) by decide)] at H; exact H
         clear H
         have H := H1
         clear H1
         replace H := Option.bind_eq_some_iff.mp H
         obtain ⟨⟨t124, t125⟩, A420, H⟩ := H
         replace H : ((laws_heldIntS.f kj28 t125 1).bind fun t126 => (if t126 < 0 then (some false) else (if t126 = t124 then ((laws_toCarpetOrderS.f kj28 l0).bind fun t127 => ((impl_AtStage.f kj28 t127 a1).bind fun bt130 => ((laws_eqIntS.f kj28 bt130.1 t105).bind fun t134 => (if t134 = true then (laws_FnExactAtStage.j2 kj28 t125 t124 (bt130.2 != t106)) else (laws_FnExactAtStage.j2 kj28 t125 t124 true))))) else (some false)))) = some r := H
         have A42 := Aside0.mk A420
         clear A420
         replace H := Option.bind_eq_some_iff.mp H
         obtain ⟨t126, A430, H⟩ := H
         replace H : (if t126 < 0 then (some false) else (if t126 = t124 then ((laws_toCarpetOrderS.f kj28 l0).bind fun t127 => ((impl_AtStage.f kj28 t127 a1).bind fun bt130 => ((laws_eqIntS.f kj28 bt130.1 t105).bind fun t134 => (if t134 = true then (laws_FnExactAtStage.j2 kj28 t125 t124 (bt130.2 != t106)) else (laws_FnExactAtStage.j2 kj28 t125 t124 true))))) else (some false))) = some r := H
         have A43 := Aside0.mk A430
         clear A430
         by_cases c44 : t126 < 0
         ·rw [if_pos c44] at H
          have c44b0 : decide (t126 < 0) = true := decide_eq_true c44
          clear c44
          as_aux_lemma =>
           exact absurd ((Option.some.inj H).trans HT.out) (by decide)
         ·rw [if_neg c44] at H
          have c44b0 : decide (t126 < 0) = false := decide_eq_false c44
          clear c44
          by_cases c45 : t126 = t124
          ·rw [if_pos c45] at H
           have c45b0 : (t126 == t124) = true := beq_iff_eq.mpr c45
           have c45b1 : (t126 != t124) = false := bne_eq_false_iff_eq.mpr c45
           clear c45
           replace H := Option.bind_eq_some_iff.mp H
           obtain ⟨t127, A460, H⟩ := H
           replace H : ((impl_AtStage.f kj28 t127 a1).bind fun bt130 => ((laws_eqIntS.f kj28 bt130.1 t105).bind fun t134 => (if t134 = true then (laws_FnExactAtStage.j2 kj28 t125 t124 (bt130.2 != t106)) else (laws_FnExactAtStage.j2 kj28 t125 t124 true)))) = some r := H
           have A46 := Aside0.mk A460
           clear A460
           replace H := Option.bind_eq_some_iff.mp H
           obtain ⟨⟨t130, t131⟩, A470, H⟩ := H
           replace H : ((laws_eqIntS.f kj28 t130 t105).bind fun t134 => (if t134 = true then (laws_FnExactAtStage.j2 kj28 t125 t124 (t131 != t106)) else (laws_FnExactAtStage.j2 kj28 t125 t124 true))) = some r := H
           have A47 := Aside0.mk A470
           clear A470
           have HC48 := Aside0.mk H
           clear H
           obtain ⟨Ao49, co49, eo49⟩ := Kd.R_slice HO_9.out
           subst eo49
           go_upto_region 25 with (first | ((with_reducible refine gate_callee (f := 23) rfl ?_); refine goesL_ (some 68) rfl rfl Tryd.func23 (by kernel_rfl) rfl #[.slice Ao49 t112.length co49, .int .i64 1] rfl (by (try simp only [List.map_toArray, List.map_cons, List.map_nil]); first | done | rfl | (simp only [List.length_drop, List.length_take]; rfl)) ?_; (with_reducible refine (laws_markIntS.calls kj28 (fun k_ => some k_ = (.slice Ao49 t112.length co49 : Value).ownBlock) (.slice Ao49 t112.length co49) t112 1 t124 t125 w _ ?side1 ?side2 A42.out).mono ?_); (case side1 => exact eS HB.out); (case side2 => exact Kd.R_tight rfl HO_9.out); rintro e w50 ⟨rfl, hy0, hb, hkp⟩; refine ⟨_, rfl, ?_⟩; have n0_ := Aside0.mk (Kd.R_mono (ok' := fun k_ => some k_ ≠ (.slice Ao49 t112.length co49 : Value).ownBlock) (Kd.R_keptB (HO_6.out) hkp (fun k_ hk_ hs_ => (hk_) hs_)) (fun k_ hk_ => hk_.1)); have n1_ := Aside0.mk (Kd.R_reok rfl hy0 (fun k_ e_ => HO_9.out.1 k_ e_)); have n2_ := Aside0.mk (hb); clear HO_6; clear HO_9; clear HB; have HO_6 := n0_; have HO_9 := n1_; have HB := n2_; clear n0_ n1_ n2_; (try clear hb); (try clear hkp); (try clear hy0)) | ((with_reducible refine gate_callee (f := 25) rfl ?_); refine goesL_ (some 71) rfl rfl Tryd.func25 (by kernel_rfl) rfl #[.slice Ao49 t125.length co49, .int .i64 1] rfl (by (try simp only [List.map_toArray, List.map_cons, List.map_nil]); first | done | (rw [show t125.length = t112.length from (Kd.R_reads' HO_9.out).1.symm] <;> rfl) | rfl | (simp only [List.length_drop, List.length_take]; rfl)) ?_; (with_reducible refine (laws_heldIntS.calls kj28 _ _ t125 1 t126 _ ?side1 ?side2 A43.out).mono ?_); (case side1 => repeat (first | exact (Kd.R_reads' HO_9.out).2.2 | (with_reducible refine Kd.C_alloc ?_ _) | (with_reducible refine Kd.C_drewN ?_ _) | (with_reducible refine Kd.C_drew ?_))); (case side2 => rw [show t125.length = t112.length from (Kd.R_reads' HO_9.out).1.symm]; exact (Kd.R_reads' HO_9.out).2.1); rintro e w' ⟨rfl, ⟨nd, rfl⟩⟩; refine ⟨_, rfl, ?_⟩) | ((with_reducible refine gate_callee (f := 16) rfl ?_); refine goesL_ (some 79) rfl rfl Tryd.func16 (by kernel_rfl) rfl #[.slice A0 l0.length c0] rfl (by (try simp only [List.map_toArray, List.map_cons, List.map_nil]); first | done | rfl | (simp only [List.length_drop, List.length_take]; rfl)) ?_; (with_reducible refine (laws_toCarpetOrderS.calls kj28 _ _ l0 t127 _ ?side1 ?side2 A46.out).mono ?_); (case side1 => repeat (first | exact (Kd.C_below HR0.out (by exact eS HB.out)) | (with_reducible refine Kd.C_alloc ?_ _) | (with_reducible refine Kd.C_drewN ?_ _) | (with_reducible refine Kd.C_drew ?_))); (case side2 => exact HC0.out); rintro e w51 ⟨v128, rfl, ho0, hb⟩; refine ⟨_, rfl, ?_⟩; have n0_ := Aside0.mk (Kd.R_below (by exact Ho.RS <| HO_6.out) hb); have n1_ := Aside0.mk (Kd.R_below (by exact Ho.RS <| HO_9.out) hb); have n2_ := Aside0.mk (Kd.R_lower ho0 (below_size (by exact eS HB.out))); have n3_ := Aside0.mk (below_step (by exact eS HB.out) hb); clear HO_6; clear HO_9; clear HB; have HO_6 := n0_; have HO_9 := n1_; have HO129 := n2_; have HB := n3_; clear n0_ n1_ n2_ n3_; (try clear hb); (try clear hb2); (try clear hk); (try clear hi); (try clear ho0); obtain ⟨Ao52, co52, eo52⟩ := Kd.R_slice HO129.out; subst eo52) | ((with_reducible refine gate_callee (f := 46) rfl ?_); refine goesL_ (some 81) rfl rfl Tryd.func46 (by kernel_rfl) rfl #[.slice Ao52 t127.length co52, .int .i64 a1] rfl (by (try simp only [List.map_toArray, List.map_cons, List.map_nil]); first | done | rfl | (simp only [List.length_drop, List.length_take]; rfl)) ?_; (with_reducible refine (impl_AtStage.calls kj28 _ _ t127 a1 t130 t131 _ ?side1 ?side2 A47.out).mono ?_); (case side1 => repeat (first | exact (Kd.R_reads' HO129.out).2.2 | (with_reducible refine Kd.C_alloc ?_ _) | (with_reducible refine Kd.C_drewN ?_ _) | (with_reducible refine Kd.C_drew ?_))); (case side2 => exact (Kd.R_reads' HO129.out).2.1); rintro e w53 ⟨v132, rfl, ho0, hb⟩; refine ⟨_, rfl, ?_⟩; have n0_ := Aside0.mk (Kd.R_elder' (by exact Ho.RS <| HO_6.out) (Kd.R_base ho0) hb); have n1_ := Aside0.mk (Kd.R_elder' (by exact Ho.RS <| HO_9.out) (Kd.R_base ho0) hb); have n2_ := Aside0.mk (Kd.R_below (by exact Ho.RS <| HO129.out) hb); have n3_ := Aside0.mk (Kd.R_lower (Kd.R_new' (Kd.R_new' ho0 (Kd.R_lt (by exact Ho.RS <| HO_6.out))) (Kd.R_lt (by exact Ho.RS <| HO_9.out))) (below_size (by exact eS HB.out))); have n4_ := Aside0.mk (below_step (by exact eS HB.out) hb); clear HO_6; clear HO_9; clear HO129; clear HB; have HO_6 := n0_; have HO_9 := n1_; have HO129 := n2_; have HO133 := n3_; have HB := n4_; clear n0_ n1_ n2_ n3_ n4_; (try clear hb); (try clear hb2); (try clear hk); (try clear hi); (try clear ho0)))
           (try simp only [Act.put, List.setIfInBounds_toArray, List.set_cons_zero, List.set_cons_succ])
           go_cut [92] (fun v92 wc => ∃ (kq : Nat) (x92_47 : Bool), v92 = .bool x92_47 ∧ Aside0 (laws_FnExactAtStage.j2 kq t125 t124 x92_47 = some r) ∧ Aside0 (kq ≤ kj28) ∧ Aside0 (Kd.R (Kd.int .i64) 3 wc w.heap.size (fun _ => True) (.slice Ao49 t112.length co49) t125) ∧ Aside0 (Below w.heap.size w wc))
           case first =>
            have H := HC48.out
            clear HC48
            replace H := Option.bind_eq_some_iff.mp H
            obtain ⟨t134, A540, H⟩ := H
            replace H : (if t134 = true then (laws_FnExactAtStage.j2 kj28 t125 t124 (t131 != t106)) else (laws_FnExactAtStage.j2 kj28 t125 t124 true)) = some r := H
            have A54 := Aside0.mk A540
            clear A540
            by_cases c55 : t134 = true
            ·subst c55
             have H1 : (laws_FnExactAtStage.j2 kj28 t125 t124 (t131 != t106)) = some r := by rw [if_pos rfl] at H; exact H
             clear H
             have H := H1
             clear H1
             as_aux_lemma =>
              have H' := Aside0.mk H
              clear H
              obtain ⟨Ao56, co56, eo56⟩ := Kd.R_slice HO133.out
              subst eo56
              obtain ⟨Ao57, co57, eo57⟩ := Kd.R_slice HO_6.out
              subst eo57
              go_wp2_with (first | ((with_reducible refine gate_callee (f := 19) rfl ?_); refine goesL_ (some 86) rfl rfl Tryd.func19 (by kernel_rfl) rfl #[.slice Ao56 t130.length co56, .slice Ao57 t105.length co57] rfl (by (try simp only [List.map_toArray, List.map_cons, List.map_nil]); first | done | rfl | (simp only [List.length_drop, List.length_take]; rfl)) ?_; (with_reducible refine (laws_eqIntS.calls kj28 _ _ t130 _ _ t105 true _ ?side1 ?side2 ?side3 ?side4 A54.out).mono ?_); (case side1 => repeat (first | exact (Kd.R_reads' HO133.out).2.2 | (with_reducible refine Kd.C_alloc ?_ _) | (with_reducible refine Kd.C_drewN ?_ _) | (with_reducible refine Kd.C_drew ?_))); (case side2 => exact (Kd.R_reads' HO133.out).2.1); (case side3 => repeat (first | exact (Kd.R_reads' HO_6.out).2.2 | (with_reducible refine Kd.C_alloc ?_ _) | (with_reducible refine Kd.C_drewN ?_ _) | (with_reducible refine Kd.C_drew ?_))); (case side4 => exact (Kd.R_reads' HO_6.out).2.1); rintro e w' ⟨rfl, ⟨nd, rfl⟩⟩; refine ⟨_, rfl, ?_⟩))
              go_meet
              case rel => exact ⟨_, ((t131 != t106)), (by first | rfl | (simp; done) | (simp [*]; done)), H', ⟨by have := HJ9.out; have := HJ28.out; first | omega | exact Nat.le_refl _⟩, ⟨by exact Ho.RS <| Kd.R_mono HO_9.out (fun _ hk => trivial)⟩, ⟨by exact eS HB.out⟩⟩
            ·replace c55 := Bool.eq_false_iff.mpr c55
             subst c55
             have H1 : (laws_FnExactAtStage.j2 kj28 t125 t124 true) = some r := by rw [if_neg (show ¬ (false = true) by decide)] at H; exact H
             clear H
             have H := H1
             clear H1
             as_aux_lemma =>
              have H' := Aside0.mk H
              clear H
              obtain ⟨Ao58, co58, eo58⟩ := Kd.R_slice HO133.out
              subst eo58
              obtain ⟨Ao59, co59, eo59⟩ := Kd.R_slice HO_6.out
              subst eo59
              go_wp2_with (first | ((with_reducible refine gate_callee (f := 19) rfl ?_); refine goesL_ (some 86) rfl rfl Tryd.func19 (by kernel_rfl) rfl #[.slice Ao58 t130.length co58, .slice Ao59 t105.length co59] rfl (by (try simp only [List.map_toArray, List.map_cons, List.map_nil]); first | done | rfl | (simp only [List.length_drop, List.length_take]; rfl)) ?_; (with_reducible refine (laws_eqIntS.calls kj28 _ _ t130 _ _ t105 false _ ?side1 ?side2 ?side3 ?side4 A54.out).mono ?_); (case side1 => repeat (first | exact (Kd.R_reads' HO133.out).2.2 | (with_reducible refine Kd.C_alloc ?_ _) | (with_reducible refine Kd.C_drewN ?_ _) | (with_reducible refine Kd.C_drew ?_))); (case side2 => exact (Kd.R_reads' HO133.out).2.1); (case side3 => repeat (first | exact (Kd.R_reads' HO_6.out).2.2 | (with_reducible refine Kd.C_alloc ?_ _) | (with_reducible refine Kd.C_drewN ?_ _) | (with_reducible refine Kd.C_drew ?_))); (case side4 => exact (Kd.R_reads' HO_6.out).2.1); rintro e w' ⟨rfl, ⟨nd, rfl⟩⟩; refine ⟨_, rfl, ?_⟩))
              go_meet
              case rel => exact ⟨_, (true), (by first | rfl | (simp; done) | (simp [*]; done)), H', ⟨by have := HJ9.out; have := HJ28.out; first | omega | exact Nat.le_refl _⟩, ⟨by exact Ho.RS <| Kd.R_mono HO_9.out (fun _ hk => trivial)⟩, ⟨by exact eS HB.out⟩⟩
           case rest =>
            clear HC48
            try clear c1
            try clear c2
            try clear p2
            try clear c3
            try clear c4
            try clear c4b0
            try clear c5
            try clear c12
            try clear c14
            try clear c16
            try clear c19
            try clear c20
            try clear c21
            try clear c23
            try clear c24
            try clear c25
            try clear c27
            try clear c34
            try clear c34b0
            try clear c36
            try clear c41
            try clear c44
            try clear c44b0
            try clear c45
            try clear c45b0
            try clear c45b1
            try clear c46
            try clear c55
            try clear p2
            obtain ⟨kq, x92_47, rfl, HA, HJ47, HO_9, HB⟩ := hcut
            have hl9_47 := (Kd.R_reads' HO_9.out).1
            rw [hl9_47] at HO_9
            (try simp only [hl9_47])
            cases kq with
            | zero => exact absurd HA.out (by simp [laws_FnExactAtStage.j2])
            | succ kj47 =>
             have H := HA.out
             clear HA
             simp only [laws_FnExactAtStage.j2] at H
             by_cases c60 : x92_47 = true
             ·subst c60
              have H1 : (some false) = some r := by rw [if_pos rfl] at H; exact H
              clear H
              have H := H1
              clear H1
              as_aux_lemma =>
               exact absurd ((Option.some.inj H).trans HT.out) (by decide)
             ·replace c60 := Bool.eq_false_iff.mpr c60
              subst c60
              have H1 : ((laws_heldIntS.f kj47 t125 1).bind fun t135 => (if t135 < 0 then (some false) else (if t135 = t124 then (some true) else (some false)))) = some r := by rw [if_neg (show ¬ (false = true) by decide)] at H; exact H
              clear H
              have H := H1
              clear H1
              replace H := Option.bind_eq_some_iff.mp H
              obtain ⟨t135, A610, H⟩ := H
              replace H : (if t135 < 0 then (some false) else (if t135 = t124 then (some true) else (some false))) = some r := H
              have A61 := Aside0.mk A610
              clear A610
              by_cases c62 : t135 < 0
              ·rw [if_pos c62] at H
               have c62b0 : decide (t135 < 0) = true := decide_eq_true c62
               clear c62
               as_aux_lemma =>
                exact absurd ((Option.some.inj H).trans HT.out) (by decide)
              ·rw [if_neg c62] at H
               have c62b0 : decide (t135 < 0) = false := decide_eq_false c62
               clear c62
               by_cases c63 : t135 = t124
               ·rw [if_pos c63] at H
                have c63b0 : (t135 == t124) = true := beq_iff_eq.mpr c63
                have c63b1 : (t135 != t124) = false := bne_eq_false_iff_eq.mpr c63
                clear c63
                as_aux_lemma =>
                 obtain rfl := Option.some.inj H
                 go_wp2_with (first | ((with_reducible refine gate_callee (f := 25) rfl ?_); refine goesL_ (some 95) rfl rfl Tryd.func25 (by kernel_rfl) rfl #[.slice Ao49 t125.length co49, .int .i64 1] rfl (by (try simp only [List.map_toArray, List.map_cons, List.map_nil]); first | done | rfl | (simp only [List.length_drop, List.length_take]; rfl)) ?_; (with_reducible refine (laws_heldIntS.calls kj47 _ _ t125 1 t135 _ ?side1 ?side2 A61.out).mono ?_); (case side1 => repeat (first | exact (Kd.R_reads' HO_9.out).2.2 | (with_reducible refine Kd.C_alloc ?_ _) | (with_reducible refine Kd.C_drewN ?_ _) | (with_reducible refine Kd.C_drew ?_))); (case side2 => exact (Kd.R_reads' HO_9.out).2.1); rintro e w' ⟨rfl, ⟨nd, rfl⟩⟩; refine ⟨_, rfl, ?_⟩))
                 go_ret
                 exact ⟨by first | rfl | (simp [errW_none, errW_some] <;> rfl) | (simp [*, errW_none, errW_some] <;> rfl), by exact eS HB.out⟩
               ·rw [if_neg c63] at H
                have c63b0 : (t135 == t124) = false := beq_eq_false_iff_ne.mpr c63
                have c63b1 : (t135 != t124) = true := bne_iff_ne.mpr c63
                as_aux_lemma =>
                 exact absurd ((Option.some.inj H).trans HT.out) (by decide)
          ·rw [if_neg c45] at H
           have c45b0 : (t126 == t124) = false := beq_eq_false_iff_ne.mpr c45
           have c45b1 : (t126 != t124) = true := bne_iff_ne.mpr c45
           as_aux_lemma =>
            exact absurd ((Option.some.inj H).trans HT.out) (by decide)
     ·replace c27 := Bool.eq_false_iff.mpr c27
      subst c27
      have H1 : (some false) = some r := by rw [if_neg (show ¬ (false = true) by decide)] at H; exact H
      clear H
      have H := H1
      clear H1
      as_aux_lemma =>
       exact absurd ((Option.some.inj H).trans HT.out) (by decide)

/-- THE ONE PURE STATEMENT of laws_FnExactAtStage: yours. -/
def laws_FnExactAtStage.Pure : Prop := ∀ (l0 : List (S38)) (a1 : Int), (l0.length ≤ 9223372036854775807 ∧ ∀ y_ ∈ l0, ok38 y_) → (Lit.int .i64 a1).wf = true → ∃ k, laws_FnExactAtStage.f k l0 a1 = some true

end Go.Proofs.YtahfahlbdgbfeaaDoor.X

-- Qbase
namespace Go.Proofs.YtahfahlbdgbfeaaDoor.Pure
open Go Go.RowKit Go.Proofs Go.Proofs.YtahfahlbdgbfeaaDoorW.PrintWords Go.Proofs.YtahfahlbdgbfeaaDoorW.PrintLast
set_option linter.unusedVariables false
set_option linter.unusedSimpArgs false

theorem w64 {x : Int} (h1 : -9223372036854775808 ≤ x) (h2 : x ≤ 9223372036854775807) : wrap64 x = x := by unfold wrap64; omega
theorem drop_step {α : Type} {l : List α} {i : Nat} (h : i < l.length) (d : α) : l.drop i = l.getD i d :: l.drop (i + 1) := by
  rw [List.drop_eq_getElem_cons h]; congr 1; simp [List.getD_eq_getElem?_getD, List.getElem?_eq_getElem h]
theorem wstep {i : Nat} {n : Nat} (h : i < n) (hn : n ≤ 9223372036854775807) : wrap64 ((i : Int) + 1) = ((i + 1 : Nat) : Int) := by unfold wrap64; omega
theorem succ_of {k d : Nat} (h : d < k) : ∃ m, k = m + 1 ∧ d ≤ m := ⟨k - 1, by omega, by omega⟩

end Go.Proofs.YtahfahlbdgbfeaaDoor.Pure

-- Qidxall
namespace Go.Proofs.YtahfahlbdgbfeaaDoor.Pure
open Go Go.RowKit Go.Proofs Go.Proofs.YtahfahlbdgbfeaaDoorW.PrintWords Go.Proofs.YtahfahlbdgbfeaaDoorW.PrintLast
set_option linter.unusedVariables false
set_option linter.unusedSimpArgs false

/-- q at all numbers from i on, n of them -/
def allR (q : Nat → Bool) (i n : Nat) : Bool := (List.range' i n).all q
theorem allR_iff {q : Nat → Bool} {i n : Nat} : allR q i n = true ↔ ∀ j, i ≤ j → j < i + n → q j = true := by
  unfold allR
  rw [List.all_eq_true]
  exact ⟨fun h j h1 h2 => h j (List.mem_range'_1.mpr ⟨h1, h2⟩), fun h j hj => h j (List.mem_range'_1.mp hj).1 (List.mem_range'_1.mp hj).2⟩
theorem allR_succ (q : Nat → Bool) (i n : Nat) : allR q i (n + 1) = (q i && allR q (i + 1) n) := by
  unfold allR; rw [List.range'_succ, List.all_cons]
/-- A loop that asks of all numbers, from i on. -/
theorem idx_loop (L : Nat → Int → Option Bool) (q : Nat → Bool) (i0 n0 : Nat) (e : Bool) (hb : n0 ≤ 9223372036854775806)
    (hs : ∀ k (i : Nat), i0 ≤ i → i < n0 → L (k + 1) i = if q i = true then L k (wrap64 ((i : Int) + 1)) else some false) (he : ∀ k (i : Nat), n0 ≤ i → L (k + 1) i = some e) :
    ∀ n k (i : Nat), i0 ≤ i → i + n = n0 → n < k → L k i = some (allR q i n && e) := by
  intro n
  induction n with
  | zero =>
    intro k i h0 hi hk
    obtain ⟨k, rfl, _⟩ := succ_of hk
    rw [he k i (by omega)]; simp [allR]
  | succ n ih =>
    intro k i h0 hi hk
    obtain ⟨k, rfl, hk⟩ := succ_of hk
    rw [hs k i h0 (by omega), wstep (show i < n0 by omega) (by omega), allR_succ, ih k (i + 1) (by omega) (by omega) (by omega)]
    cases q i <;> simp
theorem all_getD {α : Type} {p : α → Bool} {l : List α} (d : α) : l.all p = true ↔ ∀ j, j < l.length → p (l.getD j d) = true := by
  rw [List.all_eq_true]
  constructor
  · intro h j hj
    rw [List.getD_eq_getElem?_getD, List.getElem?_eq_getElem hj]
    exact h _ (List.getElem_mem hj)
  · intro h x hx
    obtain ⟨j, hj, rfl⟩ := List.mem_iff_getElem.mp hx
    have := h j hj
    rwa [List.getD_eq_getElem?_getD, List.getElem?_eq_getElem hj] at this
/-- The same, where the end leans on all that was asked, and needs fuel of its own. -/
theorem idx_loop2 (L : Nat → Int → Option Bool) (q : Nat → Bool) (i0 n0 m0 : Nat) (e : Bool) (hb : n0 ≤ 9223372036854775806)
    (hs : ∀ k (i : Nat), i0 ≤ i → i < n0 → m0 ≤ k → L (k + 1) i = if q i = true then L k (wrap64 ((i : Int) + 1)) else some false) (he : (∀ j, i0 ≤ j → j < n0 → q j = true) → ∀ k, m0 ≤ k → L (k + 1) (n0 : Int) = some e) :
    ∀ n k (i : Nat), i0 ≤ i → i + n = n0 → n + m0 < k → (∀ j, i0 ≤ j → j < i → q j = true) → L k i = some (allR q i n && e) := by
  intro n
  induction n with
  | zero =>
    intro k i h0 hi hk hq
    obtain ⟨k, rfl, _⟩ := succ_of (show 0 < k by omega)
    obtain rfl : i = n0 := by omega
    rw [he hq k (by omega)]; simp [allR]
  | succ n ih =>
    intro k i h0 hi hk hq
    obtain ⟨k, rfl, hk'⟩ := succ_of (show 0 < k by omega)
    rw [hs k i h0 (by omega) (by omega), wstep (show i < n0 by omega) (by omega), allR_succ]
    cases hc : q i
    · simp
    · rw [if_pos rfl, ih k (i + 1) (by omega) (by omega) (by omega) (fun j h1 h2 => by
        by_cases hj : j = i
        · rw [hj]; exact hc
        · exact hq j h1 (by omega)), Bool.true_and]

end Go.Proofs.YtahfahlbdgbfeaaDoor.Pure

-- Qloops
namespace Go.Proofs.YtahfahlbdgbfeaaDoor.Pure
open Go Go.RowKit Go.Proofs Go.Proofs.YtahfahlbdgbfeaaDoorW.PrintWords Go.Proofs.YtahfahlbdgbfeaaDoorW.PrintLast
set_option linter.unusedVariables false
set_option linter.unusedSimpArgs false

/-- A loop that copies element by element into a new row. -/
theorem copy_loop {α β : Type} (L : Nat → List α → List β → Int → Option (List β)) (f : α → β) (d : α) (l : List α) (hb : l.length ≤ 9223372036854775806)
    (hs : ∀ k x3 (i : Nat), i < l.length → x3.length = l.length → L (k + 1) l x3 i = L k l (x3.set i (f (l.getD i d))) (wrap64 ((i : Int) + 1)))
    (he : ∀ k x3 (i : Nat), l.length ≤ i → L (k + 1) l x3 i = some x3) :
    ∀ n k (i : Nat) (x3 : List β), i + n = l.length → n < k → x3.length = l.length → x3.take i = (l.take i).map f → L k l x3 i = some (l.map f) := by
  intro n
  induction n with
  | zero =>
    intro k i x3 hi hk hl ht
    obtain ⟨k, rfl, _⟩ := succ_of hk
    rw [he k x3 i (by omega)]
    rw [List.take_of_length_le (by omega), List.take_of_length_le (by omega)] at ht
    rw [ht]
  | succ n ih =>
    intro k i x3 hi hk hl ht
    obtain ⟨k, rfl, hk⟩ := succ_of hk
    rw [hs k x3 i (by omega) hl, wstep (show i < l.length by omega) (by omega)]
    refine ih k (i + 1) _ (by omega) (by omega) (by rw [List.length_set]; exact hl) ?_
    rw [List.take_succ_eq_append_getElem (by rw [List.length_set]; omega), List.take_succ_eq_append_getElem (by omega), List.map_append, ← ht]
    congr 1
    · rw [List.take_set_of_le (Nat.le_refl _)]
    · simp [List.getD_eq_getElem?_getD, List.getElem?_eq_getElem (show i < l.length by omega)]
/-- A loop that compares a row with itself. -/
theorem refl_loop {α : Type} (L : Nat → List α → List α → Int → Option Bool) (l : List α) (hb : l.length ≤ 9223372036854775806)
    (hs : ∀ k (i : Nat), i < l.length → L (k + 1) l l i = L k l l (wrap64 ((i : Int) + 1))) (he : ∀ k (i : Nat), l.length ≤ i → L (k + 1) l l i = some true) :
    ∀ n k (i : Nat), i + n = l.length → n < k → L k l l i = some true := by
  intro n
  induction n with
  | zero =>
    intro k i hi hk
    obtain ⟨k, rfl, _⟩ := succ_of hk
    exact he k i (by omega)
  | succ n ih =>
    intro k i hi hk
    obtain ⟨k, rfl, hk⟩ := succ_of hk
    rw [hs k i (by omega), wstep (show i < l.length by omega) (by omega)]
    exact ih k (i + 1) (by omega) (by omega)
/-- A loop that asks of all elements, from i on. -/
theorem all_loop {α : Type} (L : Nat → Int → Option Bool) (q : α → Bool) (d : α) (l : List α) (e : Bool) (hb : l.length ≤ 9223372036854775806)
    (hs : ∀ k (i : Nat), i < l.length → L (k + 1) i = if q (l.getD i d) = true then L k (wrap64 ((i : Int) + 1)) else some false) (he : ∀ k (i : Nat), l.length ≤ i → L (k + 1) i = some e) :
    ∀ n k (i : Nat), i + n = l.length → n < k → L k i = some ((l.drop i).all q && e) := by
  intro n
  induction n with
  | zero =>
    intro k i hi hk
    obtain ⟨k, rfl, _⟩ := succ_of hk
    rw [he k i (by omega), List.drop_eq_nil_of_le (by omega)]; rfl
  | succ n ih =>
    intro k i hi hk
    obtain ⟨k, rfl, hk⟩ := succ_of hk
    rw [hs k i (by omega), wstep (show i < l.length by omega) (by omega), drop_step (by omega) d, List.all_cons, ih k (i + 1) (by omega) (by omega)]
    cases q (l.getD i d) <;> simp
/-- What marks leave: each element tells its own number. -/
def markM {α : Type} (g : Int → α) (c : Int) (n : Nat) (s : Int) : List α := (List.range n).map fun (j : Nat) => g (s + c * (j : Int))
theorem markM_length {α : Type} (g : Int → α) (c : Int) (n : Nat) (s : Int) : (markM g c n s).length = n := by simp [markM]
theorem markM_getD {α : Type} (g : Int → α) (c : Int) (n : Nat) (s : Int) (d : α) {i : Nat} (h : i < n) : (markM g c n s).getD i d = g (s + c * i) := by
  simp [markM, List.getD_eq_getElem?_getD, List.getElem?_map, List.getElem?_range h]
/-- A loop that marks. -/
theorem mark_loop {α : Type} (L : Nat → List α → Int → Int → Option (Int × List α)) (g : Int → α) (c : Int) (n0 : Nat) (s : Int) (hb : n0 ≤ 9223372036854775806) 
    (hs : ∀ k x (i : Nat), i < n0 → x.length = n0 → L (k + 1) x (s + c * i) i = L k (x.set i (g (s + c * i))) (s + c * ((i + 1 : Nat) : Int)) (wrap64 ((i : Int) + 1)))
    (he : ∀ k x m (i : Nat), n0 ≤ i → x.length = n0 → L (k + 1) x m i = some (m, x)) :
    ∀ n k (i : Nat) (x : List α), i + n = n0 → n < k → x.length = n0 → x.take i = (markM g c n0 s).take i → L k x (s + c * i) i = some (s + c * n0, markM g c n0 s) := by
  intro n
  induction n with
  | zero =>
    intro k i x hi hk hl ht
    obtain ⟨k, rfl, _⟩ := succ_of hk
    rw [he k x _ i (by omega) hl]
    rw [List.take_of_length_le (by omega), List.take_of_length_le (by rw [markM_length]; omega)] at ht
    rw [ht]; simp [show i = n0 by omega]
  | succ n ih =>
    intro k i x hi hk hl ht
    obtain ⟨k, rfl, hk⟩ := succ_of hk
    rw [hs k x i (by omega) hl, wstep (show i < n0 by omega) (by omega)]
    refine ih k (i + 1) _ (by omega) (by omega) (by rw [List.length_set]; exact hl) ?_
    rw [List.take_succ_eq_append_getElem (by rw [List.length_set]; omega), List.take_succ_eq_append_getElem (by rw [markM_length]; omega), ← ht]
    congr 1
    · rw [List.take_set_of_le (Nat.le_refl _)]
    · simp [markM]
/-- A loop that asks for the marks. -/
theorem held_loop {α : Type} (L : Nat → List α → Int → Int → Option Int) (g : Int → α) (c : Int) (n0 : Nat) (s : Int) (hb : n0 ≤ 9223372036854775806)
    (hs : ∀ k (i : Nat), i < n0 → L (k + 1) (markM g c n0 s) (s + c * i) i = L k (markM g c n0 s) (s + c * ((i + 1 : Nat) : Int)) (wrap64 ((i : Int) + 1)))
    (he : ∀ k m (i : Nat), n0 ≤ i → L (k + 1) (markM g c n0 s) m i = some m) :
    ∀ n k (i : Nat), i + n = n0 → n < k → L k (markM g c n0 s) (s + c * i) i = some (s + c * n0) := by
  intro n
  induction n with
  | zero =>
    intro k i hi hk
    obtain ⟨k, rfl, _⟩ := succ_of hk
    rw [he k _ i (by omega), show i = n0 by omega]
  | succ n ih =>
    intro k i hi hk
    obtain ⟨k, rfl, hk⟩ := succ_of hk
    rw [hs k i (by omega), wstep (show i < n0 by omega) (by omega)]
    exact ih k (i + 1) (by omega) (by omega)
theorem rd_nat (l : List Int) (i : Nat) : rd l (i : Int) = l.getD i 0 := by simp [rd]

end Go.Proofs.YtahfahlbdgbfeaaDoor.Pure

-- QlistOrder
namespace Go.Proofs.YtahfahlbdgbfeaaDoor.Pure
open Go Go.RowKit Go.Proofs Go.Proofs.YtahfahlbdgbfeaaDoor.X Go.Proofs.YtahfahlbdgbfeaaDoorW.PrintWords Go.Proofs.YtahfahlbdgbfeaaDoorW.PrintLast
set_option linter.unusedVariables false
set_option linter.unusedSimpArgs false

def toOrder (x : S38) : S41 := ⟨x.f0, x.f1, x.f2, x.f3, x.f4, x.f5, x.f6, x.f7⟩
theorem rdVOrder_nat (l : List S38) (i : Nat) : rd_T38 l (i : Int) = l.getD i z38 := by simp [rd_T38]
theorem rdIOrder_nat (l : List S41) (i : Nat) : rd_T41 l (i : Int) = l.getD i z41 := by simp [rd_T41]
theorem toOrderS_eq {k : Nat} {l : List S38} (hk : l.length < k) (hl : l.length ≤ 1048576) : laws_toCarpetOrderS.f k l = some (l.map toOrder) := by
  unfold laws_toCarpetOrderS.f
  rw [if_pos (by omega), if_pos (by simp; omega)]
  exact copy_loop laws_toCarpetOrderS.l0 toOrder z38 l (by omega)
    (fun k x3 i h1 h2 => by
      simp only [laws_toCarpetOrderS.l0, laws_toCarpetOrder.f, Option.bind_some]
      rw [if_pos (by omega), if_pos (by omega), if_pos (by omega), rdVOrder_nat]
      simp [toOrder])
    (fun k x3 i h1 => by simp only [laws_toCarpetOrderS.l0]; rw [if_neg (by omega)])
    l.length k 0 _ (by omega) hk (by simp) (by simp)
theorem eqOrder_refl (a0 : Int) (a1 : ByteArray) (a2 a3 a4 a5 a6 a7 : Int) : laws_eqCarpetOrder.f a0 a1 a2 a3 a4 a5 a6 a7 a0 a1 a2 a3 a4 a5 a6 a7 = some true := by simp [laws_eqCarpetOrder.f]
theorem eqOrderS_refl {k : Nat} {l : List S41} (hk : l.length < k) (hl : l.length ≤ 9223372036854775806) : laws_eqCarpetOrderS.f k l l = some true := by
  unfold laws_eqCarpetOrderS.f
  rw [if_pos rfl]
  exact refl_loop laws_eqCarpetOrderS.l0 l hl
    (fun k i h => by simp only [laws_eqCarpetOrderS.l0, eqOrder_refl, Option.bind_some]; rw [if_pos (by omega), if_pos (by omega), if_pos (by omega)]; simp)
    (fun k i h => by simp only [laws_eqCarpetOrderS.l0]; rw [if_neg (by omega)])
    l.length k 0 (by omega) hk
/-- what the law's own guard lets in -/
theorem szOrderS_ex {k : Nat} {l : List S38} (hk : 1048577 < k) (hl : l.length ≤ 9223372036854775807) (hs : ∀ x ∈ l, x.f1.size ≤ 9223372036854775807) : ∃ r, laws_szCarpetOrderS.f k l 1048576 = some r ∧ (r < 0 ∨ (l.length ≤ 1048576 ∧ ∀ x ∈ l, x.f1.size ≤ 1048576)) := by
  unfold laws_szCarpetOrderS.f
  rw [w64 (x := 1048576 - (l.length : Int)) (by omega) (by omega)]
  by_cases h : 1048576 - (l.length : Int) < 0
  · exact ⟨-1, by rw [if_pos h], .inl (by omega)⟩
  rw [if_neg h]
  have : ∀ (n k i : Nat) (a : Int), i + n = l.length → n < k → 0 ≤ a → a ≤ 1048576 → ∃ r, laws_szCarpetOrderS.l0 k l a (i : Int) = some r ∧ (r < 0 ∨ ∀ x ∈ l.drop i, x.f1.size ≤ 1048576) := by
    intro n
    induction n with
    | zero =>
      intro k i a hi hk h0 h1
      obtain ⟨k, rfl, _⟩ := succ_of hk
      refine ⟨a, by simp only [laws_szCarpetOrderS.l0]; rw [if_neg (by omega)], .inr ?_⟩
      rw [List.drop_eq_nil_of_le (by omega)]
      intro x hx; simp at hx
    | succ n ih =>
      intro k i a hi hk h0 h1
      obtain ⟨k, rfl, hk⟩ := succ_of hk
      have hlt : i < l.length := by omega
      have hm : l.getD i z38 ∈ l := by rw [List.getD_eq_getElem?_getD, List.getElem?_eq_getElem hlt]; exact List.getElem_mem hlt
      have hsz := hs _ hm
      simp only [laws_szCarpetOrderS.l0, laws_szCarpetOrder.f, rdVOrder_nat]
      rw [if_pos (by omega), if_pos (by omega), w64 (x := a - ((l.getD i z38).f1.size : Int)) (by omega) (by omega)]
      by_cases g : a - ((l.getD i z38).f1.size : Int) < 0
      · rw [if_pos g]
        exact ⟨-1, by simp, .inl (by omega)⟩
      · rw [if_neg g]
        simp only [Option.bind_some]
        rw [if_neg g, wstep hlt hl]
        obtain ⟨r, hr, hor⟩ := ih k (i + 1) (a - ((l.getD i z38).f1.size : Int)) (by omega) (by omega) (by omega) (by omega)
        refine ⟨r, hr, hor.imp id fun hx => ?_⟩
        rw [drop_step hlt z38]
        intro x hx2
        rw [List.mem_cons] at hx2
        rcases hx2 with rfl | hx2
        · omega
        · exact hx x hx2
  obtain ⟨r, hr, hor⟩ := this l.length k 0 (1048576 - (l.length : Int)) (by omega) (by omega) (by omega) (by omega)
  refine ⟨r, hr, hor.imp id fun hx => ⟨by omega, by simpa using hx⟩⟩
theorem sizesOk_map {l : List S38} (h : l.length ≤ 1048576 ∧ ∀ x ∈ l, x.f1.size ≤ 1048576) : (l.map toOrder).length ≤ 1048576 ∧ ∀ x ∈ l.map toOrder, x.f1.size ≤ 1048576 := by
  refine ⟨by rw [List.length_map]; exact h.1, fun x hx => ?_⟩
  rw [List.mem_map] at hx
  obtain ⟨y, hy, rfl⟩ := hx
  exact h.2 y hy

end Go.Proofs.YtahfahlbdgbfeaaDoor.Pure

-- Qinrange
namespace Go.Proofs.YtahfahlbdgbfeaaDoor.Pure
open Go Go.RowKit Go.Proofs Go.Proofs.YtahfahlbdgbfeaaDoor.X Go.Proofs.YtahfahlbdgbfeaaDoorW.PrintWords Go.Proofs.YtahfahlbdgbfeaaDoorW.PrintLast
set_option linter.unusedVariables false
set_option linter.unusedSimpArgs false

theorem in_eq (x a b : Int) : impl_in.f x a b = some (decide (a ≤ x ∧ x ≤ b)) := by
  unfold impl_in.f
  by_cases h1 : a ≤ x <;> simp [h1]

end Go.Proofs.YtahfahlbdgbfeaaDoor.Pure

-- Qspecin
namespace Go.Proofs.YtahfahlbdgbfeaaDoor.Pure
open Go Go.RowKit Go.Proofs Go.Proofs.YtahfahlbdgbfeaaDoor.X Go.Proofs.YtahfahlbdgbfeaaDoorW.PrintWords Go.Proofs.YtahfahlbdgbfeaaDoorW.PrintLast
set_option linter.unusedVariables false
set_option linter.unusedSimpArgs false

theorem l1In_eq (x a b : Int) : spec_l1In.f x a b = some (decide (a ≤ x ∧ x ≤ b)) := by
  unfold spec_l1In.f
  by_cases h1 : a ≤ x <;> simp [h1]

end Go.Proofs.YtahfahlbdgbfeaaDoor.Pure

-- Qwords
namespace Go.Proofs.YtahfahlbdgbfeaaDoor.Pure
open Go Go.RowKit Go.Proofs Go.Proofs.YtahfahlbdgbfeaaDoor.X Go.Proofs.YtahfahlbdgbfeaaDoorW.PrintWords Go.Proofs.YtahfahlbdgbfeaaDoorW.PrintLast
set_option linter.unusedVariables false
set_option linter.unusedSimpArgs false

def lowB (b : UInt8) : Bool := decide (97 ≤ b.toNat ∧ b.toNat ≤ 122)
/-- a word: one to ten small letters -/
def wordB (s : ByteArray) : Bool := decide (1 ≤ s.size ∧ s.size ≤ 10) && s.data.toList.all lowB
theorem bt_nat (s : ByteArray) (i : Nat) (h : i < s.size) : bt s (i : Int) = ((s.data.toList.getD i 0).toNat : Int) := by
  have h2 : i < s.data.toList.length := by simpa using h
  unfold bt
  rw [dif_pos (by simpa using h), List.getD_eq_getElem?_getD, List.getElem?_eq_getElem h2]
  rfl
theorem wordS_eq {k : Nat} {s : ByteArray} (hk : s.size < k) (hs : s.size ≤ 9223372036854775806) : spec_l2Word.f k s = some (wordB s) := by
  unfold spec_l2Word.f
  have hl : s.data.toList.length = s.size := by rw [Array.length_toList]; rfl
  have h := all_loop (fun k i => spec_l2Word.l0 k s i) lowB 0 s.data.toList (decide (1 ≤ s.size ∧ s.size ≤ 10)) (by omega)
    (fun k i h1 => by
      simp only [spec_l2Word.l0]
      rw [if_pos (by omega), if_pos (by omega), bt_nat s i (by omega)]
      unfold lowB
      by_cases g1 : ((s.data.toList.getD i 0).toNat : Int) < 97
      · rw [if_pos g1, decide_eq_false (by omega)]; simp
      · rw [if_neg g1]
        by_cases g2 : ((s.data.toList.getD i 0).toNat : Int) > 122
        · rw [if_pos g2, decide_eq_false (by omega)]; simp
        · rw [if_neg g2, decide_eq_true (by omega)]; simp)
    (fun k i h1 => by
      simp only [spec_l2Word.l0]
      rw [if_neg (by omega), l1In_eq]
      simp only [Option.bind_some]
      congr 2
      exact propext ⟨fun h => by omega, fun h => by omega⟩)
    s.data.toList.length k 0 (by omega) (by omega)
  refine h.trans ?_
  simp only [List.drop_zero, wordB, Bool.and_comm]
theorem dropWhile_nil (p : UInt8 → Bool) (l : List UInt8) : l.dropWhile p = [] ↔ l.all p = true := by
  induction l with
  | nil => simp
  | cons a l ih =>
    by_cases h : p a = true
    · rw [List.dropWhile_cons_of_pos h, ih]; simp [h]
    · rw [List.dropWhile_cons_of_neg h]; simp [h]
theorem trim_nil (p : UInt8 → Bool) (l : List UInt8) : ((l.reverse.dropWhile p).reverse.dropWhile p) = [] ↔ l.all p = true := by
  rw [dropWhile_nil, List.all_reverse]
  constructor
  · intro h
    have : (l.reverse.dropWhile p) = [] := by
      cases hd : l.reverse.dropWhile p with
      | nil => rfl
      | cons x t =>
        rw [hd] at h
        have h1 : p x = true := by simp at h; exact h.1
        have h2 := List.head?_dropWhile_not p l.reverse
        rw [hd] at h2
        simp [h1] at h2
    rw [dropWhile_nil, List.all_reverse] at this
    exact this
  · intro h
    have : (l.reverse.dropWhile p) = [] := by rw [dropWhile_nil, List.all_reverse]; exact h
    rw [this]; rfl
def abcB : ByteArray := ⟨#[97, 98, 99, 100, 101, 102, 103, 104, 105, 106, 107, 108, 109, 110, 111, 112, 113, 114, 115, 116, 117, 118, 119, 120, 121, 122]⟩
theorem abc_has (b : UInt8) : abcB.data.toList.contains b = lowB b := by
  have e : ∀ c : UInt8, (b == c) = decide (b.toNat = c.toNat) := fun c => by
    rw [Bool.eq_iff_iff]; simp [UInt8.toNat_inj]
  unfold lowB abcB
  simp only [List.contains_cons, List.contains_nil, e]
  rw [Bool.eq_iff_iff]
  simp only [Bool.or_eq_true, decide_eq_true_eq, Bool.false_eq_true, or_false, UInt8.reduceToNat]
  omega
theorem wordI_eq (s : ByteArray) : impl_isWord.f s = some (wordB s) := by
  unfold impl_isWord.f
  rw [in_eq]
  simp only [Option.bind_some, wordB]
  by_cases hs : 1 ≤ s.size ∧ s.size ≤ 10
  · rw [decide_eq_true (show 1 ≤ (s.size : Int) ∧ (s.size : Int) ≤ 10 by omega), decide_eq_true hs, if_pos rfl, Bool.true_and]
    show (strings_Trim.f s abcB).bind _ = _
    unfold strings_Trim.f
    rw [if_pos ⟨by omega, by decide, by decide⟩]
    simp only [Option.bind_some, ByteArray.toList_eq]
    congr 1
    unfold Go.Lib.trimS Go.Lib.trimLeftS Go.Lib.trimRightS
    rw [Bool.eq_iff_iff, beq_iff_eq, trim_nil, show (fun b => abcB.data.toList.contains b) = lowB from funext abc_has]
  · rw [decide_eq_false (show ¬ (1 ≤ (s.size : Int) ∧ (s.size : Int) ≤ 10) by omega), decide_eq_false hs]; simp

end Go.Proofs.YtahfahlbdgbfeaaDoor.Pure

-- Qorders
namespace Go.Proofs.YtahfahlbdgbfeaaDoor.Pure
open Go Go.RowKit Go.Proofs Go.Proofs.YtahfahlbdgbfeaaDoor.X Go.Proofs.YtahfahlbdgbfeaaDoorW.PrintWords Go.Proofs.YtahfahlbdgbfeaaDoorW.PrintLast
set_option linter.unusedVariables false
set_option linter.unusedSimpArgs false

def orderB (x : S41) : Bool := decide (1 ≤ x.f0 ∧ x.f0 ≤ 999) && (wordB x.f1 && (decide (30 ≤ x.f2 ∧ x.f2 ≤ 600) && (decide (30 ≤ x.f3 ∧ x.f3 ≤ 600) && (decide (0 ≤ x.f4 ∧ x.f4 ≤ 5) && (decide (0 ≤ x.f5 ∧ x.f5 ≤ 10000000) && (decide (0 ≤ x.f6 ∧ x.f6 ≤ x.f5) && decide (0 ≤ x.f7 ∧ x.f7 ≤ 4000)))))))
def ascO (l : List S41) (j : Nat) : Bool := decide ((l.getD (j - 1) z41).f0 < (l.getD j z41).f0)
def ordersB (l : List S41) : Bool := decide (l.length ≤ 10) && (l.all orderB && allR (ascO l) 1 (l.length - 1))
def sizesOk (l : List S41) : Prop := l.length ≤ 1048576 ∧ ∀ x ∈ l, x.f1.size ≤ 1048576
theorem oneOS_eq {k : Nat} (x : S41) (hk : x.f1.size < k) (hs : x.f1.size ≤ 1048576) : spec_l17One.f k x.f0 x.f1 x.f2 x.f3 x.f4 x.f5 x.f6 x.f7 = some (orderB x) := by
  simp only [spec_l17One.f, spec_l17Cents.f, spec_l2Day.f, l1In_eq, wordS_eq hk (by omega), Option.bind_some, orderB]
  generalize decide (1 ≤ x.f0 ∧ x.f0 ≤ 999) = p1; generalize wordB x.f1 = p2; generalize decide (30 ≤ x.f2 ∧ x.f2 ≤ 600) = p3; generalize decide (30 ≤ x.f3 ∧ x.f3 ≤ 600) = p4; generalize decide (0 ≤ x.f4 ∧ x.f4 ≤ 5) = p5; generalize decide (0 ≤ x.f5 ∧ x.f5 ≤ 10000000) = p6; generalize decide (0 ≤ x.f6 ∧ x.f6 ≤ x.f5) = p7; generalize decide (0 ≤ x.f7 ∧ x.f7 ≤ 4000) = p8
  cases p1 <;> cases p2 <;> cases p3 <;> cases p4 <;> cases p5 <;> cases p6 <;> cases p7 <;> rfl
theorem oneOI_eq {k : Nat} (x : S41) (hk : 0 < k) : impl_IsCarpetOrder.f k x.f0 x.f1 x.f2 x.f3 x.f4 x.f5 x.f6 x.f7 = some (orderB x) := by
  obtain ⟨k, rfl, _⟩ := succ_of hk
  simp only [impl_IsCarpetOrder.f, impl_IsCarpetOrder.j0, impl_isNumber.f, impl_isWide.f, impl_isStage.f, impl_isPrice.f, impl_isDay.f, in_eq, wordI_eq, Option.bind_some, orderB]
  generalize decide (1 ≤ x.f0 ∧ x.f0 ≤ 999) = p1; generalize wordB x.f1 = p2; generalize decide (30 ≤ x.f2 ∧ x.f2 ≤ 600) = p3; generalize decide (30 ≤ x.f3 ∧ x.f3 ≤ 600) = p4; generalize decide (0 ≤ x.f4 ∧ x.f4 ≤ 5) = p5; generalize decide (0 ≤ x.f5 ∧ x.f5 ≤ 10000000) = p6; generalize decide (0 ≤ x.f6 ∧ x.f6 ≤ x.f5) = p7; generalize decide (0 ≤ x.f7 ∧ x.f7 ≤ 4000) = p8
  cases p1 <;> cases p2 <;> cases p3 <;> cases p4 <;> cases p5 <;> cases p6 <;> cases p7 <;> rfl
theorem ordersS_eq {k : Nat} {l : List S41} (hk : l.length + 1048577 < k) (hs : sizesOk l) : spec_l17Good.f k l = some (ordersB l) := by
  unfold spec_l17Good.f
  have hx := idx_loop2 (fun k i => spec_l17Good.l0 k l i) (fun j => orderB (l.getD j z41) && (decide (j = 0) || ascO l j)) 0 l.length 1048577 (decide (l.length ≤ 10)) (by have := hs.1; omega)
    (fun k i _ h1 h2 => by
      have hm : l.getD i z41 ∈ l := by rw [List.getD_eq_getElem?_getD, List.getElem?_eq_getElem h1]; exact List.getElem_mem h1
      have hsz := hs.2 _ hm
      have hlen := hs.1
      simp only [spec_l17Good.l0, rdIOrder_nat]
      rw [if_pos (by omega), if_pos (by omega), oneOS_eq _ (by omega) hsz]
      simp only [Option.bind_some]
      cases orderB (l.getD i z41)
      · simp
      · by_cases hi : i = 0
        · rw [if_pos rfl, if_neg (by omega), decide_eq_true hi]; simp
        · rw [if_pos rfl, if_pos (by omega), w64 (x := (i : Int) - 1) (by omega) (by omega), if_pos (by omega), if_pos (by omega), show (i : Int) - 1 = ((i - 1 : Nat) : Int) by omega, rdIOrder_nat, decide_eq_false hi]
          unfold ascO
          by_cases g : (l.getD (i - 1) z41).f0 ≥ (l.getD i z41).f0
          · rw [if_pos g, decide_eq_false (by omega)]; simp
          · rw [if_neg g, decide_eq_true (by omega)]; simp)
    (fun hq k hk => by
      simp only [spec_l17Good.l0]
      rw [if_neg (by omega)]
      congr 2
      exact propext ⟨fun h => by omega, fun h => by omega⟩)
    l.length k 0 (by omega) (by omega) (by omega) (fun j h1 h2 => by omega)
  refine hx.trans (congrArg some ?_)
  unfold ordersB
  rw [Bool.and_comm]
  congr 1
  rw [Bool.eq_iff_iff, Bool.and_eq_true, allR_iff, allR_iff, all_getD z41]
  constructor
  · intro h
    refine ⟨fun j hj => ?_, fun j h1 h2 => ?_⟩
    · have := h j (by omega) (by omega)
      rw [Bool.and_eq_true] at this; exact this.1
    · have := h j (by omega) (by omega)
      rw [Bool.and_eq_true, decide_eq_false (show ¬ j = 0 by omega), Bool.false_or] at this; exact this.2
  · intro h j h1 h2
    rw [Bool.and_eq_true]
    refine ⟨h.1 j (by omega), ?_⟩
    by_cases hj : j = 0
    · rw [decide_eq_true hj]; rfl
    · rw [h.2 j (by omega) (by omega), Bool.or_true]
theorem ordersI_eq {k : Nat} {l : List S41} (hk : l.length + 1 < k) (hs : l.length ≤ 1048576) : impl_AreCarpetOrders.f k l = some (ordersB l) := by
  unfold impl_AreCarpetOrders.f ordersB
  by_cases h10 : (l.length : Int) ≤ 10
  · rw [if_pos h10, decide_eq_true (show l.length ≤ 10 by omega), Bool.true_and]
    simp only [impl_CarpetOrder__impl_IsCarpetOrder.f]
    rw [Ho.allO_eq (q := orderB) (fun x _ => oneOI_eq x (by omega))]
    simp only [Option.bind_some]
    have hasc : impl_CarpetOrder__impl_AreCarpetOrders_1.f k l = some (allR (ascO l) 1 (l.length - 1)) := by
      unfold impl_CarpetOrder__impl_AreCarpetOrders_1.f
      by_cases h0 : l.length = 0
      · obtain ⟨k, rfl, _⟩ := succ_of (show 0 < k by omega)
        simp only [impl_CarpetOrder__impl_AreCarpetOrders_1.l0]
        rw [if_neg (by omega), h0]; rfl
      have h := idx_loop (fun k i => impl_CarpetOrder__impl_AreCarpetOrders_1.l0 k l i) (ascO l) 1 l.length true (by omega)
        (fun k i h1 h2 => by
          simp only [impl_CarpetOrder__impl_AreCarpetOrders_1.l0, impl_AreCarpetOrders_1.f, Option.bind_some]
          rw [if_pos (by omega), w64 (x := (i : Int) - 1) (by omega) (by omega), if_pos (by omega), if_pos (by omega), if_pos (by omega), show (i : Int) - 1 = ((i - 1 : Nat) : Int) by omega, rdIOrder_nat, rdIOrder_nat]
          unfold ascO
          by_cases g : (l.getD (i - 1) z41).f0 ≥ (l.getD i z41).f0
          · rw [if_pos g, decide_eq_false (by omega)]; simp
          · rw [if_neg g, decide_eq_true (by omega)]; simp)
        (fun k i h1 => by simp only [impl_CarpetOrder__impl_AreCarpetOrders_1.l0]; rw [if_neg (by omega)])
        (l.length - 1) k 1 (by omega) (by omega) (by omega)
      simpa using h
    rw [hasc]
    simp only [Option.bind_some]
    cases l.all orderB <;> simp
  · rw [if_neg h10, decide_eq_false (show ¬ l.length ≤ 10 by omega)]; simp

end Go.Proofs.YtahfahlbdgbfeaaDoor.Pure

-- Qareaorder
namespace Go.Proofs.YtahfahlbdgbfeaaDoor.Pure
open Go Go.RowKit Go.Proofs Go.Proofs.YtahfahlbdgbfeaaDoor.X Go.Proofs.YtahfahlbdgbfeaaDoorW.PrintWords Go.Proofs.YtahfahlbdgbfeaaDoorW.PrintLast
set_option linter.unusedVariables false
set_option linter.unusedSimpArgs false

theorem orders_of {l : List S41} (h : ordersB l = true) : l.length ≤ 10 ∧ ∀ x ∈ l, orderB x = true := by
  simp only [ordersB, Bool.and_eq_true, decide_eq_true_eq, List.all_eq_true] at h
  exact ⟨h.1, h.2.1⟩
end Go.Proofs.YtahfahlbdgbfeaaDoor.Pure

-- Qcmpint
namespace Go.Proofs.YtahfahlbdgbfeaaDoor.Pure
open Go Go.RowKit Go.Proofs Go.Proofs.YtahfahlbdgbfeaaDoor.X Go.Proofs.YtahfahlbdgbfeaaDoorW.PrintWords Go.Proofs.YtahfahlbdgbfeaaDoorW.PrintLast
set_option linter.unusedVariables false
set_option linter.unusedSimpArgs false

def cmpI (a b : Int) : Int := if a < b then -1 else if a > b then 1 else 0
theorem cmpI_eq (a b : Int) : cmp_Compare_int.f a b = some (cmpI a b) := by
  simp only [cmp_Compare_int.f, cmp_isNaN_int.f, bne_self_eq_false, Option.bind_some, Bool.false_eq_true, if_false, cmpI]
  (repeat' split) <;> rfl

end Go.Proofs.YtahfahlbdgbfeaaDoor.Pure
