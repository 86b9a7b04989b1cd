/- What the law FnOrderBooks needs, part 2 of 5: what each function of the program that it reaches returns (printed by this session's own program, checked by Lean), and plain mathematics about it. Conditions: those of each theorem. -/
import Derived.Test.YtahfahlbdgbfeaaGreatDoorZFnOrderBooks0
import Derived.Ground.SlsfProg
import Derived.Shelf.SlGeneric
import Derived.Shelf.SlSortCmp.Whole1
import Derived.Test.YtahfahlbdgbfeaaGreatDoorProg
import Derived.Maps.OwnSet
import Derived.Maps.OwnOps
import Derived.StringKeys
import Derived.Shelf.SlSortCmp.NoneTotal
namespace Go.Proofs.YtahfahlbdgbfeaaGreatDoor.X
open Ho (bS eS RS Ak Cs Ct Cd)
open Go.RowKit Go.Proofs.YtahfahlbdgbfeaaGreatDoorW.PrintWords Go.Proofs.YtahfahlbdgbfeaaGreatDoorW.PrintLast Go.Proofs.YtahfahlbdgbfeaaGreatDoorW.PrintMore
attribute [local go_sem] max2_int min2_int max_two min_two max_three min_three max_four min_four   -- for this text's walks alone
set_option linter.unusedVariables false
set_option linter.unusedSimpArgs false
/-! ### Fb: function 100005 -/
mutual
def Fb.l0 : Nat → List (S34) → Int → Int → Int → Int → Option ((List (S34)))
  | 0, _, _, _, _, _ => none
  | k + 1, x0, x1, x6, x7, x8 => if x8 ≤ x1 then ((Fa.f k x0 x7 x8).bind fun t101 => (Fb.l0 k t101 x1 x6 x8 (wrap64 (x8 + x6)))) else ((Fa.f k x0 x7 x1).bind fun t102 => (Fb.l1 k t102 x1 x6))
def Fb.l1 : Nat → List (S34) → Int → Int → Option ((List (S34)))
  | 0, _, _, _ => none
  | k + 1, x0, x1, x6 => if x6 < x1 then (Fb.l2 k x0 x1 x6 0 (wrap64 (2 * x6))) else (some x0)
def Fb.l2 : Nat → List (S34) → Int → Int → Int → Int → Option ((List (S34)))
  | 0, _, _, _, _, _ => none
  | k + 1, x0, x1, x6, x7, x8 => if x8 ≤ x1 then (none) else (if (wrap64 (x7 + x6)) < x1 then (none) else (Fb.l1 k x0 x1 (wrap64 (x6 * 2))))
end
def Fb.f (k : Nat) (l0 : List (S34)) (a1 : Int)  : Option ((List (S34))) := Fb.l0 k l0 a1 20 0 20
theorem Fb.mono_l : ∀ k, (∀ y0 y1 y2 y3 y4, LeO (Fb.l0 k y0 y1 y2 y3 y4) (Fb.l0 (k + 1) y0 y1 y2 y3 y4)) ∧ (∀ y0 y1 y2, LeO (Fb.l1 k y0 y1 y2) (Fb.l1 (k + 1) y0 y1 y2)) ∧ (∀ y0 y1 y2 y3 y4, LeO (Fb.l2 k y0 y1 y2 y3 y4) (Fb.l2 (k + 1) y0 y1 y2 y3 y4))
  | 0 => ⟨fun _ _ _ _ _ r h => by simp [Fb.l0] at h, fun _ _ _ r h => by simp [Fb.l1] at h, fun _ _ _ _ _ r h => by simp [Fb.l2] at h⟩
  | k + 1 => by
    obtain ⟨ih0, ih1, ih2⟩ := Fb.mono_l k
    refine ⟨?_, ?_, ?_⟩
    · intro y0 y1 y2 y3 y4
      unfold Fb.l0
      repeat' first | (with_reducible first | exact ih0 _ _ _ _ _ | exact ih1 _ _ _ | exact ih2 _ _ _ _ _ | exact Fa.mono _ _ _ _ | exact LeO.refl _ | exact LeO.none _ | refine LeO.ite ?_ ?_ | refine LeO.bind ?_ (fun _ => ?_)) | exact ih0 _ _ _ _ _ | exact ih1 _ _ _ | exact ih2 _ _ _ _ _ | exact Fa.mono _ _ _ _ | exact LeO.none _ | refine LeO.ite ?_ ?_ | refine LeO.bind ?_ (fun _ => ?_)
    · intro y0 y1 y2
      unfold Fb.l1
      repeat' first | (with_reducible first | exact ih0 _ _ _ _ _ | exact ih1 _ _ _ | exact ih2 _ _ _ _ _ | exact Fa.mono _ _ _ _ | exact LeO.refl _ | exact LeO.none _ | refine LeO.ite ?_ ?_ | refine LeO.bind ?_ (fun _ => ?_)) | exact ih0 _ _ _ _ _ | exact ih1 _ _ _ | exact ih2 _ _ _ _ _ | exact Fa.mono _ _ _ _ | exact LeO.none _ | refine LeO.ite ?_ ?_ | refine LeO.bind ?_ (fun _ => ?_)
    · intro y0 y1 y2 y3 y4
      unfold Fb.l2
      repeat' first | (with_reducible first | exact ih0 _ _ _ _ _ | exact ih1 _ _ _ | exact ih2 _ _ _ _ _ | exact Fa.mono _ _ _ _ | exact LeO.refl _ | exact LeO.none _ | refine LeO.ite ?_ ?_ | refine LeO.bind ?_ (fun _ => ?_)) | exact ih0 _ _ _ _ _ | exact ih1 _ _ _ | exact ih2 _ _ _ _ _ | exact Fa.mono _ _ _ _ | exact LeO.none _ | refine LeO.ite ?_ ?_ | refine LeO.bind ?_ (fun _ => ?_)
theorem Fb.mono : ∀ a0 a1 k, LeO (Fb.f k a0 a1) (Fb.f (k + 1) a0 a1) := by
  intro a0 a1 k
  obtain ⟨ih0, ih1, ih2⟩ := Fb.mono_l k
  unfold Fb.f
  repeat' first | (with_reducible first | exact ih0 _ _ _ _ _ | exact ih1 _ _ _ | exact ih2 _ _ _ _ _ | exact Fa.mono _ _ _ _ | exact LeO.refl _ | exact LeO.none _ | refine LeO.ite ?_ ?_ | refine LeO.bind ?_ (fun _ => ?_)) | exact ih0 _ _ _ _ _ | exact ih1 _ _ _ | exact ih2 _ _ _ _ _ | exact Fa.mono _ _ _ _ | exact LeO.none _ | refine LeO.ite ?_ ?_ | refine LeO.bind ?_ (fun _ => ?_)
set_option maxHeartbeats 8000000 in
set_option maxRecDepth 100000 in
theorem Fb.calls (k : Nat) (P0_ : Nat → Prop) (u9000_ : Value) (l0 : List (S34)) (a1 : Int)  (r : List (S34)) (w0 w : World) (hB : Below w0.heap.size w0 w) (ho0 : Kd.R k34 34 w w0.heap.size P0_ u9000_ l0) (h : Fb.f k l0 a1 = some r) :
  Calls Tryz.prog 68 #[u9000_, .int .i64 a1, .func (.func 42) #[] #[]] w fun e w' => e = .returned (.tuple #[]) ∧ Kd.R k34 34 w' w0.heap.size (fun k_ => (P0_ k_ ∨ w.heap.size ≤ k_)) u9000_ r ∧ Below w0.heap.size w0 w' ∧ Kept w w' (fun k_ => P0_ k_) := by
 have HO0 := Ak (show Kd.R k34 34 w w0.heap.size (fun k_ => (P0_ k_ ∨ w.heap.size ≤ k_)) u9000_ l0 from Kd.R_mono ho0 (fun k_ hk => (.inl hk)))
 have HK := Ak (Kept.refl w (fun k_ => P0_ k_))
 have HW0 := Ak hB.size
 have HB := Ak hB
 clear hB
 have H : (Fb.l0 k l0 a1 20 0 20) = some r := h
 clear h
 have H' := Ak H
 clear H
 go_enter Tryz.func68, Tryz.ntmps68
 go_wp2
 (try simp only [Act.put, List.setIfInBounds_toArray, List.set_cons_zero, List.set_cons_succ])
 go_loopg [7, 8] k (fun kq v7 v8 w' => ∃ (x0_1 : List (S34)) (x7_1 : Int) (x8_1 : Int), v7 = .int .i64 x7_1 ∧ v8 = .int .i64 x8_1 ∧ Aside0 (Fb.l0 kq x0_1 a1 20 x7_1 x8_1 = some r) ∧ Aside0 (kq ≤ k) ∧ Aside0 (Kd.R k34 34 w' w0.heap.size (fun k_ => (P0_ k_ ∨ w.heap.size ≤ k_)) u9000_ x0_1) ∧ Aside0 (Kept w w' (fun k_ => P0_ k_)) ∧ Aside0 (Below w0.heap.size w0 w'))
 case atStart => exact ⟨(l0), (0), (20), (by first | rfl | (simp; done) | (simp [*]; done)), (by first | rfl | (simp; done) | (simp [*]; done)), H', ⟨Nat.le_refl _⟩, ⟨by exact RS <| HO0.out⟩, ⟨by exact Ho.KS HK.out⟩, ⟨by exact eS HB.out⟩⟩
 case round =>
  clear H'; (try clear p2)
  obtain ⟨x0_1, x7_1, x8_1, rfl, rfl, HA, HK1, HO_0, HK, HB⟩ := hrel
  cases gk with
  | zero => exact absurd HA.out (by simp [Fb.l0])
  | succ k1 =>
   have H := HA.out
   clear HA
   simp only [Fb.l0] at H
   by_cases c4 : x8_1 ≤ a1
   ·rw [if_pos c4] at H
    have c4b0 : decide (x8_1 ≤ a1) = true := decide_eq_true c4
    clear c4
    replace H := Option.bind_eq_some_iff.mp H
    obtain ⟨t101, A50, H⟩ := H
    (try dsimp only at H)
    have A5 := Ak A50
    clear A50
    have H' := Ak H
    clear H
    obtain ⟨Ao6, co6, eo6⟩ := Kd.R_slice HO_0.out
    subst eo6
    go_wp2_with (first | ((with_reducible refine gate_callee (f := 84) rfl ?_); refine goesL_ (some 18) rfl rfl Tryz.func84 (by kernel_rfl) rfl #[.slice Ao6 x0_1.length co6, .int .i64 x7_1, .int .i64 x8_1, .func (.func 42) #[] #[]] rfl (by (try simp only [List.map_toArray, List.map_cons, List.map_nil]); first | done | rfl | (simp only [List.length_drop, List.length_take]; rfl)) ?_; (refine (Fa.calls k1 (fun k_ => some k_ = (.slice Ao6 x0_1.length co6 : Value).ownBlock) (.slice Ao6 x0_1.length co6) x0_1 x7_1 x8_1  t101 w0 _ ?side1 ?side2 A5.out).mono ?_); (case side1 => exact eS HB.out); (case side2 => exact Kd.R_tight rfl HO_0.out); rintro e w7 ⟨rfl, hy0, hb, hkp⟩; refine ⟨_, rfl, ?_⟩; have n0_ := Ak (Kd.R_reok rfl hy0 (fun k_ e_ => HO_0.out.1 k_ e_)); have n1_ := Ak (Kept.then_ (S := (fun k_ => P0_ k_)) (by exact Ho.KS HK.out) hkp (fun k_ hs_ => (fun e_ => (HO_0.out.1 k_ e_.symm)) hs_)); have n2_ := Ak (hb); clear HO_0; clear HK; clear HB; have HO_0 := n0_; have HK := n1_; have HB := n2_; clear n0_ n1_ n2_; (try clear hb); (try clear hkp); (try clear hy0)))
    go_roundg k1
    case measure => have := HK1.out; omega
    case rel => exact ⟨(t101), (x8_1), (wrap64 (x8_1 + 20)), (by first | rfl | (simp; done) | (simp [*]; done)), (by first | rfl | (simp; done) | (simp [*]; done)), H', ⟨by have := HK1.out; omega⟩, ⟨by exact RS <| HO_0.out⟩, ⟨by exact Ho.KS HK.out⟩, ⟨by exact eS HB.out⟩⟩
   rw [if_neg c4] at H
   have c4b0 : decide (x8_1 ≤ a1) = false := decide_eq_false c4
   clear c4
   replace H := Option.bind_eq_some_iff.mp H
   obtain ⟨t102, A80, H⟩ := H
   (try dsimp only at H)
   have A8 := Ak A80
   clear A80
   have H' := Ak H
   clear H
   obtain ⟨Ao9, co9, eo9⟩ := Kd.R_slice HO_0.out
   subst eo9
   go_wp2_with (first | ((with_reducible refine gate_callee (f := 84) rfl ?_); refine goesL_ (some 27) rfl rfl Tryz.func84 (by kernel_rfl) rfl #[.slice Ao9 x0_1.length co9, .int .i64 x7_1, .int .i64 a1, .func (.func 42) #[] #[]] rfl (by (try simp only [List.map_toArray, List.map_cons, List.map_nil]); first | done | rfl | (simp only [List.length_drop, List.length_take]; rfl)) ?_; (refine (Fa.calls k1 (fun k_ => some k_ = (.slice Ao9 x0_1.length co9 : Value).ownBlock) (.slice Ao9 x0_1.length co9) x0_1 x7_1 a1  t102 w0 _ ?side1 ?side2 A8.out).mono ?_); (case side1 => exact eS HB.out); (case side2 => exact Kd.R_tight rfl HO_0.out); rintro e w10 ⟨rfl, hy0, hb, hkp⟩; refine ⟨_, rfl, ?_⟩; have n0_ := Ak (Kd.R_reok rfl hy0 (fun k_ e_ => HO_0.out.1 k_ e_)); have n1_ := Ak (Kept.then_ (S := (fun k_ => P0_ k_)) (by exact Ho.KS HK.out) hkp (fun k_ hs_ => (fun e_ => (HO_0.out.1 k_ e_.symm)) hs_)); have n2_ := Ak (hb); clear HO_0; clear HK; clear HB; have HO_0 := n0_; have HK := n1_; have HB := n2_; clear n0_ n1_ n2_; (try clear hb); (try clear hkp); (try clear hy0)))
   (try simp only [Act.put, List.setIfInBounds_toArray, List.set_cons_zero, List.set_cons_succ])
   go_loopg [6] k1 (fun kq v6 w' => ∃ (x6_2 : Int), v6 = .int .i64 x6_2 ∧ Aside0 (Fb.l1 kq t102 a1 x6_2 = some r) ∧ Aside0 (kq ≤ k1) ∧ Aside0 (Kd.R k34 34 w' w0.heap.size (fun k_ => (P0_ k_ ∨ w.heap.size ≤ k_)) (.slice Ao9 x0_1.length co9) t102) ∧ Aside0 (Kept w w' (fun k_ => P0_ k_)) ∧ Aside0 (Below w0.heap.size w0 w'))
   case atStart => exact ⟨(20), (by first | rfl | (simp; done) | (simp [*]; done)), H', ⟨Nat.le_refl _⟩, ⟨by exact RS <| HO_0.out⟩, ⟨by exact Ho.KS HK.out⟩, ⟨by exact eS HB.out⟩⟩
   case round =>
    clear H'; (try clear p2); (try clear c4); (try clear c4b0); (try clear c6); (try clear p6); (try clear c8); (try clear p2)
    obtain ⟨x6_2, rfl, HA, HK2, HO_0, HK, HB⟩ := hrel
    have hl0_2 := (Kd.R_reads' HO_0.out).1
    rw [hl0_2] at HO_0
    (try simp only [hl0_2])
    cases gk with
    | zero => exact absurd HA.out (by simp [Fb.l1])
    | succ k2 =>
     have H := HA.out
     clear HA
     simp only [Fb.l1] at H
     by_cases c11 : x6_2 < a1
     rotate_left
     ·rw [if_neg c11] at H
      have c11b0 : decide (x6_2 < a1) = false := decide_eq_false c11
      clear c11
      obtain rfl := Option.some.inj H
      go_wp2
      first | go_end0 | ((try simp only [Exit.inBlock, Exit.then]); refine bodyPost_ret (results_none rfl _ _ _) rfl ?_)
      exact ⟨by first | rfl | (simp [errW_none, errW_some] <;> rfl) | (simp [*, errW_none, errW_some] <;> rfl), (by first | exact (by exact RS <| HO_0.out) | (simp only [hl0_2]; exact (by exact RS <| HO_0.out))), by exact eS HB.out, by exact Ho.KS HK.out⟩
     rw [if_pos c11] at H
     have c11b0 : decide (x6_2 < a1) = true := decide_eq_true c11
     clear c11
     have H' := Ak H
     clear H
     go_wp2
     (try simp only [Act.put, List.setIfInBounds_toArray, List.set_cons_zero, List.set_cons_succ])
     go_loopg [7, 8] k2 (fun kq v7 v8 w' => ∃ (x7_3 : Int) (x8_3 : Int), v7 = .int .i64 x7_3 ∧ v8 = .int .i64 x8_3 ∧ Aside0 (Fb.l2 kq t102 a1 x6_2 x7_3 x8_3 = some r) ∧ Aside0 (kq ≤ k2) ∧ Aside0 (Kd.R k34 34 w' w0.heap.size (fun k_ => (P0_ k_ ∨ w.heap.size ≤ k_)) (.slice Ao9 t102.length co9) t102) ∧ Aside0 (Kept w w' (fun k_ => P0_ k_)) ∧ Aside0 (Below w0.heap.size w0 w'))
     case atStart => exact ⟨(0), (wrap64 (2 * x6_2)), (by first | rfl | (simp; done) | (simp [*]; done)), (by first | rfl | (simp; done) | (simp [*]; done)), H', ⟨Nat.le_refl _⟩, ⟨by (try simp only [hl0_2]); exact RS <| HO_0.out⟩, ⟨by exact Ho.KS HK.out⟩, ⟨by exact eS HB.out⟩⟩
     case round =>
      clear H'; (try clear c1); (try clear p2); (try clear c4); (try clear c4b0); (try clear c6); (try clear p6); (try clear c8); (try clear c11); (try clear c11b0); (try clear p2); (try clear p6)
      obtain ⟨x7_3, x8_3, rfl, rfl, HA, HK3, HO_0, HK, HB⟩ := hrel
      cases gk with
      | zero => exact absurd HA.out (by simp [Fb.l2])
      | succ k3 =>
       have H := HA.out
       clear HA
       simp only [Fb.l2] at H
       by_cases c12 : x8_3 ≤ a1
       ·rw [if_pos c12] at H
        exact absurd H (by simp)
       rw [if_neg c12] at H
       have c12b0 : decide (x8_3 ≤ a1) = false := decide_eq_false c12
       clear c12
       by_cases c13 : (wrap64 (x7_3 + x6_2)) < a1
       ·rw [if_pos c13] at H
        exact absurd H (by simp)
       rw [if_neg c13] at H
       have c13b0 : decide ((wrap64 (x7_3 + x6_2)) < a1) = false := decide_eq_false c13
       clear c13
       have H' := Ak H
       clear H
       go_wp2
       (try simp only [← hl0_2])
       go_roundg k3
       case measure => have := HK1.out; have := HK2.out; have := HK3.out; omega
       case rel => exact ⟨(wrap64 (x6_2 * 2)), (by first | rfl | (simp; done) | (simp [*]; done)), H', ⟨by have := HK1.out; have := HK2.out; have := HK3.out; omega⟩, ⟨by (try simp only [hl0_2]); exact RS <| HO_0.out⟩, ⟨by exact Ho.KS HK.out⟩, ⟨by exact eS HB.out⟩⟩
end Go.Proofs.YtahfahlbdgbfeaaGreatDoor.X

namespace Go.Proofs.YtahfahlbdgbfeaaGreatDoor.X
open Ho (bS eS RS Ak Cs Ct Cd)
open Go.RowKit Go.Proofs.YtahfahlbdgbfeaaGreatDoorW.PrintWords Go.Proofs.YtahfahlbdgbfeaaGreatDoorW.PrintLast Go.Proofs.YtahfahlbdgbfeaaGreatDoorW.PrintMore
attribute [local go_sem] max2_int min2_int max_two min_two max_three min_three max_four min_four   -- for this text's walks alone
set_option linter.unusedVariables false
set_option linter.unusedSimpArgs false
open Sq (I O Z Dz)
/-! ### Fo: function 100004 -/
def Fo.f (k : Nat) (l0 : List (S34))  : Option ((List (S34))) := (Fb.f k l0 (l0.length : Int)).bind fun t101 => (some t101)
theorem Fo.mono : ∀ a0 k, LeO (Fo.f k a0) (Fo.f (k + 1) a0) := by
  intro a0 k
  unfold Fo.f
  repeat' first | (with_reducible first | exact Fb.mono _ _ _ | exact LeO.refl _ | exact LeO.none _ | refine LeO.ite ?_ ?_ | refine LeO.bind ?_ (fun _ => ?_)) | exact Fb.mono _ _ _ | exact LeO.none _ | refine LeO.ite ?_ ?_ | refine LeO.bind ?_ (fun _ => ?_)
set_option maxHeartbeats 8000000 in
set_option maxRecDepth 100000 in
theorem Fo.calls (k : Nat) (P0_ : Nat → Prop) (u9000_ : Value) (l0 : List (S34))  (r : List (S34)) (w0 w : World) (hB : Below w0.heap.size w0 w) (ho0 : Kd.R k34 34 w w0.heap.size P0_ u9000_ l0) (h : Fo.f k l0 = some r) :
  Calls Tryz.prog 41 #[u9000_, .func (.func 42) #[] #[]] w fun e w' => e = .returned (.tuple #[]) ∧ Kd.R k34 34 w' w0.heap.size (fun k_ => (P0_ k_ ∨ w.heap.size ≤ k_)) u9000_ r ∧ Below w0.heap.size w0 w' ∧ Kept w w' (fun k_ => P0_ k_) := by
 have HO0 := Ak (show Kd.R k34 34 w w0.heap.size (fun k_ => (P0_ k_ ∨ w.heap.size ≤ k_)) u9000_ l0 from Kd.R_mono ho0 (fun k_ hk => (.inl hk)))
 have HK := Ak (Kept.refl w (fun k_ => P0_ k_))
 have HW0 := Ak hB.size
 have HB := Ak hB
 clear hB
 have H : ((Fb.f k l0 (l0.length : Int)).bind fun t101 => (some t101)) = some r := h
 clear h
 replace H := Option.bind_eq_some_iff.mp H
 obtain ⟨t101, A30, H⟩ := H
 replace H : (some t101) = some r := H
 have A3 := Ak A30
 clear A30
 obtain rfl := Option.some.inj H
 obtain ⟨Ao4, co4, eo4⟩ := Kd.R_slice HO0.out
 subst eo4
 go_enter Tryz.func41, Tryz.ntmps41
 go_wp2_with (first | ((with_reducible refine gate_callee (f := 68) rfl ?_); refine goesL_ (some 8) rfl rfl Tryz.func68 (by kernel_rfl) rfl #[.slice Ao4 l0.length co4, .int .i64 (l0.length : Int), .func (.func 42) #[] #[]] rfl (by (try simp only [List.map_toArray, List.map_cons, List.map_nil]); first | done | rfl | (simp only [List.length_drop, List.length_take]; rfl)) ?_; (refine (Fb.calls k (fun k_ => some k_ = (.slice Ao4 l0.length co4 : Value).ownBlock) (.slice Ao4 l0.length co4) l0 (l0.length : Int)  t101 w0 _ ?side1 ?side2 A3.out).mono ?_); (case side1 => exact eS HB.out); (case side2 => exact Kd.R_tight rfl HO0.out); rintro e w5 ⟨rfl, hy0, hb, hkp⟩; refine ⟨_, rfl, ?_⟩; have n0_ := Ak (Kd.R_reok rfl hy0 (fun k_ e_ => HO0.out.1 k_ e_)); have n1_ := Ak (Kept.then_ (S := (fun k_ => P0_ k_)) (by exact Ho.KS HK.out) hkp (fun k_ hs_ => (fun e_ => (HO0.out.1 k_ e_.symm)) hs_)); have n2_ := Ak (hb); clear HO0; clear HK; clear HB; have HO0 := n0_; have HK := n1_; have HB := n2_; clear n0_ n1_ n2_; (try clear hb); (try clear hkp); (try clear hy0)))
 first | go_end0 | ((try simp only [Exit.inBlock, Exit.then]); refine bodyPost_ret (results_none rfl _ _ _) rfl ?_)
 exact ⟨by first | rfl | (simp [errW_none, errW_some] <;> rfl) | (simp [*, errW_none, errW_some] <;> rfl), by exact RS <| HO0.out, by exact eS HB.out, by exact Ho.KS HK.out⟩
end Go.Proofs.YtahfahlbdgbfeaaGreatDoor.X

namespace Go.Proofs.YtahfahlbdgbfeaaGreatDoor.X
open Ho (bS eS RS Ak Cs Ct Cd)
open Go.RowKit Go.Proofs.YtahfahlbdgbfeaaGreatDoorW.PrintWords Go.Proofs.YtahfahlbdgbfeaaGreatDoorW.PrintLast Go.Proofs.YtahfahlbdgbfeaaGreatDoorW.PrintMore
attribute [local go_sem] max2_int min2_int max_two min_two max_three min_three max_four min_four   -- for this text's walks alone
set_option linter.unusedVariables false
set_option linter.unusedSimpArgs false
attribute [local go_sem ↓] Ho.isSome_setCell_   -- a store leaves all places there
/-! ### Faa: function 12 -/
def Faa.j0 : Nat → List (S34) → Bool → Int → Option (List Int × Bool)
  | 0, _, _, _ => none
  | k + 1, x0, x14, x103000 => if x14 = true then (some (([] : List Int), false)) else ((Fax.f x0).bind fun t105 => ((Fg.f k t105 x103000).bind fun t108 => ((Fo.f k t108).bind fun t111 => ((Fz.f k t111).bind fun t112 => (some (t112, true))))))
def Faa.f (k : Nat) (l0 : List (S34)) (a1 : Int) : Option (List Int × Bool) := (Fi.f k l0).bind fun t103 => (if t103 = true then ((Fbd.f a1).bind fun t104 => (Faa.j0 k l0 (!t104) a1)) else (Faa.j0 k l0 true a1))
theorem Faa.mono_l : ∀ k, (∀ y0 y1 y2, LeO (Faa.j0 k y0 y1 y2) (Faa.j0 (k + 1) y0 y1 y2))
  | 0 => fun _ _ _ r h => by simp [Faa.j0] at h
  | k + 1 => by
    have ih0 := Faa.mono_l k
    · intro y0 y1 y2
      unfold Faa.j0
      repeat' first | (with_reducible first | exact ih0 _ _ _ | exact Fi.mono _ _ | exact Fz.mono _ _ | exact Fg.mono _ _ _ | exact Fo.mono _ _ | exact LeO.refl _ | exact LeO.none _ | refine LeO.ite ?_ ?_ | refine LeO.bind ?_ (fun _ => ?_)) | exact ih0 _ _ _ | exact Fi.mono _ _ | exact Fz.mono _ _ | exact Fg.mono _ _ _ | exact Fo.mono _ _ | exact LeO.none _ | refine LeO.ite ?_ ?_ | refine LeO.bind ?_ (fun _ => ?_)
theorem Faa.mono : ∀ a0 a1 k, LeO (Faa.f k a0 a1) (Faa.f (k + 1) a0 a1) := by
  intro a0 a1 k
  have ih0 := Faa.mono_l k
  unfold Faa.f
  repeat' first | (with_reducible first | exact ih0 _ _ _ | exact Fi.mono _ _ | exact Fz.mono _ _ | exact Fg.mono _ _ _ | exact Fo.mono _ _ | exact LeO.refl _ | exact LeO.none _ | refine LeO.ite ?_ ?_ | refine LeO.bind ?_ (fun _ => ?_)) | exact ih0 _ _ _ | exact Fi.mono _ _ | exact Fz.mono _ _ | exact Fg.mono _ _ _ | exact Fo.mono _ _ | exact LeO.none _ | refine LeO.ite ?_ ?_ | refine LeO.bind ?_ (fun _ => ?_)
set_option maxHeartbeats 8000000 in
set_option maxRecDepth 100000 in
theorem Faa.calls (k : Nat) (A0 : Option Addr) (c0 : Nat) (l0 : List (S34)) (a1 : Int) (r1 : List Int) (r2 : Bool) (w : World) (hr0 : Kd.C k34 w A0 l0.length l0) (hc0 : l0.length ≤ c0) (h : Faa.f k l0 a1 = some (r1, r2)) :
  Calls Tryz.prog 12 #[.slice A0 l0.length c0, .int .i64 a1] w fun e w' => ∃ v0_ : Value, e = .returned (.tuple #[v0_, .bool r2]) ∧ Kd.R (Kd.int .i64) 3 w' w.heap.size (fun _ => True) v0_ r1 ∧ Below w.heap.size w w' := by
 have HR0 := Ak hr0
 have HC0 := Ak hc0
 clear hr0 hc0
 have HB := Ak (Below.refl w.heap.size w)
 have H : ((Fi.f k l0).bind fun t103 => (if t103 = true then ((Fbd.f a1).bind fun t104 => (Faa.j0 k l0 (!t104) a1)) else (Faa.j0 k l0 true a1))) = some (r1, r2) := h
 clear h
 have HC3 := Ak H
 clear H
 go_enter Tryz.func12, Tryz.ntmps12
 go_upto_region 1 with (first | ((with_reducible refine gate_dst (N := 3) rfl ?_); refine box_event ?hg (N := 3) ?hd (cs := #[.int .i64 a1]) (t := 3) ?hr ?_; (case hd => rfl); (case hg => rfl); (case hr => first | (go_simp; done) | (go_simp; rfl)); intro gb102 hg w4 hbox hb; have n0_ := Ak (below_step (by exact eS HB.out) hb); have n1_ := Ak (hbox); have n2_ := Ak ((by rw [hg]; exact (below_size (by exact eS HB.out)) : w.heap.size ≤ gb102)); have n3_ := Ak ((by rw [hg]; exact (below_size (by exact eS HB.out)) : w.heap.size ≤ gb102)); clear HB; have HB := n0_; have BK102 := n1_; have GW102 := n2_; have GE102 := n3_; clear n0_ n1_ n2_ n3_; clear hb hbox hg))
 (try simp only [Act.put, List.setIfInBounds_toArray, List.set_cons_zero, List.set_cons_succ])
 go_cut [14] (fun v14 wc => ∃ (kq : Nat) (x14_2 : Bool), v14 = .bool x14_2 ∧ Aside0 (Faa.j0 kq l0 x14_2 a1 = some (r1, r2)) ∧ Aside0 (kq ≤ k) ∧ Aside0 (wc.heap[gb102]? = some (.cells #[.int .i64 a1] 3 (0, 0))) ∧ Aside0 (Below w.heap.size w wc))
 case first =>
  have H := HC3.out
  clear HC3
  replace H := Option.bind_eq_some_iff.mp H
  obtain ⟨t103, A50, H⟩ := H
  (try dsimp only at H)
  have A5 := Ak A50
  clear A50
  by_cases c6 : t103 = true
  rotate_left
  ·replace c6 := Bool.eq_false_iff.mpr c6
   subst c6
   have H1 : (Faa.j0 k l0 true a1) = some (r1, r2) := by rw [if_neg (show ¬ (false = true) by decide)] at H; exact H
   clear H
   have H := H1
   clear H1
   have H' := Ak H
   clear H
   go_wp2_with (first | ((with_reducible refine gate_callee (f := 10) rfl ?_); refine goesL_ (some 8) rfl rfl Tryz.func10 (by kernel_rfl) rfl #[.slice A0 l0.length c0] rfl (by (try simp only [List.map_toArray, List.map_cons, List.map_nil]); first | done | rfl | (simp only [List.length_drop, List.length_take]; rfl)) ?_; (with_reducible refine (Fi.calls k _ _ l0 false _ ?side1 ?side2 A5.out).mono ?_); (case side1 => repeat (first | exact (Kd.C_below HR0.out HB.out) | (with_reducible refine Kd.C_alloc ?_ _) | (with_reducible refine Kd.C_drewN ?_ _) | (with_reducible refine Kd.C_drew ?_))); (case side2 => exact HC0.out); rintro e w10 ⟨rfl, hb⟩; refine ⟨_, rfl, ?_⟩; have n0_ := Ak (blk_below (bS BK102.out) hb); have n1_ := Ak (below_step (by exact eS HB.out) hb); clear BK102; clear HB; have BK102 := n0_; have HB := n1_; clear n0_ n1_; (try clear hb); (try clear hb2); (try clear hk); (try clear hi)))
   go_meet
   case rel => exact ⟨_, (true), (by first | rfl | (simp; done) | (simp [*]; done)), H', ⟨by first | omega | exact Nat.le_refl _⟩, ⟨by exact bS BK102.out⟩, ⟨by exact eS HB.out⟩⟩
  subst c6
  have H1 : ((Fbd.f a1).bind fun t104 => (Faa.j0 k l0 (!t104) a1)) = some (r1, r2) := by rw [if_pos rfl] at H; exact H
  clear H
  have H := H1
  clear H1
  replace H := Option.bind_eq_some_iff.mp H
  obtain ⟨t104, A70, H⟩ := H
  (try dsimp only at H)
  have A7 := Ak A70
  clear A70
  have H' := Ak H
  clear H
  go_wp2_with (first | ((with_reducible refine gate_callee (f := 10) rfl ?_); refine goesL_ (some 8) rfl rfl Tryz.func10 (by kernel_rfl) rfl #[.slice A0 l0.length c0] rfl (by (try simp only [List.map_toArray, List.map_cons, List.map_nil]); first | done | rfl | (simp only [List.length_drop, List.length_take]; rfl)) ?_; (with_reducible refine (Fi.calls k _ _ l0 true _ ?side1 ?side2 A5.out).mono ?_); (case side1 => repeat (first | exact (Kd.C_below HR0.out HB.out) | (with_reducible refine Kd.C_alloc ?_ _) | (with_reducible refine Kd.C_drewN ?_ _) | (with_reducible refine Kd.C_drew ?_))); (case side2 => exact HC0.out); rintro e w8 ⟨rfl, hb⟩; refine ⟨_, rfl, ?_⟩; have n0_ := Ak (blk_below (bS BK102.out) hb); have n1_ := Ak (below_step (by exact eS HB.out) hb); clear BK102; clear HB; have BK102 := n0_; have HB := n1_; clear n0_ n1_; (try clear hb); (try clear hb2); (try clear hk); (try clear hi); have hcz9_0 : w8.cell? ⟨gb102, 0, none⟩ = some (.int .i64 a1) := (blk_cell BK102.out 0).trans rfl; have hfz9_0 := blk_frozen BK102.out 0) | (go_at_call 37; (with_reducible refine (Fbd.calls a1 t104 _ A7.out).mono ?_); rintro e w' ⟨rfl, ⟨nd, rfl⟩⟩))
  go_meet
  case rel => exact ⟨_, (!t104), (by first | rfl | (simp; done) | (simp [*]; done)), H', ⟨by first | omega | exact Nat.le_refl _⟩, ⟨by exact bS BK102.out⟩, ⟨by exact eS HB.out⟩⟩
 case rest =>
  clear HC3; (try clear c1); (try clear p2); (try clear c6); (try clear c10); (try clear hcz9_0); (try clear hfz9_0)
  obtain ⟨kq, x14_2, rfl, HA, HJ2, BK102, HB⟩ := hcut
  cases kq with
  | zero => exact absurd HA.out (by simp [Faa.j0])
  | succ kj2 =>
   have H := HA.out
   clear HA
   simp only [Faa.j0] at H
   by_cases c11 : x14_2 = true
   ·subst c11
    have H1 : (some (([] : List Int), false)) = some (r1, r2) := by rw [if_pos rfl] at H; exact H
    clear H
    have H := H1
    clear H1
    simp only [Option.some.injEq, Prod.mk.injEq] at H
    obtain ⟨rfl, rfl⟩ := H
    go_wp2
    go_ret2
    exact ⟨_, by first | rfl | (simp [errW_none, errW_some] <;> rfl) | (simp [*, errW_none, errW_some] <;> rfl), by first | exact Kd.R_nil _ _ _ _ _ | exact Kd.N_nil _ _ _ _ _ | exact Kd.V_nil _ _ _ _ _ | exact Kd.Q_nil _ _ _ _ _ | exact Kd.S_nil _ _ _ _ _, by exact eS HB.out⟩
   replace c11 := Bool.eq_false_iff.mpr c11
   subst c11
   have H1 : ((Fax.f l0).bind fun t105 => ((Fg.f kj2 t105 a1).bind fun t108 => ((Fo.f kj2 t108).bind fun t111 => ((Fz.f kj2 t111).bind fun t112 => (some (t112, true)))))) = some (r1, r2) := by rw [if_neg (show ¬ (false = true) by decide)] at H; exact H
   clear H
   have H := H1
   clear H1
   replace H := Option.bind_eq_some_iff.mp H
   obtain ⟨t105, A120, H⟩ := H
   (try dsimp only at H)
   have A12 := Ak A120
   clear A120
   replace H := Option.bind_eq_some_iff.mp H
   obtain ⟨t108, A130, H⟩ := H
   (try dsimp only at H)
   have A13 := Ak A130
   clear A130
   replace H := Option.bind_eq_some_iff.mp H
   obtain ⟨t111, A140, H⟩ := H
   (try dsimp only at H)
   have A14 := Ak A140
   clear A140
   replace H := Option.bind_eq_some_iff.mp H
   obtain ⟨t112, A150, H⟩ := H
   (try dsimp only at H)
   have A15 := Ak A150
   clear A150
   simp only [Option.some.injEq, Prod.mk.injEq] at H
   obtain ⟨rfl, rfl⟩ := H
   go_wp2_with (first | ((with_reducible refine gate_callee (f := 39) rfl ?_); refine goesL_ (some 16) rfl rfl Tryz.func39 (by kernel_rfl) rfl #[.slice A0 l0.length c0] rfl (by (try simp only [List.map_toArray, List.map_cons, List.map_nil]); first | done | rfl | (simp only [List.length_drop, List.length_take]; rfl)) ?_; (with_reducible refine (Fax.calls _ _ l0 t105 _ ?side1 ?side2 A12.out).mono ?_); (case side1 => repeat (first | exact (Kd.C_below HR0.out HB.out) | (with_reducible refine Kd.C_alloc ?_ _) | (with_reducible refine Kd.C_drewN ?_ _) | (with_reducible refine Kd.C_drew ?_))); (case side2 => exact HC0.out); rintro e w16 ⟨v106, rfl, ho0, hb⟩; refine ⟨_, rfl, ?_⟩; have n0_ := Ak (Kd.R_lower ho0 (below_size (by exact eS HB.out))); have n1_ := Ak (blk_below (bS BK102.out) hb); have n2_ := Ak (below_step (by exact eS HB.out) hb); clear BK102; clear HB; have HO107 := n0_; have BK102 := n1_; have HB := n2_; clear n0_ n1_ n2_; (try clear hb); (try clear hb2); (try clear hk); (try clear hi); (try clear ho0); obtain ⟨Ao17, co17, eo17⟩ := Kd.R_slice HO107.out; subst eo17) | ((with_reducible refine gate_callee (f := 38) rfl ?_); refine goesL_ (some 18) rfl rfl Tryz.func38 (by kernel_rfl) rfl #[.slice Ao17 t105.length co17, .func (.func 40) #[] #[.pointer (some ⟨gb102, 0, none⟩)]] rfl (by (try simp only [List.map_toArray, List.map_cons, List.map_nil]); first | done | rfl | (simp only [List.length_drop, List.length_take]; rfl)) ?_; (refine (Fg.calls kj2 (fun k_ => some k_ = (.slice Ao17 t105.length co17 : Value).ownBlock) (.slice Ao17 t105.length co17) t105 gb102 a1 t108 w _ ?side1 ?side2 ?side3 A13.out).mono ?_); (case side1 => exact eS HB.out); (case side2 => exact Kd.R_tight rfl HO107.out); (case side3 => exact bS BK102.out); rintro e w18 ⟨v109, rfl, ho0, hb, hkp⟩; refine ⟨_, rfl, ?_⟩; have n0_ := Ak (blk_kept (by exact bS BK102.out) hkp (fun hs_ => (fun e_ => (Kd.R_ne HO107.out BK102.out (by decide)) e_) hs_)); have n1_ := Ak (Kd.R_mono (ok' := fun k_ => True) ho0 (fun k_ hk_ => trivial)); have n2_ := Ak (hb); clear BK102; clear HB; clear HO107; have BK102 := n0_; have HO110 := n1_; have HB := n2_; clear n0_ n1_ n2_; (try clear hb); (try clear hkp); (try clear ho0); obtain ⟨Ao19, co19, eo19⟩ := Kd.R_slice HO110.out; subst eo19) | ((with_reducible refine gate_callee (f := 41) rfl ?_); refine goesL_ (some 20) rfl rfl Tryz.func41 (by kernel_rfl) rfl #[.slice Ao19 t108.length co19, .func (.func 42) #[] #[]] rfl (by (try simp only [List.map_toArray, List.map_cons, List.map_nil]); first | done | rfl | (simp only [List.length_drop, List.length_take]; rfl)) ?_; (refine (Fo.calls kj2 (fun k_ => some k_ = (.slice Ao19 t108.length co19 : Value).ownBlock) (.slice Ao19 t108.length co19) t108  t111 w _ ?side1 ?side2 A14.out).mono ?_); (case side1 => exact eS HB.out); (case side2 => exact Kd.R_tight rfl HO110.out); rintro e w20 ⟨rfl, hy0, hb, hkp⟩; refine ⟨_, rfl, ?_⟩; have n0_ := Ak (blk_kept (by exact bS BK102.out) hkp (fun hs_ => (fun e_ => (Kd.R_ne HO110.out BK102.out (by decide)) e_) hs_)); have n1_ := Ak (Kd.R_reok rfl hy0 (fun k_ e_ => HO110.out.1 k_ e_)); have n2_ := Ak (hb); clear BK102; clear HO110; clear HB; have BK102 := n0_; have HO110 := n1_; have HB := n2_; clear n0_ n1_ n2_; (try clear hb); (try clear hkp); (try clear hy0)) | ((with_reducible refine gate_callee (f := 43) rfl ?_); refine goesL_ (some 22) rfl rfl Tryz.func43 (by kernel_rfl) rfl #[.slice Ao19 t111.length co19] rfl (by (try simp only [List.map_toArray, List.map_cons, List.map_nil]); first | done | (rw [show t111.length = t108.length from (Kd.R_reads' HO110.out).1.symm] <;> rfl) | rfl | (simp only [List.length_drop, List.length_take]; rfl)) ?_; (with_reducible refine (Fz.calls kj2 _ _ t111 t112 _ ?side1 ?side2 A15.out).mono ?_); (case side1 => repeat (first | exact (Kd.R_reads' HO110.out).2.2 | (with_reducible refine Kd.C_alloc ?_ _) | (with_reducible refine Kd.C_drewN ?_ _) | (with_reducible refine Kd.C_drew ?_))); (case side2 => rw [show t111.length = t108.length from (Kd.R_reads' HO110.out).1.symm]; exact (Kd.R_reads' HO110.out).2.1); rintro e w21 ⟨v113, rfl, ho0, hb⟩; refine ⟨_, rfl, ?_⟩; have n0_ := Ak (Kd.R_below (by exact RS <| HO110.out) hb); have n1_ := Ak (Kd.R_lower (Kd.R_newB ho0 (bS BK102.out)) (below_size (by exact eS HB.out))); have n2_ := Ak (blk_below (bS BK102.out) hb); have n3_ := Ak (below_step (by exact eS HB.out) hb); clear HO110; clear BK102; clear HB; have HO110 := n0_; have HO114 := n1_; have BK102 := n2_; have HB := n3_; clear n0_ n1_ n2_ n3_; (try clear hb); (try clear hb2); (try clear hk); (try clear hi); (try clear ho0)))
   go_ret2
   exact ⟨_, by first | rfl | (simp [errW_none, errW_some] <;> rfl) | (simp [*, errW_none, errW_some] <;> rfl), by exact RS <| Kd.R_mono HO114.out (fun _ hk => trivial), by exact eS HB.out⟩
end Go.Proofs.YtahfahlbdgbfeaaGreatDoor.X

namespace Go.Proofs
open Go.Shelf
def Tryz.sort27_ren : Go.Shelf.Ren := ⟨fun | 6 => 27 | 15 => 62 | 14 => 61 | 28 => 82 | 29 => 83 | 20 => 74 | 21 => 75 | 22 => 76 | 23 => 77 | 24 => 78 | 25 => 79 | 26 => 80 | 27 => 81 | 46 => 93 | 47 => 94 | 48 => 95 | 49 => 96 | 50 => 97 | 57 => 103 | n => n, fun | 22 => 26 | 24 => 9 | 25 => 53 | 3 => 3 | 39 => 76 | 0 => 0 | 53 => 89 | 55 => 65 | 4 => 4 | 46 => 83 | 45 => 82 | 50 => 44 | 5 => 5 | 9 => 9 | 66 => 100 | 70 => 104 | 76 => 110 | 77 => 111 | n => n, fun | n => n⟩
theorem Tryz.sort27 : Go.Proofs.SlLaysF.n6 Tryz.prog Tryz.sort27_ren := {
  mixed := by kernel_rfl
  f6 := ⟨Tryz.f27.name, by decide, Tryz.func27.trans (congrArg some (by kernel_rfl))⟩
  f14 := ⟨Tryz.f61.name, by decide, Tryz.func61.trans (congrArg some (by kernel_rfl))⟩
  f15 := Tryz.func62.trans (congrArg some (by kernel_rfl))
  f20 := ⟨Tryz.f74.name, by decide, Tryz.func74.trans (congrArg some (by kernel_rfl))⟩
  f21 := ⟨Tryz.f75.name, by decide, Tryz.func75.trans (congrArg some (by kernel_rfl))⟩
  f22 := ⟨Tryz.f76.name, by decide, Tryz.func76.trans (congrArg some (by kernel_rfl))⟩
  f23 := ⟨Tryz.f77.name, by decide, Tryz.func77.trans (congrArg some (by kernel_rfl))⟩
  f24 := ⟨Tryz.f78.name, by decide, Tryz.func78.trans (congrArg some (by kernel_rfl))⟩
  f25 := ⟨Tryz.f79.name, by decide, Tryz.func79.trans (congrArg some (by kernel_rfl))⟩
  f26 := ⟨Tryz.f80.name, by decide, Tryz.func80.trans (congrArg some (by kernel_rfl))⟩
  f27 := ⟨Tryz.f81.name, by decide, Tryz.func81.trans (congrArg some (by kernel_rfl))⟩
  f28 := Tryz.func82.trans (congrArg some (by kernel_rfl))
  f29 := Tryz.func83.trans (congrArg some (by kernel_rfl))
  f46 := ⟨Tryz.f93.name, by decide, Tryz.func93.trans (congrArg some (by kernel_rfl))⟩
  f47 := Tryz.func94.trans (congrArg some (by kernel_rfl))
  f48 := Tryz.func95.trans (congrArg some (by kernel_rfl))
  f49 := ⟨Tryz.f96.name, by decide, Tryz.func96.trans (congrArg some (by kernel_rfl))⟩
  f50 := ⟨Tryz.f97.name, by decide, Tryz.func97.trans (congrArg some (by kernel_rfl))⟩
  f57 := ⟨Tryz.f103.name, by decide, Tryz.func103.trans (congrArg some (by kernel_rfl))⟩
  t0 := Tryz.underlying0
  a0 := Tryz.isAgg0
  z0 := Tryz.sizeOf0
  v0 := Tryz.zeroValue0
  t3 := Tryz.underlying3
  a3 := Tryz.isAgg3
  z3 := Tryz.sizeOf3
  v3 := Tryz.zeroValue3
  t4 := Tryz.underlying4
  a4 := Tryz.isAgg4
  z4 := Tryz.sizeOf4
  v4 := Tryz.zeroValue4
  t5 := Tryz.underlying5
  a5 := Tryz.isAgg5
  z5 := Tryz.sizeOf5
  v5 := Tryz.zeroValue5
  t9 := Tryz.underlying9
  a9 := Tryz.isAgg9
  z9 := Tryz.sizeOf9
  v9 := Tryz.zeroValue9
  t22 := Tryz.underlying26
  a22 := Tryz.isAgg26
  z22 := Tryz.sizeOf26
  v22 := Tryz.zeroValue26
  a24 := Tryz.isAgg9
  z24 := Tryz.sizeOf9
  t25 := Tryz.underlying53
  a25 := Tryz.isAgg53
  z25 := Tryz.sizeOf53
  v25 := Tryz.zeroValue53
  t39 := Tryz.underlying76
  a39 := Tryz.isAgg76
  z39 := Tryz.sizeOf76
  v39 := Tryz.zeroValue76
  t45 := Tryz.underlying82
  a45 := Tryz.isAgg82
  z45 := Tryz.sizeOf82
  v45 := Tryz.zeroValue82
  t46 := Tryz.underlying83
  a46 := Tryz.isAgg83
  z46 := Tryz.sizeOf83
  v46 := Tryz.zeroValue83
  t50 := Tryz.underlying44
  a50 := Tryz.isAgg44
  z50 := Tryz.sizeOf44
  v50 := Tryz.zeroValue44
  t53 := Tryz.underlying89
  a53 := Tryz.isAgg89
  z53 := Tryz.sizeOf89
  v53 := Tryz.zeroValue89
  t55 := Tryz.underlying65
  a55 := Tryz.isAgg65
  z55 := Tryz.sizeOf65
  v55 := Tryz.zeroValue65
  t66 := Tryz.underlying100
  a66 := Tryz.isAgg100
  z66 := Tryz.sizeOf100
  v66 := Tryz.zeroValue100
  t70 := Tryz.underlying104
  a70 := Tryz.isAgg104
  z70 := Tryz.sizeOf104
  v70 := Tryz.zeroValue104
  t76 := Tryz.underlying110
  a76 := Tryz.isAgg110
  z76 := Tryz.sizeOf110
  v76 := Tryz.zeroValue110
  t77 := Tryz.underlying111
  a77 := Tryz.isAgg111
  z77 := Tryz.sizeOf111
  v77 := Tryz.zeroValue111 }
end Go.Proofs

namespace Go.Proofs.YtahfahlbdgbfeaaGreatDoor.X
open Ho (bS eS RS Ak Cs Ct Cd)
open Go.RowKit Go.Proofs.YtahfahlbdgbfeaaGreatDoorW.PrintWords Go.Proofs.YtahfahlbdgbfeaaGreatDoorW.PrintLast Go.Proofs.YtahfahlbdgbfeaaGreatDoorW.PrintMore
attribute [local go_sem] max2_int min2_int max_two min_two max_three min_three max_four min_four   -- for this text's walks alone
set_option linter.unusedVariables false
set_option linter.unusedSimpArgs false
open Sq (I O Z Dz)
/-! ### Fba: function 64 -/
def Fba.f (a0 : ByteArray) : Option (Bool) := some (a0.toList != a0.toList)
set_option maxHeartbeats 8000000 in
set_option maxRecDepth 100000 in
theorem Fba.calls (a0 : ByteArray) (r : Bool) (w : World) (h : Fba.f a0 = some r) :
  Calls Tryz.prog 64 #[.string a0] w fun e w' => e = .returned (.bool r) ∧ Drawn0 w w' := by
 have H : (some (a0.toList != a0.toList)) = some r := h
 clear h
 obtain rfl := Option.some.inj H
 go_enter Tryz.func64, Tryz.ntmps64
 go_wp2
 go_ret
 exact ⟨by first | rfl | (simp; done) | (simp [*]; done), by repeat (first | exact Drawn0.refl _ | apply Drawn0.step)⟩
end Go.Proofs.YtahfahlbdgbfeaaGreatDoor.X

namespace Go.Proofs.YtahfahlbdgbfeaaGreatDoor.X
open Ho (bS eS RS Ak Cs Ct Cd)
open Go.RowKit Go.Proofs.YtahfahlbdgbfeaaGreatDoorW.PrintWords Go.Proofs.YtahfahlbdgbfeaaGreatDoorW.PrintLast Go.Proofs.YtahfahlbdgbfeaaGreatDoorW.PrintMore
attribute [local go_sem] max2_int min2_int max_two min_two max_three min_three max_four min_four   -- for this text's walks alone
set_option linter.unusedVariables false
set_option linter.unusedSimpArgs false
/-! ### Fau: function 31 -/
def Fau.f (a0 : ByteArray) (a1 : ByteArray) : Option (Int) := (Fba.f a0).bind fun t101 => ((Fba.f a1).bind fun t102 => (if t101 = true then (if t102 = true then (some 0) else (some (-1))) else (if t102 = true then (some 1) else (if (Op.bytesLess a0.toList a1.toList) = true then (some (-1)) else (if (Op.bytesLess a1.toList a0.toList) = true then (some 1) else (some 0))))))
theorem Fau.gtrL_ : ∀ x y : List UInt8, (!(Op.bytesLess x y || x == y)) = Op.bytesLess y x
  | [], [] => rfl
  | [], _ :: _ => rfl
  | _ :: _, [] => rfl
  | a :: x, b :: y => by
    have ih := Fau.gtrL_ x y
    simp only [Op.bytesLess]
    rcases Nat.lt_trichotomy a.toNat b.toNat with h | h | h
    · have h1 : a < b := h
      have h2 : ¬ b < a := fun h' => absurd (Nat.lt_trans h h') (Nat.lt_irrefl _)
      have h3 : (b == a) = false := by rw [beq_eq_false_iff_ne]; rintro rfl; exact Nat.lt_irrefl _ h
      simp [h1, h2, h3]
    · have h1 : a = b := UInt8.toNat_inj.mp h
      subst h1
      have h2 : ¬ a < a := fun h' => absurd h' (Nat.lt_irrefl _)
      rw [← ih]; simp [h2]
    · have h1 : b < a := h
      have h2 : ¬ a < b := fun h' => absurd (Nat.lt_trans h h') (Nat.lt_irrefl _)
      have h3 : (a == b) = false := by rw [beq_eq_false_iff_ne]; rintro rfl; exact Nat.lt_irrefl _ h
      simp [h1, h2, h3]
theorem Fau.gtr_ (t : TypeId) (a b : ByteArray) : binOp .gtr t (.string a) (.string b) = pure (.bool (Op.bytesLess b.toList a.toList)) := by
  rw [← Fau.gtrL_]; simp [binOp, Op.stringOp]
attribute [local go_sem] Fau.gtr_
set_option maxHeartbeats 8000000 in
set_option maxRecDepth 100000 in
theorem Fau.calls (a0 : ByteArray) (a1 : ByteArray) (r : Int) (w : World) (h : Fau.f a0 a1 = some r) :
  Calls Tryz.prog 31 #[.string a0, .string a1] w fun e w' => e = .returned (.int .i64 r) ∧ Drawn0 w w' := by
 have H : ((Fba.f a0).bind fun t101 => ((Fba.f a1).bind fun t102 => (if t101 = true then (if t102 = true then (some 0) else (some (-1))) else (if t102 = true then (some 1) else (if (Op.bytesLess a0.toList a1.toList) = true then (some (-1)) else (if (Op.bytesLess a1.toList a0.toList) = true then (some 1) else (some 0))))))) = some r := h
 clear h
 replace H := Option.bind_eq_some_iff.mp H
 obtain ⟨t101, A30, H⟩ := H
 (try dsimp only at H)
 have A3 := Ak A30
 clear A30
 replace H := Option.bind_eq_some_iff.mp H
 obtain ⟨t102, A40, H⟩ := H
 (try dsimp only at H)
 have A4 := Ak A40
 clear A40
 by_cases c5 : t101 = true
 subst c5
 have H1 : (if t102 = true then (some 0) else (some (-1))) = some r := by rw [if_pos rfl] at H; exact H
 clear H
 have H := H1
 clear H1
 by_cases c6 : t102 = true
 subst c6
 have H1 : (some 0) = some r := by rw [if_pos rfl] at H; exact H
 clear H
 have H := H1
 clear H1
 obtain rfl := Option.some.inj H
 have WAY0 := True.intro
 rotate_left
 replace c6 := Bool.eq_false_iff.mpr c6
 subst c6
 have H1 : (some (-1)) = some r := by rw [if_neg (show ¬ (false = true) by decide)] at H; exact H
 clear H
 have H := H1
 clear H1
 obtain rfl := Option.some.inj H
 have WAY1 := True.intro
 rotate_left
 replace c5 := Bool.eq_false_iff.mpr c5
 subst c5
 have H1 : (if t102 = true then (some 1) else (if (Op.bytesLess a0.toList a1.toList) = true then (some (-1)) else (if (Op.bytesLess a1.toList a0.toList) = true then (some 1) else (some 0)))) = some r := by rw [if_neg (show ¬ (false = true) by decide)] at H; exact H
 clear H
 have H := H1
 clear H1
 by_cases c7 : t102 = true
 subst c7
 have H1 : (some 1) = some r := by rw [if_pos rfl] at H; exact H
 clear H
 have H := H1
 clear H1
 obtain rfl := Option.some.inj H
 have WAY2 := True.intro
 rotate_left
 replace c7 := Bool.eq_false_iff.mpr c7
 subst c7
 have H1 : (if (Op.bytesLess a0.toList a1.toList) = true then (some (-1)) else (if (Op.bytesLess a1.toList a0.toList) = true then (some 1) else (some 0))) = some r := by rw [if_neg (show ¬ (false = true) by decide)] at H; exact H
 clear H
 have H := H1
 clear H1
 by_cases c8 : (Op.bytesLess a0.toList a1.toList) = true
 rw [if_pos c8] at H
 have c8b0 : (Op.bytesLess a0.toList a1.toList) = true := c8
 clear c8
 obtain rfl := Option.some.inj H
 have WAY3 := True.intro
 rotate_left
 rw [if_neg c8] at H
 have c8b0 : (Op.bytesLess a0.toList a1.toList) = false := by simpa using c8
 clear c8
 by_cases c9 : (Op.bytesLess a1.toList a0.toList) = true
 rw [if_pos c9] at H
 have c9b0 : (Op.bytesLess a1.toList a0.toList) = true := c9
 clear c9
 obtain rfl := Option.some.inj H
 have WAY4 := True.intro
 rotate_left
 rw [if_neg c9] at H
 have c9b0 : (Op.bytesLess a1.toList a0.toList) = false := by simpa using c9
 clear c9
 obtain rfl := Option.some.inj H
 have WAY5 := True.intro
 rotate_left
 all_goals
  go_enter Tryz.func31, Tryz.ntmps31
  go_wp2_with (first | ((first | guard_hyp WAY0 : True | guard_hyp WAY1 : True); ((with_reducible refine gate_callee (f := 64) rfl ?_); refine goesL_ (some 8) rfl rfl Tryz.func64 (by kernel_rfl) rfl #[.string a0] rfl (by (try simp only [List.map_toArray, List.map_cons, List.map_nil]); first | done | rfl | (simp only [List.length_drop, List.length_take]; rfl)) ?_; (with_reducible refine (Fba.calls a0 true _ A3.out).mono ?_); rintro e w' ⟨rfl, ⟨nd, rfl⟩⟩; refine ⟨_, rfl, ?_⟩)) | ((first | guard_hyp WAY0 : True | guard_hyp WAY2 : True); ((with_reducible refine gate_callee (f := 64) rfl ?_); refine goesL_ (some 10) rfl rfl Tryz.func64 (by kernel_rfl) rfl #[.string a1] rfl (by (try simp only [List.map_toArray, List.map_cons, List.map_nil]); first | done | rfl | (simp only [List.length_drop, List.length_take]; rfl)) ?_; (with_reducible refine (Fba.calls a1 true _ A4.out).mono ?_); rintro e w' ⟨rfl, ⟨nd, rfl⟩⟩; refine ⟨_, rfl, ?_⟩)) | ((first | guard_hyp WAY1 : True | guard_hyp WAY3 : True | guard_hyp WAY4 : True | guard_hyp WAY5 : True); ((with_reducible refine gate_callee (f := 64) rfl ?_); refine goesL_ (some 10) rfl rfl Tryz.func64 (by kernel_rfl) rfl #[.string a1] rfl (by (try simp only [List.map_toArray, List.map_cons, List.map_nil]); first | done | rfl | (simp only [List.length_drop, List.length_take]; rfl)) ?_; (with_reducible refine (Fba.calls a1 false _ A4.out).mono ?_); rintro e w' ⟨rfl, ⟨nd, rfl⟩⟩; refine ⟨_, rfl, ?_⟩)) | ((first | guard_hyp WAY2 : True | guard_hyp WAY3 : True | guard_hyp WAY4 : True | guard_hyp WAY5 : True); ((with_reducible refine gate_callee (f := 64) rfl ?_); refine goesL_ (some 8) rfl rfl Tryz.func64 (by kernel_rfl) rfl #[.string a0] rfl (by (try simp only [List.map_toArray, List.map_cons, List.map_nil]); first | done | rfl | (simp only [List.length_drop, List.length_take]; rfl)) ?_; (with_reducible refine (Fba.calls a0 false _ A3.out).mono ?_); rintro e w' ⟨rfl, ⟨nd, rfl⟩⟩; refine ⟨_, rfl, ?_⟩)))
  go_ret
  exact ⟨by first | rfl | (simp; done) | (simp [*]; done), by repeat (first | exact Drawn0.refl _ | apply Drawn0.step)⟩
end Go.Proofs.YtahfahlbdgbfeaaGreatDoor.X

namespace Go.Proofs.YtahfahlbdgbfeaaGreatDoor.X
open Ho (bS eS RS Ak Cs Ct Cd)
open Go.RowKit Go.Proofs.YtahfahlbdgbfeaaGreatDoorW.PrintWords Go.Proofs.YtahfahlbdgbfeaaGreatDoorW.PrintLast Go.Proofs.YtahfahlbdgbfeaaGreatDoorW.PrintMore
attribute [local go_sem] max2_int min2_int max_two min_two max_three min_three max_four min_four   -- for this text's walks alone
set_option linter.unusedVariables false
set_option linter.unusedSimpArgs false
open Sq (I O Z Dz)
/-! ### Fam: function 29 -/
def Fam.l0 : Nat → Int → List Int → Int → Int → Option (Int)
  | 0, _, _, _, _ => none
  | k + 1, x3, x6, x7, x8 => if x8 < x7 then (if 0 ≤ x8 then (if x8 < (x6.length : Int) then (if (rd x6 x8) = x3 then (Fam.l0 k x3 x6 x7 (wrap64 (x8 + 1))) else (some (rd x6 x8))) else (none)) else (none)) else (some x3)
def Fam.f (k : Nat) (l0 : List Int) : Option (Int) := Fam.l0 k 0 l0 (l0.length : Int) 0
theorem Fam.mono_l : ∀ k, (∀ y0 y1 y2 y3, LeO (Fam.l0 k y0 y1 y2 y3) (Fam.l0 (k + 1) y0 y1 y2 y3))
  | 0 => fun _ _ _ _ r h => by simp [Fam.l0] at h
  | k + 1 => by
    have ih0 := Fam.mono_l k
    · intro y0 y1 y2 y3
      unfold Fam.l0
      repeat' first | (with_reducible first | exact ih0 _ _ _ _ | exact LeO.refl _ | exact LeO.none _ | refine LeO.ite ?_ ?_ | refine LeO.bind ?_ (fun _ => ?_)) | exact ih0 _ _ _ _ | exact LeO.none _ | refine LeO.ite ?_ ?_ | refine LeO.bind ?_ (fun _ => ?_)
theorem Fam.mono : ∀ a0 k, LeO (Fam.f k a0) (Fam.f (k + 1) a0) := by
  intro a0 k
  have ih0 := Fam.mono_l k
  unfold Fam.f
  repeat' first | (with_reducible first | exact ih0 _ _ _ _ | exact LeO.refl _ | exact LeO.none _ | refine LeO.ite ?_ ?_ | refine LeO.bind ?_ (fun _ => ?_)) | exact ih0 _ _ _ _ | exact LeO.none _ | refine LeO.ite ?_ ?_ | refine LeO.bind ?_ (fun _ => ?_)
set_option maxHeartbeats 8000000 in
set_option maxRecDepth 100000 in
theorem Fam.calls (k : Nat) (A0 : Option Addr) (c0 : Nat) (l0 : List Int) (r : Int) (w : World) (hr0 : Kd.C (Kd.int .i64) w A0 l0.length l0) (hc0 : l0.length ≤ c0) (h : Fam.f k l0 = some r) :
  Calls Tryz.prog 29 #[.slice A0 l0.length c0] w fun e w' => e = .returned (.int .i64 r) ∧ Drawn0 w w' := by
 have HR0 := Ak hr0
 have HC0 := Ak hc0
 clear hr0 hc0
 have H : (Fam.l0 k 0 l0 (l0.length : Int) 0) = some r := h
 clear h
 have H' := Ak H
 clear H
 go_enter Tryz.func29, Tryz.ntmps29
 go_wp2
 go_loopg [8] k (fun kq v8 w' => ∃ (x8_1 : Int), v8 = .int .i64 x8_1 ∧ Aside0 (Fam.l0 kq 0 l0 (l0.length : Int) x8_1 = some r) ∧ Aside0 (kq ≤ k) ∧ Drawn0 w w')
 case atStart => exact ⟨(0), (by first | rfl | (simp; done) | (simp [*]; done)), H', ⟨Nat.le_refl _⟩, by repeat (first | exact Drawn0.refl _ | apply Drawn0.step)⟩
 case round =>
  clear H'
  obtain ⟨x8_1, rfl, HA, HK1, ⟨m1, rfl⟩⟩ := hrel
  cases gk with
  | zero => exact absurd HA.out (by simp [Fam.l0])
  | succ k1 =>
   have H := HA.out
   clear HA
   simp only [Fam.l0] at H
   by_cases c2 : x8_1 < (l0.length : Int)
   ·rw [if_pos c2] at H
    have c2b0 : decide (x8_1 < (l0.length : Int)) = true := decide_eq_true c2
    clear c2
    by_cases c3 : 0 ≤ x8_1
    ·rw [if_pos c3] at H
     have c3b0 : decide (0 ≤ x8_1) = true := decide_eq_true c3
     clear c3
     by_cases c4 : x8_1 < (l0.length : Int)
     ·rw [if_pos c4] at H
      have c4b0 : decide (x8_1 < (l0.length : Int)) = true := decide_eq_true c4
      clear c4
      by_cases c5 : (rd l0 x8_1) = 0
      ·rw [if_pos c5] at H
       have c5b0 : ((rd l0 x8_1) == 0) = true := beq_iff_eq.mpr c5
       have c5b1 : ((rd l0 x8_1) != 0) = false := bne_eq_false_iff_eq.mpr c5
       clear c5
       have H' := Ak H
       clear H
       have p101 : 0 ≤ (x8_1 : Int) := Dz
       have q101 : x8_1 < (l0.length : Int) := Dz
       obtain ⟨ad101, e101, hx101_0⟩ := Kd.at_int HR0.out x8_1 p101 q101
       cases e101
       replace p101 := eq_true p101; replace q101 := eq_true q101
       go_wp2
       go_roundg k1
       case measure => have := HK1.out; omega
       case rel => exact ⟨(wrap64 (x8_1 + 1)), (by first | rfl | (simp; done) | (simp [*]; done)), H', ⟨by have := HK1.out; omega⟩, by repeat (first | exact Drawn0.refl _ | apply Drawn0.step)⟩
      ·rw [if_neg c5] at H
       have c5b0 : ((rd l0 x8_1) == 0) = false := beq_eq_false_iff_ne.mpr c5
       have c5b1 : ((rd l0 x8_1) != 0) = true := bne_iff_ne.mpr c5
       obtain rfl := Option.some.inj H
       have p101 : 0 ≤ (x8_1 : Int) := Dz
       have q101 : x8_1 < (l0.length : Int) := Dz
       obtain ⟨ad101, e101, hx101_0⟩ := Kd.at_int HR0.out x8_1 p101 q101
       cases e101
       replace p101 := eq_true p101; replace q101 := eq_true q101
       go_wp2
       go_ret
       exact ⟨by first | rfl | (simp; done) | (simp [*]; done), by repeat (first | exact Drawn0.refl _ | apply Drawn0.step)⟩
     ·rw [if_neg c4] at H
      exact absurd H (by simp)
    ·rw [if_neg c3] at H
     exact absurd H (by simp)
   ·rw [if_neg c2] at H
    have c2b0 : decide (x8_1 < (l0.length : Int)) = false := decide_eq_false c2
    clear c2
    obtain rfl := Option.some.inj H
    go_wp2
    go_ret
    exact ⟨by first | rfl | (simp; done) | (simp [*]; done), by repeat (first | exact Drawn0.refl _ | apply Drawn0.step)⟩
end Go.Proofs.YtahfahlbdgbfeaaGreatDoor.X

namespace Go.Proofs.YtahfahlbdgbfeaaGreatDoor.X
open Ho (bS eS)
open Go.RowKit Go.Proofs.YtahfahlbdgbfeaaGreatDoorW.PrintWords Go.Proofs.YtahfahlbdgbfeaaGreatDoorW.PrintLast Go.Proofs.YtahfahlbdgbfeaaGreatDoorW.PrintMore
open Go.Maps Go.WideMaps
set_option linter.unusedVariables false
set_option linter.unusedSimpArgs false
theorem CbLaw : Keyed Tryz.prog 9 := string_keyed Tryz.underlying9
theorem CbZero (w : World) : (zeroValue 3).run Tryz.prog w = .ok (.int .i64 0) w := by kernel_rfl
/-- what the map holds at a text -/
def CbAt (D : DataW Unit) (x : ByteArray) : Int := match D.atKey (.string x.data.toList) (.lit (.int .i64 0)) with | .lit (.int _ c) => c | _ => 0
theorem CbAt_of {D : DataW Unit} {x : ByteArray} {c : Int} (h : D.atKey (.string x.data.toList) (.lit (.int .i64 0)) = .lit (.int .i64 c)) : CbAt D x = c := by simp only [CbAt, h]
theorem CbRow {w : World} {g e : Nat} {r1 r2 : Int} (h : w.heap[g]? = some (.cells #[.int .i64 r1, .int .i64 r2] e (0, 0))) : Kd.C (Kd.int .i64) w (some ⟨g, 0, none⟩) 2 [r1, r2] := by
  refine ⟨rfl, by omega, fun _ => ⟨_, rfl, fun j p hj => ⟨[.int .i64 p], rfl, rfl, fun i u hu => ?_⟩⟩⟩
  obtain rfl : i = 0 := by
    rcases i with _ | i
    · rfl
    · simp at hu
  obtain rfl : Value.int .i64 p = u := by simpa using hu
  rcases j with _ | _ | j
  · obtain rfl : r1 = p := by simpa using hj
    exact blk_cell h 0
  · obtain rfl : r2 = p := by simpa using hj
    exact blk_cell h 1
  · simp at hj
set_option maxHeartbeats 4000000 in
set_option maxRecDepth 100000 in
theorem Fbr.calls (k : Nat) (x y : ByteArray) (hx : x.size ≤ maxLen) (hy : y.size ≤ maxLen) (p : Addr) (b n : Nat) (D : DataW Unit) (W : World) (r1 r2 r : Int) (hc : W.cell? p = some (.map (some b))) (hown : W.ownsMap Tryz.prog 9 (plainElem Tryz.prog 3) b n D)
    (h1 : Fbc.f (CbAt D y) (CbAt D x) = some r1) (h2 : Fau.f x y = some r2) (h3 : Fam.f k [r1, r2] = some r) :
    Calls Tryz.prog 28 #[.string x, .string y, .pointer (some p)] W fun e w' => e = .returned (.int .i64 r) ∧ ∃ q os, w' = Sort.grow (W.drewN q) os := by
  have H1_ := Aside0.mk h1
  have H2_ := Aside0.mk h2
  have H3_ := Aside0.mk h3
  clear h1 h2 h3
  go_enter Tryz.func28, Tryz.ntmps28
  go_wp2_with (first
    | (at_lookup; refine wpList_lookup_own_int _ rfl _ _ 49 rfl 9 3 .i64 CbLaw Tryz.underlying49 Tryz.underlying3 (CbZero _) b n _ rfl hown _ _ rfl (keyOf_string_mk Tryz.underlying9 hy) ?_; intro cy hcy _)
    | (at_lookup; refine wpList_lookup_own_int _ rfl _ _ 49 rfl 9 3 .i64 CbLaw Tryz.underlying49 Tryz.underlying3 (CbZero _) b n _ rfl hown _ _ rfl (keyOf_string_mk Tryz.underlying9 hx) ?_; intro cx hcx _)
    | (go_at_call 30; (refine (Fbc.calls cy cx r1 _ (by rw [← CbAt_of hcy, ← CbAt_of hcx]; exact H1_.out)).mono ?_); rintro e w' ⟨rfl, ⟨⟨nd1, rfl⟩⟩⟩)
    | (go_at_call 31; (refine (Fau.calls x y r2 _ H2_.out).mono ?_); rintro e w' ⟨rfl, ⟨⟨nd2, rfl⟩⟩⟩)
    | (go_at_call 29; (refine (Fam.calls k _ 2 [r1, r2] r _ (CbRow (blk_new _ _)) (Nat.le_refl _) H3_.out).mono ?_); rintro e w' ⟨rfl, ⟨⟨nd3, rfl⟩⟩⟩)
    | go_in)
  go_ret
  exact ⟨rfl, nd1 + nd2 + nd3, #[_], by rw [Sort.alloc_eq_grow]; show Sort.grow ((W.drewN (nd1 + nd2)).drewN nd3) _ = _; rw [World.drewN_drewN]⟩
end Go.Proofs.YtahfahlbdgbfeaaGreatDoor.X

namespace Go.Proofs.YtahfahlbdgbfeaaGreatDoor.X
open Go.RowKit Go.Proofs.YtahfahlbdgbfeaaGreatDoorW.PrintWords Go.Proofs.YtahfahlbdgbfeaaGreatDoorW.PrintLast Go.Proofs.YtahfahlbdgbfeaaGreatDoorW.PrintMore
open Go.Sort
set_option linter.unusedVariables false
set_option linter.unusedSimpArgs false
section
variable {α : Type} [Inhabited α] {enc : α → Value} {w : World} {blk n : Nat} {d : Array α} {os : Array Obj}
theorem Csw_heap : (sortWorld enc w blk 0 n d os).heap = (w.heap.modify blk (onCells (putCells enc 0 d))) ++ os := rfl
theorem Csw_size : w.heap.size ≤ (sortWorld enc w blk 0 n d os).heap.size := by rw [Csw_heap, Array.size_append, Array.size_modify]; omega
theorem Csw_block {j : Nat} (hj : j < w.heap.size) (hne : j ≠ blk) : (sortWorld enc w blk 0 n d os).heap[j]? = w.heap[j]? := by
  rw [Csw_heap, Array.getElem?_append, if_pos (by rw [Array.size_modify]; exact hj), Array.getElem?_modify, if_neg (fun e => hne e.symm)]
theorem Csw_row {cur : Array Value} {e : TypeId} (h : w.heap[blk]? = some (.cells cur e (0, 0))) : (sortWorld enc w blk 0 n d os).heap[blk]? = some (.cells (putCells enc 0 d cur) e (0, 0)) := by
  rw [Csw_heap, Array.getElem?_append, if_pos (by rw [Array.size_modify]; exact blk_lt h), Array.getElem?_modify, if_pos rfl, h]; rfl
theorem Csw_take {cur : Array Value} (h : d.size ≤ cur.size) : (putCells enc 0 d cur).toList.take d.size = d.toList.map enc := by
  apply List.ext_getElem?
  intro i
  rw [List.getElem?_take, List.getElem?_map]
  by_cases hi : i < d.size
  · rw [if_pos hi, Array.getElem?_toList, Array.getElem?_toList]
    unfold putCells
    rw [Array.getElem?_mapIdx, Array.getElem?_eq_getElem (show i < cur.size by omega), Array.getElem?_eq_getElem hi]
    simp [hi]
  · rw [if_neg hi, List.getElem?_eq_none (by simpa using hi)]; rfl
theorem Csw_keep {base : Nat} {w0 : World} (h : Below base w0 w) (hb : base ≤ blk) (hl : base ≤ w.heap.size) : Below base w0 (sortWorld enc w blk 0 n d os) :=
  ⟨h.os, h.tape, h.output, Nat.le_trans h.size Csw_size, fun k hk => (Csw_block (by omega) (by omega)).trans (h.block k hk)⟩
end
theorem Csw_reps {α : Type} {enc : α → Value} : ∀ {ps : List α} {cs : List Value}, Reps (fun x c => c = [enc x]) 1 ps cs → cs = ps.map enc := by
  intro ps cs h
  apply List.ext_getElem?
  intro i
  rw [List.getElem?_map]
  rcases hp : ps[i]? with _ | p
  · rw [List.getElem?_eq_none (by have := List.getElem?_eq_none_iff.mp hp; have := h.1; omega)]; rfl
  · have h2 := h.2 i p hp
    rw [Nat.mul_one] at h2
    have h3 := congrArg (fun l => l[0]?) h2
    simpa [List.getElem?_take, List.getElem?_drop] using h3
theorem Csw_reps' {α : Type} {enc : α → Value} (ps : List α) : Reps (fun x c => c = [enc x]) 1 ps (ps.map enc) := by
  refine ⟨by simp, fun j p hp => ?_⟩
  rw [Nat.mul_one]
  apply List.ext_getElem?
  intro i
  rcases i with _ | i
  · simp [List.getElem?_take, List.getElem?_drop, hp]
  · simp [List.getElem?_take]
abbrev CbT := {s : ByteArray // s.size ≤ maxLen}
instance : Inhabited CbT := ⟨⟨ByteArray.empty, by decide⟩⟩
def CbE (s : CbT) : Value := .string s.val
def CbMk (s : ByteArray) : CbT := if h : s.size ≤ maxLen then ⟨s, h⟩ else default
theorem CbMk_val {s : ByteArray} (h : s.size ≤ maxLen) : (CbMk s).val = s := by unfold CbMk; rw [dif_pos h]
/-- sums falling, then names rising -/
def CbCf (D : DataW Unit) (x y : CbT) : Int := if CbAt D y.1 < CbAt D x.1 then -1 else if CbAt D x.1 < CbAt D y.1 then 1 else if Op.bytesLess x.1.toList y.1.toList = true then -1 else if Op.bytesLess y.1.toList x.1.toList = true then 1 else 0
theorem CbL_irrefl : ∀ x : List UInt8, Op.bytesLess x x = false
  | [] => rfl
  | a :: x => by
    have ih := CbL_irrefl x
    have h2 : ¬ a < a := fun h' => absurd h' (Nat.lt_irrefl _)
    simp [Op.bytesLess, h2, ih]
theorem CbL_trans : ∀ x y z : List UInt8, Op.bytesLess x y = true → Op.bytesLess y z = true → Op.bytesLess x z = true
  | _, [], _ => fun h => by cases ‹List UInt8› <;> simp [Op.bytesLess] at h
  | _, _ :: _, [] => fun _ h => by simp [Op.bytesLess] at h
  | [], _ :: _, _ :: _ => fun _ _ => rfl
  | a :: x, b :: y, c :: z => fun h1 h2 => by
    have ih := CbL_trans x y z
    simp only [Op.bytesLess, Bool.or_eq_true, decide_eq_true_eq, Bool.and_eq_true, beq_iff_eq] at h1 h2 ⊢
    rcases h1 with h1 | ⟨rfl, h1⟩
    · rcases h2 with h2 | ⟨rfl, h2⟩
      · exact .inl (show a.toNat < c.toNat from Nat.lt_trans (show a.toNat < b.toNat from h1) (show b.toNat < c.toNat from h2))
      · exact .inl h1
    · rcases h2 with h2 | ⟨rfl, h2⟩
      · exact .inl h2
      · exact .inr ⟨rfl, ih h1 h2⟩
theorem CbL_total (x y : List UInt8) (h1 : Op.bytesLess x y = false) (h2 : Op.bytesLess y x = false) : x = y := by
  have h := Fau.gtrL_ x y
  rw [h1, h2] at h
  simpa using h
theorem CbLt_iff (D : DataW Unit) (x y : CbT) : ltOf (CbCf D) x y = true ↔ (CbAt D y.1 < CbAt D x.1 ∨ CbAt D y.1 = CbAt D x.1 ∧ Op.bytesLess x.1.toList y.1.toList = true) := by
  unfold ltOf CbCf
  by_cases h1 : CbAt D y.1 < CbAt D x.1
  · simp [h1]
  · by_cases h2 : CbAt D x.1 < CbAt D y.1
    · simp [h1, h2]; omega
    · have h3 : CbAt D y.1 = CbAt D x.1 := by omega
      by_cases h4 : Op.bytesLess x.1.toList y.1.toList = true
      · simp [h3, h4]
      · by_cases h5 : Op.bytesLess y.1.toList x.1.toList = true <;> simp [h3, h4, h5]
theorem CbLt_total (D : DataW Unit) (x y : CbT) (h1 : ltOf (CbCf D) x y = false) (h2 : ltOf (CbCf D) y x = false) : x.1.toList = y.1.toList := by
  have g1 := mt (CbLt_iff D x y).mpr (by rw [h1]; decide)
  have g2 := mt (CbLt_iff D y x).mpr (by rw [h2]; decide)
  have e : CbAt D y.1 = CbAt D x.1 := by omega
  refine CbL_total _ _ ?_ ?_
  · exact Bool.eq_false_iff.mpr fun h => g1 (.inr ⟨e, h⟩)
  · exact Bool.eq_false_iff.mpr fun h => g2 (.inr ⟨e.symm, h⟩)
theorem CbSWO (D : DataW Unit) : SWO (ltOf (CbCf D)) where
  irrefl x := Bool.eq_false_iff.mpr fun h => by
    rcases (CbLt_iff D x x).mp h with h | ⟨_, h⟩
    · omega
    · rw [CbL_irrefl] at h; cases h
  trans x y z h1 h2 := by
    rw [CbLt_iff] at h1 h2 ⊢
    rcases h1 with h1 | ⟨e1, h1⟩ <;> rcases h2 with h2 | ⟨e2, h2⟩
    · exact .inl (by omega)
    · exact .inl (by omega)
    · exact .inl (by omega)
    · exact .inr ⟨by omega, CbL_trans _ _ _ h1 h2⟩
  ntrans x y z h1 h2 := by
    refine Bool.eq_false_iff.mpr fun h3 => ?_
    have g1 := mt (CbLt_iff D x y).mpr (by rw [h1]; decide)
    have g2 := mt (CbLt_iff D y z).mpr (by rw [h2]; decide)
    rw [CbLt_iff] at h3
    rcases h3 with h3 | ⟨e3, h3⟩
    · omega
    · have e1 : CbAt D y.1 = CbAt D x.1 := by omega
      have e2 : CbAt D z.1 = CbAt D y.1 := by omega
      have b1 : Op.bytesLess x.1.toList y.1.toList = false := Bool.eq_false_iff.mpr fun h => g1 (.inr ⟨e1, h⟩)
      have b2 : Op.bytesLess y.1.toList z.1.toList = false := Bool.eq_false_iff.mpr fun h => g2 (.inr ⟨e2, h⟩)
      rcases hb : Op.bytesLess y.1.toList x.1.toList with _ | _
      · have := CbL_total _ _ b1 hb
        rw [this, b2] at h3; cases h3
      · have := CbL_trans _ _ _ hb h3
        rw [b2] at this; cases this
theorem CbCmp (D : DataW Unit) (x y : CbT) : ∃ r1 r2, Fbc.f (CbAt D y.1) (CbAt D x.1) = some r1 ∧ Fau.f x.1 y.1 = some r2 ∧ Fam.f 5 [r1, r2] = some (CbCf D x y) := by
  refine ⟨if CbAt D y.1 < CbAt D x.1 then -1 else if CbAt D x.1 < CbAt D y.1 then 1 else 0, if Op.bytesLess x.1.toList y.1.toList = true then -1 else if Op.bytesLess y.1.toList x.1.toList = true then 1 else 0, ?_, ?_, ?_⟩
  · simp only [Fbc.f, Fbf.f, Option.bind_some, bne_self_eq_false, Bool.false_eq_true, if_false, gt_iff_lt]
    by_cases h1 : CbAt D y.1 < CbAt D x.1
    · simp only [if_pos h1]
    · by_cases h2 : CbAt D x.1 < CbAt D y.1
      · simp only [if_neg h1, if_pos h2]
      · simp only [if_neg h1, if_neg h2]
  · simp only [Fau.f, Fba.f, Option.bind_some, bne_self_eq_false, Bool.false_eq_true, if_false]
    by_cases h1 : Op.bytesLess x.1.toList y.1.toList = true
    · simp only [if_pos h1]
    · by_cases h2 : Op.bytesLess y.1.toList x.1.toList = true
      · simp only [if_neg h1, if_pos h2]
      · simp only [if_neg h1, if_neg h2]
  · have r0 : ∀ a b : Int, Go.Proofs.YtahfahlbdgbfeaaGreatDoorW.PrintWords.rd [a, b] 0 = a := fun _ _ => rfl
    have r1_ : ∀ a b : Int, Go.Proofs.YtahfahlbdgbfeaaGreatDoorW.PrintWords.rd [a, b] 1 = b := fun _ _ => rfl
    have q1 : ∀ b : Int, Fam.f 5 [-1, b] = some (-1) := fun b => by simp [Fam.f, Fam.l0, r0 _ _]
    have q2 : ∀ b : Int, Fam.f 5 [1, b] = some 1 := fun b => by simp [Fam.f, Fam.l0, r0 _ _]
    have q3 : ∀ b : Int, Fam.f 5 [0, b] = some b := fun b => by
      have w1 : wrap64 1 = 1 := by unfold wrap64; omega
      have w2 : wrap64 2 = 2 := by unfold wrap64; omega
      by_cases hb : b = 0
      · subst hb; simp [Fam.f, Fam.l0, r0, r1_, w1, w2]
      · simp [Fam.f, Fam.l0, r0, r1_, w1, w2, hb]
    unfold CbCf
    by_cases h1 : CbAt D y.1 < CbAt D x.1
    · simp only [if_pos h1]; exact q1 _
    · by_cases h2 : CbAt D x.1 < CbAt D y.1
      · simp only [if_neg h1, if_pos h2]; exact q2 _
      · simp only [if_neg h1, if_neg h2]; exact q3 _
theorem Cb_eg : ∀ args w, (callFunc 28 args).run Tryz.prog w = .ok (.enter 28 args) w := enters_of Tryz.func28 (by kernel_rfl) rfl
theorem CbLays {W : World} {b n pb g sz : Nat} {D : DataW Unit} (hM : W.ownsMap Tryz.prog 9 (plainElem Tryz.prog 3) b n D) (hP : W.heap[pb]? = some (.cells #[.map (some b)] 49 (0, 0))) (hb : b ≠ g) (hp : pb ≠ g) :
    CmpLays1 Tryz.prog 28 #[.pointer (some ⟨pb, 0, none⟩)] CbE (CbCf D) g 0 sz W := by
  intro m os dk hs x y
  obtain ⟨r1, r2, h1, h2, h3⟩ := CbCmp D x y
  refine (Fbr.calls 5 x.1 y.1 x.2 y.2 ⟨pb, 0, none⟩ b n D _ r1 r2 _ ?_ ?_ h1 h2 h3)
  · exact (blk_cell ((Csw_block (blk_lt hP) hp).trans hP) 0).trans rfl
  · obtain ⟨es, clock, hbl, r⟩ := hM
    exact ⟨es, clock, (Csw_block (blk_lt hbl) hb).trans hbl, r⟩
theorem CbBytes {x y : ByteArray} (h : x.toList = y.toList) : x = y := by
  rw [ByteArray.toList_eq, ByteArray.toList_eq] at h
  exact Go.WideShapes.bytes_inj h
def CbSorted (D : DataW Unit) (acc : List ByteArray) : List ByteArray := ((acc.map CbMk).mergeSort fun x y => !(ltOf (CbCf D)) y x).map Subtype.val
theorem CbSorted_len (D : DataW Unit) (acc : List ByteArray) : (CbSorted D acc).length = acc.length := by simp [CbSorted]
set_option maxHeartbeats 2000000 in
theorem CbSort {W w0 : World} {base b n pb : Nat} {D : DataW Unit} {acc : List ByteArray} {v : Value} (hR : Kd.R Kd.string 9 W base (fun k => k ≠ b) v acc) (hM : W.ownsMap Tryz.prog 9 (plainElem Tryz.prog 3) b n D) (hP : W.heap[pb]? = some (.cells #[.map (some b)] 49 (0, 0)))
    (hsz : ∀ s ∈ acc, s.size ≤ maxLen) (hn : acc.length ≤ 1001) (hB : Below base w0 W) (hbase : base ≤ W.heap.size) :
    Calls Tryz.prog 27 #[v, .func (.func 28) #[] #[.pointer (some ⟨pb, 0, none⟩)]] W fun e w' => e = .returned (.tuple #[]) ∧ Kd.R Kd.string 9 w' base (fun k => k ≠ b) v (CbSorted D acc) ∧ Below base w0 w' ∧ W.grownBy w' v.ownBlock := by
  obtain ⟨hok, inner, ⟨hlen, hown⟩, hreps⟩ := hR
  rcases hown with ⟨rfl, h0⟩ | ⟨g, cap, cur, rfl, hg, hblk, hncap, hcap, hcur, htake⟩
  · obtain rfl : acc = [] := List.length_eq_zero_iff.mp h0
    have hcon := AnyF.slices_SortFunc_none (P := Tryz.prog) (ρ := Tryz.sort27_ren) { Tryz.sort27 with } none 0 (.func (.func 28) #[] #[.pointer (some ⟨pb, 0, none⟩)]) W
    refine hcon.mono ?_
    rintro e w' ⟨rfl, rfl⟩
    rw [show CbSorted D [] = [] by simp [CbSorted]]
    exact ⟨rfl, ⟨hok, inner, ⟨hlen, .inl ⟨rfl, rfl⟩⟩, hreps⟩, hB, ⟨rfl, rfl, rfl, Nat.le_refl _, fun _ _ _ => rfl⟩⟩
  · have hgb : g ≠ b := hok g rfl
    have hgp : pb ≠ g := by
      rintro rfl
      rw [hP] at hblk
      injection hblk with h1
      injection h1 with h2 h3
      exact absurd h3 (by decide)
    have hin : inner = acc.map Value.string := Csw_reps hreps
    have hd : ((acc.map CbMk).toArray).size = acc.length := by simp
    have hval : (acc.map CbMk).map CbE = acc.map Value.string := by
      rw [List.map_map]
      exact List.map_congr_left fun s hs => by simp only [Function.comp, CbE, CbMk_val (hsz s hs)]
    have hH : Holds CbE W g 0 (acc.map CbMk).toArray := by
      intro j hj
      have hj' : j < acc.length := by rw [hd] at hj; exact hj
      refine ⟨?_, blk_frozen hblk (0 + j)⟩
      refine (blk_cell hblk (0 + j)).trans ?_
      have h1 := congrArg (fun l => l[j]?) (htake.trans (hin.trans hval.symm))
      simp only [List.getElem?_take] at h1
      rw [if_pos (show j < acc.length * Kd.string.sz by show j < acc.length * 1; omega), Array.getElem?_toList, List.getElem?_map, List.getElem?_eq_getElem (by simpa using hj')] at h1
      rw [Nat.zero_add, h1, getElem!_pos _ j hj]
      simp
    have hcon := Any.slices_SortFunc_total Tryz.sort27 CbE (fun _ => rfl) (CbCf D) (CbSWO D) 28 #[.pointer (some ⟨pb, 0, none⟩)] g 0 cap (acc.map CbMk).toArray W Cb_eg (CbLays hM hP hgb.symm hgp) hH (blk_lt hblk) (by rw [hd]; omega) (fun x y h1 h2 => Subtype.ext (CbBytes (CbLt_total D x y h1 h2)))
    rw [hd] at hcon
    refine hcon.mono ?_
    rintro e w' ⟨rfl, m, os, rfl⟩
    have hs : ((acc.map CbMk).mergeSort fun x y => !(ltOf (CbCf D)) y x).length = acc.length := by simp
    have hmap : (CbSorted D acc).map Value.string = ((acc.map CbMk).mergeSort fun x y => !(ltOf (CbCf D)) y x).map CbE := by unfold CbSorted; rw [List.map_map]; rfl
    refine ⟨rfl, ⟨hok, (CbSorted D acc).map Value.string, ⟨by rw [List.length_map]; exact (Nat.mul_one _).symm, .inr ⟨g, cap, _, by rw [CbSorted_len], hg, Csw_row hblk, by rw [CbSorted_len]; exact hncap, hcap, ?_, ?_⟩⟩, Csw_reps' _⟩, Csw_keep hB hg hbase, ⟨rfl, rfl, rfl, Csw_size, fun j hj hne => Csw_block hj (fun e_ => hne (by rw [e_]; rfl))⟩⟩
    · exact (by simp [putCells] : (putCells CbE 0 _ cur).size = cur.size).trans hcur
    · rw [hmap]
      have hcs : cur.size = cap * 1 := hcur
      have h2 := Csw_take (enc := CbE) (d := ((acc.map CbMk).mergeSort fun x y => !(ltOf (CbCf D)) y x).toArray) (cur := cur) (by rw [List.size_toArray, hs]; omega)
      rw [List.size_toArray, hs] at h2
      rw [CbSorted_len]
      refine Eq.trans ?_ h2
      show List.take (acc.length * 1) _ = _
      rw [Nat.mul_one]
end Go.Proofs.YtahfahlbdgbfeaaGreatDoor.X

namespace Go.Proofs.YtahfahlbdgbfeaaGreatDoor.X
open Ho (bS eS)
open Go.RowKit Go.Proofs.YtahfahlbdgbfeaaGreatDoorW.PrintWords Go.Proofs.YtahfahlbdgbfeaaGreatDoorW.PrintLast Go.Proofs.YtahfahlbdgbfeaaGreatDoorW.PrintMore
attribute [local go_sem] max2_int min2_int max_two min_two max_three min_three max_four min_four   -- for this text's walks alone
set_option linter.unusedVariables false
set_option linter.unusedSimpArgs false

attribute [local go_sem ↓] Ho.isSome_setCell_   -- a store leaves all places there
/-! ### Fv: function 6 -/
section Cb
open Ho (bS eS)
open Go.Maps Go.WideMaps
set_option linter.unusedVariables false
set_option linter.unusedSimpArgs false
/-- the key that a text is -/
abbrev CbKey (x : ByteArray) : Lit := .string x.data.toList
/-- one order more -/
def CbStep (s : DataW Unit × List ByteArray) (o : S34) : DataW Unit × List ByteArray :=
  (s.1.put (CbKey o.f1) (.lit (.int .i64 (wrap64 (CbAt s.1 o.f1 + o.f6)))), if Maps.has s.1 (CbKey o.f1) then s.2 else s.2 ++ [o.f1])
def CbRun (l : List S34) : DataW Unit × List ByteArray := l.foldl CbStep (.map [], [])
theorem CbRun_step {l : List S34} {kk : Nat} {o : S34} (h : l[kk]? = some o) : CbRun (l.take (kk + 1)) = CbStep (CbRun (l.take kk)) o := by
  unfold CbRun
  rw [List.take_add_one, h, Option.toList_some, List.foldl_append]
  rfl
theorem CbRun_len (l : List S34) : (CbRun l).2.length ≤ l.length := by
  unfold CbRun
  suffices h : ∀ (l : List S34) s, (l.foldl CbStep s).2.length ≤ s.2.length + l.length by simpa using h l (.map [], [])
  intro l
  induction l with
  | nil => intro s; simp
  | cons o l ih =>
    intro s
    simp only [List.foldl_cons, List.length_cons]
    refine Nat.le_trans (ih _) ?_
    unfold CbStep
    dsimp only
    split
    · omega
    · simp; omega
/-- the map's block, and what it holds -/
def CbM (es : Array (Value × Value × Nat)) : Prop := True
theorem CbFar {w : World} {g : Nat} {o : Obj} (h : w.heap[g]? = some o) {p : Addr} (hp : g ≠ p.block) (u : Value) : (w.setCell p u).heap[g]? = some o := (Below.heap_setCell w p u g hp).trans h
theorem CbMove {w w' : World} {b n : Nat} {D : DataW Unit} (h : w.ownsMap Tryz.prog 9 (plainElem Tryz.prog 3) b n D) (e : w'.heap[b]? = w.heap[b]?) : w'.ownsMap Tryz.prog 9 (plainElem Tryz.prog 3) b n D := by
  obtain ⟨es, clock, hb, r⟩ := h
  exact ⟨es, clock, e.trans hb, r⟩
section
variable {P : Program} {ops : Array Oper} {Q : Exit → Act → World → Prop} {rest : List Oper} {o : Oper} {a : Act}
theorem CbMake {W : World} (hgd : o.guard = none) (hop : o.op = .makeMap 49 none)
    (h : ∀ b, b = W.heap.size → ∀ w1, w1.ownsMap Tryz.prog 9 (plainElem (H := Unit) Tryz.prog 3) b 0 (.map []) → Below W.heap.size W w1 → b < w1.heap.size → wpList P ops Q rest (a.put o.dst (.map (some b))) w1) : wpList P ops Q (o :: rest) a W :=
  Kd.event_run hgd (by unfold execOp; rw [hop]; rfl) (h _ rfl _ (World.ownsMap_made _ _ _ _) (below_alloc (Below.refl _ _) _) (by simp))
end

theorem CbGen {P : Program} {ops : Array Oper} {Q : Exit → Act → World → Prop} {rest : List Oper} {a : Act} {W : World} {R : World → Prop} (h : R W) (k : ∀ w1, R w1 → wpList P ops Q rest a w1) : wpList P ops Q rest a W := k W h
theorem CbLt {w : World} {b n : Nat} {D : DataW Unit} (h : w.ownsMap Tryz.prog 9 (plainElem Tryz.prog 3) b n D) : b < w.heap.size := by
  obtain ⟨es, clock, hb, r⟩ := h
  exact blk_lt hb
theorem CbSet {w : World} {b n g : Nat} {D : DataW Unit} (h : w.ownsMap Tryz.prog 9 (plainElem Tryz.prog 3) b n D) (hne : b ≠ g) (i : Nat) (u : Value) : (w.setCell ⟨g, i, none⟩ u).ownsMap Tryz.prog 9 (plainElem Tryz.prog 3) b n D := CbMove h (Below.heap_setCell w _ u b hne)
theorem CbAl {w : World} {b n : Nat} {D : DataW Unit} (h : w.ownsMap Tryz.prog 9 (plainElem Tryz.prog 3) b n D) (o : Obj) : (w.alloc o).ownsMap Tryz.prog 9 (plainElem Tryz.prog 3) b n D := h.alloc o

theorem CbRun_mem {l : List S34} {x : ByteArray} (h : x ∈ (CbRun l).2) : ∃ o ∈ l, x = o.f1 := by
  unfold CbRun at h
  suffices hh : ∀ (l : List S34) s, x ∈ (l.foldl CbStep s).2 → x ∈ s.2 ∨ ∃ o ∈ l, x = o.f1 by
    rcases hh l _ h with h | h
    · simp at h
    · exact h
  intro l
  induction l with
  | nil => intro s h; exact .inl h
  | cons o l ih =>
    intro s h
    rcases ih _ h with h | ⟨o', ho, e⟩
    · unfold CbStep at h
      dsimp only at h
      split at h
      · exact .inl h
      · rcases List.mem_append.mp h with h | h
        · exact .inl h
        · exact .inr ⟨o, List.mem_cons_self, by simpa using h⟩
    · exact .inr ⟨o', List.mem_cons_of_mem _ ho, e⟩

theorem CbSorted_mem (D : DataW Unit) (acc : List ByteArray) (x : ByteArray) (h : x ∈ CbSorted D acc) : x.size ≤ maxLen := by
  unfold CbSorted at h
  obtain ⟨t, _, rfl⟩ := List.mem_map.mp h
  exact t.2

def CbOk (l : List S34) : Prop := l.length ≤ 1000 ∧ ∀ o ∈ l, o.f1.size ≤ 1000
instance (l : List S34) : Decidable (CbOk l) := inferInstanceAs (Decidable (_ ∧ _))
set_option maxHeartbeats 400000 in
set_option maxRecDepth 100000 in
theorem Fv.part (k : Nat) (A0 : Option Addr) (c0 : Nat) (l0 : List (S34)) (w : World) (hr0 : Kd.C k34 w A0 l0.length l0) (hc0 : l0.length ≤ c0) (h : Fi.f k l0 = some true) (hok : CbOk l0) :
  Calls Tryz.prog 6 #[.slice A0 l0.length c0] w fun e w' => ∃ v0_ v1_ : Value, e = .returned (.tuple #[v0_, v1_, .bool true]) ∧ Kd.R Kd.string 9 w' w.heap.size (fun _ => True) v0_ (CbSorted (CbRun l0).1 (CbRun l0).2) ∧ Kd.R (Kd.int .i64) 3 w' w.heap.size (fun _ => True) v1_ ((CbSorted (CbRun l0).1 (CbRun l0).2).map (CbAt (CbRun l0).1)) ∧ Below w.heap.size w w' := by
 have hu34 := Tryz.underlying34
 have HR0 := Aside0.mk hr0
 have HC0 := Aside0.mk hc0
 have HOK := Aside0.mk hok
 clear hr0 hc0 hok
 have HB := Aside0.mk (Below.refl w.heap.size w)
 have A2 := Aside0.mk h
 clear h
 go_enter Tryz.func6, Tryz.ntmps6
 go_wp2_with (first
   | ((with_reducible refine gate_callee (f := 10) rfl ?_); refine goesL_ (some 15) rfl rfl Tryz.func10 (by kernel_rfl) rfl #[.slice A0 l0.length c0] rfl (by (try simp only [List.map_toArray, List.map_cons, List.map_nil]); first | done | rfl | (simp only [List.length_drop, List.length_take]; rfl)) ?_; (with_reducible refine (Fi.calls k _ _ l0 true _ ?side1 ?side2 A2.out).mono ?_); (case side1 => repeat (first | exact HR0.out | (with_reducible refine Kd.C_alloc ?_ _) | (with_reducible refine Kd.C_drewN ?_ _) | (with_reducible refine Kd.C_drew ?_))); (case side2 => exact HC0.out); rintro e w4 ⟨rfl, hb⟩; refine ⟨_, rfl, ?_⟩; have n0_ := Aside0.mk (below_step (by exact eS HB.out) hb); clear HB; have HB := n0_; clear n0_; (try clear hb); (try clear hb2); (try clear hk); (try clear hi))
   | ((with_reducible refine gate_dst (N := 17) rfl ?_); refine CbMake rfl rfl ?_; intro b hbe w5 hown hb hlt; have n0_ := Aside0.mk (below_step (by exact eS HB.out) hb); have n1_ := Aside0.mk (show w.heap.size ≤ b by rw [hbe]; exact (below_size (by exact eS HB.out))); have HM := Aside0.mk hown; have HL := Aside0.mk hlt; clear HB; have HB := n0_; have GB := n1_; clear n0_ n1_; clear hown hb hlt hbe)
   | ((with_reducible refine gate_dst (N := 18) rfl ?_); refine Kd.R_lit Kd.string _ 9 ?hg (N := 18) ?hd (xs := ([] : List ByteArray)) (inner := []) (ok := fun k => k ≠ b) (okp := fun _ => False) ?hr ?hp (fun _ hk => hk.elim) ?hf (Below.refl _ _) (Nat.le_refl _) (by simp) ?_; (case hd => rfl); (case hg => rfl); (case hr => first | (go_simp; done) | (go_simp; rfl)); (case hp => exact (Reps.none _ _)); (case hf => exact Nat.ne_of_gt HL.out); intro v102 w6 ho145 hb hg_ hnew_; have n0_ := Aside0.mk (Kd.R_lower ho145 (below_size (by exact eS HB.out))); have n1_ := Aside0.mk (below_step (by exact eS HB.out) hb); have n2_ := Aside0.mk (CbMove HM.out (hb.block _ HL.out)); have n3_ := Aside0.mk (Nat.lt_of_lt_of_le HL.out hb.size); clear HB HM HL hg_ hnew_; have HO6 := n0_; have HB := n1_; have HM := n2_; have HL := n3_; clear n0_ n1_ n2_ n3_; clear hb ho145)
   | ((with_reducible refine gate_dst (N := 19) rfl ?_); refine Kd.R_lit (Kd.int .i64) _ 3 ?hg (N := 19) ?hd (xs := ([] : List Int)) (inner := []) (ok := fun k => k ≠ b) (okp := fun _ => False) ?hr ?hp (fun _ hk => hk.elim) ?hf (Below.refl _ _) (Nat.le_refl _) (by simp) ?_; (case hd => rfl); (case hg => rfl); (case hr => first | (go_simp; done) | (go_simp; rfl)); (case hp => exact (Reps.none _ _)); (case hf => exact Nat.ne_of_gt HL.out); intro v103 w7 ho145 hb hg_ hnew_; have n0_ := Aside0.mk (Kd.R_lower ho145 (below_size (by exact eS HB.out))); have n1_ := Aside0.mk (below_step (by exact eS HB.out) hb); have n2_ := Aside0.mk (CbMove HM.out (hb.block _ HL.out)); have n3_ := Aside0.mk (Nat.lt_of_lt_of_le HL.out hb.size); have n4_ := Aside0.mk (Kd.R_below HO6.out hb); clear HB HM HL HO6 hg_ hnew_; have HO7 := n0_; have HB := n1_; have HM := n2_; have HL := n3_; have HO6 := n4_; clear n0_ n1_ n2_ n3_ n4_; clear hb ho145)
   | ((with_reducible refine gate_dst (N := 5) rfl ?_); refine box_event ?hg (N := 5) ?hd (cs := #[.map none]) (t := 49) ?hr ?_; (case hd => rfl); (case hg => rfl); (case hr => first | (go_simp; done) | (go_simp; rfl)); intro pb hg w8 hbox hb; have n0_ := Aside0.mk (below_step (by exact eS HB.out) hb); have n1_ := Aside0.mk (hbox); have n2_ := Aside0.mk ((by rw [hg]; exact (below_size (by exact eS HB.out)) : w.heap.size ≤ pb)); have n3_ := Aside0.mk (CbMove HM.out (hb.block _ HL.out)); have n4_ := Aside0.mk (Nat.lt_of_lt_of_le HL.out hb.size); have n5_ := Aside0.mk (Kd.R_below HO6.out hb); have n6_ := Aside0.mk (Kd.R_below HO7.out hb); have HN := Aside0.mk (show b ≠ pb by rw [hg]; exact Nat.ne_of_lt HL.out); clear HB HM HL HO6 HO7; have HB := n0_; have BKP := n1_; have GP := n2_; have HM := n3_; have HL := n4_; have HO6 := n5_; have HO7 := n6_; clear n0_ n1_ n2_ n3_ n4_ n5_ n6_; have hcz0 := blk_cell BKP.out 0; have hfz0 := blk_frozen BKP.out 0; clear hb hbox hg)
   | go_in)
 have HM0 := Aside0.mk (CbMove HM.out (Below.heap_setCell w8 ⟨pb, 0, none⟩ (.map (some b)) b HN.out))
 go_loopg [6, 22] (l0.length + 1) (fun kq v6 v22 w' => ∃ (kk : Nat) (x22 : Int), v22 = .int .i64 x22 ∧ Aside0 (x22 = (kk : Int)) ∧ Aside0 (kk + kq = l0.length + 1 ∧ kk ≤ l0.length) ∧ Aside0 (Kd.R Kd.string 9 w' w.heap.size (fun k => k ≠ b) v6 (CbRun (l0.take kk)).2) ∧ Aside0 (w'.ownsMap Tryz.prog 9 (plainElem Tryz.prog 3) b kk (CbRun (l0.take kk)).1) ∧ Aside0 (w'.heap[pb]? = some (.cells #[.map (some b)] 49 (0, 0))) ∧ Aside0 (Kd.R (Kd.int .i64) 3 w' w.heap.size (fun k => k ≠ b) v103 []) ∧ Aside0 (Below w.heap.size w w'))
 case atStart => exact ⟨0, 0, rfl, ⟨rfl⟩, ⟨by omega, Nat.zero_le _⟩, ⟨by exact Kd.R_mono (Kd.R_far (p := ⟨pb, 0, none⟩) (Kd.R_types HO6.out BKP.out (by decide)) (fun _ hk => hk.2) _) (fun _ h_ => h_.1)⟩, ⟨HM0.out⟩, ⟨blk_put BKP.out 0 _ rfl⟩, ⟨by exact Kd.R_mono (Kd.R_far (p := ⟨pb, 0, none⟩) (Kd.R_types HO7.out BKP.out (by decide)) (fun _ hk => hk.2) _) (fun _ h_ => h_.1)⟩, ⟨below_set HB.out GP.out⟩⟩
 case round =>
  clear HM0 HO6 HO7 HM BKP HB hcz0 hfz0 HL
  obtain ⟨kk, x22, rfl, HX, HK1, HO6, HM, BKP, HO7, HB⟩ := hrel
  cases gk with
  | zero => exact absurd HK1.out (by omega)
  | succ k1 =>
   have HLEN := Aside0.mk (show kk < 1000 + 1 from by have := HK1.out; have := HOK.out.1; omega)
   by_cases c4 : x22 < (l0.length : Int)
   rotate_left
   ·have c4b0 : decide (x22 < (l0.length : Int)) = false := decide_eq_false c4
    obtain rfl : kk = l0.length := by have := HX.out; have := HK1.out; omega
    have q1_ := Aside0.mk (show Kd.R Kd.string 9 wr w.heap.size (fun k => k ≠ b) u6 (CbRun l0).2 by have h_ := HO6.out; rwa [List.take_length] at h_)
    have q2_ := Aside0.mk (show wr.ownsMap Tryz.prog 9 (plainElem Tryz.prog 3) b l0.length (CbRun l0).1 by have h_ := HM.out; rwa [List.take_length] at h_)
    clear HO6 HM
    have HO6 := q1_
    have HM := q2_
    clear q1_ q2_
    have HS := Aside0.mk (show ∀ s ∈ (CbRun l0).2, s.size ≤ maxLen from fun s hs => by obtain ⟨o, ho, rfl⟩ := CbRun_mem hs; exact Nat.le_trans (HOK.out.2 _ ho) (by unfold maxLen; omega))
    have HN2 := Aside0.mk (show (CbRun l0).2.length ≤ 1001 from Nat.le_trans (CbRun_len _) (by have := HOK.out.1; omega))
    obtain ⟨Ao, co, rfl, hlo_, hrd_⟩ := Kd.R_reads HO6.out
    clear hrd_
    have HLO := Aside0.mk hlo_
    clear hlo_
    have hcp : wr.cell? ⟨pb, 0, none⟩ = some (.map (some b)) := (blk_cell BKP.out 0).trans rfl
    go_wp2_with (first | (go_at_call 27; refine (CbSort HO6.out HM.out BKP.out HS.out HN2.out HB.out (below_size HB.out)).mono ?_; rintro e w20 ⟨rfl, hr, hb, hg⟩; have n0_ := Aside0.mk (CbMove HM.out (hg.block b (CbLt HM.out) (fun e_ => HO6.out.1 b e_.symm rfl))); have n1_ := Aside0.mk (blk_grown BKP.out hg (Kd.R_ne HO6.out BKP.out (by decide))); have n3_ := Aside0.mk (by obtain ⟨_, inner_, hown_, _⟩ := HO7.out; exact Kd.R_grown2 HO7.out rfl hg (fun k e he => by obtain ⟨cs_, h7_⟩ := own_typed hown_ k he.symm; exact Kd.R_ne HO6.out h7_ (by decide) e.symm)); clear HM BKP HO7 HO6 HB hcp; have HM := n0_; have BKP := n1_; have HO7 := n3_; have HB := Aside0.mk hb; have HO6 := Aside0.mk hr; clear n0_ n1_ n3_ hr hb hg) | go_in)
    have HDL := Aside0.mk (CbSorted_len (CbRun l0).1 (CbRun l0).2)
    go_loopg [7, 53] ((CbRun l0).2.length + 1) (fun kq v7 v53 w' => ∃ (kk : Nat) (x53 : Int), v53 = .int .i64 x53 ∧ Aside0 (x53 = (kk : Int)) ∧ Aside0 (kk + kq = (CbRun l0).2.length + 1 ∧ kk ≤ (CbRun l0).2.length) ∧ Aside0 (Kd.R (Kd.int .i64) 3 w' w.heap.size (fun k => k ≠ b) v7 (((CbSorted (CbRun l0).1 (CbRun l0).2).take kk).map (CbAt (CbRun l0).1))) ∧ Aside0 (Kd.R Kd.string 9 w' w.heap.size (fun k => k ≠ b) (.slice Ao (CbRun l0).2.length co) (CbSorted (CbRun l0).1 (CbRun l0).2)) ∧ Aside0 (w'.ownsMap Tryz.prog 9 (plainElem Tryz.prog 3) b l0.length (CbRun l0).1) ∧ Aside0 (w'.heap[pb]? = some (.cells #[.map (some b)] 49 (0, 0))) ∧ Aside0 (Below w.heap.size w w'))
    case atStart => exact ⟨0, 0, rfl, ⟨rfl⟩, ⟨by omega, Nat.zero_le _⟩, ⟨by exact HO7.out⟩, HO6, HM, BKP, HB⟩
    case round =>
     clear HO6 HO7 HM BKP HB HX HK1
     obtain ⟨kk, x53, rfl, HX, HK1, HO7, HO6, HM, BKP, HB⟩ := hrel
     cases gk with
     | zero => exact absurd HK1.out (by omega)
     | succ k2 =>
      have HLK := Aside0.mk (show kk ≤ 1002 from by have := HK1.out; have := HN2.out; omega)
      by_cases c5 : x53 < ((CbRun l0).2.length : Int)
      rotate_left
      ·have c5b0 : decide (x53 < ((CbRun l0).2.length : Int)) = false := decide_eq_false c5
       go_wp2
       go_ret3
       have e_ : (CbSorted (CbRun l0).1 (CbRun l0).2).take kk = (CbSorted (CbRun l0).1 (CbRun l0).2) := List.take_of_length_le (by have := HX.out; have := HDL.out; omega)
       exact ⟨_, _, rfl, Kd.R_mono HO6.out (fun _ _ => trivial), by have h_ := Kd.R_mono HO7.out (ok' := fun _ => True) (fun _ _ => trivial); rwa [e_] at h_, HB.out⟩
      have c5b0 : decide (x53 < ((CbRun l0).2.length : Int)) = true := decide_eq_true c5
      have p104 : 0 ≤ (x53 : Int) := by have := HX.out; omega
      have q104 : x53 < ((CbSorted (CbRun l0).1 (CbRun l0).2).length : Int) := by rw [HDL.out]; exact c5
      obtain ⟨ad104, e104, hx⟩ := Kd.at_string (Kd.R_reads' HO6.out).2.2 x53 p104 q104
      cases e104
      have HSZ2 := Aside0.mk (show (rdOf ByteArray.empty (CbSorted (CbRun l0).1 (CbRun l0).2) x53).size ≤ maxLen from by
        have hlt_ : kk < (CbSorted (CbRun l0).1 (CbRun l0).2).length := by have := HX.out; have := HDL.out; omega
        rw [HX.out, show rdOf ByteArray.empty (CbSorted (CbRun l0).1 (CbRun l0).2) (kk : Int) = (CbSorted (CbRun l0).1 (CbRun l0).2)[kk] by simp [rdOf, List.getElem?_eq_getElem hlt_]]
        exact CbSorted_mem _ _ _ (List.getElem_mem hlt_))
      have HTK := Aside0.mk (show ((CbSorted (CbRun l0).1 (CbRun l0).2).take (kk + 1)).map (CbAt (CbRun l0).1) = ((CbSorted (CbRun l0).1 (CbRun l0).2).take kk).map (CbAt (CbRun l0).1) ++ [(CbAt (CbRun l0).1) (rdOf ByteArray.empty (CbSorted (CbRun l0).1 (CbRun l0).2) x53)] from by
        have hlt_ : kk < (CbSorted (CbRun l0).1 (CbRun l0).2).length := by have := HX.out; have := HDL.out; omega
        rw [List.take_add_one, List.getElem?_eq_getElem hlt_, HX.out, show rdOf ByteArray.empty (CbSorted (CbRun l0).1 (CbRun l0).2) (kk : Int) = (CbSorted (CbRun l0).1 (CbRun l0).2)[kk] by simp [rdOf, List.getElem?_eq_getElem hlt_], Option.toList_some, List.map_append, List.map_singleton])
      have hcp : wr.cell? ⟨pb, 0, none⟩ = some (.map (some b)) := (blk_cell BKP.out 0).trans rfl
      have p104_ := eq_true p104
      have q104_ := eq_true c5
      clear p104 q104
      go_wp2_with (first | ((with_reducible refine gate_dst (N := 60) rfl ?_); at_lookup; refine wpList_lookup_own_int _ rfl _ _ 49 rfl 9 3 .i64 CbLaw Tryz.underlying49 Tryz.underlying3 (CbZero _) b l0.length _ rfl (by with_reducible exact HM.out) _ _ rfl (keyOf_string_mk Tryz.underlying9 HSZ2.out) ?_; intro cy hcy _) | ((with_reducible refine gate_builtin (b := .append) (xs := #[.tmp 57, .tmp 61]) rfl ?_); at_builtin; refine Kd.R_append (Kd.int .i64) (w0 := w) w.heap.size rfl (.tmp 57) (.tmp 61) 27 3 (.int .i64 0) 8 rfl Tryz.underlying27 info3 rfl (by decide) (by omega) u7 ((CbSorted (CbRun l0).1 (CbRun l0).2).take kk |>.map (CbAt (CbRun l0).1)) cy [.int .i64 cy] (fun k => k ≠ b) (fun _ => False) rfl (by first | (go_simp; done) | (go_simp; rfl)) ?aP (fun _ hk => hk.elim) ?aF ?aO ?aB ?aS ?aL ?_; (case aP => exact rfl); (case aB => exact HB.out); (case aF => exact (fun k_ hk_ e_ => by have := CbLt HM.out; omega)); (case aO => exact HO7.out); (case aS => exact (below_size HB.out)); (case aL => have := HN2.out; have := HLK.out; rw [List.length_map, List.length_take]; omega); intro v107 w12 ho hb hg hat; have n0_ := Aside0.mk (CbMove HM.out (hg.block b (CbLt HM.out) (fun e_ => HO7.out.1 b e_.symm rfl))); have n1_ := Aside0.mk (blk_grown BKP.out hg (Kd.R_ne HO7.out BKP.out (by decide))); have n3_ := Aside0.mk (by obtain ⟨_, inner_, hown_, _⟩ := HO6.out; exact Kd.R_grown2 HO6.out rfl hg (fun k e he => by obtain ⟨cs_, h7_⟩ := own_typed hown_ k he.symm; exact Kd.R_ne HO7.out h7_ (by decide) e.symm)); clear HM BKP HO7 HO6 HB hcp hx; have HM := n0_; have BKP := n1_; have HO6 := n3_; have HB := Aside0.mk hb; have HO7 := Aside0.mk ho; clear n0_ n1_ n3_ ho hb hg hat) | go_in)
      go_roundg k2
      case measure => have := HK1.out; omega
      case rel => exact ⟨kk + 1, wrap64 (x53 + 1), rfl, ⟨by rw [HX.out]; have := HLK.out; unfold wrap64; omega⟩, ⟨by have := HK1.out; omega, by have := HX.out; omega⟩, ⟨by rw [HTK.out, CbAt_of hcy]; exact HO7.out⟩, HO6, HM, BKP, HB⟩
   have c4b0 : decide (x22 < (l0.length : Int)) = true := decide_eq_true c4
   have hkk : l0[kk]? = some (rd_T34 l0 x22) := by
    have hlt_ : kk < l0.length := by have := HX.out; omega
    rw [HX.out]; simp only [rd_T34, Int.toNat_natCast, List.getD_eq_getElem?_getD, List.getElem?_eq_getElem hlt_, Option.getD_some]
   have HSZ := Aside0.mk (show ((rd_T34 l0 x22).f1).size ≤ maxLen from Nat.le_trans (HOK.out.2 _ (List.mem_of_getElem? hkk)) (by unfold maxLen; omega))
   have HST := Aside0.mk (CbRun_step hkk)
   clear hkk
   have p104 : 0 ≤ (x22 : Int) := by have := HX.out; omega
   have q104 : x22 < (l0.length : Int) := c4
   obtain ⟨ad104, e104, hx0, hx1, hx2, hx3, hx4, hx5, hx6, hx7⟩ := at_T34 HR0.out x22 p104 q104
   cases e104
   replace hx0 := Sq.cB HB.out hx0
   replace hx1 := Sq.cB HB.out hx1
   replace hx2 := Sq.cB HB.out hx2
   replace hx3 := Sq.cB HB.out hx3
   replace hx4 := Sq.cB HB.out hx4
   replace hx5 := Sq.cB HB.out hx5
   replace hx6 := Sq.cB HB.out hx6
   replace hx7 := Sq.cB HB.out hx7
   have p104_ := eq_true p104
   have q104_ := eq_true q104
   clear p104 q104
   by_cases hmet : Maps.has (CbRun (l0.take kk)).1 (CbKey ((rd_T34 l0 x22).f1)) = true
   ·have HMET := Aside0.mk hmet
    clear hmet
    go_wp2_with (first | ((with_reducible refine gate_dst (N := 9) rfl ?_); refine box_event ?hg (N := 9) ?hd (cs := #[.int .i64 0, .string (⟨#[]⟩ : ByteArray), .int .i64 0, .int .i64 0, .int .i64 0, .int .i64 0, .int .i64 0, .int .i64 0]) (t := 34) ?hr ?_; (case hd => rfl); (case hg => rfl); (case hr => first | (go_simp; done) | (go_simp; rfl)); intro gb hg w9 hbox hb; have n0_ := Aside0.mk (below_step (by exact eS HB.out) hb); have n1_ := Aside0.mk hbox; have n2_ := Aside0.mk ((by rw [hg]; exact (below_size (by exact eS HB.out)) : w.heap.size ≤ gb)); have n3_ := Aside0.mk (CbMove HM.out (hb.block _ (CbLt HM.out))); have HNg := Aside0.mk (show b ≠ gb by rw [hg]; exact Nat.ne_of_lt (CbLt HM.out)); have hpg1 := eq_false (show ¬ gb = pb by rw [hg]; exact (Nat.ne_of_lt (blk_lt BKP.out)).symm); have hpg2 := eq_false (show ¬ pb = gb by rw [hg]; exact (Nat.ne_of_lt (blk_lt BKP.out))); have n4_ := Aside0.mk (Kd.R_below HO6.out hb); have n5_ := Aside0.mk (Kd.R_below HO7.out hb); have n6_ := Aside0.mk (blk_below BKP.out hb); clear HB HM HO6 HO7 BKP; have HB := n0_; have BK := n1_; have GE := n2_; have HM := n3_; have HO6 := n4_; have HO7 := n5_; have BKP := n6_; clear n0_ n1_ n2_ n3_ n4_ n5_ n6_; have hcp : w9.cell? ⟨pb, 0, none⟩ = some (.map (some b)) := (blk_cell BKP.out 0).trans rfl; clear hb hbox hg; obtain ⟨hcz0, hcz1, hcz2, hcz3, hcz4, hcz5, hcz6, hcz7, hfz0, hfz1, hfz2, hfz3, hfz4, hfz5, hfz6, hfz7⟩ := Sq.c8 BK.out) | ((with_reducible refine gate_dst (N := 27) rfl ?_); (fail_if_success guard_hyp GEN_ : True); refine CbGen (R := fun w1 => w1.heap[gb]? = some (.cells #[.int .i64 ((rd_T34 l0 x22).f0), .string ((rd_T34 l0 x22).f1), .int .i64 ((rd_T34 l0 x22).f2), .int .i64 ((rd_T34 l0 x22).f3), .int .i64 ((rd_T34 l0 x22).f4), .int .i64 ((rd_T34 l0 x22).f5), .int .i64 ((rd_T34 l0 x22).f6), .int .i64 ((rd_T34 l0 x22).f7)] 34 (0, 0)) ∧ w1.heap[pb]? = some (.cells #[.map (some b)] 49 (0, 0)) ∧ w1.ownsMap Tryz.prog 9 (plainElem Tryz.prog 3) b kk (CbRun (l0.take kk)).1 ∧ Kd.R Kd.string 9 w1 w.heap.size (fun k => k ≠ b) u6 (CbRun (l0.take kk)).2 ∧ Kd.R (Kd.int .i64) 3 w1 w.heap.size (fun k => k ≠ b) v103 [] ∧ Below w.heap.size w w1) ⟨Sq.put8 BK.out, (by repeat (first | (with_reducible exact BKP.out) | (with_reducible refine CbFar ?_ (of_eq_false hpg2) _))), (by with_reducible repeat (first | exact HM.out | refine CbSet ?_ HNg.out _ _)), (by exact Kd.R_mono (Kd.R_far (p := ⟨gb, 7, none⟩) (Kd.R_far (p := ⟨gb, 6, none⟩) (Kd.R_far (p := ⟨gb, 5, none⟩) (Kd.R_far (p := ⟨gb, 4, none⟩) (Kd.R_far (p := ⟨gb, 3, none⟩) (Kd.R_far (p := ⟨gb, 2, none⟩) (Kd.R_far (p := ⟨gb, 1, none⟩) (Kd.R_far (p := ⟨gb, 0, none⟩) (Kd.R_types HO6.out BK.out (by decide)) (fun _ hk => hk.2) _) (fun _ hk => hk.2) _) (fun _ hk => hk.2) _) (fun _ hk => hk.2) _) (fun _ hk => hk.2) _) (fun _ hk => hk.2) _) (fun _ hk => hk.2) _) (fun _ hk => hk.2) _) (fun _ h_ => h_.1)), (by exact Kd.R_mono (Kd.R_far (p := ⟨gb, 7, none⟩) (Kd.R_far (p := ⟨gb, 6, none⟩) (Kd.R_far (p := ⟨gb, 5, none⟩) (Kd.R_far (p := ⟨gb, 4, none⟩) (Kd.R_far (p := ⟨gb, 3, none⟩) (Kd.R_far (p := ⟨gb, 2, none⟩) (Kd.R_far (p := ⟨gb, 1, none⟩) (Kd.R_far (p := ⟨gb, 0, none⟩) (Kd.R_types HO7.out BK.out (by decide)) (fun _ hk => hk.2) _) (fun _ hk => hk.2) _) (fun _ hk => hk.2) _) (fun _ hk => hk.2) _) (fun _ hk => hk.2) _) (fun _ hk => hk.2) _) (fun _ hk => hk.2) _) (fun _ hk => hk.2) _) (fun _ h_ => h_.1)), (by repeat (first | (with_reducible first | exact HB.out | apply below_alloc | apply pw_below_drewN | apply below_drew1 | refine below_set ?_ GE.out) | exact HB.out))⟩ ?_; intro w10 hR_; have GEN_ := True.intro; obtain ⟨g1_, g2_, g3_, g4_, g5_, g6_⟩ := hR_; clear HB HM HO6 HO7 BKP BK hcz0 hcz1 hcz2 hcz3 hcz4 hcz5 hcz6 hcz7 hfz0 hfz1 hfz2 hfz3 hfz4 hfz5 hfz6 hfz7 hcp; have BK := Aside0.mk g1_; have BKP := Aside0.mk g2_; have HM := Aside0.mk g3_; have HO6 := Aside0.mk g4_; have HO7 := Aside0.mk g5_; have HB := Aside0.mk g6_; clear g1_ g2_ g3_ g4_ g5_ g6_ hx0 hx1 hx2 hx3 hx4 hx5 hx6 hx7; have hcp : w10.cell? ⟨pb, 0, none⟩ = some (.map (some b)) := (blk_cell BKP.out 0).trans rfl; obtain ⟨hcz0, hcz1, hcz2, hcz3, hcz4, hcz5, hcz6, hcz7, hfz0, hfz1, hfz2, hfz3, hfz4, hfz5, hfz6, hfz7⟩ := Sq.c8 BK.out) | ((with_reducible refine gate_dst (N := 30) rfl ?_); at_lookup; refine wpList_lookup_own_ok_int _ rfl _ _ 49 rfl 9 3 .i64 CbLaw Tryz.underlying49 Tryz.underlying3 (CbZero _) b kk _ rfl (by with_reducible repeat (first | exact HM.out | refine CbAl ?_ _)) _ _ rfl (keyOf_string_mk Tryz.underlying9 HSZ.out) ?_; intro cm_ _ _; (try rw [HMET.out])) | ((with_reducible refine gate_dst (N := 43) rfl ?_); at_lookup; refine wpList_lookup_own_int _ rfl _ _ 49 rfl 9 3 .i64 CbLaw Tryz.underlying49 Tryz.underlying3 (CbZero _) b kk _ rfl (by with_reducible repeat (first | exact HM.out | refine CbAl ?_ _)) _ _ rfl (keyOf_string_mk Tryz.underlying9 HSZ.out) ?_; intro cy hcy _) | (at_mapUpdate; refine wpList_mapUpdate_own _ rfl _ _ _ 49 rfl 9 3 CbLaw Tryz.underlying49 _ b kk _ rfl (by with_reducible repeat (first | exact HM.out | refine CbAl ?_ _)) (by have := HLEN.out; unfold maxLen; omega) _ _ _ rfl rfl (keyOf_string_mk Tryz.underlying9 HSZ.out) _ [] (plainElem_int Tryz.underlying3 (wrap64_wf _)) ?_; intro w11 hown1 hgrow1; skip) | go_in)
    go_roundg k1
    case measure => have := HK1.out; omega
    case rel => exact ⟨kk + 1, wrap64 (x22 + 1), rfl, ⟨by rw [HX.out]; have := HLEN.out; unfold wrap64; omega⟩, ⟨by have := HK1.out; omega, by have := HX.out; omega⟩, ⟨by rw [HST.out]; simp only [CbStep, HMET.out, if_true]; exact Kd.R_grown HO6.out hgrow1 (fun k_ hk_ e_ => hk_ (Option.some.inj e_))⟩, ⟨by rw [HST.out]; simp only [CbStep]; rw [CbAt_of hcy]; exact hown1⟩, ⟨blk_grown BKP.out hgrow1 (fun e_ => HN.out (Option.some.inj e_).symm)⟩, ⟨Kd.R_grown HO7.out hgrow1 (fun k_ hk_ e_ => hk_ (Option.some.inj e_))⟩, ⟨HB.out.grown hgrow1 HB.out.size (fun j_ hj_ => by cases hj_; exact GB.out)⟩⟩
   ·have HMET := Aside0.mk (Bool.eq_false_iff.mpr hmet)
    clear hmet
    have HAL := Aside0.mk (show (CbRun (l0.take kk)).2.length ≤ 1001 from Nat.le_trans (CbRun_len _) (by have := HLEN.out; rw [List.length_take]; omega))
    go_wp2_with (first | ((with_reducible refine gate_dst (N := 9) rfl ?_); refine box_event ?hg (N := 9) ?hd (cs := #[.int .i64 0, .string (⟨#[]⟩ : ByteArray), .int .i64 0, .int .i64 0, .int .i64 0, .int .i64 0, .int .i64 0, .int .i64 0]) (t := 34) ?hr ?_; (case hd => rfl); (case hg => rfl); (case hr => first | (go_simp; done) | (go_simp; rfl)); intro gb hg w9 hbox hb; have n0_ := Aside0.mk (below_step (by exact eS HB.out) hb); have n1_ := Aside0.mk hbox; have n2_ := Aside0.mk ((by rw [hg]; exact (below_size (by exact eS HB.out)) : w.heap.size ≤ gb)); have n3_ := Aside0.mk (CbMove HM.out (hb.block _ (CbLt HM.out))); have HNg := Aside0.mk (show b ≠ gb by rw [hg]; exact Nat.ne_of_lt (CbLt HM.out)); have hpg1 := eq_false (show ¬ gb = pb by rw [hg]; exact (Nat.ne_of_lt (blk_lt BKP.out)).symm); have hpg2 := eq_false (show ¬ pb = gb by rw [hg]; exact (Nat.ne_of_lt (blk_lt BKP.out))); have n4_ := Aside0.mk (Kd.R_below HO6.out hb); have n5_ := Aside0.mk (Kd.R_below HO7.out hb); have n6_ := Aside0.mk (blk_below BKP.out hb); clear HB HM HO6 HO7 BKP; have HB := n0_; have BK := n1_; have GE := n2_; have HM := n3_; have HO6 := n4_; have HO7 := n5_; have BKP := n6_; clear n0_ n1_ n2_ n3_ n4_ n5_ n6_; have hcp : w9.cell? ⟨pb, 0, none⟩ = some (.map (some b)) := (blk_cell BKP.out 0).trans rfl; clear hb hbox hg; obtain ⟨hcz0, hcz1, hcz2, hcz3, hcz4, hcz5, hcz6, hcz7, hfz0, hfz1, hfz2, hfz3, hfz4, hfz5, hfz6, hfz7⟩ := Sq.c8 BK.out) | ((with_reducible refine gate_dst (N := 27) rfl ?_); (fail_if_success guard_hyp GEN_ : True); refine CbGen (R := fun w1 => w1.heap[gb]? = some (.cells #[.int .i64 ((rd_T34 l0 x22).f0), .string ((rd_T34 l0 x22).f1), .int .i64 ((rd_T34 l0 x22).f2), .int .i64 ((rd_T34 l0 x22).f3), .int .i64 ((rd_T34 l0 x22).f4), .int .i64 ((rd_T34 l0 x22).f5), .int .i64 ((rd_T34 l0 x22).f6), .int .i64 ((rd_T34 l0 x22).f7)] 34 (0, 0)) ∧ w1.heap[pb]? = some (.cells #[.map (some b)] 49 (0, 0)) ∧ w1.ownsMap Tryz.prog 9 (plainElem Tryz.prog 3) b kk (CbRun (l0.take kk)).1 ∧ Kd.R Kd.string 9 w1 w.heap.size (fun k => k ≠ b) u6 (CbRun (l0.take kk)).2 ∧ Kd.R (Kd.int .i64) 3 w1 w.heap.size (fun k => k ≠ b) v103 [] ∧ Below w.heap.size w w1) ⟨Sq.put8 BK.out, (by repeat (first | (with_reducible exact BKP.out) | (with_reducible refine CbFar ?_ (of_eq_false hpg2) _))), (by with_reducible repeat (first | exact HM.out | refine CbSet ?_ HNg.out _ _)), (by exact Kd.R_mono (Kd.R_far (p := ⟨gb, 7, none⟩) (Kd.R_far (p := ⟨gb, 6, none⟩) (Kd.R_far (p := ⟨gb, 5, none⟩) (Kd.R_far (p := ⟨gb, 4, none⟩) (Kd.R_far (p := ⟨gb, 3, none⟩) (Kd.R_far (p := ⟨gb, 2, none⟩) (Kd.R_far (p := ⟨gb, 1, none⟩) (Kd.R_far (p := ⟨gb, 0, none⟩) (Kd.R_types HO6.out BK.out (by decide)) (fun _ hk => hk.2) _) (fun _ hk => hk.2) _) (fun _ hk => hk.2) _) (fun _ hk => hk.2) _) (fun _ hk => hk.2) _) (fun _ hk => hk.2) _) (fun _ hk => hk.2) _) (fun _ hk => hk.2) _) (fun _ h_ => h_.1)), (by exact Kd.R_mono (Kd.R_far (p := ⟨gb, 7, none⟩) (Kd.R_far (p := ⟨gb, 6, none⟩) (Kd.R_far (p := ⟨gb, 5, none⟩) (Kd.R_far (p := ⟨gb, 4, none⟩) (Kd.R_far (p := ⟨gb, 3, none⟩) (Kd.R_far (p := ⟨gb, 2, none⟩) (Kd.R_far (p := ⟨gb, 1, none⟩) (Kd.R_far (p := ⟨gb, 0, none⟩) (Kd.R_types HO7.out BK.out (by decide)) (fun _ hk => hk.2) _) (fun _ hk => hk.2) _) (fun _ hk => hk.2) _) (fun _ hk => hk.2) _) (fun _ hk => hk.2) _) (fun _ hk => hk.2) _) (fun _ hk => hk.2) _) (fun _ hk => hk.2) _) (fun _ h_ => h_.1)), (by repeat (first | (with_reducible first | exact HB.out | apply below_alloc | apply pw_below_drewN | apply below_drew1 | refine below_set ?_ GE.out) | exact HB.out))⟩ ?_; intro w10 hR_; have GEN_ := True.intro; obtain ⟨g1_, g2_, g3_, g4_, g5_, g6_⟩ := hR_; clear HB HM HO6 HO7 BKP BK hcz0 hcz1 hcz2 hcz3 hcz4 hcz5 hcz6 hcz7 hfz0 hfz1 hfz2 hfz3 hfz4 hfz5 hfz6 hfz7 hcp; have BK := Aside0.mk g1_; have BKP := Aside0.mk g2_; have HM := Aside0.mk g3_; have HO6 := Aside0.mk g4_; have HO7 := Aside0.mk g5_; have HB := Aside0.mk g6_; clear g1_ g2_ g3_ g4_ g5_ g6_ hx0 hx1 hx2 hx3 hx4 hx5 hx6 hx7; have hcp : w10.cell? ⟨pb, 0, none⟩ = some (.map (some b)) := (blk_cell BKP.out 0).trans rfl; obtain ⟨hcz0, hcz1, hcz2, hcz3, hcz4, hcz5, hcz6, hcz7, hfz0, hfz1, hfz2, hfz3, hfz4, hfz5, hfz6, hfz7⟩ := Sq.c8 BK.out) | ((with_reducible refine gate_dst (N := 30) rfl ?_); at_lookup; refine wpList_lookup_own_ok_int _ rfl _ _ 49 rfl 9 3 .i64 CbLaw Tryz.underlying49 Tryz.underlying3 (CbZero _) b kk _ rfl (by with_reducible repeat (first | exact HM.out | refine CbAl ?_ _)) _ _ rfl (keyOf_string_mk Tryz.underlying9 HSZ.out) ?_; intro cm_ _ _; (try rw [HMET.out])) | ((with_reducible refine gate_builtin (b := .append) (xs := #[.tmp 35, .tmp 38]) rfl ?_); at_builtin; refine Kd.R_append Kd.string (w0 := w) w.heap.size rfl (.tmp 35) (.tmp 38) 26 9 (.string ⟨#[]⟩) 16 rfl Tryz.underlying26 info9 rfl (by decide) (by omega) u6 (CbRun (l0.take kk)).2 ((rd_T34 l0 x22).f1) [.string ((rd_T34 l0 x22).f1)] (fun k => k ≠ b) (fun _ => False) rfl (by first | (go_simp; done) | (go_simp; rfl)) ?aP (fun _ hk => hk.elim) ?aF ?aO ?aB ?aS ?aL ?_; (case aP => exact rfl); (case aB => exact HB.out); (case aF => exact (fun k_ hk_ e_ => by have := CbLt HM.out; omega)); (case aO => exact HO6.out); (case aS => exact (below_size HB.out)); (case aL => have := HAL.out; omega); intro v107 w12 ho hb hg hat; have n0_ := Aside0.mk (CbMove HM.out (hg.block b (CbLt HM.out) (fun e_ => HO6.out.1 b e_.symm rfl))); have n1_ := Aside0.mk (blk_grown BKP.out hg (Kd.R_ne HO6.out BKP.out (by decide))); have n2_ := Aside0.mk (blk_grown BK.out hg (Kd.R_ne HO6.out BK.out (by decide))); have n3_ := Aside0.mk (by obtain ⟨_, inner_, hown_, _⟩ := HO7.out; exact Kd.R_grown2 HO7.out rfl hg (fun k e he => by obtain ⟨cs_, h7_⟩ := own_typed hown_ k he.symm; exact Kd.R_ne HO6.out h7_ (by decide) e.symm)); clear HM BKP BK HO7 HO6 HB hcp hcz0 hcz1 hcz2 hcz3 hcz4 hcz5 hcz6 hcz7 hfz0 hfz1 hfz2 hfz3 hfz4 hfz5 hfz6 hfz7; have HM := n0_; have BKP := n1_; have BK := n2_; have HO7 := n3_; have HB := Aside0.mk hb; have HO6 := Aside0.mk ho; clear n0_ n1_ n2_ n3_ ho hb hg hat; have hcp : w12.cell? ⟨pb, 0, none⟩ = some (.map (some b)) := (blk_cell BKP.out 0).trans rfl; obtain ⟨hcz0, hcz1, hcz2, hcz3, hcz4, hcz5, hcz6, hcz7, hfz0, hfz1, hfz2, hfz3, hfz4, hfz5, hfz6, hfz7⟩ := Sq.c8 BK.out) | ((with_reducible refine gate_dst (N := 43) rfl ?_); at_lookup; refine wpList_lookup_own_int _ rfl _ _ 49 rfl 9 3 .i64 CbLaw Tryz.underlying49 Tryz.underlying3 (CbZero _) b kk _ rfl (by with_reducible repeat (first | exact HM.out | refine CbAl ?_ _)) _ _ rfl (keyOf_string_mk Tryz.underlying9 HSZ.out) ?_; intro cy hcy _) | (at_mapUpdate; refine wpList_mapUpdate_own _ rfl _ _ _ 49 rfl 9 3 CbLaw Tryz.underlying49 _ b kk _ rfl (by with_reducible repeat (first | exact HM.out | refine CbAl ?_ _)) (by have := HLEN.out; unfold maxLen; omega) _ _ _ rfl rfl (keyOf_string_mk Tryz.underlying9 HSZ.out) _ [] (plainElem_int Tryz.underlying3 (wrap64_wf _)) ?_; intro w11 hown1 hgrow1; skip) | go_in)
    go_roundg k1
    case measure => have := HK1.out; omega
    case rel => exact ⟨kk + 1, wrap64 (x22 + 1), rfl, ⟨by rw [HX.out]; have := HLEN.out; unfold wrap64; omega⟩, ⟨by have := HK1.out; omega, by have := HX.out; omega⟩, ⟨by rw [HST.out]; simp only [CbStep, HMET.out, Bool.false_eq_true, if_false]; exact Kd.R_grown HO6.out hgrow1 (fun k_ hk_ e_ => hk_ (Option.some.inj e_))⟩, ⟨by rw [HST.out]; simp only [CbStep]; rw [CbAt_of hcy]; exact hown1⟩, ⟨blk_grown BKP.out hgrow1 (fun e_ => HN.out (Option.some.inj e_).symm)⟩, ⟨Kd.R_grown HO7.out hgrow1 (fun k_ hk_ e_ => hk_ (Option.some.inj e_))⟩, ⟨HB.out.grown hgrow1 HB.out.size (fun j_ hj_ => by cases hj_; exact GB.out)⟩⟩
set_option maxHeartbeats 400000 in
set_option maxRecDepth 100000 in
theorem Fv.no (k : Nat) (A0 : Option Addr) (c0 : Nat) (l0 : List (S34)) (w : World) (hr0 : Kd.C k34 w A0 l0.length l0) (hc0 : l0.length ≤ c0) (h : Fi.f k l0 = some false) :
  Calls Tryz.prog 6 #[.slice A0 l0.length c0] w fun e w' => ∃ v0_ v1_ : Value, e = .returned (.tuple #[v0_, v1_, .bool false]) ∧ Kd.R Kd.string 9 w' w.heap.size (fun _ => True) v0_ [] ∧ Kd.R (Kd.int .i64) 3 w' w.heap.size (fun _ => True) v1_ [] ∧ Below w.heap.size w w' := by
 have hu34 := Tryz.underlying34
 have HR0 := Aside0.mk hr0
 have HC0 := Aside0.mk hc0
 clear hr0 hc0
 have HB := Aside0.mk (Below.refl w.heap.size w)
 have A2 := Aside0.mk h
 clear h
 go_enter Tryz.func6, Tryz.ntmps6
 go_wp2_with (first
   | ((with_reducible refine gate_callee (f := 10) rfl ?_); refine goesL_ (some 15) rfl rfl Tryz.func10 (by kernel_rfl) rfl #[.slice A0 l0.length c0] rfl (by (try simp only [List.map_toArray, List.map_cons, List.map_nil]); first | done | rfl | (simp only [List.length_drop, List.length_take]; rfl)) ?_; (with_reducible refine (Fi.calls k _ _ l0 false _ ?side1 ?side2 A2.out).mono ?_); (case side1 => repeat (first | exact HR0.out | (with_reducible refine Kd.C_alloc ?_ _) | (with_reducible refine Kd.C_drewN ?_ _) | (with_reducible refine Kd.C_drew ?_))); (case side2 => exact HC0.out); rintro e w4 ⟨rfl, hb⟩; refine ⟨_, rfl, ?_⟩; have n0_ := Aside0.mk (below_step (by exact eS HB.out) hb); clear HB; have HB := n0_; clear n0_; (try clear hb); (try clear hb2); (try clear hk); (try clear hi))
   | go_in)
 go_ret3
 exact ⟨_, _, rfl, ⟨fun k hk => trivial, OwnRow.none_ _ _ _ _ _⟩, ⟨fun k hk => trivial, OwnRow.none_ _ _ _ _ _⟩, HB.out⟩
def Fv.f (k : Nat) (l0 : List (S34)) : Option (List ByteArray × List Int × Bool) := (Fi.f k l0).bind fun t => (if t = true then (if CbOk l0 then some (CbSorted (CbRun l0).1 (CbRun l0).2, (CbSorted (CbRun l0).1 (CbRun l0).2).map (CbAt (CbRun l0).1), true) else none) else some ([], [], false))
theorem Fv.mono : ∀ a0 k, LeO (Fv.f k a0) (Fv.f (k + 1) a0) := by
  intro a0 k
  unfold Fv.f
  exact LeO.bind (Fi.mono _ _) (fun _ => LeO.refl _)
theorem Fv.calls (k : Nat) (A0 : Option Addr) (c0 : Nat) (l0 : List (S34)) (r1 : List ByteArray) (r2 : List Int) (r3 : Bool) (w : World) (hr0 : Kd.C k34 w A0 l0.length l0) (hc0 : l0.length ≤ c0) (h : Fv.f k l0 = some (r1, r2, r3)) :
  Calls Tryz.prog 6 #[.slice A0 l0.length c0] w fun e w' => ∃ v0_ v1_ : Value, e = .returned (.tuple #[v0_, v1_, .bool r3]) ∧ Kd.R Kd.string 9 w' w.heap.size (fun _ => True) v0_ r1 ∧ Kd.R (Kd.int .i64) 3 w' w.heap.size (fun _ => True) v1_ r2 ∧ Below w.heap.size w w' := by
  unfold Fv.f at h
  obtain ⟨t, ht, h⟩ := Option.bind_eq_some_iff.mp h
  cases t with
  | false =>
    rw [if_neg (by decide)] at h
    simp only [Option.some.injEq, Prod.mk.injEq] at h
    obtain ⟨rfl, rfl, rfl⟩ := h
    exact Fv.no k A0 c0 l0 w hr0 hc0 ht
  | true =>
    rw [if_pos rfl] at h
    by_cases hok : CbOk l0
    · rw [if_pos hok] at h
      simp only [Option.some.injEq, Prod.mk.injEq] at h
      obtain ⟨rfl, rfl, rfl⟩ := h
      exact Fv.part k A0 c0 l0 w hr0 hc0 ht hok
    · rw [if_neg hok] at h; cases h
end Cb

end Go.Proofs.YtahfahlbdgbfeaaGreatDoor.X

namespace Go.Proofs.YtahfahlbdgbfeaaGreatDoor.X
open Ho (bS eS RS Ak Cs Ct Cd)
open Go.RowKit Go.Proofs.YtahfahlbdgbfeaaGreatDoorW.PrintWords Go.Proofs.YtahfahlbdgbfeaaGreatDoorW.PrintLast Go.Proofs.YtahfahlbdgbfeaaGreatDoorW.PrintMore
attribute [local go_sem] max2_int min2_int max_two min_two max_three min_three max_four min_four   -- for this text's walks alone
set_option linter.unusedVariables false
set_option linter.unusedSimpArgs false
attribute [local go_sem ↓] Ho.isSome_setCell_   -- a store leaves all places there
/-! ### Fp: function 18 -/
mutual
def Fp.j0 : Nat → List (S34) → ByteArray → Bool → Option (Int × Bool)
  | 0, _, _, _ => none
  | k + 1, x0, x1, x16 => if x16 = true then (some (0, false)) else (Fp.l0 k x1 0 x0 (x0.length : Int) 0)
def Fp.l0 : Nat → ByteArray → Int → List (S34) → Int → Int → Option (Int × Bool)
  | 0, _, _, _, _, _ => none
  | k + 1, x1, x6, x17, x18, x19 => if x19 < x18 then (if 0 ≤ x19 then (if x19 < (x17.length : Int) then (if ((rd_T34 x17 x19).f1).toList = x1.toList then (if ((rd_T34 x17 x19).f4) = 5 then (Fp.l0 k x1 x6 x17 x18 (wrap64 (x19 + 1))) else (Fp.l0 k x1 (wrap64 (x6 + (wrap64 (((rd_T34 x17 x19).f5) - ((rd_T34 x17 x19).f6))))) x17 x18 (wrap64 (x19 + 1)))) else (Fp.l0 k x1 x6 x17 x18 (wrap64 (x19 + 1)))) else (none)) else (none)) else (some (x6, true))
end
def Fp.f (k : Nat) (l0 : List (S34)) (a1 : ByteArray) : Option (Int × Bool) := (Fi.f k l0).bind fun t101 => (if t101 = true then ((Fbh.f a1).bind fun t102 => (Fp.j0 k l0 a1 (!t102))) else (Fp.j0 k l0 a1 true))
theorem Fp.mono_l : ∀ k, (∀ y0 y1 y2, LeO (Fp.j0 k y0 y1 y2) (Fp.j0 (k + 1) y0 y1 y2)) ∧ (∀ y0 y1 y2 y3 y4, LeO (Fp.l0 k y0 y1 y2 y3 y4) (Fp.l0 (k + 1) y0 y1 y2 y3 y4))
  | 0 => ⟨fun _ _ _ r h => by simp [Fp.j0] at h, fun _ _ _ _ _ r h => by simp [Fp.l0] at h⟩
  | k + 1 => by
    obtain ⟨ih0, ih1⟩ := Fp.mono_l k
    refine ⟨?_, ?_⟩
    · intro y0 y1 y2
      unfold Fp.j0
      repeat' first | (with_reducible first | exact ih0 _ _ _ | exact ih1 _ _ _ _ _ | exact Fi.mono _ _ | exact LeO.refl _ | exact LeO.none _ | refine LeO.ite ?_ ?_ | refine LeO.bind ?_ (fun _ => ?_)) | exact ih0 _ _ _ | exact ih1 _ _ _ _ _ | exact Fi.mono _ _ | exact LeO.none _ | refine LeO.ite ?_ ?_ | refine LeO.bind ?_ (fun _ => ?_)
    · intro y0 y1 y2 y3 y4
      unfold Fp.l0
      repeat' first | (with_reducible first | exact ih0 _ _ _ | exact ih1 _ _ _ _ _ | exact Fi.mono _ _ | exact LeO.refl _ | exact LeO.none _ | refine LeO.ite ?_ ?_ | refine LeO.bind ?_ (fun _ => ?_)) | exact ih0 _ _ _ | exact ih1 _ _ _ _ _ | exact Fi.mono _ _ | exact LeO.none _ | refine LeO.ite ?_ ?_ | refine LeO.bind ?_ (fun _ => ?_)
theorem Fp.mono : ∀ a0 a1 k, LeO (Fp.f k a0 a1) (Fp.f (k + 1) a0 a1) := by
  intro a0 a1 k
  obtain ⟨ih0, ih1⟩ := Fp.mono_l k
  unfold Fp.f
  repeat' first | (with_reducible first | exact ih0 _ _ _ | exact ih1 _ _ _ _ _ | exact Fi.mono _ _ | exact LeO.refl _ | exact LeO.none _ | refine LeO.ite ?_ ?_ | refine LeO.bind ?_ (fun _ => ?_)) | exact ih0 _ _ _ | exact ih1 _ _ _ _ _ | exact Fi.mono _ _ | exact LeO.none _ | refine LeO.ite ?_ ?_ | refine LeO.bind ?_ (fun _ => ?_)
set_option maxHeartbeats 8000000 in
set_option maxRecDepth 100000 in
theorem Fp.calls (k : Nat) (A0 : Option Addr) (c0 : Nat) (l0 : List (S34)) (a1 : ByteArray) (r1 : Int) (r2 : Bool) (w : World) (hr0 : Kd.C k34 w A0 l0.length l0) (hc0 : l0.length ≤ c0) (h : Fp.f k l0 a1 = some (r1, r2)) :
  Calls Tryz.prog 18 #[.slice A0 l0.length c0, .string a1] w fun e w' => e = .returned (.tuple #[.int .i64 r1, .bool r2]) ∧ Below w.heap.size w w' := by
 have hu34 := Tryz.underlying34
 have HR0 := Ak hr0
 have HC0 := Ak hc0
 clear hr0 hc0
 have HB := Ak (Below.refl w.heap.size w)
 have H : ((Fi.f k l0).bind fun t101 => (if t101 = true then ((Fbh.f a1).bind fun t102 => (Fp.j0 k l0 a1 (!t102))) else (Fp.j0 k l0 a1 true))) = some (r1, r2) := h
 clear h
 have HC3 := Ak H
 clear H
 go_enter Tryz.func18, Tryz.ntmps18
 go_upto_region 1 with (fail)
 go_cut [16] (fun v16 wc => ∃ (kq : Nat) (x16_2 : Bool), v16 = .bool x16_2 ∧ Aside0 (Fp.j0 kq l0 a1 x16_2 = some (r1, r2)) ∧ Aside0 (kq ≤ k) ∧ Aside0 (Below w.heap.size w wc))
 case first =>
  have H := HC3.out
  clear HC3
  replace H := Option.bind_eq_some_iff.mp H
  obtain ⟨t101, A40, H⟩ := H
  (try dsimp only at H)
  have A4 := Ak A40
  clear A40
  by_cases c5 : t101 = true
  rotate_left
  ·replace c5 := Bool.eq_false_iff.mpr c5
   subst c5
   have H1 : (Fp.j0 k l0 a1 true) = some (r1, r2) := by rw [if_neg (show ¬ (false = true) by decide)] at H; exact H
   clear H
   have H := H1
   clear H1
   have H' := Ak H
   clear H
   go_wp2_with (first | ((with_reducible refine gate_callee (f := 10) rfl ?_); refine goesL_ (some 10) rfl rfl Tryz.func10 (by kernel_rfl) rfl #[.slice A0 l0.length c0] rfl (by (try simp only [List.map_toArray, List.map_cons, List.map_nil]); first | done | rfl | (simp only [List.length_drop, List.length_take]; rfl)) ?_; (with_reducible refine (Fi.calls k _ _ l0 false _ ?side1 ?side2 A4.out).mono ?_); (case side1 => repeat (first | exact (Kd.C_below HR0.out HB.out) | (with_reducible refine Kd.C_alloc ?_ _) | (with_reducible refine Kd.C_drewN ?_ _) | (with_reducible refine Kd.C_drew ?_))); (case side2 => exact HC0.out); rintro e w9 ⟨rfl, hb⟩; refine ⟨_, rfl, ?_⟩; have n0_ := Ak (below_step (by exact eS HB.out) hb); clear HB; have HB := n0_; clear n0_; (try clear hb); (try clear hb2); (try clear hk); (try clear hi)))
   go_meet
   case rel => exact ⟨_, (true), (by first | rfl | (simp; done) | (simp [*]; done)), H', ⟨by first | omega | exact Nat.le_refl _⟩, ⟨by exact eS HB.out⟩⟩
  subst c5
  have H1 : ((Fbh.f a1).bind fun t102 => (Fp.j0 k l0 a1 (!t102))) = some (r1, r2) := by rw [if_pos rfl] at H; exact H
  clear H
  have H := H1
  clear H1
  replace H := Option.bind_eq_some_iff.mp H
  obtain ⟨t102, A60, H⟩ := H
  (try dsimp only at H)
  have A6 := Ak A60
  clear A60
  have H' := Ak H
  clear H
  go_wp2_with (first | ((with_reducible refine gate_callee (f := 10) rfl ?_); refine goesL_ (some 10) rfl rfl Tryz.func10 (by kernel_rfl) rfl #[.slice A0 l0.length c0] rfl (by (try simp only [List.map_toArray, List.map_cons, List.map_nil]); first | done | rfl | (simp only [List.length_drop, List.length_take]; rfl)) ?_; (with_reducible refine (Fi.calls k _ _ l0 true _ ?side1 ?side2 A4.out).mono ?_); (case side1 => repeat (first | exact (Kd.C_below HR0.out HB.out) | (with_reducible refine Kd.C_alloc ?_ _) | (with_reducible refine Kd.C_drewN ?_ _) | (with_reducible refine Kd.C_drew ?_))); (case side2 => exact HC0.out); rintro e w7 ⟨rfl, hb⟩; refine ⟨_, rfl, ?_⟩; have n0_ := Ak (below_step (by exact eS HB.out) hb); clear HB; have HB := n0_; clear n0_; (try clear hb); (try clear hb2); (try clear hk); (try clear hi)) | (go_at_call 53; (with_reducible refine (Fbh.calls a1 t102 _ A6.out).mono ?_); rintro e w8 ⟨rfl, hb⟩; have n0_ := Ak (below_step (by exact eS HB.out) hb); clear HB; have HB := n0_; clear n0_; (try clear hb); (try clear hb2); (try clear hk); (try clear hi)))
  go_meet
  case rel => exact ⟨_, (!t102), (by first | rfl | (simp; done) | (simp [*]; done)), H', ⟨by first | omega | exact Nat.le_refl _⟩, ⟨by exact eS HB.out⟩⟩
 case rest =>
  clear HC3; (try clear c1); (try clear p2); (try clear c5)
  obtain ⟨kq, x16_2, rfl, HA, HJ2, HB⟩ := hcut
  cases kq with
  | zero => exact absurd HA.out (by simp [Fp.j0])
  | succ kj2 =>
   have H := HA.out
   clear HA
   simp only [Fp.j0] at H
   by_cases c10 : x16_2 = true
   ·subst c10
    have H1 : (some (0, false)) = some (r1, r2) := by rw [if_pos rfl] at H; exact H
    clear H
    have H := H1
    clear H1
    simp only [Option.some.injEq, Prod.mk.injEq] at H
    obtain ⟨rfl, rfl⟩ := H
    go_wp2
    go_ret2
    exact ⟨by first | rfl | (simp [errW_none, errW_some] <;> rfl) | (simp [*, errW_none, errW_some] <;> rfl), by exact eS HB.out⟩
   replace c10 := Bool.eq_false_iff.mpr c10
   subst c10
   have H1 : (Fp.l0 kj2 a1 0 l0 (l0.length : Int) 0) = some (r1, r2) := by rw [if_neg (show ¬ (false = true) by decide)] at H; exact H
   clear H
   have H := H1
   clear H1
   have H' := Ak H
   clear H
   go_wp2
   go_loopg [6, 19] kj2 (fun kq v6 v19 w' => ∃ (x6_2 : Int) (x19_2 : Int), v6 = .int .i64 x6_2 ∧ v19 = .int .i64 x19_2 ∧ Aside0 (Fp.l0 kq a1 x6_2 l0 (l0.length : Int) x19_2 = some (r1, r2)) ∧ Aside0 (kq ≤ kj2) ∧ Aside0 (Below w.heap.size w w'))
   case atStart => exact ⟨(0), (0), (by first | rfl | (simp; done) | (simp [*]; done)), (by first | rfl | (simp; done) | (simp [*]; done)), H', ⟨Nat.le_refl _⟩, ⟨by exact eS HB.out⟩⟩
   case round =>
    clear H'; (try clear c1); (try clear p2); (try clear c5); (try clear c10); (try clear p2)
    obtain ⟨x6_2, x19_2, rfl, rfl, HA, HK2, HB⟩ := hrel
    cases gk with
    | zero => exact absurd HA.out (by simp [Fp.l0])
    | succ k2 =>
     have H := HA.out
     clear HA
     simp only [Fp.l0] at H
     by_cases c11 : x19_2 < (l0.length : Int)
     rotate_left
     ·rw [if_neg c11] at H
      have c11b0 : decide (x19_2 < (l0.length : Int)) = false := decide_eq_false c11
      clear c11
      simp only [Option.some.injEq, Prod.mk.injEq] at H
      obtain ⟨rfl, rfl⟩ := H
      go_wp2
      go_ret2
      exact ⟨by first | rfl | (simp [errW_none, errW_some] <;> rfl) | (simp [*, errW_none, errW_some] <;> rfl), by exact eS HB.out⟩
     rw [if_pos c11] at H
     have c11b0 : decide (x19_2 < (l0.length : Int)) = true := decide_eq_true c11
     clear c11
     by_cases c12 : 0 ≤ x19_2
     rotate_left
     ·rw [if_neg c12] at H
      exact absurd H (by simp)
     rw [if_pos c12] at H
     have c12b0 : decide (0 ≤ x19_2) = true := decide_eq_true c12
     clear c12
     by_cases c13 : x19_2 < (l0.length : Int)
     rotate_left
     ·rw [if_neg c13] at H
      exact absurd H (by simp)
     rw [if_pos c13] at H
     have c13b0 : decide (x19_2 < (l0.length : Int)) = true := decide_eq_true c13
     clear c13
     by_cases c14 : ((rd_T34 l0 x19_2).f1).toList = a1.toList
     rotate_left
     ·rw [if_neg c14] at H
      have c14b0 : (((rd_T34 l0 x19_2).f1).toList == a1.toList) = false := beq_eq_false_iff_ne.mpr c14
      have c14b1 : (((rd_T34 l0 x19_2).f1).toList != a1.toList) = true := bne_iff_ne.mpr c14
      have H' := Ak H
      clear H
      have p103 : 0 ≤ (x19_2 : Int) := of_decide_eq_true (by first | (with_reducible assumption) | assumption)
      have q103 : x19_2 < (l0.length : Int) := of_decide_eq_true (by first | (with_reducible assumption) | assumption)
      obtain ⟨ad103, e103, hx103_0, hx103_1, hx103_2, hx103_3, hx103_4, hx103_5, hx103_6, hx103_7⟩ := at_T34 HR0.out x19_2 p103 q103
      cases e103
      replace hx103_0 := Sq.cB HB.out hx103_0
      replace hx103_1 := Sq.cB HB.out hx103_1
      replace hx103_2 := Sq.cB HB.out hx103_2
      replace hx103_3 := Sq.cB HB.out hx103_3
      replace hx103_4 := Sq.cB HB.out hx103_4
      replace hx103_5 := Sq.cB HB.out hx103_5
      replace hx103_6 := Sq.cB HB.out hx103_6
      replace hx103_7 := Sq.cB HB.out hx103_7
      replace p103 := eq_true p103; replace q103 := eq_true q103
      go_wp2_with (first | ((with_reducible refine gate_dst (N := 8) rfl ?_); refine box_event ?hg (N := 8) ?hd (cs := #[.int .i64 0, .string (⟨#[]⟩ : ByteArray), .int .i64 0, .int .i64 0, .int .i64 0, .int .i64 0, .int .i64 0, .int .i64 0]) (t := 34) ?hr ?_; (case hd => rfl); (case hg => rfl); (case hr => first | (go_simp; done) | (go_simp; rfl)); intro gb104 hg w20 hbox hb; have n0_ := Ak (below_step (by exact eS HB.out) hb); have n1_ := Ak (hbox); have n2_ := Ak ((by rw [hg]; exact (below_size (by exact eS HB.out)) : w.heap.size ≤ gb104)); have n3_ := Ak ((by rw [hg]; exact (below_size (by exact eS HB.out)) : w.heap.size ≤ gb104)); clear HB; have HB := n0_; have BK104 := n1_; have GW104 := n2_; have GE104 := n3_; clear n0_ n1_ n2_ n3_; clear hb hbox hg; obtain ⟨hcz21_0, hcz21_1, hcz21_2, hcz21_3, hcz21_4, hcz21_5, hcz21_6, hcz21_7, hfz21_0, hfz21_1, hfz21_2, hfz21_3, hfz21_4, hfz21_5, hfz21_6, hfz21_7⟩ := Sq.c8 BK104.out))
      go_roundg k2
      case measure => have := HJ2.out; have := HK2.out; omega
      case rel => exact ⟨(x6_2), (wrap64 (x19_2 + 1)), (by first | rfl | (simp; done) | (simp [*]; done)), (by first | rfl | (simp; done) | (simp [*]; done)), H', ⟨by have := HJ2.out; have := HK2.out; omega⟩, ⟨by repeat (first | (with_reducible first | exact HB.out | apply below_alloc | apply pw_below_drewN | apply below_drew1 | refine below_set ?_ GE104.out) | exact HB.out)⟩⟩
     rw [if_pos c14] at H
     have c14b0 : (((rd_T34 l0 x19_2).f1).toList == a1.toList) = true := beq_iff_eq.mpr c14
     have c14b1 : (((rd_T34 l0 x19_2).f1).toList != a1.toList) = false := bne_eq_false_iff_eq.mpr c14
     clear c14
     by_cases c15 : ((rd_T34 l0 x19_2).f4) = 5
     ·rw [if_pos c15] at H
      have c15b0 : (((rd_T34 l0 x19_2).f4) == 5) = true := beq_iff_eq.mpr c15
      have c15b1 : (((rd_T34 l0 x19_2).f4) != 5) = false := bne_eq_false_iff_eq.mpr c15
      clear c15
      have H' := Ak H
      clear H
      have p103 : 0 ≤ (x19_2 : Int) := of_decide_eq_true (by first | (with_reducible assumption) | assumption)
      have q103 : x19_2 < (l0.length : Int) := of_decide_eq_true (by first | (with_reducible assumption) | assumption)
      obtain ⟨ad103, e103, hx103_0, hx103_1, hx103_2, hx103_3, hx103_4, hx103_5, hx103_6, hx103_7⟩ := at_T34 HR0.out x19_2 p103 q103
      cases e103
      replace hx103_0 := Sq.cB HB.out hx103_0
      replace hx103_1 := Sq.cB HB.out hx103_1
      replace hx103_2 := Sq.cB HB.out hx103_2
      replace hx103_3 := Sq.cB HB.out hx103_3
      replace hx103_4 := Sq.cB HB.out hx103_4
      replace hx103_5 := Sq.cB HB.out hx103_5
      replace hx103_6 := Sq.cB HB.out hx103_6
      replace hx103_7 := Sq.cB HB.out hx103_7
      replace p103 := eq_true p103; replace q103 := eq_true q103
      go_wp2_with (first | ((with_reducible refine gate_dst (N := 8) rfl ?_); refine box_event ?hg (N := 8) ?hd (cs := #[.int .i64 0, .string (⟨#[]⟩ : ByteArray), .int .i64 0, .int .i64 0, .int .i64 0, .int .i64 0, .int .i64 0, .int .i64 0]) (t := 34) ?hr ?_; (case hd => rfl); (case hg => rfl); (case hr => first | (go_simp; done) | (go_simp; rfl)); intro gb104 hg w16 hbox hb; have n0_ := Ak (below_step (by exact eS HB.out) hb); have n1_ := Ak (hbox); have n2_ := Ak ((by rw [hg]; exact (below_size (by exact eS HB.out)) : w.heap.size ≤ gb104)); have n3_ := Ak ((by rw [hg]; exact (below_size (by exact eS HB.out)) : w.heap.size ≤ gb104)); clear HB; have HB := n0_; have BK104 := n1_; have GW104 := n2_; have GE104 := n3_; clear n0_ n1_ n2_ n3_; clear hb hbox hg; obtain ⟨hcz17_0, hcz17_1, hcz17_2, hcz17_3, hcz17_4, hcz17_5, hcz17_6, hcz17_7, hfz17_0, hfz17_1, hfz17_2, hfz17_3, hfz17_4, hfz17_5, hfz17_6, hfz17_7⟩ := Sq.c8 BK104.out))
      go_roundg k2
      case measure => have := HJ2.out; have := HK2.out; omega
      case rel => exact ⟨(x6_2), (wrap64 (x19_2 + 1)), (by first | rfl | (simp; done) | (simp [*]; done)), (by first | rfl | (simp; done) | (simp [*]; done)), H', ⟨by have := HJ2.out; have := HK2.out; omega⟩, ⟨by repeat (first | (with_reducible first | exact HB.out | apply below_alloc | apply pw_below_drewN | apply below_drew1 | refine below_set ?_ GE104.out) | exact HB.out)⟩⟩
     rw [if_neg c15] at H
     have c15b0 : (((rd_T34 l0 x19_2).f4) == 5) = false := beq_eq_false_iff_ne.mpr c15
     have c15b1 : (((rd_T34 l0 x19_2).f4) != 5) = true := bne_iff_ne.mpr c15
     have H' := Ak H
     clear H
     have p103 : 0 ≤ (x19_2 : Int) := of_decide_eq_true (by first | (with_reducible assumption) | assumption)
     have q103 : x19_2 < (l0.length : Int) := of_decide_eq_true (by first | (with_reducible assumption) | assumption)
     obtain ⟨ad103, e103, hx103_0, hx103_1, hx103_2, hx103_3, hx103_4, hx103_5, hx103_6, hx103_7⟩ := at_T34 HR0.out x19_2 p103 q103
     cases e103
     replace hx103_0 := Sq.cB HB.out hx103_0
     replace hx103_1 := Sq.cB HB.out hx103_1
     replace hx103_2 := Sq.cB HB.out hx103_2
     replace hx103_3 := Sq.cB HB.out hx103_3
     replace hx103_4 := Sq.cB HB.out hx103_4
     replace hx103_5 := Sq.cB HB.out hx103_5
     replace hx103_6 := Sq.cB HB.out hx103_6
     replace hx103_7 := Sq.cB HB.out hx103_7
     replace p103 := eq_true p103; replace q103 := eq_true q103
     go_wp2_with (first | ((with_reducible refine gate_dst (N := 8) rfl ?_); refine box_event ?hg (N := 8) ?hd (cs := #[.int .i64 0, .string (⟨#[]⟩ : ByteArray), .int .i64 0, .int .i64 0, .int .i64 0, .int .i64 0, .int .i64 0, .int .i64 0]) (t := 34) ?hr ?_; (case hd => rfl); (case hg => rfl); (case hr => first | (go_simp; done) | (go_simp; rfl)); intro gb104 hg w18 hbox hb; have n0_ := Ak (below_step (by exact eS HB.out) hb); have n1_ := Ak (hbox); have n2_ := Ak ((by rw [hg]; exact (below_size (by exact eS HB.out)) : w.heap.size ≤ gb104)); have n3_ := Ak ((by rw [hg]; exact (below_size (by exact eS HB.out)) : w.heap.size ≤ gb104)); clear HB; have HB := n0_; have BK104 := n1_; have GW104 := n2_; have GE104 := n3_; clear n0_ n1_ n2_ n3_; clear hb hbox hg; obtain ⟨hcz19_0, hcz19_1, hcz19_2, hcz19_3, hcz19_4, hcz19_5, hcz19_6, hcz19_7, hfz19_0, hfz19_1, hfz19_2, hfz19_3, hfz19_4, hfz19_5, hfz19_6, hfz19_7⟩ := Sq.c8 BK104.out))
     go_roundg k2
     case measure => have := HJ2.out; have := HK2.out; omega
     case rel => exact ⟨(wrap64 (x6_2 + (wrap64 (((rd_T34 l0 x19_2).f5) - ((rd_T34 l0 x19_2).f6))))), (wrap64 (x19_2 + 1)), (by first | rfl | (simp; done) | (simp [*]; done)), (by first | rfl | (simp; done) | (simp [*]; done)), H', ⟨by have := HJ2.out; have := HK2.out; omega⟩, ⟨by repeat (first | (with_reducible first | exact HB.out | apply below_alloc | apply pw_below_drewN | apply below_drew1 | refine below_set ?_ GE104.out) | exact HB.out)⟩⟩
end Go.Proofs.YtahfahlbdgbfeaaGreatDoor.X

namespace Go.Proofs.YtahfahlbdgbfeaaGreatDoor.X
open Ho (bS eS RS Ak Cs Ct Cd)
open Go.RowKit Go.Proofs.YtahfahlbdgbfeaaGreatDoorW.PrintWords Go.Proofs.YtahfahlbdgbfeaaGreatDoorW.PrintLast Go.Proofs.YtahfahlbdgbfeaaGreatDoorW.PrintMore
attribute [local go_sem] max2_int min2_int max_two min_two max_three min_three max_four min_four   -- for this text's walks alone
set_option linter.unusedVariables false
set_option linter.unusedSimpArgs false
open Sq (I O Z Dz)
attribute [local go_sem ↓] Ho.isSome_setCell_   -- a store leaves all places there
/-! ### Fbj: function 47 -/
def Fbj.f (a0_0 : Int) (a0_1 : ByteArray) (a0_2 : Int) (a0_3 : Int) (a0_4 : Int) (a0_5 : Int) (a0_6 : Int) (a0_7 : Int) (a1_0 : Int) : Option (Bool) := some (decide (a0_7 ≤ a1_0))
set_option maxHeartbeats 8000000 in
set_option maxRecDepth 100000 in
theorem Fbj.calls (a0_0 : Int) (a0_1 : ByteArray) (a0_2 : Int) (a0_3 : Int) (a0_4 : Int) (a0_5 : Int) (a0_6 : Int) (a0_7 : Int) (gb1 : Nat) (a1_0 : Int) (r : Bool) (w : World) (hb1 : w.heap[gb1]? = some (.cells #[.int .i64 a1_0] 3 (0, 0))) (h : Fbj.f a0_0 a0_1 a0_2 a0_3 a0_4 a0_5 a0_6 a0_7 a1_0 = some r) :
  Calls Tryz.prog 47 #[.agg #[.int .i64 a0_0, .string a0_1, .int .i64 a0_2, .int .i64 a0_3, .int .i64 a0_4, .int .i64 a0_5, .int .i64 a0_6, .int .i64 a0_7], .pointer (some ⟨gb1, 0, none⟩)] w fun e w' => e = .returned (.bool r) ∧ Below w.heap.size w w' := by
 have hu34 := Tryz.underlying34
 have BK1 := Ak hb1
 clear hb1
 have HB := Ak (Below.refl w.heap.size w)
 have H : (some (decide (a0_7 ≤ a1_0))) = some r := h
 clear h
 obtain rfl := Option.some.inj H
 go_enter Tryz.func47, Tryz.ntmps47
 go_wp2_with (first | ((with_reducible refine gate_dst (N := 2) rfl ?_); refine box_event ?hg (N := 2) ?hd (cs := #[.int .i64 a0_0, .string a0_1, .int .i64 a0_2, .int .i64 a0_3, .int .i64 a0_4, .int .i64 a0_5, .int .i64 a0_6, .int .i64 a0_7]) (t := 34) ?hr ?_; (case hd => rfl); (case hg => rfl); (case hr => first | (go_simp; done) | (go_simp; rfl)); intro gb101 hg w3 hbox hb; have n0_ := Ak (blk_below (bS BK1.out) hb); have n1_ := Ak (below_step (by exact eS HB.out) hb); have n2_ := Ak (hbox); have n3_ := Ak ((by rw [hg]; exact (below_size (by exact eS HB.out)) : w.heap.size ≤ gb101)); have n4_ := Ak ((by rw [hg]; exact (below_size (by exact eS HB.out)) : w.heap.size ≤ gb101)); have n5_ := Ak ((by rw [hg]; exact Nat.ne_of_lt (blk_lt (bS BK1.out)) : gb1 ≠ gb101)); have n6_ := Ak ((by rw [hg]; exact Nat.ne_of_gt (blk_lt (bS BK1.out)) : gb101 ≠ gb1)); clear BK1; clear HB; have BK1 := n0_; have HB := n1_; have BK101 := n2_; have GW101 := n3_; have GE101 := n4_; have NB1_101 := n5_; have NB101_1 := n6_; clear n0_ n1_ n2_ n3_ n4_ n5_ n6_; clear hb hbox hg; have hnb4 := NB101_1.out; have hnc4 := NB1_101.out; have hcz5_0 : w3.cell? ⟨gb101, 0, none⟩ = some (.int .i64 a0_0) := (blk_cell BK101.out 0).trans rfl; have hcz5_1 : w3.cell? ⟨gb101, 1, none⟩ = some (.string a0_1) := (blk_cell BK101.out 1).trans rfl; have hcz5_2 : w3.cell? ⟨gb101, 2, none⟩ = some (.int .i64 a0_2) := (blk_cell BK101.out 2).trans rfl; have hcz5_3 : w3.cell? ⟨gb101, 3, none⟩ = some (.int .i64 a0_3) := (blk_cell BK101.out 3).trans rfl; have hcz5_4 : w3.cell? ⟨gb101, 4, none⟩ = some (.int .i64 a0_4) := (blk_cell BK101.out 4).trans rfl; have hcz5_5 : w3.cell? ⟨gb101, 5, none⟩ = some (.int .i64 a0_5) := (blk_cell BK101.out 5).trans rfl; have hcz5_6 : w3.cell? ⟨gb101, 6, none⟩ = some (.int .i64 a0_6) := (blk_cell BK101.out 6).trans rfl; have hcz5_7 : w3.cell? ⟨gb101, 7, none⟩ = some (.int .i64 a0_7) := (blk_cell BK101.out 7).trans rfl; have hfz5_0 := blk_frozen BK101.out 0; have hfz5_1 := blk_frozen BK101.out 1; have hfz5_2 := blk_frozen BK101.out 2; have hfz5_3 := blk_frozen BK101.out 3; have hfz5_4 := blk_frozen BK101.out 4; have hfz5_5 := blk_frozen BK101.out 5; have hfz5_6 := blk_frozen BK101.out 6; have hfz5_7 := blk_frozen BK101.out 7; have hcz6_0 : w3.cell? ⟨gb1, 0, none⟩ = some (.int .i64 a1_0) := (blk_cell BK1.out 0).trans rfl; have hfz6_0 := blk_frozen BK1.out 0))
 go_ret
 exact ⟨by first | rfl | (simp [errW_none, errW_some] <;> rfl) | (simp [*, errW_none, errW_some] <;> rfl), by exact eS HB.out⟩
/-! ### Fal: function 100007 -/
def Fal.f (l0 : List (S34)) (a1_0 : Int) : Option Bool := Ho.allO (fun x_ => Fbj.f x_.f0 x_.f1 x_.f2 x_.f3 x_.f4 x_.f5 x_.f6 x_.f7 a1_0) l0
theorem Fal.calls (A0 : Option Addr) (c0 : Nat) (l0 : List (S34)) (gb1_0 : Nat) (a1_0 : Int) (r : Bool) (w : World) (hr0 : Kd.C k34 w A0 l0.length l0) (hc0 : l0.length ≤ c0) (hb1_0 : w.heap[gb1_0]? = some (.cells #[.int .i64 a1_0] 3 (0, 0))) (h : Fal.f l0 a1_0 = some r) :
  Calls Tryz.prog 34 #[.slice A0 l0.length c0, .func (.func 47) #[] #[.pointer (some ⟨gb1_0, 0, none⟩)]] w fun e w' => e = .returned (.bool r) ∧ Below w.heap.size w w' := by
 have ec : ∀ args w, (callFunc 47 args).run Tryz.prog w = .ok (.enter 47 args) w := fun args w => by kernel_rfl
 have hp : Ho.PredO Tryz.prog 47 #[.pointer (some ⟨gb1_0, 0, none⟩)] (fun x_ : S34 => .agg #[.int .i64 x_.f0, .string x_.f1, .int .i64 x_.f2, .int .i64 x_.f3, .int .i64 x_.f4, .int .i64 x_.f5, .int .i64 x_.f6, .int .i64 x_.f7]) (fun x_ => Fbj.f x_.f0 x_.f1 x_.f2 x_.f3 x_.f4 x_.f5 x_.f6 x_.f7 a1_0) w := ⟨fun W x_ b_ hB_ hx_ => (Fbj.calls x_.f0 x_.f1 x_.f2 x_.f3 x_.f4 x_.f5 x_.f6 x_.f7 _ a1_0 b_ W (blk_below hb1_0 hB_) hx_).mono fun _ _ h_ => ⟨h_.1, h_.2⟩⟩
 exact ho_all34 _ 47 _ ec w hp _ _ _ _ hr0 hc0 h
attribute [local go_sem ↓] Ho.isSome_setCell_   -- a store leaves all places there
/-! ### Fav: function 49 -/
def Fav.f (a0_0 : Int) (a0_1 : ByteArray) (a0_2 : Int) (a0_3 : Int) (a0_4 : Int) (a0_5 : Int) (a0_6 : Int) (a0_7 : Int) (a1_0 : Int) (a2_0 : Int) : Option (Bool) := if a0_4 > 3 then (some true) else (some (decide ((wrap64 (a1_0 - a0_7)) ≤ a2_0)))
set_option maxHeartbeats 8000000 in
set_option maxRecDepth 100000 in
theorem Fav.calls (a0_0 : Int) (a0_1 : ByteArray) (a0_2 : Int) (a0_3 : Int) (a0_4 : Int) (a0_5 : Int) (a0_6 : Int) (a0_7 : Int) (gb1 : Nat) (a1_0 : Int) (gb2 : Nat) (a2_0 : Int) (r : Bool) (w : World) (hb1 : w.heap[gb1]? = some (.cells #[.int .i64 a1_0] 3 (0, 0))) (hb2 : w.heap[gb2]? = some (.cells #[.int .i64 a2_0] 3 (0, 0))) (h : Fav.f a0_0 a0_1 a0_2 a0_3 a0_4 a0_5 a0_6 a0_7 a1_0 a2_0 = some r) :
  Calls Tryz.prog 49 #[.agg #[.int .i64 a0_0, .string a0_1, .int .i64 a0_2, .int .i64 a0_3, .int .i64 a0_4, .int .i64 a0_5, .int .i64 a0_6, .int .i64 a0_7], .pointer (some ⟨gb1, 0, none⟩), .pointer (some ⟨gb2, 0, none⟩)] w fun e w' => e = .returned (.bool r) ∧ Below w.heap.size w w' := by
 have hu34 := Tryz.underlying34
 have BK1 := Ak hb1
 clear hb1
 have BK2 := Ak hb2
 clear hb2
 have HB := Ak (Below.refl w.heap.size w)
 have H : (if a0_4 > 3 then (some true) else (some (decide ((wrap64 (a1_0 - a0_7)) ≤ a2_0)))) = some r := h
 clear h
 by_cases c4 : a0_4 > 3
 ·rw [if_pos c4] at H
  have c4b0 : decide (3 < a0_4) = true := decide_eq_true c4
  clear c4
  obtain rfl := Option.some.inj H
  go_enter Tryz.func49, Tryz.ntmps49
  go_wp2_with (first | ((with_reducible refine gate_dst (N := 3) rfl ?_); refine box_event ?hg (N := 3) ?hd (cs := #[.int .i64 a0_0, .string a0_1, .int .i64 a0_2, .int .i64 a0_3, .int .i64 a0_4, .int .i64 a0_5, .int .i64 a0_6, .int .i64 a0_7]) (t := 34) ?hr ?_; (case hd => rfl); (case hg => rfl); (case hr => first | (go_simp; done) | (go_simp; rfl)); intro gb101 hg w5 hbox hb; have n0_ := Ak (blk_below (bS BK1.out) hb); have n1_ := Ak (blk_below (bS BK2.out) hb); have n2_ := Ak (below_step (by exact eS HB.out) hb); have n3_ := Ak (hbox); have n4_ := Ak ((by rw [hg]; exact (below_size (by exact eS HB.out)) : w.heap.size ≤ gb101)); have n5_ := Ak ((by rw [hg]; exact (below_size (by exact eS HB.out)) : w.heap.size ≤ gb101)); have n6_ := Ak ((by rw [hg]; exact Nat.ne_of_lt (blk_lt (bS BK1.out)) : gb1 ≠ gb101)); have n7_ := Ak ((by rw [hg]; exact Nat.ne_of_gt (blk_lt (bS BK1.out)) : gb101 ≠ gb1)); have n8_ := Ak ((by rw [hg]; exact Nat.ne_of_lt (blk_lt (bS BK2.out)) : gb2 ≠ gb101)); have n9_ := Ak ((by rw [hg]; exact Nat.ne_of_gt (blk_lt (bS BK2.out)) : gb101 ≠ gb2)); clear BK1; clear BK2; clear HB; have BK1 := n0_; have BK2 := n1_; have HB := n2_; have BK101 := n3_; have GW101 := n4_; have GE101 := n5_; have NB1_101 := n6_; have NB101_1 := n7_; have NB2_101 := n8_; have NB101_2 := n9_; clear n0_ n1_ n2_ n3_ n4_ n5_ n6_ n7_ n8_ n9_; clear hb hbox hg; have hnb6 := NB101_1.out; have hnc6 := NB1_101.out; have hnb7 := NB101_2.out; have hnc7 := NB2_101.out; have hcz8_0 : w5.cell? ⟨gb101, 0, none⟩ = some (.int .i64 a0_0) := (blk_cell BK101.out 0).trans rfl; have hcz8_1 : w5.cell? ⟨gb101, 1, none⟩ = some (.string a0_1) := (blk_cell BK101.out 1).trans rfl; have hcz8_2 : w5.cell? ⟨gb101, 2, none⟩ = some (.int .i64 a0_2) := (blk_cell BK101.out 2).trans rfl; have hcz8_3 : w5.cell? ⟨gb101, 3, none⟩ = some (.int .i64 a0_3) := (blk_cell BK101.out 3).trans rfl; have hcz8_4 : w5.cell? ⟨gb101, 4, none⟩ = some (.int .i64 a0_4) := (blk_cell BK101.out 4).trans rfl; have hcz8_5 : w5.cell? ⟨gb101, 5, none⟩ = some (.int .i64 a0_5) := (blk_cell BK101.out 5).trans rfl; have hcz8_6 : w5.cell? ⟨gb101, 6, none⟩ = some (.int .i64 a0_6) := (blk_cell BK101.out 6).trans rfl; have hcz8_7 : w5.cell? ⟨gb101, 7, none⟩ = some (.int .i64 a0_7) := (blk_cell BK101.out 7).trans rfl; have hfz8_0 := blk_frozen BK101.out 0; have hfz8_1 := blk_frozen BK101.out 1; have hfz8_2 := blk_frozen BK101.out 2; have hfz8_3 := blk_frozen BK101.out 3; have hfz8_4 := blk_frozen BK101.out 4; have hfz8_5 := blk_frozen BK101.out 5; have hfz8_6 := blk_frozen BK101.out 6; have hfz8_7 := blk_frozen BK101.out 7))
  go_ret
  exact ⟨by first | rfl | (simp [errW_none, errW_some] <;> rfl) | (simp [*, errW_none, errW_some] <;> rfl), by exact eS HB.out⟩
 ·rw [if_neg c4] at H
  have c4b0 : decide (3 < a0_4) = false := decide_eq_false c4
  clear c4
  obtain rfl := Option.some.inj H
  go_enter Tryz.func49, Tryz.ntmps49
  go_wp2_with (first | ((with_reducible refine gate_dst (N := 3) rfl ?_); refine box_event ?hg (N := 3) ?hd (cs := #[.int .i64 a0_0, .string a0_1, .int .i64 a0_2, .int .i64 a0_3, .int .i64 a0_4, .int .i64 a0_5, .int .i64 a0_6, .int .i64 a0_7]) (t := 34) ?hr ?_; (case hd => rfl); (case hg => rfl); (case hr => first | (go_simp; done) | (go_simp; rfl)); intro gb101 hg w9 hbox hb; have n0_ := Ak (blk_below (bS BK1.out) hb); have n1_ := Ak (blk_below (bS BK2.out) hb); have n2_ := Ak (below_step (by exact eS HB.out) hb); have n3_ := Ak (hbox); have n4_ := Ak ((by rw [hg]; exact (below_size (by exact eS HB.out)) : w.heap.size ≤ gb101)); have n5_ := Ak ((by rw [hg]; exact (below_size (by exact eS HB.out)) : w.heap.size ≤ gb101)); have n6_ := Ak ((by rw [hg]; exact Nat.ne_of_lt (blk_lt (bS BK1.out)) : gb1 ≠ gb101)); have n7_ := Ak ((by rw [hg]; exact Nat.ne_of_gt (blk_lt (bS BK1.out)) : gb101 ≠ gb1)); have n8_ := Ak ((by rw [hg]; exact Nat.ne_of_lt (blk_lt (bS BK2.out)) : gb2 ≠ gb101)); have n9_ := Ak ((by rw [hg]; exact Nat.ne_of_gt (blk_lt (bS BK2.out)) : gb101 ≠ gb2)); clear BK1; clear BK2; clear HB; have BK1 := n0_; have BK2 := n1_; have HB := n2_; have BK101 := n3_; have GW101 := n4_; have GE101 := n5_; have NB1_101 := n6_; have NB101_1 := n7_; have NB2_101 := n8_; have NB101_2 := n9_; clear n0_ n1_ n2_ n3_ n4_ n5_ n6_ n7_ n8_ n9_; clear hb hbox hg; have hnb10 := NB101_1.out; have hnc10 := NB1_101.out; have hnb11 := NB101_2.out; have hnc11 := NB2_101.out; have hcz12_0 : w9.cell? ⟨gb101, 0, none⟩ = some (.int .i64 a0_0) := (blk_cell BK101.out 0).trans rfl; have hcz12_1 : w9.cell? ⟨gb101, 1, none⟩ = some (.string a0_1) := (blk_cell BK101.out 1).trans rfl; have hcz12_2 : w9.cell? ⟨gb101, 2, none⟩ = some (.int .i64 a0_2) := (blk_cell BK101.out 2).trans rfl; have hcz12_3 : w9.cell? ⟨gb101, 3, none⟩ = some (.int .i64 a0_3) := (blk_cell BK101.out 3).trans rfl; have hcz12_4 : w9.cell? ⟨gb101, 4, none⟩ = some (.int .i64 a0_4) := (blk_cell BK101.out 4).trans rfl; have hcz12_5 : w9.cell? ⟨gb101, 5, none⟩ = some (.int .i64 a0_5) := (blk_cell BK101.out 5).trans rfl; have hcz12_6 : w9.cell? ⟨gb101, 6, none⟩ = some (.int .i64 a0_6) := (blk_cell BK101.out 6).trans rfl; have hcz12_7 : w9.cell? ⟨gb101, 7, none⟩ = some (.int .i64 a0_7) := (blk_cell BK101.out 7).trans rfl; have hfz12_0 := blk_frozen BK101.out 0; have hfz12_1 := blk_frozen BK101.out 1; have hfz12_2 := blk_frozen BK101.out 2; have hfz12_3 := blk_frozen BK101.out 3; have hfz12_4 := blk_frozen BK101.out 4; have hfz12_5 := blk_frozen BK101.out 5; have hfz12_6 := blk_frozen BK101.out 6; have hfz12_7 := blk_frozen BK101.out 7; have hcz13_0 : w9.cell? ⟨gb1, 0, none⟩ = some (.int .i64 a1_0) := (blk_cell BK1.out 0).trans rfl; have hfz13_0 := blk_frozen BK1.out 0; have hcz14_0 : w9.cell? ⟨gb2, 0, none⟩ = some (.int .i64 a2_0) := (blk_cell BK2.out 0).trans rfl; have hfz14_0 := blk_frozen BK2.out 0))
  go_ret
  exact ⟨by first | rfl | (simp [errW_none, errW_some] <;> rfl) | (simp [*, errW_none, errW_some] <;> rfl), by exact eS HB.out⟩
/-! ### Fan: function 100009 -/
def Fan.f (l0 : List (S34)) (a1_0 : Int) (a1_1 : Int) : Option Int := Ho.idxO (fun x_ => Fav.f x_.f0 x_.f1 x_.f2 x_.f3 x_.f4 x_.f5 x_.f6 x_.f7 a1_0 a1_1) l0 0
theorem Fan.calls (A0 : Option Addr) (c0 : Nat) (l0 : List (S34)) (gb1_0 : Nat) (gb1_1 : Nat) (a1_0 : Int) (a1_1 : Int) (r : Int) (w : World) (hr0 : Kd.C k34 w A0 l0.length l0) (hc0 : l0.length ≤ c0) (hb1_0 : w.heap[gb1_0]? = some (.cells #[.int .i64 a1_0] 3 (0, 0))) (hb1_1 : w.heap[gb1_1]? = some (.cells #[.int .i64 a1_1] 3 (0, 0))) (h : Fan.f l0 a1_0 a1_1 = some r) :
  Calls Tryz.prog 67 #[.slice A0 l0.length c0, .func (.func 49) #[] #[.pointer (some ⟨gb1_0, 0, none⟩), .pointer (some ⟨gb1_1, 0, none⟩)]] w fun e w' => e = .returned (.int .i64 r) ∧ Below w.heap.size w w' := by
 have ec : ∀ args w, (callFunc 49 args).run Tryz.prog w = .ok (.enter 49 args) w := fun args w => by kernel_rfl
 have hp : Ho.PredO Tryz.prog 49 #[.pointer (some ⟨gb1_0, 0, none⟩), .pointer (some ⟨gb1_1, 0, none⟩)] (fun x_ : S34 => .agg #[.int .i64 x_.f0, .string x_.f1, .int .i64 x_.f2, .int .i64 x_.f3, .int .i64 x_.f4, .int .i64 x_.f5, .int .i64 x_.f6, .int .i64 x_.f7]) (fun x_ => Fav.f x_.f0 x_.f1 x_.f2 x_.f3 x_.f4 x_.f5 x_.f6 x_.f7 a1_0 a1_1) w := ⟨fun W x_ b_ hB_ hx_ => (Fav.calls x_.f0 x_.f1 x_.f2 x_.f3 x_.f4 x_.f5 x_.f6 x_.f7 _ a1_0 _ a1_1 b_ W (blk_below hb1_0 hB_) (blk_below hb1_1 hB_) hx_).mono fun _ _ h_ => ⟨h_.1, h_.2⟩⟩
 exact ho_idx67 _ 49 _ ec w hp _ _ _ _ hr0 hc0 h
end Go.Proofs.YtahfahlbdgbfeaaGreatDoor.X

namespace Go.Proofs.YtahfahlbdgbfeaaGreatDoor.X
open Ho (bS eS RS Ak Cs Ct Cd)
open Go.RowKit Go.Proofs.YtahfahlbdgbfeaaGreatDoorW.PrintWords Go.Proofs.YtahfahlbdgbfeaaGreatDoorW.PrintLast Go.Proofs.YtahfahlbdgbfeaaGreatDoorW.PrintMore
attribute [local go_sem] max2_int min2_int max_two min_two max_three min_three max_four min_four   -- for this text's walks alone
set_option linter.unusedVariables false
set_option linter.unusedSimpArgs false
attribute [local go_sem ↓] Ho.isSome_setCell_   -- a store leaves all places there
/-! ### Ff: function 100008 -/
def Ff.l0 : Nat → List (S34) → Int → Int → Int → Int → Option ((List (S34)))
  | 0, _, _, _, _, _ => none
  | k + 1, x0, x5, x6, x61000, x62000 => if x6 < (x0.length : Int) then (if 0 ≤ x6 then ((Fav.f ((rd_T34 x0 x6).f0) ((rd_T34 x0 x6).f1) ((rd_T34 x0 x6).f2) ((rd_T34 x0 x6).f3) ((rd_T34 x0 x6).f4) ((rd_T34 x0 x6).f5) ((rd_T34 x0 x6).f6) ((rd_T34 x0 x6).f7) x61000 x62000).bind fun t104 => (if t104 = true then (Ff.l0 k x0 x5 (wrap64 (x6 + 1)) x61000 x62000) else (if 0 ≤ x5 then (if x5 < (x0.length : Int) then (Ff.l0 k (x0.set (x5 : Int).toNat (⟨(rd_T34 x0 x6).f0, (rd_T34 x0 x6).f1, (rd_T34 x0 x6).f2, (rd_T34 x0 x6).f3, (rd_T34 x0 x6).f4, (rd_T34 x0 x6).f5, (rd_T34 x0 x6).f6, (rd_T34 x0 x6).f7⟩ : S34)) (wrap64 (x5 + 1)) (wrap64 (x6 + 1)) x61000 x62000) else (none)) else (none)))) else (none)) else (if 0 ≤ x5 then (if x5 ≤ (x0.length : Int) then (some ((Cl.clr x0 ((x5 : Int).toNat) z34).take (x5 : Int).toNat)) else (none)) else (none))
def Ff.f (k : Nat) (l0 : List (S34)) (a1_0 : Int) (a1_1 : Int) : Option ((List (S34))) := (Fan.f l0 a1_0 a1_1).bind fun t101 => (if t101 = (-1) then (some l0) else (Ff.l0 k l0 t101 (wrap64 (t101 + 1)) a1_0 a1_1))
theorem Ff.mono_l : ∀ k, (∀ y0 y1 y2 y3 y4, LeO (Ff.l0 k y0 y1 y2 y3 y4) (Ff.l0 (k + 1) y0 y1 y2 y3 y4))
  | 0 => fun _ _ _ _ _ r h => by simp [Ff.l0] at h
  | k + 1 => by
    have ih0 := Ff.mono_l k
    · intro y0 y1 y2 y3 y4
      unfold Ff.l0
      repeat' first | (with_reducible first | exact ih0 _ _ _ _ _ | exact LeO.refl _ | exact LeO.none _ | refine LeO.ite ?_ ?_ | refine LeO.bind ?_ (fun _ => ?_)) | exact ih0 _ _ _ _ _ | exact LeO.none _ | refine LeO.ite ?_ ?_ | refine LeO.bind ?_ (fun _ => ?_)
theorem Ff.mono : ∀ a0 a1 a2 k, LeO (Ff.f k a0 a1 a2) (Ff.f (k + 1) a0 a1 a2) := by
  intro a0 a1 a2 k
  have ih0 := Ff.mono_l k
  unfold Ff.f
  repeat' first | (with_reducible first | exact ih0 _ _ _ _ _ | exact LeO.refl _ | exact LeO.none _ | refine LeO.ite ?_ ?_ | refine LeO.bind ?_ (fun _ => ?_)) | exact ih0 _ _ _ _ _ | exact LeO.none _ | refine LeO.ite ?_ ?_ | refine LeO.bind ?_ (fun _ => ?_)
set_option maxHeartbeats 8000000 in
set_option maxRecDepth 100000 in
theorem Ff.calls (k : Nat) (P0_ : Nat → Prop) (u9000_ : Value) (l0 : List (S34)) (gb1_0 : Nat) (gb1_1 : Nat) (a1_0 : Int) (a1_1 : Int) (r : List (S34)) (w0 w : World) (hB : Below w0.heap.size w0 w) (ho0 : Kd.R k34 34 w w0.heap.size P0_ u9000_ l0) (hb1_0 : w.heap[gb1_0]? = some (.cells #[.int .i64 a1_0] 3 (0, 0))) (hb1_1 : w.heap[gb1_1]? = some (.cells #[.int .i64 a1_1] 3 (0, 0))) (h : Ff.f k l0 a1_0 a1_1 = some r) :
  Calls Tryz.prog 38 #[u9000_, .func (.func 49) #[] #[.pointer (some ⟨gb1_0, 0, none⟩), .pointer (some ⟨gb1_1, 0, none⟩)]] w fun e w' => ∃ v0_ : Value, e = .returned (v0_) ∧ Kd.R k34 34 w' w0.heap.size (fun k_ => (P0_ k_ ∨ w.heap.size ≤ k_)) v0_ r ∧ Below w0.heap.size w0 w' ∧ Kept w w' (fun k_ => P0_ k_) := by
 have hu34 := Tryz.underlying34
 have HO0 := Ak (show Kd.R k34 34 w w0.heap.size (fun k_ => (P0_ k_ ∨ w.heap.size ≤ k_)) u9000_ l0 from Kd.R_mono ho0 (fun k_ hk => (.inl hk)))
 have HK := Ak (Kept.refl w (fun k_ => P0_ k_))
 have BK60 := Ak hb1_0
 clear hb1_0
 have BK61 := Ak hb1_1
 clear hb1_1
 have HW0 := Ak hB.size
 have HB := Ak hB
 clear hB
 have H : ((Fan.f l0 a1_0 a1_1).bind fun t101 => (if t101 = (-1) then (some l0) else (Ff.l0 k l0 t101 (wrap64 (t101 + 1)) a1_0 a1_1))) = some r := h
 clear h
 replace H := Option.bind_eq_some_iff.mp H
 obtain ⟨t101, A30, H⟩ := H
 (try dsimp only at H)
 have A3 := Ak A30
 clear A30
 by_cases c4 : t101 = (-1)
 ·rw [if_pos c4] at H
  have c4b0 : (t101 == (-1)) = true := beq_iff_eq.mpr c4
  have c4b1 : (t101 != (-1)) = false := bne_eq_false_iff_eq.mpr c4
  clear c4
  obtain rfl := Option.some.inj H
  obtain ⟨Ao5, co5, eo5⟩ := Kd.R_slice HO0.out
  subst eo5
  go_enter Tryz.func38, Tryz.ntmps38
  go_wp2_with (first | ((with_reducible refine gate_callee (f := 67) rfl ?_); refine goesL_ (some 10) rfl rfl Tryz.func67 (by kernel_rfl) rfl #[.slice Ao5 l0.length co5, .func (.func 49) #[] #[.pointer (some ⟨gb1_0, 0, none⟩), .pointer (some ⟨gb1_1, 0, none⟩)]] rfl (by (try simp only [List.map_toArray, List.map_cons, List.map_nil]); first | done | rfl | (simp only [List.length_drop, List.length_take]; rfl)) ?_; (refine (Fan.calls _ _ l0 gb1_0 gb1_1 a1_0 a1_1 t101 _ ?side1 ?side2 ?side3 ?side4 A3.out).mono ?_); (case side1 => repeat (first | exact (Kd.R_reads' HO0.out).2.2 | (with_reducible refine Kd.C_alloc ?_ _) | (with_reducible refine Kd.C_drewN ?_ _) | (with_reducible refine Kd.C_drew ?_))); (case side2 => exact (Kd.R_reads' HO0.out).2.1); (case side3 => exact bS BK60.out); (case side4 => exact bS BK61.out); rintro e w6 ⟨rfl, hb⟩; refine ⟨_, rfl, ?_⟩; have n0_ := Ak (Kd.R_below (by exact RS <| HO0.out) hb); have n1_ := Ak (blk_below (bS BK60.out) hb); have n2_ := Ak (blk_below (bS BK61.out) hb); have n3_ := Ak (Kept.below (S := (fun k_ => P0_ k_)) (by exact Ho.KS HK.out) hb); have n4_ := Ak (below_step (by exact eS HB.out) hb); clear HO0; clear BK60; clear BK61; clear HK; clear HB; have HO0 := n0_; have BK60 := n1_; have BK61 := n2_; have HK := n3_; have HB := n4_; clear n0_ n1_ n2_ n3_ n4_; (try clear hb); (try clear hb2); (try clear hk); (try clear hi)))
  go_ret
  exact ⟨_, by first | rfl | (simp [errW_none, errW_some] <;> rfl) | (simp [*, errW_none, errW_some] <;> rfl), by exact RS <| HO0.out, by exact eS HB.out, by exact Ho.KS HK.out⟩
 rw [if_neg c4] at H
 have c4b0 : (t101 == (-1)) = false := beq_eq_false_iff_ne.mpr c4
 have c4b1 : (t101 != (-1)) = true := bne_iff_ne.mpr c4
 have H' := Ak H
 clear H
 obtain ⟨Ao7, co7, eo7⟩ := Kd.R_slice HO0.out
 subst eo7
 go_enter Tryz.func38, Tryz.ntmps38
 go_wp2_with (first | ((with_reducible refine gate_callee (f := 67) rfl ?_); refine goesL_ (some 10) rfl rfl Tryz.func67 (by kernel_rfl) rfl #[.slice Ao7 l0.length co7, .func (.func 49) #[] #[.pointer (some ⟨gb1_0, 0, none⟩), .pointer (some ⟨gb1_1, 0, none⟩)]] rfl (by (try simp only [List.map_toArray, List.map_cons, List.map_nil]); first | done | rfl | (simp only [List.length_drop, List.length_take]; rfl)) ?_; (refine (Fan.calls _ _ l0 gb1_0 gb1_1 a1_0 a1_1 t101 _ ?side1 ?side2 ?side3 ?side4 A3.out).mono ?_); (case side1 => repeat (first | exact (Kd.R_reads' HO0.out).2.2 | (with_reducible refine Kd.C_alloc ?_ _) | (with_reducible refine Kd.C_drewN ?_ _) | (with_reducible refine Kd.C_drew ?_))); (case side2 => exact (Kd.R_reads' HO0.out).2.1); (case side3 => exact bS BK60.out); (case side4 => exact bS BK61.out); rintro e w8 ⟨rfl, hb⟩; refine ⟨_, rfl, ?_⟩; have n0_ := Ak (Kd.R_below (by exact RS <| HO0.out) hb); have n1_ := Ak (blk_below (bS BK60.out) hb); have n2_ := Ak (blk_below (bS BK61.out) hb); have n3_ := Ak (Kept.below (S := (fun k_ => P0_ k_)) (by exact Ho.KS HK.out) hb); have n4_ := Ak (below_step (by exact eS HB.out) hb); clear HO0; clear BK60; clear BK61; clear HK; clear HB; have HO0 := n0_; have BK60 := n1_; have BK61 := n2_; have HK := n3_; have HB := n4_; clear n0_ n1_ n2_ n3_ n4_; (try clear hb); (try clear hb2); (try clear hk); (try clear hi)))
 go_loopg [5, 6] k (fun kq v5 v6 w' => ∃ (x0_1 : List (S34)) (x5_1 : Int) (x6_1 : Int), v5 = .int .i64 x5_1 ∧ v6 = .int .i64 x6_1 ∧ Aside0 (Ff.l0 kq x0_1 x5_1 x6_1 a1_0 a1_1 = some r) ∧ Aside0 (kq ≤ k) ∧ Aside0 (Kd.R k34 34 w' w0.heap.size (fun k_ => (P0_ k_ ∨ w.heap.size ≤ k_)) (.slice Ao7 l0.length co7) x0_1) ∧ Aside0 (w'.heap[gb1_0]? = some (.cells #[.int .i64 a1_0] 3 (0, 0))) ∧ Aside0 (w'.heap[gb1_1]? = some (.cells #[.int .i64 a1_1] 3 (0, 0))) ∧ Aside0 (Kept w w' (fun k_ => P0_ k_)) ∧ Aside0 (Below w0.heap.size w0 w'))
 case atStart => exact ⟨(l0), (t101), (wrap64 (t101 + 1)), (by first | rfl | (simp; done) | (simp [*]; done)), (by first | rfl | (simp; done) | (simp [*]; done)), H', ⟨Nat.le_refl _⟩, ⟨by exact RS <| HO0.out⟩, ⟨by exact bS BK60.out⟩, ⟨by exact bS BK61.out⟩, ⟨by exact Ho.KS HK.out⟩, ⟨by exact eS HB.out⟩⟩
 case round =>
  clear H'; (try clear p2); (try clear c3); (try clear c4); (try clear c4b0); (try clear c4b1); (try clear c6); (try clear p6)
  obtain ⟨x0_1, x5_1, x6_1, rfl, rfl, HA, HK1, HO_0, BK60, BK61, HK, HB⟩ := hrel
  have hl0_1 := (Kd.R_reads' HO_0.out).1
  rw [hl0_1] at HO_0
  (try simp only [hl0_1])
  (try simp only [hl0_1] at BK60)
  (try simp only [hl0_1] at BK61)
  cases gk with
  | zero => exact absurd HA.out (by simp [Ff.l0])
  | succ k1 =>
   have H := HA.out
   clear HA
   simp only [Ff.l0] at H
   by_cases c9 : x6_1 < (x0_1.length : Int)
   rotate_left
   ·rw [if_neg c9] at H
    have c9b0 : decide (x6_1 < (x0_1.length : Int)) = false := decide_eq_false c9
    clear c9
    by_cases c29 : 0 ≤ x5_1
    rotate_left
    ·rw [if_neg c29] at H
     exact absurd H (by simp)
    rw [if_pos c29] at H
    have c29b0 := eq_true c29
    have c29b1 : decide (0 ≤ x5_1) = true := decide_eq_true c29
    clear c29
    by_cases c30 : x5_1 ≤ (x0_1.length : Int)
    rotate_left
    ·rw [if_neg c30] at H
     exact absurd H (by simp)
    rw [if_pos c30] at H
    have c30b0 := eq_true c30
    have c30b1 : decide (x5_1 ≤ (x0_1.length : Int)) = true := decide_eq_true c30
    clear c30
    obtain ⟨y106, hy106⟩ : ∃ y_ : List (S34), y_ = (x0_1.drop (x5_1 : Int).toNat) := ⟨_, rfl⟩
    replace H : (some ((Cl.clr x0_1 ((x5_1 : Int).toNat) z34).take (x5_1 : Int).toNat)) = some r := by first | (rw [hy106]; with_reducible exact H) | (have H2_ := (Option.bind_some _ _).symm.trans H; rw [hy106]; with_reducible exact H2_) | (have H2_ := (Option.bind_some _ _).symm.trans H; with_reducible exact H2_) | with_reducible exact H | (rw [hy106]; exact H) | exact H
    have Ny106 := Ak hy106
    clear hy106
    obtain ⟨y110, hy110⟩ : ∃ y_ : List (S34), y_ = (Cl.clr x0_1 ((x5_1 : Int).toNat) z34) := ⟨_, rfl⟩
    replace H : (some (y110.take (x5_1 : Int).toNat)) = some r := by first | (rw [hy110]; with_reducible exact H) | (have H2_ := (Option.bind_some _ _).symm.trans H; rw [hy110]; with_reducible exact H2_) | (have H2_ := (Option.bind_some _ _).symm.trans H; with_reducible exact H2_) | with_reducible exact H | (rw [hy110]; exact H) | exact H
    have Ny110 := Ak hy110
    clear hy110
    have c31b0 := eq_true (of_decide_eq_true (by first | (with_reducible assumption) | assumption) : x5_1 ≤ (x0_1.length : Int))
    obtain ⟨y111, hy111⟩ : ∃ y_ : List (S34), y_ = (y110.take (x5_1 : Int).toNat) := ⟨_, rfl⟩
    replace H : (some y111) = some r := by first | (rw [hy111]; with_reducible exact H) | (have H2_ := (Option.bind_some _ _).symm.trans H; rw [hy111]; with_reducible exact H2_) | (have H2_ := (Option.bind_some _ _).symm.trans H; with_reducible exact H2_) | with_reducible exact H | (rw [hy111]; exact H) | exact H
    have Ny111 := Ak hy111
    clear hy111
    obtain rfl := Option.some.inj H
    have q32 : (x5_1 : Int) ≤ ((x0_1.length : Int) : Int) := of_decide_eq_true (by first | (with_reducible assumption) | assumption)
    obtain ⟨i032, hi032, _, hsz32, _⟩ := info_parts info34
    have hroom32 : x0_1.length ≤ co7 := (Kd.R_reads' HO_0.out).2.1
    have hC32 : Kd.C k34 _ Ao7 x0_1.length x0_1 := (Kd.R_reads' HO_0.out).2.2
    have q032 : (0 : Int) ≤ (x5_1 : Int) := of_decide_eq_true (by first | (with_reducible assumption) | assumption)
    have hcut32 := cut_from (P := Tryz.prog) 24 34 .i64 Tryz.underlying24 hi032 8 hsz32 Ao7 x0_1.length co7 x5_1 q032 q32
    have hr32 := Kd.C_drop (m := (x5_1 : Int).toNat) (c := co7) hC32 (by omega) hroom32
    obtain ⟨A32, hA32⟩ : ∃ A1, A1 = (if co7 = (x5_1 : Int).toNat then Ao7 else (Ao7 : Option Addr).map (·.add ((x5_1 : Int).toNat * 8))) := ⟨_, rfl⟩
    obtain ⟨c32, hc32⟩ : ∃ c1, c1 = co7 - (x5_1 : Int).toNat := ⟨_, rfl⟩
    have hy32 : y106.length = x0_1.length - (x5_1 : Int).toNat := (by rw [Ny106.out, List.length_drop] <;> omega)
    rw [show (x0_1).drop (x5_1 : Int).toNat = y106 from Ny106.out.symm] at hr32
    replace hr32 : Kd.C k34 _ A32 y106.length y106 := (by rw [hA32]; exact hr32)
    rw [← hy32, ← hA32, ← hc32] at hcut32
    have HR109 := Ak hr32
    have HC109 := Ak (show y106.length ≤ c32 from by rw [hy32, hc32]; exact Nat.sub_le_sub_right hroom32 _)
    clear hr32 hC32 hroom32 hi032 hsz32 hc32
    have KY32 := Ak hy32
    have KA32 := Ak hA32
    clear hy32 hA32
    have KL32 := Ak (show (x5_1 : Int).toNat ≤ x0_1.length from by omega)
    replace q32 := eq_true q32
    go_wp2_with (first | (have hj_ : 0 ≤ (x5_1 : Int) := of_decide_eq_true (by first | (with_reducible assumption) | assumption); have hl_ : (x5_1 : Int) ≤ (x0_1.length : Int) := of_decide_eq_true (by first | (with_reducible assumption) | assumption); refine Cl.R_clear k34 (w0 := w0) w0.heap.size 24 _ 34 (.agg #[(.int .i64 0), (.string ⟨#[]⟩), (.int .i64 0), (.int .i64 0), (.int .i64 0), (.int .i64 0), (.int .i64 0), (.int .i64 0)]) 72 Tryz.underlying24 info34 rfl (by decide) z34 (show (k34).M _ _ _ z34 _ from k34_mkM _ _ _ z34) (A0 := Ao7) (n := x0_1.length) (c := co7) (k := (x5_1 : Int).toNat) rfl KA32.out KY32.out (by exact RS <| HO_0.out) (by omega) (by exact eS HB.out) (below_size (by exact eS HB.out)) ?_; intro w33 ho hb hg; clear hj_ hl_; rw [← Ny110.out] at ho; have hlqy110_ := Nat.le_of_eq (Kd.R_reads' ho).1; have hlpy110_ := Nat.le_of_eq (Kd.R_reads' ho).1.symm; have n0_ := Ak (ho); have n1_ := Ak (blk_grown (bS BK60.out) hg (Kd.R_ne HO_0.out BK60.out (by decide))); have n2_ := Ak (blk_grown (bS BK61.out) hg (Kd.R_ne HO_0.out BK61.out (by decide))); have n3_ := Ak (hb); have n4_ := Ak (Kept.of_grown (S := (fun k_ => P0_ k_)) hg (by exact Ho.KS HK.out) (fun k_ e_ => (HO_0.out.1 k_ e_))); clear HO_0; clear BK60; clear BK61; clear HB; clear HK; have HO_0 := n0_; have BK60 := n1_; have BK61 := n2_; have HB := n3_; have HK := n4_; clear n0_ n1_ n2_ n3_ n4_; clear ho hb hg; have q34 : (x5_1 : Int) ≤ ((x0_1.length : Int) : Int) := of_decide_eq_true (by first | (with_reducible assumption) | assumption); obtain ⟨i034, hi034, _, hsz34, _⟩ := info_parts info34; have hcut34 := cut_to (P := Tryz.prog) 24 34 .i64 Tryz.underlying24 hi034 Ao7 x0_1.length co7 x5_1 (of_decide_eq_true (by first | (with_reducible assumption) | assumption)) q34 (Kd.R_reads' HO_0.out).2.1; have hr34 := Kd.R_take (m := (x5_1 : Int).toNat) HO_0.out (by omega); have hy34 : y111.length = (x5_1 : Int).toNat := (by rw [Ny111.out, List.length_take]; omega); rw [← Ny111.out] at hr34; rw [← hy34] at hr34 hcut34; clear hy34 hi034 hsz34 HO_0; have HO113 := Ak hr34; clear hr34; replace q34 := eq_true q34))
    go_ret
    exact ⟨_, by first | rfl | (simp [errW_none, errW_some] <;> rfl) | (simp [*, errW_none, errW_some] <;> rfl), by exact RS <| HO113.out, by exact eS HB.out, by exact Ho.KS HK.out⟩
   rw [if_pos c9] at H
   have c9b0 : decide (x6_1 < (x0_1.length : Int)) = true := decide_eq_true c9
   clear c9
   by_cases c10 : 0 ≤ x6_1
   rotate_left
   ·rw [if_neg c10] at H
    exact absurd H (by simp)
   rw [if_pos c10] at H
   have c10b0 : decide (0 ≤ x6_1) = true := decide_eq_true c10
   clear c10
   replace H := Option.bind_eq_some_iff.mp H
   obtain ⟨t104, A110, H⟩ := H
   (try dsimp only at H)
   have A11 := Ak A110
   clear A110
   by_cases c12 : t104 = true
   ·subst c12
    have H1 : (Ff.l0 k1 x0_1 x5_1 (wrap64 (x6_1 + 1)) a1_0 a1_1) = some r := by rw [if_pos rfl] at H; exact H
    clear H
    have H := H1
    clear H1
    have H' := Ak H
    clear H
    have p102 : 0 ≤ (x6_1 : Int) := of_decide_eq_true (by first | (with_reducible assumption) | assumption)
    have q102 : x6_1 < (x0_1.length : Int) := of_decide_eq_true (by first | (with_reducible assumption) | assumption)
    obtain ⟨ad102, e102, hx102_0, hx102_1, hx102_2, hx102_3, hx102_4, hx102_5, hx102_6, hx102_7⟩ := at_T34 (Kd.R_reads' HO_0.out).2.2 x6_1 p102 q102
    cases e102
    replace p102 := eq_true p102; replace q102 := eq_true q102
    go_wp2_with (first | ((with_reducible refine gate_dst (N := 7) rfl ?_); refine box_event ?hg (N := 7) ?hd (cs := #[.int .i64 0, .string (⟨#[]⟩ : ByteArray), .int .i64 0, .int .i64 0, .int .i64 0, .int .i64 0, .int .i64 0, .int .i64 0]) (t := 34) ?hr ?_; (case hd => rfl); (case hg => rfl); (case hr => first | (go_simp; done) | (go_simp; rfl)); intro gb103 hg w13 hbox hb; have n0_ := Ak (Kd.R_below (Kd.R_elderB (by exact RS <| HO_0.out) gb103 (Nat.le_of_eq hg.symm)) hb); have n1_ := Ak (blk_below (bS BK60.out) hb); have n2_ := Ak (blk_below (bS BK61.out) hb); have n3_ := Ak (Kept.below (S := (fun k_ => P0_ k_)) (by exact Ho.KS HK.out) hb); have n4_ := Ak (below_step (by exact eS HB.out) hb); have n5_ := Ak (hbox); have n6_ := Ak ((by rw [hg]; exact (by first | exact HK.out.1 | exact (show Kept w _ (fun k_ => P0_ k_) from by exact Ho.KS HK.out).1) : w.heap.size ≤ gb103)); have n7_ := Ak ((by rw [hg]; exact (below_size (by exact eS HB.out)) : w0.heap.size ≤ gb103)); have n8_ := Ak ((by rw [hg]; exact Nat.ne_of_lt (blk_lt (bS BK60.out)) : gb1_0 ≠ gb103)); have n9_ := Ak ((by rw [hg]; exact Nat.ne_of_gt (blk_lt (bS BK60.out)) : gb103 ≠ gb1_0)); have n10_ := Ak ((by rw [hg]; exact Nat.ne_of_lt (blk_lt (bS BK61.out)) : gb1_1 ≠ gb103)); have n11_ := Ak ((by rw [hg]; exact Nat.ne_of_gt (blk_lt (bS BK61.out)) : gb103 ≠ gb1_1)); clear HO_0; clear BK60; clear BK61; clear HK; clear HB; have HO_0 := n0_; have BK60 := n1_; have BK61 := n2_; have HK := n3_; have HB := n4_; have BK103 := n5_; have GW103 := n6_; have GE103 := n7_; have NB60_103 := n8_; have NB103_60 := n9_; have NB61_103 := n10_; have NB103_61 := n11_; clear n0_ n1_ n2_ n3_ n4_ n5_ n6_ n7_ n8_ n9_ n10_ n11_; clear hb hbox hg; have hnb14 := NB103_60.out; have hnc14 := NB60_103.out; have hnb15 := NB103_61.out; have hnc15 := NB61_103.out; obtain ⟨hcz16_0, hcz16_1, hcz16_2, hcz16_3, hcz16_4, hcz16_5, hcz16_6, hcz16_7, hfz16_0, hfz16_1, hfz16_2, hfz16_3, hfz16_4, hfz16_5, hfz16_6, hfz16_7⟩ := Sq.c8 BK103.out) | (go_at_call 49; (with_reducible refine (Fav.calls ((rd_T34 x0_1 x6_1).f0) ((rd_T34 x0_1 x6_1).f1) ((rd_T34 x0_1 x6_1).f2) ((rd_T34 x0_1 x6_1).f3) ((rd_T34 x0_1 x6_1).f4) ((rd_T34 x0_1 x6_1).f5) ((rd_T34 x0_1 x6_1).f6) ((rd_T34 x0_1 x6_1).f7) gb1_0 a1_0 gb1_1 a1_1 true _ ?side1 ?side2 A11.out).mono ?_); (case side1 => (with_reducible repeat (first | refine blk_drewN ?_ _ | refine blk_drew ?_ | refine blk_alloc ?_ _)); refine blk_far ?_ NB60_103.out _; (with_reducible repeat (first | refine blk_drewN ?_ _ | refine blk_drew ?_ | refine blk_alloc ?_ _)); refine blk_far ?_ NB60_103.out _; (with_reducible repeat (first | refine blk_drewN ?_ _ | refine blk_drew ?_ | refine blk_alloc ?_ _)); refine blk_far ?_ NB60_103.out _; (with_reducible repeat (first | refine blk_drewN ?_ _ | refine blk_drew ?_ | refine blk_alloc ?_ _)); refine blk_far ?_ NB60_103.out _; (with_reducible repeat (first | refine blk_drewN ?_ _ | refine blk_drew ?_ | refine blk_alloc ?_ _)); refine blk_far ?_ NB60_103.out _; (with_reducible repeat (first | refine blk_drewN ?_ _ | refine blk_drew ?_ | refine blk_alloc ?_ _)); refine blk_far ?_ NB60_103.out _; (with_reducible repeat (first | refine blk_drewN ?_ _ | refine blk_drew ?_ | refine blk_alloc ?_ _)); refine blk_far ?_ NB60_103.out _; (with_reducible repeat (first | refine blk_drewN ?_ _ | refine blk_drew ?_ | refine blk_alloc ?_ _)); refine blk_far ?_ NB60_103.out _; exact bS BK60.out); (case side2 => (with_reducible repeat (first | refine blk_drewN ?_ _ | refine blk_drew ?_ | refine blk_alloc ?_ _)); refine blk_far ?_ NB61_103.out _; (with_reducible repeat (first | refine blk_drewN ?_ _ | refine blk_drew ?_ | refine blk_alloc ?_ _)); refine blk_far ?_ NB61_103.out _; (with_reducible repeat (first | refine blk_drewN ?_ _ | refine blk_drew ?_ | refine blk_alloc ?_ _)); refine blk_far ?_ NB61_103.out _; (with_reducible repeat (first | refine blk_drewN ?_ _ | refine blk_drew ?_ | refine blk_alloc ?_ _)); refine blk_far ?_ NB61_103.out _; (with_reducible repeat (first | refine blk_drewN ?_ _ | refine blk_drew ?_ | refine blk_alloc ?_ _)); refine blk_far ?_ NB61_103.out _; (with_reducible repeat (first | refine blk_drewN ?_ _ | refine blk_drew ?_ | refine blk_alloc ?_ _)); refine blk_far ?_ NB61_103.out _; (with_reducible repeat (first | refine blk_drewN ?_ _ | refine blk_drew ?_ | refine blk_alloc ?_ _)); refine blk_far ?_ NB61_103.out _; (with_reducible repeat (first | refine blk_drewN ?_ _ | refine blk_drew ?_ | refine blk_alloc ?_ _)); refine blk_far ?_ NB61_103.out _; exact bS BK61.out); rintro e w17 ⟨rfl, hb⟩; have n0_ := Ak (Kd.R_below (by exact RS <| (Kd.R_mono (Kd.R_far (p := ⟨gb103, 7, none⟩) (Kd.R_far (p := ⟨gb103, 6, none⟩) (Kd.R_far (p := ⟨gb103, 5, none⟩) (Kd.R_far (p := ⟨gb103, 4, none⟩) (Kd.R_far (p := ⟨gb103, 3, none⟩) (Kd.R_far (p := ⟨gb103, 2, none⟩) (Kd.R_far (p := ⟨gb103, 1, none⟩) (Kd.R_far (p := ⟨gb103, 0, none⟩) (Kd.R_mono HO_0.out (fun k_ hk => (⟨hk, hk.2⟩ : _ ∧ k_ ≠ gb103))) (fun _ hk => hk.2) (.int .i64 ((rd_T34 x0_1 x6_1).f0))) (fun _ hk => hk.2) (.string ((rd_T34 x0_1 x6_1).f1))) (fun _ hk => hk.2) (.int .i64 ((rd_T34 x0_1 x6_1).f2))) (fun _ hk => hk.2) (.int .i64 ((rd_T34 x0_1 x6_1).f3))) (fun _ hk => hk.2) (.int .i64 ((rd_T34 x0_1 x6_1).f4))) (fun _ hk => hk.2) (.int .i64 ((rd_T34 x0_1 x6_1).f5))) (fun _ hk => hk.2) (.int .i64 ((rd_T34 x0_1 x6_1).f6))) (fun _ hk => hk.2) (.int .i64 ((rd_T34 x0_1 x6_1).f7))) (fun _ h_ => h_.1))) hb); have n1_ := Ak (blk_below (g := gb1_0) (o := .cells #[.int .i64 a1_0] 3 (0, 0)) (by (with_reducible repeat (first | refine blk_drewN ?_ _ | refine blk_drew ?_ | refine blk_alloc ?_ _)); refine blk_far ?_ NB60_103.out _; (with_reducible repeat (first | refine blk_drewN ?_ _ | refine blk_drew ?_ | refine blk_alloc ?_ _)); refine blk_far ?_ NB60_103.out _; (with_reducible repeat (first | refine blk_drewN ?_ _ | refine blk_drew ?_ | refine blk_alloc ?_ _)); refine blk_far ?_ NB60_103.out _; (with_reducible repeat (first | refine blk_drewN ?_ _ | refine blk_drew ?_ | refine blk_alloc ?_ _)); refine blk_far ?_ NB60_103.out _; (with_reducible repeat (first | refine blk_drewN ?_ _ | refine blk_drew ?_ | refine blk_alloc ?_ _)); refine blk_far ?_ NB60_103.out _; (with_reducible repeat (first | refine blk_drewN ?_ _ | refine blk_drew ?_ | refine blk_alloc ?_ _)); refine blk_far ?_ NB60_103.out _; (with_reducible repeat (first | refine blk_drewN ?_ _ | refine blk_drew ?_ | refine blk_alloc ?_ _)); refine blk_far ?_ NB60_103.out _; (with_reducible repeat (first | refine blk_drewN ?_ _ | refine blk_drew ?_ | refine blk_alloc ?_ _)); refine blk_far ?_ NB60_103.out _; exact bS BK60.out) hb); have n2_ := Ak (blk_below (g := gb1_1) (o := .cells #[.int .i64 a1_1] 3 (0, 0)) (by (with_reducible repeat (first | refine blk_drewN ?_ _ | refine blk_drew ?_ | refine blk_alloc ?_ _)); refine blk_far ?_ NB61_103.out _; (with_reducible repeat (first | refine blk_drewN ?_ _ | refine blk_drew ?_ | refine blk_alloc ?_ _)); refine blk_far ?_ NB61_103.out _; (with_reducible repeat (first | refine blk_drewN ?_ _ | refine blk_drew ?_ | refine blk_alloc ?_ _)); refine blk_far ?_ NB61_103.out _; (with_reducible repeat (first | refine blk_drewN ?_ _ | refine blk_drew ?_ | refine blk_alloc ?_ _)); refine blk_far ?_ NB61_103.out _; (with_reducible repeat (first | refine blk_drewN ?_ _ | refine blk_drew ?_ | refine blk_alloc ?_ _)); refine blk_far ?_ NB61_103.out _; (with_reducible repeat (first | refine blk_drewN ?_ _ | refine blk_drew ?_ | refine blk_alloc ?_ _)); refine blk_far ?_ NB61_103.out _; (with_reducible repeat (first | refine blk_drewN ?_ _ | refine blk_drew ?_ | refine blk_alloc ?_ _)); refine blk_far ?_ NB61_103.out _; (with_reducible repeat (first | refine blk_drewN ?_ _ | refine blk_drew ?_ | refine blk_alloc ?_ _)); refine blk_far ?_ NB61_103.out _; exact bS BK61.out) hb); have n3_ := Ak (blk_below (g := gb103) (o := .cells #[.int .i64 ((rd_T34 x0_1 x6_1).f0), .string ((rd_T34 x0_1 x6_1).f1), .int .i64 ((rd_T34 x0_1 x6_1).f2), .int .i64 ((rd_T34 x0_1 x6_1).f3), .int .i64 ((rd_T34 x0_1 x6_1).f4), .int .i64 ((rd_T34 x0_1 x6_1).f5), .int .i64 ((rd_T34 x0_1 x6_1).f6), .int .i64 ((rd_T34 x0_1 x6_1).f7)] 34 (0, 0)) (by (with_reducible repeat (first | refine blk_drewN ?_ _ | refine blk_drew ?_ | refine blk_alloc ?_ _)); apply Sq.put8; exact bS BK103.out) hb); have n4_ := Ak (Kept.below (S := (fun k_ => P0_ k_)) (by repeat (first | (with_reducible first | exact HK.out | apply Kept.alloc | apply Kept.drewN | apply Kept.drew | refine Kept.setCell ?_ (.inr GW60.out) _ | refine Kept.setCell ?_ (.inr GW61.out) _ | refine Kept.setCell ?_ (.inr GW103.out) _) | exact HK.out)) hb); have n5_ := Ak (below_step (by repeat (first | (with_reducible first | exact HB.out | apply below_alloc | apply pw_below_drewN | apply below_drew1 | refine below_set ?_ GE60.out | refine below_set ?_ GE61.out | refine below_set ?_ GE103.out) | exact HB.out)) hb); clear HO_0; clear BK60; clear BK61; clear BK103; clear HK; clear HB; have HO_0 := n0_; have BK60 := n1_; have BK61 := n2_; have BK103 := n3_; have HK := n4_; have HB := n5_; clear n0_ n1_ n2_ n3_ n4_ n5_; (try clear hb); (try clear hb2); (try clear hk); (try clear hi)))
    (try simp only [← hl0_1])
    go_roundg k1
    case measure => have := HK1.out; omega
    case rel => exact ⟨(x0_1), (x5_1), (wrap64 (x6_1 + 1)), (by first | rfl | (simp; done) | (simp [*]; done)), (by first | rfl | (simp; done) | (simp [*]; done)), H', ⟨by have := HK1.out; omega⟩, ⟨by (try simp only [hl0_1]); exact RS <| Kd.R_mono HO_0.out (fun _ hk => hk.1)⟩, ⟨by (try simp only [hl0_1]); exact bS BK60.out⟩, ⟨by (try simp only [hl0_1]); exact bS BK61.out⟩, ⟨by exact Ho.KS HK.out⟩, ⟨by exact eS HB.out⟩⟩
   replace c12 := Bool.eq_false_iff.mpr c12
   subst c12
   have H1 : (if 0 ≤ x5_1 then (if x5_1 < (x0_1.length : Int) then (Ff.l0 k1 (x0_1.set (x5_1 : Int).toNat (⟨(rd_T34 x0_1 x6_1).f0, (rd_T34 x0_1 x6_1).f1, (rd_T34 x0_1 x6_1).f2, (rd_T34 x0_1 x6_1).f3, (rd_T34 x0_1 x6_1).f4, (rd_T34 x0_1 x6_1).f5, (rd_T34 x0_1 x6_1).f6, (rd_T34 x0_1 x6_1).f7⟩ : S34)) (wrap64 (x5_1 + 1)) (wrap64 (x6_1 + 1)) a1_0 a1_1) else (none)) else (none)) = some r := by rw [if_neg (show ¬ (false = true) by decide)] at H; exact H
   clear H
   have H := H1
   clear H1
   by_cases c18 : 0 ≤ x5_1
   rotate_left
   ·rw [if_neg c18] at H
    exact absurd H (by simp)
   rw [if_pos c18] at H
   have c18b0 : decide (0 ≤ x5_1) = true := decide_eq_true c18
   clear c18
   by_cases c19 : x5_1 < (x0_1.length : Int)
   rotate_left
   ·rw [if_neg c19] at H
    exact absurd H (by simp)
   rw [if_pos c19] at H
   have c19b0 : decide (x5_1 < (x0_1.length : Int)) = true := decide_eq_true c19
   clear c19
   obtain ⟨y105, hy105⟩ : ∃ y_ : List (S34), y_ = (x0_1.set (x5_1 : Int).toNat (⟨(rd_T34 x0_1 x6_1).f0, (rd_T34 x0_1 x6_1).f1, (rd_T34 x0_1 x6_1).f2, (rd_T34 x0_1 x6_1).f3, (rd_T34 x0_1 x6_1).f4, (rd_T34 x0_1 x6_1).f5, (rd_T34 x0_1 x6_1).f6, (rd_T34 x0_1 x6_1).f7⟩ : S34)) := ⟨_, rfl⟩
   replace H : (Ff.l0 k1 y105 (wrap64 (x5_1 + 1)) (wrap64 (x6_1 + 1)) a1_0 a1_1) = some r := by first | (rw [hy105]; with_reducible exact H) | (have H2_ := (Option.bind_some _ _).symm.trans H; rw [hy105]; with_reducible exact H2_) | (have H2_ := (Option.bind_some _ _).symm.trans H; with_reducible exact H2_) | with_reducible exact H | (rw [hy105]; exact H) | exact H
   have Ny105 := Ak hy105
   clear hy105
   have H' := Ak H
   clear H
   have p102 : 0 ≤ (x6_1 : Int) := of_decide_eq_true (by first | (with_reducible assumption) | assumption)
   have q102 : x6_1 < (x0_1.length : Int) := of_decide_eq_true (by first | (with_reducible assumption) | assumption)
   obtain ⟨ad102, e102, hx102_0, hx102_1, hx102_2, hx102_3, hx102_4, hx102_5, hx102_6, hx102_7⟩ := at_T34 (Kd.R_reads' HO_0.out).2.2 x6_1 p102 q102
   cases e102
   replace p102 := eq_true p102; replace q102 := eq_true q102
   go_wp2_with (first | ((with_reducible refine gate_dst (N := 7) rfl ?_); refine box_event ?hg (N := 7) ?hd (cs := #[.int .i64 0, .string (⟨#[]⟩ : ByteArray), .int .i64 0, .int .i64 0, .int .i64 0, .int .i64 0, .int .i64 0, .int .i64 0]) (t := 34) ?hr ?_; (case hd => rfl); (case hg => rfl); (case hr => first | (go_simp; done) | (go_simp; rfl)); intro gb103 hg w21 hbox hb; have n0_ := Ak (Kd.R_below (Kd.R_elderB (by exact RS <| HO_0.out) gb103 (Nat.le_of_eq hg.symm)) hb); have n1_ := Ak (blk_below (bS BK60.out) hb); have n2_ := Ak (blk_below (bS BK61.out) hb); have n3_ := Ak (Kept.below (S := (fun k_ => P0_ k_)) (by exact Ho.KS HK.out) hb); have n4_ := Ak (below_step (by exact eS HB.out) hb); have n5_ := Ak (hbox); have n6_ := Ak ((by rw [hg]; exact (by first | exact HK.out.1 | exact (show Kept w _ (fun k_ => P0_ k_) from by exact Ho.KS HK.out).1) : w.heap.size ≤ gb103)); have n7_ := Ak ((by rw [hg]; exact (below_size (by exact eS HB.out)) : w0.heap.size ≤ gb103)); have n8_ := Ak ((by rw [hg]; exact Nat.ne_of_lt (blk_lt (bS BK60.out)) : gb1_0 ≠ gb103)); have n9_ := Ak ((by rw [hg]; exact Nat.ne_of_gt (blk_lt (bS BK60.out)) : gb103 ≠ gb1_0)); have n10_ := Ak ((by rw [hg]; exact Nat.ne_of_lt (blk_lt (bS BK61.out)) : gb1_1 ≠ gb103)); have n11_ := Ak ((by rw [hg]; exact Nat.ne_of_gt (blk_lt (bS BK61.out)) : gb103 ≠ gb1_1)); clear HO_0; clear BK60; clear BK61; clear HK; clear HB; have HO_0 := n0_; have BK60 := n1_; have BK61 := n2_; have HK := n3_; have HB := n4_; have BK103 := n5_; have GW103 := n6_; have GE103 := n7_; have NB60_103 := n8_; have NB103_60 := n9_; have NB61_103 := n10_; have NB103_61 := n11_; clear n0_ n1_ n2_ n3_ n4_ n5_ n6_ n7_ n8_ n9_ n10_ n11_; clear hb hbox hg; have hnb22 := NB103_60.out; have hnc22 := NB60_103.out; have hnb23 := NB103_61.out; have hnc23 := NB61_103.out; obtain ⟨hcz24_0, hcz24_1, hcz24_2, hcz24_3, hcz24_4, hcz24_5, hcz24_6, hcz24_7, hfz24_0, hfz24_1, hfz24_2, hfz24_3, hfz24_4, hfz24_5, hfz24_6, hfz24_7⟩ := Sq.c8 BK103.out) | (go_at_call 49; (with_reducible refine (Fav.calls ((rd_T34 x0_1 x6_1).f0) ((rd_T34 x0_1 x6_1).f1) ((rd_T34 x0_1 x6_1).f2) ((rd_T34 x0_1 x6_1).f3) ((rd_T34 x0_1 x6_1).f4) ((rd_T34 x0_1 x6_1).f5) ((rd_T34 x0_1 x6_1).f6) ((rd_T34 x0_1 x6_1).f7) gb1_0 a1_0 gb1_1 a1_1 false _ ?side1 ?side2 A11.out).mono ?_); (case side1 => (with_reducible repeat (first | refine blk_drewN ?_ _ | refine blk_drew ?_ | refine blk_alloc ?_ _)); refine blk_far ?_ NB60_103.out _; (with_reducible repeat (first | refine blk_drewN ?_ _ | refine blk_drew ?_ | refine blk_alloc ?_ _)); refine blk_far ?_ NB60_103.out _; (with_reducible repeat (first | refine blk_drewN ?_ _ | refine blk_drew ?_ | refine blk_alloc ?_ _)); refine blk_far ?_ NB60_103.out _; (with_reducible repeat (first | refine blk_drewN ?_ _ | refine blk_drew ?_ | refine blk_alloc ?_ _)); refine blk_far ?_ NB60_103.out _; (with_reducible repeat (first | refine blk_drewN ?_ _ | refine blk_drew ?_ | refine blk_alloc ?_ _)); refine blk_far ?_ NB60_103.out _; (with_reducible repeat (first | refine blk_drewN ?_ _ | refine blk_drew ?_ | refine blk_alloc ?_ _)); refine blk_far ?_ NB60_103.out _; (with_reducible repeat (first | refine blk_drewN ?_ _ | refine blk_drew ?_ | refine blk_alloc ?_ _)); refine blk_far ?_ NB60_103.out _; (with_reducible repeat (first | refine blk_drewN ?_ _ | refine blk_drew ?_ | refine blk_alloc ?_ _)); refine blk_far ?_ NB60_103.out _; exact bS BK60.out); (case side2 => (with_reducible repeat (first | refine blk_drewN ?_ _ | refine blk_drew ?_ | refine blk_alloc ?_ _)); refine blk_far ?_ NB61_103.out _; (with_reducible repeat (first | refine blk_drewN ?_ _ | refine blk_drew ?_ | refine blk_alloc ?_ _)); refine blk_far ?_ NB61_103.out _; (with_reducible repeat (first | refine blk_drewN ?_ _ | refine blk_drew ?_ | refine blk_alloc ?_ _)); refine blk_far ?_ NB61_103.out _; (with_reducible repeat (first | refine blk_drewN ?_ _ | refine blk_drew ?_ | refine blk_alloc ?_ _)); refine blk_far ?_ NB61_103.out _; (with_reducible repeat (first | refine blk_drewN ?_ _ | refine blk_drew ?_ | refine blk_alloc ?_ _)); refine blk_far ?_ NB61_103.out _; (with_reducible repeat (first | refine blk_drewN ?_ _ | refine blk_drew ?_ | refine blk_alloc ?_ _)); refine blk_far ?_ NB61_103.out _; (with_reducible repeat (first | refine blk_drewN ?_ _ | refine blk_drew ?_ | refine blk_alloc ?_ _)); refine blk_far ?_ NB61_103.out _; (with_reducible repeat (first | refine blk_drewN ?_ _ | refine blk_drew ?_ | refine blk_alloc ?_ _)); refine blk_far ?_ NB61_103.out _; exact bS BK61.out); rintro e w25 ⟨rfl, hb⟩; have n0_ := Ak (Kd.R_below (by exact RS <| (Kd.R_mono (Kd.R_far (p := ⟨gb103, 7, none⟩) (Kd.R_far (p := ⟨gb103, 6, none⟩) (Kd.R_far (p := ⟨gb103, 5, none⟩) (Kd.R_far (p := ⟨gb103, 4, none⟩) (Kd.R_far (p := ⟨gb103, 3, none⟩) (Kd.R_far (p := ⟨gb103, 2, none⟩) (Kd.R_far (p := ⟨gb103, 1, none⟩) (Kd.R_far (p := ⟨gb103, 0, none⟩) (Kd.R_mono HO_0.out (fun k_ hk => (⟨hk, hk.2⟩ : _ ∧ k_ ≠ gb103))) (fun _ hk => hk.2) (.int .i64 ((rd_T34 x0_1 x6_1).f0))) (fun _ hk => hk.2) (.string ((rd_T34 x0_1 x6_1).f1))) (fun _ hk => hk.2) (.int .i64 ((rd_T34 x0_1 x6_1).f2))) (fun _ hk => hk.2) (.int .i64 ((rd_T34 x0_1 x6_1).f3))) (fun _ hk => hk.2) (.int .i64 ((rd_T34 x0_1 x6_1).f4))) (fun _ hk => hk.2) (.int .i64 ((rd_T34 x0_1 x6_1).f5))) (fun _ hk => hk.2) (.int .i64 ((rd_T34 x0_1 x6_1).f6))) (fun _ hk => hk.2) (.int .i64 ((rd_T34 x0_1 x6_1).f7))) (fun _ h_ => h_.1))) hb); have n1_ := Ak (blk_below (g := gb1_0) (o := .cells #[.int .i64 a1_0] 3 (0, 0)) (by (with_reducible repeat (first | refine blk_drewN ?_ _ | refine blk_drew ?_ | refine blk_alloc ?_ _)); refine blk_far ?_ NB60_103.out _; (with_reducible repeat (first | refine blk_drewN ?_ _ | refine blk_drew ?_ | refine blk_alloc ?_ _)); refine blk_far ?_ NB60_103.out _; (with_reducible repeat (first | refine blk_drewN ?_ _ | refine blk_drew ?_ | refine blk_alloc ?_ _)); refine blk_far ?_ NB60_103.out _; (with_reducible repeat (first | refine blk_drewN ?_ _ | refine blk_drew ?_ | refine blk_alloc ?_ _)); refine blk_far ?_ NB60_103.out _; (with_reducible repeat (first | refine blk_drewN ?_ _ | refine blk_drew ?_ | refine blk_alloc ?_ _)); refine blk_far ?_ NB60_103.out _; (with_reducible repeat (first | refine blk_drewN ?_ _ | refine blk_drew ?_ | refine blk_alloc ?_ _)); refine blk_far ?_ NB60_103.out _; (with_reducible repeat (first | refine blk_drewN ?_ _ | refine blk_drew ?_ | refine blk_alloc ?_ _)); refine blk_far ?_ NB60_103.out _; (with_reducible repeat (first | refine blk_drewN ?_ _ | refine blk_drew ?_ | refine blk_alloc ?_ _)); refine blk_far ?_ NB60_103.out _; exact bS BK60.out) hb); have n2_ := Ak (blk_below (g := gb1_1) (o := .cells #[.int .i64 a1_1] 3 (0, 0)) (by (with_reducible repeat (first | refine blk_drewN ?_ _ | refine blk_drew ?_ | refine blk_alloc ?_ _)); refine blk_far ?_ NB61_103.out _; (with_reducible repeat (first | refine blk_drewN ?_ _ | refine blk_drew ?_ | refine blk_alloc ?_ _)); refine blk_far ?_ NB61_103.out _; (with_reducible repeat (first | refine blk_drewN ?_ _ | refine blk_drew ?_ | refine blk_alloc ?_ _)); refine blk_far ?_ NB61_103.out _; (with_reducible repeat (first | refine blk_drewN ?_ _ | refine blk_drew ?_ | refine blk_alloc ?_ _)); refine blk_far ?_ NB61_103.out _; (with_reducible repeat (first | refine blk_drewN ?_ _ | refine blk_drew ?_ | refine blk_alloc ?_ _)); refine blk_far ?_ NB61_103.out _; (with_reducible repeat (first | refine blk_drewN ?_ _ | refine blk_drew ?_ | refine blk_alloc ?_ _)); refine blk_far ?_ NB61_103.out _; (with_reducible repeat (first | refine blk_drewN ?_ _ | refine blk_drew ?_ | refine blk_alloc ?_ _)); refine blk_far ?_ NB61_103.out _; (with_reducible repeat (first | refine blk_drewN ?_ _ | refine blk_drew ?_ | refine blk_alloc ?_ _)); refine blk_far ?_ NB61_103.out _; exact bS BK61.out) hb); have n3_ := Ak (blk_below (g := gb103) (o := .cells #[.int .i64 ((rd_T34 x0_1 x6_1).f0), .string ((rd_T34 x0_1 x6_1).f1), .int .i64 ((rd_T34 x0_1 x6_1).f2), .int .i64 ((rd_T34 x0_1 x6_1).f3), .int .i64 ((rd_T34 x0_1 x6_1).f4), .int .i64 ((rd_T34 x0_1 x6_1).f5), .int .i64 ((rd_T34 x0_1 x6_1).f6), .int .i64 ((rd_T34 x0_1 x6_1).f7)] 34 (0, 0)) (by (with_reducible repeat (first | refine blk_drewN ?_ _ | refine blk_drew ?_ | refine blk_alloc ?_ _)); apply Sq.put8; exact bS BK103.out) hb); have n4_ := Ak (Kept.below (S := (fun k_ => P0_ k_)) (by repeat (first | (with_reducible first | exact HK.out | apply Kept.alloc | apply Kept.drewN | apply Kept.drew | refine Kept.setCell ?_ (.inr GW60.out) _ | refine Kept.setCell ?_ (.inr GW61.out) _ | refine Kept.setCell ?_ (.inr GW103.out) _) | exact HK.out)) hb); have n5_ := Ak (below_step (by repeat (first | (with_reducible first | exact HB.out | apply below_alloc | apply pw_below_drewN | apply below_drew1 | refine below_set ?_ GE60.out | refine below_set ?_ GE61.out | refine below_set ?_ GE103.out) | exact HB.out)) hb); clear HO_0; clear BK60; clear BK61; clear BK103; clear HK; clear HB; have HO_0 := n0_; have BK60 := n1_; have BK61 := n2_; have BK103 := n3_; have HK := n4_; have HB := n5_; clear n0_ n1_ n2_ n3_ n4_ n5_; (try clear hb); (try clear hb2); (try clear hk); (try clear hi); obtain ⟨hcz26_0, hcz26_1, hcz26_2, hcz26_3, hcz26_4, hcz26_5, hcz26_6, hcz26_7, hfz26_0, hfz26_1, hfz26_2, hfz26_3, hfz26_4, hfz26_5, hfz26_6, hfz26_7⟩ := Sq.c8 BK103.out; have p20 : 0 ≤ (x5_1 : Int) := of_decide_eq_true (by first | (with_reducible assumption) | assumption); have q20 : (x5_1 : Int) < ((x0_1.length : Int) : Int) := of_decide_eq_true (by first | (with_reducible assumption) | assumption); obtain ⟨go20, co20, eo20, gb20, gl20, cl20, HG20⟩ := Kd.R_form HO_0.out (by omega); (first | cases eo20 | (injection eo20 with ea_ en_ ec_; (first | subst ea_ | (injection ea_ with ea_; subst ea_)); subst ec_; clear en_)); have GB20 := Ak gb20; have GG20 := Ak HG20; clear gb20 gl20 HG20; have HMgo20 := Ak (show (P0_ go20 ∨ w.heap.size ≤ go20) from (HO_0.out.1 _ rfl).1); (first | simp only [add_plain] at hx102_0 | skip); (first | simp only [add_plain] at hx102_1 | skip); (first | simp only [add_plain] at hx102_2 | skip); (first | simp only [add_plain] at hx102_3 | skip); (first | simp only [add_plain] at hx102_4 | skip); (first | simp only [add_plain] at hx102_5 | skip); (first | simp only [add_plain] at hx102_6 | skip); (first | simp only [add_plain] at hx102_7 | skip); obtain ⟨ce20, hcl20, hM20, hcc20, hfr20⟩ := Kd.R_elem HO_0.out z34 (x5_1 : Int) p20 q20; obtain rfl := k34_openM hM20; have hx20_0 : w25.cell? ⟨go20, (x5_1 : Int).toNat * 8, none⟩ = some (.int .i64 ((rd_T34 x0_1 x5_1).f0)) := hcc20 0 _ rfl; have hx20_1 : w25.cell? ⟨go20, (x5_1 : Int).toNat * 8 + 1, none⟩ = some (.string ((rd_T34 x0_1 x5_1).f1)) := hcc20 1 _ rfl; have hx20_2 : w25.cell? ⟨go20, (x5_1 : Int).toNat * 8 + 2, none⟩ = some (.int .i64 ((rd_T34 x0_1 x5_1).f2)) := hcc20 2 _ rfl; have hx20_3 : w25.cell? ⟨go20, (x5_1 : Int).toNat * 8 + 3, none⟩ = some (.int .i64 ((rd_T34 x0_1 x5_1).f3)) := hcc20 3 _ rfl; have hx20_4 : w25.cell? ⟨go20, (x5_1 : Int).toNat * 8 + 4, none⟩ = some (.int .i64 ((rd_T34 x0_1 x5_1).f4)) := hcc20 4 _ rfl; have hx20_5 : w25.cell? ⟨go20, (x5_1 : Int).toNat * 8 + 5, none⟩ = some (.int .i64 ((rd_T34 x0_1 x5_1).f5)) := hcc20 5 _ rfl; have hx20_6 : w25.cell? ⟨go20, (x5_1 : Int).toNat * 8 + 6, none⟩ = some (.int .i64 ((rd_T34 x0_1 x5_1).f6)) := hcc20 6 _ rfl; have hx20_7 : w25.cell? ⟨go20, (x5_1 : Int).toNat * 8 + 7, none⟩ = some (.int .i64 ((rd_T34 x0_1 x5_1).f7)) := hcc20 7 _ rfl; have hf20_0 : w25.frozen? ⟨go20, (x5_1 : Int).toNat * 8, none⟩ = false := hfr20 0; have hf20_1 : w25.frozen? ⟨go20, (x5_1 : Int).toNat * 8 + 1, none⟩ = false := hfr20 1; have hf20_2 : w25.frozen? ⟨go20, (x5_1 : Int).toNat * 8 + 2, none⟩ = false := hfr20 2; have hf20_3 : w25.frozen? ⟨go20, (x5_1 : Int).toNat * 8 + 3, none⟩ = false := hfr20 3; have hf20_4 : w25.frozen? ⟨go20, (x5_1 : Int).toNat * 8 + 4, none⟩ = false := hfr20 4; have hf20_5 : w25.frozen? ⟨go20, (x5_1 : Int).toNat * 8 + 5, none⟩ = false := hfr20 5; have hf20_6 : w25.frozen? ⟨go20, (x5_1 : Int).toNat * 8 + 6, none⟩ = false := hfr20 6; have hf20_7 : w25.frozen? ⟨go20, (x5_1 : Int).toNat * 8 + 7, none⟩ = false := hfr20 7; clear hcl20 hcc20 hfr20 hM20; replace p20 := eq_true p20; replace q20 := eq_true q20; have HX27 := Ak (show Kd.R k34 34 w25 w0.heap.size (fun k_ => (P0_ k_ ∨ w.heap.size ≤ k_) ∧ k_ ≠ gb103) (.slice (some ⟨go20, 0, none⟩) x0_1.length co7) x0_1 from (by exact RS <| HO_0.out)); obtain ⟨ce27, hcl27, hM27, hcc27, hfr27⟩ := Kd.R_elem HX27.out z34 (x5_1 : Int) (of_decide_eq_true (by first | (with_reducible assumption) | assumption)) (by have h_ : (x5_1 : Int) < ((x0_1.length : Int) : Int) := of_decide_eq_true (by first | (with_reducible assumption) | assumption); first | exact h_ | (have e_ := (Kd.R_reads' HO_0.out).1; omega) | simpa using h_); obtain rfl := k34_openM hM27; have HP27 := Kd.R_seg HX27.out (x5_1 : Int) (of_decide_eq_true (by first | (with_reducible assumption) | assumption)) (by have h_ : (x5_1 : Int) < ((x0_1.length : Int) : Int) := of_decide_eq_true (by first | (with_reducible assumption) | assumption); first | exact h_ | (have e_ := (Kd.R_reads' HO_0.out).1; omega) | simpa using h_) (seg := [.int .i64 ((rd_T34 x0_1 x6_1).f0), .string ((rd_T34 x0_1 x6_1).f1), .int .i64 ((rd_T34 x0_1 x6_1).f2), .int .i64 ((rd_T34 x0_1 x6_1).f3), .int .i64 ((rd_T34 x0_1 x6_1).f4), .int .i64 ((rd_T34 x0_1 x6_1).f5), .int .i64 ((rd_T34 x0_1 x6_1).f6), .int .i64 ((rd_T34 x0_1 x6_1).f7)]) (j := 0) hcl27 hcc27 (show 8 ≤ 8 from by decide) (x' := (⟨(rd_T34 x0_1 x6_1).f0, (rd_T34 x0_1 x6_1).f1, (rd_T34 x0_1 x6_1).f2, (rd_T34 x0_1 x6_1).f3, (rd_T34 x0_1 x6_1).f4, (rd_T34 x0_1 x6_1).f5, (rd_T34 x0_1 x6_1).f6, (rd_T34 x0_1 x6_1).f7⟩ : S34)) (k34_mkM _ _ _ (⟨(rd_T34 x0_1 x6_1).f0, (rd_T34 x0_1 x6_1).f1, (rd_T34 x0_1 x6_1).f2, (rd_T34 x0_1 x6_1).f3, (rd_T34 x0_1 x6_1).f4, (rd_T34 x0_1 x6_1).f5, (rd_T34 x0_1 x6_1).f6, (rd_T34 x0_1 x6_1).f7⟩ : S34) ) (fun _ hk => hk); have hx27_0 := hcc27 0 _ rfl; (try simp only [show (k34).sz = 8 from rfl, Nat.mul_one, Nat.add_zero] at hx27_0); have hf27_0 := hfr27 0; (try simp only [show (k34).sz = 8 from rfl, Nat.mul_one, Nat.add_zero] at hf27_0); have hx27_1 := hcc27 1 _ rfl; (try simp only [show (k34).sz = 8 from rfl, Nat.mul_one, Nat.add_zero] at hx27_1); have hf27_1 := hfr27 1; (try simp only [show (k34).sz = 8 from rfl, Nat.mul_one, Nat.add_zero] at hf27_1); have hx27_2 := hcc27 2 _ rfl; (try simp only [show (k34).sz = 8 from rfl, Nat.mul_one, Nat.add_zero] at hx27_2); have hf27_2 := hfr27 2; (try simp only [show (k34).sz = 8 from rfl, Nat.mul_one, Nat.add_zero] at hf27_2); have hx27_3 := hcc27 3 _ rfl; (try simp only [show (k34).sz = 8 from rfl, Nat.mul_one, Nat.add_zero] at hx27_3); have hf27_3 := hfr27 3; (try simp only [show (k34).sz = 8 from rfl, Nat.mul_one, Nat.add_zero] at hf27_3); have hx27_4 := hcc27 4 _ rfl; (try simp only [show (k34).sz = 8 from rfl, Nat.mul_one, Nat.add_zero] at hx27_4); have hf27_4 := hfr27 4; (try simp only [show (k34).sz = 8 from rfl, Nat.mul_one, Nat.add_zero] at hf27_4); have hx27_5 := hcc27 5 _ rfl; (try simp only [show (k34).sz = 8 from rfl, Nat.mul_one, Nat.add_zero] at hx27_5); have hf27_5 := hfr27 5; (try simp only [show (k34).sz = 8 from rfl, Nat.mul_one, Nat.add_zero] at hf27_5); have hx27_6 := hcc27 6 _ rfl; (try simp only [show (k34).sz = 8 from rfl, Nat.mul_one, Nat.add_zero] at hx27_6); have hf27_6 := hfr27 6; (try simp only [show (k34).sz = 8 from rfl, Nat.mul_one, Nat.add_zero] at hf27_6); have hx27_7 := hcc27 7 _ rfl; (try simp only [show (k34).sz = 8 from rfl, Nat.mul_one, Nat.add_zero] at hx27_7); have hf27_7 := hfr27 7; (try simp only [show (k34).sz = 8 from rfl, Nat.mul_one, Nat.add_zero] at hf27_7); clear hcl27 hcc27 hfr27 hM27) | ((with_reducible refine gate_store (t := 34) (p := 33) rfl ?_); refine store_event (t := 34) (p := 33) (v := ?vo_w28) (w1 := ((((((((w25.setCell ⟨go20, (x5_1 : Int).toNat * 8, none⟩ (.int .i64 ((rd_T34 x0_1 x6_1).f0))).setCell ⟨go20, (x5_1 : Int).toNat * 8 + 1, none⟩ (.string ((rd_T34 x0_1 x6_1).f1))).setCell ⟨go20, (x5_1 : Int).toNat * 8 + 2, none⟩ (.int .i64 ((rd_T34 x0_1 x6_1).f2))).setCell ⟨go20, (x5_1 : Int).toNat * 8 + 3, none⟩ (.int .i64 ((rd_T34 x0_1 x6_1).f3))).setCell ⟨go20, (x5_1 : Int).toNat * 8 + 4, none⟩ (.int .i64 ((rd_T34 x0_1 x6_1).f4))).setCell ⟨go20, (x5_1 : Int).toNat * 8 + 5, none⟩ (.int .i64 ((rd_T34 x0_1 x6_1).f5))).setCell ⟨go20, (x5_1 : Int).toNat * 8 + 6, none⟩ (.int .i64 ((rd_T34 x0_1 x6_1).f6))).setCell ⟨go20, (x5_1 : Int).toNat * 8 + 7, none⟩ (.int .i64 ((rd_T34 x0_1 x6_1).f7)))) ?hg ?ho ?hn ?hr ?_; (case ho => rfl); (case hg => rfl); (case hn => rfl); (case hr => first | (go_simp; done) | (go_simp; rfl)); intro w28 hw; have hg : w25.grownBy w28 (some go20) := (by rw [hw]; exact HP27.2); have hp_ : Kd.R k34 34 w28 w0.heap.size (fun k_ => (P0_ k_ ∨ w.heap.size ≤ k_) ∧ k_ ≠ gb103) (.slice (some ⟨go20, 0, none⟩) x0_1.length co7) y105 := (by rw [hw, Ny105.out]; exact HP27.1); clear HP27; have n0_ := Ak (hp_); have n1_ := Ak (blk_grown (bS BK60.out) hg (Kd.R_ne HO_0.out BK60.out (by decide))); have n2_ := Ak (blk_grown (bS BK61.out) hg (Kd.R_ne HO_0.out BK61.out (by decide))); have n3_ := Ak (blk_grown (bS BK103.out) hg (Kd.R_away HO_0.out (fun _ hk => hk.2))); have n4_ := Ak ((by rw [hw]; exact below_set (below_set (below_set (below_set (below_set (below_set (below_set (below_set (HB.out) GB20.out) GB20.out) GB20.out) GB20.out) GB20.out) GB20.out) GB20.out) GB20.out : Below w0.heap.size w0 w28)); have n5_ := Ak (Kept.of_grown (S := (fun k_ => P0_ k_)) hg (by exact Ho.KS HK.out) (fun k_ e_ => (HO_0.out.1 k_ e_).1)); clear HO_0; clear BK60; clear BK61; clear BK103; clear HB; clear HK; have HO_0 := n0_; have BK60 := n1_; have BK61 := n2_; have BK103 := n3_; have HB := n4_; have HK := n5_; clear n0_ n1_ n2_ n3_ n4_ n5_; clear hg hw hp_))
   (try simp only [← hl0_1])
   go_roundg k1
   case measure => have := HK1.out; omega
   case rel => exact ⟨(y105), (wrap64 (x5_1 + 1)), (wrap64 (x6_1 + 1)), (by first | rfl | (simp; done) | (simp [*]; done)), (by first | rfl | (simp; done) | (simp [*]; done)), H', ⟨by have := HK1.out; omega⟩, ⟨by (try simp only [hl0_1]); exact RS <| Kd.R_mono HO_0.out (fun _ hk => hk.1)⟩, ⟨by (try simp only [hl0_1]); exact bS BK60.out⟩, ⟨by (try simp only [hl0_1]); exact bS BK61.out⟩, ⟨by exact Ho.KS HK.out⟩, ⟨by exact eS HB.out⟩⟩
attribute [local go_sem ↓] Ho.isSome_setCell_   -- a store leaves all places there
/-! ### Fn: function 15 -/
def Fn.j0 : Nat → List (S34) → Bool → Int → Int → Option (List Int × Bool)
  | 0, _, _, _, _ => none
  | k + 1, x0, x29, x115000, x116000 => if x29 = true then (some (([] : List Int), false)) else ((Fax.f x0).bind fun t120 => ((Ff.f k t120 x115000 x116000).bind fun t123 => ((Fz.f k t123).bind fun t126 => (some (t126, true)))))
def Fn.f (k : Nat) (l0 : List (S34)) (a1 : Int) (a2 : Int) : Option (List Int × Bool) := (Fi.f k l0).bind fun t116 => (if t116 = true then ((Faw.f a1).bind fun t117 => (if t117 = true then ((Faw.f a2).bind fun t118 => (if t118 = true then ((Fal.f l0 a1).bind fun t119 => (Fn.j0 k l0 (!t119) a1 a2)) else (Fn.j0 k l0 true a1 a2))) else (Fn.j0 k l0 true a1 a2))) else (Fn.j0 k l0 true a1 a2))
theorem Fn.mono_l : ∀ k, (∀ y0 y1 y2 y3, LeO (Fn.j0 k y0 y1 y2 y3) (Fn.j0 (k + 1) y0 y1 y2 y3))
  | 0 => fun _ _ _ _ r h => by simp [Fn.j0] at h
  | k + 1 => by
    have ih0 := Fn.mono_l k
    · intro y0 y1 y2 y3
      unfold Fn.j0
      repeat' first | (with_reducible first | exact ih0 _ _ _ _ | exact Fi.mono _ _ | exact Fz.mono _ _ | exact Ff.mono _ _ _ _ | exact LeO.refl _ | exact LeO.none _ | refine LeO.ite ?_ ?_ | refine LeO.bind ?_ (fun _ => ?_)) | exact ih0 _ _ _ _ | exact Fi.mono _ _ | exact Fz.mono _ _ | exact Ff.mono _ _ _ _ | exact LeO.none _ | refine LeO.ite ?_ ?_ | refine LeO.bind ?_ (fun _ => ?_)
theorem Fn.mono : ∀ a0 a1 a2 k, LeO (Fn.f k a0 a1 a2) (Fn.f (k + 1) a0 a1 a2) := by
  intro a0 a1 a2 k
  have ih0 := Fn.mono_l k
  unfold Fn.f
  repeat' first | (with_reducible first | exact ih0 _ _ _ _ | exact Fi.mono _ _ | exact Fz.mono _ _ | exact Ff.mono _ _ _ _ | exact LeO.refl _ | exact LeO.none _ | refine LeO.ite ?_ ?_ | refine LeO.bind ?_ (fun _ => ?_)) | exact ih0 _ _ _ _ | exact Fi.mono _ _ | exact Fz.mono _ _ | exact Ff.mono _ _ _ _ | exact LeO.none _ | refine LeO.ite ?_ ?_ | refine LeO.bind ?_ (fun _ => ?_)
set_option maxHeartbeats 8000000 in
set_option maxRecDepth 100000 in
theorem Fn.calls (k : Nat) (A0 : Option Addr) (c0 : Nat) (l0 : List (S34)) (a1 : Int) (a2 : Int) (r1 : List Int) (r2 : Bool) (w : World) (hr0 : Kd.C k34 w A0 l0.length l0) (hc0 : l0.length ≤ c0) (h : Fn.f k l0 a1 a2 = some (r1, r2)) :
  Calls Tryz.prog 15 #[.slice A0 l0.length c0, .int .i64 a1, .int .i64 a2] w fun e w' => ∃ v0_ : Value, e = .returned (.tuple #[v0_, .bool r2]) ∧ Kd.R (Kd.int .i64) 3 w' w.heap.size (fun _ => True) v0_ r1 ∧ Below w.heap.size w w' := by
 have HR0 := Ak hr0
 have HC0 := Ak hc0
 clear hr0 hc0
 have HB := Ak (Below.refl w.heap.size w)
 have H : ((Fi.f k l0).bind fun t116 => (if t116 = true then ((Faw.f a1).bind fun t117 => (if t117 = true then ((Faw.f a2).bind fun t118 => (if t118 = true then ((Fal.f l0 a1).bind fun t119 => (Fn.j0 k l0 (!t119) a1 a2)) else (Fn.j0 k l0 true a1 a2))) else (Fn.j0 k l0 true a1 a2))) else (Fn.j0 k l0 true a1 a2))) = some (r1, r2) := h
 clear h
 have HC4 := Ak H
 clear H
 go_enter Tryz.func15, Tryz.ntmps15
 go_upto_region 2 with (first | ((with_reducible refine gate_dst (N := 4) rfl ?_); refine box_event ?hg (N := 4) ?hd (cs := #[.int .i64 a1]) (t := 3) ?hr ?_; (case hd => rfl); (case hg => rfl); (case hr => first | (go_simp; done) | (go_simp; rfl)); intro gb114 hg w5 hbox hb; have n0_ := Ak (below_step (by exact eS HB.out) hb); have n1_ := Ak (hbox); have n2_ := Ak ((by rw [hg]; exact (below_size (by exact eS HB.out)) : w.heap.size ≤ gb114)); have n3_ := Ak ((by rw [hg]; exact (below_size (by exact eS HB.out)) : w.heap.size ≤ gb114)); clear HB; have HB := n0_; have BK114 := n1_; have GW114 := n2_; have GE114 := n3_; clear n0_ n1_ n2_ n3_; clear hb hbox hg) | ((with_reducible refine gate_dst (N := 5) rfl ?_); refine box_event ?hg (N := 5) ?hd (cs := #[.int .i64 a2]) (t := 3) ?hr ?_; (case hd => rfl); (case hg => rfl); (case hr => first | (go_simp; done) | (go_simp; rfl)); intro gb115 hg w6 hbox hb; have n0_ := Ak (blk_below (bS BK114.out) hb); have n1_ := Ak (below_step (by exact eS HB.out) hb); have n2_ := Ak (hbox); have n3_ := Ak ((by rw [hg]; exact (below_size (by exact eS HB.out)) : w.heap.size ≤ gb115)); have n4_ := Ak ((by rw [hg]; exact (below_size (by exact eS HB.out)) : w.heap.size ≤ gb115)); have n5_ := Ak ((by rw [hg]; exact Nat.ne_of_lt (blk_lt (bS BK114.out)) : gb114 ≠ gb115)); have n6_ := Ak ((by rw [hg]; exact Nat.ne_of_gt (blk_lt (bS BK114.out)) : gb115 ≠ gb114)); clear BK114; clear HB; have BK114 := n0_; have HB := n1_; have BK115 := n2_; have GW115 := n3_; have GE115 := n4_; have NB114_115 := n5_; have NB115_114 := n6_; clear n0_ n1_ n2_ n3_ n4_ n5_ n6_; clear hb hbox hg))
 (try simp only [Act.put, List.setIfInBounds_toArray, List.set_cons_zero, List.set_cons_succ])
 go_cut [29] (fun v29 wc => ∃ (kq : Nat) (x29_3 : Bool), v29 = .bool x29_3 ∧ Aside0 (Fn.j0 kq l0 x29_3 a1 a2 = some (r1, r2)) ∧ Aside0 (kq ≤ k) ∧ Aside0 (wc.heap[gb114]? = some (.cells #[.int .i64 a1] 3 (0, 0))) ∧ Aside0 (wc.heap[gb115]? = some (.cells #[.int .i64 a2] 3 (0, 0))) ∧ Aside0 (Below w.heap.size w wc))
 case first =>
  have H := HC4.out
  clear HC4
  replace H := Option.bind_eq_some_iff.mp H
  obtain ⟨t116, A70, H⟩ := H
  (try dsimp only at H)
  have A7 := Ak A70
  clear A70
  by_cases c8 : t116 = true
  rotate_left
  ·replace c8 := Bool.eq_false_iff.mpr c8
   subst c8
   have H1 : (Fn.j0 k l0 true a1 a2) = some (r1, r2) := by rw [if_neg (show ¬ (false = true) by decide)] at H; exact H
   clear H
   have H := H1
   clear H1
   have H' := Ak H
   clear H
   go_wp2_with (first | ((with_reducible refine gate_callee (f := 10) rfl ?_); refine goesL_ (some 12) rfl rfl Tryz.func10 (by kernel_rfl) rfl #[.slice A0 l0.length c0] rfl (by (try simp only [List.map_toArray, List.map_cons, List.map_nil]); first | done | rfl | (simp only [List.length_drop, List.length_take]; rfl)) ?_; (with_reducible refine (Fi.calls k _ _ l0 false _ ?side1 ?side2 A7.out).mono ?_); (case side1 => repeat (first | exact (Kd.C_below HR0.out HB.out) | (with_reducible refine Kd.C_alloc ?_ _) | (with_reducible refine Kd.C_drewN ?_ _) | (with_reducible refine Kd.C_drew ?_))); (case side2 => exact HC0.out); rintro e w26 ⟨rfl, hb⟩; refine ⟨_, rfl, ?_⟩; have n0_ := Ak (blk_below (bS BK114.out) hb); have n1_ := Ak (blk_below (bS BK115.out) hb); have n2_ := Ak (below_step (by exact eS HB.out) hb); clear BK114; clear BK115; clear HB; have BK114 := n0_; have BK115 := n1_; have HB := n2_; clear n0_ n1_ n2_; (try clear hb); (try clear hb2); (try clear hk); (try clear hi)))
   go_meet
   case rel => exact ⟨_, (true), (by first | rfl | (simp; done) | (simp [*]; done)), H', ⟨by first | omega | exact Nat.le_refl _⟩, ⟨by exact bS BK114.out⟩, ⟨by exact bS BK115.out⟩, ⟨by exact eS HB.out⟩⟩
  subst c8
  have H1 : ((Faw.f a1).bind fun t117 => (if t117 = true then ((Faw.f a2).bind fun t118 => (if t118 = true then ((Fal.f l0 a1).bind fun t119 => (Fn.j0 k l0 (!t119) a1 a2)) else (Fn.j0 k l0 true a1 a2))) else (Fn.j0 k l0 true a1 a2))) = some (r1, r2) := by rw [if_pos rfl] at H; exact H
  clear H
  have H := H1
  clear H1
  replace H := Option.bind_eq_some_iff.mp H
  obtain ⟨t117, A90, H⟩ := H
  (try dsimp only at H)
  have A9 := Ak A90
  clear A90
  by_cases c10 : t117 = true
  rotate_left
  ·replace c10 := Bool.eq_false_iff.mpr c10
   subst c10
   have H1 : (Fn.j0 k l0 true a1 a2) = some (r1, r2) := by rw [if_neg (show ¬ (false = true) by decide)] at H; exact H
   clear H
   have H := H1
   clear H1
   have H' := Ak H
   clear H
   go_wp2_with (first | ((with_reducible refine gate_callee (f := 10) rfl ?_); refine goesL_ (some 12) rfl rfl Tryz.func10 (by kernel_rfl) rfl #[.slice A0 l0.length c0] rfl (by (try simp only [List.map_toArray, List.map_cons, List.map_nil]); first | done | rfl | (simp only [List.length_drop, List.length_take]; rfl)) ?_; (with_reducible refine (Fi.calls k _ _ l0 true _ ?side1 ?side2 A7.out).mono ?_); (case side1 => repeat (first | exact (Kd.C_below HR0.out HB.out) | (with_reducible refine Kd.C_alloc ?_ _) | (with_reducible refine Kd.C_drewN ?_ _) | (with_reducible refine Kd.C_drew ?_))); (case side2 => exact HC0.out); rintro e w23 ⟨rfl, hb⟩; refine ⟨_, rfl, ?_⟩; have n0_ := Ak (blk_below (bS BK114.out) hb); have n1_ := Ak (blk_below (bS BK115.out) hb); have n2_ := Ak (below_step (by exact eS HB.out) hb); clear BK114; clear BK115; clear HB; have BK114 := n0_; have BK115 := n1_; have HB := n2_; clear n0_ n1_ n2_; (try clear hb); (try clear hb2); (try clear hk); (try clear hi); have hnb24 := NB114_115.out; have hnc24 := NB115_114.out; have hcz25_0 : w23.cell? ⟨gb114, 0, none⟩ = some (.int .i64 a1) := (blk_cell BK114.out 0).trans rfl; have hfz25_0 := blk_frozen BK114.out 0) | (go_at_call 48; (with_reducible refine (Faw.calls a1 false _ A9.out).mono ?_); rintro e w' ⟨rfl, ⟨nd, rfl⟩⟩))
   go_meet
   case rel => exact ⟨_, (true), (by first | rfl | (simp; done) | (simp [*]; done)), H', ⟨by first | omega | exact Nat.le_refl _⟩, ⟨by exact bS BK114.out⟩, ⟨by exact bS BK115.out⟩, ⟨by exact eS HB.out⟩⟩
  subst c10
  have H1 : ((Faw.f a2).bind fun t118 => (if t118 = true then ((Fal.f l0 a1).bind fun t119 => (Fn.j0 k l0 (!t119) a1 a2)) else (Fn.j0 k l0 true a1 a2))) = some (r1, r2) := by rw [if_pos rfl] at H; exact H
  clear H
  have H := H1
  clear H1
  replace H := Option.bind_eq_some_iff.mp H
  obtain ⟨t118, A110, H⟩ := H
  (try dsimp only at H)
  have A11 := Ak A110
  clear A110
  by_cases c12 : t118 = true
  rotate_left
  ·replace c12 := Bool.eq_false_iff.mpr c12
   subst c12
   have H1 : (Fn.j0 k l0 true a1 a2) = some (r1, r2) := by rw [if_neg (show ¬ (false = true) by decide)] at H; exact H
   clear H
   have H := H1
   clear H1
   have H' := Ak H
   clear H
   go_wp2_with (first | ((with_reducible refine gate_callee (f := 10) rfl ?_); refine goesL_ (some 12) rfl rfl Tryz.func10 (by kernel_rfl) rfl #[.slice A0 l0.length c0] rfl (by (try simp only [List.map_toArray, List.map_cons, List.map_nil]); first | done | rfl | (simp only [List.length_drop, List.length_take]; rfl)) ?_; (with_reducible refine (Fi.calls k _ _ l0 true _ ?side1 ?side2 A7.out).mono ?_); (case side1 => repeat (first | exact (Kd.C_below HR0.out HB.out) | (with_reducible refine Kd.C_alloc ?_ _) | (with_reducible refine Kd.C_drewN ?_ _) | (with_reducible refine Kd.C_drew ?_))); (case side2 => exact HC0.out); rintro e w19 ⟨rfl, hb⟩; refine ⟨_, rfl, ?_⟩; have n0_ := Ak (blk_below (bS BK114.out) hb); have n1_ := Ak (blk_below (bS BK115.out) hb); have n2_ := Ak (below_step (by exact eS HB.out) hb); clear BK114; clear BK115; clear HB; have BK114 := n0_; have BK115 := n1_; have HB := n2_; clear n0_ n1_ n2_; (try clear hb); (try clear hb2); (try clear hk); (try clear hi); have hnb20 := NB114_115.out; have hnc20 := NB115_114.out; have hcz21_0 : w19.cell? ⟨gb114, 0, none⟩ = some (.int .i64 a1) := (blk_cell BK114.out 0).trans rfl; have hfz21_0 := blk_frozen BK114.out 0) | (go_at_call 48; (with_reducible refine (Faw.calls a1 true _ A9.out).mono ?_); rintro e w' ⟨rfl, ⟨nd, rfl⟩⟩; have hcz22_0 : w19.cell? ⟨gb115, 0, none⟩ = some (.int .i64 a2) := (blk_cell BK115.out 0).trans rfl; have hfz22_0 := blk_frozen BK115.out 0) | (go_at_call 48; (with_reducible refine (Faw.calls a2 false _ A11.out).mono ?_); rintro e w' ⟨rfl, ⟨nd, rfl⟩⟩))
   go_meet
   case rel => exact ⟨_, (true), (by first | rfl | (simp; done) | (simp [*]; done)), H', ⟨by first | omega | exact Nat.le_refl _⟩, ⟨by exact bS BK114.out⟩, ⟨by exact bS BK115.out⟩, ⟨by exact eS HB.out⟩⟩
  subst c12
  have H1 : ((Fal.f l0 a1).bind fun t119 => (Fn.j0 k l0 (!t119) a1 a2)) = some (r1, r2) := by rw [if_pos rfl] at H; exact H
  clear H
  have H := H1
  clear H1
  replace H := Option.bind_eq_some_iff.mp H
  obtain ⟨t119, A130, H⟩ := H
  (try dsimp only at H)
  have A13 := Ak A130
  clear A130
  have H' := Ak H
  clear H
  go_wp2_with (first | ((with_reducible refine gate_callee (f := 10) rfl ?_); refine goesL_ (some 12) rfl rfl Tryz.func10 (by kernel_rfl) rfl #[.slice A0 l0.length c0] rfl (by (try simp only [List.map_toArray, List.map_cons, List.map_nil]); first | done | rfl | (simp only [List.length_drop, List.length_take]; rfl)) ?_; (with_reducible refine (Fi.calls k _ _ l0 true _ ?side1 ?side2 A7.out).mono ?_); (case side1 => repeat (first | exact (Kd.C_below HR0.out HB.out) | (with_reducible refine Kd.C_alloc ?_ _) | (with_reducible refine Kd.C_drewN ?_ _) | (with_reducible refine Kd.C_drew ?_))); (case side2 => exact HC0.out); rintro e w14 ⟨rfl, hb⟩; refine ⟨_, rfl, ?_⟩; have n0_ := Ak (blk_below (bS BK114.out) hb); have n1_ := Ak (blk_below (bS BK115.out) hb); have n2_ := Ak (below_step (by exact eS HB.out) hb); clear BK114; clear BK115; clear HB; have BK114 := n0_; have BK115 := n1_; have HB := n2_; clear n0_ n1_ n2_; (try clear hb); (try clear hb2); (try clear hk); (try clear hi); have hnb15 := NB114_115.out; have hnc15 := NB115_114.out; have hcz16_0 : w14.cell? ⟨gb114, 0, none⟩ = some (.int .i64 a1) := (blk_cell BK114.out 0).trans rfl; have hfz16_0 := blk_frozen BK114.out 0) | (go_at_call 48; (with_reducible refine (Faw.calls a1 true _ A9.out).mono ?_); rintro e w' ⟨rfl, ⟨nd, rfl⟩⟩; have hcz17_0 : w14.cell? ⟨gb115, 0, none⟩ = some (.int .i64 a2) := (blk_cell BK115.out 0).trans rfl; have hfz17_0 := blk_frozen BK115.out 0) | (go_at_call 48; (with_reducible refine (Faw.calls a2 true _ A11.out).mono ?_); rintro e w' ⟨rfl, ⟨nd, rfl⟩⟩) | (go_at_call 34; (refine (Fal.calls _ _ l0 gb114 a1 t119 _ ?side1 ?side2 ?side3 A13.out).mono ?_); (case side1 => repeat (first | exact (Kd.C_below HR0.out (by exact eS HB.out)) | (with_reducible refine Kd.C_alloc ?_ _) | (with_reducible refine Kd.C_drewN ?_ _) | (with_reducible refine Kd.C_drew ?_))); (case side2 => exact HC0.out); (case side3 => exact bS BK114.out); rintro e w18 ⟨rfl, hb⟩; have n0_ := Ak (blk_below (bS BK114.out) hb); have n1_ := Ak (blk_below (bS BK115.out) hb); have n2_ := Ak (below_step (by exact eS HB.out) hb); clear BK114; clear BK115; clear HB; have BK114 := n0_; have BK115 := n1_; have HB := n2_; clear n0_ n1_ n2_; (try clear hb); (try clear hb2); (try clear hk); (try clear hi)))
  go_meet
  case rel => exact ⟨_, (!t119), (by first | rfl | (simp; done) | (simp [*]; done)), H', ⟨by first | omega | exact Nat.le_refl _⟩, ⟨by exact bS BK114.out⟩, ⟨by exact bS BK115.out⟩, ⟨by exact eS HB.out⟩⟩
 case rest =>
  clear HC4; (try clear c1); (try clear c2); (try clear p2); (try clear c8); (try clear c10); (try clear c12); (try clear c15); (try clear c20); (try clear c24); (try clear hcz16_0); (try clear hcz17_0); (try clear hcz21_0); (try clear hcz22_0); (try clear hcz25_0); (try clear hfz16_0); (try clear hfz17_0); (try clear hfz21_0); (try clear hfz22_0); (try clear hfz25_0)
  obtain ⟨kq, x29_3, rfl, HA, HJ3, BK114, BK115, HB⟩ := hcut
  cases kq with
  | zero => exact absurd HA.out (by simp [Fn.j0])
  | succ kj3 =>
   have H := HA.out
   clear HA
   simp only [Fn.j0] at H
   by_cases c27 : x29_3 = true
   ·subst c27
    have H1 : (some (([] : List Int), false)) = some (r1, r2) := by rw [if_pos rfl] at H; exact H
    clear H
    have H := H1
    clear H1
    simp only [Option.some.injEq, Prod.mk.injEq] at H
    obtain ⟨rfl, rfl⟩ := H
    go_wp2
    go_ret2
    exact ⟨_, by first | rfl | (simp [errW_none, errW_some] <;> rfl) | (simp [*, errW_none, errW_some] <;> rfl), by first | exact Kd.R_nil _ _ _ _ _ | exact Kd.N_nil _ _ _ _ _ | exact Kd.V_nil _ _ _ _ _ | exact Kd.Q_nil _ _ _ _ _ | exact Kd.S_nil _ _ _ _ _, by exact eS HB.out⟩
   replace c27 := Bool.eq_false_iff.mpr c27
   subst c27
   have H1 : ((Fax.f l0).bind fun t120 => ((Ff.f kj3 t120 a1 a2).bind fun t123 => ((Fz.f kj3 t123).bind fun t126 => (some (t126, true))))) = some (r1, r2) := by rw [if_neg (show ¬ (false = true) by decide)] at H; exact H
   clear H
   have H := H1
   clear H1
   replace H := Option.bind_eq_some_iff.mp H
   obtain ⟨t120, A280, H⟩ := H
   (try dsimp only at H)
   have A28 := Ak A280
   clear A280
   replace H := Option.bind_eq_some_iff.mp H
   obtain ⟨t123, A290, H⟩ := H
   (try dsimp only at H)
   have A29 := Ak A290
   clear A290
   replace H := Option.bind_eq_some_iff.mp H
   obtain ⟨t126, A300, H⟩ := H
   (try dsimp only at H)
   have A30 := Ak A300
   clear A300
   simp only [Option.some.injEq, Prod.mk.injEq] at H
   obtain ⟨rfl, rfl⟩ := H
   go_wp2_with (first | ((with_reducible refine gate_callee (f := 39) rfl ?_); refine goesL_ (some 32) rfl rfl Tryz.func39 (by kernel_rfl) rfl #[.slice A0 l0.length c0] rfl (by (try simp only [List.map_toArray, List.map_cons, List.map_nil]); first | done | rfl | (simp only [List.length_drop, List.length_take]; rfl)) ?_; (with_reducible refine (Fax.calls _ _ l0 t120 _ ?side1 ?side2 A28.out).mono ?_); (case side1 => repeat (first | exact (Kd.C_below HR0.out HB.out) | (with_reducible refine Kd.C_alloc ?_ _) | (with_reducible refine Kd.C_drewN ?_ _) | (with_reducible refine Kd.C_drew ?_))); (case side2 => exact HC0.out); rintro e w31 ⟨v121, rfl, ho0, hb⟩; refine ⟨_, rfl, ?_⟩; have n0_ := Ak (Kd.R_lower ho0 (below_size (by exact eS HB.out))); have n1_ := Ak (blk_below (bS BK114.out) hb); have n2_ := Ak (blk_below (bS BK115.out) hb); have n3_ := Ak (below_step (by exact eS HB.out) hb); clear BK114; clear BK115; clear HB; have HO122 := n0_; have BK114 := n1_; have BK115 := n2_; have HB := n3_; clear n0_ n1_ n2_ n3_; (try clear hb); (try clear hb2); (try clear hk); (try clear hi); (try clear ho0); obtain ⟨Ao32, co32, eo32⟩ := Kd.R_slice HO122.out; subst eo32) | ((with_reducible refine gate_callee (f := 38) rfl ?_); refine goesL_ (some 34) rfl rfl Tryz.func38 (by kernel_rfl) rfl #[.slice Ao32 t120.length co32, .func (.func 49) #[] #[.pointer (some ⟨gb114, 0, none⟩), .pointer (some ⟨gb115, 0, none⟩)]] rfl (by (try simp only [List.map_toArray, List.map_cons, List.map_nil]); first | done | rfl | (simp only [List.length_drop, List.length_take]; rfl)) ?_; (refine (Ff.calls kj3 (fun k_ => some k_ = (.slice Ao32 t120.length co32 : Value).ownBlock) (.slice Ao32 t120.length co32) t120 gb114 gb115 a1 a2 t123 w _ ?side1 ?side2 ?side3 ?side4 A29.out).mono ?_); (case side1 => exact eS HB.out); (case side2 => exact Kd.R_tight rfl HO122.out); (case side3 => exact bS BK114.out); (case side4 => exact bS BK115.out); rintro e w33 ⟨v124, rfl, ho0, hb, hkp⟩; refine ⟨_, rfl, ?_⟩; have n0_ := Ak (blk_kept (by exact bS BK114.out) hkp (fun hs_ => (fun e_ => (Kd.R_ne HO122.out BK114.out (by decide)) e_) hs_)); have n1_ := Ak (blk_kept (by exact bS BK115.out) hkp (fun hs_ => (fun e_ => (Kd.R_ne HO122.out BK115.out (by decide)) e_) hs_)); have n2_ := Ak (Kd.R_mono (ok' := fun k_ => True) ho0 (fun k_ hk_ => trivial)); have n3_ := Ak (hb); clear BK114; clear BK115; clear HB; clear HO122; have BK114 := n0_; have BK115 := n1_; have HO125 := n2_; have HB := n3_; clear n0_ n1_ n2_ n3_; (try clear hb); (try clear hkp); (try clear ho0); obtain ⟨Ao34, co34, eo34⟩ := Kd.R_slice HO125.out; subst eo34) | ((with_reducible refine gate_callee (f := 43) rfl ?_); refine goesL_ (some 35) rfl rfl Tryz.func43 (by kernel_rfl) rfl #[.slice Ao34 t123.length co34] rfl (by (try simp only [List.map_toArray, List.map_cons, List.map_nil]); first | done | rfl | (simp only [List.length_drop, List.length_take]; rfl)) ?_; (with_reducible refine (Fz.calls kj3 _ _ t123 t126 _ ?side1 ?side2 A30.out).mono ?_); (case side1 => repeat (first | exact (Kd.R_reads' HO125.out).2.2 | (with_reducible refine Kd.C_alloc ?_ _) | (with_reducible refine Kd.C_drewN ?_ _) | (with_reducible refine Kd.C_drew ?_))); (case side2 => exact (Kd.R_reads' HO125.out).2.1); rintro e w35 ⟨v127, rfl, ho0, hb⟩; refine ⟨_, rfl, ?_⟩; have n0_ := Ak (Kd.R_below (by exact RS <| HO125.out) hb); have n1_ := Ak (Kd.R_lower (Kd.R_newB (Kd.R_newB ho0 (bS BK114.out)) (bS BK115.out)) (below_size (by exact eS HB.out))); have n2_ := Ak (blk_below (bS BK114.out) hb); have n3_ := Ak (blk_below (bS BK115.out) hb); have n4_ := Ak (below_step (by exact eS HB.out) hb); clear HO125; clear BK114; clear BK115; clear HB; have HO125 := n0_; have HO128 := n1_; have BK114 := n2_; have BK115 := n3_; have HB := n4_; clear n0_ n1_ n2_ n3_ n4_; (try clear hb); (try clear hb2); (try clear hk); (try clear hi); (try clear ho0)))
   go_ret2
   exact ⟨_, by first | rfl | (simp [errW_none, errW_some] <;> rfl) | (simp [*, errW_none, errW_some] <;> rfl), by exact RS <| Kd.R_mono HO128.out (fun _ hk => trivial), by exact eS HB.out⟩
end Go.Proofs.YtahfahlbdgbfeaaGreatDoor.X

namespace Go.Proofs.YtahfahlbdgbfeaaGreatDoor.X
open Ho (bS eS RS Ak Cs Ct Cd)
open Go.RowKit Go.Proofs.YtahfahlbdgbfeaaGreatDoorW.PrintWords Go.Proofs.YtahfahlbdgbfeaaGreatDoorW.PrintLast Go.Proofs.YtahfahlbdgbfeaaGreatDoorW.PrintMore
attribute [local go_sem] max2_int min2_int max_two min_two max_three min_three max_four min_four   -- for this text's walks alone
set_option linter.unusedVariables false
set_option linter.unusedSimpArgs false
open Sq (I O Z Dz)
/-! ### Fbq: function 4 -/
def Fbq.f (l0 : List Int) : Option (Bool) := some (decide ((l0.length : Int) > 65536))
set_option maxHeartbeats 8000000 in
set_option maxRecDepth 100000 in
theorem Fbq.calls (A0 : Option Addr) (c0 : Nat) (l0 : List Int) (r : Bool) (w : World) (hr0 : Kd.C (Kd.int .u8) w A0 l0.length l0) (hc0 : l0.length ≤ c0) (h : Fbq.f l0 = some r) :
  Calls Tryz.prog 4 #[.slice A0 l0.length c0] w fun e w' => e = .returned (.bool r) ∧ Drawn0 w w' := by
 have HR0 := Ak hr0
 have HC0 := Ak hc0
 clear hr0 hc0
 have H : (some (decide ((l0.length : Int) > 65536))) = some r := h
 clear h
 obtain rfl := Option.some.inj H
 go_enter Tryz.func4, Tryz.ntmps4
 go_wp2
 go_ret
 exact ⟨by first | rfl | (simp; done) | (simp [*]; done), by repeat (first | exact Drawn0.refl _ | apply Drawn0.step)⟩
/-! ### Fy: function 11 -/
def Fy.l0 : Nat → List ByteArray → ByteArray → Int → Option (Bool)
  | 0, _, _, _ => none
  | k + 1, x0, x1, x5 => if x5 < (x0.length : Int) then (if 0 ≤ x5 then (if (rdOf ByteArray.empty x0 x5).toList = x1.toList then (some true) else (Fy.l0 k x0 x1 (wrap64 (x5 + 1)))) else (none)) else (some false)
def Fy.f (k : Nat) (l0 : List ByteArray) (a1 : ByteArray) : Option (Bool) := Fy.l0 k l0 a1 0
theorem Fy.mono_l : ∀ k, (∀ y0 y1 y2, LeO (Fy.l0 k y0 y1 y2) (Fy.l0 (k + 1) y0 y1 y2))
  | 0 => fun _ _ _ r h => by simp [Fy.l0] at h
  | k + 1 => by
    have ih0 := Fy.mono_l k
    · intro y0 y1 y2
      unfold Fy.l0
      repeat' first | (with_reducible first | exact ih0 _ _ _ | exact LeO.refl _ | exact LeO.none _ | refine LeO.ite ?_ ?_ | refine LeO.bind ?_ (fun _ => ?_)) | exact ih0 _ _ _ | exact LeO.none _ | refine LeO.ite ?_ ?_ | refine LeO.bind ?_ (fun _ => ?_)
theorem Fy.mono : ∀ a0 a1 k, LeO (Fy.f k a0 a1) (Fy.f (k + 1) a0 a1) := by
  intro a0 a1 k
  have ih0 := Fy.mono_l k
  unfold Fy.f
  repeat' first | (with_reducible first | exact ih0 _ _ _ | exact LeO.refl _ | exact LeO.none _ | refine LeO.ite ?_ ?_ | refine LeO.bind ?_ (fun _ => ?_)) | exact ih0 _ _ _ | exact LeO.none _ | refine LeO.ite ?_ ?_ | refine LeO.bind ?_ (fun _ => ?_)
set_option maxHeartbeats 8000000 in
set_option maxRecDepth 100000 in
theorem Fy.calls (k : Nat) (A0 : Option Addr) (c0 : Nat) (l0 : List ByteArray) (a1 : ByteArray) (r : Bool) (w : World) (hr0 : Kd.C Kd.string w A0 l0.length l0) (hc0 : l0.length ≤ c0) (h : Fy.f k l0 a1 = some r) :
  Calls Tryz.prog 11 #[.slice A0 l0.length c0, .string a1] w fun e w' => e = .returned (.bool r) ∧ Drawn0 w w' := by
 have HR0 := Ak hr0
 have HC0 := Ak hc0
 clear hr0 hc0
 have H : (Fy.l0 k l0 a1 0) = some r := h
 clear h
 have H' := Ak H
 clear H
 go_enter Tryz.func11, Tryz.ntmps11
 go_wp2
 go_loopg [5] k (fun kq v5 w' => ∃ (x5_1 : Int), v5 = .int .i64 x5_1 ∧ Aside0 (Fy.l0 kq l0 a1 x5_1 = some r) ∧ Aside0 (kq ≤ k) ∧ Drawn0 w w')
 case atStart => exact ⟨(0), (by first | rfl | (simp; done) | (simp [*]; done)), H', ⟨Nat.le_refl _⟩, by repeat (first | exact Drawn0.refl _ | apply Drawn0.step)⟩
 case round =>
  clear H'; (try clear c1); (try clear p2)
  obtain ⟨x5_1, rfl, HA, HK1, ⟨m1, rfl⟩⟩ := hrel
  cases gk with
  | zero => exact absurd HA.out (by simp [Fy.l0])
  | succ k1 =>
   have H := HA.out
   clear HA
   simp only [Fy.l0] at H
   by_cases c3 : x5_1 < (l0.length : Int)
   ·rw [if_pos c3] at H
    have c3b0 : decide (x5_1 < (l0.length : Int)) = true := decide_eq_true c3
    clear c3
    by_cases c4 : 0 ≤ x5_1
    ·rw [if_pos c4] at H
     have c4b0 : decide (0 ≤ x5_1) = true := decide_eq_true c4
     clear c4
     by_cases c5 : (rdOf ByteArray.empty l0 x5_1).toList = a1.toList
     ·rw [if_pos c5] at H
      have c5b0 : ((rdOf ByteArray.empty l0 x5_1).toList == a1.toList) = true := beq_iff_eq.mpr c5
      have c5b1 : ((rdOf ByteArray.empty l0 x5_1).toList != a1.toList) = false := bne_eq_false_iff_eq.mpr c5
      clear c5
      obtain rfl := Option.some.inj H
      have p101 : 0 ≤ (x5_1 : Int) := Dz
      have q101 : x5_1 < (l0.length : Int) := Dz
      obtain ⟨ad101, e101, hx101_0⟩ := Kd.at_string HR0.out x5_1 p101 q101
      cases e101
      replace p101 := eq_true p101; replace q101 := eq_true q101
      go_wp2
      go_ret
      exact ⟨by first | rfl | (simp; done) | (simp [*]; done), by repeat (first | exact Drawn0.refl _ | apply Drawn0.step)⟩
     ·rw [if_neg c5] at H
      have c5b0 : ((rdOf ByteArray.empty l0 x5_1).toList == a1.toList) = false := beq_eq_false_iff_ne.mpr c5
      have c5b1 : ((rdOf ByteArray.empty l0 x5_1).toList != a1.toList) = true := bne_iff_ne.mpr c5
      have H' := Ak H
      clear H
      have p101 : 0 ≤ (x5_1 : Int) := Dz
      have q101 : x5_1 < (l0.length : Int) := Dz
      obtain ⟨ad101, e101, hx101_0⟩ := Kd.at_string HR0.out x5_1 p101 q101
      cases e101
      replace p101 := eq_true p101; replace q101 := eq_true q101
      go_wp2
      go_roundg k1
      case measure => have := HK1.out; omega
      case rel => exact ⟨(wrap64 (x5_1 + 1)), (by first | rfl | (simp; done) | (simp [*]; done)), H', ⟨by have := HK1.out; omega⟩, by repeat (first | exact Drawn0.refl _ | apply Drawn0.step)⟩
    ·rw [if_neg c4] at H
     exact absurd H (by simp)
   ·rw [if_neg c3] at H
    have c3b0 : decide (x5_1 < (l0.length : Int)) = false := decide_eq_false c3
    clear c3
    obtain rfl := Option.some.inj H
    go_wp2
    go_ret
    exact ⟨by first | rfl | (simp; done) | (simp [*]; done), by repeat (first | exact Drawn0.refl _ | apply Drawn0.step)⟩
/-! ### Fad: function 9 -/
def Fad.l0 : Nat → List Int → List Int → Int → Option (Bool)
  | 0, _, _, _ => none
  | k + 1, x0, x1, x5 => if x5 < (x0.length : Int) then (if 0 ≤ x5 then (if x5 < (x1.length : Int) then (if (rd x0 x5) = (rd x1 x5) then (Fad.l0 k x0 x1 (wrap64 (x5 + 1))) else (some false)) else (none)) else (none)) else (some true)
def Fad.f (k : Nat) (l0 : List Int) (l1 : List Int) : Option (Bool) := if (l0.length : Int) = (l1.length : Int) then (Fad.l0 k l0 l1 0) else (some false)
theorem Fad.mono_l : ∀ k, (∀ y0 y1 y2, LeO (Fad.l0 k y0 y1 y2) (Fad.l0 (k + 1) y0 y1 y2))
  | 0 => fun _ _ _ r h => by simp [Fad.l0] at h
  | k + 1 => by
    have ih0 := Fad.mono_l k
    · intro y0 y1 y2
      unfold Fad.l0
      repeat' first | (with_reducible first | exact ih0 _ _ _ | exact LeO.refl _ | exact LeO.none _ | refine LeO.ite ?_ ?_ | refine LeO.bind ?_ (fun _ => ?_)) | exact ih0 _ _ _ | exact LeO.none _ | refine LeO.ite ?_ ?_ | refine LeO.bind ?_ (fun _ => ?_)
theorem Fad.mono : ∀ a0 a1 k, LeO (Fad.f k a0 a1) (Fad.f (k + 1) a0 a1) := by
  intro a0 a1 k
  have ih0 := Fad.mono_l k
  unfold Fad.f
  repeat' first | (with_reducible first | exact ih0 _ _ _ | exact LeO.refl _ | exact LeO.none _ | refine LeO.ite ?_ ?_ | refine LeO.bind ?_ (fun _ => ?_)) | exact ih0 _ _ _ | exact LeO.none _ | refine LeO.ite ?_ ?_ | refine LeO.bind ?_ (fun _ => ?_)
set_option maxHeartbeats 8000000 in
set_option maxRecDepth 100000 in
theorem Fad.calls (k : Nat) (A0 : Option Addr) (c0 : Nat) (l0 : List Int) (A1 : Option Addr) (c1 : Nat) (l1 : List Int) (r : Bool) (w : World) (hr0 : Kd.C (Kd.int .i64) w A0 l0.length l0) (hc0 : l0.length ≤ c0) (hr1 : Kd.C (Kd.int .i64) w A1 l1.length l1) (hc1 : l1.length ≤ c1) (h : Fad.f k l0 l1 = some r) :
  Calls Tryz.prog 9 #[.slice A0 l0.length c0, .slice A1 l1.length c1] w fun e w' => e = .returned (.bool r) ∧ Drawn0 w w' := by
 have HR0 := Ak hr0
 have HC0 := Ak hc0
 clear hr0 hc0
 have HR1 := Ak hr1
 have HC1 := Ak hc1
 clear hr1 hc1
 have H : (if (l0.length : Int) = (l1.length : Int) then (Fad.l0 k l0 l1 0) else (some false)) = some r := h
 clear h
 by_cases c3 : (l0.length : Int) = (l1.length : Int)
 ·rw [if_pos c3] at H
  have c3b0 : ((l0.length : Int) == (l1.length : Int)) = true := beq_iff_eq.mpr c3
  have c3b1 : ((l0.length : Int) != (l1.length : Int)) = false := bne_eq_false_iff_eq.mpr c3
  have c3b2 : (l0.length == l1.length) = true := by first | simpa using c3 | (simp at c3 ⊢; omega)
  clear c3
  have H' := Ak H
  clear H
  go_enter Tryz.func9, Tryz.ntmps9
  go_wp2
  repeat (go_quiet (fail); try go_wp2)
  go_loopg [5] k (fun kq v5 w' => ∃ (x5_1 : Int), v5 = .int .i64 x5_1 ∧ Aside0 (Fad.l0 kq l0 l1 x5_1 = some r) ∧ Aside0 (kq ≤ k) ∧ Drawn0 w w')
  case atStart => exact ⟨(0), (by first | rfl | (simp; done) | (simp [*]; done)), H', ⟨Nat.le_refl _⟩, by repeat (first | exact Drawn0.refl _ | apply Drawn0.step)⟩
  case round =>
   clear H'; (try clear c1); (try clear p2); (try clear c3); (try clear c3b0); (try clear c3b1); (try clear c3b2)
   obtain ⟨x5_1, rfl, HA, HK1, ⟨m1, rfl⟩⟩ := hrel
   cases gk with
   | zero => exact absurd HA.out (by simp [Fad.l0])
   | succ k1 =>
    have H := HA.out
    clear HA
    simp only [Fad.l0] at H
    by_cases c4 : x5_1 < (l0.length : Int)
    ·rw [if_pos c4] at H
     have c4b0 : decide (x5_1 < (l0.length : Int)) = true := decide_eq_true c4
     clear c4
     by_cases c5 : 0 ≤ x5_1
     ·rw [if_pos c5] at H
      have c5b0 : decide (0 ≤ x5_1) = true := decide_eq_true c5
      clear c5
      by_cases c6 : x5_1 < (l1.length : Int)
      ·rw [if_pos c6] at H
       have c6b0 : decide (x5_1 < (l1.length : Int)) = true := decide_eq_true c6
       clear c6
       by_cases c7 : (rd l0 x5_1) = (rd l1 x5_1)
       ·rw [if_pos c7] at H
        have c7b0 : ((rd l0 x5_1) == (rd l1 x5_1)) = true := beq_iff_eq.mpr c7
        have c7b1 : ((rd l0 x5_1) != (rd l1 x5_1)) = false := bne_eq_false_iff_eq.mpr c7
        clear c7
        have H' := Ak H
        clear H
        have p101 : 0 ≤ (x5_1 : Int) := Dz
        have q101 : x5_1 < (l0.length : Int) := Dz
        obtain ⟨ad101, e101, hx101_0⟩ := Kd.at_int HR0.out x5_1 p101 q101
        cases e101
        replace p101 := eq_true p101; replace q101 := eq_true q101
        have p102 : 0 ≤ (x5_1 : Int) := Dz
        have q102 : x5_1 < (l1.length : Int) := Dz
        obtain ⟨ad102, e102, hx102_0⟩ := Kd.at_int HR1.out x5_1 p102 q102
        cases e102
        replace p102 := eq_true p102; replace q102 := eq_true q102
        go_wp2
        repeat (go_quiet (fail); try go_wp2)
        go_roundg k1
        case measure => have := HK1.out; omega
        case rel => exact ⟨(wrap64 (x5_1 + 1)), (by first | rfl | (simp; done) | (simp [*]; done)), H', ⟨by have := HK1.out; omega⟩, by repeat (first | exact Drawn0.refl _ | apply Drawn0.step)⟩
       ·rw [if_neg c7] at H
        have c7b0 : ((rd l0 x5_1) == (rd l1 x5_1)) = false := beq_eq_false_iff_ne.mpr c7
        have c7b1 : ((rd l0 x5_1) != (rd l1 x5_1)) = true := bne_iff_ne.mpr c7
        obtain rfl := Option.some.inj H
        have p101 : 0 ≤ (x5_1 : Int) := Dz
        have q101 : x5_1 < (l0.length : Int) := Dz
        obtain ⟨ad101, e101, hx101_0⟩ := Kd.at_int HR0.out x5_1 p101 q101
        cases e101
        replace p101 := eq_true p101; replace q101 := eq_true q101
        have p102 : 0 ≤ (x5_1 : Int) := Dz
        have q102 : x5_1 < (l1.length : Int) := Dz
        obtain ⟨ad102, e102, hx102_0⟩ := Kd.at_int HR1.out x5_1 p102 q102
        cases e102
        replace p102 := eq_true p102; replace q102 := eq_true q102
        go_wp2
        repeat (go_quiet (fail); try go_wp2)
        go_ret
        exact ⟨by first | rfl | (simp; done) | (simp [*]; done), by repeat (first | exact Drawn0.refl _ | apply Drawn0.step)⟩
      ·rw [if_neg c6] at H
       exact absurd H (by simp)
     ·rw [if_neg c5] at H
      exact absurd H (by simp)
    ·rw [if_neg c4] at H
     have c4b0 : decide (x5_1 < (l0.length : Int)) = false := decide_eq_false c4
     clear c4
     obtain rfl := Option.some.inj H
     go_wp2
     repeat (go_quiet (fail); try go_wp2)
     go_ret
     exact ⟨by first | rfl | (simp; done) | (simp [*]; done), by repeat (first | exact Drawn0.refl _ | apply Drawn0.step)⟩
 ·rw [if_neg c3] at H
  have c3b0 : ((l0.length : Int) == (l1.length : Int)) = false := beq_eq_false_iff_ne.mpr c3
  have c3b1 : ((l0.length : Int) != (l1.length : Int)) = true := bne_iff_ne.mpr c3
  have c3b2 : (l0.length == l1.length) = false := by first | simpa using c3 | (simp at c3 ⊢; omega)
  obtain rfl := Option.some.inj H
  go_enter Tryz.func9, Tryz.ntmps9
  go_wp2
  repeat (go_quiet (fail); try go_wp2)
  go_ret
  exact ⟨by first | rfl | (simp; done) | (simp [*]; done), by repeat (first | exact Drawn0.refl _ | apply Drawn0.step)⟩
/-! ### Fak: function 13 -/
def Fak.l0 : Nat → List Int → Int → Int → Option (Int)
  | 0, _, _, _ => none
  | k + 1, x0, x3, x4 => if x4 < (x0.length : Int) then (if 0 ≤ x4 then (Fak.l0 k x0 (wrap64 (x3 + (rd x0 x4))) (wrap64 (x4 + 1))) else (none)) else (some x3)
def Fak.f (k : Nat) (l0 : List Int) : Option (Int) := Fak.l0 k l0 0 0
theorem Fak.mono_l : ∀ k, (∀ y0 y1 y2, LeO (Fak.l0 k y0 y1 y2) (Fak.l0 (k + 1) y0 y1 y2))
  | 0 => fun _ _ _ r h => by simp [Fak.l0] at h
  | k + 1 => by
    have ih0 := Fak.mono_l k
    · intro y0 y1 y2
      unfold Fak.l0
      repeat' first | (with_reducible first | exact ih0 _ _ _ | exact LeO.refl _ | exact LeO.none _ | refine LeO.ite ?_ ?_ | refine LeO.bind ?_ (fun _ => ?_)) | exact ih0 _ _ _ | exact LeO.none _ | refine LeO.ite ?_ ?_ | refine LeO.bind ?_ (fun _ => ?_)
theorem Fak.mono : ∀ a0 k, LeO (Fak.f k a0) (Fak.f (k + 1) a0) := by
  intro a0 k
  have ih0 := Fak.mono_l k
  unfold Fak.f
  repeat' first | (with_reducible first | exact ih0 _ _ _ | exact LeO.refl _ | exact LeO.none _ | refine LeO.ite ?_ ?_ | refine LeO.bind ?_ (fun _ => ?_)) | exact ih0 _ _ _ | exact LeO.none _ | refine LeO.ite ?_ ?_ | refine LeO.bind ?_ (fun _ => ?_)
set_option maxHeartbeats 8000000 in
set_option maxRecDepth 100000 in
theorem Fak.calls (k : Nat) (A0 : Option Addr) (c0 : Nat) (l0 : List Int) (r : Int) (w : World) (hr0 : Kd.C (Kd.int .i64) w A0 l0.length l0) (hc0 : l0.length ≤ c0) (h : Fak.f k l0 = some r) :
  Calls Tryz.prog 13 #[.slice A0 l0.length c0] w fun e w' => e = .returned (.int .i64 r) ∧ Drawn0 w w' := by
 have HR0 := Ak hr0
 have HC0 := Ak hc0
 clear hr0 hc0
 have H : (Fak.l0 k l0 0 0) = some r := h
 clear h
 have H' := Ak H
 clear H
 go_enter Tryz.func13, Tryz.ntmps13
 go_wp2
 go_loopg [3, 4] k (fun kq v3 v4 w' => ∃ (x3_1 : Int) (x4_1 : Int), v3 = .int .i64 x3_1 ∧ v4 = .int .i64 x4_1 ∧ Aside0 (Fak.l0 kq l0 x3_1 x4_1 = some r) ∧ Aside0 (kq ≤ k) ∧ Drawn0 w w')
 case atStart => exact ⟨(0), (0), (by first | rfl | (simp; done) | (simp [*]; done)), (by first | rfl | (simp; done) | (simp [*]; done)), H', ⟨Nat.le_refl _⟩, by repeat (first | exact Drawn0.refl _ | apply Drawn0.step)⟩
 case round =>
  clear H'; (try clear c1)
  obtain ⟨x3_1, x4_1, rfl, rfl, HA, HK1, ⟨m1, rfl⟩⟩ := hrel
  cases gk with
  | zero => exact absurd HA.out (by simp [Fak.l0])
  | succ k1 =>
   have H := HA.out
   clear HA
   simp only [Fak.l0] at H
   by_cases c2 : x4_1 < (l0.length : Int)
   ·rw [if_pos c2] at H
    have c2b0 : decide (x4_1 < (l0.length : Int)) = true := decide_eq_true c2
    clear c2
    by_cases c3 : 0 ≤ x4_1
    ·rw [if_pos c3] at H
     have c3b0 : decide (0 ≤ x4_1) = true := decide_eq_true c3
     clear c3
     have H' := Ak H
     clear H
     have p101 : 0 ≤ (x4_1 : Int) := Dz
     have q101 : x4_1 < (l0.length : Int) := Dz
     obtain ⟨ad101, e101, hx101_0⟩ := Kd.at_int HR0.out x4_1 p101 q101
     cases e101
     replace p101 := eq_true p101; replace q101 := eq_true q101
     go_wp2
     go_roundg k1
     case measure => have := HK1.out; omega
     case rel => exact ⟨(wrap64 (x3_1 + (rd l0 x4_1))), (wrap64 (x4_1 + 1)), (by first | rfl | (simp; done) | (simp [*]; done)), (by first | rfl | (simp; done) | (simp [*]; done)), H', ⟨by have := HK1.out; omega⟩, by repeat (first | exact Drawn0.refl _ | apply Drawn0.step)⟩
    ·rw [if_neg c3] at H
     exact absurd H (by simp)
   ·rw [if_neg c2] at H
    have c2b0 : decide (x4_1 < (l0.length : Int)) = false := decide_eq_false c2
    clear c2
    obtain rfl := Option.some.inj H
    go_wp2
    go_ret
    exact ⟨by first | rfl | (simp; done) | (simp [*]; done), by repeat (first | exact Drawn0.refl _ | apply Drawn0.step)⟩
/-! ### Fab: function 8 -/
def Fab.l0 : Nat → List ByteArray → List ByteArray → Int → Option (Bool)
  | 0, _, _, _ => none
  | k + 1, x0, x1, x5 => if x5 < (x0.length : Int) then (if 0 ≤ x5 then (if x5 < (x1.length : Int) then (if (rdOf ByteArray.empty x0 x5).toList = (rdOf ByteArray.empty x1 x5).toList then (Fab.l0 k x0 x1 (wrap64 (x5 + 1))) else (some false)) else (none)) else (none)) else (some true)
def Fab.f (k : Nat) (l0 : List ByteArray) (l1 : List ByteArray) : Option (Bool) := if (l0.length : Int) = (l1.length : Int) then (Fab.l0 k l0 l1 0) else (some false)
theorem Fab.mono_l : ∀ k, (∀ y0 y1 y2, LeO (Fab.l0 k y0 y1 y2) (Fab.l0 (k + 1) y0 y1 y2))
  | 0 => fun _ _ _ r h => by simp [Fab.l0] at h
  | k + 1 => by
    have ih0 := Fab.mono_l k
    · intro y0 y1 y2
      unfold Fab.l0
      repeat' first | (with_reducible first | exact ih0 _ _ _ | exact LeO.refl _ | exact LeO.none _ | refine LeO.ite ?_ ?_ | refine LeO.bind ?_ (fun _ => ?_)) | exact ih0 _ _ _ | exact LeO.none _ | refine LeO.ite ?_ ?_ | refine LeO.bind ?_ (fun _ => ?_)
theorem Fab.mono : ∀ a0 a1 k, LeO (Fab.f k a0 a1) (Fab.f (k + 1) a0 a1) := by
  intro a0 a1 k
  have ih0 := Fab.mono_l k
  unfold Fab.f
  repeat' first | (with_reducible first | exact ih0 _ _ _ | exact LeO.refl _ | exact LeO.none _ | refine LeO.ite ?_ ?_ | refine LeO.bind ?_ (fun _ => ?_)) | exact ih0 _ _ _ | exact LeO.none _ | refine LeO.ite ?_ ?_ | refine LeO.bind ?_ (fun _ => ?_)
set_option maxHeartbeats 8000000 in
set_option maxRecDepth 100000 in
theorem Fab.calls (k : Nat) (A0 : Option Addr) (c0 : Nat) (l0 : List ByteArray) (A1 : Option Addr) (c1 : Nat) (l1 : List ByteArray) (r : Bool) (w : World) (hr0 : Kd.C Kd.string w A0 l0.length l0) (hc0 : l0.length ≤ c0) (hr1 : Kd.C Kd.string w A1 l1.length l1) (hc1 : l1.length ≤ c1) (h : Fab.f k l0 l1 = some r) :
  Calls Tryz.prog 8 #[.slice A0 l0.length c0, .slice A1 l1.length c1] w fun e w' => e = .returned (.bool r) ∧ Drawn0 w w' := by
 have HR0 := Ak hr0
 have HC0 := Ak hc0
 clear hr0 hc0
 have HR1 := Ak hr1
 have HC1 := Ak hc1
 clear hr1 hc1
 have H : (if (l0.length : Int) = (l1.length : Int) then (Fab.l0 k l0 l1 0) else (some false)) = some r := h
 clear h
 by_cases c3 : (l0.length : Int) = (l1.length : Int)
 ·rw [if_pos c3] at H
  have c3b0 : ((l0.length : Int) == (l1.length : Int)) = true := beq_iff_eq.mpr c3
  have c3b1 : ((l0.length : Int) != (l1.length : Int)) = false := bne_eq_false_iff_eq.mpr c3
  have c3b2 : (l0.length == l1.length) = true := by first | simpa using c3 | (simp at c3 ⊢; omega)
  clear c3
  have H' := Ak H
  clear H
  go_enter Tryz.func8, Tryz.ntmps8
  go_wp2
  repeat (go_quiet (fail); try go_wp2)
  go_loopg [5] k (fun kq v5 w' => ∃ (x5_1 : Int), v5 = .int .i64 x5_1 ∧ Aside0 (Fab.l0 kq l0 l1 x5_1 = some r) ∧ Aside0 (kq ≤ k) ∧ Drawn0 w w')
  case atStart => exact ⟨(0), (by first | rfl | (simp; done) | (simp [*]; done)), H', ⟨Nat.le_refl _⟩, by repeat (first | exact Drawn0.refl _ | apply Drawn0.step)⟩
  case round =>
   clear H'; (try clear c1); (try clear p2); (try clear c3); (try clear c3b0); (try clear c3b1); (try clear c3b2)
   obtain ⟨x5_1, rfl, HA, HK1, ⟨m1, rfl⟩⟩ := hrel
   cases gk with
   | zero => exact absurd HA.out (by simp [Fab.l0])
   | succ k1 =>
    have H := HA.out
    clear HA
    simp only [Fab.l0] at H
    by_cases c4 : x5_1 < (l0.length : Int)
    ·rw [if_pos c4] at H
     have c4b0 : decide (x5_1 < (l0.length : Int)) = true := decide_eq_true c4
     clear c4
     by_cases c5 : 0 ≤ x5_1
     ·rw [if_pos c5] at H
      have c5b0 : decide (0 ≤ x5_1) = true := decide_eq_true c5
      clear c5
      by_cases c6 : x5_1 < (l1.length : Int)
      ·rw [if_pos c6] at H
       have c6b0 : decide (x5_1 < (l1.length : Int)) = true := decide_eq_true c6
       clear c6
       by_cases c7 : (rdOf ByteArray.empty l0 x5_1).toList = (rdOf ByteArray.empty l1 x5_1).toList
       ·rw [if_pos c7] at H
        have c7b0 : ((rdOf ByteArray.empty l0 x5_1).toList == (rdOf ByteArray.empty l1 x5_1).toList) = true := beq_iff_eq.mpr c7
        have c7b1 : ((rdOf ByteArray.empty l0 x5_1).toList != (rdOf ByteArray.empty l1 x5_1).toList) = false := bne_eq_false_iff_eq.mpr c7
        clear c7
        have H' := Ak H
        clear H
        have p101 : 0 ≤ (x5_1 : Int) := Dz
        have q101 : x5_1 < (l0.length : Int) := Dz
        obtain ⟨ad101, e101, hx101_0⟩ := Kd.at_string HR0.out x5_1 p101 q101
        cases e101
        replace p101 := eq_true p101; replace q101 := eq_true q101
        have p102 : 0 ≤ (x5_1 : Int) := Dz
        have q102 : x5_1 < (l1.length : Int) := Dz
        obtain ⟨ad102, e102, hx102_0⟩ := Kd.at_string HR1.out x5_1 p102 q102
        cases e102
        replace p102 := eq_true p102; replace q102 := eq_true q102
        go_wp2
        repeat (go_quiet (fail); try go_wp2)
        go_roundg k1
        case measure => have := HK1.out; omega
        case rel => exact ⟨(wrap64 (x5_1 + 1)), (by first | rfl | (simp; done) | (simp [*]; done)), H', ⟨by have := HK1.out; omega⟩, by repeat (first | exact Drawn0.refl _ | apply Drawn0.step)⟩
       ·rw [if_neg c7] at H
        have c7b0 : ((rdOf ByteArray.empty l0 x5_1).toList == (rdOf ByteArray.empty l1 x5_1).toList) = false := beq_eq_false_iff_ne.mpr c7
        have c7b1 : ((rdOf ByteArray.empty l0 x5_1).toList != (rdOf ByteArray.empty l1 x5_1).toList) = true := bne_iff_ne.mpr c7
        obtain rfl := Option.some.inj H
        have p101 : 0 ≤ (x5_1 : Int) := Dz
        have q101 : x5_1 < (l0.length : Int) := Dz
        obtain ⟨ad101, e101, hx101_0⟩ := Kd.at_string HR0.out x5_1 p101 q101
        cases e101
        replace p101 := eq_true p101; replace q101 := eq_true q101
        have p102 : 0 ≤ (x5_1 : Int) := Dz
        have q102 : x5_1 < (l1.length : Int) := Dz
        obtain ⟨ad102, e102, hx102_0⟩ := Kd.at_string HR1.out x5_1 p102 q102
        cases e102
        replace p102 := eq_true p102; replace q102 := eq_true q102
        go_wp2
        repeat (go_quiet (fail); try go_wp2)
        go_ret
        exact ⟨by first | rfl | (simp; done) | (simp [*]; done), by repeat (first | exact Drawn0.refl _ | apply Drawn0.step)⟩
      ·rw [if_neg c6] at H
       exact absurd H (by simp)
     ·rw [if_neg c5] at H
      exact absurd H (by simp)
    ·rw [if_neg c4] at H
     have c4b0 : decide (x5_1 < (l0.length : Int)) = false := decide_eq_false c4
     clear c4
     obtain rfl := Option.some.inj H
     go_wp2
     repeat (go_quiet (fail); try go_wp2)
     go_ret
     exact ⟨by first | rfl | (simp; done) | (simp [*]; done), by repeat (first | exact Drawn0.refl _ | apply Drawn0.step)⟩
 ·rw [if_neg c3] at H
  have c3b0 : ((l0.length : Int) == (l1.length : Int)) = false := beq_eq_false_iff_ne.mpr c3
  have c3b1 : ((l0.length : Int) != (l1.length : Int)) = true := bne_iff_ne.mpr c3
  have c3b2 : (l0.length == l1.length) = false := by first | simpa using c3 | (simp at c3 ⊢; omega)
  obtain rfl := Option.some.inj H
  go_enter Tryz.func8, Tryz.ntmps8
  go_wp2
  repeat (go_quiet (fail); try go_wp2)
  go_ret
  exact ⟨by first | rfl | (simp; done) | (simp [*]; done), by repeat (first | exact Drawn0.refl _ | apply Drawn0.step)⟩
/-! ### Faj: function 71 -/
def Faj.f (a0 : Int) (a1 : Int) (a2 : Int) : Option (Bool) := if a0 ≥ a1 then (some (decide (a0 ≤ a2))) else (some false)
set_option maxHeartbeats 8000000 in
set_option maxRecDepth 100000 in
theorem Faj.calls (a0 : Int) (a1 : Int) (a2 : Int) (r : Bool) (w : World) (h : Faj.f a0 a1 a2 = some r) :
  Calls Tryz.prog 71 #[.int .i64 a0, .int .i64 a1, .int .i64 a2] w fun e w' => e = .returned (.bool r) ∧ Drawn0 w w' := by
 have H : (if a0 ≥ a1 then (some (decide (a0 ≤ a2))) else (some false)) = some r := h
 clear h
 by_cases c4 : a0 ≥ a1
 ·rw [if_pos c4] at H
  have c4b0 : decide (a1 ≤ a0) = true := decide_eq_true c4
  clear c4
  obtain rfl := Option.some.inj H
  go_enter Tryz.func71, Tryz.ntmps71
  go_wp2
  go_ret
  exact ⟨by first | rfl | (simp; done) | (simp [*]; done), by repeat (first | exact Drawn0.refl _ | apply Drawn0.step)⟩
 ·rw [if_neg c4] at H
  have c4b0 : decide (a1 ≤ a0) = false := decide_eq_false c4
  clear c4
  obtain rfl := Option.some.inj H
  go_enter Tryz.func71, Tryz.ntmps71
  go_wp2
  go_ret
  exact ⟨by first | rfl | (simp; done) | (simp [*]; done), by repeat (first | exact Drawn0.refl _ | apply Drawn0.step)⟩
/-! ### Fbg: function 73 -/
def Fbg.f (a0 : Int) : Option (Bool) := (Faj.f a0 0 10000000).bind fun t101 => (some t101)
set_option maxHeartbeats 8000000 in
set_option maxRecDepth 100000 in
theorem Fbg.calls (a0 : Int) (r : Bool) (w : World) (h : Fbg.f a0 = some r) :
  Calls Tryz.prog 73 #[.int .i64 a0] w fun e w' => e = .returned (.bool r) ∧ Drawn0 w w' := by
 have H : ((Faj.f a0 0 10000000).bind fun t101 => (some t101)) = some r := h
 clear h
 replace H := Option.bind_eq_some_iff.mp H
 obtain ⟨t101, A20, H⟩ := H
 replace H : (some t101) = some r := H
 have A2 := Ak A20
 clear A20
 obtain rfl := Option.some.inj H
 go_enter Tryz.func73, Tryz.ntmps73
 go_wp2_with (first | ((with_reducible refine gate_callee (f := 71) rfl ?_); refine goesL_ (some 4) rfl rfl Tryz.func71 (by kernel_rfl) rfl #[.int .i64 a0, .int .i64 0, .int .i64 10000000] rfl (by (try simp only [List.map_toArray, List.map_cons, List.map_nil]); first | done | rfl | (simp only [List.length_drop, List.length_take]; rfl)) ?_; (with_reducible refine (Faj.calls a0 0 10000000 t101 _ A2.out).mono ?_); rintro e w' ⟨rfl, ⟨nd, rfl⟩⟩; refine ⟨_, rfl, ?_⟩))
 go_ret
 exact ⟨by first | rfl | (simp; done) | (simp [*]; done), by repeat (first | exact Drawn0.refl _ | apply Drawn0.step)⟩
/-! ### Far: function 50 -/
def Far.f (a0 : Int) : Option (Bool) := (Faj.f a0 0 4000).bind fun t101 => (some t101)
set_option maxHeartbeats 8000000 in
set_option maxRecDepth 100000 in
theorem Far.calls (a0 : Int) (r : Bool) (w : World) (h : Far.f a0 = some r) :
  Calls Tryz.prog 50 #[.int .i64 a0] w fun e w' => e = .returned (.bool r) ∧ Drawn0 w w' := by
 have H : ((Faj.f a0 0 4000).bind fun t101 => (some t101)) = some r := h
 clear h
 replace H := Option.bind_eq_some_iff.mp H
 obtain ⟨t101, A20, H⟩ := H
 replace H : (some t101) = some r := H
 have A2 := Ak A20
 clear A20
 obtain rfl := Option.some.inj H
 go_enter Tryz.func50, Tryz.ntmps50
 go_wp2_with (first | ((with_reducible refine gate_callee (f := 71) rfl ?_); refine goesL_ (some 4) rfl rfl Tryz.func71 (by kernel_rfl) rfl #[.int .i64 a0, .int .i64 0, .int .i64 4000] rfl (by (try simp only [List.map_toArray, List.map_cons, List.map_nil]); first | done | rfl | (simp only [List.length_drop, List.length_take]; rfl)) ?_; (with_reducible refine (Faj.calls a0 0 4000 t101 _ A2.out).mono ?_); rintro e w' ⟨rfl, ⟨nd, rfl⟩⟩; refine ⟨_, rfl, ?_⟩))
 go_ret
 exact ⟨by first | rfl | (simp; done) | (simp [*]; done), by repeat (first | exact Drawn0.refl _ | apply Drawn0.step)⟩
/-! ### Fag: function 54 -/
def Fag.l0 : Nat → ByteArray → Int → Option (Bool)
  | 0, _, _ => none
  | k + 1, x0, x3 => if x3 < (x0.size : Int) then (if 0 ≤ x3 then (if (bt x0 x3) < 97 then (some false) else (if (bt x0 x3) > 122 then (some false) else (Fag.l0 k x0 (wrap64 (x3 + 1))))) else (none)) else ((Faj.f (x0.size : Int) 1 10).bind fun t101 => (some t101))
def Fag.f (k : Nat) (a0 : ByteArray) : Option (Bool) := Fag.l0 k a0 0
theorem Fag.mono_l : ∀ k, (∀ y0 y1, LeO (Fag.l0 k y0 y1) (Fag.l0 (k + 1) y0 y1))
  | 0 => fun _ _ r h => by simp [Fag.l0] at h
  | k + 1 => by
    have ih0 := Fag.mono_l k
    · intro y0 y1
      unfold Fag.l0
      repeat' first | (with_reducible first | exact ih0 _ _ | exact LeO.refl _ | exact LeO.none _ | refine LeO.ite ?_ ?_ | refine LeO.bind ?_ (fun _ => ?_)) | exact ih0 _ _ | exact LeO.none _ | refine LeO.ite ?_ ?_ | refine LeO.bind ?_ (fun _ => ?_)
theorem Fag.mono : ∀ a0 k, LeO (Fag.f k a0) (Fag.f (k + 1) a0) := by
  intro a0 k
  have ih0 := Fag.mono_l k
  unfold Fag.f
  repeat' first | (with_reducible first | exact ih0 _ _ | exact LeO.refl _ | exact LeO.none _ | refine LeO.ite ?_ ?_ | refine LeO.bind ?_ (fun _ => ?_)) | exact ih0 _ _ | exact LeO.none _ | refine LeO.ite ?_ ?_ | refine LeO.bind ?_ (fun _ => ?_)
set_option maxHeartbeats 8000000 in
set_option maxRecDepth 100000 in
theorem Fag.calls (k : Nat) (a0 : ByteArray) (r : Bool) (w : World) (h : Fag.f k a0 = some r) :
  Calls Tryz.prog 54 #[.string a0] w fun e w' => e = .returned (.bool r) ∧ Drawn0 w w' := by
 have H : (Fag.l0 k a0 0) = some r := h
 clear h
 have H' := Ak H
 clear H
 go_enter Tryz.func54, Tryz.ntmps54
 go_wp2
 go_loopg [3] k (fun kq v3 w' => ∃ (x3_1 : Int), v3 = .int .i64 x3_1 ∧ Aside0 (Fag.l0 kq a0 x3_1 = some r) ∧ Aside0 (kq ≤ k) ∧ Drawn0 w w')
 case atStart => exact ⟨(0), (by first | rfl | (simp; done) | (simp [*]; done)), H', ⟨Nat.le_refl _⟩, by repeat (first | exact Drawn0.refl _ | apply Drawn0.step)⟩
 case round =>
  clear H'
  obtain ⟨x3_1, rfl, HA, HK1, ⟨m1, rfl⟩⟩ := hrel
  cases gk with
  | zero => exact absurd HA.out (by simp [Fag.l0])
  | succ k1 =>
   have H := HA.out
   clear HA
   simp only [Fag.l0] at H
   by_cases c2 : x3_1 < (a0.size : Int)
   ·rw [if_pos c2] at H
    have c2b0 : decide (x3_1 < (a0.size : Int)) = true := decide_eq_true c2
    clear c2
    by_cases c3 : 0 ≤ x3_1
    ·rw [if_pos c3] at H
     have c3b0 : decide (0 ≤ x3_1) = true := decide_eq_true c3
     clear c3
     by_cases c5 : (bt a0 x3_1) < 97
     ·rw [if_pos c5] at H
      have c5b0 : decide ((bt a0 x3_1) < 97) = true := decide_eq_true c5
      clear c5
      obtain rfl := Option.some.inj H
      have p4 : 0 ≤ (x3_1 : Int) := Dz
      have q4 : x3_1 < (a0.size : Int) := Dz
      have hx4 := bt_at a0 x3_1
      replace p4 := eq_true p4; replace q4 := eq_true q4
      go_wp2
      go_ret
      exact ⟨by first | rfl | (simp; done) | (simp [*]; done), by repeat (first | exact Drawn0.refl _ | apply Drawn0.step)⟩
     ·rw [if_neg c5] at H
      have c5b0 : decide ((bt a0 x3_1) < 97) = false := decide_eq_false c5
      clear c5
      by_cases c7 : (bt a0 x3_1) > 122
      ·rw [if_pos c7] at H
       have c7b0 : decide (122 < (bt a0 x3_1)) = true := decide_eq_true c7
       clear c7
       obtain rfl := Option.some.inj H
       have p4 : 0 ≤ (x3_1 : Int) := Dz
       have q4 : x3_1 < (a0.size : Int) := Dz
       have hx4 := bt_at a0 x3_1
       replace p4 := eq_true p4; replace q4 := eq_true q4
       have p6 : 0 ≤ (x3_1 : Int) := Dz
       have q6 : x3_1 < (a0.size : Int) := Dz
       have hx6 := bt_at a0 x3_1
       replace p6 := eq_true p6; replace q6 := eq_true q6
       go_wp2
       go_ret
       exact ⟨by first | rfl | (simp; done) | (simp [*]; done), by repeat (first | exact Drawn0.refl _ | apply Drawn0.step)⟩
      ·rw [if_neg c7] at H
       have c7b0 : decide (122 < (bt a0 x3_1)) = false := decide_eq_false c7
       clear c7
       have H' := Ak H
       clear H
       have p4 : 0 ≤ (x3_1 : Int) := Dz
       have q4 : x3_1 < (a0.size : Int) := Dz
       have hx4 := bt_at a0 x3_1
       replace p4 := eq_true p4; replace q4 := eq_true q4
       have p6 : 0 ≤ (x3_1 : Int) := Dz
       have q6 : x3_1 < (a0.size : Int) := Dz
       have hx6 := bt_at a0 x3_1
       replace p6 := eq_true p6; replace q6 := eq_true q6
       go_wp2
       go_roundg k1
       case measure => have := HK1.out; omega
       case rel => exact ⟨(wrap64 (x3_1 + 1)), (by first | rfl | (simp; done) | (simp [*]; done)), H', ⟨by have := HK1.out; omega⟩, by repeat (first | exact Drawn0.refl _ | apply Drawn0.step)⟩
    ·rw [if_neg c3] at H
     exact absurd H (by simp)
   ·rw [if_neg c2] at H
    have c2b0 : decide (x3_1 < (a0.size : Int)) = false := decide_eq_false c2
    clear c2
    replace H := Option.bind_eq_some_iff.mp H
    obtain ⟨t101, A80, H⟩ := H
    replace H : (some t101) = some r := H
    have A8 := Ak A80
    clear A80
    obtain rfl := Option.some.inj H
    go_wp2_with (first | ((with_reducible refine gate_callee (f := 71) rfl ?_); refine goesL_ (some 22) rfl rfl Tryz.func71 (by kernel_rfl) rfl #[.int .i64 (a0.size : Int), .int .i64 1, .int .i64 10] rfl (by (try simp only [List.map_toArray, List.map_cons, List.map_nil]); first | done | rfl | (simp only [List.length_drop, List.length_take]; rfl)) ?_; (with_reducible refine (Faj.calls (a0.size : Int) 1 10 t101 _ A8.out).mono ?_); rintro e w' ⟨rfl, ⟨nd, rfl⟩⟩; refine ⟨_, rfl, ?_⟩))
    go_ret
    exact ⟨by first | rfl | (simp; done) | (simp [*]; done), by repeat (first | exact Drawn0.refl _ | apply Drawn0.step)⟩
end Go.Proofs.YtahfahlbdgbfeaaGreatDoor.X

namespace Go.Proofs.YtahfahlbdgbfeaaGreatDoor.X
open Ho (bS eS RS Ak Cs Ct Cd)
open Go.RowKit Go.Proofs.YtahfahlbdgbfeaaGreatDoorW.PrintWords Go.Proofs.YtahfahlbdgbfeaaGreatDoorW.PrintLast Go.Proofs.YtahfahlbdgbfeaaGreatDoorW.PrintMore
attribute [local go_sem] max2_int min2_int max_two min_two max_three min_three max_four min_four   -- for this text's walks alone
set_option linter.unusedVariables false
set_option linter.unusedSimpArgs false
attribute [local go_sem ↓] Ho.isSome_setCell_   -- a store leaves all places there
/-! ### Fas: function 60 -/
def Fas.f (k : Nat) (a0_0 : Int) (a0_1 : ByteArray) (a0_2 : Int) (a0_3 : Int) (a0_4 : Int) (a0_5 : Int) (a0_6 : Int) (a0_7 : Int) : Option (Bool) := (Faj.f a0_0 1 999).bind fun t102 => (if t102 = true then ((Fag.f k a0_1).bind fun t103 => (if t103 = true then ((Faj.f a0_2 30 600).bind fun t104 => (if t104 = true then ((Faj.f a0_3 30 600).bind fun t105 => (if t105 = true then ((Faj.f a0_4 0 5).bind fun t106 => (if t106 = true then ((Fbg.f a0_5).bind fun t107 => (if t107 = true then ((Faj.f a0_6 0 a0_5).bind fun t108 => (if t108 = true then ((Far.f a0_7).bind fun t109 => (some t109)) else (some false))) else (some false))) else (some false))) else (some false))) else (some false))) else (some false))) else (some false))
theorem Fas.mono : ∀ a0 a1 a2 a3 a4 a5 a6 a7 k, LeO (Fas.f k a0 a1 a2 a3 a4 a5 a6 a7) (Fas.f (k + 1) a0 a1 a2 a3 a4 a5 a6 a7) := by
  intro a0 a1 a2 a3 a4 a5 a6 a7 k
  unfold Fas.f
  repeat' first | (with_reducible first | exact Fag.mono _ _ | exact LeO.refl _ | exact LeO.none _ | refine LeO.ite ?_ ?_ | refine LeO.bind ?_ (fun _ => ?_)) | exact Fag.mono _ _ | exact LeO.none _ | refine LeO.ite ?_ ?_ | refine LeO.bind ?_ (fun _ => ?_)
set_option maxHeartbeats 8000000 in
set_option maxRecDepth 100000 in
theorem Fas.calls (k : Nat) (a0_0 : Int) (a0_1 : ByteArray) (a0_2 : Int) (a0_3 : Int) (a0_4 : Int) (a0_5 : Int) (a0_6 : Int) (a0_7 : Int) (r : Bool) (w : World) (h : Fas.f k a0_0 a0_1 a0_2 a0_3 a0_4 a0_5 a0_6 a0_7 = some r) :
  Calls Tryz.prog 60 #[.agg #[.int .i64 a0_0, .string a0_1, .int .i64 a0_2, .int .i64 a0_3, .int .i64 a0_4, .int .i64 a0_5, .int .i64 a0_6, .int .i64 a0_7]] w fun e w' => e = .returned (.bool r) ∧ Below w.heap.size w w' := by
 have hu34 := Tryz.underlying34
 have HB := Ak (Below.refl w.heap.size w)
 have H : ((Faj.f a0_0 1 999).bind fun t102 => (if t102 = true then ((Fag.f k a0_1).bind fun t103 => (if t103 = true then ((Faj.f a0_2 30 600).bind fun t104 => (if t104 = true then ((Faj.f a0_3 30 600).bind fun t105 => (if t105 = true then ((Faj.f a0_4 0 5).bind fun t106 => (if t106 = true then ((Fbg.f a0_5).bind fun t107 => (if t107 = true then ((Faj.f a0_6 0 a0_5).bind fun t108 => (if t108 = true then ((Far.f a0_7).bind fun t109 => (some t109)) else (some false))) else (some false))) else (some false))) else (some false))) else (some false))) else (some false))) else (some false))) = some r := h
 clear h
 replace H := Option.bind_eq_some_iff.mp H
 obtain ⟨t102, A20, H⟩ := H
 (try dsimp only at H)
 have A2 := Ak A20
 clear A20
 by_cases c3 : t102 = true
 subst c3
 have H1 : ((Fag.f k a0_1).bind fun t103 => (if t103 = true then ((Faj.f a0_2 30 600).bind fun t104 => (if t104 = true then ((Faj.f a0_3 30 600).bind fun t105 => (if t105 = true then ((Faj.f a0_4 0 5).bind fun t106 => (if t106 = true then ((Fbg.f a0_5).bind fun t107 => (if t107 = true then ((Faj.f a0_6 0 a0_5).bind fun t108 => (if t108 = true then ((Far.f a0_7).bind fun t109 => (some t109)) else (some false))) else (some false))) else (some false))) else (some false))) else (some false))) else (some false))) = some r := by rw [if_pos rfl] at H; exact H
 clear H
 have H := H1
 clear H1
 replace H := Option.bind_eq_some_iff.mp H
 obtain ⟨t103, A40, H⟩ := H
 (try dsimp only at H)
 have A4 := Ak A40
 clear A40
 by_cases c5 : t103 = true
 subst c5
 have H1 : ((Faj.f a0_2 30 600).bind fun t104 => (if t104 = true then ((Faj.f a0_3 30 600).bind fun t105 => (if t105 = true then ((Faj.f a0_4 0 5).bind fun t106 => (if t106 = true then ((Fbg.f a0_5).bind fun t107 => (if t107 = true then ((Faj.f a0_6 0 a0_5).bind fun t108 => (if t108 = true then ((Far.f a0_7).bind fun t109 => (some t109)) else (some false))) else (some false))) else (some false))) else (some false))) else (some false))) = some r := by rw [if_pos rfl] at H; exact H
 clear H
 have H := H1
 clear H1
 replace H := Option.bind_eq_some_iff.mp H
 obtain ⟨t104, A60, H⟩ := H
 (try dsimp only at H)
 have A6 := Ak A60
 clear A60
 by_cases c7 : t104 = true
 subst c7
 have H1 : ((Faj.f a0_3 30 600).bind fun t105 => (if t105 = true then ((Faj.f a0_4 0 5).bind fun t106 => (if t106 = true then ((Fbg.f a0_5).bind fun t107 => (if t107 = true then ((Faj.f a0_6 0 a0_5).bind fun t108 => (if t108 = true then ((Far.f a0_7).bind fun t109 => (some t109)) else (some false))) else (some false))) else (some false))) else (some false))) = some r := by rw [if_pos rfl] at H; exact H
 clear H
 have H := H1
 clear H1
 replace H := Option.bind_eq_some_iff.mp H
 obtain ⟨t105, A80, H⟩ := H
 (try dsimp only at H)
 have A8 := Ak A80
 clear A80
 by_cases c9 : t105 = true
 subst c9
 have H1 : ((Faj.f a0_4 0 5).bind fun t106 => (if t106 = true then ((Fbg.f a0_5).bind fun t107 => (if t107 = true then ((Faj.f a0_6 0 a0_5).bind fun t108 => (if t108 = true then ((Far.f a0_7).bind fun t109 => (some t109)) else (some false))) else (some false))) else (some false))) = some r := by rw [if_pos rfl] at H; exact H
 clear H
 have H := H1
 clear H1
 replace H := Option.bind_eq_some_iff.mp H
 obtain ⟨t106, A100, H⟩ := H
 (try dsimp only at H)
 have A10 := Ak A100
 clear A100
 by_cases c11 : t106 = true
 subst c11
 have H1 : ((Fbg.f a0_5).bind fun t107 => (if t107 = true then ((Faj.f a0_6 0 a0_5).bind fun t108 => (if t108 = true then ((Far.f a0_7).bind fun t109 => (some t109)) else (some false))) else (some false))) = some r := by rw [if_pos rfl] at H; exact H
 clear H
 have H := H1
 clear H1
 replace H := Option.bind_eq_some_iff.mp H
 obtain ⟨t107, A120, H⟩ := H
 (try dsimp only at H)
 have A12 := Ak A120
 clear A120
 by_cases c13 : t107 = true
 subst c13
 have H1 : ((Faj.f a0_6 0 a0_5).bind fun t108 => (if t108 = true then ((Far.f a0_7).bind fun t109 => (some t109)) else (some false))) = some r := by rw [if_pos rfl] at H; exact H
 clear H
 have H := H1
 clear H1
 replace H := Option.bind_eq_some_iff.mp H
 obtain ⟨t108, A140, H⟩ := H
 (try dsimp only at H)
 have A14 := Ak A140
 clear A140
 by_cases c15 : t108 = true
 subst c15
 have H1 : ((Far.f a0_7).bind fun t109 => (some t109)) = some r := by rw [if_pos rfl] at H; exact H
 clear H
 have H := H1
 clear H1
 replace H := Option.bind_eq_some_iff.mp H
 obtain ⟨t109, A160, H⟩ := H
 (try dsimp only at H)
 have A16 := Ak A160
 clear A160
 obtain rfl := Option.some.inj H
 have WAY0 := True.intro
 rotate_left
 replace c15 := Bool.eq_false_iff.mpr c15
 subst c15
 have H1 : (some false) = some r := by rw [if_neg (show ¬ (false = true) by decide)] at H; exact H
 clear H
 have H := H1
 clear H1
 obtain rfl := Option.some.inj H
 have WAY1 := True.intro
 rotate_left
 replace c13 := Bool.eq_false_iff.mpr c13
 subst c13
 have H1 : (some false) = some r := by rw [if_neg (show ¬ (false = true) by decide)] at H; exact H
 clear H
 have H := H1
 clear H1
 obtain rfl := Option.some.inj H
 have WAY2 := True.intro
 rotate_left
 replace c11 := Bool.eq_false_iff.mpr c11
 subst c11
 have H1 : (some false) = some r := by rw [if_neg (show ¬ (false = true) by decide)] at H; exact H
 clear H
 have H := H1
 clear H1
 obtain rfl := Option.some.inj H
 have WAY3 := True.intro
 rotate_left
 replace c9 := Bool.eq_false_iff.mpr c9
 subst c9
 have H1 : (some false) = some r := by rw [if_neg (show ¬ (false = true) by decide)] at H; exact H
 clear H
 have H := H1
 clear H1
 obtain rfl := Option.some.inj H
 have WAY4 := True.intro
 rotate_left
 replace c7 := Bool.eq_false_iff.mpr c7
 subst c7
 have H1 : (some false) = some r := by rw [if_neg (show ¬ (false = true) by decide)] at H; exact H
 clear H
 have H := H1
 clear H1
 obtain rfl := Option.some.inj H
 have WAY5 := True.intro
 rotate_left
 replace c5 := Bool.eq_false_iff.mpr c5
 subst c5
 have H1 : (some false) = some r := by rw [if_neg (show ¬ (false = true) by decide)] at H; exact H
 clear H
 have H := H1
 clear H1
 obtain rfl := Option.some.inj H
 have WAY6 := True.intro
 rotate_left
 replace c3 := Bool.eq_false_iff.mpr c3
 subst c3
 have H1 : (some false) = some r := by rw [if_neg (show ¬ (false = true) by decide)] at H; exact H
 clear H
 have H := H1
 clear H1
 obtain rfl := Option.some.inj H
 have WAY7 := True.intro
 rotate_left
 all_goals
  go_enter Tryz.func60, Tryz.ntmps60
  go_wp2_with (first | ((with_reducible refine gate_dst (N := 1) rfl ?_); refine box_event ?hg (N := 1) ?hd (cs := #[.int .i64 a0_0, .string a0_1, .int .i64 a0_2, .int .i64 a0_3, .int .i64 a0_4, .int .i64 a0_5, .int .i64 a0_6, .int .i64 a0_7]) (t := 34) ?hr ?_; (case hd => rfl); (case hg => rfl); (case hr => first | (go_simp; done) | (go_simp; rfl)); intro gb101 hg w17 hbox hb; have n0_ := Ak (below_step (by exact eS HB.out) hb); have n1_ := Ak (hbox); have n2_ := Ak ((by rw [hg]; exact (below_size (by exact eS HB.out)) : w.heap.size ≤ gb101)); have n3_ := Ak ((by rw [hg]; exact (below_size (by exact eS HB.out)) : w.heap.size ≤ gb101)); clear HB; have HB := n0_; have BK101 := n1_; have GW101 := n2_; have GE101 := n3_; clear n0_ n1_ n2_ n3_; clear hb hbox hg; obtain ⟨hcz18_0, hcz18_1, hcz18_2, hcz18_3, hcz18_4, hcz18_5, hcz18_6, hcz18_7, hfz18_0, hfz18_1, hfz18_2, hfz18_3, hfz18_4, hfz18_5, hfz18_6, hfz18_7⟩ := Sq.c8 BK101.out) | ((first | guard_hyp WAY0 : True | guard_hyp WAY1 : True | guard_hyp WAY2 : True | guard_hyp WAY3 : True | guard_hyp WAY4 : True | guard_hyp WAY5 : True | guard_hyp WAY6 : True); ((with_reducible refine gate_callee (f := 71) rfl ?_); refine goesL_ (some 5) rfl rfl Tryz.func71 (by kernel_rfl) rfl #[.int .i64 a0_0, .int .i64 1, .int .i64 999] rfl (by (try simp only [List.map_toArray, List.map_cons, List.map_nil]); first | done | rfl | (simp only [List.length_drop, List.length_take]; rfl)) ?_; (with_reducible refine (Faj.calls a0_0 1 999 true _ A2.out).mono ?_); rintro e w' ⟨rfl, ⟨nd, rfl⟩⟩; refine ⟨_, rfl, ?_⟩)) | ((first | guard_hyp WAY0 : True | guard_hyp WAY1 : True | guard_hyp WAY2 : True | guard_hyp WAY3 : True | guard_hyp WAY4 : True | guard_hyp WAY5 : True); (go_at_call 54; (with_reducible refine (Fag.calls k a0_1 true _ A4.out).mono ?_); rintro e w' ⟨rfl, ⟨nd, rfl⟩⟩)) | ((first | guard_hyp WAY0 : True | guard_hyp WAY1 : True | guard_hyp WAY2 : True | guard_hyp WAY3 : True | guard_hyp WAY4 : True); (go_at_call 71; (with_reducible refine (Faj.calls a0_2 30 600 true _ A6.out).mono ?_); rintro e w' ⟨rfl, ⟨nd, rfl⟩⟩)) | ((first | guard_hyp WAY0 : True | guard_hyp WAY1 : True | guard_hyp WAY2 : True | guard_hyp WAY3 : True); (go_at_call 71; (with_reducible refine (Faj.calls a0_3 30 600 true _ A8.out).mono ?_); rintro e w' ⟨rfl, ⟨nd, rfl⟩⟩)) | ((first | guard_hyp WAY0 : True | guard_hyp WAY1 : True | guard_hyp WAY2 : True); (go_at_call 71; (with_reducible refine (Faj.calls a0_4 0 5 true _ A10.out).mono ?_); rintro e w' ⟨rfl, ⟨nd, rfl⟩⟩)) | ((first | guard_hyp WAY0 : True | guard_hyp WAY1 : True); (go_at_call 73; (with_reducible refine (Fbg.calls a0_5 true _ A12.out).mono ?_); rintro e w' ⟨rfl, ⟨nd, rfl⟩⟩)) | ((guard_hyp WAY0 : True); (go_at_call 71; (with_reducible refine (Faj.calls a0_6 0 a0_5 true _ A14.out).mono ?_); rintro e w' ⟨rfl, ⟨nd, rfl⟩⟩)) | ((guard_hyp WAY0 : True); (go_at_call 50; (with_reducible refine (Far.calls a0_7 t109 _ A16.out).mono ?_); rintro e w' ⟨rfl, ⟨nd, rfl⟩⟩)) | ((guard_hyp WAY1 : True); (go_at_call 71; (with_reducible refine (Faj.calls a0_6 0 a0_5 false _ A14.out).mono ?_); rintro e w' ⟨rfl, ⟨nd, rfl⟩⟩)) | ((guard_hyp WAY2 : True); (go_at_call 73; (with_reducible refine (Fbg.calls a0_5 false _ A12.out).mono ?_); rintro e w' ⟨rfl, ⟨nd, rfl⟩⟩)) | ((guard_hyp WAY3 : True); (go_at_call 71; (with_reducible refine (Faj.calls a0_4 0 5 false _ A10.out).mono ?_); rintro e w' ⟨rfl, ⟨nd, rfl⟩⟩)) | ((guard_hyp WAY4 : True); (go_at_call 71; (with_reducible refine (Faj.calls a0_3 30 600 false _ A8.out).mono ?_); rintro e w' ⟨rfl, ⟨nd, rfl⟩⟩)) | ((guard_hyp WAY5 : True); (go_at_call 71; (with_reducible refine (Faj.calls a0_2 30 600 false _ A6.out).mono ?_); rintro e w' ⟨rfl, ⟨nd, rfl⟩⟩)) | ((guard_hyp WAY6 : True); (go_at_call 54; (with_reducible refine (Fag.calls k a0_1 false _ A4.out).mono ?_); rintro e w' ⟨rfl, ⟨nd, rfl⟩⟩)) | ((guard_hyp WAY7 : True); ((with_reducible refine gate_callee (f := 71) rfl ?_); refine goesL_ (some 5) rfl rfl Tryz.func71 (by kernel_rfl) rfl #[.int .i64 a0_0, .int .i64 1, .int .i64 999] rfl (by (try simp only [List.map_toArray, List.map_cons, List.map_nil]); first | done | rfl | (simp only [List.length_drop, List.length_take]; rfl)) ?_; (with_reducible refine (Faj.calls a0_0 1 999 false _ A2.out).mono ?_); rintro e w' ⟨rfl, ⟨nd, rfl⟩⟩; refine ⟨_, rfl, ?_⟩)))
  go_ret
  exact ⟨by first | rfl | (simp [errW_none, errW_some] <;> rfl) | (simp [*, errW_none, errW_some] <;> rfl), by exact eS HB.out⟩
end Go.Proofs.YtahfahlbdgbfeaaGreatDoor.X
