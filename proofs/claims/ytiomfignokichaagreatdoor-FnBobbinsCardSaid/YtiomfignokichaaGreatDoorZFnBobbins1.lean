/- What the law FnBobbins needs, part 2 of 5: what each function of the program that it reaches returns (printed by this session's own program, checked by Lean), and plain mathematics about it. Conditions: those of each theorem. -/
import Derived.Test.YtiomfignokichaaGreatDoorZFnBobbins0
import Derived.Ground.NamesProg
import Derived.Shelf.Strconv.Itoa3
import Derived.Shelf.Strings.OnBuilder
import Derived.Test.YtiomfignokichaaGreatDoorProg
import Derived.Lib.SmallJoins
namespace Go.Proofs.YtiomfignokichaaGreatDoor.X
open Ho (bS eS)
open Sq (I O Z)
open Mx
open Go.RowKit Go.Proofs.YtiomfignokichaaGreatDoorW.PrintWords Go.Proofs.YtiomfignokichaaGreatDoorW.PrintLast Go.Proofs.YtiomfignokichaaGreatDoorW.PrintMore
attribute [local go_sem] max2_int min2_int max_two min_two max_three min_three max_four min_four
set_option linter.unusedVariables false
set_option linter.unusedSimpArgs false
set_option maxHeartbeats 8000000
set_option maxRecDepth 100000
/-! ### Fu: function 100004 -/
def Fu.f (k : Nat) (l0 : List (S33))  : Option ((List (S33))) := (Fbp.f k (IntKind.u64.wrap ((l0.length : Int)))).bind fun t101 => ((Fi.f k l0 0 (l0.length : Int) t101).bind fun t102 => (some t102))
theorem Fu.mono : ∀ a0 k, LeO (Fu.f k a0) (Fu.f (k + 1) a0) := by
  intro a0 k
  unfold Fu.f
  repeat' (with_reducible first | apply Fbp.mono | apply Fi.mono | exact LeO.refl _ | exact LeO.none _ | refine LeO.ite ?_ ?_ | refine LeO.bind ?_ (fun _ => ?_))
theorem Fu.calls (k : Nat) (P0_ : Nat → Prop) (u9000_ : Value) (l0 : List (S33))  (r : List (S33)) (w0 w : World) (hB : Below w0.heap.size w0 w) (ho0 : Kd.R k33 33 w w0.heap.size P0_ u9000_ l0) (h : Fu.f k l0 = some r) :
  Calls Tryz.prog 21 #[u9000_, .func (.func 22) #[] #[]] w fun e w' => e = .returned (.tuple #[]) ∧ Kd.R k33 33 w' w0.heap.size (fun k_ => (P0_ k_ ∨ w.heap.size ≤ k_)) u9000_ r ∧ Below w0.heap.size w0 w' ∧ Kept w w' (fun k_ => P0_ k_) := by
 have R0 := Aside0.mk (show Kd.R k33 33 w w0.heap.size (fun k_ => (P0_ k_ ∨ w.heap.size ≤ k_)) u9000_ l0 from Kd.R_mono ho0 (fun k_ hk => (.inl hk)))
 have HK := Aside0.mk (Kept.refl w (fun k_ => P0_ k_))
 have HW0 := Aside0.mk hB.size
 have HB := Aside0.mk hB
 clear hB
 have H := h
 clear h
 unfold Fu.f at H
 obtain ⟨t1, A3, H⟩ := bn H
 (try dsimp only at H)
 obtain ⟨t2, A4, H⟩ := bn H
 (try dsimp only at H)
 obtain rfl := Option.some.inj H
 obtain ⟨Ao5, co5, eo5⟩ := Kd.R_slice R0.out
 subst eo5
 go_enter Tryz.func21, Tryz.ntmps21
 go_wp2_with (first | (refine cE (some 11) Tryz.func53 #[.int .u64 (IntKind.u64.wrap ((l0.length : Int)))] ?_; (with_reducible refine (Fbp.calls k (IntKind.u64.wrap ((l0.length : Int))) t1 _ A3.out).mono ?_); rintro e w' ⟨rfl, ⟨nd, rfl⟩⟩; refine ⟨_, rfl, ?_⟩) | (refine cE (some 13) Tryz.func52 #[.slice Ao5 l0.length co5, .int .i64 0, .int .i64 (l0.length : Int), .int .i64 t1, .func (.func 22) #[] #[]] ?_; (refine (Fi.calls k (fun k_ => some k_ = (.slice Ao5 l0.length co5 : Value).ownBlock) (.slice Ao5 l0.length co5) l0 0 (l0.length : Int) t1  t2 w0 _ ?side1 ?side2 A4.out).mono ?_); (case side1 => exact eS HB.out); (case side2 => exact Kd.R_tight rfl R0.out); rintro e w6 ⟨rfl, hy0, hb, hkp⟩; refine ⟨_, rfl, ?_⟩; replace HK := Ak (Kept.then_ (S := (fun k_ => P0_ k_)) (by exact Ho.KS HK.out) hkp (fun k_ hs_ => (fun e_ => (R0.out.1 k_ e_.symm)) hs_)); replace R0 := Ak (Kd.R_reok rfl hy0 (fun k_ e_ => R0.out.1 k_ e_)); replace HB := Ak hb; clear hb; (try clear hkp); (try clear hy0)))
 first | go_end0 | ((try simp only [Exit.inBlock, Exit.then]); refine bodyPost_ret (results_none rfl _ _ _) rfl ?_)
 exact ⟨Ez, by exact Ho.RS <| R0.out, by exact eS HB.out, by exact Ho.KS HK.out⟩
section
attribute [local go_sem ↓] Ho.isSome_setCell_
/-! ### Fx: function 6 -/
mutual
def Fx.j0 : Nat → Int → Int → Bool → List (S33) → Int → Int → Int → Int → Option (Int × Bool)
  | 0, _, _, _, _, _, _, _, _ => none
  | k + 1, x1, x2, x24, x104000, x104001, x104002, x104003, x104004 => if x24 = true then (some (0, false)) else ((Fz.f k x104000 x104001 x104002 x104003 x104004 x1).bind fun t107 => ((Fu.f k t107).bind fun t110 => (Fx.l0 k x2 0 t110 (t107.length : Int) 0)))
def Fx.l0 : Nat → Int → Int → List (S33) → Int → Int → Option (Int × Bool)
  | 0, _, _, _, _, _ => none
  | k + 1, x2, x9, x30, x31, x32 => if x32 < x31 then (if 0 ≤ x32 then (if x32 < (x30.length : Int) then (if (wrap64 ((wrap64 (x9 + ((rd_T33 x30 x32).f2))) - x32)) ≥ x2 then (some (x32, true)) else (Fx.l0 k x2 (wrap64 (x9 + ((rd_T33 x30 x32).f2))) x30 x31 (wrap64 (x32 + 1)))) else (none)) else (none)) else (some (0, false))
end
def Fx.f (k : Nat) (l0_0 : List (S33)) (a0_1 : Int) (a0_2 : Int) (a0_3 : Int) (a0_4 : Int) (a1 : Int) (a2 : Int) : Option (Int × Bool) := (Fk.f k l0_0 a0_1 a0_2 a0_3 a0_4).bind fun t104 => (if t104 = true then ((Faw.f a1).bind fun t105 => (if t105 = true then ((Fbb.f a2).bind fun t106 => (Fx.j0 k a1 a2 (!t106) l0_0 a0_1 a0_2 a0_3 a0_4)) else (Fx.j0 k a1 a2 true l0_0 a0_1 a0_2 a0_3 a0_4))) else (Fx.j0 k a1 a2 true l0_0 a0_1 a0_2 a0_3 a0_4))
theorem Fx.mono_l : ∀ k, (∀ y0 y1 y2 y3 y4 y5 y6 y7, LeO (Fx.j0 k y0 y1 y2 y3 y4 y5 y6 y7) (Fx.j0 (k + 1) y0 y1 y2 y3 y4 y5 y6 y7)) ∧ (∀ y0 y1 y2 y3 y4, LeO (Fx.l0 k y0 y1 y2 y3 y4) (Fx.l0 (k + 1) y0 y1 y2 y3 y4))
  | 0 => ⟨fun _ _ _ _ _ _ _ _ r h => by simp [Fx.j0] at h, fun _ _ _ _ _ r h => by simp [Fx.l0] at h⟩
  | k + 1 => by
    obtain ⟨ih0, ih1⟩ := Fx.mono_l k
    refine ⟨?_, ?_⟩
    · intro y0 y1 y2 y3 y4 y5 y6 y7
      unfold Fx.j0
      repeat' (with_reducible first | exact ih0 _ _ _ _ _ _ _ _ | exact ih1 _ _ _ _ _ | apply Fk.mono | apply Fz.mono | apply Fu.mono | exact LeO.refl _ | exact LeO.none _ | refine LeO.ite ?_ ?_ | refine LeO.bind ?_ (fun _ => ?_))
    · intro y0 y1 y2 y3 y4
      unfold Fx.l0
      repeat' (with_reducible first | exact ih0 _ _ _ _ _ _ _ _ | exact ih1 _ _ _ _ _ | apply Fk.mono | apply Fz.mono | apply Fu.mono | exact LeO.refl _ | exact LeO.none _ | refine LeO.ite ?_ ?_ | refine LeO.bind ?_ (fun _ => ?_))
theorem Fx.mono : ∀ a0 a1 a2 a3 a4 a5 a6 k, LeO (Fx.f k a0 a1 a2 a3 a4 a5 a6) (Fx.f (k + 1) a0 a1 a2 a3 a4 a5 a6) := by
  intro a0 a1 a2 a3 a4 a5 a6 k
  obtain ⟨ih0, ih1⟩ := Fx.mono_l k
  unfold Fx.f
  repeat' (with_reducible first | exact ih0 _ _ _ _ _ _ _ _ | exact ih1 _ _ _ _ _ | apply Fk.mono | apply Fz.mono | apply Fu.mono | exact LeO.refl _ | exact LeO.none _ | refine LeO.ite ?_ ?_ | refine LeO.bind ?_ (fun _ => ?_))
theorem Fx.calls (k : Nat) (A0_0 : Option Addr) (c0_0 : Nat) (l0_0 : List (S33)) (a0_1 : Int) (a0_2 : Int) (a0_3 : Int) (a0_4 : Int) (a1 : Int) (a2 : Int) (r1 : Int) (r2 : Bool) (w : World) (hr0_0 : Kd.C k33 w A0_0 l0_0.length l0_0) (hc0_0 : l0_0.length ≤ c0_0) (h : Fx.f k l0_0 a0_1 a0_2 a0_3 a0_4 a1 a2 = some (r1, r2)) :
  Calls Tryz.prog 6 #[.agg #[.slice A0_0 l0_0.length c0_0, .int .i64 a0_1, .int .i64 a0_2, .int .i64 a0_3, .int .i64 a0_4], .int .i64 a1, .int .i64 a2] w fun e w' => e = .returned (.tuple #[.int .i64 r1, .bool r2]) ∧ Below w.heap.size w w' := by
 have hu26 := Tryz.underlying26
 have hu33 := Tryz.underlying33
 have HR0_0 := Aside0.mk hr0_0
 have HC0_0 := Aside0.mk hc0_0
 clear hr0_0 hc0_0
 have HB := Aside0.mk (Below.refl w.heap.size w)
 have H := h
 clear h
 unfold Fx.f at H
 have HC4 := Aside0.mk H
 clear H
 go_enter Tryz.func6, Tryz.ntmps6
 go_upto_region 1 with (first | (refine bE 3 26 #[.slice A0_0 l0_0.length c0_0, .int .i64 a0_1, .int .i64 a0_2, .int .i64 a0_3, .int .i64 a0_4] ?_; intro g3 hg w5 B3 hb; have E3 := gW HB hg; replace HB := bT HB hb; clear hb hg))
 (try simp only [Act.put, List.setIfInBounds_toArray, List.set_cons_zero, List.set_cons_succ])
 go_cut [24] (fun v24 wc => ∃ (kq : Nat) (x24_3 : Bool), v24 = .bool x24_3 ∧ Aside0 (Fx.j0 kq a1 a2 x24_3 l0_0 a0_1 a0_2 a0_3 a0_4 = some (r1, r2)) ∧ Aside0 (kq ≤ k) ∧ Aside0 (wc.heap[g3]? = some (.cells #[(.slice A0_0 l0_0.length c0_0), .int .i64 a0_1, .int .i64 a0_2, .int .i64 a0_3, .int .i64 a0_4] 26 (0, 0))) ∧ Aside0 (Below w.heap.size w wc))
 case first =>
  have H := HC4.out
  clear HC4
  obtain ⟨t4, A6, H⟩ := bn H
  (try dsimp only at H)
  by_cases c7 : t4 = true
  rotate_left
  ·replace c7 := Bool.eq_false_iff.mpr c7
   subst c7
   rw [if_neg (show ¬ (false = true) by decide)] at H
   have H' := Aside0.mk H
   clear H
   have hz15 := Sq.c5 B3.out
   go_wp2_with (first | (refine cE (some 13) Tryz.func16 #[.agg #[.slice A0_0 l0_0.length c0_0, .int .i64 a0_1, .int .i64 a0_2, .int .i64 a0_3, .int .i64 a0_4]] ?_; (with_reducible refine (Fk.calls k _ _ l0_0 a0_1 a0_2 a0_3 a0_4 false _ ?side1 ?side2 A6.out).mono ?_); (case side1 => exact Cs (Kd.C_below HR0_0.out HB.out)); (case side2 => exact HC0_0.out); rintro e w16 ⟨rfl, hb⟩; refine ⟨_, rfl, ?_⟩; replace B3 := kT B3 hb; replace HB := bT HB hb; clear hb))
   go_meet
   case rel => exact ⟨_, (true), Ey, H', ⟨by first | omega | exact Nat.le_refl _⟩, ⟨ks B3⟩, ⟨es HB⟩⟩
  subst c7
  rw [if_pos rfl] at H
  obtain ⟨t5, A8, H⟩ := bn H
  (try dsimp only at H)
  by_cases c9 : t5 = true
  rotate_left
  ·replace c9 := Bool.eq_false_iff.mpr c9
   subst c9
   rw [if_neg (show ¬ (false = true) by decide)] at H
   have H' := Aside0.mk H
   clear H
   have hz13 := Sq.c5 B3.out
   go_wp2_with (first | (refine cE (some 13) Tryz.func16 #[.agg #[.slice A0_0 l0_0.length c0_0, .int .i64 a0_1, .int .i64 a0_2, .int .i64 a0_3, .int .i64 a0_4]] ?_; (with_reducible refine (Fk.calls k _ _ l0_0 a0_1 a0_2 a0_3 a0_4 true _ ?side1 ?side2 A6.out).mono ?_); (case side1 => exact Cs (Kd.C_below HR0_0.out HB.out)); (case side2 => exact HC0_0.out); rintro e w14 ⟨rfl, hb⟩; refine ⟨_, rfl, ?_⟩; replace B3 := kT B3 hb; replace HB := bT HB hb; clear hb) | (go_at_call 18; (with_reducible refine (Faw.calls a1 false _ A8.out).mono ?_); rintro e w' ⟨rfl, ⟨nd, rfl⟩⟩))
   go_meet
   case rel => exact ⟨_, (true), Ey, H', ⟨by first | omega | exact Nat.le_refl _⟩, ⟨ks B3⟩, ⟨es HB⟩⟩
  subst c9
  rw [if_pos rfl] at H
  obtain ⟨t6, A10, H⟩ := bn H
  (try dsimp only at H)
  have H' := Aside0.mk H
  clear H
  have hz11 := Sq.c5 B3.out
  go_wp2_with (first | (refine cE (some 13) Tryz.func16 #[.agg #[.slice A0_0 l0_0.length c0_0, .int .i64 a0_1, .int .i64 a0_2, .int .i64 a0_3, .int .i64 a0_4]] ?_; (with_reducible refine (Fk.calls k _ _ l0_0 a0_1 a0_2 a0_3 a0_4 true _ ?side1 ?side2 A6.out).mono ?_); (case side1 => exact Cs (Kd.C_below HR0_0.out HB.out)); (case side2 => exact HC0_0.out); rintro e w12 ⟨rfl, hb⟩; refine ⟨_, rfl, ?_⟩; replace B3 := kT B3 hb; replace HB := bT HB hb; clear hb) | (go_at_call 18; (with_reducible refine (Faw.calls a1 true _ A8.out).mono ?_); rintro e w' ⟨rfl, ⟨nd, rfl⟩⟩) | (go_at_call 19; (with_reducible refine (Fbb.calls a2 t6 _ A10.out).mono ?_); rintro e w' ⟨rfl, ⟨nd, rfl⟩⟩))
  go_meet
  case rel => exact ⟨_, (!t6), Ey, H', ⟨by first | omega | exact Nat.le_refl _⟩, ⟨ks B3⟩, ⟨es HB⟩⟩
 case rest =>
  clear HC4
  try clear c1
  try clear p2
  try clear c6
  try clear c7
  try clear c9
  try clear c16
  (try clear hz11)
  (try clear hz13)
  (try clear hz15)
  obtain ⟨kq, x24_3, rfl, HA, HJ3, B3, HB⟩ := hcut
  cases kq with
  | zero => exact absurd HA.out (by simp [Fx.j0])
  | succ kj3 =>
   have H := HA.out
   clear HA
   simp only [Fx.j0] at H
   by_cases c17 : x24_3 = true
   ·subst c17
    rw [if_pos rfl] at H
    simp only [Option.some.injEq, Prod.mk.injEq] at H
    obtain ⟨rfl, rfl⟩ := H
    go_wp2
    go_ret2
    exact ⟨Ez, by exact eS HB.out⟩
   replace c17 := Bool.eq_false_iff.mpr c17
   subst c17
   rw [if_neg (show ¬ (false = true) by decide)] at H
   obtain ⟨t7, A18, H⟩ := bn H
   (try dsimp only at H)
   obtain ⟨t10, A19, H⟩ := bn H
   (try dsimp only at H)
   have H' := Aside0.mk H
   clear H
   have hz20 := Sq.c5 B3.out
   go_wp2_with (first | (refine cE (some 27) Tryz.func20 #[.agg #[.slice A0_0 l0_0.length c0_0, .int .i64 a0_1, .int .i64 a0_2, .int .i64 a0_3, .int .i64 a0_4], .int .i64 a1] ?_; (with_reducible refine (Fz.calls kj3 _ _ l0_0 a0_1 a0_2 a0_3 a0_4 a1 t7 _ ?side1 ?side2 A18.out).mono ?_); (case side1 => exact Cs (Kd.C_below HR0_0.out HB.out)); (case side2 => exact HC0_0.out); rintro e w21 ⟨v8, rfl, ho0, hb⟩; refine ⟨_, rfl, ?_⟩; have R9 := lw HB ho0; replace B3 := kT B3 hb; replace HB := bT HB hb; clear hb; (try clear ho0); obtain ⟨Ao22, co22, eo22⟩ := Kd.R_slice R9.out; subst eo22) | (refine cE (some 29) Tryz.func21 #[.slice Ao22 t7.length co22, .func (.func 22) #[] #[]] ?_; (refine (Fu.calls kj3 (fun k_ => some k_ = (.slice Ao22 t7.length co22 : Value).ownBlock) (.slice Ao22 t7.length co22) t7  t10 w _ ?side1 ?side2 A19.out).mono ?_); (case side1 => exact eS HB.out); (case side2 => exact Kd.R_tight rfl R9.out); rintro e w23 ⟨rfl, hy0, hb, hkp⟩; refine ⟨_, rfl, ?_⟩; replace B3 := Ak (blk_kept (by exact bS B3.out) hkp (fun hs_ => (fun e_ => (Kd.R_ne R9.out B3.out (by decide)) e_) hs_)); replace R9 := Ak (Kd.R_reok rfl hy0 (fun k_ e_ => R9.out.1 k_ e_)); replace HB := Ak hb; clear hb; (try clear hkp); (try clear hy0)))
   go_loopg [9, 32] kj3 (fun kq v9 v32 w' => ∃ (x9_2 : Int) (x32_2 : Int), v9 = .int .i64 x9_2 ∧ v32 = .int .i64 x32_2 ∧ Aside0 (Fx.l0 kq a2 x9_2 t10 (t7.length : Int) x32_2 = some (r1, r2)) ∧ Aside0 (kq ≤ kj3) ∧ Aside0 (Kd.R k33 33 w' w.heap.size (fun _ => True) (.slice Ao22 t7.length co22) t10) ∧ Aside0 (w'.heap[g3]? = some (.cells #[(.slice A0_0 l0_0.length c0_0), .int .i64 a0_1, .int .i64 a0_2, .int .i64 a0_3, .int .i64 a0_4] 26 (0, 0))) ∧ Aside0 (Below w.heap.size w w'))
   case atStart => exact ⟨(0), (0), Ey, Ey, H', ⟨Nat.le_refl _⟩, ⟨rs R9⟩, ⟨ks B3⟩, ⟨es HB⟩⟩
   case round =>
    clear H'
    try clear c1
    try clear c2
    try clear p2
    try clear c6
    try clear c7
    try clear c9
    try clear c16
    try clear c17
    try clear c20
    try clear c21
    (try clear hz11)
    (try clear hz13)
    (try clear hz15)
    (try clear hz20)
    try clear p2
    obtain ⟨x9_2, x32_2, rfl, rfl, HA, HK2, R_30, B3, HB⟩ := hrel
    have hl30_2 := (Kd.R_reads' R_30.out).1
    rw [hl30_2] at R_30
    (try simp only [hl30_2])
    (try simp only [hl30_2] at B3)
    cases gk with
    | zero => exact absurd HA.out (by simp [Fx.l0])
    | succ k2 =>
     have H := HA.out
     clear HA
     simp only [Fx.l0] at H
     by_cases c24 : x32_2 < (t7.length : Int)
     rotate_left
     ·rw [if_neg c24] at H
      have c24b0 := decide_eq_false c24
      (try simp only [hl30_2] at c24b0)
      clear c24
      simp only [Option.some.injEq, Prod.mk.injEq] at H
      obtain ⟨rfl, rfl⟩ := H
      go_wp2
      go_ret2
      exact ⟨Ez, by exact eS HB.out⟩
     rw [if_pos c24] at H
     have c24b0 := decide_eq_true c24
     (try simp only [hl30_2] at c24b0)
     clear c24
     by_cases c25 : 0 ≤ x32_2
     rotate_left
     ·rw [if_neg c25] at H
      exact absurd H (by simp)
     rw [if_pos c25] at H
     have c25b0 := decide_eq_true c25
     clear c25
     by_cases c26 : x32_2 < (t10.length : Int)
     rotate_left
     ·rw [if_neg c26] at H
      exact absurd H (by simp)
     rw [if_pos c26] at H
     have c26b0 := decide_eq_true c26
     (try simp only [hl30_2] at c26b0)
     clear c26
     by_cases c27 : (wrap64 ((wrap64 (x9_2 + ((rd_T33 t10 x32_2).f2))) - x32_2)) ≥ a2
     ·rw [if_pos c27] at H
      have c27b0 := decide_eq_true c27
      clear c27
      simp only [Option.some.injEq, Prod.mk.injEq] at H
      obtain ⟨rfl, rfl⟩ := H
      have p11 : 0 ≤ (x32_2 : Int) := Dz
      have q11 : x32_2 < (t10.length : Int) := Dz
      obtain ⟨ad11, e11, hx11_0, hx11_1, hx11_2⟩ := at_T33 (Kd.R_reads' R_30.out).2.2 x32_2 p11 q11
      cases e11
      replace p11 := eq_true p11
      replace q11 := eq_true q11
      go_wp2_with (first | (refine bE 11 33 #[.int .i64 0, .int .i64 0, .int .i64 0] ?_; intro g12 hg w28 B12 hb; have E12 := gW HB hg; obtain ⟨N3_12, N12_3⟩ := nB B3 hg; replace R_30 := rE R_30 hg hb; replace B3 := kT B3 hb; replace HB := bT HB hb; clear hb hg; have hnb29 := nP N12_3; have hz30 := Sq.c3 B12.out))
      go_ret2
      exact ⟨Ez, Bq⟩
     rw [if_neg c27] at H
     have c27b0 := decide_eq_false c27
     clear c27
     have H' := Aside0.mk H
     clear H
     have p11 : 0 ≤ (x32_2 : Int) := Dz
     have q11 : x32_2 < (t10.length : Int) := Dz
     obtain ⟨ad11, e11, hx11_0, hx11_1, hx11_2⟩ := at_T33 (Kd.R_reads' R_30.out).2.2 x32_2 p11 q11
     cases e11
     replace p11 := eq_true p11
     replace q11 := eq_true q11
     go_wp2_with (first | (refine bE 11 33 #[.int .i64 0, .int .i64 0, .int .i64 0] ?_; intro g12 hg w31 B12 hb; have E12 := gW HB hg; obtain ⟨N3_12, N12_3⟩ := nB B3 hg; replace R_30 := rE R_30 hg hb; replace B3 := kT B3 hb; replace HB := bT HB hb; clear hb hg; have hnb32 := nP N12_3; have hz33 := Sq.c3 B12.out))
     (try simp only [← hl30_2])
     go_roundg k2
     case measure => have := HJ3.out; have := HK2.out; omega
     case rel => exact ⟨(wrap64 (x9_2 + ((rd_T33 t10 x32_2).f2))), (wrap64 (x32_2 + 1)), Ey, Ey, H', ⟨by have := HJ3.out; have := HK2.out; omega⟩, ⟨by (try simp only [hl30_2]); exact Ho.RS <| Kd.R_mono (Kd.R_far (p := ⟨g12, 2, none⟩) (Kd.R_far (p := ⟨g12, 1, none⟩) (Kd.R_far (p := ⟨g12, 0, none⟩) (Kd.R_mono R_30.out (fun k_ hk => (⟨hk, hk.2⟩ : _ ∧ k_ ≠ g12))) (fun _ hk => hk.2) (.int .i64 ((rd_T33 t10 x32_2).f0))) (fun _ hk => hk.2) (.int .i64 ((rd_T33 t10 x32_2).f1))) (fun _ hk => hk.2) (.int .i64 ((rd_T33 t10 x32_2).f2))) (fun _ hk => trivial)⟩, ⟨by (try simp only [hl30_2]); (with_reducible repeat (first | refine blk_drewN ?_ _ | refine blk_drew ?_ | refine blk_alloc ?_ _)); refine blk_far ?_ N3_12.out _; (with_reducible repeat (first | refine blk_drewN ?_ _ | refine blk_drew ?_ | refine blk_alloc ?_ _)); refine blk_far ?_ N3_12.out _; (with_reducible repeat (first | refine blk_drewN ?_ _ | refine blk_drew ?_ | refine blk_alloc ?_ _)); refine blk_far ?_ N3_12.out _; exact bS B3.out⟩, ⟨Bq⟩⟩
end
end Go.Proofs.YtiomfignokichaaGreatDoor.X

namespace Go.Proofs
open Go.Shelf
def Tryz.lays171_ren : Go.Shelf.Ren := ⟨fun | 171 => 60 | 243 => 80 | 246 => 93 | 283 => 97 | 284 => 98 | 285 => 99 | 286 => 100 | 129 => 76 | 317 => 101 | 318 => 102 | 319 => 103 | 320 => 104 | 337 => 105 | 338 => 106 | n => n, fun | 3 => 3 | 9 => 9 | 2 => 2 | 4 => 4 | 171 => 114 | 0 => 0 | 53 => 52 | 37 => 22 | 5 => 5 | 173 => 116 | 212 => 119 | 51 => 94 | 20 => 20 | 213 => 120 | 46 => 69 | 232 => 121 | 233 => 122 | n => n, fun | 17 => 1 | 18 => 2 | 19 => 3 | n => n⟩
theorem Tryz.lays171 : Go.Proofs.LaysM.n171 Tryz.prog Tryz.lays171_ren := {
  mixed := by kernel_rfl
  f129 := Tryz.func76.trans (congrArg some (by kernel_rfl))
  f171 := Tryz.func60.trans (congrArg some (by kernel_rfl))
  f243 := Tryz.func80.trans (congrArg some (by kernel_rfl))
  f246 := Tryz.func93.trans (congrArg some (by kernel_rfl))
  f283 := Tryz.func97.trans (congrArg some (by kernel_rfl))
  f284 := Tryz.func98.trans (congrArg some (by kernel_rfl))
  f285 := Tryz.func99.trans (congrArg some (by kernel_rfl))
  f286 := Tryz.func100.trans (congrArg some (by kernel_rfl))
  f317 := Tryz.func101.trans (congrArg some (by kernel_rfl))
  f318 := Tryz.func102.trans (congrArg some (by kernel_rfl))
  f319 := Tryz.func103.trans (congrArg some (by kernel_rfl))
  f320 := Tryz.func104.trans (congrArg some (by kernel_rfl))
  f337 := Tryz.func105.trans (congrArg some (by kernel_rfl))
  f338 := Tryz.func106.trans (congrArg some (by kernel_rfl))
  t0 := Tryz.underlying0
  a0 := Tryz.isAgg0
  z0 := Tryz.sizeOf0
  v0 := Tryz.zeroValue0
  t2 := Tryz.underlying2
  a2 := Tryz.isAgg2
  z2 := Tryz.sizeOf2
  v2 := Tryz.zeroValue2
  t3 := Tryz.underlying3
  a3 := Tryz.isAgg3
  z3 := Tryz.sizeOf3
  v3 := Tryz.zeroValue3
  t4 := Tryz.underlying4
  a4 := Tryz.isAgg4
  z4 := Tryz.sizeOf4
  v4 := Tryz.zeroValue4
  t5 := Tryz.underlying5
  a5 := Tryz.isAgg5
  z5 := Tryz.sizeOf5
  v5 := Tryz.zeroValue5
  t9 := Tryz.underlying9
  a9 := Tryz.isAgg9
  z9 := Tryz.sizeOf9
  v9 := Tryz.zeroValue9
  t20 := Tryz.underlying20
  a20 := Tryz.isAgg20
  z20 := Tryz.sizeOf20
  v20 := Tryz.zeroValue20
  t37 := Tryz.underlying22
  a37 := Tryz.isAgg22
  z37 := Tryz.sizeOf22
  v37 := Tryz.zeroValue22
  t46 := Tryz.underlying69
  a46 := Tryz.isAgg69
  z46 := Tryz.sizeOf69
  v46 := Tryz.zeroValue69
  t51 := Tryz.underlying94
  a51 := Tryz.isAgg94
  z51 := Tryz.sizeOf94
  v51 := Tryz.zeroValue94
  t53 := Tryz.underlying52
  a53 := Tryz.isAgg52
  z53 := Tryz.sizeOf52
  v53 := Tryz.zeroValue52
  t171 := Tryz.underlying114
  a171 := Tryz.isAgg114
  z171 := Tryz.sizeOf114
  v171 := Tryz.zeroValue114
  t173 := Tryz.underlying116
  a173 := Tryz.isAgg116
  z173 := Tryz.sizeOf116
  v173 := Tryz.zeroValue116
  t212 := Tryz.underlying119
  a212 := Tryz.isAgg119
  z212 := Tryz.sizeOf119
  v212 := Tryz.zeroValue119
  t213 := Tryz.underlying120
  a213 := Tryz.isAgg120
  z213 := Tryz.sizeOf120
  t232 := Tryz.underlying121
  a232 := Tryz.isAgg121
  z232 := Tryz.sizeOf121
  v232 := Tryz.zeroValue121
  t233 := Tryz.underlying122
  a233 := Tryz.isAgg122
  z233 := Tryz.sizeOf122
  v233 := Tryz.zeroValue122
  g17 := by kernel_rfl
  g18 := by kernel_rfl
  g19 := by kernel_rfl
  i0 := by kernel_rfl
  i2 := by kernel_rfl
  i3 := by kernel_rfl
  i4 := by kernel_rfl
  i5 := by kernel_rfl
  i9 := by kernel_rfl
  i20 := by kernel_rfl
  i37 := by kernel_rfl
  i46 := by kernel_rfl
  i51 := by kernel_rfl
  i53 := by kernel_rfl
  i171 := by kernel_rfl
  i173 := by kernel_rfl
  i212 := by kernel_rfl
  i232 := by kernel_rfl
  i233 := by kernel_rfl
  m17 := by kernel_rfl
  m18 := by kernel_rfl
  m19 := by kernel_rfl }
def Tryz.lays156_ren : Go.Shelf.Ren := ⟨fun | 156 => 38 | 165 => 61 | 166 => 62 | 169 => 63 | 240 => 81 | 241 => 82 | 276 => 94 | 277 => 95 | n => n, fun | 31 => 57 | 9 => 9 | 3 => 3 | 4 => 4 | 0 => 0 | 20 => 20 | 72 => 79 | 76 => 83 | 70 => 77 | 37 => 22 | 75 => 82 | 127 => 97 | 164 => 108 | 5 => 5 | 80 => 85 | n => n, fun | n => n⟩
theorem Tryz.lays156 : Go.Proofs.Lays.n156 Tryz.prog Tryz.lays156_ren := {
  mixed := by kernel_rfl
  f156 := Tryz.func38.trans (congrArg some (by kernel_rfl))
  f165 := Tryz.func61.trans (congrArg some (by kernel_rfl))
  f166 := Tryz.func62.trans (congrArg some (by kernel_rfl))
  f169 := Tryz.func63.trans (congrArg some (by kernel_rfl))
  f240 := Tryz.func81.trans (congrArg some (by kernel_rfl))
  f241 := Tryz.func82.trans (congrArg some (by kernel_rfl))
  f276 := Tryz.func94.trans (congrArg some (by kernel_rfl))
  f277 := Tryz.func95.trans (congrArg some (by kernel_rfl))
  t0 := Tryz.underlying0
  a0 := Tryz.isAgg0
  z0 := Tryz.sizeOf0
  v0 := Tryz.zeroValue0
  t3 := Tryz.underlying3
  a3 := Tryz.isAgg3
  z3 := Tryz.sizeOf3
  v3 := Tryz.zeroValue3
  t4 := Tryz.underlying4
  a4 := Tryz.isAgg4
  z4 := Tryz.sizeOf4
  v4 := Tryz.zeroValue4
  t9 := Tryz.underlying9
  a9 := Tryz.isAgg9
  z9 := Tryz.sizeOf9
  v9 := Tryz.zeroValue9
  t20 := Tryz.underlying20
  a20 := Tryz.isAgg20
  z20 := Tryz.sizeOf20
  v20 := Tryz.zeroValue20
  t31 := Tryz.underlying57
  a31 := Tryz.isAgg57
  z31 := Tryz.sizeOf57
  v31 := Tryz.zeroValue57
  t37 := Tryz.underlying22
  a37 := Tryz.isAgg22
  z37 := Tryz.sizeOf22
  v37 := Tryz.zeroValue22
  t70 := Tryz.underlying77
  a70 := Tryz.isAgg77
  z70 := Tryz.sizeOf77
  v70 := Tryz.zeroValue77
  t72 := Tryz.underlying79
  a72 := Tryz.isAgg79
  z72 := Tryz.sizeOf79
  v72 := Tryz.zeroValue79
  t75 := Tryz.underlying82
  a75 := Tryz.isAgg82
  z75 := Tryz.sizeOf82
  v75 := Tryz.zeroValue82
  t76 := Tryz.underlying83
  a76 := Tryz.isAgg83
  z76 := Tryz.sizeOf83
  v76 := Tryz.zeroValue83
  t127 := Tryz.underlying97
  a127 := Tryz.isAgg97
  z127 := Tryz.sizeOf97
  v127 := Tryz.zeroValue97
  t164 := Tryz.underlying108
  a164 := Tryz.isAgg108
  z164 := Tryz.sizeOf108
  v164 := Tryz.zeroValue108 }
theorem Tryz.Builder_Extra_156 : Builder.Extra Tryz.prog Tryz.lays156_ren where
  sizeBuilder := by kernel_rfl
  liesBuilder := by kernel_rfl
  t5 := Tryz.underlying5
  a5 := Tryz.isAgg5
  z5 := Tryz.sizeOf5
  v5 := Tryz.zeroValue5
  infoByte := by kernel_rfl
  cellsByte := by kernel_rfl
  sizeByte := by kernel_rfl
  neB5 := by decide
end Go.Proofs

namespace Go.Proofs.YtiomfignokichaaGreatDoor.X
open Ho (bS eS)
open Sq (I O Z)
open Mx
open Go.RowKit Go.Proofs.YtiomfignokichaaGreatDoorW.PrintWords Go.Proofs.YtiomfignokichaaGreatDoorW.PrintLast Go.Proofs.YtiomfignokichaaGreatDoorW.PrintMore
attribute [local go_sem] max2_int min2_int max_two min_two max_three min_three max_four min_four
set_option linter.unusedVariables false
set_option linter.unusedSimpArgs false
set_option maxHeartbeats 8000000
set_option maxRecDepth 100000
/-! ### Fbq: function 60 -/
def Fbq.f (a0 : Int) : Option (ByteArray) := if -9223372036854775808 ≤ a0 ∧ a0 ≤ 9223372036854775807 then some ⟨(Go.Lib.itoa a0).toArray⟩ else none
theorem Fbq.calls (a0 : Int) (r : ByteArray) (w : World) (htab : Lib.TabIs Tryz.prog w "internal/strconv.uint64pow10" .u64 Lib.pow10Tab) (h : Fbq.f a0 = some r) :
  Calls Tryz.prog 60 #[.int .i64 a0] w fun e w' => e = .returned (.string r) ∧ Below w.heap.size w w' := by
 unfold Fbq.f at h
 split at h
 ·rename_i hc
  obtain rfl := Option.some.inj h
  refine (Any.strconv_Itoa Tryz.lays171 a0 hc.1 hc.2 w htab).mono ?_
  rintro e w' ⟨rfl, k, os, rfl⟩
  exact ⟨rfl, rfl, rfl, rfl, (by rw [show (Go.Sort.grow (w.drewN k) os).heap = w.heap ++ os from rfl, Array.size_append]; omega), fun j hj => (by rw [show (Go.Sort.grow (w.drewN k) os).heap = w.heap ++ os from rfl, Array.getElem?_append, if_pos hj])⟩
 ·exact absurd h (by simp)
/-! ### Fbe: function 37 -/
def Fbe.f (a0 : Int) : Option (ByteArray) := (Fbq.f a0).bind fun t101 => (some t101)
theorem Fbe.calls (a0 : Int) (r : ByteArray) (w : World) (htab : Lib.TabIs Tryz.prog w "internal/strconv.uint64pow10" .u64 Lib.pow10Tab) (h : Fbe.f a0 = some r) :
  Calls Tryz.prog 37 #[.int .i64 a0] w fun e w' => e = .returned (.string r) ∧ Below w.heap.size w w' := by
 have HTAB := Aside0.mk htab
 clear htab
 have HB := Aside0.mk (Below.refl w.heap.size w)
 have H := h
 clear h
 unfold Fbe.f at H
 obtain ⟨t1, A2, H⟩ := bn H
 (try dsimp only at H)
 obtain rfl := Option.some.inj H
 go_enter Tryz.func37, Tryz.ntmps37
 go_wp2_with (first | (refine cE (some 4) Tryz.func60 #[.int .i64 a0] ?_; (with_reducible refine (Fbq.calls a0 t1 _ (Go.Joins.tab_stays Tryz.lays171.m17 HTAB.out (by exact eS HB.out) (Nat.le_refl _)) A2.out).mono ?_); rintro e w3 ⟨rfl, hb⟩; refine ⟨_, rfl, ?_⟩; replace HB := bT HB hb; clear hb))
 go_ret
 exact ⟨Ez, by exact eS HB.out⟩
theorem Fbe.eq_ (a0 : Int) : Fbe.f a0 = if -9223372036854775808 ≤ a0 ∧ a0 ≤ 9223372036854775807 then some ⟨(Go.Lib.itoa a0).toArray⟩ else none := by
 unfold Fbe.f Fbq.f
 split <;> rfl
/-! ### Fbr: function 38 -/
def Fbr.f (l0 : List ByteArray) (a1 : ByteArray) : Option (ByteArray) := if l0.length ≤ 140737488355328 ∧ (Go.Lib.join (l0.map (·.data.toList)) a1.data.toList).length ≤ 140737488355328 then some ⟨(Go.Lib.join (l0.map (·.data.toList)) a1.data.toList).toArray⟩ else none
theorem Fbr.calls (A0 : Option Addr) (c0 : Nat) (l0 : List ByteArray) (a1 : ByteArray) (r : ByteArray) (w : World) (hr0 : Kd.C Kd.string w A0 l0.length l0) (hc0 : l0.length ≤ c0) (h : Fbr.f l0 a1 = some r) :
  Calls Tryz.prog 38 #[.slice A0 l0.length c0, .string a1] w fun e w' => e = .returned (.string r) ∧ Below w.heap.size w w' := by
 unfold Fbr.f at h
 split at h
 ·rename_i hc
  obtain rfl := Option.some.inj h
  rcases l0 with _ | ⟨x, xs⟩
  ·exact (Any.strings_Join_none Tryz.lays156 Tryz.Builder_Extra_156 A0 c0 a1 w).mono fun e w' ⟨he, hw⟩ => ⟨he, hw ▸ Below.refl _ _⟩
  ·obtain ⟨ad, rfl, hcell⟩ := Kd.at_string hr0 0 (by omega) (by simp only [List.length_cons]; omega)
   rw [show ad.add (0 : Int).toNat = ad from if_pos rfl] at hcell
   obtain ⟨b, o, s⟩ := ad
   have hs : s = none := by
    unfold World.cell? at hcell
    cases s with
    | none => rfl
    | some z => revert hcell; dsimp only; split <;> simp
   subst hs
   refine Any.strings_Join Tryz.lays156 Tryz.Builder_Extra_156 b o c0 (x :: xs) a1 w (fun j y hj => ?_) (World.block_lt_of_cell? w _ hcell) hc.1 hc0 hc.2
   have hlt : j < (x :: xs).length := (List.getElem?_eq_some_iff.mp hj).1
   obtain ⟨ad2, e2, h2⟩ := Kd.at_string hr0 (j : Int) (by omega) (by omega)
   cases e2
   rw [show rdOf ByteArray.empty (x :: xs) (j : Int) = y by simp only [rdOf, Int.toNat_natCast, List.getD_eq_getElem?_getD, hj, Option.getD_some]] at h2
   rw [← h2, Int.toNat_natCast]
   congr 1
   unfold Addr.add
   split <;> simp_all
 ·exact absurd h (by simp)
section
attribute [local go_sem ↓] Ho.isSome_setCell_
/-! ### Fp: function 14 -/
def Fp.l0 : Nat → List ByteArray → List (S33) → Int → Int → Option (ByteArray × Bool)
  | 0, _, _, _, _ => none
  | k + 1, x4, x16, x17, x18 => if x18 < x17 then (if 0 ≤ x18 then (if x18 < (x16.length : Int) then ((Fbe.f ((rd_T33 x16 x18).f0)).bind fun t108 => (if t108.size + (Utf8.encode (wrap32 (wrap64 (97 + ((rd_T33 x16 x18).f1))))).size ≤ 9223372036854775807 then ((Fbe.f ((rd_T33 x16 x18).f2)).bind fun t109 => (if (t108 ++ (Utf8.encode (wrap32 (wrap64 (97 + ((rd_T33 x16 x18).f1)))))).size + t109.size ≤ 9223372036854775807 then (if x4.length < 8796093022208 then (Fp.l0 k (x4 ++ [(t108 ++ (Utf8.encode (wrap32 (wrap64 (97 + ((rd_T33 x16 x18).f1)))))) ++ t109]) x16 x17 (wrap64 (x18 + 1))) else (none)) else (none))) else (none))) else (none)) else (none)) else ((Fbr.f x4 (⟨#[32]⟩ : ByteArray)).bind fun t113 => (some (t113, true)))
def Fp.f (k : Nat) (l0_0 : List (S33)) (a0_1 : Int) (a0_2 : Int) (a0_3 : Int) (a0_4 : Int) : Option (ByteArray × Bool) := (Fk.f k l0_0 a0_1 a0_2 a0_3 a0_4).bind fun t102 => (if t102 = true then (if (l0_0.length : Int) = 0 then (some ((⟨#[101, 109, 112, 116, 121]⟩ : ByteArray), true)) else (Fp.l0 k (([] : List ByteArray)) l0_0 (l0_0.length : Int) 0)) else (some ((⟨#[]⟩ : ByteArray), false)))
theorem Fp.mono_l : ∀ k, (∀ y0 y1 y2 y3, LeO (Fp.l0 k y0 y1 y2 y3) (Fp.l0 (k + 1) y0 y1 y2 y3))
  | 0 => fun _ _ _ _ r h => by simp [Fp.l0] at h
  | k + 1 => by
    have ih0 := Fp.mono_l k
    · intro y0 y1 y2 y3
      unfold Fp.l0
      repeat' (with_reducible first | exact ih0 _ _ _ _ | apply Fk.mono | exact LeO.refl _ | exact LeO.none _ | refine LeO.ite ?_ ?_ | refine LeO.bind ?_ (fun _ => ?_))
theorem Fp.mono : ∀ a0 a1 a2 a3 a4 k, LeO (Fp.f k a0 a1 a2 a3 a4) (Fp.f (k + 1) a0 a1 a2 a3 a4) := by
  intro a0 a1 a2 a3 a4 k
  have ih0 := Fp.mono_l k
  unfold Fp.f
  repeat' (with_reducible first | exact ih0 _ _ _ _ | apply Fk.mono | exact LeO.refl _ | exact LeO.none _ | refine LeO.ite ?_ ?_ | refine LeO.bind ?_ (fun _ => ?_))
def Fp.T9 : Bool × List (List Nat × List Nat) := (true, [([], []), ([], []), ([1], [1]), ([2], [2]), ([], []), ([4], [4]), ([5], [5]), ([6], [6]), ([7], [7]), ([3, 8], [3, 8]), ([], []), ([10], [10]), ([11, 3], [11]), ([9, 12], [9, 12]), ([13], [13]), ([0, 14, 12], [0, 14]), ([15, 15, 0, 1, 2, 3, 4, 5, 6, 7, 8, 9, 10, 11, 12, 13, 14, 15], [0, 15])])
def Fp.B9 : List Nat := [0, 0, 2, 6, 0, 16, 48, 112, 240, 510, 0, 1024, 3086, 8190, 16382, 32767, 65535]
theorem Fp.tab9 : rtab .any (opsOf Tryz.f14 9) = Fp.T9 := by kernel_rfl
theorem Fp.bits9 : waitsOk Fp.T9.2 Fp.B9 = true := by kernel_rfl
theorem Fp.calls (k : Nat) (A0_0 : Option Addr) (c0_0 : Nat) (l0_0 : List (S33)) (a0_1 : Int) (a0_2 : Int) (a0_3 : Int) (a0_4 : Int) (r1 : ByteArray) (r2 : Bool) (w : World) (hr0_0 : Kd.C k33 w A0_0 l0_0.length l0_0) (hc0_0 : l0_0.length ≤ c0_0) (htab : Lib.TabIs Tryz.prog w "internal/strconv.uint64pow10" .u64 Lib.pow10Tab) (h : Fp.f k l0_0 a0_1 a0_2 a0_3 a0_4 = some (r1, r2)) :
  Calls Tryz.prog 14 #[.agg #[.slice A0_0 l0_0.length c0_0, .int .i64 a0_1, .int .i64 a0_2, .int .i64 a0_3, .int .i64 a0_4]] w fun e w' => e = .returned (.tuple #[.string r1, .bool r2]) ∧ Below w.heap.size w w' := by
 have HTAB := Aside0.mk htab
 clear htab
 have hu26 := Tryz.underlying26
 have hu33 := Tryz.underlying33
 have HR0_0 := Aside0.mk hr0_0
 have HC0_0 := Aside0.mk hc0_0
 clear hr0_0 hc0_0
 have HB := Aside0.mk (Below.refl w.heap.size w)
 have H := h
 clear h
 unfold Fp.f at H
 obtain ⟨t2, A2, H⟩ := bn H
 (try dsimp only at H)
 by_cases c3 : t2 = true
 rotate_left
 ·replace c3 := Bool.eq_false_iff.mpr c3
  subst c3
  rw [if_neg (show ¬ (false = true) by decide)] at H
  simp only [Option.some.injEq, Prod.mk.injEq] at H
  obtain ⟨rfl, rfl⟩ := H
  go_enter Tryz.func14, Tryz.ntmps14
  go_wp2_with (first | (refine bE 1 26 #[.slice A0_0 l0_0.length c0_0, .int .i64 a0_1, .int .i64 a0_2, .int .i64 a0_3, .int .i64 a0_4] ?_; intro g1 hg w35 B1 hb; have E1 := gW HB hg; replace HB := bT HB hb; clear hb hg; have hz36 := Sq.c5 B1.out) | (refine cE (some 8) Tryz.func16 #[.agg #[.slice A0_0 l0_0.length c0_0, .int .i64 a0_1, .int .i64 a0_2, .int .i64 a0_3, .int .i64 a0_4]] ?_; (with_reducible refine (Fk.calls k _ _ l0_0 a0_1 a0_2 a0_3 a0_4 false _ ?side1 ?side2 A2.out).mono ?_); (case side1 => exact Cs (Kd.C_below HR0_0.out HB.out)); (case side2 => exact HC0_0.out); rintro e w37 ⟨rfl, hb⟩; refine ⟨_, rfl, ?_⟩; replace B1 := kT B1 hb; replace HB := bT HB hb; clear hb))
  go_ret2
  exact ⟨Ez, by exact eS HB.out⟩
 subst c3
 rw [if_pos rfl] at H
 by_cases c4 : (l0_0.length : Int) = 0
 ·rw [if_pos c4] at H
  have c4b0 := beq_iff_eq.mpr c4
  have c4b1 := bne_eq_false_iff_eq.mpr c4
  clear c4
  simp only [Option.some.injEq, Prod.mk.injEq] at H
  obtain ⟨rfl, rfl⟩ := H
  go_enter Tryz.func14, Tryz.ntmps14
  go_wp2_with (first | (refine bE 1 26 #[.slice A0_0 l0_0.length c0_0, .int .i64 a0_1, .int .i64 a0_2, .int .i64 a0_3, .int .i64 a0_4] ?_; intro g1 hg w5 B1 hb; have E1 := gW HB hg; replace HB := bT HB hb; clear hb hg; have hz6 := Sq.c5 B1.out) | (refine cE (some 8) Tryz.func16 #[.agg #[.slice A0_0 l0_0.length c0_0, .int .i64 a0_1, .int .i64 a0_2, .int .i64 a0_3, .int .i64 a0_4]] ?_; (with_reducible refine (Fk.calls k _ _ l0_0 a0_1 a0_2 a0_3 a0_4 true _ ?side1 ?side2 A2.out).mono ?_); (case side1 => exact Cs (Kd.C_below HR0_0.out HB.out)); (case side2 => exact HC0_0.out); rintro e w7 ⟨rfl, hb⟩; refine ⟨_, rfl, ?_⟩; replace B1 := kT B1 hb; replace HB := bT HB hb; clear hb; have hz8 := Sq.c5 B1.out))
  go_ret2
  exact ⟨Ez, by exact eS HB.out⟩
 rw [if_neg c4] at H
 have c4b0 := beq_eq_false_iff_ne.mpr c4
 have c4b1 := bne_iff_ne.mpr c4
 have c4b2 : ¬ (l0_0 = []) := fun h_ => c4 (by rw [h_]; rfl)
 obtain ⟨y103, hy3⟩ : ∃ y_ : List ByteArray, y_ = (([] : List ByteArray)) := ⟨_, rfl⟩
 replace H : (Fp.l0 k y103 l0_0 (l0_0.length : Int) 0) = some (r1, r2) := by first | (rw [hy3]; with_reducible exact H) | (have H2_ := (Option.bind_some _ _).symm.trans H; rw [hy3]; with_reducible exact H2_) | (have H2_ := (Option.bind_some _ _).symm.trans H; with_reducible exact H2_) | with_reducible exact H | (rw [hy3]; exact H) | exact H
 have Ny3 := Aside0.mk hy3
 clear hy3
 have H' := Aside0.mk H
 clear H
 go_enter Tryz.func14, Tryz.ntmps14
 go_wp2_with (first | (refine bE 1 26 #[.slice A0_0 l0_0.length c0_0, .int .i64 a0_1, .int .i64 a0_2, .int .i64 a0_3, .int .i64 a0_4] ?_; intro g1 hg w9 B1 hb; have E1 := gW HB hg; replace HB := bT HB hb; clear hb hg; have hz10 := Sq.c5 B1.out) | (refine cE (some 8) Tryz.func16 #[.agg #[.slice A0_0 l0_0.length c0_0, .int .i64 a0_1, .int .i64 a0_2, .int .i64 a0_3, .int .i64 a0_4]] ?_; (with_reducible refine (Fk.calls k _ _ l0_0 a0_1 a0_2 a0_3 a0_4 true _ ?side1 ?side2 A2.out).mono ?_); (case side1 => exact Cs (Kd.C_below HR0_0.out HB.out)); (case side2 => exact HC0_0.out); rintro e w11 ⟨rfl, hb⟩; refine ⟨_, rfl, ?_⟩; replace B1 := kT B1 hb; replace HB := bT HB hb; clear hb; have hz12 := Sq.c5 B1.out) | ((with_reducible refine gate_dst (N := 14) rfl ?_); refine Kd.R_lit Kd.string _ 9 ?hg (N := 14) ?hd (xs := ([] : List ByteArray)) (inner := []) (ok := fun _ => True) (okp := fun _ => True) ?hr ?hp (fun _ hk => hk) trivial (Below.refl _ _) (Nat.le_refl _) (by simp) ?_; (case hd => rfl); (case hg => rfl); (case hr => first | (go_simp; done) | (go_simp; rfl)); (case hp => exact (Reps.none _ _)); intro v104 w13 ho14 hb hg_ hnew_; clear hg_ hnew_; (first | rw [← Ny3.out] at ho14 | (simp only [Int.reduceToNat] at ho14; rw [← Ny3.out] at ho14)); have R5 := lw HB ho14; replace B1 := kT B1 hb; replace HB := bT HB hb; clear hb ho14; have hz15 := Sq.c5 B1.out))
 go_loopg [4, 18] k (fun kq v4 v18 w' => ∃ (x4_1 : List ByteArray) (x18_1 : Int), v18 = .int .i64 x18_1 ∧ Aside0 (Fp.l0 kq x4_1 l0_0 (l0_0.length : Int) x18_1 = some (r1, r2)) ∧ Aside0 (kq ≤ k) ∧ Aside0 (Kd.R Kd.string 9 w' w.heap.size (fun _ => True) v4 x4_1) ∧ Aside0 (w'.heap[g1]? = some (.cells #[(.slice A0_0 l0_0.length c0_0), .int .i64 a0_1, .int .i64 a0_2, .int .i64 a0_3, .int .i64 a0_4] 26 (0, 0))) ∧ Aside0 (Below w.heap.size w w'))
 case atStart => exact ⟨(y103), (0), Ey, H', ⟨Nat.le_refl _⟩, ⟨rs R5⟩, ⟨ks B1⟩, ⟨es HB⟩⟩
 case round =>
  clear H'
  try clear c1
  try clear p2
  try clear c3
  try clear c4
  try clear c4b0
  try clear c4b1
  try clear c4b2
  try clear c14
  (try clear hz10)
  (try clear hz12)
  (try clear hz15)
  (try clear hz6)
  (try clear hz8)
  obtain ⟨x4_1, x18_1, rfl, HA, HK1, R_4, B1, HB⟩ := hrel
  cases gk with
  | zero => exact absurd HA.out (by simp [Fp.l0])
  | succ k1 =>
   have H := HA.out
   clear HA
   simp only [Fp.l0] at H
   by_cases c16 : x18_1 < (l0_0.length : Int)
   rotate_left
   ·rw [if_neg c16] at H
    have c16b0 := decide_eq_false c16
    clear c16
    obtain ⟨t13, A32, H⟩ := bn H
    (try dsimp only at H)
    simp only [Option.some.injEq, Prod.mk.injEq] at H
    obtain ⟨rfl, rfl⟩ := H
    obtain ⟨Ao33, co33, eo33⟩ := Kd.R_slice R_4.out
    subst eo33
    go_wp2_with (first | (refine cE (some 40) Tryz.func38 #[.slice Ao33 x4_1.length co33, .string (⟨#[32]⟩ : ByteArray)] ?_; (with_reducible refine (Fbr.calls _ _ x4_1 (⟨#[32]⟩ : ByteArray) t13 _ ?side1 ?side2 A32.out).mono ?_); (case side1 => exact Cs (Kd.R_reads' R_4.out).2.2); (case side2 => exact (Kd.R_reads' R_4.out).2.1); rintro e w34 ⟨rfl, hb⟩; refine ⟨_, rfl, ?_⟩; replace R_4 := rT R_4 hb; replace B1 := kT B1 hb; replace HB := bT HB hb; clear hb))
    go_ret2
    exact ⟨Ez, by exact eS HB.out⟩
   rw [if_pos c16] at H
   have c16b0 := decide_eq_true c16
   clear c16
   by_cases c17 : 0 ≤ x18_1
   rotate_left
   ·rw [if_neg c17] at H
    exact absurd H (by simp)
   rw [if_pos c17] at H
   have c17b0 := decide_eq_true c17
   clear c17
   by_cases c18 : x18_1 < (l0_0.length : Int)
   rotate_left
   ·rw [if_neg c18] at H
    exact absurd H (by simp)
   rw [if_pos c18] at H
   have c18b0 := decide_eq_true c18
   clear c18
   obtain ⟨t8, A19, H⟩ := bn H
   (try dsimp only at H)
   by_cases c20 : t8.size + (Utf8.encode (wrap32 (wrap64 (97 + ((rd_T33 l0_0 x18_1).f1))))).size ≤ 9223372036854775807
   rotate_left
   ·rw [if_neg c20] at H
    exact absurd H (by simp)
   rw [if_pos c20] at H
   have c20b0 := eq_true c20
   have c20b1 := decide_eq_true c20
   try have c20b2 : (9223372036854775807 < t8.size + (Utf8.encode (wrap32 (wrap64 (97 + ((rd_T33 l0_0 x18_1).f1))))).size) = False := eq_false (Nat.not_lt.2 c20)
   (try (have c20b3 := c20b2; simp only [ByteArray.size_append] at c20b3))
   obtain ⟨t9, A21, H⟩ := bn H
   (try dsimp only at H)
   by_cases c22 : (t8 ++ (Utf8.encode (wrap32 (wrap64 (97 + ((rd_T33 l0_0 x18_1).f1)))))).size + t9.size ≤ 9223372036854775807
   rotate_left
   ·rw [if_neg c22] at H
    exact absurd H (by simp)
   rw [if_pos c22] at H
   have c22b0 := eq_true c22
   have c22b1 := decide_eq_true c22
   try have c22b2 : (9223372036854775807 < (t8 ++ (Utf8.encode (wrap32 (wrap64 (97 + ((rd_T33 l0_0 x18_1).f1)))))).size + t9.size) = False := eq_false (Nat.not_lt.2 c22)
   (try (have c22b3 := c22b2; simp only [ByteArray.size_append] at c22b3))
   by_cases c23 : x4_1.length < 8796093022208
   rotate_left
   ·rw [if_neg c23] at H
    exact absurd H (by simp)
   rw [if_pos c23] at H
   have LMc23 := Aside0.mk c23
   clear c23
   obtain ⟨y10, hy10⟩ : ∃ y_ : List ByteArray, y_ = (x4_1 ++ [(t8 ++ (Utf8.encode (wrap32 (wrap64 (97 + ((rd_T33 l0_0 x18_1).f1)))))) ++ t9]) := ⟨_, rfl⟩
   replace H : (Fp.l0 k1 y10 l0_0 (l0_0.length : Int) (wrap64 (x18_1 + 1))) = some (r1, r2) := by first | (rw [hy10]; with_reducible exact H) | (have H2_ := (Option.bind_some _ _).symm.trans H; rw [hy10]; with_reducible exact H2_) | (have H2_ := (Option.bind_some _ _).symm.trans H; with_reducible exact H2_) | with_reducible exact H | (rw [hy10]; exact H) | exact H
   have Ny10 := Aside0.mk hy10
   clear hy10
   have H' := Aside0.mk H
   clear H
   have p106 : 0 ≤ (x18_1 : Int) := Dz
   have q6 : x18_1 < (l0_0.length : Int) := Dz
   obtain ⟨ad6, e6, hx6_0, hx6_1, hx6_2⟩ := at_T33 HR0_0.out x18_1 p106 q6
   cases e6
   replace hx6_0 := Sq.cB HB.out hx6_0
   replace hx6_1 := Sq.cB HB.out hx6_1
   replace hx6_2 := Sq.cB HB.out hx6_2
   replace p106 := eq_true p106
   replace q6 := eq_true q6
   try go_wp2_with (first | (refine bE 6 33 #[.int .i64 0, .int .i64 0, .int .i64 0] ?_; intro g7 hg w24 B7 hb; have E7 := gW HB hg; obtain ⟨N1_7, N7_1⟩ := nB B1 hg; replace R_4 := rT R_4 hb; replace B1 := kT B1 hb; replace HB := bT HB hb; clear hb hg; have hnb25 := nP N7_1; have hz26 := Sq.c3 B7.out))
   have n0_ : Aside0 (Kd.R Kd.string 9 (((w24.setCell ⟨g7, 0, none⟩ (.int .i64 ((rd_T33 l0_0 x18_1).f0))).setCell ⟨g7, 1, none⟩ (.int .i64 ((rd_T33 l0_0 x18_1).f1))).setCell ⟨g7, 2, none⟩ (.int .i64 ((rd_T33 l0_0 x18_1).f2))) w.heap.size (fun _ => True) u4 x4_1) := ⟨rY3 R_4 B7 (fun _ hk => trivial)⟩
   have n1_ : Aside0 ((((w24.setCell ⟨g7, 0, none⟩ (.int .i64 ((rd_T33 l0_0 x18_1).f0))).setCell ⟨g7, 1, none⟩ (.int .i64 ((rd_T33 l0_0 x18_1).f1))).setCell ⟨g7, 2, none⟩ (.int .i64 ((rd_T33 l0_0 x18_1).f2))).heap[g1]? = some (.cells #[.slice (some ad6) l0_0.length c0_0, .int .i64 a0_1, .int .i64 a0_2, .int .i64 a0_3, .int .i64 a0_4] 26 (0, 0))) := ⟨Kz⟩
   have n2_ : Aside0 ((((w24.setCell ⟨g7, 0, none⟩ (.int .i64 ((rd_T33 l0_0 x18_1).f0))).setCell ⟨g7, 1, none⟩ (.int .i64 ((rd_T33 l0_0 x18_1).f1))).setCell ⟨g7, 2, none⟩ (.int .i64 ((rd_T33 l0_0 x18_1).f2))).heap[g7]? = some (.cells #[.int .i64 ((rd_T33 l0_0 x18_1).f0), .int .i64 ((rd_T33 l0_0 x18_1).f1), .int .i64 ((rd_T33 l0_0 x18_1).f2)] 33 (0, 0))) := ⟨by apply Sq.put3; exact bS B7.out⟩
   have n3_ : Aside0 (Below w.heap.size w (((w24.setCell ⟨g7, 0, none⟩ (.int .i64 ((rd_T33 l0_0 x18_1).f0))).setCell ⟨g7, 1, none⟩ (.int .i64 ((rd_T33 l0_0 x18_1).f1))).setCell ⟨g7, 2, none⟩ (.int .i64 ((rd_T33 l0_0 x18_1).f2)))) := ⟨Bq⟩
   (try clear R_4)
   (try clear B1)
   (try clear B7)
   (try clear HB)
   generalize (((w24.setCell ⟨g7, 0, none⟩ (.int .i64 ((rd_T33 l0_0 x18_1).f0))).setCell ⟨g7, 1, none⟩ (.int .i64 ((rd_T33 l0_0 x18_1).f1))).setCell ⟨g7, 2, none⟩ (.int .i64 ((rd_T33 l0_0 x18_1).f2))) = w27 at n0_ n1_ n2_ n3_ ⊢
   have R_4 := n0_
   have B1 := n1_
   have B7 := n2_
   have HB := n3_
   clear n0_ n1_ n2_ n3_
   replace R_4 := rD R_4
   replace B1 := kD B1
   replace B7 := kD B7
   replace HB := bD HB
   refine sT 17 (H3 g7 (.int .i64 ((rd_T33 l0_0 x18_1).f0)) (.int .i64 ((rd_T33 l0_0 x18_1).f1)) (.int .i64 ((rd_T33 l0_0 x18_1).f2))) [] Fp.tab9 Fp.bits9 (h3 B7) fun hHeld HT_ HW_ => ?_
   generalize w27.drew = w28 at R_4 B1 B7 HB hHeld ⊢
   refine Pu 0 ?_
   refine Pu 1 ?_
   refine Pu 4 ?_
   refine Pu 10 ?_
   refine Ta 2 ?_
   refine Ta 5 ?_
   refine Pu 6 ?_
   refine Pu 7 ?_
   refine Pu 8 ?_
   refine Ta 11 ?_
   refine oN 3 fun K hK => ?_
   refine gO Tryz.func37 #[.int .i64 ((rd_T33 l0_0 x18_1).f0)] ?_
   with_reducible refine (Fbe.calls ((rd_T33 l0_0 x18_1).f0) t8 _ (Go.Joins.tab_stays Tryz.lays171.m17 HTAB.out (by exact eS HB.out) (Nat.le_refl _)) A19.out).mono ?_
   rintro e w29 ⟨rfl, hb⟩
   refine ⟨_, rfl, ?_⟩
   replace R_4 := rT R_4 hb
   replace B1 := kT B1 hb
   replace B7 := kT B7 hb
   replace HB := bT HB hb
   clear hb
   refine hK.out _ _ (h3 B7) (fun hHeld => ?_)
   clear hK K
   refine nO 25 ?_
   refine Pu 9 ?_
   refine oN 12 fun K hK => ?_
   refine gO Tryz.func37 #[.int .i64 ((rd_T33 l0_0 x18_1).f2)] ?_
   with_reducible refine (Fbe.calls ((rd_T33 l0_0 x18_1).f2) t9 _ (Go.Joins.tab_stays Tryz.lays171.m17 HTAB.out (by exact eS HB.out) (Nat.le_refl _)) A21.out).mono ?_
   rintro e w30 ⟨rfl, hb⟩
   refine ⟨_, rfl, ?_⟩
   replace R_4 := rT R_4 hb
   replace B1 := kT B1 hb
   replace B7 := kT B7 hb
   replace HB := bT HB hb
   clear hb
   refine hK.out _ _ (h3 B7) (fun hHeld => ?_)
   clear hK K
   refine nO 34 ?_
   refine Pu 13 ?_
   refine oN 14 fun K hK => ?_
   refine value_ (w1 := ?_) (v := ?_) (by rfl) rfl ?_ ?_
   rotate_left 2
   ·go_simp
    constructor
    ·rfl
    ·rfl
   refine hK.out _ _ ⟨(blk_cell (blk_alloc B7.out _) 0).trans rfl, (blk_cell (blk_alloc B7.out _) 1).trans rfl, (blk_cell (blk_alloc B7.out _) 2).trans rfl⟩ (fun hHeld => ?_)
   clear hK K
   refine nO 36 ?_
   refine oN 15 fun K hK => ?_
   refine Kd.R_append_step Kd.string (w0 := w) w.heap.size (by rfl) (.tmp 22) (.tmp 36) 57 9 (.string ⟨#[]⟩) 16 rfl Tryz.underlying57 info9 rfl (by decide) (by omega) u4 x4_1 ((t8 ++ (Utf8.encode (wrap32 (wrap64 (97 + ((rd_T33 l0_0 x18_1).f1)))))) ++ t9) [.string ((t8 ++ (Utf8.encode (wrap32 (wrap64 (97 + ((rd_T33 l0_0 x18_1).f1)))))) ++ t9)] (fun _ => True) (fun _ => False) rfl rfl ?aP (fun _ hk => hk.elim) ?aF ?aO ?aB ?aS ?aL ?_
   (case aP => exact rfl)
   (case aB => exact (by exact eS HB.out))
   (case aF => exact (fun _ _ => trivial))
   (case aO => exact (by exact Ho.RS <| R_4.out))
   (case aS => exact (below_size (by exact eS HB.out)))
   (case aL => have := LMc23.out; omega)
   intro v11 w31 ho hb hg hat
   rw [← Ny10.out] at ho
   have R12 := Ak ho
   replace B1 := Ak (blk_grown (bS B1.out) hg (Kd.R_ne R_4.out B1.out (by decide)))
   replace B7 := Ak (blk_grown (bS B7.out) hg (Kd.R_ne R_4.out B7.out (by decide)))
   replace HB := Ak hb
   clear R_4
   clear ho hb hg hat
   refine hK.out _ _ (h3 B7) (fun hHeld => ?_)
   clear hK K
   refine nO 37 ?_
   refine Pu 16 ?_
   refine dO ?_
   try go_wp2
   go_roundg k1
   case measure => have := HK1.out; omega
   case rel => exact ⟨(y10), (wrap64 (x18_1 + 1)), Ey, H', ⟨by have := HK1.out; omega⟩, ⟨rs R12⟩, ⟨ks B1⟩, ⟨es HB⟩⟩
end
/-! ### Fbt: function 4 -/
def Fbt.f (l0 : List Int) : Option (Bool) := some (decide ((l0.length : Int) > 65536))
theorem Fbt.calls (A0 : Option Addr) (c0 : Nat) (l0 : List Int) (r : Bool) (w : World) (hr0 : Kd.C (Kd.int .u8) w A0 l0.length l0) (hc0 : l0.length ≤ c0) (h : Fbt.f l0 = some r) :
  Calls Tryz.prog 4 #[.slice A0 l0.length c0] w fun e w' => e = .returned (.bool r) ∧ Drawn0 w w' := by
 have HR0 := Aside0.mk hr0
 have HC0 := Aside0.mk hc0
 clear hr0 hc0
 have H := h
 clear h
 unfold Fbt.f at H
 obtain rfl := Option.some.inj H
 go_enter Tryz.func4, Tryz.ntmps4
 go_wp2
 go_ret
 exact ⟨by first | rfl | (simp; done) | (simp [*]; done), by repeat (first | exact Drawn0.refl _ | apply Drawn0.step)⟩
/-- A state of type 54 at block g of W; what its slices lead to came in by w0. -/
def IsS54 (w0 W : World) (g : Nat) (f0 : List Int) (f1 : Int) (f2 : Int) : Prop := ∃ A0 c0, W.heap[g]? = some (.cells #[.slice A0 f0.length c0, .int .i64 f1, .int .u64 f2] 54 (0, 0)) ∧ w0.heap.size ≤ g ∧ Kd.C (Kd.int .u8) w0 A0 f0.length f0
theorem IsS54.grown {w0 W : World} {g : Nat} {f0 : List Int} {f1 : Int} {f2 : Int} {W1 : World} {row : Option Nat} (h : IsS54 w0 W g f0 f1 f2) (hw : W.grownBy W1 row) (hne : some g ≠ row) : IsS54 w0 W1 g f0 f1 f2 := by
  obtain ⟨A0, c0, hb, hg, hr0⟩ := h
  exact ⟨A0, c0, blk_grown hb hw hne, hg, hr0⟩
theorem IsS54.own_neN {w0 W : World} {g : Nat} {f0 : List Int} {f1 : Int} {f2 : Int} {α : Type} {d : Kd α} {e : Nat} {base : Nat} {ok : Nat → Prop} {v : Value} {xs : List α} (h : IsS54 w0 W g f0 f1 f2) (ho : Kd.N d e W base ok v xs) (ht : e ≠ 54) : some g ≠ v.ownBlock := by
  obtain ⟨A0, c0, hb, hg, hr0⟩ := h
  exact Kd.N_ne ho hb ht
theorem IsS54.fresh {w0 W : World} {g : Nat} {f0 : List Int} {f1 : Int} {f2 : Int} (h : IsS54 w0 W g f0 f1 f2) : ∀ k, W.heap.size ≤ k → k ≠ g := by
  obtain ⟨A0, c0, hb, hg, hr0⟩ := h
  exact Kd.freshB hb
theorem IsS54.kept {w0 W : World} {g : Nat} {f0 : List Int} {f1 : Int} {f2 : Int} {W1 : World} {S : Nat → Prop} (h : IsS54 w0 W g f0 f1 f2) (hk : Kept W W1 S) (hne : ¬ S g) : IsS54 w0 W1 g f0 f1 f2 := by
  obtain ⟨A0, c0, hb, hg, hr0⟩ := h
  exact ⟨A0, c0, blk_kept hb hk hne, hg, hr0⟩
theorem IsS54.below {w0 W : World} {g : Nat} {f0 : List Int} {f1 : Int} {f2 : Int} {W1 : World} (h : IsS54 w0 W g f0 f1 f2) (hw : Below W.heap.size W W1) : IsS54 w0 W1 g f0 f1 f2 := h.grown (grown_of_below hw none) (by simp)
theorem IsS54.alloc {w0 W : World} {g : Nat} {f0 : List Int} {f1 : Int} {f2 : Int} (h : IsS54 w0 W g f0 f1 f2) (o : Obj) : IsS54 w0 (W.alloc o) g f0 f1 f2 := h.below (below_alloc (Below.refl _ _) o)
theorem IsS54.drewN {w0 W : World} {g : Nat} {f0 : List Int} {f1 : Int} {f2 : Int} (h : IsS54 w0 W g f0 f1 f2) (m : Nat) : IsS54 w0 (W.drewN m) g f0 f1 f2 := h
theorem IsS54.drew {w0 W : World} {g : Nat} {f0 : List Int} {f1 : Int} {f2 : Int} (h : IsS54 w0 W g f0 f1 f2) : IsS54 w0 W.drew g f0 f1 f2 := h
theorem IsS54.at_ {w0 W : World} {g : Nat} {f0 : List Int} {f1 : Int} {f2 : Int} {w' : World} {m : Nat} (hq : W.drewN m = w') (h : IsS54 w0 W g f0 f1 f2) : IsS54 w0 w' g f0 f1 f2 := by subst hq; exact IsS54.drewN h m
theorem IsS54.apart {w0 W : World} {g : Nat} {f0 : List Int} {f1 : Int} {f2 : Int} {α : Type} {d : Kd α} {e : Nat} {base : Nat} {ok : Nat → Prop} {v : Value} {xs : List α} (h : IsS54 w0 W g f0 f1 f2) (ho : d.R e W base ok v xs) (ht : ∀ q, q ∈ e :: d.E → q ≠ 54) : d.R e W base (fun k => ok k ∧ k ≠ g) v xs := by
  obtain ⟨A0, c0, hb, hg, hr0⟩ := h
  exact Kd.R_types ho hb ht
theorem IsS54.own_ne {w0 W : World} {g : Nat} {f0 : List Int} {f1 : Int} {f2 : Int} {α : Type} {d : Kd α} {e : Nat} {base : Nat} {ok : Nat → Prop} {v : Value} {xs : List α} (h : IsS54 w0 W g f0 f1 f2) (ho : d.R e W base ok v xs) (ht : e ≠ 54) : some g ≠ v.ownBlock := by
  obtain ⟨A0, c0, hb, hg, hr0⟩ := h
  exact Kd.R_ne ho hb ht
theorem IsS54.apartQ {w0 W : World} {g : Nat} {f0 : List Int} {f1 : Int} {f2 : Int} {α : Type} {d : Kd α} {e : Nat} {base : Nat} {ok : Nat → Prop} {v : Value} {xs : List α} (h : IsS54 w0 W g f0 f1 f2) (ho : d.Q e W base ok v xs) (ht : ∀ q, q ∈ e :: d.E → q ≠ 54) : d.Q e W base (fun k => ok k ∧ k ≠ g) v xs := by
  obtain ⟨A0, c0, hb, hg, hr0⟩ := h
  exact Kd.Q_types ho hb ht
theorem IsS54.own_neQ {w0 W : World} {g : Nat} {f0 : List Int} {f1 : Int} {f2 : Int} {α : Type} {d : Kd α} {e : Nat} {base : Nat} {ok : Nat → Prop} {v : Value} {xs : List α} (h : IsS54 w0 W g f0 f1 f2) (ho : d.Q e W base ok v xs) (ht : e ≠ 54) : some g ≠ v.ownBlock := by
  obtain ⟨A0, c0, hb, hg, hr0⟩ := h
  exact Kd.Q_ne ho hb ht
theorem IsS54.apartS {w0 W : World} {g : Nat} {f0 : List Int} {f1 : Int} {f2 : Int} {α : Type} {d : Kd α} {e : Nat} {base : Nat} {ok : Nat → Prop} {v : Value} {xs : List α} (h : IsS54 w0 W g f0 f1 f2) (ho : d.S e W base ok v xs) (ht : ∀ q, q ∈ e :: d.E → q ≠ 54) : d.S e W base (fun k => ok k ∧ k ≠ g) v xs := by
  obtain ⟨A0, c0, hb, hg, hr0⟩ := h
  exact Kd.S_types ho hb ht
theorem IsS54.own_neS {w0 W : World} {g : Nat} {f0 : List Int} {f1 : Int} {f2 : Int} {α : Type} {d : Kd α} {e : Nat} {base : Nat} {ok : Nat → Prop} {v : Value} {xs : List α} (h : IsS54 w0 W g f0 f1 f2) (ho : d.S e W base ok v xs) (ht : e ≠ 54) : some g ≠ v.ownBlock := by
  obtain ⟨A0, c0, hb, hg, hr0⟩ := h
  exact Kd.S_ne ho hb ht
theorem IsS54.lt {w0 W : World} {g : Nat} {f0 : List Int} {f1 : Int} {f2 : Int} (h : IsS54 w0 W g f0 f1 f2) : g < W.heap.size := by
  obtain ⟨A0, c0, hb, hg, hr0⟩ := h
  exact blk_lt hb
theorem IsS54.ge {w0 W : World} {g : Nat} {f0 : List Int} {f1 : Int} {f2 : Int} (h : IsS54 w0 W g f0 f1 f2) : w0.heap.size ≤ g := by
  obtain ⟨A0, c0, hb, hg, hr0⟩ := h
  exact hg
theorem IsS54.ne_blk {w0 W : World} {g : Nat} {f0 : List Int} {f1 : Int} {f2 : Int} {a : Nat} {cs : Array Value} {t : TypeId} {fr : Nat × Nat} (h : IsS54 w0 W g f0 f1 f2) (hb2 : W.heap[a]? = some (.cells cs t fr)) (ht : t ≠ 54) : g ≠ a := by
  obtain ⟨A0, c0, hb, hg, hr0⟩ := h
  rintro rfl
  rw [hb] at hb2
  injection hb2 with hb2
  injection hb2 with _ ht2
  exact ht ht2.symm
theorem IsS54.far {w0 W : World} {g : Nat} {f0 : List Int} {f1 : Int} {f2 : Int} {p : Addr} (h : IsS54 w0 W g f0 f1 f2) (hne : g ≠ p.block) (u : Value) : IsS54 w0 (W.setCell p u) g f0 f1 f2 := by
  obtain ⟨A0, c0, hb, hg, hr0⟩ := h
  exact ⟨A0, c0, blk_far hb hne u, hg, hr0⟩
theorem cellS54_0 {W : World} {g : Nat} {A0 : Option Addr} {c0 : Nat} {f0 : List Int} {f1 : Int} {f2 : Int} (h : W.heap[g]? = some (.cells #[.slice A0 f0.length c0, .int .i64 f1, .int .u64 f2] 54 (0, 0))) : W.cell? ⟨g, 0, none⟩ = some (.slice A0 f0.length c0) := (blk_cell h 0).trans rfl
theorem cellS54_1 {W : World} {g : Nat} {A0 : Option Addr} {c0 : Nat} {f0 : List Int} {f1 : Int} {f2 : Int} (h : W.heap[g]? = some (.cells #[.slice A0 f0.length c0, .int .i64 f1, .int .u64 f2] 54 (0, 0))) : W.cell? ⟨g, 1, none⟩ = some (.int .i64 f1) := (blk_cell h 1).trans rfl
theorem IsS54.set_1 {w0 W : World} {g : Nat} {f0 : List Int} {f1 : Int} {f2 : Int} (h : IsS54 w0 W g f0 f1 f2) (x : Int) : IsS54 w0 (W.setCell ⟨g, 1, none⟩ (.int .i64 x)) g f0 x f2 := by
  obtain ⟨A0, c0, hb, hg, hr0⟩ := h
  exact ⟨A0, c0, by simpa using blk_set hb 1 (.int .i64 x), hg, hr0⟩
theorem cellS54_2 {W : World} {g : Nat} {A0 : Option Addr} {c0 : Nat} {f0 : List Int} {f1 : Int} {f2 : Int} (h : W.heap[g]? = some (.cells #[.slice A0 f0.length c0, .int .i64 f1, .int .u64 f2] 54 (0, 0))) : W.cell? ⟨g, 2, none⟩ = some (.int .u64 f2) := (blk_cell h 2).trans rfl
theorem IsS54.set_2 {w0 W : World} {g : Nat} {f0 : List Int} {f1 : Int} {f2 : Int} (h : IsS54 w0 W g f0 f1 f2) (x : Int) : IsS54 w0 (W.setCell ⟨g, 2, none⟩ (.int .u64 x)) g f0 f1 x := by
  obtain ⟨A0, c0, hb, hg, hr0⟩ := h
  exact ⟨A0, c0, by simpa using blk_set hb 2 (.int .u64 x), hg, hr0⟩
theorem IsS54.new (w0 W : World) (A0 : Option Addr) (c0 : Nat) (f0 : List Int) (f1 : Int) (f2 : Int) (hB : Below w0.heap.size w0 W) (hr0 : Kd.C (Kd.int .u8) w0 A0 f0.length f0) : IsS54 w0 (W.alloc (.cells #[.slice A0 f0.length c0, .int .i64 f1, .int .u64 f2] 54)) W.heap.size f0 f1 f2 := ⟨A0, c0, by simpa using heap_alloc_new W _, hB.size, hr0⟩

/-! ### Fbc: function 66 -/
def Fbc.f (s0_0 : List Int) (s0_1 : Int) (s0_2 : Int) : Option (Int × Int × Int) := if s0_1 < (s0_0.length : Int) then (if 0 ≤ s0_1 then (if (wrap64 (s0_1 + 1)) ≤ (s0_0.length : Int) then (some (wrap64 (rd s0_0 s0_1), wrap64 (s0_1 + 1), IntKind.u64.wrap ((IntKind.u64.wrap ((IntKind.u64.wrap (s0_2 * 6364136223846793005)) + (IntKind.u64.wrap (wrap64 (rd s0_0 s0_1))))) + 102323))) else (some (wrap64 (Go.bits .and .u64 ((IntKind.u64.wrap ((IntKind.u64.wrap ((IntKind.u64.wrap (s0_2 * 6364136223846793005)) + (IntKind.u64.wrap (wrap64 (rd s0_0 s0_1))))) + 102323)) / 1099511627776) 255), wrap64 (s0_1 + 1), IntKind.u64.wrap ((IntKind.u64.wrap ((IntKind.u64.wrap (s0_2 * 6364136223846793005)) + (IntKind.u64.wrap (wrap64 (rd s0_0 s0_1))))) + 102323)))) else (none)) else (if (wrap64 (s0_1 + 1)) ≤ (s0_0.length : Int) then (some (0, wrap64 (s0_1 + 1), IntKind.u64.wrap ((IntKind.u64.wrap ((IntKind.u64.wrap (s0_2 * 6364136223846793005)))) + 102323))) else (some (wrap64 (Go.bits .and .u64 ((IntKind.u64.wrap ((IntKind.u64.wrap ((IntKind.u64.wrap (s0_2 * 6364136223846793005)))) + 102323)) / 1099511627776) 255), wrap64 (s0_1 + 1), IntKind.u64.wrap ((IntKind.u64.wrap ((IntKind.u64.wrap (s0_2 * 6364136223846793005)))) + 102323))))
theorem Fbc.calls (g : Nat) (s0_0 : List Int) (s0_1 : Int) (s0_2 : Int) (r1 : Int) (r2 : Int) (r3 : Int) (w0 w : World) (hI : IsS54 w0 w g s0_0 s0_1 s0_2) (hB : Below w0.heap.size w0 w) (h : Fbc.f s0_0 s0_1 s0_2 = some (r1, r2, r3)) :
  Calls Tryz.prog 66 #[.pointer (some ⟨g, 0, none⟩)] w fun e w' => e = .returned (.int .i64 r1) ∧ IsS54 w0 w' g s0_0 r2 r3 ∧ Below w0.heap.size w0 w' ∧ KeepBut w w' g none := by
 have HI0 := Aside0.mk hI
 have HK := Aside0.mk (KeepBut.refl w g none)
 have HL := Aside0.mk hB.size
 clear hI
 have HW0 := Aside0.mk hB.size
 have HB := Aside0.mk hB
 clear hB
 have H := h
 clear h
 unfold Fbc.f at H
 by_cases c2 : s0_1 < (s0_0.length : Int)
 rotate_left
 ·rw [if_neg c2] at H
  have c2b0 := decide_eq_false c2
  clear c2
  by_cases c7 : (wrap64 (s0_1 + 1)) ≤ (s0_0.length : Int)
  ·rw [if_pos c7] at H
   have c7b0 := decide_eq_true c7
   clear c7
   simp only [Option.some.injEq, Prod.mk.injEq] at H
   obtain ⟨rfl, rfl, rfl⟩ := H
   obtain ⟨ASz8_0, cSz8_0, HGz8, hgz8, HSz8_0⟩ := HI0.out
   have hcz8_0 := cellS54_0 HGz8
   have hcz8_1 := cellS54_1 HGz8
   have hcz8_2 := cellS54_2 HGz8
   have hfz8_1 := blk_frozen HGz8 1
   have hfz8_2 := blk_frozen HGz8 2
   clear HGz8 hgz8
   go_enter Tryz.func66, Tryz.ntmps66
   go_wp2
   repeat (go_quiet (fail); try go_wp2)
   go_ret
   exact ⟨Ez, by repeat (first | (with_reducible first | exact HI0.out | apply IsS54.alloc | apply IsS54.drewN | apply IsS54.drew | apply IsS54.set_1 | apply IsS54.set_2) | exact HI0.out), by repeat (first | (with_reducible first | exact HB.out | apply below_alloc | apply pw_below_drewN | apply below_drew1 | refine below_set ?_ (IsS54.ge HI0.out)) | exact HB.out), by repeat (first | (with_reducible first | exact HK.out | apply KeepBut.set_ | apply keep_drewN | apply keep_drew | apply keep_alloc) | exact HK.out)⟩
  rw [if_neg c7] at H
  have c7b0 := decide_eq_false c7
  clear c7
  simp only [Option.some.injEq, Prod.mk.injEq] at H
  obtain ⟨rfl, rfl, rfl⟩ := H
  obtain ⟨ASz9_0, cSz9_0, HGz9, hgz9, HSz9_0⟩ := HI0.out
  have hcz9_0 := cellS54_0 HGz9
  have hcz9_1 := cellS54_1 HGz9
  have hcz9_2 := cellS54_2 HGz9
  have hfz9_1 := blk_frozen HGz9 1
  have hfz9_2 := blk_frozen HGz9 2
  clear HGz9 hgz9
  go_enter Tryz.func66, Tryz.ntmps66
  go_wp2
  repeat (go_quiet (fail); try go_wp2)
  go_ret
  exact ⟨Ez, by repeat (first | (with_reducible first | exact HI0.out | apply IsS54.alloc | apply IsS54.drewN | apply IsS54.drew | apply IsS54.set_1 | apply IsS54.set_2) | exact HI0.out), by repeat (first | (with_reducible first | exact HB.out | apply below_alloc | apply pw_below_drewN | apply below_drew1 | refine below_set ?_ (IsS54.ge HI0.out)) | exact HB.out), by repeat (first | (with_reducible first | exact HK.out | apply KeepBut.set_ | apply keep_drewN | apply keep_drew | apply keep_alloc) | exact HK.out)⟩
 rw [if_pos c2] at H
 have c2b0 := decide_eq_true c2
 clear c2
 by_cases c3 : 0 ≤ s0_1
 rotate_left
 ·rw [if_neg c3] at H
  exact absurd H (by simp)
 rw [if_pos c3] at H
 have c3b0 := decide_eq_true c3
 clear c3
 by_cases c4 : (wrap64 (s0_1 + 1)) ≤ (s0_0.length : Int)
 ·rw [if_pos c4] at H
  have c4b0 := decide_eq_true c4
  clear c4
  simp only [Option.some.injEq, Prod.mk.injEq] at H
  obtain ⟨rfl, rfl, rfl⟩ := H
  obtain ⟨ASz5_0, cSz5_0, HGz5, hgz5, HSz5_0⟩ := HI0.out
  have hcz5_0 := cellS54_0 HGz5
  have hcz5_1 := cellS54_1 HGz5
  have hcz5_2 := cellS54_2 HGz5
  have hfz5_1 := blk_frozen HGz5 1
  have hfz5_2 := blk_frozen HGz5 2
  clear HGz5 hgz5
  have p101 : 0 ≤ (s0_1 : Int) := Dz
  have q1 : s0_1 < (s0_0.length : Int) := Dz
  obtain ⟨ad1, e1, hx1_0⟩ := Kd.at_int HSz5_0 s0_1 p101 q1
  cases e1
  replace hx1_0 := pw_cell_below HB.out hx1_0
  replace p101 := eq_true p101
  replace q1 := eq_true q1
  go_enter Tryz.func66, Tryz.ntmps66
  go_wp2
  repeat (go_quiet (fail); try go_wp2)
  go_ret
  exact ⟨Ez, by repeat (first | (with_reducible first | exact HI0.out | apply IsS54.alloc | apply IsS54.drewN | apply IsS54.drew | apply IsS54.set_1 | apply IsS54.set_2) | exact HI0.out), by repeat (first | (with_reducible first | exact HB.out | apply below_alloc | apply pw_below_drewN | apply below_drew1 | refine below_set ?_ (IsS54.ge HI0.out)) | exact HB.out), by repeat (first | (with_reducible first | exact HK.out | apply KeepBut.set_ | apply keep_drewN | apply keep_drew | apply keep_alloc) | exact HK.out)⟩
 rw [if_neg c4] at H
 have c4b0 := decide_eq_false c4
 clear c4
 simp only [Option.some.injEq, Prod.mk.injEq] at H
 obtain ⟨rfl, rfl, rfl⟩ := H
 obtain ⟨ASz6_0, cSz6_0, HGz6, hgz6, HSz6_0⟩ := HI0.out
 have hcz6_0 := cellS54_0 HGz6
 have hcz6_1 := cellS54_1 HGz6
 have hcz6_2 := cellS54_2 HGz6
 have hfz6_1 := blk_frozen HGz6 1
 have hfz6_2 := blk_frozen HGz6 2
 clear HGz6 hgz6
 have p101 : 0 ≤ (s0_1 : Int) := Dz
 have q1 : s0_1 < (s0_0.length : Int) := Dz
 obtain ⟨ad1, e1, hx1_0⟩ := Kd.at_int HSz6_0 s0_1 p101 q1
 cases e1
 replace hx1_0 := pw_cell_below HB.out hx1_0
 replace p101 := eq_true p101
 replace q1 := eq_true q1
 go_enter Tryz.func66, Tryz.ntmps66
 go_wp2
 repeat (go_quiet (fail); try go_wp2)
 go_ret
 exact ⟨Ez, by repeat (first | (with_reducible first | exact HI0.out | apply IsS54.alloc | apply IsS54.drewN | apply IsS54.drew | apply IsS54.set_1 | apply IsS54.set_2) | exact HI0.out), by repeat (first | (with_reducible first | exact HB.out | apply below_alloc | apply pw_below_drewN | apply below_drew1 | refine below_set ?_ (IsS54.ge HI0.out)) | exact HB.out), by repeat (first | (with_reducible first | exact HK.out | apply KeepBut.set_ | apply keep_drewN | apply keep_drew | apply keep_alloc) | exact HK.out)⟩
/-! ### Faf: function 48 -/
def Faf.f (s0_0 : List Int) (s0_1 : Int) (s0_2 : Int) (a1 : Int) : Option (Int × Int × Int) := if a1 ≤ 1 then (some (0, s0_1, s0_2)) else ((Fbc.f s0_0 s0_1 s0_2).bind fun bt101 => (if a1 > 200 then ((Fbc.f s0_0 bt101.2.1 bt101.2.2).bind fun bt104 => (if a1 = 0 then (none) else (some (Int.tmod (wrap64 ((wrap64 (bt101.1 * 256)) + bt104.1)) a1, bt104.2.1, bt104.2.2)))) else (if a1 = 0 then (none) else (some (Int.tmod bt101.1 a1, bt101.2.1, bt101.2.2)))))
theorem Faf.calls (g : Nat) (s0_0 : List Int) (s0_1 : Int) (s0_2 : Int) (a1 : Int) (r1 : Int) (r2 : Int) (r3 : Int) (w0 w : World) (hI : IsS54 w0 w g s0_0 s0_1 s0_2) (hB : Below w0.heap.size w0 w) (h : Faf.f s0_0 s0_1 s0_2 a1 = some (r1, r2, r3)) :
  Calls Tryz.prog 48 #[.pointer (some ⟨g, 0, none⟩), .int .i64 a1] w fun e w' => e = .returned (.int .i64 r1) ∧ IsS54 w0 w' g s0_0 r2 r3 ∧ Below w0.heap.size w0 w' ∧ KeepBut w w' g none := by
 have HI0 := Aside0.mk hI
 have HK := Aside0.mk (KeepBut.refl w g none)
 have HL := Aside0.mk hB.size
 clear hI
 have HW0 := Aside0.mk hB.size
 have HB := Aside0.mk hB
 clear hB
 have H := h
 clear h
 unfold Faf.f at H
 by_cases c3 : a1 ≤ 1
 ·rw [if_pos c3] at H
  have c3b0 := decide_eq_true c3
  clear c3
  simp only [Option.some.injEq, Prod.mk.injEq] at H
  obtain ⟨rfl, rfl, rfl⟩ := H
  go_enter Tryz.func48, Tryz.ntmps48
  go_wp2
  go_ret
  exact ⟨Ez, by exact IsS54.below HI0.out Ho.Steps.below, by exact eS HB.out, by exact Ho.kS HK.out⟩
 ·rw [if_neg c3] at H
  have c3b0 := decide_eq_false c3
  clear c3
  obtain ⟨⟨t1, t2, t3⟩, A4, H⟩ := bn H
  (try dsimp only at H)
  by_cases c5 : a1 > 200
  ·rw [if_pos c5] at H
   have c5b0 := decide_eq_true c5
   clear c5
   obtain ⟨⟨t4, t5, t6⟩, A6, H⟩ := bn H
   (try dsimp only at H)
   by_cases c7 : a1 = 0
   ·rw [if_pos c7] at H
    exact absurd H (by simp)
   ·rw [if_neg c7] at H
    have c7b0 := beq_eq_false_iff_ne.mpr c7
    have c7b1 := bne_iff_ne.mpr c7
    simp only [Option.some.injEq, Prod.mk.injEq] at H
    obtain ⟨rfl, rfl, rfl⟩ := H
    go_enter Tryz.func48, Tryz.ntmps48
    go_wp2_with (first | (refine cE (some 9) Tryz.func66 #[.pointer (some ⟨g, 0, none⟩)] ?_; (with_reducible refine (Fbc.calls g s0_0 s0_1 s0_2 t1 t2 t3 w0 _ ?side1 ?side2 A4.out).mono ?_); (case side1 => exact IsS54.below HI0.out Ho.Steps.below); (case side2 => exact eS HB.out); rintro e w8 ⟨rfl, hi, hb, hk⟩; refine ⟨_, rfl, ?_⟩; replace HK := hU HK hk; replace HB := Ak hb; replace HI0 := Ak hi; clear hb hk hi) | (refine cE (some 15) Tryz.func66 #[.pointer (some ⟨g, 0, none⟩)] ?_; (with_reducible refine (Fbc.calls g s0_0 t2 t3 t4 t5 t6 w0 _ ?side1 ?side2 A6.out).mono ?_); (case side1 => exact IsS54.below HI0.out Ho.Steps.below); (case side2 => exact eS HB.out); rintro e w9 ⟨rfl, hi, hb, hk⟩; refine ⟨_, rfl, ?_⟩; replace HK := hU HK hk; replace HB := Ak hb; replace HI0 := Ak hi; clear hb hk hi))
    go_ret
    exact ⟨Ez, by exact IsS54.below HI0.out Ho.Steps.below, by exact eS HB.out, by exact Ho.kS HK.out⟩
  ·rw [if_neg c5] at H
   have c5b0 := decide_eq_false c5
   clear c5
   by_cases c10 : a1 = 0
   ·rw [if_pos c10] at H
    exact absurd H (by simp)
   ·rw [if_neg c10] at H
    have c10b0 := beq_eq_false_iff_ne.mpr c10
    have c10b1 := bne_iff_ne.mpr c10
    simp only [Option.some.injEq, Prod.mk.injEq] at H
    obtain ⟨rfl, rfl, rfl⟩ := H
    go_enter Tryz.func48, Tryz.ntmps48
    go_wp2_with (first | (refine cE (some 9) Tryz.func66 #[.pointer (some ⟨g, 0, none⟩)] ?_; (with_reducible refine (Fbc.calls g s0_0 s0_1 s0_2 t1 t2 t3 w0 _ ?side1 ?side2 A4.out).mono ?_); (case side1 => exact IsS54.below HI0.out Ho.Steps.below); (case side2 => exact eS HB.out); rintro e w11 ⟨rfl, hi, hb, hk⟩; refine ⟨_, rfl, ?_⟩; replace HK := hU HK hk; replace HB := Ak hb; replace HI0 := Ak hi; clear hb hk hi))
    go_ret
    exact ⟨Ez, by exact IsS54.below HI0.out Ho.Steps.below, by exact eS HB.out, by exact Ho.kS HK.out⟩
/-! ### Fm: function 49 -/
def Fm.f (s0_0 : List Int) (s0_1 : Int) (s0_2 : Int) (l1 : List Int) : Option (Int × Int × Int) := (Faf.f s0_0 s0_1 s0_2 (l1.length : Int)).bind fun bt101 => (if 0 ≤ bt101.1 then (if bt101.1 < (l1.length : Int) then (some (rd l1 bt101.1, bt101.2.1, bt101.2.2)) else (none)) else (none))
theorem Fm.calls (g : Nat) (s0_0 : List Int) (s0_1 : Int) (s0_2 : Int) (A1 : Option Addr) (c1 : Nat) (l1 : List Int) (r1 : Int) (r2 : Int) (r3 : Int) (w0 w : World) (hI : IsS54 w0 w g s0_0 s0_1 s0_2) (hB : Below w0.heap.size w0 w) (hr1 : Kd.C (Kd.int .i64) w A1 l1.length l1) (hc1 : l1.length ≤ c1) (hf1 : ∀ ad, A1 = some ad → 0 < l1.length → ad.block ≠ g) (h : Fm.f s0_0 s0_1 s0_2 l1 = some (r1, r2, r3)) :
  Calls Tryz.prog 49 #[.pointer (some ⟨g, 0, none⟩), .slice A1 l1.length c1] w fun e w' => e = .returned (.int .i64 r1) ∧ IsS54 w0 w' g s0_0 r2 r3 ∧ Below w0.heap.size w0 w' ∧ KeepBut w w' g none := by
 have HR1 := Aside0.mk hr1
 have HC1 := Aside0.mk hc1
 clear hr1 hc1
 have HI0 := Aside0.mk hI
 have HK := Aside0.mk (KeepBut.refl w g none)
 have HL := Aside0.mk hB.size
 clear hI
 have HW0 := Aside0.mk hB.size
 have HB := Aside0.mk hB
 clear hB
 have H := h
 clear h
 unfold Fm.f at H
 obtain ⟨⟨t1, t2, t3⟩, A3, H⟩ := bn H
 (try dsimp only at H)
 by_cases c4 : 0 ≤ t1
 ·rw [if_pos c4] at H
  have c4b0 := decide_eq_true c4
  clear c4
  by_cases c5 : t1 < (l1.length : Int)
  ·rw [if_pos c5] at H
   have c5b0 := decide_eq_true c5
   clear c5
   simp only [Option.some.injEq, Prod.mk.injEq] at H
   obtain ⟨rfl, rfl, rfl⟩ := H
   go_enter Tryz.func49, Tryz.ntmps49
   go_wp2_with (first | (refine cE (some 9) Tryz.func48 #[.pointer (some ⟨g, 0, none⟩), .int .i64 (l1.length : Int)] ?_; (with_reducible refine (Faf.calls g s0_0 s0_1 s0_2 (l1.length : Int) t1 t2 t3 w0 _ ?side1 ?side2 A3.out).mono ?_); (case side1 => exact IsS54.below HI0.out Ho.Steps.below); (case side2 => exact eS HB.out); rintro e w6 ⟨rfl, hi, hb, hk⟩; refine ⟨_, rfl, ?_⟩; replace HK := hU HK hk; replace HB := Ak hb; replace HI0 := Ak hi; clear hb hk hi; have p104 : 0 ≤ (t1 : Int) := Dz; have q4 : t1 < (l1.length : Int) := Dz; obtain ⟨ad4, e4, hx4_0⟩ := Kd.at_int HR1.out t1 p104 q4; cases e4; replace hx4_0 := keep_cell HK.out hx4_0 (by first | (rw [add_block]; exact hf1 _ rfl (by omega)) | exact hf1 _ rfl (by omega) | exact hf1 ad4 rfl (by omega)); replace p104 := eq_true p104; replace q4 := eq_true q4))
   go_ret
   exact ⟨Ez, by exact IsS54.below HI0.out Ho.Steps.below, by exact eS HB.out, by exact Ho.kS HK.out⟩
  ·rw [if_neg c5] at H
   exact absurd H (by simp)
 ·rw [if_neg c4] at H
  exact absurd H (by simp)
/-! ### Fba: function 34 -/
def Fba.f (s0_0 : List Int) (s0_1 : Int) (s0_2 : Int) : Option (Int × Int × Int) := (Fm.f s0_0 s0_1 s0_2 (([0, 0, 1, 1, 2, 3, 5, 6, (-1)] : List Int))).bind fun bt104 => (some (bt104.1, bt104.2.1, bt104.2.2))
theorem Fba.calls (g : Nat) (s0_0 : List Int) (s0_1 : Int) (s0_2 : Int) (r1 : Int) (r2 : Int) (r3 : Int) (w0 w : World) (hI : IsS54 w0 w g s0_0 s0_1 s0_2) (hB : Below w0.heap.size w0 w) (h : Fba.f s0_0 s0_1 s0_2 = some (r1, r2, r3)) :
  Calls Tryz.prog 34 #[.pointer (some ⟨g, 0, none⟩)] w fun e w' => e = .returned (.int .i64 r1) ∧ IsS54 w0 w' g s0_0 r2 r3 ∧ Below w0.heap.size w0 w' ∧ KeepBut w w' g none := by
 have HI0 := Aside0.mk hI
 have HK := Aside0.mk (KeepBut.refl w g none)
 have HL := Aside0.mk hB.size
 clear hI
 have HW0 := Aside0.mk hB.size
 have HB := Aside0.mk hB
 clear hB
 have H := h
 clear h
 unfold Fba.f at H
 obtain ⟨y1, hy1⟩ : ∃ y_ : List Int, y_ = (([0, 0, 1, 1, 2, 3, 5, 6, (-1)] : List Int)) := ⟨_, rfl⟩
 replace H : ((Fm.f s0_0 s0_1 s0_2 y1).bind fun bt104 => (some (bt104.1, bt104.2.1, bt104.2.2))) = some (r1, r2, r3) := by first | (rw [hy1]; with_reducible exact H) | (have H2_ := (Option.bind_some _ _).symm.trans H; rw [hy1]; with_reducible exact H2_) | (have H2_ := (Option.bind_some _ _).symm.trans H; with_reducible exact H2_) | with_reducible exact H | (rw [hy1]; exact H) | exact H
 have Ny1 := Aside0.mk hy1
 clear hy1
 obtain ⟨⟨t4, t5, t6⟩, A2, H⟩ := bn H
 (try dsimp only at H)
 simp only [Option.some.injEq, Prod.mk.injEq] at H
 obtain ⟨rfl, rfl, rfl⟩ := H
 go_enter Tryz.func34, Tryz.ntmps34
 go_wp2_with (first | ((with_reducible refine gate_dst (N := 4) rfl ?_); refine Kd.R_lit (Kd.int .i64) _ 3 ?hg (N := 4) ?hd (xs := ([0, 0, 1, 1, 2, 3, 5, 6, (-1)] : List Int)) (inner := [.int .i64 0, .int .i64 0, .int .i64 1, .int .i64 1, .int .i64 2, .int .i64 3, .int .i64 5, .int .i64 6, .int .i64 (-1)]) (ok := fun _ => True) (okp := fun _ => True) ?hr ?hp (fun _ hk => hk) trivial (Below.refl _ _) (Nat.le_refl _) (by simp) ?_; (case hd => rfl); (case hg => rfl); (case hr => first | (go_simp; done) | (go_simp; rfl)); (case hp => exact Rz); intro v2 w3 ho4 hb hg_ hnew_; clear hg_ hnew_; (first | rw [← Ny1.out] at ho4 | (simp only [Int.reduceToNat] at ho4; rw [← Ny1.out] at ho4)); have R3 := Ak (Kd.R_lower ho4 (keep_size (w := w) (g := g) (row := none) (by exact Ho.kS HK.out))); replace HI0 := Ak (IsS54.below (by exact IsS54.below HI0.out Ho.Steps.below) hb); replace HK := hT HK hb; replace HB := bT HB hb; clear hb ho4; obtain ⟨Ao5, co5, eo5⟩ := Kd.R_slice R3.out; subst eo5) | (refine cE (some 5) Tryz.func49 #[.pointer (some ⟨g, 0, none⟩), .slice Ao5 y1.length co5] ?_; (with_reducible refine (Fm.calls g s0_0 s0_1 s0_2 _ _ y1 t4 t5 t6 w0 _ ?side1 ?side2 ?side3 ?side4 ?side5 A2.out).mono ?_); (case side1 => exact IsS54.below HI0.out Ho.Steps.below); (case side2 => exact eS HB.out); (case side3 => exact Cs (Kd.R_reads' R3.out).2.2); (case side4 => exact (Kd.R_reads' R3.out).2.1); (case side5 => exact far_slice (IsS54.own_ne HI0.out R3.out (by decide))); rintro e w6 ⟨rfl, hi, hb, hk⟩; refine ⟨_, rfl, ?_⟩; replace R3 := Ak (Kd.R_mono (Kd.R_keep (IsS54.apart (show IsS54 w0 _ g s0_0 s0_1 s0_2 from by exact IsS54.below HI0.out Ho.Steps.below) (by exact Ho.RS <| R3.out) (by decide)) hk (fun _ h => h.2)) (fun _ h => h.1)); replace HK := hU HK hk; replace HB := Ak hb; replace HI0 := Ak hi; clear hb hk hi))
 go_ret
 exact ⟨Ez, by exact IsS54.below HI0.out Ho.Steps.below, by exact eS HB.out, by exact Ho.kS HK.out⟩
/-! ### Fai: function 55 -/
def Fai.f (a0 : Int) (a1 : Int) (a2 : Int) : Option (Bool) := if a0 ≥ a1 then (some (decide (a0 ≤ a2))) else (some false)
theorem Fai.calls (a0 : Int) (a1 : Int) (a2 : Int) (r : Bool) (w : World) (h : Fai.f a0 a1 a2 = some r) :
  Calls Tryz.prog 55 #[.int .i64 a0, .int .i64 a1, .int .i64 a2] w fun e w' => e = .returned (.bool r) ∧ Drawn0 w w' := by
 have H := h
 clear h
 unfold Fai.f at H
 by_cases c4 : a0 ≥ a1
 ·rw [if_pos c4] at H
  have c4b0 := decide_eq_true c4
  clear c4
  obtain rfl := Option.some.inj H
  go_enter Tryz.func55, Tryz.ntmps55
  go_wp2
  go_ret
  exact ⟨by first | rfl | (simp; done) | (simp [*]; done), by repeat (first | exact Drawn0.refl _ | apply Drawn0.step)⟩
 ·rw [if_neg c4] at H
  have c4b0 := decide_eq_false c4
  clear c4
  obtain rfl := Option.some.inj H
  go_enter Tryz.func55, Tryz.ntmps55
  go_wp2
  go_ret
  exact ⟨by first | rfl | (simp; done) | (simp [*]; done), by repeat (first | exact Drawn0.refl _ | apply Drawn0.step)⟩
section
attribute [local go_sem ↓] Ho.isSome_setCell_
/-! ### Fbd: function 57 -/
def Fbd.f (a0 : Int) : Option ((List (S33)) × Int × Int × Int × Int × Bool) := (Fai.f a0 1 999).bind fun t102 => (if t102 = true then (some ((([] : List (S33))), a0, 0, 0, 0, true)) else (some (([] : List (S33)), 0, 0, 0, 0, false)))
theorem Fbd.calls (a0 : Int) (r1 : List (S33)) (r2 : Int) (r3 : Int) (r4 : Int) (r5 : Int) (r6 : Bool) (w : World) (h : Fbd.f a0 = some (r1, r2, r3, r4, r5, r6)) :
  Calls Tryz.prog 57 #[.int .i64 a0] w fun e w' => ∃ v0_ : Value, e = .returned (.tuple #[.agg #[v0_, .int .i64 r2, .int .i64 r3, .int .i64 r4, .int .i64 r5], .bool r6]) ∧ Kd.R k33 33 w' w.heap.size (fun _ => True) v0_ r1 ∧ Below w.heap.size w w' := by
 have hu26 := Tryz.underlying26
 have HB := Aside0.mk (Below.refl w.heap.size w)
 have H := h
 clear h
 unfold Fbd.f at H
 obtain ⟨t2, A2, H⟩ := bn H
 (try dsimp only at H)
 by_cases c3 : t2 = true
 subst c3
 rw [if_pos rfl] at H
 obtain ⟨y3, hy3⟩ : ∃ y_ : List (S33), y_ = (([] : List (S33))) := ⟨_, rfl⟩
 replace H : (some (y3, a0, 0, 0, 0, true)) = some (r1, r2, r3, r4, r5, r6) := by first | (rw [hy3]; with_reducible exact H) | (have H2_ := (Option.bind_some _ _).symm.trans H; rw [hy3]; with_reducible exact H2_) | (have H2_ := (Option.bind_some _ _).symm.trans H; with_reducible exact H2_) | with_reducible exact H | (rw [hy3]; exact H) | exact H
 have Ny3 := Aside0.mk hy3
 clear hy3
 simp only [Option.some.injEq, Prod.mk.injEq] at H
 obtain ⟨rfl, rfl, rfl, rfl, rfl, rfl⟩ := H
 have WAY0 := True.intro
 rotate_left
 replace c3 := Bool.eq_false_iff.mpr c3
 subst c3
 rw [if_neg (show ¬ (false = true) by decide)] at H
 simp only [Option.some.injEq, Prod.mk.injEq] at H
 obtain ⟨rfl, rfl, rfl, rfl, rfl, rfl⟩ := H
 have WAY1 := True.intro
 rotate_left
 all_goals
  go_enter Tryz.func57, Tryz.ntmps57
  go_wp2_with (first | (refine bE 2 26 #[.slice none 0 0, .int .i64 0, .int .i64 0, .int .i64 0, .int .i64 0] ?_; intro g1 hg w4 B1 hb; have E1 := gW HB hg; replace HB := bT HB hb; clear hb hg) | ((guard_hyp WAY0 : True); (refine cE (some 5) Tryz.func55 #[.int .i64 a0, .int .i64 1, .int .i64 999] ?_; (with_reducible refine (Fai.calls a0 1 999 true _ A2.out).mono ?_); rintro e w' ⟨rfl, ⟨nd, rfl⟩⟩; refine ⟨_, rfl, ?_⟩; (try (rw [drewN_self w4]; generalize hq_ : World.drewN w4 _ = w4; have n0_ : Aside0 (w4.heap[g1]? = some (.cells #[.slice none 0 0, .int .i64 0, .int .i64 0, .int .i64 0, .int .i64 0] 26 (0, 0))) := ⟨by rw [← hq_]; exact (by exact bS B1.out)⟩; have n1_ : Aside0 (Below w.heap.size w w4) := ⟨by rw [← hq_]; exact (by exact eS HB.out)⟩; clear B1 HB hq_; have B1 := n0_; have HB := n1_; clear n0_ n1_)))) | ((guard_hyp WAY0 : True); ((with_reducible refine gate_dst (N := 8) rfl ?_); refine Kd.R_lit k33 _ 33 ?hg (N := 8) ?hd (xs := ([] : List (S33))) (inner := []) (ok := fun _ => True) (okp := fun _ => True) ?hr ?hp (fun _ hk => hk) trivial (Below.refl _ _) (Nat.le_refl _) (by simp) ?_; (case hd => rfl); (case hg => rfl); (case hr => first | (go_simp; done) | (go_simp; rfl)); (case hp => exact (Reps.none _ _)); intro v4 w5 ho6 hb hg_ hnew_; clear hg_ hnew_; (first | rw [← Ny3.out] at ho6 | (simp only [Int.reduceToNat] at ho6; rw [← Ny3.out] at ho6)); have R5 := lw HB ho6; replace B1 := kT B1 hb; replace HB := bT HB hb; clear hb ho6; obtain ⟨Ao7, co7, eo7⟩ := Kd.R_slice R5.out; subst eo7; have hz8 := Sq.c5 B1.out)) | ((guard_hyp WAY1 : True); (refine cE (some 5) Tryz.func55 #[.int .i64 a0, .int .i64 1, .int .i64 999] ?_; (with_reducible refine (Fai.calls a0 1 999 false _ A2.out).mono ?_); rintro e w' ⟨rfl, ⟨nd, rfl⟩⟩; refine ⟨_, rfl, ?_⟩; (try (rw [drewN_self w4]; generalize hq_ : World.drewN w4 _ = w4; have n0_ : Aside0 (w4.heap[g1]? = some (.cells #[.slice none 0 0, .int .i64 0, .int .i64 0, .int .i64 0, .int .i64 0] 26 (0, 0))) := ⟨by rw [← hq_]; exact (by exact bS B1.out)⟩; have n1_ : Aside0 (Below w.heap.size w w4) := ⟨by rw [← hq_]; exact (by exact eS HB.out)⟩; clear B1 HB hq_; have B1 := n0_; have HB := n1_; clear n0_ n1_)); have hz10 := Sq.c5 B1.out)))
 ·refine bodyPost_ret (results_ct rfl _ _ g1 26 #[.slice Ao7 y3.length co7, .int .i64 a0, .int .i64 0, .int .i64 0, .int .i64 0] (0, 0) _ rfl (by apply Sq.put5; exact bS B1.out) Tryz.underlying26 rfl (by kernel_rfl)) rfl ?_
  exact ⟨_, Ez, rY5 R5 B1 (fun _ hk => trivial), Bq⟩
 ·refine bodyPost_ret (results_ct rfl _ _ g1 26 #[.slice none 0 0, .int .i64 0, .int .i64 0, .int .i64 0, .int .i64 0] (0, 0) _ rfl (by apply Sq.put5; exact bS B1.out) Tryz.underlying26 rfl (by kernel_rfl)) rfl ?_
  exact ⟨_, Ez, by first | exact Kd.R_nil _ _ _ _ _ | exact Kd.N_nil _ _ _ _ _ | exact Kd.V_nil _ _ _ _ _ | exact Kd.Q_nil _ _ _ _ _ | exact Kd.S_nil _ _ _ _ _, Bq⟩
end
/-! ### Fal: function 26 -/
def Fal.f (a0 : Int) : Option (Bool) := (Fai.f a0 1 100000).bind fun t101 => (some t101)
theorem Fal.calls (a0 : Int) (r : Bool) (w : World) (h : Fal.f a0 = some r) :
  Calls Tryz.prog 26 #[.int .i64 a0] w fun e w' => e = .returned (.bool r) ∧ Drawn0 w w' := by
 have H := h
 clear h
 unfold Fal.f at H
 obtain ⟨t1, A2, H⟩ := bn H
 (try dsimp only at H)
 obtain rfl := Option.some.inj H
 go_enter Tryz.func26, Tryz.ntmps26
 go_wp2_with (first | (refine cE (some 4) Tryz.func55 #[.int .i64 a0, .int .i64 1, .int .i64 100000] ?_; (with_reducible refine (Fai.calls a0 1 100000 t1 _ A2.out).mono ?_); rintro e w' ⟨rfl, ⟨nd, rfl⟩⟩; refine ⟨_, rfl, ?_⟩))
 go_ret
 exact ⟨by first | rfl | (simp; done) | (simp [*]; done), by repeat (first | exact Drawn0.refl _ | apply Drawn0.step)⟩
section
attribute [local go_sem ↓] Ho.isSome_setCell_
/-! ### Fac: function 35 -/
def Fac.l0 : Nat → Int → Int → Int → List (S33) → Int → Int → Int → Int → Option (Int)
  | 0, _, _, _, _, _, _, _, _ => none
  | k + 1, x1, x5, x6, x102000, x102001, x102002, x102003, x102004 => if x6 < (x102000.length : Int) then (if x1 = (-1) then (if 0 ≤ x6 then (Fac.l0 k x1 (wrap64 (x5 + ((rd_T33 x102000 x6).f2))) (wrap64 (x6 + 1)) x102000 x102001 x102002 x102003 x102004) else (none)) else (if 0 ≤ x6 then (if ((rd_T33 x102000 x6).f1) = x1 then (Fac.l0 k x1 (wrap64 (x5 + ((rd_T33 x102000 x6).f2))) (wrap64 (x6 + 1)) x102000 x102001 x102002 x102003 x102004) else (Fac.l0 k x1 x5 (wrap64 (x6 + 1)) x102000 x102001 x102002 x102003 x102004)) else (none))) else (some x5)
def Fac.f (k : Nat) (l0_0 : List (S33)) (a0_1 : Int) (a0_2 : Int) (a0_3 : Int) (a0_4 : Int) (a1 : Int) : Option (Int) := Fac.l0 k a1 0 0 l0_0 a0_1 a0_2 a0_3 a0_4
theorem Fac.mono_l : ∀ k, (∀ y0 y1 y2 y3 y4 y5 y6 y7, LeO (Fac.l0 k y0 y1 y2 y3 y4 y5 y6 y7) (Fac.l0 (k + 1) y0 y1 y2 y3 y4 y5 y6 y7))
  | 0 => fun _ _ _ _ _ _ _ _ r h => by simp [Fac.l0] at h
  | k + 1 => by
    have ih0 := Fac.mono_l k
    · intro y0 y1 y2 y3 y4 y5 y6 y7
      unfold Fac.l0
      repeat' (with_reducible first | exact ih0 _ _ _ _ _ _ _ _ | exact LeO.refl _ | exact LeO.none _ | refine LeO.ite ?_ ?_ | refine LeO.bind ?_ (fun _ => ?_))
theorem Fac.mono : ∀ a0 a1 a2 a3 a4 a5 k, LeO (Fac.f k a0 a1 a2 a3 a4 a5) (Fac.f (k + 1) a0 a1 a2 a3 a4 a5) := by
  intro a0 a1 a2 a3 a4 a5 k
  have ih0 := Fac.mono_l k
  unfold Fac.f
  repeat' (with_reducible first | exact ih0 _ _ _ _ _ _ _ _ | exact LeO.refl _ | exact LeO.none _ | refine LeO.ite ?_ ?_ | refine LeO.bind ?_ (fun _ => ?_))
theorem Fac.calls (k : Nat) (A0_0 : Option Addr) (c0_0 : Nat) (l0_0 : List (S33)) (a0_1 : Int) (a0_2 : Int) (a0_3 : Int) (a0_4 : Int) (a1 : Int) (r : Int) (w : World) (hr0_0 : Kd.C k33 w A0_0 l0_0.length l0_0) (hc0_0 : l0_0.length ≤ c0_0) (h : Fac.f k l0_0 a0_1 a0_2 a0_3 a0_4 a1 = some r) :
  Calls Tryz.prog 35 #[.agg #[.slice A0_0 l0_0.length c0_0, .int .i64 a0_1, .int .i64 a0_2, .int .i64 a0_3, .int .i64 a0_4], .int .i64 a1] w fun e w' => e = .returned (.int .i64 r) ∧ Below w.heap.size w w' := by
 have hu26 := Tryz.underlying26
 have HR0_0 := Aside0.mk hr0_0
 have HC0_0 := Aside0.mk hc0_0
 clear hr0_0 hc0_0
 have HB := Aside0.mk (Below.refl w.heap.size w)
 have H := h
 clear h
 unfold Fac.f at H
 have H' := Aside0.mk H
 clear H
 go_enter Tryz.func35, Tryz.ntmps35
 go_wp2_with (first | (refine bE 2 26 #[.slice A0_0 l0_0.length c0_0, .int .i64 a0_1, .int .i64 a0_2, .int .i64 a0_3, .int .i64 a0_4] ?_; intro g1 hg w3 B1 hb; have E1 := gW HB hg; replace HB := bT HB hb; clear hb hg))
 go_loopg [5, 6] k (fun kq v5 v6 w' => ∃ (x5_1 : Int) (x6_1 : Int), v5 = .int .i64 x5_1 ∧ v6 = .int .i64 x6_1 ∧ Aside0 (Fac.l0 kq a1 x5_1 x6_1 l0_0 a0_1 a0_2 a0_3 a0_4 = some r) ∧ Aside0 (kq ≤ k) ∧ Aside0 (w'.heap[g1]? = some (.cells #[(.slice A0_0 l0_0.length c0_0), .int .i64 a0_1, .int .i64 a0_2, .int .i64 a0_3, .int .i64 a0_4] 26 (0, 0))) ∧ Aside0 (Below w.heap.size w w'))
 case atStart => exact ⟨(0), (0), Ey, Ey, H', ⟨Nat.le_refl _⟩, ⟨ks B1⟩, ⟨es HB⟩⟩
 case round =>
  clear H'
  try clear p2
  try clear c3
  obtain ⟨x5_1, x6_1, rfl, rfl, HA, HK1, B1, HB⟩ := hrel
  cases gk with
  | zero => exact absurd HA.out (by simp [Fac.l0])
  | succ k1 =>
   have H := HA.out
   clear HA
   simp only [Fac.l0] at H
   by_cases c4 : x6_1 < (l0_0.length : Int)
   rotate_left
   ·rw [if_neg c4] at H
    have c4b0 := decide_eq_false c4
    clear c4
    obtain rfl := Option.some.inj H
    have hz12 := Sq.c5 B1.out
    go_wp2
    go_ret
    exact ⟨Ez, by exact eS HB.out⟩
   rw [if_pos c4] at H
   have c4b0 := decide_eq_true c4
   clear c4
   by_cases c5 : a1 = (-1)
   ·rw [if_pos c5] at H
    have c5b0 := beq_iff_eq.mpr c5
    have c5b1 := bne_eq_false_iff_eq.mpr c5
    clear c5
    by_cases c6 : 0 ≤ x6_1
    rotate_left
    ·rw [if_neg c6] at H
     exact absurd H (by simp)
    rw [if_pos c6] at H
    have c6b0 := decide_eq_true c6
    clear c6
    have H' := Aside0.mk H
    clear H
    have hz7 := Sq.c5 B1.out
    have p102 : 0 ≤ (x6_1 : Int) := Dz
    have q2 : x6_1 < (l0_0.length : Int) := Dz
    obtain ⟨ad2, e2, hx2_0, hx2_1, hx2_2⟩ := at_T33 HR0_0.out x6_1 p102 q2
    cases e2
    replace hx2_0 := Sq.cB HB.out hx2_0
    replace hx2_1 := Sq.cB HB.out hx2_1
    replace hx2_2 := Sq.cB HB.out hx2_2
    replace p102 := eq_true p102
    replace q2 := eq_true q2
    go_wp2
    go_roundg k1
    case measure => have := HK1.out; omega
    case rel => exact ⟨(wrap64 (x5_1 + ((rd_T33 l0_0 x6_1).f2))), (wrap64 (x6_1 + 1)), Ey, Ey, H', ⟨by have := HK1.out; omega⟩, ⟨ks B1⟩, ⟨es HB⟩⟩
   rw [if_neg c5] at H
   have c5b0 := beq_eq_false_iff_ne.mpr c5
   have c5b1 := bne_iff_ne.mpr c5
   by_cases c8 : 0 ≤ x6_1
   rotate_left
   ·rw [if_neg c8] at H
    exact absurd H (by simp)
   rw [if_pos c8] at H
   have c8b0 := decide_eq_true c8
   clear c8
   by_cases c9 : ((rd_T33 l0_0 x6_1).f1) = a1
   rotate_left
   ·rw [if_neg c9] at H
    have c9b0 := beq_eq_false_iff_ne.mpr c9
    have c9b1 := bne_iff_ne.mpr c9
    have H' := Aside0.mk H
    clear H
    have hz11 := Sq.c5 B1.out
    have p103 : 0 ≤ (x6_1 : Int) := Dz
    have q3 : x6_1 < (l0_0.length : Int) := Dz
    obtain ⟨ad3, e3, hx3_0, hx3_1, hx3_2⟩ := at_T33 HR0_0.out x6_1 p103 q3
    cases e3
    replace hx3_0 := Sq.cB HB.out hx3_0
    replace hx3_1 := Sq.cB HB.out hx3_1
    replace hx3_2 := Sq.cB HB.out hx3_2
    replace p103 := eq_true p103
    replace q3 := eq_true q3
    go_wp2
    go_roundg k1
    case measure => have := HK1.out; omega
    case rel => exact ⟨(x5_1), (wrap64 (x6_1 + 1)), Ey, Ey, H', ⟨by have := HK1.out; omega⟩, ⟨ks B1⟩, ⟨es HB⟩⟩
   rw [if_pos c9] at H
   have c9b0 := beq_iff_eq.mpr c9
   have c9b1 := bne_eq_false_iff_eq.mpr c9
   clear c9
   have H' := Aside0.mk H
   clear H
   have hz10 := Sq.c5 B1.out
   have p103 : 0 ≤ (x6_1 : Int) := Dz
   have q3 : x6_1 < (l0_0.length : Int) := Dz
   obtain ⟨ad3, e3, hx3_0, hx3_1, hx3_2⟩ := at_T33 HR0_0.out x6_1 p103 q3
   cases e3
   replace hx3_0 := Sq.cB HB.out hx3_0
   replace hx3_1 := Sq.cB HB.out hx3_1
   replace hx3_2 := Sq.cB HB.out hx3_2
   replace p103 := eq_true p103
   replace q3 := eq_true q3
   have p104 : 0 ≤ (x6_1 : Int) := Dz
   have q4 : x6_1 < (l0_0.length : Int) := Dz
   obtain ⟨ad4, e4, hx4_0, hx4_1, hx4_2⟩ := at_T33 HR0_0.out x6_1 p104 q4
   obtain rfl : ad3 = ad4 := (by injection e4)
   replace hx4_0 := Sq.cB HB.out hx4_0
   replace hx4_1 := Sq.cB HB.out hx4_1
   replace hx4_2 := Sq.cB HB.out hx4_2
   replace p104 := eq_true p104
   replace q4 := eq_true q4
   go_wp2
   go_roundg k1
   case measure => have := HK1.out; omega
   case rel => exact ⟨(wrap64 (x5_1 + ((rd_T33 l0_0 x6_1).f2))), (wrap64 (x6_1 + 1)), Ey, Ey, H', ⟨by have := HK1.out; omega⟩, ⟨ks B1⟩, ⟨es HB⟩⟩
end
/-! ### Fah: function 25 -/
def Fah.f (a0 : Int) : Option (Bool) := (Fai.f a0 0 5).bind fun t101 => (some t101)
theorem Fah.calls (a0 : Int) (r : Bool) (w : World) (h : Fah.f a0 = some r) :
  Calls Tryz.prog 25 #[.int .i64 a0] w fun e w' => e = .returned (.bool r) ∧ Drawn0 w w' := by
 have H := h
 clear h
 unfold Fah.f at H
 obtain ⟨t1, A2, H⟩ := bn H
 (try dsimp only at H)
 obtain rfl := Option.some.inj H
 go_enter Tryz.func25, Tryz.ntmps25
 go_wp2_with (first | (refine cE (some 4) Tryz.func55 #[.int .i64 a0, .int .i64 0, .int .i64 5] ?_; (with_reducible refine (Fai.calls a0 0 5 t1 _ A2.out).mono ?_); rintro e w' ⟨rfl, ⟨nd, rfl⟩⟩; refine ⟨_, rfl, ?_⟩))
 go_ret
 exact ⟨by first | rfl | (simp; done) | (simp [*]; done), by repeat (first | exact Drawn0.refl _ | apply Drawn0.step)⟩
section
attribute [local go_sem ↓] Ho.isSome_setCell_
/-! ### Ff: function 24 -/
mutual
def Ff.j0 : Nat → Bool → List (S33) → Int → Int → Int → Int → Option (Bool)
  | 0, _, _, _, _, _, _ => none
  | k + 1, x32, x102000, x102001, x102002, x102003, x102004 => if x32 = true then (some false) else (Ff.l0 k 0 x102000 x102001 x102002 x102003 x102004)
def Ff.l0 : Nat → Int → List (S33) → Int → Int → Int → Int → Option (Bool)
  | 0, _, _, _, _, _, _ => none
  | k + 1, x3, x102000, x102001, x102002, x102003, x102004 => if x3 < (x102000.length : Int) then (if 0 ≤ x3 then ((Fai.f ((rd_T33 x102000 x3).f0) 1 (wrap64 (x102001 - 1))).bind fun t109 => (if t109 = true then ((Fah.f ((rd_T33 x102000 x3).f1)).bind fun t110 => (if t110 = true then ((Fal.f ((rd_T33 x102000 x3).f2)).bind fun t111 => (if t111 = true then (if x3 > 0 then (if 0 ≤ (wrap64 (x3 - 1)) then (if (wrap64 (x3 - 1)) < (x102000.length : Int) then (if ((rd_T33 x102000 (wrap64 (x3 - 1))).f0) ≥ ((rd_T33 x102000 x3).f0) then (some false) else (Ff.l0 k (wrap64 (x3 + 1)) x102000 x102001 x102002 x102003 x102004)) else (none)) else (none)) else (Ff.l0 k (wrap64 (x3 + 1)) x102000 x102001 x102002 x102003 x102004)) else (some false))) else (some false))) else (some false))) else (none)) else ((Fac.f k x102000 x102001 x102002 x102003 x102004 (-1)).bind fun t106 => (some (x102002 == (wrap64 ((wrap64 (t106 + x102003)) + x102004)))))
end
def Ff.f (k : Nat) (l0_0 : List (S33)) (a0_1 : Int) (a0_2 : Int) (a0_3 : Int) (a0_4 : Int) : Option (Bool) := (Fai.f a0_1 1 999).bind fun t102 => (if t102 = true then ((Fai.f a0_2 0 100000).bind fun t103 => (if t103 = true then ((Fai.f a0_3 0 100000).bind fun t104 => (if t104 = true then ((Fai.f a0_4 0 100000).bind fun t105 => (if t105 = true then (Ff.j0 k (decide ((l0_0.length : Int) > 8)) l0_0 a0_1 a0_2 a0_3 a0_4) else (Ff.j0 k true l0_0 a0_1 a0_2 a0_3 a0_4))) else (Ff.j0 k true l0_0 a0_1 a0_2 a0_3 a0_4))) else (Ff.j0 k true l0_0 a0_1 a0_2 a0_3 a0_4))) else (Ff.j0 k true l0_0 a0_1 a0_2 a0_3 a0_4))
theorem Ff.mono_l : ∀ k, (∀ y0 y1 y2 y3 y4 y5, LeO (Ff.j0 k y0 y1 y2 y3 y4 y5) (Ff.j0 (k + 1) y0 y1 y2 y3 y4 y5)) ∧ (∀ y0 y1 y2 y3 y4 y5, LeO (Ff.l0 k y0 y1 y2 y3 y4 y5) (Ff.l0 (k + 1) y0 y1 y2 y3 y4 y5))
  | 0 => ⟨fun _ _ _ _ _ _ r h => by simp [Ff.j0] at h, fun _ _ _ _ _ _ r h => by simp [Ff.l0] at h⟩
  | k + 1 => by
    obtain ⟨ih0, ih1⟩ := Ff.mono_l k
    refine ⟨?_, ?_⟩
    · intro y0 y1 y2 y3 y4 y5
      unfold Ff.j0
      repeat' (with_reducible first | exact ih0 _ _ _ _ _ _ | exact ih1 _ _ _ _ _ _ | apply Fac.mono | exact LeO.refl _ | exact LeO.none _ | refine LeO.ite ?_ ?_ | refine LeO.bind ?_ (fun _ => ?_))
    · intro y0 y1 y2 y3 y4 y5
      unfold Ff.l0
      repeat' (with_reducible first | exact ih0 _ _ _ _ _ _ | exact ih1 _ _ _ _ _ _ | apply Fac.mono | exact LeO.refl _ | exact LeO.none _ | refine LeO.ite ?_ ?_ | refine LeO.bind ?_ (fun _ => ?_))
theorem Ff.mono : ∀ a0 a1 a2 a3 a4 k, LeO (Ff.f k a0 a1 a2 a3 a4) (Ff.f (k + 1) a0 a1 a2 a3 a4) := by
  intro a0 a1 a2 a3 a4 k
  obtain ⟨ih0, ih1⟩ := Ff.mono_l k
  unfold Ff.f
  repeat' (with_reducible first | exact ih0 _ _ _ _ _ _ | exact ih1 _ _ _ _ _ _ | apply Fac.mono | exact LeO.refl _ | exact LeO.none _ | refine LeO.ite ?_ ?_ | refine LeO.bind ?_ (fun _ => ?_))
def Ff.T7 : Bool × List (List Nat × List Nat) := (true, [([], []), ([0], [0]), ([], []), ([2], [2]), ([3], [3]), ([1, 4], [1, 4]), ([5], [5]), ([6, 5], [6]), ([7], [7]), ([8, 7], [7, 8]), ([9, 7, 7], [7, 9]), ([10, 7], [7, 10]), ([7, 11], [7, 11]), ([12, 10], [12]), ([13], [13]), ([14, 13], [13, 14]), ([15, 13, 13], [13, 15]), ([16, 13], [13, 16]), ([13, 17], [13, 17]), ([18, 16], [18]), ([19], [19]), ([20, 19], [19, 20]), ([21, 19, 19], [19, 21]), ([22], [22]), ([23, 22], [22, 23]), ([22], [22]), ([25, 22], [22, 25]), ([24, 26, 22], [22, 24, 26]), ([27, 22], [22, 27]), ([28, 22], [22, 28]), ([22], [22]), ([30, 22], [22, 30]), ([29, 31, 22], [22, 29, 31]), ([22, 32, 19], [19, 22, 32]), ([19, 33], [19, 33])])
def Ff.B7 : List Nat := [0, 1, 0, 4, 12, 31, 63, 127, 255, 511, 1023, 2047, 4095, 8191, 16383, 32767, 65535, 131071, 262143, 524287, 1048575, 2097151, 4194303, 8388607, 16777215, 8388607, 41943039, 134217727, 268435455, 536870911, 8388607, 1082130431, 4294967295, 8589934591, 17179869183]
theorem Ff.tab7 : rtab .any (opsOf Tryz.f24 7) = Ff.T7 := by kernel_rfl
theorem Ff.bits7 : waitsOk Ff.T7.2 Ff.B7 = true := by kernel_rfl
def Ff.T9 : Bool × List (List Nat × List Nat) := (true, [([], []), ([0], [0]), ([], []), ([2], [2]), ([], []), ([4], [4]), ([3, 5], [3, 5]), ([], []), ([7], [7]), ([6, 8], [6, 8]), ([1, 9], [1, 9]), ([10, 3, 0, 1, 2, 3, 4, 5, 6, 7, 8, 9, 10], [10])])
def Ff.B9 : List Nat := [0, 1, 0, 4, 0, 16, 60, 0, 128, 508, 1023, 2047]
theorem Ff.tab9 : rtab .any (opsOf Tryz.f24 9) = Ff.T9 := by kernel_rfl
theorem Ff.bits9 : waitsOk Ff.T9.2 Ff.B9 = true := by kernel_rfl
theorem Ff.calls (k : Nat) (A0_0 : Option Addr) (c0_0 : Nat) (l0_0 : List (S33)) (a0_1 : Int) (a0_2 : Int) (a0_3 : Int) (a0_4 : Int) (r : Bool) (w : World) (hr0_0 : Kd.C k33 w A0_0 l0_0.length l0_0) (hc0_0 : l0_0.length ≤ c0_0) (h : Ff.f k l0_0 a0_1 a0_2 a0_3 a0_4 = some r) :
  Calls Tryz.prog 24 #[.agg #[.slice A0_0 l0_0.length c0_0, .int .i64 a0_1, .int .i64 a0_2, .int .i64 a0_3, .int .i64 a0_4]] w fun e w' => e = .returned (.bool r) ∧ Below w.heap.size w w' := by
 have hu26 := Tryz.underlying26
 have hu33 := Tryz.underlying33
 have HR0_0 := Aside0.mk hr0_0
 have HC0_0 := Aside0.mk hc0_0
 clear hr0_0 hc0_0
 have HB := Aside0.mk (Below.refl w.heap.size w)
 have H := h
 clear h
 unfold Ff.f at H
 have HC2 := Aside0.mk H
 clear H
 go_enter Tryz.func24, Tryz.ntmps24
 go_upto_region 1 with (first | ((with_reducible refine gate_dst (N := 1) rfl ?_); (try (refine gate_guard (by rfl) ?_; dsimp only)); refine bE 1 26 #[.slice A0_0 l0_0.length c0_0, .int .i64 a0_1, .int .i64 a0_2, .int .i64 a0_3, .int .i64 a0_4] ?_; intro g1 hg w3 B1 hb; have E1 := gW HB hg; replace HB := bT HB hb; clear hb hg))
 (try simp only [Act.put, List.setIfInBounds_toArray, List.set_cons_zero, List.set_cons_succ])
 go_cut [32] (fun v32 wc => ∃ (kq : Nat) (x32_1 : Bool), v32 = .bool x32_1 ∧ Aside0 (Ff.j0 kq x32_1 l0_0 a0_1 a0_2 a0_3 a0_4 = some r) ∧ Aside0 (kq ≤ k) ∧ Aside0 (wc.heap[g1]? = some (.cells #[(.slice A0_0 l0_0.length c0_0), .int .i64 a0_1, .int .i64 a0_2, .int .i64 a0_3, .int .i64 a0_4] 26 (0, 0))) ∧ Aside0 (Below w.heap.size w wc))
 case first =>
  have H := HC2.out
  clear HC2
  obtain ⟨t2, A4, H⟩ := bn H
  (try dsimp only at H)
  by_cases c5 : t2 = true
  rotate_left
  ·replace c5 := Bool.eq_false_iff.mpr c5
   subst c5
   rw [if_neg (show ¬ (false = true) by decide)] at H
   have H' := Aside0.mk H
   clear H
   have hz16 := Sq.c5 B1.out
   go_wp2_with (first | (refine cE (some 7) Tryz.func55 #[.int .i64 a0_1, .int .i64 1, .int .i64 999] ?_; (with_reducible refine (Fai.calls a0_1 1 999 false _ A4.out).mono ?_); rintro e w' ⟨rfl, ⟨nd, rfl⟩⟩; refine ⟨_, rfl, ?_⟩))
   go_meet
   case rel => exact ⟨_, (true), Ey, H', ⟨by first | omega | exact Nat.le_refl _⟩, ⟨ks B1⟩, ⟨es HB⟩⟩
  subst c5
  rw [if_pos rfl] at H
  obtain ⟨t3, A6, H⟩ := bn H
  (try dsimp only at H)
  by_cases c7 : t3 = true
  rotate_left
  ·replace c7 := Bool.eq_false_iff.mpr c7
   subst c7
   rw [if_neg (show ¬ (false = true) by decide)] at H
   have H' := Aside0.mk H
   clear H
   have hz15 := Sq.c5 B1.out
   go_wp2_with (first | (refine cE (some 7) Tryz.func55 #[.int .i64 a0_1, .int .i64 1, .int .i64 999] ?_; (with_reducible refine (Fai.calls a0_1 1 999 true _ A4.out).mono ?_); rintro e w' ⟨rfl, ⟨nd, rfl⟩⟩; refine ⟨_, rfl, ?_⟩) | (go_at_call 55; (with_reducible refine (Fai.calls a0_2 0 100000 false _ A6.out).mono ?_); rintro e w' ⟨rfl, ⟨nd, rfl⟩⟩))
   go_meet
   case rel => exact ⟨_, (true), Ey, H', ⟨by first | omega | exact Nat.le_refl _⟩, ⟨ks B1⟩, ⟨es HB⟩⟩
  subst c7
  rw [if_pos rfl] at H
  obtain ⟨t4, A8, H⟩ := bn H
  (try dsimp only at H)
  by_cases c9 : t4 = true
  rotate_left
  ·replace c9 := Bool.eq_false_iff.mpr c9
   subst c9
   rw [if_neg (show ¬ (false = true) by decide)] at H
   have H' := Aside0.mk H
   clear H
   have hz14 := Sq.c5 B1.out
   go_wp2_with (first | (refine cE (some 7) Tryz.func55 #[.int .i64 a0_1, .int .i64 1, .int .i64 999] ?_; (with_reducible refine (Fai.calls a0_1 1 999 true _ A4.out).mono ?_); rintro e w' ⟨rfl, ⟨nd, rfl⟩⟩; refine ⟨_, rfl, ?_⟩) | (go_at_call 55; (with_reducible refine (Fai.calls a0_2 0 100000 true _ A6.out).mono ?_); rintro e w' ⟨rfl, ⟨nd, rfl⟩⟩) | (go_at_call 55; (with_reducible refine (Fai.calls a0_3 0 100000 false _ A8.out).mono ?_); rintro e w' ⟨rfl, ⟨nd, rfl⟩⟩))
   go_meet
   case rel => exact ⟨_, (true), Ey, H', ⟨by first | omega | exact Nat.le_refl _⟩, ⟨ks B1⟩, ⟨es HB⟩⟩
  subst c9
  rw [if_pos rfl] at H
  obtain ⟨t5, A10, H⟩ := bn H
  (try dsimp only at H)
  by_cases c11 : t5 = true
  ·subst c11
   rw [if_pos rfl] at H
   have H' := Aside0.mk H
   clear H
   have hz12 := Sq.c5 B1.out
   go_wp2_with (first | (refine cE (some 7) Tryz.func55 #[.int .i64 a0_1, .int .i64 1, .int .i64 999] ?_; (with_reducible refine (Fai.calls a0_1 1 999 true _ A4.out).mono ?_); rintro e w' ⟨rfl, ⟨nd, rfl⟩⟩; refine ⟨_, rfl, ?_⟩) | (go_at_call 55; (with_reducible refine (Fai.calls a0_2 0 100000 true _ A6.out).mono ?_); rintro e w' ⟨rfl, ⟨nd, rfl⟩⟩) | (go_at_call 55; (with_reducible refine (Fai.calls a0_3 0 100000 true _ A8.out).mono ?_); rintro e w' ⟨rfl, ⟨nd, rfl⟩⟩) | (go_at_call 55; (with_reducible refine (Fai.calls a0_4 0 100000 true _ A10.out).mono ?_); rintro e w' ⟨rfl, ⟨nd, rfl⟩⟩))
   go_meet
   case rel => exact ⟨_, (decide ((l0_0.length : Int) > 8)), Ey, H', ⟨by first | omega | exact Nat.le_refl _⟩, ⟨ks B1⟩, ⟨es HB⟩⟩
  replace c11 := Bool.eq_false_iff.mpr c11
  subst c11
  rw [if_neg (show ¬ (false = true) by decide)] at H
  have H' := Aside0.mk H
  clear H
  have hz13 := Sq.c5 B1.out
  go_wp2_with (first | (refine cE (some 7) Tryz.func55 #[.int .i64 a0_1, .int .i64 1, .int .i64 999] ?_; (with_reducible refine (Fai.calls a0_1 1 999 true _ A4.out).mono ?_); rintro e w' ⟨rfl, ⟨nd, rfl⟩⟩; refine ⟨_, rfl, ?_⟩) | (go_at_call 55; (with_reducible refine (Fai.calls a0_2 0 100000 true _ A6.out).mono ?_); rintro e w' ⟨rfl, ⟨nd, rfl⟩⟩) | (go_at_call 55; (with_reducible refine (Fai.calls a0_3 0 100000 true _ A8.out).mono ?_); rintro e w' ⟨rfl, ⟨nd, rfl⟩⟩) | (go_at_call 55; (with_reducible refine (Fai.calls a0_4 0 100000 false _ A10.out).mono ?_); rintro e w' ⟨rfl, ⟨nd, rfl⟩⟩))
  go_meet
  case rel => exact ⟨_, (true), Ey, H', ⟨by first | omega | exact Nat.le_refl _⟩, ⟨ks B1⟩, ⟨es HB⟩⟩
 case rest =>
  clear HC2
  try clear c1
  try clear c2
  try clear p2
  try clear c5
  try clear c7
  try clear c9
  try clear c11
  (try clear hz12)
  (try clear hz13)
  (try clear hz14)
  (try clear hz15)
  (try clear hz16)
  obtain ⟨kq, x32_1, rfl, HA, HJ1, B1, HB⟩ := hcut
  cases kq with
  | zero => exact absurd HA.out (by simp [Ff.j0])
  | succ kj1 =>
   have H := HA.out
   clear HA
   simp only [Ff.j0] at H
   by_cases c17 : x32_1 = true
   ·subst c17
    rw [if_pos rfl] at H
    obtain rfl := Option.some.inj H
    go_wp2
    go_ret
    exact ⟨Ez, by exact eS HB.out⟩
   replace c17 := Bool.eq_false_iff.mpr c17
   subst c17
   rw [if_neg (show ¬ (false = true) by decide)] at H
   have H' := Aside0.mk H
   clear H
   go_wp2
   go_loopg [3] kj1 (fun kq v3 w' => ∃ (x3_2 : Int), v3 = .int .i64 x3_2 ∧ Aside0 (Ff.l0 kq x3_2 l0_0 a0_1 a0_2 a0_3 a0_4 = some r) ∧ Aside0 (kq ≤ kj1) ∧ Aside0 (w'.heap[g1]? = some (.cells #[(.slice A0_0 l0_0.length c0_0), .int .i64 a0_1, .int .i64 a0_2, .int .i64 a0_3, .int .i64 a0_4] 26 (0, 0))) ∧ Aside0 (Below w.heap.size w w'))
   case atStart => exact ⟨(0), Ey, H', ⟨Nat.le_refl _⟩, ⟨ks B1⟩, ⟨es HB⟩⟩
   case round =>
    clear H'
    try clear c1
    try clear c2
    try clear p2
    try clear c5
    try clear c7
    try clear c9
    try clear c11
    try clear c17
    (try clear hz12)
    (try clear hz13)
    (try clear hz14)
    (try clear hz15)
    (try clear hz16)
    try clear p2
    obtain ⟨x3_2, rfl, HA, HK2, B1, HB⟩ := hrel
    cases gk with
    | zero => exact absurd HA.out (by simp [Ff.l0])
    | succ k2 =>
     have H := HA.out
     clear HA
     simp only [Ff.l0] at H
     by_cases c18 : x3_2 < (l0_0.length : Int)
     rotate_left
     ·rw [if_neg c18] at H
      have c18b0 := decide_eq_false c18
      clear c18
      obtain ⟨t6, A67, H⟩ := bn H
      (try dsimp only at H)
      obtain rfl := Option.some.inj H
      have hz68 := Sq.c5 B1.out
      try go_wp2
      replace B1 := kD B1
      replace HB := bD HB
      refine sT 12 (H5 g1 (.slice A0_0 l0_0.length c0_0) (.int .i64 a0_1) (.int .i64 a0_2) (.int .i64 a0_3) (.int .i64 a0_4)) [] Ff.tab9 Ff.bits9 (h5 B1) fun hHeld HT_ HW_ => ?_
      generalize wr.drew = w69 at B1 HB hHeld ⊢
      refine Pu 0 ?_
      refine Pu 4 ?_
      refine Pu 7 ?_
      refine Ta 1 ?_
      refine Ta 2 ?_
      refine Ta 5 ?_
      refine Ta 8 ?_
      refine oN 3 fun K hK => ?_
      refine gO Tryz.func35 #[.agg #[.slice A0_0 l0_0.length c0_0, .int .i64 a0_1, .int .i64 a0_2, .int .i64 a0_3, .int .i64 a0_4], .int .i64 (-1)] ?_
      with_reducible refine (Fac.calls k2 _ _ l0_0 a0_1 a0_2 a0_3 a0_4 (-1) t6 _ ?side1 ?side2 A67.out).mono ?_
      (case side1 => exact Cs (Kd.C_below HR0_0.out HB.out))
      (case side2 => exact HC0_0.out)
      rintro e w70 ⟨rfl, hb⟩
      refine ⟨_, rfl, ?_⟩
      replace B1 := kT B1 hb
      replace HB := bT HB hb
      clear hb
      refine hK.out _ _ (h5 B1) (fun hHeld => ?_)
      clear hK K
      refine nO 83 ?_
      refine Pu 6 ?_
      refine Pu 9 ?_
      refine Pu 10 ?_
      refine Pu 11 ?_
      refine dO ?_
      try go_wp2
      go_ret
      exact ⟨Ez, by exact eS HB.out⟩
     rw [if_pos c18] at H
     have c18b0 := decide_eq_true c18
     clear c18
     by_cases c19 : 0 ≤ x3_2
     rotate_left
     ·rw [if_neg c19] at H
      exact absurd H (by simp)
     rw [if_pos c19] at H
     have c19b0 := decide_eq_true c19
     clear c19
     obtain ⟨t9, A20, H⟩ := bn H
     (try dsimp only at H)
     by_cases c21 : t9 = true
     rotate_left
     ·replace c21 := Bool.eq_false_iff.mpr c21
      subst c21
      rw [if_neg (show ¬ (false = true) by decide)] at H
      obtain rfl := Option.some.inj H
      have hz61 := Sq.c5 B1.out
      have p107 : 0 ≤ (x3_2 : Int) := Dz
      have q7 : x3_2 < (l0_0.length : Int) := Dz
      obtain ⟨ad7, e7, hx7_0, hx7_1, hx7_2⟩ := at_T33 HR0_0.out x3_2 p107 q7
      cases e7
      replace hx7_0 := Sq.cB HB.out hx7_0
      replace hx7_1 := Sq.cB HB.out hx7_1
      replace hx7_2 := Sq.cB HB.out hx7_2
      replace p107 := eq_true p107
      replace q7 := eq_true q7
      try go_wp2_with (first | ((with_reducible refine gate_dst (N := 4) rfl ?_); (try (refine gate_guard (by rfl) ?_; dsimp only)); refine bE 4 33 #[.int .i64 0, .int .i64 0, .int .i64 0] ?_; intro g8 hg w62 B8 hb; have E8 := gW HB hg; obtain ⟨N1_8, N8_1⟩ := nB B1 hg; replace B1 := kT B1 hb; replace HB := bT HB hb; clear hb hg; have hnb63 := nP N8_1; have hz64 := Sq.c3 B8.out))
      refine gn g8 w62 (.cells #[.int .i64 ((rd_T33 l0_0 x3_2).f0), .int .i64 ((rd_T33 l0_0 x3_2).f1), .int .i64 ((rd_T33 l0_0 x3_2).f2)] 33 (0, 0)) ?hh ?_
      (case hh => apply Sq.put3; exact bS B8.out)
      intro w65 hK_ hG_
      replace B1 := cK B1 hK_ N1_8
      replace HB := cB_ HB hK_ E8
      replace B8 := hG_
      clear hK_
      replace B1 := kD B1
      replace B8 := kD B8
      replace HB := bD HB
      refine sT 35 (fun w' => w'.cell? ⟨g8, 0, none⟩ = some (.int .i64 ((rd_T33 l0_0 x3_2).f0)) ∧ w'.cell? ⟨g8, 1, none⟩ = some (.int .i64 ((rd_T33 l0_0 x3_2).f1)) ∧ w'.cell? ⟨g8, 2, none⟩ = some (.int .i64 ((rd_T33 l0_0 x3_2).f2)) ∧ w'.cell? ⟨g1, 0, none⟩ = some (.slice (some ad7) l0_0.length c0_0) ∧ w'.cell? ⟨g1, 1, none⟩ = some (.int .i64 a0_1) ∧ w'.cell? ⟨g1, 2, none⟩ = some (.int .i64 a0_2) ∧ w'.cell? ⟨g1, 3, none⟩ = some (.int .i64 a0_3) ∧ w'.cell? ⟨g1, 4, none⟩ = some (.int .i64 a0_4)) [] Ff.tab7 Ff.bits7 ⟨bc B8 0, bc B8 1, bc B8 2, bc B1 0, bc B1 1, bc B1 2, bc B1 3, bc B1 4⟩ fun hHeld HT_ HW_ => ?_
      generalize w65.drew = w66 at B1 B8 HB hHeld ⊢
      refine Pu 0 ?_
      refine Pu 2 ?_
      refine Ta 1 ?_
      refine Ta 3 ?_
      refine Pu 4 ?_
      refine oN 5 fun K hK => ?_
      refine gO Tryz.func55 #[.int .i64 ((rd_T33 l0_0 x3_2).f0), .int .i64 1, .int .i64 (wrap64 (a0_1 - 1))] ?_
      with_reducible refine (Fai.calls ((rd_T33 l0_0 x3_2).f0) 1 (wrap64 (a0_1 - 1)) false _ A20.out).mono ?_
      rintro e w' ⟨rfl, ⟨nd, rfl⟩⟩
      refine ⟨_, rfl, ?_⟩
      refine hK.out _ _ ⟨bc B8 0, bc B8 1, bc B8 2, bc B1 0, bc B1 1, bc B1 2, bc B1 3, bc B1 4⟩ (fun hHeld => ?_)
      clear hK K
      refine nO 50 ?_
      refine Pu 6 ?_
      refine Pu 7 ?_
      refine Pn 8 ?_
      refine Pn 9 ?_
      refine Pn 10 ?_
      refine Pn 11 ?_
      refine Pu 12 ?_
      refine Pu 13 ?_
      refine Pn 14 ?_
      refine Pn 15 ?_
      refine Pn 16 ?_
      refine Pn 17 ?_
      refine Pu 18 ?_
      refine Pu 19 ?_
      refine Pn 20 ?_
      refine Pn 21 ?_
      refine Pn 22 ?_
      refine Pn 23 ?_
      refine Pn 24 ?_
      refine Pn 25 ?_
      refine Pn 26 ?_
      refine Pn 27 ?_
      refine Pn 28 ?_
      refine Pn 29 ?_
      refine Pn 30 ?_
      refine Pn 31 ?_
      refine Pn 32 ?_
      refine Pn 33 ?_
      refine Pu 34 ?_
      refine dO ?_
      try go_wp2
      go_ret
      exact ⟨Ez, by exact eS HB.out⟩
     subst c21
     rw [if_pos rfl] at H
     obtain ⟨t10, A22, H⟩ := bn H
     (try dsimp only at H)
     by_cases c23 : t10 = true
     rotate_left
     ·replace c23 := Bool.eq_false_iff.mpr c23
      subst c23
      rw [if_neg (show ¬ (false = true) by decide)] at H
      obtain rfl := Option.some.inj H
      have hz55 := Sq.c5 B1.out
      have p107 : 0 ≤ (x3_2 : Int) := Dz
      have q7 : x3_2 < (l0_0.length : Int) := Dz
      obtain ⟨ad7, e7, hx7_0, hx7_1, hx7_2⟩ := at_T33 HR0_0.out x3_2 p107 q7
      cases e7
      replace hx7_0 := Sq.cB HB.out hx7_0
      replace hx7_1 := Sq.cB HB.out hx7_1
      replace hx7_2 := Sq.cB HB.out hx7_2
      replace p107 := eq_true p107
      replace q7 := eq_true q7
      try go_wp2_with (first | ((with_reducible refine gate_dst (N := 4) rfl ?_); (try (refine gate_guard (by rfl) ?_; dsimp only)); refine bE 4 33 #[.int .i64 0, .int .i64 0, .int .i64 0] ?_; intro g8 hg w56 B8 hb; have E8 := gW HB hg; obtain ⟨N1_8, N8_1⟩ := nB B1 hg; replace B1 := kT B1 hb; replace HB := bT HB hb; clear hb hg; have hnb57 := nP N8_1; have hz58 := Sq.c3 B8.out))
      refine gn g8 w56 (.cells #[.int .i64 ((rd_T33 l0_0 x3_2).f0), .int .i64 ((rd_T33 l0_0 x3_2).f1), .int .i64 ((rd_T33 l0_0 x3_2).f2)] 33 (0, 0)) ?hh ?_
      (case hh => apply Sq.put3; exact bS B8.out)
      intro w59 hK_ hG_
      replace B1 := cK B1 hK_ N1_8
      replace HB := cB_ HB hK_ E8
      replace B8 := hG_
      clear hK_
      replace B1 := kD B1
      replace B8 := kD B8
      replace HB := bD HB
      refine sT 35 (fun w' => w'.cell? ⟨g8, 0, none⟩ = some (.int .i64 ((rd_T33 l0_0 x3_2).f0)) ∧ w'.cell? ⟨g8, 1, none⟩ = some (.int .i64 ((rd_T33 l0_0 x3_2).f1)) ∧ w'.cell? ⟨g8, 2, none⟩ = some (.int .i64 ((rd_T33 l0_0 x3_2).f2)) ∧ w'.cell? ⟨g1, 0, none⟩ = some (.slice (some ad7) l0_0.length c0_0) ∧ w'.cell? ⟨g1, 1, none⟩ = some (.int .i64 a0_1) ∧ w'.cell? ⟨g1, 2, none⟩ = some (.int .i64 a0_2) ∧ w'.cell? ⟨g1, 3, none⟩ = some (.int .i64 a0_3) ∧ w'.cell? ⟨g1, 4, none⟩ = some (.int .i64 a0_4)) [] Ff.tab7 Ff.bits7 ⟨bc B8 0, bc B8 1, bc B8 2, bc B1 0, bc B1 1, bc B1 2, bc B1 3, bc B1 4⟩ fun hHeld HT_ HW_ => ?_
      generalize w59.drew = w60 at B1 B8 HB hHeld ⊢
      refine Pu 0 ?_
      refine Pu 2 ?_
      refine Ta 1 ?_
      refine Ta 3 ?_
      refine Pu 4 ?_
      refine oN 5 fun K hK => ?_
      refine gO Tryz.func55 #[.int .i64 ((rd_T33 l0_0 x3_2).f0), .int .i64 1, .int .i64 (wrap64 (a0_1 - 1))] ?_
      with_reducible refine (Fai.calls ((rd_T33 l0_0 x3_2).f0) 1 (wrap64 (a0_1 - 1)) true _ A20.out).mono ?_
      rintro e w' ⟨rfl, ⟨nd, rfl⟩⟩
      refine ⟨_, rfl, ?_⟩
      refine hK.out _ _ ⟨bc B8 0, bc B8 1, bc B8 2, bc B1 0, bc B1 1, bc B1 2, bc B1 3, bc B1 4⟩ (fun hHeld => ?_)
      clear hK K
      refine nO 50 ?_
      refine Pu 6 ?_
      refine Pu 7 ?_
      refine Pu 8 ?_
      refine Ta 9 ?_
      refine oN 10 fun K hK => ?_
      refine gO Tryz.func25 #[.int .i64 ((rd_T33 l0_0 x3_2).f1)] ?_
      with_reducible refine (Fah.calls ((rd_T33 l0_0 x3_2).f1) false _ A22.out).mono ?_
      rintro e w' ⟨rfl, ⟨nd, rfl⟩⟩
      refine ⟨_, rfl, ?_⟩
      refine hK.out _ _ ⟨bc B8 0, bc B8 1, bc B8 2, bc B1 0, bc B1 1, bc B1 2, bc B1 3, bc B1 4⟩ (fun hHeld => ?_)
      clear hK K
      refine nO 55 ?_
      refine Pu 11 ?_
      refine Pu 12 ?_
      refine Pu 13 ?_
      refine Pn 14 ?_
      refine Pn 15 ?_
      refine Pn 16 ?_
      refine Pn 17 ?_
      refine Pu 18 ?_
      refine Pu 19 ?_
      refine Pn 20 ?_
      refine Pn 21 ?_
      refine Pn 22 ?_
      refine Pn 23 ?_
      refine Pn 24 ?_
      refine Pn 25 ?_
      refine Pn 26 ?_
      refine Pn 27 ?_
      refine Pn 28 ?_
      refine Pn 29 ?_
      refine Pn 30 ?_
      refine Pn 31 ?_
      refine Pn 32 ?_
      refine Pn 33 ?_
      refine Pu 34 ?_
      refine dO ?_
      try go_wp2
      go_ret
      exact ⟨Ez, by exact eS HB.out⟩
     subst c23
     rw [if_pos rfl] at H
     obtain ⟨t11, A24, H⟩ := bn H
     (try dsimp only at H)
     by_cases c25 : t11 = true
     rotate_left
     ·replace c25 := Bool.eq_false_iff.mpr c25
      subst c25
      rw [if_neg (show ¬ (false = true) by decide)] at H
      obtain rfl := Option.some.inj H
      have hz49 := Sq.c5 B1.out
      have p107 : 0 ≤ (x3_2 : Int) := Dz
      have q7 : x3_2 < (l0_0.length : Int) := Dz
      obtain ⟨ad7, e7, hx7_0, hx7_1, hx7_2⟩ := at_T33 HR0_0.out x3_2 p107 q7
      cases e7
      replace hx7_0 := Sq.cB HB.out hx7_0
      replace hx7_1 := Sq.cB HB.out hx7_1
      replace hx7_2 := Sq.cB HB.out hx7_2
      replace p107 := eq_true p107
      replace q7 := eq_true q7
      try go_wp2_with (first | ((with_reducible refine gate_dst (N := 4) rfl ?_); (try (refine gate_guard (by rfl) ?_; dsimp only)); refine bE 4 33 #[.int .i64 0, .int .i64 0, .int .i64 0] ?_; intro g8 hg w50 B8 hb; have E8 := gW HB hg; obtain ⟨N1_8, N8_1⟩ := nB B1 hg; replace B1 := kT B1 hb; replace HB := bT HB hb; clear hb hg; have hnb51 := nP N8_1; have hz52 := Sq.c3 B8.out))
      refine gn g8 w50 (.cells #[.int .i64 ((rd_T33 l0_0 x3_2).f0), .int .i64 ((rd_T33 l0_0 x3_2).f1), .int .i64 ((rd_T33 l0_0 x3_2).f2)] 33 (0, 0)) ?hh ?_
      (case hh => apply Sq.put3; exact bS B8.out)
      intro w53 hK_ hG_
      replace B1 := cK B1 hK_ N1_8
      replace HB := cB_ HB hK_ E8
      replace B8 := hG_
      clear hK_
      replace B1 := kD B1
      replace B8 := kD B8
      replace HB := bD HB
      refine sT 35 (fun w' => w'.cell? ⟨g8, 0, none⟩ = some (.int .i64 ((rd_T33 l0_0 x3_2).f0)) ∧ w'.cell? ⟨g8, 1, none⟩ = some (.int .i64 ((rd_T33 l0_0 x3_2).f1)) ∧ w'.cell? ⟨g8, 2, none⟩ = some (.int .i64 ((rd_T33 l0_0 x3_2).f2)) ∧ w'.cell? ⟨g1, 0, none⟩ = some (.slice (some ad7) l0_0.length c0_0) ∧ w'.cell? ⟨g1, 1, none⟩ = some (.int .i64 a0_1) ∧ w'.cell? ⟨g1, 2, none⟩ = some (.int .i64 a0_2) ∧ w'.cell? ⟨g1, 3, none⟩ = some (.int .i64 a0_3) ∧ w'.cell? ⟨g1, 4, none⟩ = some (.int .i64 a0_4)) [] Ff.tab7 Ff.bits7 ⟨bc B8 0, bc B8 1, bc B8 2, bc B1 0, bc B1 1, bc B1 2, bc B1 3, bc B1 4⟩ fun hHeld HT_ HW_ => ?_
      generalize w53.drew = w54 at B1 B8 HB hHeld ⊢
      refine Pu 0 ?_
      refine Pu 2 ?_
      refine Ta 1 ?_
      refine Ta 3 ?_
      refine Pu 4 ?_
      refine oN 5 fun K hK => ?_
      refine gO Tryz.func55 #[.int .i64 ((rd_T33 l0_0 x3_2).f0), .int .i64 1, .int .i64 (wrap64 (a0_1 - 1))] ?_
      with_reducible refine (Fai.calls ((rd_T33 l0_0 x3_2).f0) 1 (wrap64 (a0_1 - 1)) true _ A20.out).mono ?_
      rintro e w' ⟨rfl, ⟨nd, rfl⟩⟩
      refine ⟨_, rfl, ?_⟩
      refine hK.out _ _ ⟨bc B8 0, bc B8 1, bc B8 2, bc B1 0, bc B1 1, bc B1 2, bc B1 3, bc B1 4⟩ (fun hHeld => ?_)
      clear hK K
      refine nO 50 ?_
      refine Pu 6 ?_
      refine Pu 7 ?_
      refine Pu 8 ?_
      refine Ta 9 ?_
      refine oN 10 fun K hK => ?_
      refine gO Tryz.func25 #[.int .i64 ((rd_T33 l0_0 x3_2).f1)] ?_
      with_reducible refine (Fah.calls ((rd_T33 l0_0 x3_2).f1) true _ A22.out).mono ?_
      rintro e w' ⟨rfl, ⟨nd, rfl⟩⟩
      refine ⟨_, rfl, ?_⟩
      refine hK.out _ _ ⟨bc B8 0, bc B8 1, bc B8 2, bc B1 0, bc B1 1, bc B1 2, bc B1 3, bc B1 4⟩ (fun hHeld => ?_)
      clear hK K
      refine nO 55 ?_
      refine Pu 11 ?_
      refine Pu 12 ?_
      refine Pu 13 ?_
      refine Pu 14 ?_
      refine Ta 15 ?_
      refine oN 16 fun K hK => ?_
      refine gO Tryz.func26 #[.int .i64 ((rd_T33 l0_0 x3_2).f2)] ?_
      with_reducible refine (Fal.calls ((rd_T33 l0_0 x3_2).f2) false _ A24.out).mono ?_
      rintro e w' ⟨rfl, ⟨nd, rfl⟩⟩
      refine ⟨_, rfl, ?_⟩
      refine hK.out _ _ ⟨bc B8 0, bc B8 1, bc B8 2, bc B1 0, bc B1 1, bc B1 2, bc B1 3, bc B1 4⟩ (fun hHeld => ?_)
      clear hK K
      refine nO 61 ?_
      refine Pu 17 ?_
      refine Pu 18 ?_
      refine Pu 19 ?_
      refine Pn 20 ?_
      refine Pn 21 ?_
      refine Pn 22 ?_
      refine Pn 23 ?_
      refine Pn 24 ?_
      refine Pn 25 ?_
      refine Pn 26 ?_
      refine Pn 27 ?_
      refine Pn 28 ?_
      refine Pn 29 ?_
      refine Pn 30 ?_
      refine Pn 31 ?_
      refine Pn 32 ?_
      refine Pn 33 ?_
      refine Pu 34 ?_
      refine dO ?_
      try go_wp2
      go_ret
      exact ⟨Ez, by exact eS HB.out⟩
     subst c25
     rw [if_pos rfl] at H
     by_cases c26 : x3_2 > 0
     rotate_left
     ·rw [if_neg c26] at H
      have c26b0 := decide_eq_false c26
      clear c26
      have H' := Aside0.mk H
      clear H
      have hz43 := Sq.c5 B1.out
      have p107 : 0 ≤ (x3_2 : Int) := Dz
      have q7 : x3_2 < (l0_0.length : Int) := Dz
      obtain ⟨ad7, e7, hx7_0, hx7_1, hx7_2⟩ := at_T33 HR0_0.out x3_2 p107 q7
      cases e7
      replace hx7_0 := Sq.cB HB.out hx7_0
      replace hx7_1 := Sq.cB HB.out hx7_1
      replace hx7_2 := Sq.cB HB.out hx7_2
      replace p107 := eq_true p107
      replace q7 := eq_true q7
      try go_wp2_with (first | ((with_reducible refine gate_dst (N := 4) rfl ?_); (try (refine gate_guard (by rfl) ?_; dsimp only)); refine bE 4 33 #[.int .i64 0, .int .i64 0, .int .i64 0] ?_; intro g8 hg w44 B8 hb; have E8 := gW HB hg; obtain ⟨N1_8, N8_1⟩ := nB B1 hg; replace B1 := kT B1 hb; replace HB := bT HB hb; clear hb hg; have hnb45 := nP N8_1; have hz46 := Sq.c3 B8.out))
      refine gn g8 w44 (.cells #[.int .i64 ((rd_T33 l0_0 x3_2).f0), .int .i64 ((rd_T33 l0_0 x3_2).f1), .int .i64 ((rd_T33 l0_0 x3_2).f2)] 33 (0, 0)) ?hh ?_
      (case hh => apply Sq.put3; exact bS B8.out)
      intro w47 hK_ hG_
      replace B1 := cK B1 hK_ N1_8
      replace HB := cB_ HB hK_ E8
      replace B8 := hG_
      clear hK_
      replace B1 := kD B1
      replace B8 := kD B8
      replace HB := bD HB
      refine sT 35 (fun w' => w'.cell? ⟨g8, 0, none⟩ = some (.int .i64 ((rd_T33 l0_0 x3_2).f0)) ∧ w'.cell? ⟨g8, 1, none⟩ = some (.int .i64 ((rd_T33 l0_0 x3_2).f1)) ∧ w'.cell? ⟨g8, 2, none⟩ = some (.int .i64 ((rd_T33 l0_0 x3_2).f2)) ∧ w'.cell? ⟨g1, 0, none⟩ = some (.slice (some ad7) l0_0.length c0_0) ∧ w'.cell? ⟨g1, 1, none⟩ = some (.int .i64 a0_1) ∧ w'.cell? ⟨g1, 2, none⟩ = some (.int .i64 a0_2) ∧ w'.cell? ⟨g1, 3, none⟩ = some (.int .i64 a0_3) ∧ w'.cell? ⟨g1, 4, none⟩ = some (.int .i64 a0_4)) [] Ff.tab7 Ff.bits7 ⟨bc B8 0, bc B8 1, bc B8 2, bc B1 0, bc B1 1, bc B1 2, bc B1 3, bc B1 4⟩ fun hHeld HT_ HW_ => ?_
      generalize w47.drew = w48 at B1 B8 HB hHeld ⊢
      refine Pu 0 ?_
      refine Pu 2 ?_
      refine Ta 1 ?_
      refine Ta 3 ?_
      refine Pu 4 ?_
      refine oN 5 fun K hK => ?_
      refine gO Tryz.func55 #[.int .i64 ((rd_T33 l0_0 x3_2).f0), .int .i64 1, .int .i64 (wrap64 (a0_1 - 1))] ?_
      with_reducible refine (Fai.calls ((rd_T33 l0_0 x3_2).f0) 1 (wrap64 (a0_1 - 1)) true _ A20.out).mono ?_
      rintro e w' ⟨rfl, ⟨nd, rfl⟩⟩
      refine ⟨_, rfl, ?_⟩
      refine hK.out _ _ ⟨bc B8 0, bc B8 1, bc B8 2, bc B1 0, bc B1 1, bc B1 2, bc B1 3, bc B1 4⟩ (fun hHeld => ?_)
      clear hK K
      refine nO 50 ?_
      refine Pu 6 ?_
      refine Pu 7 ?_
      refine Pu 8 ?_
      refine Ta 9 ?_
      refine oN 10 fun K hK => ?_
      refine gO Tryz.func25 #[.int .i64 ((rd_T33 l0_0 x3_2).f1)] ?_
      with_reducible refine (Fah.calls ((rd_T33 l0_0 x3_2).f1) true _ A22.out).mono ?_
      rintro e w' ⟨rfl, ⟨nd, rfl⟩⟩
      refine ⟨_, rfl, ?_⟩
      refine hK.out _ _ ⟨bc B8 0, bc B8 1, bc B8 2, bc B1 0, bc B1 1, bc B1 2, bc B1 3, bc B1 4⟩ (fun hHeld => ?_)
      clear hK K
      refine nO 55 ?_
      refine Pu 11 ?_
      refine Pu 12 ?_
      refine Pu 13 ?_
      refine Pu 14 ?_
      refine Ta 15 ?_
      refine oN 16 fun K hK => ?_
      refine gO Tryz.func26 #[.int .i64 ((rd_T33 l0_0 x3_2).f2)] ?_
      with_reducible refine (Fal.calls ((rd_T33 l0_0 x3_2).f2) true _ A24.out).mono ?_
      rintro e w' ⟨rfl, ⟨nd, rfl⟩⟩
      refine ⟨_, rfl, ?_⟩
      refine hK.out _ _ ⟨bc B8 0, bc B8 1, bc B8 2, bc B1 0, bc B1 1, bc B1 2, bc B1 3, bc B1 4⟩ (fun hHeld => ?_)
      clear hK K
      refine nO 61 ?_
      refine Pu 17 ?_
      refine Pu 18 ?_
      refine Pu 19 ?_
      refine Pu 20 ?_
      refine Pu 21 ?_
      refine Pu 22 ?_
      refine Pn 23 ?_
      refine Pn 24 ?_
      refine Pn 25 ?_
      refine Pn 26 ?_
      refine Pn 27 ?_
      refine Pn 28 ?_
      refine Pn 29 ?_
      refine Pn 30 ?_
      refine Pn 31 ?_
      refine Pn 32 ?_
      refine Pu 33 ?_
      refine Pu 34 ?_
      refine dO ?_
      try go_wp2
      go_roundg k2
      case measure => have := HJ1.out; have := HK2.out; omega
      case rel => exact ⟨(wrap64 (x3_2 + 1)), Ey, H', ⟨by have := HJ1.out; have := HK2.out; omega⟩, ⟨ks B1⟩, ⟨es HB⟩⟩
     rw [if_pos c26] at H
     have c26b0 := decide_eq_true c26
     clear c26
     obtain ⟨ji27, hji27⟩ : ∃ j_ : Int, (wrap64 (x3_2 - 1)) = j_ := ⟨_, rfl⟩
     replace H : (if 0 ≤ (ji27) then (if (ji27) < (l0_0.length : Int) then (if ((rd_T33 l0_0 (ji27)).f0) ≥ ((rd_T33 l0_0 x3_2).f0) then (some false) else (Ff.l0 k2 (wrap64 (x3_2 + 1)) l0_0 a0_1 a0_2 a0_3 a0_4)) else (none)) else (none)) = some r := by first | (rw [hji27] at H; exact H) | (simp only [hji27] at H ⊢; exact H)
     (try rw [hji27] at A20)
     (try rw [hji27] at A22)
     (try rw [hji27] at A24)
     have hji27w : (IntKind.i64.wrap (x3_2 - 1)) = ji27 := (i64_w _).trans hji27
     by_cases c28 : 0 ≤ (ji27)
     rotate_left
     ·rw [if_neg c28] at H
      exact absurd H (by simp)
     rw [if_pos c28] at H
     have c28b0 := decide_eq_true c28
     clear c28
     by_cases c29 : (ji27) < (l0_0.length : Int)
     rotate_left
     ·rw [if_neg c29] at H
      exact absurd H (by simp)
     rw [if_pos c29] at H
     have c29b0 := decide_eq_true c29
     clear c29
     by_cases c30 : ((rd_T33 l0_0 (ji27)).f0) ≥ ((rd_T33 l0_0 x3_2).f0)
     ·rw [if_pos c30] at H
      have c30b0 := decide_eq_true c30
      clear c30
      obtain rfl := Option.some.inj H
      have hz31 := Sq.c5 B1.out
      have p107 : 0 ≤ (x3_2 : Int) := Dz
      have q7 : x3_2 < (l0_0.length : Int) := Dz
      obtain ⟨ad7, e7, hx7_0, hx7_1, hx7_2⟩ := at_T33 HR0_0.out x3_2 p107 q7
      cases e7
      replace hx7_0 := Sq.cB HB.out hx7_0
      replace hx7_1 := Sq.cB HB.out hx7_1
      replace hx7_2 := Sq.cB HB.out hx7_2
      replace p107 := eq_true p107
      replace q7 := eq_true q7
      try go_wp2_with (first | ((with_reducible refine gate_dst (N := 4) rfl ?_); (try (refine gate_guard (by rfl) ?_; dsimp only)); refine bE 4 33 #[.int .i64 0, .int .i64 0, .int .i64 0] ?_; intro g8 hg w32 B8 hb; have E8 := gW HB hg; obtain ⟨N1_8, N8_1⟩ := nB B1 hg; replace B1 := kT B1 hb; replace HB := bT HB hb; clear hb hg; have hnb33 := nP N8_1; have hz34 := Sq.c3 B8.out))
      refine gn g8 w32 (.cells #[.int .i64 ((rd_T33 l0_0 x3_2).f0), .int .i64 ((rd_T33 l0_0 x3_2).f1), .int .i64 ((rd_T33 l0_0 x3_2).f2)] 33 (0, 0)) ?hh ?_
      (case hh => apply Sq.put3; exact bS B8.out)
      intro w35 hK_ hG_
      replace B1 := cK B1 hK_ N1_8
      replace HB := cB_ HB hK_ E8
      replace B8 := hG_
      clear hK_
      replace B1 := kD B1
      replace B8 := kD B8
      replace HB := bD HB
      have p12 : 0 ≤ ((ji27) : Int) := Dz
      have q12 : (ji27) < (l0_0.length : Int) := Dz
      obtain ⟨ad12, e12, hx12_0, hx12_1, hx12_2⟩ := at_T33 HR0_0.out (ji27) p12 q12
      have hw112_2 := hx12_2
      have hw112_1 := hx12_1
      have hw112_0 := hx12_0
      obtain rfl : ad7 = ad12 := (by injection e12)
      replace hx12_0 := Sq.cB HB.out hx12_0
      replace hx12_1 := Sq.cB HB.out hx12_1
      replace hx12_2 := Sq.cB HB.out hx12_2
      replace p12 := eq_true p12
      replace q12 := eq_true q12
      refine sT 35 (fun w' => w'.cell? ⟨g8, 0, none⟩ = some (.int .i64 ((rd_T33 l0_0 x3_2).f0)) ∧ w'.cell? ⟨g8, 1, none⟩ = some (.int .i64 ((rd_T33 l0_0 x3_2).f1)) ∧ w'.cell? ⟨g8, 2, none⟩ = some (.int .i64 ((rd_T33 l0_0 x3_2).f2)) ∧ w'.cell? ⟨g1, 0, none⟩ = some (.slice (some ad7) l0_0.length c0_0) ∧ w'.cell? ⟨g1, 1, none⟩ = some (.int .i64 a0_1) ∧ w'.cell? ⟨g1, 2, none⟩ = some (.int .i64 a0_2) ∧ w'.cell? ⟨g1, 3, none⟩ = some (.int .i64 a0_3) ∧ w'.cell? ⟨g1, 4, none⟩ = some (.int .i64 a0_4) ∧ w'.cell? (ad7.add (((ji27)).toNat * 3)) = some (.int .i64 ((rd_T33 l0_0 (ji27)).f0)) ∧ w'.cell? ⟨(ad7.add (((ji27)).toNat * 3)).block, (ad7.add (((ji27)).toNat * 3)).off + 1, none⟩ = some (.int .i64 ((rd_T33 l0_0 (ji27)).f1)) ∧ w'.cell? ⟨(ad7.add (((ji27)).toNat * 3)).block, (ad7.add (((ji27)).toNat * 3)).off + 2, none⟩ = some (.int .i64 ((rd_T33 l0_0 (ji27)).f2))) [] Ff.tab7 Ff.bits7 ⟨bc B8 0, bc B8 1, bc B8 2, bc B1 0, bc B1 1, bc B1 2, bc B1 3, bc B1 4, (cb HB hw112_0), (cb HB hw112_1), (cb HB hw112_2)⟩ fun hHeld HT_ HW_ => ?_
      generalize w35.drew = w36 at B1 B8 HB hx12_0 hx12_1 hx12_2 hHeld ⊢
      refine Pu 0 ?_
      refine Pu 2 ?_
      refine Ta 1 ?_
      refine Ta 3 ?_
      refine Pu 4 ?_
      refine oN 5 fun K hK => ?_
      refine gO Tryz.func55 #[.int .i64 ((rd_T33 l0_0 x3_2).f0), .int .i64 1, .int .i64 (wrap64 (a0_1 - 1))] ?_
      with_reducible refine (Fai.calls ((rd_T33 l0_0 x3_2).f0) 1 (wrap64 (a0_1 - 1)) true _ A20.out).mono ?_
      rintro e w' ⟨rfl, ⟨nd, rfl⟩⟩
      refine ⟨_, rfl, ?_⟩
      refine hK.out _ _ ⟨bc B8 0, bc B8 1, bc B8 2, bc B1 0, bc B1 1, bc B1 2, bc B1 3, bc B1 4, (cb HB hw112_0), (cb HB hw112_1), (cb HB hw112_2)⟩ (fun hHeld => ?_)
      clear hK K
      refine nO 50 ?_
      refine Pu 6 ?_
      refine Pu 7 ?_
      refine Pu 8 ?_
      refine Ta 9 ?_
      refine oN 10 fun K hK => ?_
      refine gO Tryz.func25 #[.int .i64 ((rd_T33 l0_0 x3_2).f1)] ?_
      with_reducible refine (Fah.calls ((rd_T33 l0_0 x3_2).f1) true _ A22.out).mono ?_
      rintro e w' ⟨rfl, ⟨nd, rfl⟩⟩
      refine ⟨_, rfl, ?_⟩
      refine hK.out _ _ ⟨bc B8 0, bc B8 1, bc B8 2, bc B1 0, bc B1 1, bc B1 2, bc B1 3, bc B1 4, (cb HB hw112_0), (cb HB hw112_1), (cb HB hw112_2)⟩ (fun hHeld => ?_)
      clear hK K
      refine nO 55 ?_
      refine Pu 11 ?_
      refine Pu 12 ?_
      refine Pu 13 ?_
      refine Pu 14 ?_
      refine Ta 15 ?_
      refine oN 16 fun K hK => ?_
      refine gO Tryz.func26 #[.int .i64 ((rd_T33 l0_0 x3_2).f2)] ?_
      with_reducible refine (Fal.calls ((rd_T33 l0_0 x3_2).f2) true _ A24.out).mono ?_
      rintro e w' ⟨rfl, ⟨nd, rfl⟩⟩
      refine ⟨_, rfl, ?_⟩
      refine hK.out _ _ ⟨bc B8 0, bc B8 1, bc B8 2, bc B1 0, bc B1 1, bc B1 2, bc B1 3, bc B1 4, (cb HB hw112_0), (cb HB hw112_1), (cb HB hw112_2)⟩ (fun hHeld => ?_)
      clear hK K
      refine nO 61 ?_
      refine Pu 17 ?_
      refine Pu 18 ?_
      refine Pu 19 ?_
      refine Pu 20 ?_
      refine Pu 21 ?_
      refine Pu 22 ?_
      refine Pu 23 ?_
      refine Pu 25 ?_
      refine Pu 26 ?_
      refine Pu 30 ?_
      refine Ta 24 ?_
      refine Pu 27 ?_
      refine Pu 28 ?_
      refine Ta 29 ?_
      refine Ta 31 ?_
      refine Pu 32 ?_
      refine Pu 33 ?_
      refine Pu 34 ?_
      refine dO ?_
      try go_wp2
      go_ret
      exact ⟨by first | rfl | (simp [errW_none, errW_some] <;> rfl) | (simp only [← hji27]; first | rfl | (simp [errW_none, errW_some] <;> rfl)) | (simp [*, errW_none, errW_some] <;> rfl), by exact eS HB.out⟩
     rw [if_neg c30] at H
     have c30b0 := decide_eq_false c30
     clear c30
     have H' := Aside0.mk H
     clear H
     have hz37 := Sq.c5 B1.out
     have p107 : 0 ≤ (x3_2 : Int) := Dz
     have q7 : x3_2 < (l0_0.length : Int) := Dz
     obtain ⟨ad7, e7, hx7_0, hx7_1, hx7_2⟩ := at_T33 HR0_0.out x3_2 p107 q7
     cases e7
     replace hx7_0 := Sq.cB HB.out hx7_0
     replace hx7_1 := Sq.cB HB.out hx7_1
     replace hx7_2 := Sq.cB HB.out hx7_2
     replace p107 := eq_true p107
     replace q7 := eq_true q7
     try go_wp2_with (first | ((with_reducible refine gate_dst (N := 4) rfl ?_); (try (refine gate_guard (by rfl) ?_; dsimp only)); refine bE 4 33 #[.int .i64 0, .int .i64 0, .int .i64 0] ?_; intro g8 hg w38 B8 hb; have E8 := gW HB hg; obtain ⟨N1_8, N8_1⟩ := nB B1 hg; replace B1 := kT B1 hb; replace HB := bT HB hb; clear hb hg; have hnb39 := nP N8_1; have hz40 := Sq.c3 B8.out))
     refine gn g8 w38 (.cells #[.int .i64 ((rd_T33 l0_0 x3_2).f0), .int .i64 ((rd_T33 l0_0 x3_2).f1), .int .i64 ((rd_T33 l0_0 x3_2).f2)] 33 (0, 0)) ?hh ?_
     (case hh => apply Sq.put3; exact bS B8.out)
     intro w41 hK_ hG_
     replace B1 := cK B1 hK_ N1_8
     replace HB := cB_ HB hK_ E8
     replace B8 := hG_
     clear hK_
     replace B1 := kD B1
     replace B8 := kD B8
     replace HB := bD HB
     have p12 : 0 ≤ ((ji27) : Int) := Dz
     have q12 : (ji27) < (l0_0.length : Int) := Dz
     obtain ⟨ad12, e12, hx12_0, hx12_1, hx12_2⟩ := at_T33 HR0_0.out (ji27) p12 q12
     have hw112_2 := hx12_2
     have hw112_1 := hx12_1
     have hw112_0 := hx12_0
     obtain rfl : ad7 = ad12 := (by injection e12)
     replace hx12_0 := Sq.cB HB.out hx12_0
     replace hx12_1 := Sq.cB HB.out hx12_1
     replace hx12_2 := Sq.cB HB.out hx12_2
     replace p12 := eq_true p12
     replace q12 := eq_true q12
     refine sT 35 (fun w' => w'.cell? ⟨g8, 0, none⟩ = some (.int .i64 ((rd_T33 l0_0 x3_2).f0)) ∧ w'.cell? ⟨g8, 1, none⟩ = some (.int .i64 ((rd_T33 l0_0 x3_2).f1)) ∧ w'.cell? ⟨g8, 2, none⟩ = some (.int .i64 ((rd_T33 l0_0 x3_2).f2)) ∧ w'.cell? ⟨g1, 0, none⟩ = some (.slice (some ad7) l0_0.length c0_0) ∧ w'.cell? ⟨g1, 1, none⟩ = some (.int .i64 a0_1) ∧ w'.cell? ⟨g1, 2, none⟩ = some (.int .i64 a0_2) ∧ w'.cell? ⟨g1, 3, none⟩ = some (.int .i64 a0_3) ∧ w'.cell? ⟨g1, 4, none⟩ = some (.int .i64 a0_4) ∧ w'.cell? (ad7.add (((ji27)).toNat * 3)) = some (.int .i64 ((rd_T33 l0_0 (ji27)).f0)) ∧ w'.cell? ⟨(ad7.add (((ji27)).toNat * 3)).block, (ad7.add (((ji27)).toNat * 3)).off + 1, none⟩ = some (.int .i64 ((rd_T33 l0_0 (ji27)).f1)) ∧ w'.cell? ⟨(ad7.add (((ji27)).toNat * 3)).block, (ad7.add (((ji27)).toNat * 3)).off + 2, none⟩ = some (.int .i64 ((rd_T33 l0_0 (ji27)).f2))) [] Ff.tab7 Ff.bits7 ⟨bc B8 0, bc B8 1, bc B8 2, bc B1 0, bc B1 1, bc B1 2, bc B1 3, bc B1 4, (cb HB hw112_0), (cb HB hw112_1), (cb HB hw112_2)⟩ fun hHeld HT_ HW_ => ?_
     generalize w41.drew = w42 at B1 B8 HB hx12_0 hx12_1 hx12_2 hHeld ⊢
     refine Pu 0 ?_
     refine Pu 2 ?_
     refine Ta 1 ?_
     refine Ta 3 ?_
     refine Pu 4 ?_
     refine oN 5 fun K hK => ?_
     refine gO Tryz.func55 #[.int .i64 ((rd_T33 l0_0 x3_2).f0), .int .i64 1, .int .i64 (wrap64 (a0_1 - 1))] ?_
     with_reducible refine (Fai.calls ((rd_T33 l0_0 x3_2).f0) 1 (wrap64 (a0_1 - 1)) true _ A20.out).mono ?_
     rintro e w' ⟨rfl, ⟨nd, rfl⟩⟩
     refine ⟨_, rfl, ?_⟩
     refine hK.out _ _ ⟨bc B8 0, bc B8 1, bc B8 2, bc B1 0, bc B1 1, bc B1 2, bc B1 3, bc B1 4, (cb HB hw112_0), (cb HB hw112_1), (cb HB hw112_2)⟩ (fun hHeld => ?_)
     clear hK K
     refine nO 50 ?_
     refine Pu 6 ?_
     refine Pu 7 ?_
     refine Pu 8 ?_
     refine Ta 9 ?_
     refine oN 10 fun K hK => ?_
     refine gO Tryz.func25 #[.int .i64 ((rd_T33 l0_0 x3_2).f1)] ?_
     with_reducible refine (Fah.calls ((rd_T33 l0_0 x3_2).f1) true _ A22.out).mono ?_
     rintro e w' ⟨rfl, ⟨nd, rfl⟩⟩
     refine ⟨_, rfl, ?_⟩
     refine hK.out _ _ ⟨bc B8 0, bc B8 1, bc B8 2, bc B1 0, bc B1 1, bc B1 2, bc B1 3, bc B1 4, (cb HB hw112_0), (cb HB hw112_1), (cb HB hw112_2)⟩ (fun hHeld => ?_)
     clear hK K
     refine nO 55 ?_
     refine Pu 11 ?_
     refine Pu 12 ?_
     refine Pu 13 ?_
     refine Pu 14 ?_
     refine Ta 15 ?_
     refine oN 16 fun K hK => ?_
     refine gO Tryz.func26 #[.int .i64 ((rd_T33 l0_0 x3_2).f2)] ?_
     with_reducible refine (Fal.calls ((rd_T33 l0_0 x3_2).f2) true _ A24.out).mono ?_
     rintro e w' ⟨rfl, ⟨nd, rfl⟩⟩
     refine ⟨_, rfl, ?_⟩
     refine hK.out _ _ ⟨bc B8 0, bc B8 1, bc B8 2, bc B1 0, bc B1 1, bc B1 2, bc B1 3, bc B1 4, (cb HB hw112_0), (cb HB hw112_1), (cb HB hw112_2)⟩ (fun hHeld => ?_)
     clear hK K
     refine nO 61 ?_
     refine Pu 17 ?_
     refine Pu 18 ?_
     refine Pu 19 ?_
     refine Pu 20 ?_
     refine Pu 21 ?_
     refine Pu 22 ?_
     refine Pu 23 ?_
     refine Pu 25 ?_
     refine Pu 26 ?_
     refine Pu 30 ?_
     refine Ta 24 ?_
     refine Pu 27 ?_
     refine Pu 28 ?_
     refine Ta 29 ?_
     refine Ta 31 ?_
     refine Pu 32 ?_
     refine Pu 33 ?_
     refine Pu 34 ?_
     refine dO ?_
     try go_wp2
     go_roundg k2
     case measure => have := HJ1.out; have := HK2.out; omega
     case rel => exact ⟨(wrap64 (x3_2 + 1)), Ey, H', ⟨by have := HJ1.out; have := HK2.out; omega⟩, ⟨ks B1⟩, ⟨es HB⟩⟩
end
section
attribute [local go_sem ↓] Ho.isSome_setCell_
/-! ### Fs: function 88 -/
def Fs.l0 : Nat → Int → Int → List (S33) → Int → Int → Int → Int → Option (Int)
  | 0, _, _, _, _, _, _, _ => none
  | k + 1, x1, x5, x102000, x102001, x102002, x102003, x102004 => if x5 < (x102000.length : Int) then (if 0 ≤ x5 then (if ((rd_T33 x102000 x5).f0) = x1 then (some x5) else (Fs.l0 k x1 (wrap64 (x5 + 1)) x102000 x102001 x102002 x102003 x102004)) else (none)) else (some (-1))
def Fs.f (k : Nat) (l0_0 : List (S33)) (a0_1 : Int) (a0_2 : Int) (a0_3 : Int) (a0_4 : Int) (a1 : Int) : Option (Int) := Fs.l0 k a1 0 l0_0 a0_1 a0_2 a0_3 a0_4
theorem Fs.mono_l : ∀ k, (∀ y0 y1 y2 y3 y4 y5 y6, LeO (Fs.l0 k y0 y1 y2 y3 y4 y5 y6) (Fs.l0 (k + 1) y0 y1 y2 y3 y4 y5 y6))
  | 0 => fun _ _ _ _ _ _ _ r h => by simp [Fs.l0] at h
  | k + 1 => by
    have ih0 := Fs.mono_l k
    · intro y0 y1 y2 y3 y4 y5 y6
      unfold Fs.l0
      repeat' (with_reducible first | exact ih0 _ _ _ _ _ _ _ | exact LeO.refl _ | exact LeO.none _ | refine LeO.ite ?_ ?_ | refine LeO.bind ?_ (fun _ => ?_))
theorem Fs.mono : ∀ a0 a1 a2 a3 a4 a5 k, LeO (Fs.f k a0 a1 a2 a3 a4 a5) (Fs.f (k + 1) a0 a1 a2 a3 a4 a5) := by
  intro a0 a1 a2 a3 a4 a5 k
  have ih0 := Fs.mono_l k
  unfold Fs.f
  repeat' (with_reducible first | exact ih0 _ _ _ _ _ _ _ | exact LeO.refl _ | exact LeO.none _ | refine LeO.ite ?_ ?_ | refine LeO.bind ?_ (fun _ => ?_))
theorem Fs.calls (k : Nat) (A0_0 : Option Addr) (c0_0 : Nat) (l0_0 : List (S33)) (a0_1 : Int) (a0_2 : Int) (a0_3 : Int) (a0_4 : Int) (a1 : Int) (r : Int) (w : World) (hr0_0 : Kd.C k33 w A0_0 l0_0.length l0_0) (hc0_0 : l0_0.length ≤ c0_0) (h : Fs.f k l0_0 a0_1 a0_2 a0_3 a0_4 a1 = some r) :
  Calls Tryz.prog 88 #[.agg #[.slice A0_0 l0_0.length c0_0, .int .i64 a0_1, .int .i64 a0_2, .int .i64 a0_3, .int .i64 a0_4], .int .i64 a1] w fun e w' => e = .returned (.int .i64 r) ∧ Below w.heap.size w w' := by
 have hu26 := Tryz.underlying26
 have HR0_0 := Aside0.mk hr0_0
 have HC0_0 := Aside0.mk hc0_0
 clear hr0_0 hc0_0
 have HB := Aside0.mk (Below.refl w.heap.size w)
 have H := h
 clear h
 unfold Fs.f at H
 have H' := Aside0.mk H
 clear H
 go_enter Tryz.func88, Tryz.ntmps88
 go_wp2_with (first | (refine bE 2 26 #[.slice A0_0 l0_0.length c0_0, .int .i64 a0_1, .int .i64 a0_2, .int .i64 a0_3, .int .i64 a0_4] ?_; intro g1 hg w3 B1 hb; have E1 := gW HB hg; replace HB := bT HB hb; clear hb hg))
 go_loopg [5] k (fun kq v5 w' => ∃ (x5_1 : Int), v5 = .int .i64 x5_1 ∧ Aside0 (Fs.l0 kq a1 x5_1 l0_0 a0_1 a0_2 a0_3 a0_4 = some r) ∧ Aside0 (kq ≤ k) ∧ Aside0 (w'.heap[g1]? = some (.cells #[(.slice A0_0 l0_0.length c0_0), .int .i64 a0_1, .int .i64 a0_2, .int .i64 a0_3, .int .i64 a0_4] 26 (0, 0))) ∧ Aside0 (Below w.heap.size w w'))
 case atStart => exact ⟨(0), Ey, H', ⟨Nat.le_refl _⟩, ⟨ks B1⟩, ⟨es HB⟩⟩
 case round =>
  clear H'
  try clear p2
  obtain ⟨x5_1, rfl, HA, HK1, B1, HB⟩ := hrel
  cases gk with
  | zero => exact absurd HA.out (by simp [Fs.l0])
  | succ k1 =>
   have H := HA.out
   clear HA
   simp only [Fs.l0] at H
   by_cases c4 : x5_1 < (l0_0.length : Int)
   rotate_left
   ·rw [if_neg c4] at H
    have c4b0 := decide_eq_false c4
    clear c4
    obtain rfl := Option.some.inj H
    have hz9 := Sq.c5 B1.out
    go_wp2
    go_ret
    exact ⟨Ez, by exact eS HB.out⟩
   rw [if_pos c4] at H
   have c4b0 := decide_eq_true c4
   clear c4
   by_cases c5 : 0 ≤ x5_1
   rotate_left
   ·rw [if_neg c5] at H
    exact absurd H (by simp)
   rw [if_pos c5] at H
   have c5b0 := decide_eq_true c5
   clear c5
   by_cases c6 : ((rd_T33 l0_0 x5_1).f0) = a1
   ·rw [if_pos c6] at H
    have c6b0 := beq_iff_eq.mpr c6
    have c6b1 := bne_eq_false_iff_eq.mpr c6
    clear c6
    obtain rfl := Option.some.inj H
    have hz7 := Sq.c5 B1.out
    have p102 : 0 ≤ (x5_1 : Int) := Dz
    have q2 : x5_1 < (l0_0.length : Int) := Dz
    obtain ⟨ad2, e2, hx2_0, hx2_1, hx2_2⟩ := at_T33 HR0_0.out x5_1 p102 q2
    cases e2
    replace hx2_0 := Sq.cB HB.out hx2_0
    replace hx2_1 := Sq.cB HB.out hx2_1
    replace hx2_2 := Sq.cB HB.out hx2_2
    replace p102 := eq_true p102
    replace q2 := eq_true q2
    go_wp2
    go_ret
    exact ⟨Ez, by exact eS HB.out⟩
   rw [if_neg c6] at H
   have c6b0 := beq_eq_false_iff_ne.mpr c6
   have c6b1 := bne_iff_ne.mpr c6
   have H' := Aside0.mk H
   clear H
   have hz8 := Sq.c5 B1.out
   have p102 : 0 ≤ (x5_1 : Int) := Dz
   have q2 : x5_1 < (l0_0.length : Int) := Dz
   obtain ⟨ad2, e2, hx2_0, hx2_1, hx2_2⟩ := at_T33 HR0_0.out x5_1 p102 q2
   cases e2
   replace hx2_0 := Sq.cB HB.out hx2_0
   replace hx2_1 := Sq.cB HB.out hx2_1
   replace hx2_2 := Sq.cB HB.out hx2_2
   replace p102 := eq_true p102
   replace q2 := eq_true q2
   go_wp2
   go_roundg k1
   case measure => have := HK1.out; omega
   case rel => exact ⟨(wrap64 (x5_1 + 1)), Ey, H', ⟨by have := HK1.out; omega⟩, ⟨ks B1⟩, ⟨es HB⟩⟩
end
section
attribute [local go_sem ↓] Ho.isSome_setCell_
/-! ### Fan: function 89 -/
def Fan.f (l0_0 : List (S33)) (a0_1 : Int) (a0_2 : Int) (a0_3 : Int) (a0_4 : Int) : Option ((List (S33)) × Int × Int × Int × Int) := (some (([] : List (S33)) : List (S33))).bind fun y103 => (if y103.length + l0_0.length < 5864062014805 then (some ((y103 ++ l0_0), a0_1, a0_2, a0_3, a0_4)) else (none))
def Fan.T1 : Bool × List (List Nat × List Nat) := (true, [([], []), ([], []), ([1], [1]), ([0, 2], [0, 2]), ([], []), ([4], [4]), ([], []), ([6], [6]), ([], []), ([8], [8]), ([], []), ([10], [10]), ([3, 5, 7, 9, 11], [3, 5, 7, 9, 11]), ([12, 3, 0, 1, 2, 3, 4, 5, 6, 7, 8, 9, 10, 11, 12], [12])])
def Fan.B1 : List Nat := [0, 0, 2, 7, 0, 16, 0, 64, 0, 256, 0, 1024, 4095, 8191]
theorem Fan.tab1 : rtab .any (opsOf Tryz.f89 1) = Fan.T1 := by kernel_rfl
theorem Fan.bits1 : waitsOk Fan.T1.2 Fan.B1 = true := by kernel_rfl
theorem Fan.calls (A0_0 : Option Addr) (c0_0 : Nat) (l0_0 : List (S33)) (a0_1 : Int) (a0_2 : Int) (a0_3 : Int) (a0_4 : Int) (r1 : List (S33)) (r2 : Int) (r3 : Int) (r4 : Int) (r5 : Int) (w : World) (hr0_0 : Kd.C k33 w A0_0 l0_0.length l0_0) (hc0_0 : l0_0.length ≤ c0_0) (h : Fan.f l0_0 a0_1 a0_2 a0_3 a0_4 = some (r1, r2, r3, r4, r5)) :
  Calls Tryz.prog 89 #[.agg #[.slice A0_0 l0_0.length c0_0, .int .i64 a0_1, .int .i64 a0_2, .int .i64 a0_3, .int .i64 a0_4]] w fun e w' => ∃ v0_ : Value, e = .returned (.agg #[v0_, .int .i64 r2, .int .i64 r3, .int .i64 r4, .int .i64 r5]) ∧ Kd.R k33 33 w' w.heap.size (fun _ => True) v0_ r1 ∧ Below w.heap.size w w' := by
 have hu26 := Tryz.underlying26
 have HR0_0 := Aside0.mk hr0_0
 have HC0_0 := Aside0.mk hc0_0
 clear hr0_0 hc0_0
 have HB := Aside0.mk (Below.refl w.heap.size w)
 have H := h
 clear h
 unfold Fan.f at H
 obtain ⟨y3, hy3⟩ : ∃ y_ : List (S33), y_ = (([] : List (S33))) := ⟨_, rfl⟩
 replace H : (if y3.length + l0_0.length < 5864062014805 then (some ((y3 ++ l0_0), a0_1, a0_2, a0_3, a0_4)) else (none)) = some (r1, r2, r3, r4, r5) := by first | (rw [hy3]; with_reducible exact H) | (have H2_ := (Option.bind_some _ _).symm.trans H; rw [hy3]; with_reducible exact H2_) | (have H2_ := (Option.bind_some _ _).symm.trans H; with_reducible exact H2_) | with_reducible exact H | (rw [hy3]; exact H) | exact H
 have Ny3 := Aside0.mk hy3
 clear hy3
 by_cases c2 : y3.length + l0_0.length < 5864062014805
 rotate_left
 ·rw [if_neg c2] at H
  exact absurd H (by simp)
 rw [if_pos c2] at H
 have LMc2 := Aside0.mk c2
 clear c2
 obtain ⟨y6, hy6⟩ : ∃ y_ : List (S33), y_ = (y3 ++ l0_0) := ⟨_, rfl⟩
 replace H : (some (y6, a0_1, a0_2, a0_3, a0_4)) = some (r1, r2, r3, r4, r5) := by first | (rw [hy6]; with_reducible exact H) | (have H2_ := (Option.bind_some _ _).symm.trans H; rw [hy6]; with_reducible exact H2_) | (have H2_ := (Option.bind_some _ _).symm.trans H; with_reducible exact H2_) | with_reducible exact H | (rw [hy6]; exact H) | exact H
 have Ny6 := Aside0.mk hy6
 clear hy6
 simp only [Option.some.injEq, Prod.mk.injEq] at H
 obtain ⟨rfl, rfl, rfl, rfl, rfl⟩ := H
 go_enter Tryz.func89, Tryz.ntmps89
 try go_wp2_with (first | (refine bE 1 26 #[.slice A0_0 l0_0.length c0_0, .int .i64 a0_1, .int .i64 a0_2, .int .i64 a0_3, .int .i64 a0_4] ?_; intro g1 hg w3 BK101 hb; have E1 := gW HB hg; replace HB := bT HB hb; clear hb hg) | (refine bE 2 26 #[.slice none 0 0, .int .i64 0, .int .i64 0, .int .i64 0, .int .i64 0] ?_; intro g2 hg w4 B2 hb; have E2 := gW HB hg; obtain ⟨N1_2, N2_1⟩ := nB BK101 hg; replace BK101 := kT BK101 hb; replace HB := bT HB hb; clear hb hg))
 replace BK101 := kD BK101
 replace B2 := kD B2
 replace HB := bD HB
 refine sT 14 (H5 g1 (.slice A0_0 l0_0.length c0_0) (.int .i64 a0_1) (.int .i64 a0_2) (.int .i64 a0_3) (.int .i64 a0_4)) [] Fan.tab1 Fan.bits1 (h5 BK101) fun hHeld HT_ HW_ => ?_
 generalize w4.drew = w5 at BK101 B2 HB hHeld ⊢
 refine Pu 1 ?_
 refine Pu 4 ?_
 refine Pu 6 ?_
 refine Pu 8 ?_
 refine Pu 10 ?_
 refine Ta 2 ?_
 refine Ta 5 ?_
 refine Ta 7 ?_
 refine Ta 9 ?_
 refine Ta 11 ?_
 refine oN 0 fun K hK => ?_
 refine Kd.R_lit_step k33 _ 33 ?hg (N := 3) ?hd (xs := ([] : List (S33))) (inner := []) (ok := fun _ => True) (okp := fun _ => True) ?hr ?hp (fun _ hk => hk) trivial (Below.refl _ _) (Nat.le_refl _) (by simp) ?_
 (case hd => rfl)
 (case hg => rfl)
 (case hr => first | (go_simp; done) | (go_simp; rfl))
 (case hp => exact (Reps.none _ _))
 intro v4 w6 ho7 hb hg_ hnew_
 clear hg_ hnew_
 (first | rw [← Ny3.out] at ho7 | (simp only [Int.reduceToNat] at ho7; rw [← Ny3.out] at ho7))
 have R5 := lw HB ho7
 replace BK101 := kT BK101 hb
 replace B2 := kT B2 hb
 replace HB := bT HB hb
 clear hb ho7
 refine hK.out _ _ (h5 BK101) (fun hHeld => ?_)
 clear hK K
 refine nO 3 ?_
 refine oN 3 fun K hK => ?_
 refine Kd.R_append_rows_step k33 (w0 := w) w.heap.size (by rfl) (.tmp 3) (.tmp 5) 24 33 (.agg #[(.int .i64 0), (.int .i64 0), (.int .i64 0)]) 24 rfl Tryz.underlying24 info33 rfl (by decide) (by omega) v4 y3 l0_0 _ _ _ (fun _ => True) (fun _ => False) rfl rfl ?aO ?aR (fun _ _ h => h) (fun _ h => h.elim) ?aF ?aB ?aS ?aL ?_
 (case aR => repeat (first | exact (Kd.C_below HR0_0.out HB.out) | (with_reducible refine Kd.C_alloc ?_ _) | (with_reducible refine Kd.C_drewN ?_ _) | (with_reducible refine Kd.C_drew ?_)))
 (case aB => exact (by exact eS HB.out))
 (case aF => exact (fun _ _ => trivial))
 (case aO => exact (by exact Ho.RS <| R5.out))
 (case aS => exact (below_size (by exact eS HB.out)))
 (case aL => have := LMc2.out; omega)
 intro v7 w8 ho hb hg hat
 rw [← Ny6.out] at ho
 have R8 := Ak ho
 replace BK101 := Ak (blk_grown (bS BK101.out) hg (Kd.R_ne R5.out BK101.out (by decide)))
 replace B2 := Ak (blk_grown (bS B2.out) hg (Kd.R_ne R5.out B2.out (by decide)))
 replace HB := Ak hb
 clear R5
 clear ho hb hg hat
 obtain ⟨Ao9, co9, eo9⟩ := Kd.R_slice R8.out
 (first | subst eo9 | (injection eo9 with f1_ f2_ f3_; have f4_ := f1_.symm; have f5_ := f3_.symm; clear f1_ f2_ f3_; subst f4_; subst f5_))
 refine hK.out _ _ (h5 BK101) (fun hHeld => ?_)
 clear hK K
 refine nO 6 ?_
 refine Pu 12 ?_
 refine oN 13 fun K hK => ?_
 have hs10 := Sq.c5 B2.out
 have hns10_0 := nP N1_2
 refine sK ?_
 refine hK.out _ _ ⟨(cf5 N1_2.out hHeld.1), (cf5 N1_2.out hHeld.2.1), (cf5 N1_2.out hHeld.2.2.1), (cf5 N1_2.out hHeld.2.2.2.1), (cf5 N1_2.out hHeld.2.2.2.2)⟩ (fun hHeld => ?_)
 clear hK K
 refine dO ?_
 try go_wp2
 refine bodyPost_ret (results_cell_row rfl _ _ g2 26 #[.slice Ao9 y6.length co9, .int .i64 a0_1, .int .i64 a0_2, .int .i64 a0_3, .int .i64 a0_4] (0, 0) _ rfl (by apply Sq.put5; exact bS B2.out) Tryz.underlying26 rfl (by kernel_rfl)) rfl ?_
 exact ⟨_, Ez, rY5 R8 B2 (fun _ hk => trivial), Bq⟩
end
section
attribute [local go_sem ↓] Ho.isSome_setCell_
/-! ### Faj: function 91 -/
def Faj.f (k : Nat) (l0_0 : List (S33)) (a0_1 : Int) (a0_2 : Int) (a0_3 : Int) (a0_4 : Int) (a1 : Int) (a2 : Int) : Option ((List (S33)) × Int × Int × Int × Int) := (Fan.f l0_0 a0_1 a0_2 a0_3 a0_4).bind fun bt103 => ((Fs.f k l0_0 a0_1 a0_2 a0_3 a0_4 a1).bind fun t111 => (if 0 ≤ t111 then (if t111 < (l0_0.length : Int) then (if ((rd_T33 l0_0 t111).f2) = a2 then ((some (([] : List (S33)) : List (S33))).bind fun y114 => (if t111 ≤ (l0_0.length : Int) then ((some (l0_0.take (t111 : Int).toNat : List (S33))).bind fun y117 => (if y114.length + y117.length < 5864062014805 then ((some (y114 ++ y117 : List (S33))).bind fun y121 => (if 0 ≤ (wrap64 (t111 + 1)) then (if (wrap64 (t111 + 1)) ≤ (l0_0.length : Int) then ((some (l0_0.drop ((wrap64 (t111 + 1)) : Int).toNat : List (S33))).bind fun y124 => (if y121.length + y124.length < 5864062014805 then (some ((y121 ++ y124), bt103.2.1, bt103.2.2.1, bt103.2.2.2.1, bt103.2.2.2.2)) else (none))) else (none)) else (none))) else (none))) else (none))) else (if t111 < (bt103.1.length : Int) then (some ((bt103.1.set (t111 : Int).toNat (⟨(rd_T33 l0_0 t111).f0, (rd_T33 l0_0 t111).f1, wrap64 (((rd_T33 l0_0 t111).f2) - a2)⟩ : S33)), bt103.2.1, bt103.2.2.1, bt103.2.2.2.1, bt103.2.2.2.2)) else (none))) else (none)) else (none)))
theorem Faj.mono : ∀ a0 a1 a2 a3 a4 a5 a6 k, LeO (Faj.f k a0 a1 a2 a3 a4 a5 a6) (Faj.f (k + 1) a0 a1 a2 a3 a4 a5 a6) := by
  intro a0 a1 a2 a3 a4 a5 a6 k
  unfold Faj.f
  repeat' (with_reducible first | apply Fs.mono | exact LeO.refl _ | exact LeO.none _ | refine LeO.ite ?_ ?_ | refine LeO.bind ?_ (fun _ => ?_))
def Faj.T5 : Bool × List (List Nat × List Nat) := (true, [([], []), ([], []), ([1], [1]), ([], []), ([2, 3], [2, 3]), ([0, 4], [0, 4]), ([], []), ([6], [6]), ([], []), ([8], [8]), ([7, 9], [7, 9]), ([5, 10, 5], [5, 10]), ([0, 1, 2, 3, 4, 5, 6, 7, 8, 9, 10, 11], []), ([12, 11, 11, 0, 1, 2, 3, 4, 5, 6, 7, 8, 9, 10, 11], [11, 12])])
def Faj.B5 : List Nat := [0, 0, 2, 0, 14, 31, 0, 64, 0, 256, 960, 2047, 4095, 8191]
theorem Faj.tab5 : rtab .any (opsOf Tryz.f91 5) = Faj.T5 := by kernel_rfl
theorem Faj.bits5 : waitsOk Faj.T5.2 Faj.B5 = true := by kernel_rfl
theorem Faj.calls (k : Nat) (A0_0 : Option Addr) (c0_0 : Nat) (l0_0 : List (S33)) (a0_1 : Int) (a0_2 : Int) (a0_3 : Int) (a0_4 : Int) (a1 : Int) (a2 : Int) (r1 : List (S33)) (r2 : Int) (r3 : Int) (r4 : Int) (r5 : Int) (w : World) (hr0_0 : Kd.C k33 w A0_0 l0_0.length l0_0) (hc0_0 : l0_0.length ≤ c0_0) (h : Faj.f k l0_0 a0_1 a0_2 a0_3 a0_4 a1 a2 = some (r1, r2, r3, r4, r5)) :
  Calls Tryz.prog 91 #[.agg #[.slice A0_0 l0_0.length c0_0, .int .i64 a0_1, .int .i64 a0_2, .int .i64 a0_3, .int .i64 a0_4], .int .i64 a1, .int .i64 a2] w fun e w' => ∃ v0_ : Value, e = .returned (.agg #[v0_, .int .i64 r2, .int .i64 r3, .int .i64 r4, .int .i64 r5]) ∧ Kd.R k33 33 w' w.heap.size (fun _ => True) v0_ r1 ∧ Below w.heap.size w w' := by
 have hu26 := Tryz.underlying26
 have hu33 := Tryz.underlying33
 have HR0_0 := Aside0.mk hr0_0
 have HC0_0 := Aside0.mk hc0_0
 clear hr0_0 hc0_0
 have HB := Aside0.mk (Below.refl w.heap.size w)
 have H := h
 clear h
 unfold Faj.f at H
 obtain ⟨⟨t3, t6, t7, t8, t9⟩, A4, H⟩ := bn H
 (try dsimp only at H)
 obtain ⟨t11, A5, H⟩ := bn H
 (try dsimp only at H)
 by_cases c6 : 0 ≤ t11
 rotate_left
 ·rw [if_neg c6] at H
  exact absurd H (by simp)
 rw [if_pos c6] at H
 have c6b0 := decide_eq_true c6
 clear c6
 by_cases c7 : t11 < (l0_0.length : Int)
 rotate_left
 ·rw [if_neg c7] at H
  exact absurd H (by simp)
 rw [if_pos c7] at H
 have c7b0 := decide_eq_true c7
 clear c7
 by_cases c8 : ((rd_T33 l0_0 t11).f2) = a2
 rotate_left
 ·rw [if_neg c8] at H
  have c8b0 := beq_eq_false_iff_ne.mpr c8
  have c8b1 := bne_iff_ne.mpr c8
  by_cases c46 : t11 < (t3.length : Int)
  rotate_left
  ·rw [if_neg c46] at H
   exact absurd H (by simp)
  rw [if_pos c46] at H
  have c46b0 := decide_eq_true c46
  clear c46
  obtain ⟨y31, hy31⟩ : ∃ y_ : List (S33), y_ = (t3.set (t11 : Int).toNat (⟨(rd_T33 l0_0 t11).f0, (rd_T33 l0_0 t11).f1, wrap64 (((rd_T33 l0_0 t11).f2) - a2)⟩ : S33)) := ⟨_, rfl⟩
  replace H : (some (y31, t6, t7, t8, t9)) = some (r1, r2, r3, r4, r5) := by first | (rw [hy31]; with_reducible exact H) | (have H2_ := (Option.bind_some _ _).symm.trans H; rw [hy31]; with_reducible exact H2_) | (have H2_ := (Option.bind_some _ _).symm.trans H; with_reducible exact H2_) | with_reducible exact H | (rw [hy31]; exact H) | exact H
  have Ny31 := Aside0.mk hy31
  clear hy31
  simp only [Option.some.injEq, Prod.mk.injEq] at H
  obtain ⟨rfl, rfl, rfl, rfl, rfl⟩ := H
  go_enter Tryz.func91, Tryz.ntmps91
  go_wp2_with (first | (refine bE 3 26 #[.slice A0_0 l0_0.length c0_0, .int .i64 a0_1, .int .i64 a0_2, .int .i64 a0_3, .int .i64 a0_4] ?_; intro g1 hg w48 B1 hb; have E1 := gW HB hg; replace HB := bT HB hb; clear hb hg) | (refine bE 6 26 #[.slice none 0 0, .int .i64 0, .int .i64 0, .int .i64 0, .int .i64 0] ?_; intro g2 hg w49 B2 hb; have E2 := gW HB hg; obtain ⟨N1_2, N2_1⟩ := nB B1 hg; replace B1 := kT B1 hb; replace HB := bT HB hb; clear hb hg; have hnb50 := nP N1_2; have hz51 := Sq.c5 B1.out) | (refine cE (some 11) Tryz.func89 #[.agg #[.slice A0_0 l0_0.length c0_0, .int .i64 a0_1, .int .i64 a0_2, .int .i64 a0_3, .int .i64 a0_4]] ?_; (with_reducible refine (Fan.calls _ _ l0_0 a0_1 a0_2 a0_3 a0_4 t3 t6 t7 t8 t9 _ ?side1 ?side2 A4.out).mono ?_); (case side1 => exact Cs (Kd.C_below HR0_0.out HB.out)); (case side2 => exact HC0_0.out); rintro e w52 ⟨v4, rfl, ho0, hb⟩; refine ⟨_, rfl, ?_⟩; have R5 := lw HB ho0; replace B1 := kT B1 hb; replace B2 := kT B2 hb; replace HB := bT HB hb; clear hb; (try clear ho0)) | (refine bE 7 26 #[.slice none 0 0, .int .i64 0, .int .i64 0, .int .i64 0, .int .i64 0] ?_; intro g10 hg w53 B10 hb; have E10 := gW HB hg; obtain ⟨N1_10, N10_1⟩ := nB B1 hg; obtain ⟨N2_10, N10_2⟩ := nB B2 hg; replace R5 := rT R5 hb; replace B1 := kT B1 hb; replace B2 := kT B2 hb; replace HB := bT HB hb; clear hb hg; obtain ⟨Ao54, co54, eo54⟩ := Kd.R_slice R5.out; subst eo54; have hnb55 := nP N10_1; have hnb56 := nP N10_2; have hz57 := Sq.c5 B10.out; have hz58 := Sq.c5 B1.out) | (refine cE (some 14) Tryz.func88 #[.agg #[.slice A0_0 l0_0.length c0_0, .int .i64 a0_1, .int .i64 a0_2, .int .i64 a0_3, .int .i64 a0_4], .int .i64 a1] ?_; (with_reducible refine (Fs.calls k _ _ l0_0 a0_1 a0_2 a0_3 a0_4 a1 t11 _ ?side1 ?side2 A5.out).mono ?_); (case side1 => exact Kd.C_below HR0_0.out (Bq)); (case side2 => exact HC0_0.out); rintro e w59 ⟨rfl, hb⟩; refine ⟨_, rfl, ?_⟩; replace R5 := Ak (Kd.R_below (by exact Ho.RS <| (Kd.R_mono (Kd.R_far (p := ⟨g10, 4, none⟩) (Kd.R_far (p := ⟨g10, 3, none⟩) (Kd.R_far (p := ⟨g10, 2, none⟩) (Kd.R_far (p := ⟨g10, 1, none⟩) (Kd.R_far (p := ⟨g10, 0, none⟩) (Kd.R_types R5.out B10.out (by decide)) (fun _ hk => hk.2) (.slice Ao54 t3.length co54)) (fun _ hk => hk.2) (.int .i64 t6)) (fun _ hk => hk.2) (.int .i64 t7)) (fun _ hk => hk.2) (.int .i64 t8)) (fun _ hk => hk.2) (.int .i64 t9)) (fun _ h_ => h_.1))) hb); replace B1 := Ak (blk_below (g := g1) (o := .cells #[.slice A0_0 l0_0.length c0_0, .int .i64 a0_1, .int .i64 a0_2, .int .i64 a0_3, .int .i64 a0_4] 26 (0, 0)) (Kz) hb); replace B2 := Ak (blk_below (g := g2) (o := .cells #[.slice none 0 0, .int .i64 0, .int .i64 0, .int .i64 0, .int .i64 0] 26 (0, 0)) (Kz) hb); replace B10 := Ak (blk_below (g := g10) (o := .cells #[.slice Ao54 t3.length co54, .int .i64 t6, .int .i64 t7, .int .i64 t8, .int .i64 t9] 26 (0, 0)) (by apply Sq.put5; exact bS B10.out) hb); replace HB := Ak (below_step (Bq) hb); clear hb; have hz60 := Sq.c5 B1.out; have p12 : 0 ≤ (t11 : Int) := Dz; have q12 : t11 < (l0_0.length : Int) := Dz; obtain ⟨ad12, e12, hx12_0, hx12_1, hx12_2⟩ := at_T33 HR0_0.out t11 p12 q12; cases e12; replace hx12_0 := Sq.cB HB.out hx12_0; replace hx12_1 := Sq.cB HB.out hx12_1; replace hx12_2 := Sq.cB HB.out hx12_2; replace p12 := eq_true p12; replace q12 := eq_true q12) | (refine bE 9 33 #[.int .i64 0, .int .i64 0, .int .i64 0] ?_; intro g13 hg w61 B13 hb; have E13 := gW HB hg; obtain ⟨N1_13, N13_1⟩ := nB B1 hg; obtain ⟨N2_13, N13_2⟩ := nB B2 hg; obtain ⟨N10_13, N13_10⟩ := nB B10 hg; replace R5 := rE R5 hg hb; replace B1 := kT B1 hb; replace B2 := kT B2 hb; replace B10 := kT B10 hb; replace HB := bT HB hb; clear hb hg; have hnb62 := nP N13_1; have hnb63 := nP N13_2; have hnb64 := nP N13_10; have hz65 := Sq.c3 B13.out) | ((with_reducible refine gate_store (t := 33) (p := 9) rfl ?_); refine store_event (t := 33) (p := 9) (v := ?vo_w66) (w1 := (((w61.setCell ⟨g13, 0, none⟩ (.int .i64 ((rd_T33 l0_0 t11).f0))).setCell ⟨g13, 1, none⟩ (.int .i64 ((rd_T33 l0_0 t11).f1))).setCell ⟨g13, 2, none⟩ (.int .i64 ((rd_T33 l0_0 t11).f2)))) ?hg ?ho ?hn ?hr ?_; (case ho => rfl); (case hg => rfl); (case hn => rfl); (case hr => first | (go_simp; done) | (go_simp; rfl)); intro w66 hw; have n0_ : Aside0 (Kd.R k33 33 w66 w.heap.size (fun k_ => k_ ≠ g13) (.slice Ao54 t3.length co54) t3) := ⟨(by rw [hw]; exact (by exact Ho.RS <| Kd.R_mono (Kd.R_far (p := ⟨g13, 2, none⟩) (Kd.R_far (p := ⟨g13, 1, none⟩) (Kd.R_far (p := ⟨g13, 0, none⟩) (Kd.R_mono R5.out (fun k_ hk => (⟨hk, hk.2⟩ : _ ∧ k_ ≠ g13))) (fun _ hk => hk.2) (.int .i64 ((rd_T33 l0_0 t11).f0))) (fun _ hk => hk.2) (.int .i64 ((rd_T33 l0_0 t11).f1))) (fun _ hk => hk.2) (.int .i64 ((rd_T33 l0_0 t11).f2))) (fun _ hk => hk.1.2)))⟩; have n1_ : Aside0 (w66.heap[g1]? = some (.cells #[.slice (some ad12) l0_0.length c0_0, .int .i64 a0_1, .int .i64 a0_2, .int .i64 a0_3, .int .i64 a0_4] 26 (0, 0))) := ⟨(by rw [hw]; exact (Kz))⟩; have n2_ : Aside0 (w66.heap[g2]? = some (.cells #[.slice none 0 0, .int .i64 0, .int .i64 0, .int .i64 0, .int .i64 0] 26 (0, 0))) := ⟨(by rw [hw]; exact (Kz))⟩; have n3_ : Aside0 (w66.heap[g10]? = some (.cells #[.slice Ao54 t3.length co54, .int .i64 t6, .int .i64 t7, .int .i64 t8, .int .i64 t9] 26 (0, 0))) := ⟨(by rw [hw]; exact (Kz))⟩; have n4_ : Aside0 (w66.heap[g13]? = some (.cells #[.int .i64 ((rd_T33 l0_0 t11).f0), .int .i64 ((rd_T33 l0_0 t11).f1), .int .i64 ((rd_T33 l0_0 t11).f2)] 33 (0, 0))) := ⟨(by rw [hw]; exact (by apply Sq.put3; exact bS B13.out))⟩; have n5_ : Aside0 (Below w.heap.size w w66) := ⟨(by rw [hw]; exact (Bq))⟩; clear hw; clear R5; clear B1; clear B2; clear B10; clear B13; clear HB; have R5 := n0_; have B1 := n1_; have B2 := n2_; have B10 := n3_; have B13 := n4_; have HB := n5_; clear n0_ n1_ n2_ n3_ n4_ n5_; have hz67 := Sq.c3 B13.out; have hz68 := Sq.c5 B10.out; have p47 : 0 ≤ (t11 : Int) := Dz; have q47 : (t11 : Int) < ((t3.length : Int) : Int) := Dz; obtain ⟨go47, co47, eo47, g47, gl47, cl47, HG47⟩ := Kd.R_form R5.out (by omega); (first | cases eo47 | (injection eo47 with ea_ en_ ec_; (first | subst ea_ | (injection ea_ with ea_; subst ea_)); subst ec_; clear en_)); have K47 := Aside0.mk g47; have GG47 := Aside0.mk HG47; clear g47 gl47 HG47; obtain ⟨ce47, hcl47, hM47, hcc47, hfr47⟩ := Kd.R_elem R5.out z33 (t11 : Int) p47 q47; obtain rfl := k33_openM hM47; have hx47_0 : w66.cell? ⟨go47, (t11 : Int).toNat * 3, none⟩ = some (.int .i64 ((rd_T33 t3 t11).f0)) := hcc47 0 _ rfl; have hx47_1 : w66.cell? ⟨go47, (t11 : Int).toNat * 3 + 1, none⟩ = some (.int .i64 ((rd_T33 t3 t11).f1)) := hcc47 1 _ rfl; have hx47_2 : w66.cell? ⟨go47, (t11 : Int).toNat * 3 + 2, none⟩ = some (.int .i64 ((rd_T33 t3 t11).f2)) := hcc47 2 _ rfl; have hf47_0 : w66.frozen? ⟨go47, (t11 : Int).toNat * 3, none⟩ = false := hfr47 0; have hf47_1 : w66.frozen? ⟨go47, (t11 : Int).toNat * 3 + 1, none⟩ = false := hfr47 1; have hf47_2 : w66.frozen? ⟨go47, (t11 : Int).toNat * 3 + 2, none⟩ = false := hfr47 2; clear hcl47 hcc47 hfr47 hM47; replace p47 := eq_true p47; replace q47 := eq_true q47; have HX69 := Aside0.mk (show Kd.R k33 33 w66 w.heap.size (fun k_ => k_ ≠ g13) (.slice (some ⟨go47, 0, none⟩) t3.length co54) t3 from (by exact Ho.RS <| R5.out)); obtain ⟨ce69, hcl69, hM69, hcc69, hfr69⟩ := Kd.R_elem HX69.out z33 (t11 : Int) (Dz) (by have h_ : (t11 : Int) < ((t3.length : Int) : Int) := Dz; first | exact h_ | (have e_ := (Kd.R_reads' R5.out).1; omega) | simpa using h_); obtain rfl := k33_openM hM69; have HP69 := Kd.R_seg HX69.out (t11 : Int) (Dz) (by have h_ : (t11 : Int) < ((t3.length : Int) : Int) := Dz; first | exact h_ | (have e_ := (Kd.R_reads' R5.out).1; omega) | simpa using h_) (seg := [.int .i64 ((rd_T33 l0_0 t11).f0), .int .i64 ((rd_T33 l0_0 t11).f1), .int .i64 (wrap64 (((rd_T33 l0_0 t11).f2) - a2))]) (j := 0) hcl69 hcc69 (show 3 ≤ 3 from by decide) (x' := (⟨(rd_T33 l0_0 t11).f0, (rd_T33 l0_0 t11).f1, wrap64 (((rd_T33 l0_0 t11).f2) - a2)⟩ : S33)) (k33_mkM _ _ _ (⟨(rd_T33 l0_0 t11).f0, (rd_T33 l0_0 t11).f1, wrap64 (((rd_T33 l0_0 t11).f2) - a2)⟩ : S33) ) (fun _ hk => hk); have hx69_0 := hcc69 0 _ rfl; (try simp only [show (k33).sz = 3 from rfl, Nat.mul_one, Nat.add_zero] at hx69_0); have hf69_0 := hfr69 0; (try simp only [show (k33).sz = 3 from rfl, Nat.mul_one, Nat.add_zero] at hf69_0); have hx69_1 := hcc69 1 _ rfl; (try simp only [show (k33).sz = 3 from rfl, Nat.mul_one, Nat.add_zero] at hx69_1); have hf69_1 := hfr69 1; (try simp only [show (k33).sz = 3 from rfl, Nat.mul_one, Nat.add_zero] at hf69_1); have hx69_2 := hcc69 2 _ rfl; (try simp only [show (k33).sz = 3 from rfl, Nat.mul_one, Nat.add_zero] at hx69_2); have hf69_2 := hfr69 2; (try simp only [show (k33).sz = 3 from rfl, Nat.mul_one, Nat.add_zero] at hf69_2); clear hcl69 hcc69 hfr69 hM69) | ((with_reducible refine gate_store (t := 33) (p := 50) rfl ?_); refine store_event (t := 33) (p := 50) (v := ?vo_w70) (w1 := (((w66.setCell ⟨go47, (t11 : Int).toNat * 3, none⟩ (.int .i64 ((rd_T33 l0_0 t11).f0))).setCell ⟨go47, (t11 : Int).toNat * 3 + 1, none⟩ (.int .i64 ((rd_T33 l0_0 t11).f1))).setCell ⟨go47, (t11 : Int).toNat * 3 + 2, none⟩ (.int .i64 (wrap64 (((rd_T33 l0_0 t11).f2) - a2))))) ?hg ?ho ?hn ?hr ?_; (case ho => rfl); (case hg => rfl); (case hn => rfl); (case hr => first | (go_simp; done) | (go_simp; rfl)); intro w70 hw; have hg : w66.grownBy w70 (some go47) := (by rw [hw]; exact HP69.2); have hp_ : Kd.R k33 33 w70 w.heap.size (fun k_ => k_ ≠ g13) (.slice (some ⟨go47, 0, none⟩) t3.length co54) y31 := (by rw [hw, Ny31.out]; exact HP69.1); clear HP69; replace B1 := Ak (blk_grown (bS B1.out) hg (Kd.R_ne R5.out B1.out (by decide))); replace B2 := Ak (blk_grown (bS B2.out) hg (Kd.R_ne R5.out B2.out (by decide))); replace B10 := Ak (blk_grown (bS B10.out) hg (Kd.R_ne R5.out B10.out (by decide))); replace B13 := Ak (blk_grown (bS B13.out) hg (Kd.R_away R5.out (fun _ hk => hk))); replace R5 := Ak hp_; replace HB := Ak ((by rw [hw]; exact below_set (below_set (below_set (HB.out) K47.out) K47.out) K47.out : Below w.heap.size w w70)); clear hg hw hp_; have hz71 := Sq.c5 B10.out; have hz72 := Sq.c5 B2.out))
  refine bodyPost_ret (results_cell_row rfl _ _ g2 26 #[.slice (some ⟨go47, 0, none⟩) t3.length co54, .int .i64 t6, .int .i64 t7, .int .i64 t8, .int .i64 t9] (0, 0) _ rfl (by apply Sq.put5; exact bS B2.out) Tryz.underlying26 rfl (by kernel_rfl)) rfl ?_
  exact ⟨_, Ez, rY5 R5 B2 (fun _ hk => trivial), Bq⟩
 rw [if_pos c8] at H
 have c8b0 := beq_iff_eq.mpr c8
 have c8b1 := bne_eq_false_iff_eq.mpr c8
 clear c8
 obtain ⟨y14, hy14⟩ : ∃ y_ : List (S33), y_ = (([] : List (S33))) := ⟨_, rfl⟩
 replace H : (if t11 ≤ (l0_0.length : Int) then ((some (l0_0.take (t11 : Int).toNat : List (S33))).bind fun y17 => (if y14.length + y17.length < 5864062014805 then ((some (y14 ++ y17 : List (S33))).bind fun y21 => (if 0 ≤ (wrap64 (t11 + 1)) then (if (wrap64 (t11 + 1)) ≤ (l0_0.length : Int) then ((some (l0_0.drop ((wrap64 (t11 + 1)) : Int).toNat : List (S33))).bind fun y24 => (if y21.length + y24.length < 5864062014805 then (some ((y21 ++ y24), t6, t7, t8, t9)) else (none))) else (none)) else (none))) else (none))) else (none)) = some (r1, r2, r3, r4, r5) := by first | (rw [hy14]; with_reducible exact H) | (have H2_ := (Option.bind_some _ _).symm.trans H; rw [hy14]; with_reducible exact H2_) | (have H2_ := (Option.bind_some _ _).symm.trans H; with_reducible exact H2_) | with_reducible exact H | (rw [hy14]; exact H) | exact H
 have Ny14 := Aside0.mk hy14
 clear hy14
 have c9b0 := eq_true (Dz : 0 ≤ t11)
 by_cases c10 : t11 ≤ (l0_0.length : Int)
 rotate_left
 ·rw [if_neg c10] at H
  exact absurd H (by simp)
 rw [if_pos c10] at H
 have c10b0 := eq_true c10
 have c10b1 := decide_eq_true c10
 clear c10
 obtain ⟨y17, hy17⟩ : ∃ y_ : List (S33), y_ = (l0_0.take (t11 : Int).toNat) := ⟨_, rfl⟩
 replace H : (if y14.length + y17.length < 5864062014805 then ((some (y14 ++ y17 : List (S33))).bind fun y21 => (if 0 ≤ (wrap64 (t11 + 1)) then (if (wrap64 (t11 + 1)) ≤ (l0_0.length : Int) then ((some (l0_0.drop ((wrap64 (t11 + 1)) : Int).toNat : List (S33))).bind fun y24 => (if y21.length + y24.length < 5864062014805 then (some ((y21 ++ y24), t6, t7, t8, t9)) else (none))) else (none)) else (none))) else (none)) = some (r1, r2, r3, r4, r5) := by first | (rw [hy17]; with_reducible exact H) | (have H2_ := (Option.bind_some _ _).symm.trans H; rw [hy17]; with_reducible exact H2_) | (have H2_ := (Option.bind_some _ _).symm.trans H; with_reducible exact H2_) | with_reducible exact H | (rw [hy17]; exact H) | exact H
 have Ny17 := Aside0.mk hy17
 clear hy17
 by_cases c11 : y14.length + y17.length < 5864062014805
 rotate_left
 ·rw [if_neg c11] at H
  exact absurd H (by simp)
 rw [if_pos c11] at H
 have LMc11 := Aside0.mk c11
 clear c11
 obtain ⟨y21, hy21⟩ : ∃ y_ : List (S33), y_ = (y14 ++ y17) := ⟨_, rfl⟩
 replace H : (if 0 ≤ (wrap64 (t11 + 1)) then (if (wrap64 (t11 + 1)) ≤ (l0_0.length : Int) then ((some (l0_0.drop ((wrap64 (t11 + 1)) : Int).toNat : List (S33))).bind fun y24 => (if y21.length + y24.length < 5864062014805 then (some ((y21 ++ y24), t6, t7, t8, t9)) else (none))) else (none)) else (none)) = some (r1, r2, r3, r4, r5) := by first | (rw [hy21]; with_reducible exact H) | (have H2_ := (Option.bind_some _ _).symm.trans H; rw [hy21]; with_reducible exact H2_) | (have H2_ := (Option.bind_some _ _).symm.trans H; with_reducible exact H2_) | with_reducible exact H | (rw [hy21]; exact H) | exact H
 have Ny21 := Aside0.mk hy21
 clear hy21
 obtain ⟨ji12, hji12⟩ : ∃ j_ : Int, (wrap64 (t11 + 1)) = j_ := ⟨_, rfl⟩
 replace H : (if 0 ≤ (ji12) then (if (ji12) ≤ (l0_0.length : Int) then ((some (l0_0.drop ((ji12) : Int).toNat : List (S33))).bind fun y24 => (if y21.length + y24.length < 5864062014805 then (some ((y21 ++ y24), t6, t7, t8, t9)) else (none))) else (none)) else (none)) = some (r1, r2, r3, r4, r5) := by first | (rw [hji12] at H; exact H) | (simp only [hji12] at H ⊢; exact H)
 (try rw [hji12] at A4)
 (try rw [hji12] at A5)
 have hji12w : (IntKind.i64.wrap (t11 + 1)) = ji12 := (i64_w _).trans hji12
 by_cases c13 : 0 ≤ (ji12)
 rotate_left
 ·rw [if_neg c13] at H
  exact absurd H (by simp)
 rw [if_pos c13] at H
 have c13b0 := eq_true c13
 have c13b1 := decide_eq_true c13
 clear c13
 by_cases c14 : (ji12) ≤ (l0_0.length : Int)
 rotate_left
 ·rw [if_neg c14] at H
  exact absurd H (by simp)
 rw [if_pos c14] at H
 have c14b0 := eq_true c14
 have c14b1 := decide_eq_true c14
 clear c14
 obtain ⟨y24, hy24⟩ : ∃ y_ : List (S33), y_ = (l0_0.drop ((ji12) : Int).toNat) := ⟨_, rfl⟩
 replace H : (if y21.length + y24.length < 5864062014805 then (some ((y21 ++ y24), t6, t7, t8, t9)) else (none)) = some (r1, r2, r3, r4, r5) := by first | (rw [hy24]; with_reducible exact H) | (have H2_ := (Option.bind_some _ _).symm.trans H; rw [hy24]; with_reducible exact H2_) | (have H2_ := (Option.bind_some _ _).symm.trans H; with_reducible exact H2_) | with_reducible exact H | (rw [hy24]; exact H) | exact H
 have Ny24 := Aside0.mk hy24
 clear hy24
 by_cases c15 : y21.length + y24.length < 5864062014805
 rotate_left
 ·rw [if_neg c15] at H
  exact absurd H (by simp)
 rw [if_pos c15] at H
 have LMc15 := Aside0.mk c15
 clear c15
 obtain ⟨y28, hy28⟩ : ∃ y_ : List (S33), y_ = (y21 ++ y24) := ⟨_, rfl⟩
 replace H : (some (y28, t6, t7, t8, t9)) = some (r1, r2, r3, r4, r5) := by first | (rw [hy28]; with_reducible exact H) | (have H2_ := (Option.bind_some _ _).symm.trans H; rw [hy28]; with_reducible exact H2_) | (have H2_ := (Option.bind_some _ _).symm.trans H; with_reducible exact H2_) | with_reducible exact H | (rw [hy28]; exact H) | exact H
 have Ny28 := Aside0.mk hy28
 clear hy28
 simp only [Option.some.injEq, Prod.mk.injEq] at H
 obtain ⟨rfl, rfl, rfl, rfl, rfl⟩ := H
 go_enter Tryz.func91, Tryz.ntmps91
 try go_wp2_with (first | (refine bE 3 26 #[.slice A0_0 l0_0.length c0_0, .int .i64 a0_1, .int .i64 a0_2, .int .i64 a0_3, .int .i64 a0_4] ?_; intro g1 hg w16 B1 hb; have E1 := gW HB hg; replace HB := bT HB hb; clear hb hg) | (refine bE 6 26 #[.slice none 0 0, .int .i64 0, .int .i64 0, .int .i64 0, .int .i64 0] ?_; intro g2 hg w17 B2 hb; have E2 := gW HB hg; obtain ⟨N1_2, N2_1⟩ := nB B1 hg; replace B1 := kT B1 hb; replace HB := bT HB hb; clear hb hg; have hnb18 := nP N1_2; have hz19 := Sq.c5 B1.out) | (refine cE (some 11) Tryz.func89 #[.agg #[.slice A0_0 l0_0.length c0_0, .int .i64 a0_1, .int .i64 a0_2, .int .i64 a0_3, .int .i64 a0_4]] ?_; (with_reducible refine (Fan.calls _ _ l0_0 a0_1 a0_2 a0_3 a0_4 t3 t6 t7 t8 t9 _ ?side1 ?side2 A4.out).mono ?_); (case side1 => exact Cs (Kd.C_below HR0_0.out HB.out)); (case side2 => exact HC0_0.out); rintro e w20 ⟨v4, rfl, ho0, hb⟩; refine ⟨_, rfl, ?_⟩; have R5 := lw HB ho0; replace B1 := kT B1 hb; replace B2 := kT B2 hb; replace HB := bT HB hb; clear hb; (try clear ho0)) | (refine bE 7 26 #[.slice none 0 0, .int .i64 0, .int .i64 0, .int .i64 0, .int .i64 0] ?_; intro g10 hg w21 B10 hb; have E10 := gW HB hg; obtain ⟨N1_10, N10_1⟩ := nB B1 hg; obtain ⟨N2_10, N10_2⟩ := nB B2 hg; replace R5 := rT R5 hb; replace B1 := kT B1 hb; replace B2 := kT B2 hb; replace HB := bT HB hb; clear hb hg; obtain ⟨Ao22, co22, eo22⟩ := Kd.R_slice R5.out; subst eo22; have hnb23 := nP N10_1; have hnb24 := nP N10_2; have hz25 := Sq.c5 B10.out; have hz26 := Sq.c5 B1.out) | (refine cE (some 14) Tryz.func88 #[.agg #[.slice A0_0 l0_0.length c0_0, .int .i64 a0_1, .int .i64 a0_2, .int .i64 a0_3, .int .i64 a0_4], .int .i64 a1] ?_; (with_reducible refine (Fs.calls k _ _ l0_0 a0_1 a0_2 a0_3 a0_4 a1 t11 _ ?side1 ?side2 A5.out).mono ?_); (case side1 => exact Kd.C_below HR0_0.out (Bq)); (case side2 => exact HC0_0.out); rintro e w27 ⟨rfl, hb⟩; refine ⟨_, rfl, ?_⟩; replace R5 := Ak (Kd.R_below (by exact Ho.RS <| (Kd.R_mono (Kd.R_far (p := ⟨g10, 4, none⟩) (Kd.R_far (p := ⟨g10, 3, none⟩) (Kd.R_far (p := ⟨g10, 2, none⟩) (Kd.R_far (p := ⟨g10, 1, none⟩) (Kd.R_far (p := ⟨g10, 0, none⟩) (Kd.R_types R5.out B10.out (by decide)) (fun _ hk => hk.2) (.slice Ao22 t3.length co22)) (fun _ hk => hk.2) (.int .i64 t6)) (fun _ hk => hk.2) (.int .i64 t7)) (fun _ hk => hk.2) (.int .i64 t8)) (fun _ hk => hk.2) (.int .i64 t9)) (fun _ h_ => h_.1))) hb); replace B1 := Ak (blk_below (g := g1) (o := .cells #[.slice A0_0 l0_0.length c0_0, .int .i64 a0_1, .int .i64 a0_2, .int .i64 a0_3, .int .i64 a0_4] 26 (0, 0)) (Kz) hb); replace B2 := Ak (blk_below (g := g2) (o := .cells #[.slice none 0 0, .int .i64 0, .int .i64 0, .int .i64 0, .int .i64 0] 26 (0, 0)) (Kz) hb); replace B10 := Ak (blk_below (g := g10) (o := .cells #[.slice Ao22 t3.length co22, .int .i64 t6, .int .i64 t7, .int .i64 t8, .int .i64 t9] 26 (0, 0)) (by apply Sq.put5; exact bS B10.out) hb); replace HB := Ak (below_step (Bq) hb); clear hb; have hz28 := Sq.c5 B1.out; have p12 : 0 ≤ (t11 : Int) := Dz; have q12 : t11 < (l0_0.length : Int) := Dz; obtain ⟨ad12, e12, hx12_0, hx12_1, hx12_2⟩ := at_T33 HR0_0.out t11 p12 q12; cases e12; replace hx12_0 := Sq.cB HB.out hx12_0; replace hx12_1 := Sq.cB HB.out hx12_1; replace hx12_2 := Sq.cB HB.out hx12_2; replace p12 := eq_true p12; replace q12 := eq_true q12) | (refine bE 9 33 #[.int .i64 0, .int .i64 0, .int .i64 0] ?_; intro g13 hg w29 B13 hb; have E13 := gW HB hg; obtain ⟨N1_13, N13_1⟩ := nB B1 hg; obtain ⟨N2_13, N13_2⟩ := nB B2 hg; obtain ⟨N10_13, N13_10⟩ := nB B10 hg; replace R5 := rE R5 hg hb; replace B1 := kT B1 hb; replace B2 := kT B2 hb; replace B10 := kT B10 hb; replace HB := bT HB hb; clear hb hg; have hnb30 := nP N13_1; have hnb31 := nP N13_2; have hnb32 := nP N13_10; have hz33 := Sq.c3 B13.out))
 refine gn g13 w29 (.cells #[.int .i64 ((rd_T33 l0_0 t11).f0), .int .i64 ((rd_T33 l0_0 t11).f1), .int .i64 ((rd_T33 l0_0 t11).f2)] 33 (0, 0)) ?hh ?_
 (case hh => apply Sq.put3; exact bS B13.out)
 intro w34 hK_ hG_
 replace R5 := cQ (ok' := (fun k_ => k_ ≠ g13)) R5 (fun k_ hk => (⟨hk, hk.2⟩ : _ ∧ k_ ≠ g13)) hK_ (fun _ hk => hk.1.2)
 replace B1 := cK B1 hK_ N1_13
 replace B2 := cK B2 hK_ N2_13
 replace B10 := cK B10 hK_ N10_13
 replace HB := cB_ HB hK_ E13
 replace B13 := hG_
 clear hK_
 replace R5 := rD R5
 replace B1 := kD B1
 replace B2 := kD B2
 replace B10 := kD B10
 replace B13 := kD B13
 replace HB := bD HB
 have q36 : (t11 : Int) ≤ ((l0_0.length : Int) : Int) := Dz
 obtain ⟨i036, hi036, _, hsz36, _⟩ := info_parts info33
 have hroom36 : l0_0.length ≤ c0_0 := HC0_0.out
 have hC36 : Kd.C k33 _ (some ad12) l0_0.length l0_0 := HR0_0.out
 have hcut36 := cut_to (P := Tryz.prog) 24 33 .i64 Tryz.underlying24 hi036 (some ad12) l0_0.length c0_0 t11 (Dz) q36 hroom36
 have hr36 := Kd.C_take (m := (t11 : Int).toNat) hC36 (by omega)
 have hy36 : y17.length = (t11 : Int).toNat := (by rw [Ny17.out, List.length_take]; omega)
 rw [← Ny17.out] at hr36
 rw [← hy36] at hcut36
 have HR120 := Aside0.mk hr36
 have HC120 := Aside0.mk (show y17.length ≤ c0_0 from by omega)
 clear hr36 hC36 hroom36 hi036 hsz36
 have KY36 := Aside0.mk hy36
 clear hy36
 replace q36 := eq_true q36
 have q37 : ((ji12) : Int) ≤ ((l0_0.length : Int) : Int) := Dz
 obtain ⟨i037, hi037, _, hsz37, _⟩ := info_parts info33
 have hroom37 : l0_0.length ≤ c0_0 := HC0_0.out
 have hC37 : Kd.C k33 _ (some ad12) l0_0.length l0_0 := HR0_0.out
 have q037 : (0 : Int) ≤ ((ji12) : Int) := Dz
 have hcut37 := cut_from (P := Tryz.prog) 24 33 .i64 Tryz.underlying24 hi037 3 hsz37 (some ad12) l0_0.length c0_0 (ji12) q037 q37
 have hr37 := Kd.C_drop (m := ((ji12) : Int).toNat) (c := c0_0) hC37 (by omega) hroom37
 obtain ⟨A37, hA37⟩ : ∃ A1, A1 = (if c0_0 = ((ji12) : Int).toNat then (some ad12) else ((some ad12) : Option Addr).map (·.add (((ji12) : Int).toNat * 3))) := ⟨_, rfl⟩
 obtain ⟨c37, hc37⟩ : ∃ c1, c1 = c0_0 - ((ji12) : Int).toNat := ⟨_, rfl⟩
 have hy37 : y24.length = l0_0.length - ((ji12) : Int).toNat := (by rw [Ny24.out, List.length_drop] <;> omega)
 rw [show (l0_0).drop ((ji12) : Int).toNat = y24 from Ny24.out.symm] at hr37
 replace hr37 : Kd.C k33 _ A37 y24.length y24 := (by rw [hA37]; exact hr37)
 rw [← hy37, ← hA37, ← hc37] at hcut37
 have HR127 := Aside0.mk hr37
 have HC127 := Aside0.mk (show y24.length ≤ c37 from by rw [hy37, hc37]; exact Nat.sub_le_sub_right hroom37 _)
 clear hr37 hC37 hroom37 hi037 hsz37 hc37
 have KY37 := Aside0.mk hy37
 have KA37 := Aside0.mk hA37
 clear hy37 hA37
 replace q37 := eq_true q37
 refine sT 14 (H5 g1 (.slice (some ad12) l0_0.length c0_0) (.int .i64 a0_1) (.int .i64 a0_2) (.int .i64 a0_3) (.int .i64 a0_4)) [] Faj.tab5 Faj.bits5 (h5 B1) fun hHeld HT_ HW_ => ?_
 generalize w34.drew = w35 at R5 B1 B2 B10 B13 HB HR120 HR127 hHeld ⊢
 refine Pu 1 ?_
 refine Pu 3 ?_
 refine Pu 6 ?_
 refine Pu 8 ?_
 refine Pu 9 ?_
 refine Ta 2 ?_
 refine Pu 4 ?_
 refine Ta 7 ?_
 refine Pu 10 ?_
 refine oN 0 fun K hK => ?_
 refine Kd.R_lit_step k33 _ 33 ?hg (N := 24) ?hd (xs := ([] : List (S33))) (inner := []) (ok := fun _ => True) (okp := fun _ => True) ?hr ?hp (fun _ hk => hk) trivial (Below.refl _ _) (Nat.le_refl _) (by simp) ?_
 (case hd => rfl)
 (case hg => rfl)
 (case hr => first | (go_simp; done) | (go_simp; rfl))
 (case hp => exact (Reps.none _ _))
 intro v15 w38 ho39 hb hg_ hnew_
 clear hg_ hnew_
 (first | rw [← Ny14.out] at ho39 | (simp only [Int.reduceToNat] at ho39; rw [← Ny14.out] at ho39))
 have R16 := Ak (Kd.R_lower (Kd.R_newB (Kd.R_new' ho39 (Kd.R_lt (by exact Ho.RS <| R5.out))) (bS B13.out)) (below_size (by exact eS HB.out)))
 replace R5 := el R5 ho39 hb
 replace B1 := kT B1 hb
 replace B2 := kT B2 hb
 replace B10 := kT B10 hb
 replace B13 := kT B13 hb
 replace HB := bT HB hb
 clear hb ho39
 refine hK.out _ _ (h5 B1) (fun hHeld => ?_)
 clear hK K
 refine nO 24 ?_
 refine oN 5 fun K hK => ?_
 refine Kd.R_append_rows_step k33 (w0 := w) w.heap.size (by rfl) (.tmp 24) (.tmp 28) 24 33 (.agg #[(.int .i64 0), (.int .i64 0), (.int .i64 0)]) 24 rfl Tryz.underlying24 info33 rfl (by decide) (by omega) v15 y14 y17 _ _ _ (fun k_ => some k_ ≠ (.slice Ao22 t3.length co22 : Value).ownBlock ∧ k_ ≠ g13) (fun _ => False) rfl rfl ?aO ?aR (fun _ _ h => h) (fun _ h => h.elim) ?aF ?aB ?aS ?aL ?_
 (case aR => repeat (first | exact (Kd.C_below HR120.out HB.out) | (with_reducible refine Kd.C_alloc ?_ _) | (with_reducible refine Kd.C_drewN ?_ _) | (with_reducible refine Kd.C_drew ?_)))
 (case aB => exact (by exact eS HB.out))
 (case aF => exact (fun k_ hk => ⟨Kd.fresh' (Kd.R_lt (by exact Ho.RS <| R5.out)) k_ hk, Kd.freshB (bS B13.out) k_ hk⟩))
 (case aO => exact (by exact Ho.RS <| Kd.R_mono R16.out (fun _ hk => ⟨hk.1.2, hk.2⟩)))
 (case aS => exact (below_size (by exact eS HB.out)))
 (case aL => have := LMc11.out; omega)
 intro v22 w40 ho hb hg hat
 rw [← Ny21.out] at ho
 have R23 := Ak ho
 replace B1 := Ak (blk_grown (bS B1.out) hg (Kd.R_ne R16.out B1.out (by decide)))
 replace B2 := Ak (blk_grown (bS B2.out) hg (Kd.R_ne R16.out B2.out (by decide)))
 replace R5 := Ak (Kd.R_after (ok := (fun k_ => k_ ≠ g13)) (by exact Ho.RS <| R5.out) hg hat)
 replace B10 := Ak (blk_grown (bS B10.out) hg (Kd.R_ne R16.out B10.out (by decide)))
 replace B13 := Ak (blk_grown (bS B13.out) hg (Kd.R_away R16.out (fun _ hk => hk.2)))
 replace HB := Ak hb
 clear R16
 clear ho hb hg hat
 refine hK.out _ _ (h5 B1) (fun hHeld => ?_)
 clear hK K
 refine nO 29 ?_
 refine oN 11 fun K hK => ?_
 refine Kd.R_append_rows_step k33 (w0 := w) w.heap.size (by rfl) (.tmp 29) (.tmp 34) 24 33 (.agg #[(.int .i64 0), (.int .i64 0), (.int .i64 0)]) 24 rfl Tryz.underlying24 info33 rfl (by decide) (by omega) v22 y21 y24 _ _ _ (fun k_ => some k_ ≠ (.slice Ao22 t3.length co22 : Value).ownBlock ∧ k_ ≠ g13) (fun _ => False) rfl rfl ?aO ?aR (fun _ _ h => h) (fun _ h => h.elim) ?aF ?aB ?aS ?aL ?_
 (case aR => repeat (first | exact (Kd.C_below HR127.out HB.out) | (with_reducible refine Kd.C_alloc ?_ _) | (with_reducible refine Kd.C_drewN ?_ _) | (with_reducible refine Kd.C_drew ?_)))
 (case aB => exact (by exact eS HB.out))
 (case aF => exact (fun k_ hk => ⟨Kd.fresh' (Kd.R_lt (by exact Ho.RS <| R5.out)) k_ hk, Kd.freshB (bS B13.out) k_ hk⟩))
 (case aO => exact (by exact Ho.RS <| R23.out))
 (case aS => exact (below_size (by exact eS HB.out)))
 (case aL => have := LMc15.out; omega)
 intro v29 w41 ho hb hg hat
 rw [← Ny28.out] at ho
 have R30 := Ak ho
 replace B1 := Ak (blk_grown (bS B1.out) hg (Kd.R_ne R23.out B1.out (by decide)))
 replace B2 := Ak (blk_grown (bS B2.out) hg (Kd.R_ne R23.out B2.out (by decide)))
 replace R5 := Ak (Kd.R_after (ok := (fun k_ => k_ ≠ g13)) (by exact Ho.RS <| R5.out) hg hat)
 replace B10 := Ak (blk_grown (bS B10.out) hg (Kd.R_ne R23.out B10.out (by decide)))
 replace B13 := Ak (blk_grown (bS B13.out) hg (Kd.R_away R23.out (fun _ hk => hk.2)))
 replace HB := Ak hb
 clear R23
 clear ho hb hg hat
 obtain ⟨Ao42, co42, eo42⟩ := Kd.R_slice R30.out
 (first | subst eo42 | (injection eo42 with f1_ f2_ f3_; have f4_ := f1_.symm; have f5_ := f3_.symm; clear f1_ f2_ f3_; subst f4_; subst f5_))
 refine hK.out _ _ (h5 B1) (fun hHeld => ?_)
 clear hK K
 refine nO 35 ?_
 refine Pu 12 ?_
 refine oN 13 fun K hK => ?_
 have hs43 : w41.cell? ⟨g10, 0, none⟩ = some (.slice Ao22 t3.length co22) := (blk_cell B10.out 0).trans rfl
 have hfs43 := blk_frozen B10.out 0
 have hns43_0 := N1_10.out
 have hns43_1 := N2_10.out
 have hns43_3 := N13_10.out
 have hms43_0 := N10_1.out
 have hms43_1 := N10_2.out
 have hms43_3 := N10_13.out
 refine sK ?_
 refine hK.out _ _ ⟨(cf1 N1_10.out hHeld.1), (cf1 N1_10.out hHeld.2.1), (cf1 N1_10.out hHeld.2.2.1), (cf1 N1_10.out hHeld.2.2.2.1), (cf1 N1_10.out hHeld.2.2.2.2)⟩ (fun hHeld => ?_)
 clear hK K
 refine dO ?_
 have hz44 := Sq.c5 B10.out
 have hz45 := Sq.c5 B2.out
 try go_wp2
 refine bodyPost_ret (results_cell_row rfl _ _ g2 26 #[.slice Ao42 y28.length co42, .int .i64 t6, .int .i64 t7, .int .i64 t8, .int .i64 t9] (0, 0) _ rfl (by apply Sq.put5; exact Kz) Tryz.underlying26 rfl (by kernel_rfl)) rfl ?_
 exact ⟨_, by first | rfl | (simp [errW_none, errW_some] <;> rfl) | (simp only [← hji12]; first | rfl | (simp [errW_none, errW_some] <;> rfl)) | (simp [*, errW_none, errW_some] <;> rfl), by exact Ho.RS <| Kd.R_mono (Kd.R_far (p := ⟨g2, 4, none⟩) (Kd.R_far (p := ⟨g2, 3, none⟩) (Kd.R_far (p := ⟨g2, 2, none⟩) (Kd.R_far (p := ⟨g2, 1, none⟩) (Kd.R_far (p := ⟨g2, 0, none⟩) (Kd.R_far (p := ⟨g10, 0, none⟩) (Kd.R_types (Kd.R_types R30.out B10.out (by decide)) B2.out (by decide)) (fun _ hk => hk.1.2) (.slice Ao42 y28.length co42)) (fun _ hk => hk.2) (.slice Ao42 y28.length co42)) (fun _ hk => hk.2) (.int .i64 t6)) (fun _ hk => hk.2) (.int .i64 t7)) (fun _ hk => hk.2) (.int .i64 t8)) (fun _ hk => hk.2) (.int .i64 t9)) (fun _ hk => trivial), Bq⟩
end
section
attribute [local go_sem ↓] Ho.isSome_setCell_
/-! ### Fbm: function 90 -/
def Fbm.f (l0_0 : List (S33)) (a0_1 : Int) (a0_2 : Int) (a0_3 : Int) (a0_4 : Int) (a1 : Int) (a2 : Int) : Option ((List (S33)) × Int × Int × Int × Int) := (Fan.f l0_0 a0_1 a0_2 a0_3 a0_4).bind fun bt103 => (if bt103.1.length < 5864062014805 then (some ((bt103.1 ++ [(⟨a0_1, a1, a2⟩ : S33)]), wrap64 (a0_1 + 1), bt103.2.2.1, bt103.2.2.2.1, bt103.2.2.2.2)) else (none))
theorem Fbm.calls (A0_0 : Option Addr) (c0_0 : Nat) (l0_0 : List (S33)) (a0_1 : Int) (a0_2 : Int) (a0_3 : Int) (a0_4 : Int) (a1 : Int) (a2 : Int) (r1 : List (S33)) (r2 : Int) (r3 : Int) (r4 : Int) (r5 : Int) (w : World) (hr0_0 : Kd.C k33 w A0_0 l0_0.length l0_0) (hc0_0 : l0_0.length ≤ c0_0) (h : Fbm.f l0_0 a0_1 a0_2 a0_3 a0_4 a1 a2 = some (r1, r2, r3, r4, r5)) :
  Calls Tryz.prog 90 #[.agg #[.slice A0_0 l0_0.length c0_0, .int .i64 a0_1, .int .i64 a0_2, .int .i64 a0_3, .int .i64 a0_4], .int .i64 a1, .int .i64 a2] w fun e w' => ∃ v0_ : Value, e = .returned (.agg #[v0_, .int .i64 r2, .int .i64 r3, .int .i64 r4, .int .i64 r5]) ∧ Kd.R k33 33 w' w.heap.size (fun _ => True) v0_ r1 ∧ Below w.heap.size w w' := by
 have hu26 := Tryz.underlying26
 have hu33 := Tryz.underlying33
 have HR0_0 := Aside0.mk hr0_0
 have HC0_0 := Aside0.mk hc0_0
 clear hr0_0 hc0_0
 have HB := Aside0.mk (Below.refl w.heap.size w)
 have H := h
 clear h
 unfold Fbm.f at H
 obtain ⟨⟨t3, t6, t7, t8, t9⟩, A4, H⟩ := bn H
 (try dsimp only at H)
 by_cases c5 : t3.length < 5864062014805
 rotate_left
 ·rw [if_neg c5] at H
  exact absurd H (by simp)
 rw [if_pos c5] at H
 have LMc5 := Aside0.mk c5
 clear c5
 obtain ⟨y11, hy11⟩ : ∃ y_ : List (S33), y_ = (t3 ++ [(⟨a0_1, a1, a2⟩ : S33)]) := ⟨_, rfl⟩
 replace H : (some (y11, wrap64 (a0_1 + 1), t7, t8, t9)) = some (r1, r2, r3, r4, r5) := by first | (rw [hy11]; with_reducible exact H) | (have H2_ := (Option.bind_some _ _).symm.trans H; rw [hy11]; with_reducible exact H2_) | (have H2_ := (Option.bind_some _ _).symm.trans H; with_reducible exact H2_) | with_reducible exact H | (rw [hy11]; exact H) | exact H
 have Ny11 := Aside0.mk hy11
 clear hy11
 simp only [Option.some.injEq, Prod.mk.injEq] at H
 obtain ⟨rfl, rfl, rfl, rfl, rfl⟩ := H
 go_enter Tryz.func90, Tryz.ntmps90
 go_wp2_with (first | (refine bE 3 26 #[.slice A0_0 l0_0.length c0_0, .int .i64 a0_1, .int .i64 a0_2, .int .i64 a0_3, .int .i64 a0_4] ?_; intro g1 hg w6 B1 hb; have E1 := gW HB hg; replace HB := bT HB hb; clear hb hg) | (refine bE 6 26 #[.slice none 0 0, .int .i64 0, .int .i64 0, .int .i64 0, .int .i64 0] ?_; intro g2 hg w7 B2 hb; have E2 := gW HB hg; obtain ⟨N1_2, N2_1⟩ := nB B1 hg; replace B1 := kT B1 hb; replace HB := bT HB hb; clear hb hg; have hnb8 := nP N1_2; have hz9 := Sq.c5 B1.out) | (refine cE (some 9) Tryz.func89 #[.agg #[.slice A0_0 l0_0.length c0_0, .int .i64 a0_1, .int .i64 a0_2, .int .i64 a0_3, .int .i64 a0_4]] ?_; (with_reducible refine (Fan.calls _ _ l0_0 a0_1 a0_2 a0_3 a0_4 t3 t6 t7 t8 t9 _ ?side1 ?side2 A4.out).mono ?_); (case side1 => exact Cs (Kd.C_below HR0_0.out HB.out)); (case side2 => exact HC0_0.out); rintro e w10 ⟨v4, rfl, ho0, hb⟩; refine ⟨_, rfl, ?_⟩; have R5 := lw HB ho0; replace B1 := kT B1 hb; replace B2 := kT B2 hb; replace HB := bT HB hb; clear hb; (try clear ho0)) | (refine bE 7 26 #[.slice none 0 0, .int .i64 0, .int .i64 0, .int .i64 0, .int .i64 0] ?_; intro g10 hg w11 B10 hb; have E10 := gW HB hg; obtain ⟨N1_10, N10_1⟩ := nB B1 hg; obtain ⟨N2_10, N10_2⟩ := nB B2 hg; replace R5 := rT R5 hb; replace B1 := kT B1 hb; replace B2 := kT B2 hb; replace HB := bT HB hb; clear hb hg; obtain ⟨Ao12, co12, eo12⟩ := Kd.R_slice R5.out; subst eo12; have hnb13 := nP N10_1; have hnb14 := nP N10_2; have hz15 := Sq.c5 B10.out; have hz16 := Sq.c5 B1.out) | ((with_reducible refine gate_builtin (b := .append) (xs := #[.tmp 11, .tmp 17]) rfl ?_); at_builtin; refine Kd.R_append k33 (w0 := w) w.heap.size rfl (.tmp 11) (.tmp 17) 24 33 (.agg #[(.int .i64 0), (.int .i64 0), (.int .i64 0)]) 24 rfl Tryz.underlying24 info33 rfl (by decide) (by omega) (.slice Ao12 t3.length co12) t3 (⟨a0_1, a1, a2⟩ : S33) [.int .i64 a0_1, .int .i64 a1, .int .i64 a2] (fun _ => True) (fun _ => False) rfl (by first | (go_simp; done) | (go_simp; rfl)) ?aP (fun _ hk => hk.elim) ?aF ?aO ?aB ?aS ?aL ?_; (case aP => exact k33_mkM _ _ _ (⟨a0_1, a1, a2⟩ : S33)); (case aB => exact (Bq)); (case aF => exact (fun _ _ => trivial)); (case aO => exact (rY5 R5 B10 (fun _ hk => trivial))); (case aS => exact (below_size (Bq))); (case aL => have := LMc5.out; omega); intro v12 w17 ho hb hg hat; rw [← Ny11.out] at ho; have R13 := Ak ho; replace B1 := Ak (blk_grown (g := g1) (o := .cells #[.slice A0_0 l0_0.length c0_0, .int .i64 a0_1, .int .i64 a0_2, .int .i64 a0_3, .int .i64 a0_4] 26 (0, 0)) (Kz) hg (Kd.R_ne R5.out B1.out (by decide))); replace B2 := Ak (blk_grown (g := g2) (o := .cells #[.slice none 0 0, .int .i64 0, .int .i64 0, .int .i64 0, .int .i64 0] 26 (0, 0)) (Kz) hg (Kd.R_ne R5.out B2.out (by decide))); replace B10 := Ak (blk_grown (g := g10) (o := .cells #[.slice Ao12 t3.length co12, .int .i64 t6, .int .i64 t7, .int .i64 t8, .int .i64 t9] 26 (0, 0)) (by apply Sq.put5; exact bS B10.out) hg (Kd.R_ne R5.out B10.out (by decide))); replace HB := Ak hb; clear R5; clear ho hb hg hat; obtain ⟨Ao18, co18, eo18⟩ := Kd.R_slice R13.out; subst eo18; have hz19 := Sq.c5 B10.out; have hz20 := Sq.c5 B1.out; have hz21 := Sq.c5 B2.out))
 refine bodyPost_ret (results_cell_row rfl _ _ g2 26 #[.slice Ao18 y11.length co18, .int .i64 (wrap64 (a0_1 + 1)), .int .i64 t7, .int .i64 t8, .int .i64 t9] (0, 0) _ rfl (by apply Sq.put5; exact Kz) Tryz.underlying26 rfl (by kernel_rfl)) rfl ?_
 exact ⟨_, Ez, by exact Ho.RS <| Kd.R_mono (Kd.R_far (p := ⟨g2, 4, none⟩) (Kd.R_far (p := ⟨g2, 3, none⟩) (Kd.R_far (p := ⟨g2, 2, none⟩) (Kd.R_far (p := ⟨g2, 1, none⟩) (Kd.R_far (p := ⟨g2, 0, none⟩) (Kd.R_far (p := ⟨g10, 1, none⟩) (Kd.R_far (p := ⟨g10, 0, none⟩) (Kd.R_types (Kd.R_types R13.out B10.out (by decide)) B2.out (by decide)) (fun _ hk => hk.1.2) (.slice Ao18 y11.length co18)) (fun _ hk => hk.1.2) (.int .i64 (wrap64 (a0_1 + 1)))) (fun _ hk => hk.2) (.slice Ao18 y11.length co18)) (fun _ hk => hk.2) (.int .i64 (wrap64 (a0_1 + 1)))) (fun _ hk => hk.2) (.int .i64 t7)) (fun _ hk => hk.2) (.int .i64 t8)) (fun _ hk => hk.2) (.int .i64 t9)) (fun _ hk => trivial), Bq⟩
end
section
attribute [local go_sem ↓] Ho.isSome_setCell_
/-! ### Fad: function 92 -/
def Fad.f (k : Nat) (l0_0 : List (S33)) (a0_1 : Int) (a0_2 : Int) (a0_3 : Int) (a0_4 : Int) (a1 : Int) (a2 : Int) : Option ((List (S33)) × Int × Int × Int × Int × Bool) := (Fs.f k l0_0 a0_1 a0_2 a0_3 a0_4 a1).bind fun t103 => (if 0 ≤ t103 then (if t103 < (l0_0.length : Int) then ((Fs.f k l0_0 a0_1 a0_2 a0_3 a0_4 a2).bind fun t105 => (if 0 ≤ t105 then (if t105 < (l0_0.length : Int) then ((Faj.f k l0_0 a0_1 a0_2 a0_3 a0_4 a2 ((rd_T33 l0_0 t105).f2)).bind fun bt109 => ((Fs.f k bt109.1 bt109.2.1 bt109.2.2.1 bt109.2.2.2.1 bt109.2.2.2.2 a1).bind fun t117 => (if 0 ≤ t117 then (if t117 < (bt109.1.length : Int) then (some ((bt109.1.set (t117 : Int).toNat (⟨a1, (rd_T33 l0_0 t103).f1, wrap64 ((wrap64 (((rd_T33 l0_0 t103).f2) + ((rd_T33 l0_0 t105).f2))) - 1)⟩ : S33)), bt109.2.1, bt109.2.2.1, bt109.2.2.2.1, wrap64 (a0_4 + 1), (((rd_T33 l0_0 t103).f1) == ((rd_T33 l0_0 t105).f1)))) else (none)) else (none)))) else (none)) else (none))) else (none)) else (none))
theorem Fad.mono : ∀ a0 a1 a2 a3 a4 a5 a6 k, LeO (Fad.f k a0 a1 a2 a3 a4 a5 a6) (Fad.f (k + 1) a0 a1 a2 a3 a4 a5 a6) := by
  intro a0 a1 a2 a3 a4 a5 a6 k
  unfold Fad.f
  repeat' (with_reducible first | apply Fs.mono | apply Faj.mono | exact LeO.refl _ | exact LeO.none _ | refine LeO.ite ?_ ?_ | refine LeO.bind ?_ (fun _ => ?_))
def Fad.T1 : Bool × List (List Nat × List Nat) := (true, [([], []), ([0], [0]), ([], []), ([], []), ([2, 3], [2, 3]), ([1, 4], [1, 4]), ([5], [5]), ([], []), ([7], [7]), ([], []), ([], []), ([9, 10, 4], [9, 10]), ([8, 11], [8, 11]), ([12], [12]), ([], []), ([], []), ([14, 6, 11, 0, 1, 2, 3, 4, 5, 6, 14, 15], [6, 14]), ([15, 13, 16, 0, 1, 2, 3, 4, 5, 6, 7, 8, 9, 10, 11, 12, 13, 14, 15, 16], [13, 15])])
def Fad.B1 : List Nat := [0, 1, 0, 0, 12, 31, 63, 0, 128, 0, 0, 1564, 3996, 8092, 0, 0, 52863, 131071]
theorem Fad.tab1 : rtab .any (opsOf Tryz.f92 1) = Fad.T1 := by kernel_rfl
theorem Fad.bits1 : waitsOk Fad.T1.2 Fad.B1 = true := by kernel_rfl
def Fad.T3 : Bool × List (List Nat × List Nat) := (true, [([], []), ([0], [0]), ([], []), ([], []), ([2, 3], [2, 3]), ([], []), ([], []), ([6], [6]), ([], []), ([8], [8]), ([], []), ([10], [10]), ([9, 11], [9, 11]), ([12], [12]), ([5, 7, 13], [5, 7, 13]), ([1, 4, 0, 1, 2, 3, 4, 5, 6, 7, 8, 9, 10, 11, 12, 13, 14], [1, 4]), ([15, 14, 4, 0, 1, 2, 3, 4, 5, 6, 7, 8, 9, 10, 11, 12, 13, 14], [14, 15])])
def Fad.B3 : List Nat := [0, 1, 0, 0, 12, 0, 0, 64, 0, 256, 0, 1024, 3840, 7936, 16352, 32767, 65535]
theorem Fad.tab3 : rtab .any (opsOf Tryz.f92 3) = Fad.T3 := by kernel_rfl
theorem Fad.bits3 : waitsOk Fad.T3.2 Fad.B3 = true := by kernel_rfl
def Fad.T5 : Bool × List (List Nat × List Nat) := (true, [([], []), ([], []), ([1], [1]), ([], []), ([3], [3]), ([2, 4], [2, 4]), ([0, 0], [0]), ([5, 6, 0, 1, 2, 3, 4, 5, 6], [5])])
def Fad.B5 : List Nat := [0, 0, 2, 0, 8, 30, 1, 127]
theorem Fad.tab5 : rtab .any (opsOf Tryz.f92 5) = Fad.T5 := by kernel_rfl
theorem Fad.bits5 : waitsOk Fad.T5.2 Fad.B5 = true := by kernel_rfl
theorem Fad.calls (k : Nat) (A0_0 : Option Addr) (c0_0 : Nat) (l0_0 : List (S33)) (a0_1 : Int) (a0_2 : Int) (a0_3 : Int) (a0_4 : Int) (a1 : Int) (a2 : Int) (r1 : List (S33)) (r2 : Int) (r3 : Int) (r4 : Int) (r5 : Int) (r6 : Bool) (w : World) (hr0_0 : Kd.C k33 w A0_0 l0_0.length l0_0) (hc0_0 : l0_0.length ≤ c0_0) (h : Fad.f k l0_0 a0_1 a0_2 a0_3 a0_4 a1 a2 = some (r1, r2, r3, r4, r5, r6)) :
  Calls Tryz.prog 92 #[.agg #[.slice A0_0 l0_0.length c0_0, .int .i64 a0_1, .int .i64 a0_2, .int .i64 a0_3, .int .i64 a0_4], .int .i64 a1, .int .i64 a2] w fun e w' => ∃ v0_ : Value, e = .returned (.tuple #[.agg #[v0_, .int .i64 r2, .int .i64 r3, .int .i64 r4, .int .i64 r5], .bool r6]) ∧ Kd.R k33 33 w' w.heap.size (fun _ => True) v0_ r1 ∧ Below w.heap.size w w' := by
 have hu26 := Tryz.underlying26
 have hu33 := Tryz.underlying33
 have HR0_0 := Aside0.mk hr0_0
 have HC0_0 := Aside0.mk hc0_0
 clear hr0_0 hc0_0
 have HB := Aside0.mk (Below.refl w.heap.size w)
 have H := h
 clear h
 unfold Fad.f at H
 obtain ⟨t3, A4, H⟩ := bn H
 (try dsimp only at H)
 by_cases c5 : 0 ≤ t3
 rotate_left
 ·rw [if_neg c5] at H
  exact absurd H (by simp)
 rw [if_pos c5] at H
 have c5b0 := decide_eq_true c5
 clear c5
 by_cases c6 : t3 < (l0_0.length : Int)
 rotate_left
 ·rw [if_neg c6] at H
  exact absurd H (by simp)
 rw [if_pos c6] at H
 have c6b0 := decide_eq_true c6
 clear c6
 obtain ⟨t5, A7, H⟩ := bn H
 (try dsimp only at H)
 by_cases c8 : 0 ≤ t5
 rotate_left
 ·rw [if_neg c8] at H
  exact absurd H (by simp)
 rw [if_pos c8] at H
 have c8b0 := decide_eq_true c8
 clear c8
 by_cases c9 : t5 < (l0_0.length : Int)
 rotate_left
 ·rw [if_neg c9] at H
  exact absurd H (by simp)
 rw [if_pos c9] at H
 have c9b0 := decide_eq_true c9
 clear c9
 obtain ⟨⟨t9, t12, t13, t14, t15⟩, A10, H⟩ := bn H
 (try dsimp only at H)
 obtain ⟨t17, A11, H⟩ := bn H
 (try dsimp only at H)
 by_cases c12 : 0 ≤ t17
 rotate_left
 ·rw [if_neg c12] at H
  exact absurd H (by simp)
 rw [if_pos c12] at H
 have c12b0 := decide_eq_true c12
 clear c12
 by_cases c13 : t17 < (t9.length : Int)
 rotate_left
 ·rw [if_neg c13] at H
  exact absurd H (by simp)
 rw [if_pos c13] at H
 have c13b0 := decide_eq_true c13
 clear c13
 obtain ⟨y18, hy18⟩ : ∃ y_ : List (S33), y_ = (t9.set (t17 : Int).toNat (⟨a1, (rd_T33 l0_0 t3).f1, wrap64 ((wrap64 (((rd_T33 l0_0 t3).f2) + ((rd_T33 l0_0 t5).f2))) - 1)⟩ : S33)) := ⟨_, rfl⟩
 replace H : (some (y18, t12, t13, t14, wrap64 (a0_4 + 1), (((rd_T33 l0_0 t3).f1) == ((rd_T33 l0_0 t5).f1)))) = some (r1, r2, r3, r4, r5, r6) := by first | (rw [hy18]; with_reducible exact H) | (have H2_ := (Option.bind_some _ _).symm.trans H; rw [hy18]; with_reducible exact H2_) | (have H2_ := (Option.bind_some _ _).symm.trans H; with_reducible exact H2_) | with_reducible exact H | (rw [hy18]; exact H) | exact H
 have Ny18 := Aside0.mk hy18
 clear hy18
 simp only [Option.some.injEq, Prod.mk.injEq] at H
 obtain ⟨rfl, rfl, rfl, rfl, rfl, rfl⟩ := H
 go_enter Tryz.func92, Tryz.ntmps92
 try go_wp2_with (first | (refine bE 3 26 #[.slice A0_0 l0_0.length c0_0, .int .i64 a0_1, .int .i64 a0_2, .int .i64 a0_3, .int .i64 a0_4] ?_; intro g1 hg w15 BK101 hb; have E1 := gW HB hg; replace HB := bT HB hb; clear hb hg) | (refine bE 6 26 #[.slice none 0 0, .int .i64 0, .int .i64 0, .int .i64 0, .int .i64 0] ?_; intro g2 hg w16 B2 hb; have E2 := gW HB hg; obtain ⟨N1_2, N2_1⟩ := nB BK101 hg; replace BK101 := kT BK101 hb; replace HB := bT HB hb; clear hb hg))
 replace BK101 := kD BK101
 replace B2 := kD B2
 replace HB := bD HB
 have p104 : 0 ≤ (t3 : Int) := Dz
 have q4 : t3 < (l0_0.length : Int) := Dz
 obtain ⟨ad4, e4, hx4_0, hx4_1, hx4_2⟩ := at_T33 HR0_0.out t3 p104 q4
 have hw104_2 := hx4_2
 have hw104_1 := hx4_1
 have hw104_0 := hx4_0
 cases e4
 replace hx4_0 := Sq.cB HB.out hx4_0
 replace hx4_1 := Sq.cB HB.out hx4_1
 replace hx4_2 := Sq.cB HB.out hx4_2
 replace p104 := eq_true p104
 replace q4 := eq_true q4
 have p106 : 0 ≤ (t5 : Int) := Dz
 have q6 : t5 < (l0_0.length : Int) := Dz
 obtain ⟨ad6, e6, hx6_0, hx6_1, hx6_2⟩ := at_T33 HR0_0.out t5 p106 q6
 have hw106_2 := hx6_2
 have hw106_1 := hx6_1
 have hw106_0 := hx6_0
 obtain rfl : ad4 = ad6 := (by injection e6)
 replace hx6_0 := Sq.cB HB.out hx6_0
 replace hx6_1 := Sq.cB HB.out hx6_1
 replace hx6_2 := Sq.cB HB.out hx6_2
 replace p106 := eq_true p106
 replace q6 := eq_true q6
 refine sT 18 (fun w' => w'.cell? ⟨g1, 0, none⟩ = some (.slice (some ad4) l0_0.length c0_0) ∧ w'.cell? ⟨g1, 1, none⟩ = some (.int .i64 a0_1) ∧ w'.cell? ⟨g1, 2, none⟩ = some (.int .i64 a0_2) ∧ w'.cell? ⟨g1, 3, none⟩ = some (.int .i64 a0_3) ∧ w'.cell? ⟨g1, 4, none⟩ = some (.int .i64 a0_4) ∧ w'.cell? (ad4.add ((t3).toNat * 3)) = some (.int .i64 ((rd_T33 l0_0 t3).f0)) ∧ w'.cell? ⟨(ad4.add ((t3).toNat * 3)).block, (ad4.add ((t3).toNat * 3)).off + 1, none⟩ = some (.int .i64 ((rd_T33 l0_0 t3).f1)) ∧ w'.cell? ⟨(ad4.add ((t3).toNat * 3)).block, (ad4.add ((t3).toNat * 3)).off + 2, none⟩ = some (.int .i64 ((rd_T33 l0_0 t3).f2)) ∧ w'.cell? (ad4.add ((t5).toNat * 3)) = some (.int .i64 ((rd_T33 l0_0 t5).f0)) ∧ w'.cell? ⟨(ad4.add ((t5).toNat * 3)).block, (ad4.add ((t5).toNat * 3)).off + 1, none⟩ = some (.int .i64 ((rd_T33 l0_0 t5).f1)) ∧ w'.cell? ⟨(ad4.add ((t5).toNat * 3)).block, (ad4.add ((t5).toNat * 3)).off + 2, none⟩ = some (.int .i64 ((rd_T33 l0_0 t5).f2))) [] Fad.tab1 Fad.bits1 ⟨bc BK101 0, bc BK101 1, bc BK101 2, bc BK101 3, bc BK101 4, (cb HB hw104_0), (cb HB hw104_1), (cb HB hw104_2), (cb HB hw106_0), (cb HB hw106_1), (cb HB hw106_2)⟩ fun hHeld HT_ HW_ => ?_
 generalize w16.drew = w17 at BK101 B2 HB hx4_0 hx4_1 hx4_2 hx6_0 hx6_1 hx6_2 hHeld ⊢
 refine Pu 0 ?_
 refine Pu 3 ?_
 refine Pu 7 ?_
 refine Pu 10 ?_
 refine Ta 1 ?_
 refine Ta 2 ?_
 refine Ta 8 ?_
 refine Ta 9 ?_
 refine join_ (σ := Nat × Nat) 2 (Bt 18 65535) (fun s_ => [(15, .int .i64 t3), (22, .int .i64 t5), (8, .pointer (some ⟨s_.1, 0, none⟩)), (9, .pointer (some ⟨s_.2, 0, none⟩)), (16, .pointer (some (ad4.add ((t3).toNat * 3)))), (17, .agg #[.int .i64 ((rd_T33 l0_0 t3).f0), .int .i64 ((rd_T33 l0_0 t3).f1), .int .i64 ((rd_T33 l0_0 t3).f2)]), (23, .pointer (some (ad4.add ((t5).toNat * 3)))), (24, .agg #[.int .i64 ((rd_T33 l0_0 t5).f0), .int .i64 ((rd_T33 l0_0 t5).f1), .int .i64 ((rd_T33 l0_0 t5).f2)])]) (fun s_ w' => (w'.cell? ⟨g1, 0, none⟩ = some (.slice (some ad4) l0_0.length c0_0) ∧ w'.cell? ⟨g1, 1, none⟩ = some (.int .i64 a0_1) ∧ w'.cell? ⟨g1, 2, none⟩ = some (.int .i64 a0_2) ∧ w'.cell? ⟨g1, 3, none⟩ = some (.int .i64 a0_3) ∧ w'.cell? ⟨g1, 4, none⟩ = some (.int .i64 a0_4) ∧ w'.cell? (ad4.add ((t3).toNat * 3)) = some (.int .i64 ((rd_T33 l0_0 t3).f0)) ∧ w'.cell? ⟨(ad4.add ((t3).toNat * 3)).block, (ad4.add ((t3).toNat * 3)).off + 1, none⟩ = some (.int .i64 ((rd_T33 l0_0 t3).f1)) ∧ w'.cell? ⟨(ad4.add ((t3).toNat * 3)).block, (ad4.add ((t3).toNat * 3)).off + 2, none⟩ = some (.int .i64 ((rd_T33 l0_0 t3).f2)) ∧ w'.cell? (ad4.add ((t5).toNat * 3)) = some (.int .i64 ((rd_T33 l0_0 t5).f0)) ∧ w'.cell? ⟨(ad4.add ((t5).toNat * 3)).block, (ad4.add ((t5).toNat * 3)).off + 1, none⟩ = some (.int .i64 ((rd_T33 l0_0 t5).f1)) ∧ w'.cell? ⟨(ad4.add ((t5).toNat * 3)).block, (ad4.add ((t5).toNat * 3)).off + 2, none⟩ = some (.int .i64 ((rd_T33 l0_0 t5).f2))) ∧ (w'.heap[g1]? = some (.cells #[.slice (some ad4) l0_0.length c0_0, .int .i64 a0_1, .int .i64 a0_2, .int .i64 a0_3, .int .i64 a0_4] 26 (0, 0))) ∧ (w'.heap[g2]? = some (.cells #[.slice none 0 0, .int .i64 0, .int .i64 0, .int .i64 0, .int .i64 0] 26 (0, 0))) ∧ (w'.heap[s_.1]? = some (.cells #[.int .i64 0, .int .i64 0, .int .i64 0] 33 (0, 0))) ∧ (w'.heap[s_.2]? = some (.cells #[.int .i64 0, .int .i64 0, .int .i64 0] 33 (0, 0))) ∧ (w.heap.size ≤ s_.1) ∧ (w.heap.size ≤ s_.1) ∧ (g1 ≠ s_.1) ∧ (s_.1 ≠ g1) ∧ (g2 ≠ s_.1) ∧ (s_.1 ≠ g2) ∧ (s_.2 ≠ s_.1) ∧ (s_.1 ≠ s_.2) ∧ (w.heap.size ≤ s_.2) ∧ (w.heap.size ≤ s_.2) ∧ (g1 ≠ s_.2) ∧ (s_.2 ≠ g1) ∧ (g2 ≠ s_.2) ∧ (s_.2 ≠ g2) ∧ (Below w.heap.size w w')) ?_ ?_
 rotate_left
 ·intro hJ4_11_14_15
  refine join_ (σ := Nat) 3 (Bt 18 32767) (fun s_ => [(15, .int .i64 t3), (22, .int .i64 t5), (8, .pointer (some ⟨s_, 0, none⟩)), (16, .pointer (some (ad4.add ((t3).toNat * 3)))), (17, .agg #[.int .i64 ((rd_T33 l0_0 t3).f0), .int .i64 ((rd_T33 l0_0 t3).f1), .int .i64 ((rd_T33 l0_0 t3).f2)]), (23, .pointer (some (ad4.add ((t5).toNat * 3)))), (24, .agg #[.int .i64 ((rd_T33 l0_0 t5).f0), .int .i64 ((rd_T33 l0_0 t5).f1), .int .i64 ((rd_T33 l0_0 t5).f2)])]) (fun s_ w' => (w'.cell? ⟨g1, 0, none⟩ = some (.slice (some ad4) l0_0.length c0_0) ∧ w'.cell? ⟨g1, 1, none⟩ = some (.int .i64 a0_1) ∧ w'.cell? ⟨g1, 2, none⟩ = some (.int .i64 a0_2) ∧ w'.cell? ⟨g1, 3, none⟩ = some (.int .i64 a0_3) ∧ w'.cell? ⟨g1, 4, none⟩ = some (.int .i64 a0_4) ∧ w'.cell? (ad4.add ((t3).toNat * 3)) = some (.int .i64 ((rd_T33 l0_0 t3).f0)) ∧ w'.cell? ⟨(ad4.add ((t3).toNat * 3)).block, (ad4.add ((t3).toNat * 3)).off + 1, none⟩ = some (.int .i64 ((rd_T33 l0_0 t3).f1)) ∧ w'.cell? ⟨(ad4.add ((t3).toNat * 3)).block, (ad4.add ((t3).toNat * 3)).off + 2, none⟩ = some (.int .i64 ((rd_T33 l0_0 t3).f2)) ∧ w'.cell? (ad4.add ((t5).toNat * 3)) = some (.int .i64 ((rd_T33 l0_0 t5).f0)) ∧ w'.cell? ⟨(ad4.add ((t5).toNat * 3)).block, (ad4.add ((t5).toNat * 3)).off + 1, none⟩ = some (.int .i64 ((rd_T33 l0_0 t5).f1)) ∧ w'.cell? ⟨(ad4.add ((t5).toNat * 3)).block, (ad4.add ((t5).toNat * 3)).off + 2, none⟩ = some (.int .i64 ((rd_T33 l0_0 t5).f2))) ∧ (w'.heap[g1]? = some (.cells #[.slice (some ad4) l0_0.length c0_0, .int .i64 a0_1, .int .i64 a0_2, .int .i64 a0_3, .int .i64 a0_4] 26 (0, 0))) ∧ (w'.heap[g2]? = some (.cells #[.slice none 0 0, .int .i64 0, .int .i64 0, .int .i64 0, .int .i64 0] 26 (0, 0))) ∧ (w'.heap[s_]? = some (.cells #[.int .i64 0, .int .i64 0, .int .i64 0] 33 (0, 0))) ∧ (w.heap.size ≤ s_) ∧ (w.heap.size ≤ s_) ∧ (g1 ≠ s_) ∧ (s_ ≠ g1) ∧ (g2 ≠ s_) ∧ (s_ ≠ g2) ∧ (Below w.heap.size w w')) ?_ ?_
  rotate_left
  ·intro hJ4_11_14
   refine join_ (σ := Nat) 3 (Bt 18 49151) (fun s_ => [(15, .int .i64 t3), (22, .int .i64 t5), (9, .pointer (some ⟨s_, 0, none⟩)), (16, .pointer (some (ad4.add ((t3).toNat * 3)))), (17, .agg #[.int .i64 ((rd_T33 l0_0 t3).f0), .int .i64 ((rd_T33 l0_0 t3).f1), .int .i64 ((rd_T33 l0_0 t3).f2)]), (23, .pointer (some (ad4.add ((t5).toNat * 3)))), (24, .agg #[.int .i64 ((rd_T33 l0_0 t5).f0), .int .i64 ((rd_T33 l0_0 t5).f1), .int .i64 ((rd_T33 l0_0 t5).f2)])]) (fun s_ w' => (w'.cell? ⟨g1, 0, none⟩ = some (.slice (some ad4) l0_0.length c0_0) ∧ w'.cell? ⟨g1, 1, none⟩ = some (.int .i64 a0_1) ∧ w'.cell? ⟨g1, 2, none⟩ = some (.int .i64 a0_2) ∧ w'.cell? ⟨g1, 3, none⟩ = some (.int .i64 a0_3) ∧ w'.cell? ⟨g1, 4, none⟩ = some (.int .i64 a0_4) ∧ w'.cell? (ad4.add ((t3).toNat * 3)) = some (.int .i64 ((rd_T33 l0_0 t3).f0)) ∧ w'.cell? ⟨(ad4.add ((t3).toNat * 3)).block, (ad4.add ((t3).toNat * 3)).off + 1, none⟩ = some (.int .i64 ((rd_T33 l0_0 t3).f1)) ∧ w'.cell? ⟨(ad4.add ((t3).toNat * 3)).block, (ad4.add ((t3).toNat * 3)).off + 2, none⟩ = some (.int .i64 ((rd_T33 l0_0 t3).f2)) ∧ w'.cell? (ad4.add ((t5).toNat * 3)) = some (.int .i64 ((rd_T33 l0_0 t5).f0)) ∧ w'.cell? ⟨(ad4.add ((t5).toNat * 3)).block, (ad4.add ((t5).toNat * 3)).off + 1, none⟩ = some (.int .i64 ((rd_T33 l0_0 t5).f1)) ∧ w'.cell? ⟨(ad4.add ((t5).toNat * 3)).block, (ad4.add ((t5).toNat * 3)).off + 2, none⟩ = some (.int .i64 ((rd_T33 l0_0 t5).f2))) ∧ (w'.heap[g1]? = some (.cells #[.slice (some ad4) l0_0.length c0_0, .int .i64 a0_1, .int .i64 a0_2, .int .i64 a0_3, .int .i64 a0_4] 26 (0, 0))) ∧ (w'.heap[g2]? = some (.cells #[.slice none 0 0, .int .i64 0, .int .i64 0, .int .i64 0, .int .i64 0] 26 (0, 0))) ∧ (w'.heap[s_]? = some (.cells #[.int .i64 0, .int .i64 0, .int .i64 0] 33 (0, 0))) ∧ (w.heap.size ≤ s_) ∧ (w.heap.size ≤ s_) ∧ (g1 ≠ s_) ∧ (s_ ≠ g1) ∧ (g2 ≠ s_) ∧ (s_ ≠ g2) ∧ (Below w.heap.size w w')) ?_ ?_
   rotate_left
   ·intro hJ4_11_15
    refine join_ (σ := Nat × Nat) 5 (Bt 18 51199) (fun s_ => [(15, .int .i64 t3), (8, .pointer (some ⟨s_.1, 0, none⟩)), (9, .pointer (some ⟨s_.2, 0, none⟩)), (16, .pointer (some (ad4.add ((t3).toNat * 3)))), (17, .agg #[.int .i64 ((rd_T33 l0_0 t3).f0), .int .i64 ((rd_T33 l0_0 t3).f1), .int .i64 ((rd_T33 l0_0 t3).f2)])]) (fun s_ w' => (w'.cell? ⟨g1, 0, none⟩ = some (.slice (some ad4) l0_0.length c0_0) ∧ w'.cell? ⟨g1, 1, none⟩ = some (.int .i64 a0_1) ∧ w'.cell? ⟨g1, 2, none⟩ = some (.int .i64 a0_2) ∧ w'.cell? ⟨g1, 3, none⟩ = some (.int .i64 a0_3) ∧ w'.cell? ⟨g1, 4, none⟩ = some (.int .i64 a0_4) ∧ w'.cell? (ad4.add ((t3).toNat * 3)) = some (.int .i64 ((rd_T33 l0_0 t3).f0)) ∧ w'.cell? ⟨(ad4.add ((t3).toNat * 3)).block, (ad4.add ((t3).toNat * 3)).off + 1, none⟩ = some (.int .i64 ((rd_T33 l0_0 t3).f1)) ∧ w'.cell? ⟨(ad4.add ((t3).toNat * 3)).block, (ad4.add ((t3).toNat * 3)).off + 2, none⟩ = some (.int .i64 ((rd_T33 l0_0 t3).f2)) ∧ w'.cell? (ad4.add ((t5).toNat * 3)) = some (.int .i64 ((rd_T33 l0_0 t5).f0)) ∧ w'.cell? ⟨(ad4.add ((t5).toNat * 3)).block, (ad4.add ((t5).toNat * 3)).off + 1, none⟩ = some (.int .i64 ((rd_T33 l0_0 t5).f1)) ∧ w'.cell? ⟨(ad4.add ((t5).toNat * 3)).block, (ad4.add ((t5).toNat * 3)).off + 2, none⟩ = some (.int .i64 ((rd_T33 l0_0 t5).f2))) ∧ (w'.heap[g1]? = some (.cells #[.slice (some ad4) l0_0.length c0_0, .int .i64 a0_1, .int .i64 a0_2, .int .i64 a0_3, .int .i64 a0_4] 26 (0, 0))) ∧ (w'.heap[g2]? = some (.cells #[.slice none 0 0, .int .i64 0, .int .i64 0, .int .i64 0, .int .i64 0] 26 (0, 0))) ∧ (w'.heap[s_.1]? = some (.cells #[.int .i64 0, .int .i64 0, .int .i64 0] 33 (0, 0))) ∧ (w'.heap[s_.2]? = some (.cells #[.int .i64 0, .int .i64 0, .int .i64 0] 33 (0, 0))) ∧ (w.heap.size ≤ s_.1) ∧ (w.heap.size ≤ s_.1) ∧ (g1 ≠ s_.1) ∧ (s_.1 ≠ g1) ∧ (g2 ≠ s_.1) ∧ (s_.1 ≠ g2) ∧ (s_.2 ≠ s_.1) ∧ (s_.1 ≠ s_.2) ∧ (w.heap.size ≤ s_.2) ∧ (w.heap.size ≤ s_.2) ∧ (g1 ≠ s_.2) ∧ (s_.2 ≠ g1) ∧ (g2 ≠ s_.2) ∧ (s_.2 ≠ g2) ∧ (Below w.heap.size w w')) ?_ ?_
    rotate_left
    ·intro hJ4_14_15
     refine join_ (σ := Unit) 4 (Bt 18 16383) (fun s_ => [(15, .int .i64 t3), (22, .int .i64 t5), (16, .pointer (some (ad4.add ((t3).toNat * 3)))), (17, .agg #[.int .i64 ((rd_T33 l0_0 t3).f0), .int .i64 ((rd_T33 l0_0 t3).f1), .int .i64 ((rd_T33 l0_0 t3).f2)]), (23, .pointer (some (ad4.add ((t5).toNat * 3)))), (24, .agg #[.int .i64 ((rd_T33 l0_0 t5).f0), .int .i64 ((rd_T33 l0_0 t5).f1), .int .i64 ((rd_T33 l0_0 t5).f2)])]) (fun s_ w' => (w'.cell? ⟨g1, 0, none⟩ = some (.slice (some ad4) l0_0.length c0_0) ∧ w'.cell? ⟨g1, 1, none⟩ = some (.int .i64 a0_1) ∧ w'.cell? ⟨g1, 2, none⟩ = some (.int .i64 a0_2) ∧ w'.cell? ⟨g1, 3, none⟩ = some (.int .i64 a0_3) ∧ w'.cell? ⟨g1, 4, none⟩ = some (.int .i64 a0_4) ∧ w'.cell? (ad4.add ((t3).toNat * 3)) = some (.int .i64 ((rd_T33 l0_0 t3).f0)) ∧ w'.cell? ⟨(ad4.add ((t3).toNat * 3)).block, (ad4.add ((t3).toNat * 3)).off + 1, none⟩ = some (.int .i64 ((rd_T33 l0_0 t3).f1)) ∧ w'.cell? ⟨(ad4.add ((t3).toNat * 3)).block, (ad4.add ((t3).toNat * 3)).off + 2, none⟩ = some (.int .i64 ((rd_T33 l0_0 t3).f2)) ∧ w'.cell? (ad4.add ((t5).toNat * 3)) = some (.int .i64 ((rd_T33 l0_0 t5).f0)) ∧ w'.cell? ⟨(ad4.add ((t5).toNat * 3)).block, (ad4.add ((t5).toNat * 3)).off + 1, none⟩ = some (.int .i64 ((rd_T33 l0_0 t5).f1)) ∧ w'.cell? ⟨(ad4.add ((t5).toNat * 3)).block, (ad4.add ((t5).toNat * 3)).off + 2, none⟩ = some (.int .i64 ((rd_T33 l0_0 t5).f2))) ∧ (w'.heap[g1]? = some (.cells #[.slice (some ad4) l0_0.length c0_0, .int .i64 a0_1, .int .i64 a0_2, .int .i64 a0_3, .int .i64 a0_4] 26 (0, 0))) ∧ (w'.heap[g2]? = some (.cells #[.slice none 0 0, .int .i64 0, .int .i64 0, .int .i64 0, .int .i64 0] 26 (0, 0))) ∧ (Below w.heap.size w w')) ?_ ?_
     rotate_left
     ·intro hJ4_11
      refine join_ (σ := Nat) 6 (Bt 18 18431) (fun s_ => [(15, .int .i64 t3), (8, .pointer (some ⟨s_, 0, none⟩)), (16, .pointer (some (ad4.add ((t3).toNat * 3)))), (17, .agg #[.int .i64 ((rd_T33 l0_0 t3).f0), .int .i64 ((rd_T33 l0_0 t3).f1), .int .i64 ((rd_T33 l0_0 t3).f2)])]) (fun s_ w' => (w'.cell? ⟨g1, 0, none⟩ = some (.slice (some ad4) l0_0.length c0_0) ∧ w'.cell? ⟨g1, 1, none⟩ = some (.int .i64 a0_1) ∧ w'.cell? ⟨g1, 2, none⟩ = some (.int .i64 a0_2) ∧ w'.cell? ⟨g1, 3, none⟩ = some (.int .i64 a0_3) ∧ w'.cell? ⟨g1, 4, none⟩ = some (.int .i64 a0_4) ∧ w'.cell? (ad4.add ((t3).toNat * 3)) = some (.int .i64 ((rd_T33 l0_0 t3).f0)) ∧ w'.cell? ⟨(ad4.add ((t3).toNat * 3)).block, (ad4.add ((t3).toNat * 3)).off + 1, none⟩ = some (.int .i64 ((rd_T33 l0_0 t3).f1)) ∧ w'.cell? ⟨(ad4.add ((t3).toNat * 3)).block, (ad4.add ((t3).toNat * 3)).off + 2, none⟩ = some (.int .i64 ((rd_T33 l0_0 t3).f2)) ∧ w'.cell? (ad4.add ((t5).toNat * 3)) = some (.int .i64 ((rd_T33 l0_0 t5).f0)) ∧ w'.cell? ⟨(ad4.add ((t5).toNat * 3)).block, (ad4.add ((t5).toNat * 3)).off + 1, none⟩ = some (.int .i64 ((rd_T33 l0_0 t5).f1)) ∧ w'.cell? ⟨(ad4.add ((t5).toNat * 3)).block, (ad4.add ((t5).toNat * 3)).off + 2, none⟩ = some (.int .i64 ((rd_T33 l0_0 t5).f2))) ∧ (w'.heap[g1]? = some (.cells #[.slice (some ad4) l0_0.length c0_0, .int .i64 a0_1, .int .i64 a0_2, .int .i64 a0_3, .int .i64 a0_4] 26 (0, 0))) ∧ (w'.heap[g2]? = some (.cells #[.slice none 0 0, .int .i64 0, .int .i64 0, .int .i64 0, .int .i64 0] 26 (0, 0))) ∧ (w'.heap[s_]? = some (.cells #[.int .i64 0, .int .i64 0, .int .i64 0] 33 (0, 0))) ∧ (w.heap.size ≤ s_) ∧ (w.heap.size ≤ s_) ∧ (g1 ≠ s_) ∧ (s_ ≠ g1) ∧ (g2 ≠ s_) ∧ (s_ ≠ g2) ∧ (Below w.heap.size w w')) ?_ ?_
      rotate_left
      ·intro hJ4_14
       refine join_ (σ := Nat) 6 (Bt 18 34815) (fun s_ => [(15, .int .i64 t3), (9, .pointer (some ⟨s_, 0, none⟩)), (16, .pointer (some (ad4.add ((t3).toNat * 3)))), (17, .agg #[.int .i64 ((rd_T33 l0_0 t3).f0), .int .i64 ((rd_T33 l0_0 t3).f1), .int .i64 ((rd_T33 l0_0 t3).f2)])]) (fun s_ w' => (w'.cell? ⟨g1, 0, none⟩ = some (.slice (some ad4) l0_0.length c0_0) ∧ w'.cell? ⟨g1, 1, none⟩ = some (.int .i64 a0_1) ∧ w'.cell? ⟨g1, 2, none⟩ = some (.int .i64 a0_2) ∧ w'.cell? ⟨g1, 3, none⟩ = some (.int .i64 a0_3) ∧ w'.cell? ⟨g1, 4, none⟩ = some (.int .i64 a0_4) ∧ w'.cell? (ad4.add ((t3).toNat * 3)) = some (.int .i64 ((rd_T33 l0_0 t3).f0)) ∧ w'.cell? ⟨(ad4.add ((t3).toNat * 3)).block, (ad4.add ((t3).toNat * 3)).off + 1, none⟩ = some (.int .i64 ((rd_T33 l0_0 t3).f1)) ∧ w'.cell? ⟨(ad4.add ((t3).toNat * 3)).block, (ad4.add ((t3).toNat * 3)).off + 2, none⟩ = some (.int .i64 ((rd_T33 l0_0 t3).f2)) ∧ w'.cell? (ad4.add ((t5).toNat * 3)) = some (.int .i64 ((rd_T33 l0_0 t5).f0)) ∧ w'.cell? ⟨(ad4.add ((t5).toNat * 3)).block, (ad4.add ((t5).toNat * 3)).off + 1, none⟩ = some (.int .i64 ((rd_T33 l0_0 t5).f1)) ∧ w'.cell? ⟨(ad4.add ((t5).toNat * 3)).block, (ad4.add ((t5).toNat * 3)).off + 2, none⟩ = some (.int .i64 ((rd_T33 l0_0 t5).f2))) ∧ (w'.heap[g1]? = some (.cells #[.slice (some ad4) l0_0.length c0_0, .int .i64 a0_1, .int .i64 a0_2, .int .i64 a0_3, .int .i64 a0_4] 26 (0, 0))) ∧ (w'.heap[g2]? = some (.cells #[.slice none 0 0, .int .i64 0, .int .i64 0, .int .i64 0, .int .i64 0] 26 (0, 0))) ∧ (w'.heap[s_]? = some (.cells #[.int .i64 0, .int .i64 0, .int .i64 0] 33 (0, 0))) ∧ (w.heap.size ≤ s_) ∧ (w.heap.size ≤ s_) ∧ (g1 ≠ s_) ∧ (s_ ≠ g1) ∧ (g2 ≠ s_) ∧ (s_ ≠ g2) ∧ (Below w.heap.size w w')) ?_ ?_
       rotate_left
       ·intro hJ4_15
        refine join_ (σ := Nat × Nat) 8 (Bt 18 51087) (fun s_ => [(8, .pointer (some ⟨s_.1, 0, none⟩)), (9, .pointer (some ⟨s_.2, 0, none⟩))]) (fun s_ w' => (w'.cell? ⟨g1, 0, none⟩ = some (.slice (some ad4) l0_0.length c0_0) ∧ w'.cell? ⟨g1, 1, none⟩ = some (.int .i64 a0_1) ∧ w'.cell? ⟨g1, 2, none⟩ = some (.int .i64 a0_2) ∧ w'.cell? ⟨g1, 3, none⟩ = some (.int .i64 a0_3) ∧ w'.cell? ⟨g1, 4, none⟩ = some (.int .i64 a0_4) ∧ w'.cell? (ad4.add ((t3).toNat * 3)) = some (.int .i64 ((rd_T33 l0_0 t3).f0)) ∧ w'.cell? ⟨(ad4.add ((t3).toNat * 3)).block, (ad4.add ((t3).toNat * 3)).off + 1, none⟩ = some (.int .i64 ((rd_T33 l0_0 t3).f1)) ∧ w'.cell? ⟨(ad4.add ((t3).toNat * 3)).block, (ad4.add ((t3).toNat * 3)).off + 2, none⟩ = some (.int .i64 ((rd_T33 l0_0 t3).f2)) ∧ w'.cell? (ad4.add ((t5).toNat * 3)) = some (.int .i64 ((rd_T33 l0_0 t5).f0)) ∧ w'.cell? ⟨(ad4.add ((t5).toNat * 3)).block, (ad4.add ((t5).toNat * 3)).off + 1, none⟩ = some (.int .i64 ((rd_T33 l0_0 t5).f1)) ∧ w'.cell? ⟨(ad4.add ((t5).toNat * 3)).block, (ad4.add ((t5).toNat * 3)).off + 2, none⟩ = some (.int .i64 ((rd_T33 l0_0 t5).f2))) ∧ (w'.heap[g1]? = some (.cells #[.slice (some ad4) l0_0.length c0_0, .int .i64 a0_1, .int .i64 a0_2, .int .i64 a0_3, .int .i64 a0_4] 26 (0, 0))) ∧ (w'.heap[g2]? = some (.cells #[.slice none 0 0, .int .i64 0, .int .i64 0, .int .i64 0, .int .i64 0] 26 (0, 0))) ∧ (w'.heap[s_.1]? = some (.cells #[.int .i64 0, .int .i64 0, .int .i64 0] 33 (0, 0))) ∧ (w'.heap[s_.2]? = some (.cells #[.int .i64 0, .int .i64 0, .int .i64 0] 33 (0, 0))) ∧ (w.heap.size ≤ s_.1) ∧ (w.heap.size ≤ s_.1) ∧ (g1 ≠ s_.1) ∧ (s_.1 ≠ g1) ∧ (g2 ≠ s_.1) ∧ (s_.1 ≠ g2) ∧ (s_.2 ≠ s_.1) ∧ (s_.1 ≠ s_.2) ∧ (w.heap.size ≤ s_.2) ∧ (w.heap.size ≤ s_.2) ∧ (g1 ≠ s_.2) ∧ (s_.2 ≠ g1) ∧ (g2 ≠ s_.2) ∧ (s_.2 ≠ g2) ∧ (Below w.heap.size w w')) ?_ ?_
        rotate_left
        ·intro hJ14_15
         refine join_ (σ := Unit) 7 (Bt 18 2047) (fun s_ => [(15, .int .i64 t3), (16, .pointer (some (ad4.add ((t3).toNat * 3)))), (17, .agg #[.int .i64 ((rd_T33 l0_0 t3).f0), .int .i64 ((rd_T33 l0_0 t3).f1), .int .i64 ((rd_T33 l0_0 t3).f2)])]) (fun s_ w' => (w'.cell? ⟨g1, 0, none⟩ = some (.slice (some ad4) l0_0.length c0_0) ∧ w'.cell? ⟨g1, 1, none⟩ = some (.int .i64 a0_1) ∧ w'.cell? ⟨g1, 2, none⟩ = some (.int .i64 a0_2) ∧ w'.cell? ⟨g1, 3, none⟩ = some (.int .i64 a0_3) ∧ w'.cell? ⟨g1, 4, none⟩ = some (.int .i64 a0_4) ∧ w'.cell? (ad4.add ((t3).toNat * 3)) = some (.int .i64 ((rd_T33 l0_0 t3).f0)) ∧ w'.cell? ⟨(ad4.add ((t3).toNat * 3)).block, (ad4.add ((t3).toNat * 3)).off + 1, none⟩ = some (.int .i64 ((rd_T33 l0_0 t3).f1)) ∧ w'.cell? ⟨(ad4.add ((t3).toNat * 3)).block, (ad4.add ((t3).toNat * 3)).off + 2, none⟩ = some (.int .i64 ((rd_T33 l0_0 t3).f2)) ∧ w'.cell? (ad4.add ((t5).toNat * 3)) = some (.int .i64 ((rd_T33 l0_0 t5).f0)) ∧ w'.cell? ⟨(ad4.add ((t5).toNat * 3)).block, (ad4.add ((t5).toNat * 3)).off + 1, none⟩ = some (.int .i64 ((rd_T33 l0_0 t5).f1)) ∧ w'.cell? ⟨(ad4.add ((t5).toNat * 3)).block, (ad4.add ((t5).toNat * 3)).off + 2, none⟩ = some (.int .i64 ((rd_T33 l0_0 t5).f2))) ∧ (w'.heap[g1]? = some (.cells #[.slice (some ad4) l0_0.length c0_0, .int .i64 a0_1, .int .i64 a0_2, .int .i64 a0_3, .int .i64 a0_4] 26 (0, 0))) ∧ (w'.heap[g2]? = some (.cells #[.slice none 0 0, .int .i64 0, .int .i64 0, .int .i64 0, .int .i64 0] 26 (0, 0))) ∧ (Below w.heap.size w w')) ?_ ?_
         rotate_left
         ·intro hJ4
          refine join_ (σ := Nat) 9 (Bt 18 18319) (fun s_ => [(8, .pointer (some ⟨s_, 0, none⟩))]) (fun s_ w' => (w'.cell? ⟨g1, 0, none⟩ = some (.slice (some ad4) l0_0.length c0_0) ∧ w'.cell? ⟨g1, 1, none⟩ = some (.int .i64 a0_1) ∧ w'.cell? ⟨g1, 2, none⟩ = some (.int .i64 a0_2) ∧ w'.cell? ⟨g1, 3, none⟩ = some (.int .i64 a0_3) ∧ w'.cell? ⟨g1, 4, none⟩ = some (.int .i64 a0_4) ∧ w'.cell? (ad4.add ((t3).toNat * 3)) = some (.int .i64 ((rd_T33 l0_0 t3).f0)) ∧ w'.cell? ⟨(ad4.add ((t3).toNat * 3)).block, (ad4.add ((t3).toNat * 3)).off + 1, none⟩ = some (.int .i64 ((rd_T33 l0_0 t3).f1)) ∧ w'.cell? ⟨(ad4.add ((t3).toNat * 3)).block, (ad4.add ((t3).toNat * 3)).off + 2, none⟩ = some (.int .i64 ((rd_T33 l0_0 t3).f2)) ∧ w'.cell? (ad4.add ((t5).toNat * 3)) = some (.int .i64 ((rd_T33 l0_0 t5).f0)) ∧ w'.cell? ⟨(ad4.add ((t5).toNat * 3)).block, (ad4.add ((t5).toNat * 3)).off + 1, none⟩ = some (.int .i64 ((rd_T33 l0_0 t5).f1)) ∧ w'.cell? ⟨(ad4.add ((t5).toNat * 3)).block, (ad4.add ((t5).toNat * 3)).off + 2, none⟩ = some (.int .i64 ((rd_T33 l0_0 t5).f2))) ∧ (w'.heap[g1]? = some (.cells #[.slice (some ad4) l0_0.length c0_0, .int .i64 a0_1, .int .i64 a0_2, .int .i64 a0_3, .int .i64 a0_4] 26 (0, 0))) ∧ (w'.heap[g2]? = some (.cells #[.slice none 0 0, .int .i64 0, .int .i64 0, .int .i64 0, .int .i64 0] 26 (0, 0))) ∧ (w'.heap[s_]? = some (.cells #[.int .i64 0, .int .i64 0, .int .i64 0] 33 (0, 0))) ∧ (w.heap.size ≤ s_) ∧ (w.heap.size ≤ s_) ∧ (g1 ≠ s_) ∧ (s_ ≠ g1) ∧ (g2 ≠ s_) ∧ (s_ ≠ g2) ∧ (Below w.heap.size w w')) ?_ ?_
          rotate_left
          ·intro hJ14
           refine join_ (σ := Nat) 9 (Bt 18 34703) (fun s_ => [(9, .pointer (some ⟨s_, 0, none⟩))]) (fun s_ w' => (w'.cell? ⟨g1, 0, none⟩ = some (.slice (some ad4) l0_0.length c0_0) ∧ w'.cell? ⟨g1, 1, none⟩ = some (.int .i64 a0_1) ∧ w'.cell? ⟨g1, 2, none⟩ = some (.int .i64 a0_2) ∧ w'.cell? ⟨g1, 3, none⟩ = some (.int .i64 a0_3) ∧ w'.cell? ⟨g1, 4, none⟩ = some (.int .i64 a0_4) ∧ w'.cell? (ad4.add ((t3).toNat * 3)) = some (.int .i64 ((rd_T33 l0_0 t3).f0)) ∧ w'.cell? ⟨(ad4.add ((t3).toNat * 3)).block, (ad4.add ((t3).toNat * 3)).off + 1, none⟩ = some (.int .i64 ((rd_T33 l0_0 t3).f1)) ∧ w'.cell? ⟨(ad4.add ((t3).toNat * 3)).block, (ad4.add ((t3).toNat * 3)).off + 2, none⟩ = some (.int .i64 ((rd_T33 l0_0 t3).f2)) ∧ w'.cell? (ad4.add ((t5).toNat * 3)) = some (.int .i64 ((rd_T33 l0_0 t5).f0)) ∧ w'.cell? ⟨(ad4.add ((t5).toNat * 3)).block, (ad4.add ((t5).toNat * 3)).off + 1, none⟩ = some (.int .i64 ((rd_T33 l0_0 t5).f1)) ∧ w'.cell? ⟨(ad4.add ((t5).toNat * 3)).block, (ad4.add ((t5).toNat * 3)).off + 2, none⟩ = some (.int .i64 ((rd_T33 l0_0 t5).f2))) ∧ (w'.heap[g1]? = some (.cells #[.slice (some ad4) l0_0.length c0_0, .int .i64 a0_1, .int .i64 a0_2, .int .i64 a0_3, .int .i64 a0_4] 26 (0, 0))) ∧ (w'.heap[g2]? = some (.cells #[.slice none 0 0, .int .i64 0, .int .i64 0, .int .i64 0, .int .i64 0] 26 (0, 0))) ∧ (w'.heap[s_]? = some (.cells #[.int .i64 0, .int .i64 0, .int .i64 0] 33 (0, 0))) ∧ (w.heap.size ≤ s_) ∧ (w.heap.size ≤ s_) ∧ (g1 ≠ s_) ∧ (s_ ≠ g1) ∧ (g2 ≠ s_) ∧ (s_ ≠ g2) ∧ (Below w.heap.size w w')) ?_ ?_
           rotate_left
           ·intro hJ15
            refine th 4 14 15 (fun K hK => ?_) (fun K hK => ?_) (fun K hK => ?_)
            ·skip
             refine gO Tryz.func88 #[.agg #[.slice (some ad4) l0_0.length c0_0, .int .i64 a0_1, .int .i64 a0_2, .int .i64 a0_3, .int .i64 a0_4], .int .i64 a1] ?_
             with_reducible refine (Fs.calls k _ _ l0_0 a0_1 a0_2 a0_3 a0_4 a1 t3 _ ?side1 ?side2 A4.out).mono ?_
             (case side1 => exact Cs (Kd.C_below HR0_0.out HB.out))
             (case side2 => exact HC0_0.out)
             rintro e w18 ⟨rfl, hb⟩
             refine ⟨_, rfl, ?_⟩
             replace BK101 := kT BK101 hb
             replace B2 := kT B2 hb
             replace HB := bT HB hb
             clear hb
             refine hK.out _ _ ⟨bc BK101 0, bc BK101 1, bc BK101 2, bc BK101 3, bc BK101 4, (cb HB hw104_0), (cb HB hw104_1), (cb HB hw104_2), (cb HB hw106_0), (cb HB hw106_1), (cb HB hw106_2)⟩ (fun hHeld => ?_)
             clear hK K
             refine nO 15 ?_
             refine Pu 5 ?_
             refine Ta 6 ?_
             exact norm_ Ny (hJ4 () _ ⟨hHeld, ks BK101, ks B2, es HB⟩)
            ·skip
             refine bX 8 33 #[.int .i64 0, .int .i64 0, .int .i64 0] ?_
             intro g7 hg w18 B7 hb
             have G7 := gW HB hg
             have E7 := G7
             obtain ⟨N1_7, N7_1⟩ := nB BK101 hg
             obtain ⟨N2_7, N7_2⟩ := nB B2 hg
             replace BK101 := kT BK101 hb
             replace B2 := kT B2 hb
             replace HB := bT HB hb
             clear hb hg
             refine hK.out _ _ ⟨bc BK101 0, bc BK101 1, bc BK101 2, bc BK101 3, bc BK101 4, (cb HB hw104_0), (cb HB hw104_1), (cb HB hw104_2), (cb HB hw106_0), (cb HB hw106_1), (cb HB hw106_2)⟩ (fun hHeld => ?_)
             clear hK K
             refine nO 8 ?_
             exact norm_ Ny (hJ14 (g7) _ ⟨hHeld, ks BK101, ks B2, ks B7, G7.out, E7.out, N1_7.out, N7_1.out, N2_7.out, N7_2.out, es HB⟩)
            ·skip
             refine bX 9 33 #[.int .i64 0, .int .i64 0, .int .i64 0] ?_
             intro g8 hg w18 B8 hb
             have G8 := gW HB hg
             have E8 := G8
             obtain ⟨N1_8, N8_1⟩ := nB BK101 hg
             obtain ⟨N2_8, N8_2⟩ := nB B2 hg
             replace BK101 := kT BK101 hb
             replace B2 := kT B2 hb
             replace HB := bT HB hb
             clear hb hg
             refine hK.out _ _ ⟨bc BK101 0, bc BK101 1, bc BK101 2, bc BK101 3, bc BK101 4, (cb HB hw104_0), (cb HB hw104_1), (cb HB hw104_2), (cb HB hw106_0), (cb HB hw106_1), (cb HB hw106_2)⟩ (fun hHeld => ?_)
             clear hK K
             refine nO 9 ?_
             exact norm_ Ny (hJ15 (g8) _ ⟨hHeld, ks BK101, ks B2, ks B8, G8.out, E8.out, N1_8.out, N8_1.out, N2_8.out, N8_2.out, es HB⟩)
           ·skip
            rintro g8 w19 ⟨hS_, h0_, h1_, h2_, h3_, h4_, h5_, h6_, h7_, h8_, h9_⟩
            have B8 := Ak h2_
            have G8 := Ak h3_
            have E8 := Ak h4_
            have N1_8 := Ak h5_
            have N8_1 := Ak h6_
            have N2_8 := Ak h7_
            have N8_2 := Ak h8_
            replace BK101 := Ak h0_
            replace B2 := Ak h1_
            replace HB := Ak h9_
            clear h0_ h1_ h2_ h3_ h4_ h5_ h6_ h7_ h8_ h9_
            have hHeld := hS_
            refine nQ ?_
            refine tw 4 14 (fun K hK => ?_) (fun K hK => ?_)
            ·skip
             refine gO Tryz.func88 #[.agg #[.slice (some ad4) l0_0.length c0_0, .int .i64 a0_1, .int .i64 a0_2, .int .i64 a0_3, .int .i64 a0_4], .int .i64 a1] ?_
             with_reducible refine (Fs.calls k _ _ l0_0 a0_1 a0_2 a0_3 a0_4 a1 t3 _ ?side1 ?side2 A4.out).mono ?_
             (case side1 => exact Cs (Kd.C_below HR0_0.out HB.out))
             (case side2 => exact HC0_0.out)
             rintro e w20 ⟨rfl, hb⟩
             refine ⟨_, rfl, ?_⟩
             replace BK101 := kT BK101 hb
             replace B2 := kT B2 hb
             replace B8 := kT B8 hb
             replace HB := bT HB hb
             clear hb
             refine hK.out _ _ ⟨bc BK101 0, bc BK101 1, bc BK101 2, bc BK101 3, bc BK101 4, (cb HB hw104_0), (cb HB hw104_1), (cb HB hw104_2), (cb HB hw106_0), (cb HB hw106_1), (cb HB hw106_2)⟩ (fun hHeld => ?_)
             clear hK K
             refine nO 15 ?_
             refine Pu 5 ?_
             refine Ta 6 ?_
             exact norm_ Ny (hJ4_15 (g8) _ ⟨hHeld, ks BK101, ks B2, ks B8, G8.out, E8.out, N1_8.out, N8_1.out, N2_8.out, N8_2.out, es HB⟩)
            ·skip
             refine bX 8 33 #[.int .i64 0, .int .i64 0, .int .i64 0] ?_
             intro g7 hg w20 B7 hb
             have G7 := gW HB hg
             have E7 := G7
             obtain ⟨N1_7, N7_1⟩ := nB BK101 hg
             obtain ⟨N2_7, N7_2⟩ := nB B2 hg
             obtain ⟨N8_7, N7_8⟩ := nB B8 hg
             replace BK101 := kT BK101 hb
             replace B2 := kT B2 hb
             replace B8 := kT B8 hb
             replace HB := bT HB hb
             clear hb hg
             refine hK.out _ _ ⟨bc BK101 0, bc BK101 1, bc BK101 2, bc BK101 3, bc BK101 4, (cb HB hw104_0), (cb HB hw104_1), (cb HB hw104_2), (cb HB hw106_0), (cb HB hw106_1), (cb HB hw106_2)⟩ (fun hHeld => ?_)
             clear hK K
             refine nO 8 ?_
             exact norm_ Ny (hJ14_15 (g7, g8) _ ⟨hHeld, ks BK101, ks B2, ks B7, ks B8, G7.out, E7.out, N1_7.out, N7_1.out, N2_7.out, N7_2.out, N8_7.out, N7_8.out, G8.out, E8.out, N1_8.out, N8_1.out, N2_8.out, N8_2.out, es HB⟩)
          ·skip
           rintro g7 w19 ⟨hS_, h0_, h1_, h2_, h3_, h4_, h5_, h6_, h7_, h8_, h9_⟩
           have B7 := Ak h2_
           have G7 := Ak h3_
           have E7 := Ak h4_
           have N1_7 := Ak h5_
           have N7_1 := Ak h6_
           have N2_7 := Ak h7_
           have N7_2 := Ak h8_
           replace BK101 := Ak h0_
           replace B2 := Ak h1_
           replace HB := Ak h9_
           clear h0_ h1_ h2_ h3_ h4_ h5_ h6_ h7_ h8_ h9_
           have hHeld := hS_
           refine nQ ?_
           refine tw 4 15 (fun K hK => ?_) (fun K hK => ?_)
           ·skip
            refine gO Tryz.func88 #[.agg #[.slice (some ad4) l0_0.length c0_0, .int .i64 a0_1, .int .i64 a0_2, .int .i64 a0_3, .int .i64 a0_4], .int .i64 a1] ?_
            with_reducible refine (Fs.calls k _ _ l0_0 a0_1 a0_2 a0_3 a0_4 a1 t3 _ ?side1 ?side2 A4.out).mono ?_
            (case side1 => exact Cs (Kd.C_below HR0_0.out HB.out))
            (case side2 => exact HC0_0.out)
            rintro e w20 ⟨rfl, hb⟩
            refine ⟨_, rfl, ?_⟩
            replace BK101 := kT BK101 hb
            replace B2 := kT B2 hb
            replace B7 := kT B7 hb
            replace HB := bT HB hb
            clear hb
            refine hK.out _ _ ⟨bc BK101 0, bc BK101 1, bc BK101 2, bc BK101 3, bc BK101 4, (cb HB hw104_0), (cb HB hw104_1), (cb HB hw104_2), (cb HB hw106_0), (cb HB hw106_1), (cb HB hw106_2)⟩ (fun hHeld => ?_)
            clear hK K
            refine nO 15 ?_
            refine Pu 5 ?_
            refine Ta 6 ?_
            exact norm_ Ny (hJ4_14 (g7) _ ⟨hHeld, ks BK101, ks B2, ks B7, G7.out, E7.out, N1_7.out, N7_1.out, N2_7.out, N7_2.out, es HB⟩)
           ·skip
            refine bX 9 33 #[.int .i64 0, .int .i64 0, .int .i64 0] ?_
            intro g8 hg w20 B8 hb
            have G8 := gW HB hg
            have E8 := G8
            obtain ⟨N1_8, N8_1⟩ := nB BK101 hg
            obtain ⟨N2_8, N8_2⟩ := nB B2 hg
            obtain ⟨N7_8, N8_7⟩ := nB B7 hg
            replace BK101 := kT BK101 hb
            replace B2 := kT B2 hb
            replace B7 := kT B7 hb
            replace HB := bT HB hb
            clear hb hg
            refine hK.out _ _ ⟨bc BK101 0, bc BK101 1, bc BK101 2, bc BK101 3, bc BK101 4, (cb HB hw104_0), (cb HB hw104_1), (cb HB hw104_2), (cb HB hw106_0), (cb HB hw106_1), (cb HB hw106_2)⟩ (fun hHeld => ?_)
            clear hK K
            refine nO 9 ?_
            exact norm_ Ny (hJ14_15 (g7, g8) _ ⟨hHeld, ks BK101, ks B2, ks B7, ks B8, G7.out, E7.out, N1_7.out, N7_1.out, N2_7.out, N7_2.out, N8_7.out, N7_8.out, G8.out, E8.out, N1_8.out, N8_1.out, N2_8.out, N8_2.out, es HB⟩)
         ·skip
          rintro _ w19 ⟨hS_, h0_, h1_, h2_⟩
          replace BK101 := Ak h0_
          replace B2 := Ak h1_
          replace HB := Ak h2_
          clear h0_ h1_ h2_
          have hHeld := hS_
          refine nQ ?_
          refine th 11 14 15 (fun K hK => ?_) (fun K hK => ?_) (fun K hK => ?_)
          ·skip
           refine gO Tryz.func88 #[.agg #[.slice (some ad4) l0_0.length c0_0, .int .i64 a0_1, .int .i64 a0_2, .int .i64 a0_3, .int .i64 a0_4], .int .i64 a2] ?_
           with_reducible refine (Fs.calls k _ _ l0_0 a0_1 a0_2 a0_3 a0_4 a2 t5 _ ?side1 ?side2 A7.out).mono ?_
           (case side1 => exact Cs (Kd.C_below HR0_0.out HB.out))
           (case side2 => exact HC0_0.out)
           rintro e w20 ⟨rfl, hb⟩
           refine ⟨_, rfl, ?_⟩
           replace BK101 := kT BK101 hb
           replace B2 := kT B2 hb
           replace HB := bT HB hb
           clear hb
           refine hK.out _ _ ⟨bc BK101 0, bc BK101 1, bc BK101 2, bc BK101 3, bc BK101 4, (cb HB hw104_0), (cb HB hw104_1), (cb HB hw104_2), (cb HB hw106_0), (cb HB hw106_1), (cb HB hw106_2)⟩ (fun hHeld => ?_)
           clear hK K
           refine nO 22 ?_
           refine Pu 12 ?_
           refine Ta 13 ?_
           exact norm_ Ny (hJ4_11 () _ ⟨hHeld, ks BK101, ks B2, es HB⟩)
          ·skip
           refine bX 8 33 #[.int .i64 0, .int .i64 0, .int .i64 0] ?_
           intro g7 hg w20 B7 hb
           have G7 := gW HB hg
           have E7 := G7
           obtain ⟨N1_7, N7_1⟩ := nB BK101 hg
           obtain ⟨N2_7, N7_2⟩ := nB B2 hg
           replace BK101 := kT BK101 hb
           replace B2 := kT B2 hb
           replace HB := bT HB hb
           clear hb hg
           refine hK.out _ _ ⟨bc BK101 0, bc BK101 1, bc BK101 2, bc BK101 3, bc BK101 4, (cb HB hw104_0), (cb HB hw104_1), (cb HB hw104_2), (cb HB hw106_0), (cb HB hw106_1), (cb HB hw106_2)⟩ (fun hHeld => ?_)
           clear hK K
           refine nO 8 ?_
           exact norm_ Ny (hJ4_14 (g7) _ ⟨hHeld, ks BK101, ks B2, ks B7, G7.out, E7.out, N1_7.out, N7_1.out, N2_7.out, N7_2.out, es HB⟩)
          ·skip
           refine bX 9 33 #[.int .i64 0, .int .i64 0, .int .i64 0] ?_
           intro g8 hg w20 B8 hb
           have G8 := gW HB hg
           have E8 := G8
           obtain ⟨N1_8, N8_1⟩ := nB BK101 hg
           obtain ⟨N2_8, N8_2⟩ := nB B2 hg
           replace BK101 := kT BK101 hb
           replace B2 := kT B2 hb
           replace HB := bT HB hb
           clear hb hg
           refine hK.out _ _ ⟨bc BK101 0, bc BK101 1, bc BK101 2, bc BK101 3, bc BK101 4, (cb HB hw104_0), (cb HB hw104_1), (cb HB hw104_2), (cb HB hw106_0), (cb HB hw106_1), (cb HB hw106_2)⟩ (fun hHeld => ?_)
           clear hK K
           refine nO 9 ?_
           exact norm_ Ny (hJ4_15 (g8) _ ⟨hHeld, ks BK101, ks B2, ks B8, G8.out, E8.out, N1_8.out, N8_1.out, N2_8.out, N8_2.out, es HB⟩)
        ·skip
         rintro ⟨g7, g8⟩ w20 ⟨hS_, h0_, h1_, h2_, h3_, h4_, h5_, h6_, h7_, h8_, h9_, h10_, h11_, h12_, h13_, h14_, h15_, h16_, h17_, h18_⟩
         have B7 := Ak h2_
         have B8 := Ak h3_
         have G7 := Ak h4_
         have E7 := Ak h5_
         have N1_7 := Ak h6_
         have N7_1 := Ak h7_
         have N2_7 := Ak h8_
         have N7_2 := Ak h9_
         have N8_7 := Ak h10_
         have N7_8 := Ak h11_
         have G8 := Ak h12_
         have E8 := Ak h13_
         have N1_8 := Ak h14_
         have N8_1 := Ak h15_
         have N2_8 := Ak h16_
         have N8_2 := Ak h17_
         replace BK101 := Ak h0_
         replace B2 := Ak h1_
         replace HB := Ak h18_
         clear h0_ h10_ h11_ h12_ h13_ h14_ h15_ h16_ h17_ h18_ h1_ h2_ h3_ h4_ h5_ h6_ h7_ h8_ h9_
         have hHeld := hS_
         refine nQ ?_
         refine oN 4 fun K hK => ?_
         refine gO Tryz.func88 #[.agg #[.slice (some ad4) l0_0.length c0_0, .int .i64 a0_1, .int .i64 a0_2, .int .i64 a0_3, .int .i64 a0_4], .int .i64 a1] ?_
         with_reducible refine (Fs.calls k _ _ l0_0 a0_1 a0_2 a0_3 a0_4 a1 t3 _ ?side1 ?side2 A4.out).mono ?_
         (case side1 => exact Cs (Kd.C_below HR0_0.out HB.out))
         (case side2 => exact HC0_0.out)
         rintro e w21 ⟨rfl, hb⟩
         refine ⟨_, rfl, ?_⟩
         replace BK101 := kT BK101 hb
         replace B2 := kT B2 hb
         replace B7 := kT B7 hb
         replace B8 := kT B8 hb
         replace HB := bT HB hb
         clear hb
         refine hK.out _ _ ⟨bc BK101 0, bc BK101 1, bc BK101 2, bc BK101 3, bc BK101 4, (cb HB hw104_0), (cb HB hw104_1), (cb HB hw104_2), (cb HB hw106_0), (cb HB hw106_1), (cb HB hw106_2)⟩ (fun hHeld => ?_)
         clear hK K
         refine nO 15 ?_
         refine Pu 5 ?_
         refine Ta 6 ?_
         exact norm_ Ny (hJ4_14_15 (g7, g8) _ ⟨hHeld, ks BK101, ks B2, ks B7, ks B8, G7.out, E7.out, N1_7.out, N7_1.out, N2_7.out, N7_2.out, N8_7.out, N7_8.out, G8.out, E8.out, N1_8.out, N8_1.out, N2_8.out, N8_2.out, es HB⟩)
       ·skip
        rintro g8 w20 ⟨hS_, h0_, h1_, h2_, h3_, h4_, h5_, h6_, h7_, h8_, h9_⟩
        have B8 := Ak h2_
        have G8 := Ak h3_
        have E8 := Ak h4_
        have N1_8 := Ak h5_
        have N8_1 := Ak h6_
        have N2_8 := Ak h7_
        have N8_2 := Ak h8_
        replace BK101 := Ak h0_
        replace B2 := Ak h1_
        replace HB := Ak h9_
        clear h0_ h1_ h2_ h3_ h4_ h5_ h6_ h7_ h8_ h9_
        have hHeld := hS_
        refine nQ ?_
        refine tw 11 14 (fun K hK => ?_) (fun K hK => ?_)
        ·skip
         refine gO Tryz.func88 #[.agg #[.slice (some ad4) l0_0.length c0_0, .int .i64 a0_1, .int .i64 a0_2, .int .i64 a0_3, .int .i64 a0_4], .int .i64 a2] ?_
         with_reducible refine (Fs.calls k _ _ l0_0 a0_1 a0_2 a0_3 a0_4 a2 t5 _ ?side1 ?side2 A7.out).mono ?_
         (case side1 => exact Cs (Kd.C_below HR0_0.out HB.out))
         (case side2 => exact HC0_0.out)
         rintro e w21 ⟨rfl, hb⟩
         refine ⟨_, rfl, ?_⟩
         replace BK101 := kT BK101 hb
         replace B2 := kT B2 hb
         replace B8 := kT B8 hb
         replace HB := bT HB hb
         clear hb
         refine hK.out _ _ ⟨bc BK101 0, bc BK101 1, bc BK101 2, bc BK101 3, bc BK101 4, (cb HB hw104_0), (cb HB hw104_1), (cb HB hw104_2), (cb HB hw106_0), (cb HB hw106_1), (cb HB hw106_2)⟩ (fun hHeld => ?_)
         clear hK K
         refine nO 22 ?_
         refine Pu 12 ?_
         refine Ta 13 ?_
         exact norm_ Ny (hJ4_11_15 (g8) _ ⟨hHeld, ks BK101, ks B2, ks B8, G8.out, E8.out, N1_8.out, N8_1.out, N2_8.out, N8_2.out, es HB⟩)
        ·skip
         refine bX 8 33 #[.int .i64 0, .int .i64 0, .int .i64 0] ?_
         intro g7 hg w21 B7 hb
         have G7 := gW HB hg
         have E7 := G7
         obtain ⟨N1_7, N7_1⟩ := nB BK101 hg
         obtain ⟨N2_7, N7_2⟩ := nB B2 hg
         obtain ⟨N8_7, N7_8⟩ := nB B8 hg
         replace BK101 := kT BK101 hb
         replace B2 := kT B2 hb
         replace B8 := kT B8 hb
         replace HB := bT HB hb
         clear hb hg
         refine hK.out _ _ ⟨bc BK101 0, bc BK101 1, bc BK101 2, bc BK101 3, bc BK101 4, (cb HB hw104_0), (cb HB hw104_1), (cb HB hw104_2), (cb HB hw106_0), (cb HB hw106_1), (cb HB hw106_2)⟩ (fun hHeld => ?_)
         clear hK K
         refine nO 8 ?_
         exact norm_ Ny (hJ4_14_15 (g7, g8) _ ⟨hHeld, ks BK101, ks B2, ks B7, ks B8, G7.out, E7.out, N1_7.out, N7_1.out, N2_7.out, N7_2.out, N8_7.out, N7_8.out, G8.out, E8.out, N1_8.out, N8_1.out, N2_8.out, N8_2.out, es HB⟩)
      ·skip
       rintro g7 w20 ⟨hS_, h0_, h1_, h2_, h3_, h4_, h5_, h6_, h7_, h8_, h9_⟩
       have B7 := Ak h2_
       have G7 := Ak h3_
       have E7 := Ak h4_
       have N1_7 := Ak h5_
       have N7_1 := Ak h6_
       have N2_7 := Ak h7_
       have N7_2 := Ak h8_
       replace BK101 := Ak h0_
       replace B2 := Ak h1_
       replace HB := Ak h9_
       clear h0_ h1_ h2_ h3_ h4_ h5_ h6_ h7_ h8_ h9_
       have hHeld := hS_
       refine nQ ?_
       refine tw 11 15 (fun K hK => ?_) (fun K hK => ?_)
       ·skip
        refine gO Tryz.func88 #[.agg #[.slice (some ad4) l0_0.length c0_0, .int .i64 a0_1, .int .i64 a0_2, .int .i64 a0_3, .int .i64 a0_4], .int .i64 a2] ?_
        with_reducible refine (Fs.calls k _ _ l0_0 a0_1 a0_2 a0_3 a0_4 a2 t5 _ ?side1 ?side2 A7.out).mono ?_
        (case side1 => exact Cs (Kd.C_below HR0_0.out HB.out))
        (case side2 => exact HC0_0.out)
        rintro e w21 ⟨rfl, hb⟩
        refine ⟨_, rfl, ?_⟩
        replace BK101 := kT BK101 hb
        replace B2 := kT B2 hb
        replace B7 := kT B7 hb
        replace HB := bT HB hb
        clear hb
        refine hK.out _ _ ⟨bc BK101 0, bc BK101 1, bc BK101 2, bc BK101 3, bc BK101 4, (cb HB hw104_0), (cb HB hw104_1), (cb HB hw104_2), (cb HB hw106_0), (cb HB hw106_1), (cb HB hw106_2)⟩ (fun hHeld => ?_)
        clear hK K
        refine nO 22 ?_
        refine Pu 12 ?_
        refine Ta 13 ?_
        exact norm_ Ny (hJ4_11_14 (g7) _ ⟨hHeld, ks BK101, ks B2, ks B7, G7.out, E7.out, N1_7.out, N7_1.out, N2_7.out, N7_2.out, es HB⟩)
       ·skip
        refine bX 9 33 #[.int .i64 0, .int .i64 0, .int .i64 0] ?_
        intro g8 hg w21 B8 hb
        have G8 := gW HB hg
        have E8 := G8
        obtain ⟨N1_8, N8_1⟩ := nB BK101 hg
        obtain ⟨N2_8, N8_2⟩ := nB B2 hg
        obtain ⟨N7_8, N8_7⟩ := nB B7 hg
        replace BK101 := kT BK101 hb
        replace B2 := kT B2 hb
        replace B7 := kT B7 hb
        replace HB := bT HB hb
        clear hb hg
        refine hK.out _ _ ⟨bc BK101 0, bc BK101 1, bc BK101 2, bc BK101 3, bc BK101 4, (cb HB hw104_0), (cb HB hw104_1), (cb HB hw104_2), (cb HB hw106_0), (cb HB hw106_1), (cb HB hw106_2)⟩ (fun hHeld => ?_)
        clear hK K
        refine nO 9 ?_
        exact norm_ Ny (hJ4_14_15 (g7, g8) _ ⟨hHeld, ks BK101, ks B2, ks B7, ks B8, G7.out, E7.out, N1_7.out, N7_1.out, N2_7.out, N7_2.out, N8_7.out, N7_8.out, G8.out, E8.out, N1_8.out, N8_1.out, N2_8.out, N8_2.out, es HB⟩)
     ·skip
      rintro _ w20 ⟨hS_, h0_, h1_, h2_⟩
      replace BK101 := Ak h0_
      replace B2 := Ak h1_
      replace HB := Ak h2_
      clear h0_ h1_ h2_
      have hHeld := hS_
      refine nQ ?_
      refine tw 14 15 (fun K hK => ?_) (fun K hK => ?_)
      ·skip
       refine bX 8 33 #[.int .i64 0, .int .i64 0, .int .i64 0] ?_
       intro g7 hg w21 B7 hb
       have G7 := gW HB hg
       have E7 := G7
       obtain ⟨N1_7, N7_1⟩ := nB BK101 hg
       obtain ⟨N2_7, N7_2⟩ := nB B2 hg
       replace BK101 := kT BK101 hb
       replace B2 := kT B2 hb
       replace HB := bT HB hb
       clear hb hg
       refine hK.out _ _ ⟨bc BK101 0, bc BK101 1, bc BK101 2, bc BK101 3, bc BK101 4, (cb HB hw104_0), (cb HB hw104_1), (cb HB hw104_2), (cb HB hw106_0), (cb HB hw106_1), (cb HB hw106_2)⟩ (fun hHeld => ?_)
       clear hK K
       refine nO 8 ?_
       exact norm_ Ny (hJ4_11_14 (g7) _ ⟨hHeld, ks BK101, ks B2, ks B7, G7.out, E7.out, N1_7.out, N7_1.out, N2_7.out, N7_2.out, es HB⟩)
      ·skip
       refine bX 9 33 #[.int .i64 0, .int .i64 0, .int .i64 0] ?_
       intro g8 hg w21 B8 hb
       have G8 := gW HB hg
       have E8 := G8
       obtain ⟨N1_8, N8_1⟩ := nB BK101 hg
       obtain ⟨N2_8, N8_2⟩ := nB B2 hg
       replace BK101 := kT BK101 hb
       replace B2 := kT B2 hb
       replace HB := bT HB hb
       clear hb hg
       refine hK.out _ _ ⟨bc BK101 0, bc BK101 1, bc BK101 2, bc BK101 3, bc BK101 4, (cb HB hw104_0), (cb HB hw104_1), (cb HB hw104_2), (cb HB hw106_0), (cb HB hw106_1), (cb HB hw106_2)⟩ (fun hHeld => ?_)
       clear hK K
       refine nO 9 ?_
       exact norm_ Ny (hJ4_11_15 (g8) _ ⟨hHeld, ks BK101, ks B2, ks B8, G8.out, E8.out, N1_8.out, N8_1.out, N2_8.out, N8_2.out, es HB⟩)
    ·skip
     rintro ⟨g7, g8⟩ w21 ⟨hS_, h0_, h1_, h2_, h3_, h4_, h5_, h6_, h7_, h8_, h9_, h10_, h11_, h12_, h13_, h14_, h15_, h16_, h17_, h18_⟩
     have B7 := Ak h2_
     have B8 := Ak h3_
     have G7 := Ak h4_
     have E7 := Ak h5_
     have N1_7 := Ak h6_
     have N7_1 := Ak h7_
     have N2_7 := Ak h8_
     have N7_2 := Ak h9_
     have N8_7 := Ak h10_
     have N7_8 := Ak h11_
     have G8 := Ak h12_
     have E8 := Ak h13_
     have N1_8 := Ak h14_
     have N8_1 := Ak h15_
     have N2_8 := Ak h16_
     have N8_2 := Ak h17_
     replace BK101 := Ak h0_
     replace B2 := Ak h1_
     replace HB := Ak h18_
     clear h0_ h10_ h11_ h12_ h13_ h14_ h15_ h16_ h17_ h18_ h1_ h2_ h3_ h4_ h5_ h6_ h7_ h8_ h9_
     have hHeld := hS_
     refine nQ ?_
     refine oN 11 fun K hK => ?_
     refine gO Tryz.func88 #[.agg #[.slice (some ad4) l0_0.length c0_0, .int .i64 a0_1, .int .i64 a0_2, .int .i64 a0_3, .int .i64 a0_4], .int .i64 a2] ?_
     with_reducible refine (Fs.calls k _ _ l0_0 a0_1 a0_2 a0_3 a0_4 a2 t5 _ ?side1 ?side2 A7.out).mono ?_
     (case side1 => exact Cs (Kd.C_below HR0_0.out HB.out))
     (case side2 => exact HC0_0.out)
     rintro e w22 ⟨rfl, hb⟩
     refine ⟨_, rfl, ?_⟩
     replace BK101 := kT BK101 hb
     replace B2 := kT B2 hb
     replace B7 := kT B7 hb
     replace B8 := kT B8 hb
     replace HB := bT HB hb
     clear hb
     refine hK.out _ _ ⟨bc BK101 0, bc BK101 1, bc BK101 2, bc BK101 3, bc BK101 4, (cb HB hw104_0), (cb HB hw104_1), (cb HB hw104_2), (cb HB hw106_0), (cb HB hw106_1), (cb HB hw106_2)⟩ (fun hHeld => ?_)
     clear hK K
     refine nO 22 ?_
     refine Pu 12 ?_
     refine Ta 13 ?_
     exact norm_ Ny (hJ4_11_14_15 (g7, g8) _ ⟨hHeld, ks BK101, ks B2, ks B7, ks B8, G7.out, E7.out, N1_7.out, N7_1.out, N2_7.out, N7_2.out, N8_7.out, N7_8.out, G8.out, E8.out, N1_8.out, N8_1.out, N2_8.out, N8_2.out, es HB⟩)
   ·skip
    rintro g8 w21 ⟨hS_, h0_, h1_, h2_, h3_, h4_, h5_, h6_, h7_, h8_, h9_⟩
    have B8 := Ak h2_
    have G8 := Ak h3_
    have E8 := Ak h4_
    have N1_8 := Ak h5_
    have N8_1 := Ak h6_
    have N2_8 := Ak h7_
    have N8_2 := Ak h8_
    replace BK101 := Ak h0_
    replace B2 := Ak h1_
    replace HB := Ak h9_
    clear h0_ h1_ h2_ h3_ h4_ h5_ h6_ h7_ h8_ h9_
    have hHeld := hS_
    refine nQ ?_
    refine oN 14 fun K hK => ?_
    refine bX 8 33 #[.int .i64 0, .int .i64 0, .int .i64 0] ?_
    intro g7 hg w22 B7 hb
    have G7 := gW HB hg
    have E7 := G7
    obtain ⟨N1_7, N7_1⟩ := nB BK101 hg
    obtain ⟨N2_7, N7_2⟩ := nB B2 hg
    obtain ⟨N8_7, N7_8⟩ := nB B8 hg
    replace BK101 := kT BK101 hb
    replace B2 := kT B2 hb
    replace B8 := kT B8 hb
    replace HB := bT HB hb
    clear hb hg
    refine hK.out _ _ ⟨bc BK101 0, bc BK101 1, bc BK101 2, bc BK101 3, bc BK101 4, (cb HB hw104_0), (cb HB hw104_1), (cb HB hw104_2), (cb HB hw106_0), (cb HB hw106_1), (cb HB hw106_2)⟩ (fun hHeld => ?_)
    clear hK K
    refine nO 8 ?_
    exact norm_ Ny (hJ4_11_14_15 (g7, g8) _ ⟨hHeld, ks BK101, ks B2, ks B7, ks B8, G7.out, E7.out, N1_7.out, N7_1.out, N2_7.out, N7_2.out, N8_7.out, N7_8.out, G8.out, E8.out, N1_8.out, N8_1.out, N2_8.out, N8_2.out, es HB⟩)
  ·skip
   rintro g7 w21 ⟨hS_, h0_, h1_, h2_, h3_, h4_, h5_, h6_, h7_, h8_, h9_⟩
   have B7 := Ak h2_
   have G7 := Ak h3_
   have E7 := Ak h4_
   have N1_7 := Ak h5_
   have N7_1 := Ak h6_
   have N2_7 := Ak h7_
   have N7_2 := Ak h8_
   replace BK101 := Ak h0_
   replace B2 := Ak h1_
   replace HB := Ak h9_
   clear h0_ h1_ h2_ h3_ h4_ h5_ h6_ h7_ h8_ h9_
   have hHeld := hS_
   refine nQ ?_
   refine oN 15 fun K hK => ?_
   refine bX 9 33 #[.int .i64 0, .int .i64 0, .int .i64 0] ?_
   intro g8 hg w22 B8 hb
   have G8 := gW HB hg
   have E8 := G8
   obtain ⟨N1_8, N8_1⟩ := nB BK101 hg
   obtain ⟨N2_8, N8_2⟩ := nB B2 hg
   obtain ⟨N7_8, N8_7⟩ := nB B7 hg
   replace BK101 := kT BK101 hb
   replace B2 := kT B2 hb
   replace B7 := kT B7 hb
   replace HB := bT HB hb
   clear hb hg
   refine hK.out _ _ ⟨bc BK101 0, bc BK101 1, bc BK101 2, bc BK101 3, bc BK101 4, (cb HB hw104_0), (cb HB hw104_1), (cb HB hw104_2), (cb HB hw106_0), (cb HB hw106_1), (cb HB hw106_2)⟩ (fun hHeld => ?_)
   clear hK K
   refine nO 9 ?_
   exact norm_ Ny (hJ4_11_14_15 (g7, g8) _ ⟨hHeld, ks BK101, ks B2, ks B7, ks B8, G7.out, E7.out, N1_7.out, N7_1.out, N2_7.out, N7_2.out, N8_7.out, N7_8.out, G8.out, E8.out, N1_8.out, N8_1.out, N2_8.out, N8_2.out, es HB⟩)
 rintro ⟨g7, g8⟩ w22 ⟨hS_, h0_, h1_, h2_, h3_, h4_, h5_, h6_, h7_, h8_, h9_, h10_, h11_, h12_, h13_, h14_, h15_, h16_, h17_, h18_⟩
 have B7 := Ak h2_
 have B8 := Ak h3_
 have G7 := Ak h4_
 have E7 := Ak h5_
 have N1_7 := Ak h6_
 have N7_1 := Ak h7_
 have N2_7 := Ak h8_
 have N7_2 := Ak h9_
 have N8_7 := Ak h10_
 have N7_8 := Ak h11_
 have G8 := Ak h12_
 have E8 := Ak h13_
 have N1_8 := Ak h14_
 have N8_1 := Ak h15_
 have N2_8 := Ak h16_
 have N8_2 := Ak h17_
 replace BK101 := Ak h0_
 replace B2 := Ak h1_
 replace HB := Ak h18_
 clear h0_ h10_ h11_ h12_ h13_ h14_ h15_ h16_ h17_ h18_ h1_ h2_ h3_ h4_ h5_ h6_ h7_ h8_ h9_
 have hHeld := hS_
 refine nQ ?_
 refine oN 16 fun K hK => ?_
 have hs23 := Sq.c3 B7.out
 have hns23_0 := N1_7.out
 have hns23_1 := N2_7.out
 have hns23_3 := N8_7.out
 have hms23_0 := N7_1.out
 have hms23_1 := N7_2.out
 have hms23_3 := N7_8.out
 refine sK ?_
 refine hK.out _ _ ⟨(cf3 N1_7.out hHeld.1), (cf3 N1_7.out hHeld.2.1), (cf3 N1_7.out hHeld.2.2.1), (cf3 N1_7.out hHeld.2.2.2.1), (cf3 N1_7.out hHeld.2.2.2.2.1), (Sq.cB Bq hw104_0), (Sq.cB Bq hw104_1), (Sq.cB Bq hw104_2), (Sq.cB Bq hw106_0), (Sq.cB Bq hw106_1), (Sq.cB Bq hw106_2)⟩ (fun hHeld => ?_)
 clear hK K
 refine oN 17 fun K hK => ?_
 have hs26 := Sq.c3 B8.out
 have hns26_0 := N1_8.out
 have hns26_1 := N2_8.out
 have hns26_2 := N7_8.out
 have hms26_0 := N8_1.out
 have hms26_1 := N8_2.out
 have hms26_2 := N8_7.out
 refine sK ?_
 refine hK.out _ _ ⟨(cf3 N1_8.out hHeld.1), (cf3 N1_8.out hHeld.2.1), (cf3 N1_8.out hHeld.2.2.1), (cf3 N1_8.out hHeld.2.2.2.1), (cf3 N1_8.out hHeld.2.2.2.2.1), (Sq.cB Bq hw104_0), (Sq.cB Bq hw104_1), (Sq.cB Bq hw104_2), (Sq.cB Bq hw106_0), (Sq.cB Bq hw106_1), (Sq.cB Bq hw106_2)⟩ (fun hHeld => ?_)
 clear hK K
 refine dO ?_
 have hnb29 := nP N1_2
 have hnb30 := nP N1_7
 have hnb31 := nP N1_8
 have hz32 := Sq.c5 BK101.out
 have hnb33 := nP N8_2
 have hnb34 := nP N8_7
 have hz35 := Sq.c3 B8.out
 try go_wp2_with (first | (refine cE (some 29) Tryz.func91 #[.agg #[.slice (some ad4) l0_0.length c0_0, .int .i64 a0_1, .int .i64 a0_2, .int .i64 a0_3, .int .i64 a0_4], .int .i64 a2, .int .i64 ((rd_T33 l0_0 t5).f2)] ?_; (with_reducible refine (Faj.calls k _ _ l0_0 a0_1 a0_2 a0_3 a0_4 a2 ((rd_T33 l0_0 t5).f2) t9 t12 t13 t14 t15 _ ?side1 ?side2 A10.out).mono ?_); (case side1 => exact Kd.C_below HR0_0.out (Bq)); (case side2 => exact HC0_0.out); rintro e w36 ⟨v10, rfl, ho0, hb⟩; refine ⟨_, rfl, ?_⟩; have R11 := Ak (Kd.R_lower (Kd.R_newB (Kd.R_newB ho0 (g := g7) (o := .cells #[.int .i64 ((rd_T33 l0_0 t3).f0), .int .i64 ((rd_T33 l0_0 t3).f1), .int .i64 ((rd_T33 l0_0 t3).f2)] 33 (0, 0)) (by (with_reducible repeat (first | refine blk_drewN ?_ _ | refine blk_drew ?_ | refine blk_alloc ?_ _)); refine blk_far ?_ N7_8.out _; (with_reducible repeat (first | refine blk_drewN ?_ _ | refine blk_drew ?_ | refine blk_alloc ?_ _)); refine blk_far ?_ N7_8.out _; (with_reducible repeat (first | refine blk_drewN ?_ _ | refine blk_drew ?_ | refine blk_alloc ?_ _)); refine blk_far ?_ N7_8.out _; apply Sq.put3; exact bS B7.out)) (g := g8) (o := .cells #[.int .i64 ((rd_T33 l0_0 t5).f0), .int .i64 ((rd_T33 l0_0 t5).f1), .int .i64 ((rd_T33 l0_0 t5).f2)] 33 (0, 0)) (by apply Sq.put3; exact Kz)) (below_size (Bq))); replace BK101 := Ak (blk_below (g := g1) (o := .cells #[.slice (some ad4) l0_0.length c0_0, .int .i64 a0_1, .int .i64 a0_2, .int .i64 a0_3, .int .i64 a0_4] 26 (0, 0)) (Kz) hb); replace B2 := Ak (blk_below (g := g2) (o := .cells #[.slice none 0 0, .int .i64 0, .int .i64 0, .int .i64 0, .int .i64 0] 26 (0, 0)) (Kz) hb); replace B7 := Ak (blk_below (g := g7) (o := .cells #[.int .i64 ((rd_T33 l0_0 t3).f0), .int .i64 ((rd_T33 l0_0 t3).f1), .int .i64 ((rd_T33 l0_0 t3).f2)] 33 (0, 0)) (by (with_reducible repeat (first | refine blk_drewN ?_ _ | refine blk_drew ?_ | refine blk_alloc ?_ _)); refine blk_far ?_ N7_8.out _; (with_reducible repeat (first | refine blk_drewN ?_ _ | refine blk_drew ?_ | refine blk_alloc ?_ _)); refine blk_far ?_ N7_8.out _; (with_reducible repeat (first | refine blk_drewN ?_ _ | refine blk_drew ?_ | refine blk_alloc ?_ _)); refine blk_far ?_ N7_8.out _; apply Sq.put3; exact bS B7.out) hb); replace B8 := Ak (blk_below (g := g8) (o := .cells #[.int .i64 ((rd_T33 l0_0 t5).f0), .int .i64 ((rd_T33 l0_0 t5).f1), .int .i64 ((rd_T33 l0_0 t5).f2)] 33 (0, 0)) (by apply Sq.put3; exact Kz) hb); replace HB := Ak (below_step (Bq) hb); clear hb; (try clear ho0)) | (refine bE 10 26 #[.slice none 0 0, .int .i64 0, .int .i64 0, .int .i64 0, .int .i64 0] ?_; intro g16 hg w37 B16 hb; have E16 := gW HB hg; obtain ⟨N1_16, N16_1⟩ := nB BK101 hg; obtain ⟨N2_16, N16_2⟩ := nB B2 hg; obtain ⟨N7_16, N16_7⟩ := nB B7 hg; obtain ⟨N8_16, N16_8⟩ := nB B8 hg; replace R11 := rT R11 hb; replace BK101 := kT BK101 hb; replace B2 := kT B2 hb; replace B7 := kT B7 hb; replace B8 := kT B8 hb; replace HB := bT HB hb; clear hb hg; obtain ⟨Ao38, co38, eo38⟩ := Kd.R_slice R11.out; subst eo38; have hnb39 := nP N16_1; have hnb40 := nP N16_2; have hnb41 := nP N16_7; have hnb42 := nP N16_8; have hz43 := Sq.c5 B16.out))
 refine gn g16 w37 (.cells #[.slice Ao38 t9.length co38, .int .i64 t12, .int .i64 t13, .int .i64 t14, .int .i64 t15] 26 (0, 0)) ?hh ?_
 (case hh => apply Sq.put5; exact bS B16.out)
 intro w44 hK_ hG_
 replace R11 := cR (ok' := (fun k_ => k_ ≠ g7 ∧ k_ ≠ g8)) R11 B16 hK_ (fun _ hk => ⟨hk.1.1.2, hk.1.2⟩)
 replace BK101 := cK BK101 hK_ N1_16
 replace B2 := cK B2 hK_ N2_16
 replace B7 := cK B7 hK_ N7_16
 replace B8 := cK B8 hK_ N8_16
 replace HB := cB_ HB hK_ E16
 replace B16 := hG_
 clear hK_
 replace R11 := rD R11
 replace BK101 := kD BK101
 replace B2 := kD B2
 replace B7 := kD B7
 replace B8 := kD B8
 replace B16 := kD B16
 replace HB := bD HB
 refine sT 17 (fun w' => w'.cell? ⟨g16, 0, none⟩ = some (.slice Ao38 t9.length co38) ∧ w'.cell? ⟨g16, 1, none⟩ = some (.int .i64 t12) ∧ w'.cell? ⟨g16, 2, none⟩ = some (.int .i64 t13) ∧ w'.cell? ⟨g16, 3, none⟩ = some (.int .i64 t14) ∧ w'.cell? ⟨g16, 4, none⟩ = some (.int .i64 t15) ∧ w'.cell? ⟨g7, 0, none⟩ = some (.int .i64 ((rd_T33 l0_0 t3).f0)) ∧ w'.cell? ⟨g7, 1, none⟩ = some (.int .i64 ((rd_T33 l0_0 t3).f1)) ∧ w'.cell? ⟨g7, 2, none⟩ = some (.int .i64 ((rd_T33 l0_0 t3).f2)) ∧ w'.cell? ⟨g8, 0, none⟩ = some (.int .i64 ((rd_T33 l0_0 t5).f0)) ∧ w'.cell? ⟨g8, 1, none⟩ = some (.int .i64 ((rd_T33 l0_0 t5).f1)) ∧ w'.cell? ⟨g8, 2, none⟩ = some (.int .i64 ((rd_T33 l0_0 t5).f2))) [16] Fad.tab3 Fad.bits3 ⟨bc B16 0, bc B16 1, bc B16 2, bc B16 3, bc B16 4, bc B7 0, bc B7 1, bc B7 2, bc B8 0, bc B8 1, bc B8 2⟩ fun hHeld HT_ HW_ => ?_
 generalize w44.drew = w45 at R11 BK101 B2 B7 B8 B16 HB hHeld ⊢
 refine Pu 0 ?_
 refine Pu 3 ?_
 refine Pu 5 ?_
 refine Pu 6 ?_
 refine Pu 8 ?_
 refine Pu 10 ?_
 refine Ta 1 ?_
 refine Ta 2 ?_
 refine Ta 7 ?_
 refine Ta 9 ?_
 refine Ta 11 ?_
 refine Pu 12 ?_
 refine Pu 13 ?_
 refine Pu 14 ?_
 refine oN 4 fun K hK => ?_
 refine gO Tryz.func88 #[.agg #[.slice Ao38 t9.length co38, .int .i64 t12, .int .i64 t13, .int .i64 t14, .int .i64 t15], .int .i64 a1] ?_
 with_reducible refine (Fs.calls k _ _ t9 t12 t13 t14 t15 a1 t17 _ ?side1 ?side2 A11.out).mono ?_
 (case side1 => exact Cs (Kd.R_reads' R11.out).2.2)
 (case side2 => exact (Kd.R_reads' R11.out).2.1)
 rintro e w46 ⟨rfl, hb⟩
 refine ⟨_, rfl, ?_⟩
 replace R11 := rT R11 hb
 replace BK101 := kT BK101 hb
 replace B2 := kT B2 hb
 replace B7 := kT B7 hb
 replace B8 := kT B8 hb
 replace B16 := kT B16 hb
 replace HB := bT HB hb
 clear hb
 have p14 : 0 ≤ (t17 : Int) := Dz
 have q14 : (t17 : Int) < ((t9.length : Int) : Int) := Dz
 obtain ⟨go14, co14, eo14, g14, gl14, cl14, HG14⟩ := Kd.R_form R11.out (by omega)
 (first | cases eo14 | (injection eo14 with ea_ en_ ec_; (first | subst ea_ | (injection ea_ with ea_; subst ea_)); subst ec_; clear en_))
 have K14 := Aside0.mk g14
 have GG14 := Aside0.mk HG14
 clear g14 gl14 HG14
 obtain ⟨ce14, hcl14, hM14, hcc14, hfr14⟩ := Kd.R_elem R11.out z33 (t17 : Int) p14 q14
 obtain rfl := k33_openM hM14
 have hx14_0 : World.cell? _ ⟨go14, (t17 : Int).toNat * 3, none⟩ = some (.int .i64 ((rd_T33 t9 t17).f0)) := hcc14 0 _ rfl
 have hx14_1 : World.cell? _ ⟨go14, (t17 : Int).toNat * 3 + 1, none⟩ = some (.int .i64 ((rd_T33 t9 t17).f1)) := hcc14 1 _ rfl
 have hx14_2 : World.cell? _ ⟨go14, (t17 : Int).toNat * 3 + 2, none⟩ = some (.int .i64 ((rd_T33 t9 t17).f2)) := hcc14 2 _ rfl
 have hf14_0 : World.frozen? _ ⟨go14, (t17 : Int).toNat * 3, none⟩ = false := hfr14 0
 have hf14_1 : World.frozen? _ ⟨go14, (t17 : Int).toNat * 3 + 1, none⟩ = false := hfr14 1
 have hf14_2 : World.frozen? _ ⟨go14, (t17 : Int).toNat * 3 + 2, none⟩ = false := hfr14 2
 clear hcl14 hcc14 hfr14 hM14
 replace p14 := eq_true p14
 replace q14 := eq_true q14
 obtain ⟨ce47, hcl47, hM47, hcc47, hfr47⟩ := Kd.R_elem R11.out z33 (t17 : Int) (Dz) (by have h_ : (t17 : Int) < ((t9.length : Int) : Int) := Dz; first | exact h_ | (have e_ := (Kd.R_reads' R11.out).1; omega) | simpa using h_)
 obtain rfl := k33_openM hM47
 have HP47 := (Kd.R_seg R11.out (t17 : Int) (Dz) (by have h_ : (t17 : Int) < ((t9.length : Int) : Int) := Dz; first | exact h_ | (have e_ := (Kd.R_reads' R11.out).1; omega) | simpa using h_) (seg := [.int .i64 a1, .int .i64 ((rd_T33 l0_0 t3).f1), .int .i64 (wrap64 ((wrap64 (((rd_T33 l0_0 t3).f2) + ((rd_T33 l0_0 t5).f2))) - 1))]) (j := 0) hcl47 hcc47 (show 3 ≤ 3 from by decide) (x' := (⟨a1, (rd_T33 l0_0 t3).f1, wrap64 ((wrap64 (((rd_T33 l0_0 t3).f2) + ((rd_T33 l0_0 t5).f2))) - 1)⟩ : S33)) (k33_mkM _ _ _ (⟨a1, (rd_T33 l0_0 t3).f1, wrap64 ((wrap64 (((rd_T33 l0_0 t3).f2) + ((rd_T33 l0_0 t5).f2))) - 1)⟩ : S33) ) (fun _ hk => hk)).1
 rw [← Ny18.out] at HP47
 have HQ47 := Aside0.mk HP47
 clear hcl47 hcc47 hfr47 hM47 HP47
 refine hK.out _ _ ⟨bc B16 0, bc B16 1, bc B16 2, bc B16 3, bc B16 4, bc B7 0, bc B7 1, bc B7 2, bc B8 0, bc B8 1, bc B8 2⟩ (fun hHeld => ?_)
 clear hK K
 refine nO 34 ?_
 refine Pu 15 ?_
 refine last_ (i := 16) (N := none) (Bt 17 131071) rfl rfl (one_of HT_.out (by kernel_rfl)) (by decide) (fun K hK => ?_)
 refine sK ?_
 refine hK.out _ _ ?_
 clear hK K
 refine dO ?_
 have n0_ : Aside0 (Kd.R k33 33 (((w46.setCell ⟨go14, (t17 : Int).toNat * 3, none⟩ (.int .i64 a1)).setCell ⟨go14, (t17 : Int).toNat * 3 + 1, none⟩ (.int .i64 ((rd_T33 l0_0 t3).f1))).setCell ⟨go14, (t17 : Int).toNat * 3 + 2, none⟩ (.int .i64 (wrap64 ((wrap64 (((rd_T33 l0_0 t3).f2) + ((rd_T33 l0_0 t5).f2))) - 1)))) w.heap.size (fun k_ => k_ ≠ g7 ∧ k_ ≠ g8) (.slice (some ⟨go14, 0, none⟩) t9.length co38) y18) := ⟨by first | exact Ho.RS <| HQ47.out | exact HQ47.out⟩
 have n1_ : Aside0 ((((w46.setCell ⟨go14, (t17 : Int).toNat * 3, none⟩ (.int .i64 a1)).setCell ⟨go14, (t17 : Int).toNat * 3 + 1, none⟩ (.int .i64 ((rd_T33 l0_0 t3).f1))).setCell ⟨go14, (t17 : Int).toNat * 3 + 2, none⟩ (.int .i64 (wrap64 ((wrap64 (((rd_T33 l0_0 t3).f2) + ((rd_T33 l0_0 t5).f2))) - 1)))).heap[g1]? = some (.cells #[.slice (some ad4) l0_0.length c0_0, .int .i64 a0_1, .int .i64 a0_2, .int .i64 a0_3, .int .i64 a0_4] 26 (0, 0))) := ⟨by (with_reducible repeat (first | refine blk_drewN ?_ _ | refine blk_drew ?_ | refine blk_alloc ?_ _)); refine blk_far ?_ (by have h_ := Kd.R_ne R11.out BK101.out (by decide); intro e_; exact h_ (by rw [e_]; rfl)) _; (with_reducible repeat (first | refine blk_drewN ?_ _ | refine blk_drew ?_ | refine blk_alloc ?_ _)); refine blk_far ?_ (by have h_ := Kd.R_ne R11.out BK101.out (by decide); intro e_; exact h_ (by rw [e_]; rfl)) _; (with_reducible repeat (first | refine blk_drewN ?_ _ | refine blk_drew ?_ | refine blk_alloc ?_ _)); refine blk_far ?_ (by have h_ := Kd.R_ne R11.out BK101.out (by decide); intro e_; exact h_ (by rw [e_]; rfl)) _; exact bS BK101.out⟩
 have n2_ : Aside0 ((((w46.setCell ⟨go14, (t17 : Int).toNat * 3, none⟩ (.int .i64 a1)).setCell ⟨go14, (t17 : Int).toNat * 3 + 1, none⟩ (.int .i64 ((rd_T33 l0_0 t3).f1))).setCell ⟨go14, (t17 : Int).toNat * 3 + 2, none⟩ (.int .i64 (wrap64 ((wrap64 (((rd_T33 l0_0 t3).f2) + ((rd_T33 l0_0 t5).f2))) - 1)))).heap[g2]? = some (.cells #[.slice none 0 0, .int .i64 0, .int .i64 0, .int .i64 0, .int .i64 0] 26 (0, 0))) := ⟨by (with_reducible repeat (first | refine blk_drewN ?_ _ | refine blk_drew ?_ | refine blk_alloc ?_ _)); refine blk_far ?_ (by have h_ := Kd.R_ne R11.out B2.out (by decide); intro e_; exact h_ (by rw [e_]; rfl)) _; (with_reducible repeat (first | refine blk_drewN ?_ _ | refine blk_drew ?_ | refine blk_alloc ?_ _)); refine blk_far ?_ (by have h_ := Kd.R_ne R11.out B2.out (by decide); intro e_; exact h_ (by rw [e_]; rfl)) _; (with_reducible repeat (first | refine blk_drewN ?_ _ | refine blk_drew ?_ | refine blk_alloc ?_ _)); refine blk_far ?_ (by have h_ := Kd.R_ne R11.out B2.out (by decide); intro e_; exact h_ (by rw [e_]; rfl)) _; exact bS B2.out⟩
 have n3_ : Aside0 ((((w46.setCell ⟨go14, (t17 : Int).toNat * 3, none⟩ (.int .i64 a1)).setCell ⟨go14, (t17 : Int).toNat * 3 + 1, none⟩ (.int .i64 ((rd_T33 l0_0 t3).f1))).setCell ⟨go14, (t17 : Int).toNat * 3 + 2, none⟩ (.int .i64 (wrap64 ((wrap64 (((rd_T33 l0_0 t3).f2) + ((rd_T33 l0_0 t5).f2))) - 1)))).heap[g7]? = some (.cells #[.int .i64 ((rd_T33 l0_0 t3).f0), .int .i64 ((rd_T33 l0_0 t3).f1), .int .i64 ((rd_T33 l0_0 t3).f2)] 33 (0, 0))) := ⟨by (with_reducible repeat (first | refine blk_drewN ?_ _ | refine blk_drew ?_ | refine blk_alloc ?_ _)); refine blk_far ?_ (by have h_ := Kd.R_away R11.out (fun _ hk => hk.1); intro e_; exact h_ (by rw [e_]; rfl)) _; (with_reducible repeat (first | refine blk_drewN ?_ _ | refine blk_drew ?_ | refine blk_alloc ?_ _)); refine blk_far ?_ (by have h_ := Kd.R_away R11.out (fun _ hk => hk.1); intro e_; exact h_ (by rw [e_]; rfl)) _; (with_reducible repeat (first | refine blk_drewN ?_ _ | refine blk_drew ?_ | refine blk_alloc ?_ _)); refine blk_far ?_ (by have h_ := Kd.R_away R11.out (fun _ hk => hk.1); intro e_; exact h_ (by rw [e_]; rfl)) _; exact bS B7.out⟩
 have n4_ : Aside0 ((((w46.setCell ⟨go14, (t17 : Int).toNat * 3, none⟩ (.int .i64 a1)).setCell ⟨go14, (t17 : Int).toNat * 3 + 1, none⟩ (.int .i64 ((rd_T33 l0_0 t3).f1))).setCell ⟨go14, (t17 : Int).toNat * 3 + 2, none⟩ (.int .i64 (wrap64 ((wrap64 (((rd_T33 l0_0 t3).f2) + ((rd_T33 l0_0 t5).f2))) - 1)))).heap[g8]? = some (.cells #[.int .i64 ((rd_T33 l0_0 t5).f0), .int .i64 ((rd_T33 l0_0 t5).f1), .int .i64 ((rd_T33 l0_0 t5).f2)] 33 (0, 0))) := ⟨by (with_reducible repeat (first | refine blk_drewN ?_ _ | refine blk_drew ?_ | refine blk_alloc ?_ _)); refine blk_far ?_ (by have h_ := Kd.R_away R11.out (fun _ hk => hk.2); intro e_; exact h_ (by rw [e_]; rfl)) _; (with_reducible repeat (first | refine blk_drewN ?_ _ | refine blk_drew ?_ | refine blk_alloc ?_ _)); refine blk_far ?_ (by have h_ := Kd.R_away R11.out (fun _ hk => hk.2); intro e_; exact h_ (by rw [e_]; rfl)) _; (with_reducible repeat (first | refine blk_drewN ?_ _ | refine blk_drew ?_ | refine blk_alloc ?_ _)); refine blk_far ?_ (by have h_ := Kd.R_away R11.out (fun _ hk => hk.2); intro e_; exact h_ (by rw [e_]; rfl)) _; exact bS B8.out⟩
 have n5_ : Aside0 ((((w46.setCell ⟨go14, (t17 : Int).toNat * 3, none⟩ (.int .i64 a1)).setCell ⟨go14, (t17 : Int).toNat * 3 + 1, none⟩ (.int .i64 ((rd_T33 l0_0 t3).f1))).setCell ⟨go14, (t17 : Int).toNat * 3 + 2, none⟩ (.int .i64 (wrap64 ((wrap64 (((rd_T33 l0_0 t3).f2) + ((rd_T33 l0_0 t5).f2))) - 1)))).heap[g16]? = some (.cells #[.slice (some ⟨go14, 0, none⟩) t9.length co38, .int .i64 t12, .int .i64 t13, .int .i64 t14, .int .i64 t15] 26 (0, 0))) := ⟨by (with_reducible repeat (first | refine blk_drewN ?_ _ | refine blk_drew ?_ | refine blk_alloc ?_ _)); refine blk_far ?_ (by have h_ := Kd.R_ne R11.out B16.out (by decide); intro e_; exact h_ (by rw [e_]; rfl)) _; (with_reducible repeat (first | refine blk_drewN ?_ _ | refine blk_drew ?_ | refine blk_alloc ?_ _)); refine blk_far ?_ (by have h_ := Kd.R_ne R11.out B16.out (by decide); intro e_; exact h_ (by rw [e_]; rfl)) _; (with_reducible repeat (first | refine blk_drewN ?_ _ | refine blk_drew ?_ | refine blk_alloc ?_ _)); refine blk_far ?_ (by have h_ := Kd.R_ne R11.out B16.out (by decide); intro e_; exact h_ (by rw [e_]; rfl)) _; exact bS B16.out⟩
 have n6_ : Aside0 (Below w.heap.size w (((w46.setCell ⟨go14, (t17 : Int).toNat * 3, none⟩ (.int .i64 a1)).setCell ⟨go14, (t17 : Int).toNat * 3 + 1, none⟩ (.int .i64 ((rd_T33 l0_0 t3).f1))).setCell ⟨go14, (t17 : Int).toNat * 3 + 2, none⟩ (.int .i64 (wrap64 ((wrap64 (((rd_T33 l0_0 t3).f2) + ((rd_T33 l0_0 t5).f2))) - 1))))) := ⟨Bq⟩
 (try clear R11)
 (try clear BK101)
 (try clear B2)
 (try clear B7)
 (try clear B8)
 (try clear B16)
 (try clear HB)
 generalize (((w46.setCell ⟨go14, (t17 : Int).toNat * 3, none⟩ (.int .i64 a1)).setCell ⟨go14, (t17 : Int).toNat * 3 + 1, none⟩ (.int .i64 ((rd_T33 l0_0 t3).f1))).setCell ⟨go14, (t17 : Int).toNat * 3 + 2, none⟩ (.int .i64 (wrap64 ((wrap64 (((rd_T33 l0_0 t3).f2) + ((rd_T33 l0_0 t5).f2))) - 1)))) = w48 at n0_ n1_ n2_ n3_ n4_ n5_ n6_ ⊢
 have R11 := n0_
 have BK101 := n1_
 have B2 := n2_
 have B7 := n3_
 have B8 := n4_
 have B16 := n5_
 have HB := n6_
 clear n0_ n1_ n2_ n3_ n4_ n5_ n6_
 have hz49 := Sq.c5 BK101.out
 have hz50 := Sq.c5 B16.out
 try go_wp2
 refine gn g16 w48 (.cells #[.slice (some ⟨go14, 0, none⟩) t9.length co38, .int .i64 t12, .int .i64 t13, .int .i64 t14, .int .i64 (wrap64 (a0_4 + 1))] 26 (0, 0)) ?hh ?_
 (case hh => refine blk_put (cs := #[.slice (some ⟨go14, 0, none⟩) t9.length co38, .int .i64 t12, .int .i64 t13, .int .i64 t14, .int .i64 t15]) ?_ 4 _ rfl; exact bS B16.out)
 intro w51 hK_ hG_
 replace R11 := cR (ok' := (fun k_ => k_ ≠ g7 ∧ k_ ≠ g8)) R11 B16 hK_ (fun _ hk => ⟨hk.1.1, hk.1.2⟩)
 replace BK101 := cK BK101 hK_ N1_16
 replace B2 := cK B2 hK_ N2_16
 replace B7 := cK B7 hK_ N7_16
 replace B8 := cK B8 hK_ N8_16
 replace HB := cB_ HB hK_ E16
 replace B16 := hG_
 clear hK_
 replace R11 := rD R11
 replace BK101 := kD BK101
 replace B2 := kD B2
 replace B7 := kD B7
 replace B8 := kD B8
 replace B16 := kD B16
 replace HB := bD HB
 refine sT 8 (fun w' => w'.cell? ⟨g16, 0, none⟩ = some (.slice (some ⟨go14, 0, none⟩) t9.length co38) ∧ w'.cell? ⟨g16, 1, none⟩ = some (.int .i64 t12) ∧ w'.cell? ⟨g16, 2, none⟩ = some (.int .i64 t13) ∧ w'.cell? ⟨g16, 3, none⟩ = some (.int .i64 t14) ∧ w'.cell? ⟨g16, 4, none⟩ = some (.int .i64 (wrap64 (a0_4 + 1))) ∧ w'.cell? ⟨g7, 0, none⟩ = some (.int .i64 ((rd_T33 l0_0 t3).f0)) ∧ w'.cell? ⟨g7, 1, none⟩ = some (.int .i64 ((rd_T33 l0_0 t3).f1)) ∧ w'.cell? ⟨g7, 2, none⟩ = some (.int .i64 ((rd_T33 l0_0 t3).f2)) ∧ w'.cell? ⟨g8, 0, none⟩ = some (.int .i64 ((rd_T33 l0_0 t5).f0)) ∧ w'.cell? ⟨g8, 1, none⟩ = some (.int .i64 ((rd_T33 l0_0 t5).f1)) ∧ w'.cell? ⟨g8, 2, none⟩ = some (.int .i64 ((rd_T33 l0_0 t5).f2))) [] Fad.tab5 Fad.bits5 ⟨bc B16 0, bc B16 1, bc B16 2, bc B16 3, bc B16 4, bc B7 0, bc B7 1, bc B7 2, bc B8 0, bc B8 1, bc B8 2⟩ fun hHeld HT_ HW_ => ?_
 generalize w51.drew = w52 at R11 BK101 B2 B7 B8 B16 HB hHeld ⊢
 refine Pu 1 ?_
 refine Pu 3 ?_
 refine Ta 0 ?_
 refine Ta 2 ?_
 refine Ta 4 ?_
 refine Pu 5 ?_
 refine oN 6 fun K hK => ?_
 have hs53 := Sq.c5 B2.out
 have hns53_0 := N1_2.out
 have hns53_2 := N7_2.out
 have hns53_3 := N8_2.out
 have hns53_4 := N16_2.out
 have hms53_0 := N2_1.out
 have hms53_2 := N2_7.out
 have hms53_3 := N2_8.out
 have hms53_4 := N2_16.out
 refine sK ?_
 refine hK.out _ _ ⟨(cf5 N16_2.out hHeld.1), (cf5 N16_2.out hHeld.2.1), (cf5 N16_2.out hHeld.2.2.1), (cf5 N16_2.out hHeld.2.2.2.1), (cf5 N16_2.out hHeld.2.2.2.2.1), (cf5 N7_2.out hHeld.2.2.2.2.2.1), (cf5 N7_2.out hHeld.2.2.2.2.2.2.1), (cf5 N7_2.out hHeld.2.2.2.2.2.2.2.1), (cf5 N8_2.out hHeld.2.2.2.2.2.2.2.2.1), (cf5 N8_2.out hHeld.2.2.2.2.2.2.2.2.2.1), (cf5 N8_2.out hHeld.2.2.2.2.2.2.2.2.2.2)⟩ (fun hHeld => ?_)
 clear hK K
 refine Pu 7 ?_
 refine dO ?_
 try go_wp2
 refine bodyPost_ret (results_ct rfl _ _ g2 26 #[.slice (some ⟨go14, 0, none⟩) t9.length co38, .int .i64 t12, .int .i64 t13, .int .i64 t14, .int .i64 (wrap64 (a0_4 + 1))] (0, 0) _ rfl (by apply Sq.put5; exact bS B2.out) Tryz.underlying26 rfl (by kernel_rfl)) rfl ?_
 exact ⟨_, Ez, rY5 R11 B2 (fun _ hk => trivial), Bq⟩
end
end Go.Proofs.YtiomfignokichaaGreatDoor.X
