/- What the law FnBobbins needs, part 5 of 5: what each function of the program that it reaches returns (printed by this session's own program, checked by Lean), and plain mathematics about it. Conditions: those of each theorem. -/
import Derived.Test.YtiomfignokichaaGreatDoorZFnBobbins3
import Derived.Lib.SmallJoins
import Derived.Test.YtiomfignokichaaGreatDoorYG
import Derived.ProofKit
import Derived.WideShapes
namespace Go.Proofs.YtiomfignokichaaGreatDoor.X
open Ho (bS eS)
open Sq (I O Z)
open Mx
open Go.RowKit Go.Proofs.YtiomfignokichaaGreatDoorW.PrintWords Go.Proofs.YtiomfignokichaaGreatDoorW.PrintLast Go.Proofs.YtiomfignokichaaGreatDoorW.PrintMore
attribute [local go_sem] max2_int min2_int max_two min_two max_three min_three max_four min_four
set_option linter.unusedVariables false
set_option linter.unusedSimpArgs false
set_option maxHeartbeats 8000000
set_option maxRecDepth 100000
section
attribute [local go_sem ↓] Ho.isSome_setCell_
/-! ### Fn: function 15 -/
def Fn.l0 : Nat → ByteArray → Int → List (S33) → Int → Int → Int → Int → Option (ByteArray × Bool)
  | 0, _, _, _, _, _, _, _ => none
  | k + 1, x4, x5, x102000, x102001, x102002, x102003, x102004 => if x5 < (x102000.length : Int) then (if 0 ≤ x5 then (if x5 > 0 then (if x4.size + 1 ≤ 9223372036854775807 then ((Faa.f k ((rd_T33 x102000 x5).f0)).bind fun t105 => (if (x4 ++ (⟨#[32]⟩ : ByteArray)).size + t105.size ≤ 9223372036854775807 then ((some (([(wrap64 (97 + ((rd_T33 x102000 x5).f1))) % 256] : List Int) : List Int)).bind fun y106 => (if ((x4 ++ (⟨#[32]⟩ : ByteArray)) ++ t105).size + (strOfNums y106).size ≤ 9223372036854775807 then ((Faa.f k ((rd_T33 x102000 x5).f2)).bind fun t109 => (if (((x4 ++ (⟨#[32]⟩ : ByteArray)) ++ t105) ++ (strOfNums y106)).size + t109.size ≤ 9223372036854775807 then (Fn.l0 k ((((x4 ++ (⟨#[32]⟩ : ByteArray)) ++ t105) ++ (strOfNums y106)) ++ t109) (wrap64 (x5 + 1)) x102000 x102001 x102002 x102003 x102004) else (none))) else (none))) else (none))) else (none)) else ((Faa.f k ((rd_T33 x102000 x5).f0)).bind fun t110 => (if x4.size + t110.size ≤ 9223372036854775807 then ((some (([(wrap64 (97 + ((rd_T33 x102000 x5).f1))) % 256] : List Int) : List Int)).bind fun y111 => (if (x4 ++ t110).size + (strOfNums y111).size ≤ 9223372036854775807 then ((Faa.f k ((rd_T33 x102000 x5).f2)).bind fun t114 => (if ((x4 ++ t110) ++ (strOfNums y111)).size + t114.size ≤ 9223372036854775807 then (Fn.l0 k (((x4 ++ t110) ++ (strOfNums y111)) ++ t114) (wrap64 (x5 + 1)) x102000 x102001 x102002 x102003 x102004) else (none))) else (none))) else (none)))) else (none)) else (some (x4, true))
def Fn.f (k : Nat) (l0_0 : List (S33)) (a0_1 : Int) (a0_2 : Int) (a0_3 : Int) (a0_4 : Int) : Option (ByteArray × Bool) := (Ff.f k l0_0 a0_1 a0_2 a0_3 a0_4).bind fun t102 => (if t102 = true then (if (l0_0.length : Int) = 0 then (some ((⟨#[101, 109, 112, 116, 121]⟩ : ByteArray), true)) else (Fn.l0 k (⟨#[]⟩ : ByteArray) 0 l0_0 a0_1 a0_2 a0_3 a0_4)) else (some ((⟨#[]⟩ : ByteArray), false)))
theorem Fn.mono_l : ∀ k, (∀ y0 y1 y2 y3 y4 y5 y6, LeO (Fn.l0 k y0 y1 y2 y3 y4 y5 y6) (Fn.l0 (k + 1) y0 y1 y2 y3 y4 y5 y6))
  | 0 => fun _ _ _ _ _ _ _ r h => by simp [Fn.l0] at h
  | k + 1 => by
    have ih0 := Fn.mono_l k
    · intro y0 y1 y2 y3 y4 y5 y6
      unfold Fn.l0
      repeat' (with_reducible first | exact ih0 _ _ _ _ _ _ _ | apply Faa.mono | apply Ff.mono | exact LeO.refl _ | exact LeO.none _ | refine LeO.ite ?_ ?_ | refine LeO.bind ?_ (fun _ => ?_))
theorem Fn.mono : ∀ a0 a1 a2 a3 a4 k, LeO (Fn.f k a0 a1 a2 a3 a4) (Fn.f (k + 1) a0 a1 a2 a3 a4) := by
  intro a0 a1 a2 a3 a4 k
  have ih0 := Fn.mono_l k
  unfold Fn.f
  repeat' (with_reducible first | exact ih0 _ _ _ _ _ _ _ | apply Faa.mono | apply Ff.mono | exact LeO.refl _ | exact LeO.none _ | refine LeO.ite ?_ ?_ | refine LeO.bind ?_ (fun _ => ?_))
def Fn.T12 : Bool × List (List Nat × List Nat) := (true, [([], []), ([], []), ([1], [1]), ([2], [2]), ([0, 3], [0, 3]), ([], []), ([5], [5]), ([6], [6]), ([7], [7]), ([8], [8]), ([9], [9]), ([4, 10], [4, 10]), ([], []), ([12], [12]), ([13, 3], [13]), ([11, 14], [11, 14]), ([15, 14, 0, 1, 2, 3, 4, 5, 6, 7, 8, 9, 10, 11, 12, 13, 14, 15], [0, 15])])
def Fn.B12 : List Nat := [0, 0, 2, 6, 15, 0, 32, 96, 224, 480, 992, 2047, 0, 4096, 12302, 32767, 65535]
theorem Fn.tab12 : rtab .any (opsOf Tryz.f15 12) = Fn.T12 := by kernel_rfl
theorem Fn.bits12 : waitsOk Fn.T12.2 Fn.B12 = true := by kernel_rfl
theorem Fn.calls (k : Nat) (A0_0 : Option Addr) (c0_0 : Nat) (l0_0 : List (S33)) (a0_1 : Int) (a0_2 : Int) (a0_3 : Int) (a0_4 : Int) (r1 : ByteArray) (r2 : Bool) (w : World) (hr0_0 : Kd.C k33 w A0_0 l0_0.length l0_0) (hc0_0 : l0_0.length ≤ c0_0) (h : Fn.f k l0_0 a0_1 a0_2 a0_3 a0_4 = some (r1, r2)) :
  Calls Tryz.prog 15 #[.agg #[.slice A0_0 l0_0.length c0_0, .int .i64 a0_1, .int .i64 a0_2, .int .i64 a0_3, .int .i64 a0_4]] w fun e w' => e = .returned (.tuple #[.string r1, .bool r2]) ∧ Below w.heap.size w w' := by
 have hu26 := Tryz.underlying26
 have hu33 := Tryz.underlying33
 have HR0_0 := Aside0.mk hr0_0
 have HC0_0 := Aside0.mk hc0_0
 clear hr0_0 hc0_0
 have HB := Aside0.mk (Below.refl w.heap.size w)
 have H := h
 clear h
 unfold Fn.f at H
 obtain ⟨t2, A2, H⟩ := bn H
 (try dsimp only at H)
 by_cases c3 : t2 = true
 rotate_left
 ·replace c3 := Bool.eq_false_iff.mpr c3
  subst c3
  rw [if_neg (show ¬ (false = true) by decide)] at H
  simp only [Option.some.injEq, Prod.mk.injEq] at H
  obtain ⟨rfl, rfl⟩ := H
  go_enter Tryz.func15, Tryz.ntmps15
  go_wp2_with (first | (refine bE 1 26 #[.slice A0_0 l0_0.length c0_0, .int .i64 a0_1, .int .i64 a0_2, .int .i64 a0_3, .int .i64 a0_4] ?_; intro g1 hg w52 B1 hb; have E1 := gW HB hg; replace HB := bT HB hb; clear hb hg; have hz53 := Sq.c5 B1.out) | (refine cE (some 8) Tryz.func24 #[.agg #[.slice A0_0 l0_0.length c0_0, .int .i64 a0_1, .int .i64 a0_2, .int .i64 a0_3, .int .i64 a0_4]] ?_; (with_reducible refine (Ff.calls k _ _ l0_0 a0_1 a0_2 a0_3 a0_4 false _ ?side1 ?side2 A2.out).mono ?_); (case side1 => exact Cs (Kd.C_below HR0_0.out HB.out)); (case side2 => exact HC0_0.out); rintro e w54 ⟨rfl, hb⟩; refine ⟨_, rfl, ?_⟩; replace B1 := kT B1 hb; replace HB := bT HB hb; clear hb))
  go_ret2
  exact ⟨Ez, by exact eS HB.out⟩
 subst c3
 rw [if_pos rfl] at H
 by_cases c4 : (l0_0.length : Int) = 0
 ·rw [if_pos c4] at H
  have c4b0 := beq_iff_eq.mpr c4
  have c4b1 := bne_eq_false_iff_eq.mpr c4
  clear c4
  simp only [Option.some.injEq, Prod.mk.injEq] at H
  obtain ⟨rfl, rfl⟩ := H
  go_enter Tryz.func15, Tryz.ntmps15
  go_wp2_with (first | (refine bE 1 26 #[.slice A0_0 l0_0.length c0_0, .int .i64 a0_1, .int .i64 a0_2, .int .i64 a0_3, .int .i64 a0_4] ?_; intro g1 hg w5 B1 hb; have E1 := gW HB hg; replace HB := bT HB hb; clear hb hg; have hz6 := Sq.c5 B1.out) | (refine cE (some 8) Tryz.func24 #[.agg #[.slice A0_0 l0_0.length c0_0, .int .i64 a0_1, .int .i64 a0_2, .int .i64 a0_3, .int .i64 a0_4]] ?_; (with_reducible refine (Ff.calls k _ _ l0_0 a0_1 a0_2 a0_3 a0_4 true _ ?side1 ?side2 A2.out).mono ?_); (case side1 => exact Cs (Kd.C_below HR0_0.out HB.out)); (case side2 => exact HC0_0.out); rintro e w7 ⟨rfl, hb⟩; refine ⟨_, rfl, ?_⟩; replace B1 := kT B1 hb; replace HB := bT HB hb; clear hb; have hz8 := Sq.c5 B1.out))
  go_ret2
  exact ⟨Ez, by exact eS HB.out⟩
 rw [if_neg c4] at H
 have c4b0 := beq_eq_false_iff_ne.mpr c4
 have c4b1 := bne_iff_ne.mpr c4
 have c4b2 : ¬ (l0_0 = []) := fun h_ => c4 (by rw [h_]; rfl)
 have H' := Aside0.mk H
 clear H
 go_enter Tryz.func15, Tryz.ntmps15
 go_wp2_with (first | (refine bE 1 26 #[.slice A0_0 l0_0.length c0_0, .int .i64 a0_1, .int .i64 a0_2, .int .i64 a0_3, .int .i64 a0_4] ?_; intro g1 hg w9 B1 hb; have E1 := gW HB hg; replace HB := bT HB hb; clear hb hg; have hz10 := Sq.c5 B1.out) | (refine cE (some 8) Tryz.func24 #[.agg #[.slice A0_0 l0_0.length c0_0, .int .i64 a0_1, .int .i64 a0_2, .int .i64 a0_3, .int .i64 a0_4]] ?_; (with_reducible refine (Ff.calls k _ _ l0_0 a0_1 a0_2 a0_3 a0_4 true _ ?side1 ?side2 A2.out).mono ?_); (case side1 => exact Cs (Kd.C_below HR0_0.out HB.out)); (case side2 => exact HC0_0.out); rintro e w11 ⟨rfl, hb⟩; refine ⟨_, rfl, ?_⟩; replace B1 := kT B1 hb; replace HB := bT HB hb; clear hb; have hz12 := Sq.c5 B1.out))
 go_loopg [4, 5] k (fun kq v4 v5 w' => ∃ (x4_1 : ByteArray) (x5_1 : Int), v4 = .string x4_1 ∧ v5 = .int .i64 x5_1 ∧ Aside0 (Fn.l0 kq x4_1 x5_1 l0_0 a0_1 a0_2 a0_3 a0_4 = some (r1, r2)) ∧ Aside0 (kq ≤ k) ∧ Aside0 (w'.heap[g1]? = some (.cells #[(.slice A0_0 l0_0.length c0_0), .int .i64 a0_1, .int .i64 a0_2, .int .i64 a0_3, .int .i64 a0_4] 26 (0, 0))) ∧ Aside0 (Below w.heap.size w w'))
 case atStart => exact ⟨((⟨#[]⟩ : ByteArray)), (0), Ey, Ey, H', ⟨Nat.le_refl _⟩, ⟨ks B1⟩, ⟨es HB⟩⟩
 case round =>
  clear H'
  try clear c1
  try clear c2
  try clear p2
  try clear c3
  try clear c4
  try clear c4b0
  try clear c4b1
  try clear c4b2
  (try clear hz10)
  (try clear hz12)
  (try clear hz6)
  (try clear hz8)
  obtain ⟨x4_1, x5_1, rfl, rfl, HA, HK1, B1, HB⟩ := hrel
  cases gk with
  | zero => exact absurd HA.out (by simp [Fn.l0])
  | succ k1 =>
   have H := HA.out
   clear HA
   simp only [Fn.l0] at H
   by_cases c13 : x5_1 < (l0_0.length : Int)
   rotate_left
   ·rw [if_neg c13] at H
    have c13b0 := decide_eq_false c13
    clear c13
    simp only [Option.some.injEq, Prod.mk.injEq] at H
    obtain ⟨rfl, rfl⟩ := H
    have hz51 := Sq.c5 B1.out
    go_wp2
    go_ret2
    exact ⟨Ez, by exact eS HB.out⟩
   rw [if_pos c13] at H
   have c13b0 := decide_eq_true c13
   clear c13
   by_cases c14 : 0 ≤ x5_1
   rotate_left
   ·rw [if_neg c14] at H
    exact absurd H (by simp)
   rw [if_pos c14] at H
   have c14b0 := decide_eq_true c14
   clear c14
   by_cases c15 : x5_1 > 0
   rotate_left
   ·rw [if_neg c15] at H
    have c15b0 := decide_eq_false c15
    clear c15
    obtain ⟨t10, A34, H⟩ := bn H
    (try dsimp only at H)
    by_cases c35 : x4_1.size + t10.size ≤ 9223372036854775807
    rotate_left
    ·rw [if_neg c35] at H
     exact absurd H (by simp)
    rw [if_pos c35] at H
    have c35b0 := eq_true c35
    have c35b1 := decide_eq_true c35
    try have c35b2 : (9223372036854775807 < x4_1.size + t10.size) = False := eq_false (Nat.not_lt.2 c35)
    (try (have c35b3 := c35b2; simp only [ByteArray.size_append] at c35b3))
    obtain ⟨y11, hy11⟩ : ∃ y_ : List Int, y_ = (([(wrap64 (97 + ((rd_T33 l0_0 x5_1).f1))) % 256] : List Int)) := ⟨_, rfl⟩
    replace H : (if (x4_1 ++ t10).size + (strOfNums y11).size ≤ 9223372036854775807 then ((Faa.f k1 ((rd_T33 l0_0 x5_1).f2)).bind fun t14 => (if ((x4_1 ++ t10) ++ (strOfNums y11)).size + t14.size ≤ 9223372036854775807 then (Fn.l0 k1 (((x4_1 ++ t10) ++ (strOfNums y11)) ++ t14) (wrap64 (x5_1 + 1)) l0_0 a0_1 a0_2 a0_3 a0_4) else (none))) else (none)) = some (r1, r2) := by first | (rw [hy11]; with_reducible exact H) | (have H2_ := (Option.bind_some _ _).symm.trans H; rw [hy11]; with_reducible exact H2_) | (have H2_ := (Option.bind_some _ _).symm.trans H; with_reducible exact H2_) | with_reducible exact H | (rw [hy11]; exact H) | exact H
    have Ny11 := Aside0.mk hy11
    clear hy11
    by_cases c36 : (x4_1 ++ t10).size + (strOfNums y11).size ≤ 9223372036854775807
    rotate_left
    ·rw [if_neg c36] at H
     exact absurd H (by simp)
    rw [if_pos c36] at H
    have c36b0 := eq_true c36
    have c36b1 := decide_eq_true c36
    try have c36b2 : (9223372036854775807 < (x4_1 ++ t10).size + (strOfNums y11).size) = False := eq_false (Nat.not_lt.2 c36)
    (try (have c36b3 := c36b2; simp only [ByteArray.size_append] at c36b3))
    obtain ⟨t14, A37, H⟩ := bn H
    (try dsimp only at H)
    by_cases c38 : ((x4_1 ++ t10) ++ (strOfNums y11)).size + t14.size ≤ 9223372036854775807
    rotate_left
    ·rw [if_neg c38] at H
     exact absurd H (by simp)
    rw [if_pos c38] at H
    have c38b0 := eq_true c38
    have c38b1 := decide_eq_true c38
    try have c38b2 : (9223372036854775807 < ((x4_1 ++ t10) ++ (strOfNums y11)).size + t14.size) = False := eq_false (Nat.not_lt.2 c38)
    (try (have c38b3 := c38b2; simp only [ByteArray.size_append] at c38b3))
    have H' := Aside0.mk H
    clear H
    have hz39 := Sq.c5 B1.out
    have p103 : 0 ≤ (x5_1 : Int) := Dz
    have q3 : x5_1 < (l0_0.length : Int) := Dz
    obtain ⟨ad3, e3, hx3_0, hx3_1, hx3_2⟩ := at_T33 HR0_0.out x5_1 p103 q3
    cases e3
    replace hx3_0 := Sq.cB HB.out hx3_0
    replace hx3_1 := Sq.cB HB.out hx3_1
    replace hx3_2 := Sq.cB HB.out hx3_2
    replace p103 := eq_true p103
    replace q3 := eq_true q3
    try go_wp2_with (first | (refine bE 6 33 #[.int .i64 0, .int .i64 0, .int .i64 0] ?_; intro g4 hg w40 B4 hb; have E4 := gW HB hg; obtain ⟨N1_4, N4_1⟩ := nB B1 hg; replace B1 := kT B1 hb; replace HB := bT HB hb; clear hb hg; have hnb41 := nP N4_1; have hz42 := Sq.c3 B4.out))
    refine gn g4 w40 (.cells #[.int .i64 ((rd_T33 l0_0 x5_1).f0), .int .i64 ((rd_T33 l0_0 x5_1).f1), .int .i64 ((rd_T33 l0_0 x5_1).f2)] 33 (0, 0)) ?hh ?_
    (case hh => apply Sq.put3; exact bS B4.out)
    intro w43 hK_ hG_
    replace B1 := cK B1 hK_ N1_4
    replace HB := cB_ HB hK_ E4
    replace B4 := hG_
    clear hK_
    replace B1 := kD B1
    replace B4 := kD B4
    replace HB := bD HB
    refine sT 17 (H3 g4 (.int .i64 ((rd_T33 l0_0 x5_1).f0)) (.int .i64 ((rd_T33 l0_0 x5_1).f1)) (.int .i64 ((rd_T33 l0_0 x5_1).f2))) [] Fn.tab12 Fn.bits12 (h3 B4) fun hHeld HT_ HW_ => ?_
    generalize w43.drew = w44 at B1 B4 HB hHeld ⊢
    refine Pu 0 ?_
    refine Pu 1 ?_
    refine Pu 5 ?_
    refine Pu 12 ?_
    refine Ta 2 ?_
    refine Ta 6 ?_
    refine Pu 7 ?_
    refine Pu 8 ?_
    refine Ta 13 ?_
    refine join_ (σ := Value) 2 (Bt 17 32767) (fun s_ => [(33, .string t10), (39, s_), (40, .string (strOfNums y11)), (44, .string t14), (34, .string (x4_1 ++ t10)), (41, .string ((x4_1 ++ t10) ++ (strOfNums y11)))]) (fun s_ w' => (H3 g4 (.int .i64 ((rd_T33 l0_0 x5_1).f0)) (.int .i64 ((rd_T33 l0_0 x5_1).f1)) (.int .i64 ((rd_T33 l0_0 x5_1).f2)) w') ∧ (Kd.R (Kd.int .u8) 5 w' w.heap.size (fun _ => True) s_ y11) ∧ (w'.heap[g1]? = some (.cells #[.slice (some ad3) l0_0.length c0_0, .int .i64 a0_1, .int .i64 a0_2, .int .i64 a0_3, .int .i64 a0_4] 26 (0, 0))) ∧ (w'.heap[g4]? = some (.cells #[.int .i64 ((rd_T33 l0_0 x5_1).f0), .int .i64 ((rd_T33 l0_0 x5_1).f1), .int .i64 ((rd_T33 l0_0 x5_1).f2)] 33 (0, 0))) ∧ (Below w.heap.size w w')) ?_ ?_
    rotate_left
    ·intro hJ3_9_10_14
     refine join_ (σ := Value) 3 (Bt 17 16383) (fun s_ => [(33, .string t10), (39, s_), (40, .string (strOfNums y11)), (34, .string (x4_1 ++ t10)), (41, .string ((x4_1 ++ t10) ++ (strOfNums y11)))]) (fun s_ w' => (H3 g4 (.int .i64 ((rd_T33 l0_0 x5_1).f0)) (.int .i64 ((rd_T33 l0_0 x5_1).f1)) (.int .i64 ((rd_T33 l0_0 x5_1).f2)) w') ∧ (Kd.R (Kd.int .u8) 5 w' w.heap.size (fun _ => True) s_ y11) ∧ (w'.heap[g1]? = some (.cells #[.slice (some ad3) l0_0.length c0_0, .int .i64 a0_1, .int .i64 a0_2, .int .i64 a0_3, .int .i64 a0_4] 26 (0, 0))) ∧ (w'.heap[g4]? = some (.cells #[.int .i64 ((rd_T33 l0_0 x5_1).f0), .int .i64 ((rd_T33 l0_0 x5_1).f1), .int .i64 ((rd_T33 l0_0 x5_1).f2)] 33 (0, 0))) ∧ (Below w.heap.size w w')) ?_ ?_
     rotate_left
     ·intro hJ3_9_10
      refine join_ (σ := Value) 4 (Bt 17 29695) (fun s_ => [(33, .string t10), (39, s_), (44, .string t14), (34, .string (x4_1 ++ t10))]) (fun s_ w' => (H3 g4 (.int .i64 ((rd_T33 l0_0 x5_1).f0)) (.int .i64 ((rd_T33 l0_0 x5_1).f1)) (.int .i64 ((rd_T33 l0_0 x5_1).f2)) w') ∧ (Kd.R (Kd.int .u8) 5 w' w.heap.size (fun _ => True) s_ y11) ∧ (w'.heap[g1]? = some (.cells #[.slice (some ad3) l0_0.length c0_0, .int .i64 a0_1, .int .i64 a0_2, .int .i64 a0_3, .int .i64 a0_4] 26 (0, 0))) ∧ (w'.heap[g4]? = some (.cells #[.int .i64 ((rd_T33 l0_0 x5_1).f0), .int .i64 ((rd_T33 l0_0 x5_1).f1), .int .i64 ((rd_T33 l0_0 x5_1).f2)] 33 (0, 0))) ∧ (Below w.heap.size w w')) ?_ ?_
      rotate_left
      ·intro hJ3_9_14
       refine join_ (σ := Value) 5 (Bt 17 13311) (fun s_ => [(33, .string t10), (39, s_), (34, .string (x4_1 ++ t10))]) (fun s_ w' => (H3 g4 (.int .i64 ((rd_T33 l0_0 x5_1).f0)) (.int .i64 ((rd_T33 l0_0 x5_1).f1)) (.int .i64 ((rd_T33 l0_0 x5_1).f2)) w') ∧ (Kd.R (Kd.int .u8) 5 w' w.heap.size (fun _ => True) s_ y11) ∧ (w'.heap[g1]? = some (.cells #[.slice (some ad3) l0_0.length c0_0, .int .i64 a0_1, .int .i64 a0_2, .int .i64 a0_3, .int .i64 a0_4] 26 (0, 0))) ∧ (w'.heap[g4]? = some (.cells #[.int .i64 ((rd_T33 l0_0 x5_1).f0), .int .i64 ((rd_T33 l0_0 x5_1).f1), .int .i64 ((rd_T33 l0_0 x5_1).f2)] 33 (0, 0))) ∧ (Below w.heap.size w w')) ?_ ?_
       rotate_left
       ·intro hJ3_9
        refine join_ (σ := Unit) 5 (Bt 17 29183) (fun s_ => [(33, .string t10), (44, .string t14), (34, .string (x4_1 ++ t10))]) (fun s_ w' => (H3 g4 (.int .i64 ((rd_T33 l0_0 x5_1).f0)) (.int .i64 ((rd_T33 l0_0 x5_1).f1)) (.int .i64 ((rd_T33 l0_0 x5_1).f2)) w') ∧ (w'.heap[g1]? = some (.cells #[.slice (some ad3) l0_0.length c0_0, .int .i64 a0_1, .int .i64 a0_2, .int .i64 a0_3, .int .i64 a0_4] 26 (0, 0))) ∧ (w'.heap[g4]? = some (.cells #[.int .i64 ((rd_T33 l0_0 x5_1).f0), .int .i64 ((rd_T33 l0_0 x5_1).f1), .int .i64 ((rd_T33 l0_0 x5_1).f2)] 33 (0, 0))) ∧ (Below w.heap.size w w')) ?_ ?_
        rotate_left
        ·intro hJ3_14
         refine join_ (σ := Value) 6 (Bt 17 14311) (fun s_ => [(39, s_), (40, .string (strOfNums y11))]) (fun s_ w' => (H3 g4 (.int .i64 ((rd_T33 l0_0 x5_1).f0)) (.int .i64 ((rd_T33 l0_0 x5_1).f1)) (.int .i64 ((rd_T33 l0_0 x5_1).f2)) w') ∧ (Kd.R (Kd.int .u8) 5 w' w.heap.size (fun _ => True) s_ y11) ∧ (w'.heap[g1]? = some (.cells #[.slice (some ad3) l0_0.length c0_0, .int .i64 a0_1, .int .i64 a0_2, .int .i64 a0_3, .int .i64 a0_4] 26 (0, 0))) ∧ (w'.heap[g4]? = some (.cells #[.int .i64 ((rd_T33 l0_0 x5_1).f0), .int .i64 ((rd_T33 l0_0 x5_1).f1), .int .i64 ((rd_T33 l0_0 x5_1).f2)] 33 (0, 0))) ∧ (Below w.heap.size w w')) ?_ ?_
         rotate_left
         ·intro hJ9_10
          refine join_ (σ := Unit) 6 (Bt 17 12799) (fun s_ => [(33, .string t10), (34, .string (x4_1 ++ t10))]) (fun s_ w' => (H3 g4 (.int .i64 ((rd_T33 l0_0 x5_1).f0)) (.int .i64 ((rd_T33 l0_0 x5_1).f1)) (.int .i64 ((rd_T33 l0_0 x5_1).f2)) w') ∧ (w'.heap[g1]? = some (.cells #[.slice (some ad3) l0_0.length c0_0, .int .i64 a0_1, .int .i64 a0_2, .int .i64 a0_3, .int .i64 a0_4] 26 (0, 0))) ∧ (w'.heap[g4]? = some (.cells #[.int .i64 ((rd_T33 l0_0 x5_1).f0), .int .i64 ((rd_T33 l0_0 x5_1).f1), .int .i64 ((rd_T33 l0_0 x5_1).f2)] 33 (0, 0))) ∧ (Below w.heap.size w w')) ?_ ?_
          rotate_left
          ·intro hJ3
           refine join_ (σ := Value) 7 (Bt 17 13287) (fun s_ => [(39, s_)]) (fun s_ w' => (H3 g4 (.int .i64 ((rd_T33 l0_0 x5_1).f0)) (.int .i64 ((rd_T33 l0_0 x5_1).f1)) (.int .i64 ((rd_T33 l0_0 x5_1).f2)) w') ∧ (Kd.R (Kd.int .u8) 5 w' w.heap.size (fun _ => True) s_ y11) ∧ (w'.heap[g1]? = some (.cells #[.slice (some ad3) l0_0.length c0_0, .int .i64 a0_1, .int .i64 a0_2, .int .i64 a0_3, .int .i64 a0_4] 26 (0, 0))) ∧ (w'.heap[g4]? = some (.cells #[.int .i64 ((rd_T33 l0_0 x5_1).f0), .int .i64 ((rd_T33 l0_0 x5_1).f1), .int .i64 ((rd_T33 l0_0 x5_1).f2)] 33 (0, 0))) ∧ (Below w.heap.size w w')) ?_ ?_
           rotate_left
           ·intro hJ9
            refine tw 3 9 (fun K hK => ?_) (fun K hK => ?_)
            ·skip
             refine gO Tryz.func39 #[.int .i64 ((rd_T33 l0_0 x5_1).f0)] ?_
             with_reducible refine (Faa.calls k1 ((rd_T33 l0_0 x5_1).f0) t10 _ A34.out).mono ?_
             rintro e w45 ⟨rfl, hb⟩
             refine ⟨_, rfl, ?_⟩
             replace B1 := kT B1 hb
             replace B4 := kT B4 hb
             replace HB := bT HB hb
             clear hb
             refine hK.out _ _ (h3 B4) (fun hHeld => ?_)
             clear hK K
             refine nO 33 ?_
             refine Pu 4 ?_
             exact norm_ Ny (hJ3 () _ ⟨hHeld, ks B1, ks B4, es HB⟩)
            ·skip
             refine Kd.R_lit_step (Kd.int .u8) _ 5 ?hg (N := 39) ?hd (xs := ([(wrap64 (97 + ((rd_T33 l0_0 x5_1).f1))) % 256] : List Int)) (inner := [.int .u8 ((wrap64 (97 + ((rd_T33 l0_0 x5_1).f1))) % 256)]) (ok := fun _ => True) (okp := fun _ => True) ?hr ?hp (fun _ hk => hk) trivial (Below.refl _ _) (Nat.le_refl _) (by simp) ?_
             (case hd => rfl)
             (case hg => rfl)
             (case hr => first | (go_simp; done) | (go_simp; rfl))
             (case hp => exact (Reps.one (show Kd.M (Kd.int .u8) _ _ _ ((wrap64 (97 + ((rd_T33 l0_0 x5_1).f1))) % 256) [.int .u8 ((wrap64 (97 + ((rd_T33 l0_0 x5_1).f1))) % 256)] from rfl) (Reps.none _ _)))
             intro v12 w45 ho46 hb hg_ hnew_
             clear hg_ hnew_
             (first | rw [← Ny11.out] at ho46 | (simp only [Int.reduceToNat] at ho46; rw [← Ny11.out] at ho46))
             have R13 := lw HB ho46
             replace B1 := kT B1 hb
             replace B4 := kT B4 hb
             replace HB := bT HB hb
             clear hb ho46
             refine hK.out _ _ (h3 B4) (fun hHeld => ?_)
             clear hK K
             refine nO 39 ?_
             exact norm_ Ny (hJ9 (v12) _ ⟨hHeld, rs R13, ks B1, ks B4, es HB⟩)
           ·skip
            rintro v12 w47 ⟨hS_, h0_, h1_, h2_, h3_⟩
            have R13 := Ak h0_
            replace B1 := Ak h1_
            replace B4 := Ak h2_
            replace HB := Ak h3_
            clear h0_ h1_ h2_ h3_
            have hHeld := hS_
            refine nQ ?_
            refine tw 3 10 (fun K hK => ?_) (fun K hK => ?_)
            ·skip
             refine gO Tryz.func39 #[.int .i64 ((rd_T33 l0_0 x5_1).f0)] ?_
             with_reducible refine (Faa.calls k1 ((rd_T33 l0_0 x5_1).f0) t10 _ A34.out).mono ?_
             rintro e w48 ⟨rfl, hb⟩
             refine ⟨_, rfl, ?_⟩
             replace R13 := rT R13 hb
             replace B1 := kT B1 hb
             replace B4 := kT B4 hb
             replace HB := bT HB hb
             clear hb
             refine hK.out _ _ (h3 B4) (fun hHeld => ?_)
             clear hK K
             refine nO 33 ?_
             refine Pu 4 ?_
             exact norm_ Ny (hJ3_9 (v12) _ ⟨hHeld, rs R13, ks B1, ks B4, es HB⟩)
            ·skip
             have hcv48 := own_string (P := Tryz.prog) Tryz.underlying22 Tryz.underlying5 Tryz.underlying9 (Kd.own_of_R R13.out)
             refine value_ (w1 := ?_) (v := ?_) (by rfl) rfl ?_ ?_
             rotate_left 2
             ·go_simp
              constructor
              ·rfl
              ·rfl
             clear hcv48
             refine hK.out _ _ (h3 B4) (fun hHeld => ?_)
             clear hK K
             refine nO 40 ?_
             exact norm_ Ny (hJ9_10 (v12) _ ⟨hHeld, rs R13, ks B1, ks B4, es HB⟩)
          ·skip
           rintro _ w46 ⟨hS_, h0_, h1_, h2_⟩
           replace B1 := Ak h0_
           replace B4 := Ak h1_
           replace HB := Ak h2_
           clear h0_ h1_ h2_
           have hHeld := hS_
           refine nQ ?_
           refine tw 9 14 (fun K hK => ?_) (fun K hK => ?_)
           ·skip
            refine Kd.R_lit_step (Kd.int .u8) _ 5 ?hg (N := 39) ?hd (xs := ([(wrap64 (97 + ((rd_T33 l0_0 x5_1).f1))) % 256] : List Int)) (inner := [.int .u8 ((wrap64 (97 + ((rd_T33 l0_0 x5_1).f1))) % 256)]) (ok := fun _ => True) (okp := fun _ => True) ?hr ?hp (fun _ hk => hk) trivial (Below.refl _ _) (Nat.le_refl _) (by simp) ?_
            (case hd => rfl)
            (case hg => rfl)
            (case hr => first | (go_simp; done) | (go_simp; rfl))
            (case hp => exact (Reps.one (show Kd.M (Kd.int .u8) _ _ _ ((wrap64 (97 + ((rd_T33 l0_0 x5_1).f1))) % 256) [.int .u8 ((wrap64 (97 + ((rd_T33 l0_0 x5_1).f1))) % 256)] from rfl) (Reps.none _ _)))
            intro v12 w47 ho48 hb hg_ hnew_
            clear hg_ hnew_
            (first | rw [← Ny11.out] at ho48 | (simp only [Int.reduceToNat] at ho48; rw [← Ny11.out] at ho48))
            have R13 := lw HB ho48
            replace B1 := kT B1 hb
            replace B4 := kT B4 hb
            replace HB := bT HB hb
            clear hb ho48
            refine hK.out _ _ (h3 B4) (fun hHeld => ?_)
            clear hK K
            refine nO 39 ?_
            exact norm_ Ny (hJ3_9 (v12) _ ⟨hHeld, rs R13, ks B1, ks B4, es HB⟩)
           ·skip
            refine gO Tryz.func39 #[.int .i64 ((rd_T33 l0_0 x5_1).f2)] ?_
            with_reducible refine (Faa.calls k1 ((rd_T33 l0_0 x5_1).f2) t14 _ A37.out).mono ?_
            rintro e w47 ⟨rfl, hb⟩
            refine ⟨_, rfl, ?_⟩
            replace B1 := kT B1 hb
            replace B4 := kT B4 hb
            replace HB := bT HB hb
            clear hb
            refine hK.out _ _ (h3 B4) (fun hHeld => ?_)
            clear hK K
            refine nO 44 ?_
            exact norm_ Ny (hJ3_14 () _ ⟨hHeld, ks B1, ks B4, es HB⟩)
         ·skip
          rintro v12 w48 ⟨hS_, h0_, h1_, h2_, h3_⟩
          have R13 := Ak h0_
          replace B1 := Ak h1_
          replace B4 := Ak h2_
          replace HB := Ak h3_
          clear h0_ h1_ h2_ h3_
          have hHeld := hS_
          refine nQ ?_
          refine oN 3 fun K hK => ?_
          refine gO Tryz.func39 #[.int .i64 ((rd_T33 l0_0 x5_1).f0)] ?_
          with_reducible refine (Faa.calls k1 ((rd_T33 l0_0 x5_1).f0) t10 _ A34.out).mono ?_
          rintro e w49 ⟨rfl, hb⟩
          refine ⟨_, rfl, ?_⟩
          replace R13 := rT R13 hb
          replace B1 := kT B1 hb
          replace B4 := kT B4 hb
          replace HB := bT HB hb
          clear hb
          refine hK.out _ _ (h3 B4) (fun hHeld => ?_)
          clear hK K
          refine nO 33 ?_
          refine Pu 4 ?_
          refine Pu 11 ?_
          exact norm_ Ny (hJ3_9_10 (v12) _ ⟨hHeld, rs R13, ks B1, ks B4, es HB⟩)
        ·skip
         rintro _ w47 ⟨hS_, h0_, h1_, h2_⟩
         replace B1 := Ak h0_
         replace B4 := Ak h1_
         replace HB := Ak h2_
         clear h0_ h1_ h2_
         have hHeld := hS_
         refine nQ ?_
         refine oN 9 fun K hK => ?_
         refine Kd.R_lit_step (Kd.int .u8) _ 5 ?hg (N := 39) ?hd (xs := ([(wrap64 (97 + ((rd_T33 l0_0 x5_1).f1))) % 256] : List Int)) (inner := [.int .u8 ((wrap64 (97 + ((rd_T33 l0_0 x5_1).f1))) % 256)]) (ok := fun _ => True) (okp := fun _ => True) ?hr ?hp (fun _ hk => hk) trivial (Below.refl _ _) (Nat.le_refl _) (by simp) ?_
         (case hd => rfl)
         (case hg => rfl)
         (case hr => first | (go_simp; done) | (go_simp; rfl))
         (case hp => exact (Reps.one (show Kd.M (Kd.int .u8) _ _ _ ((wrap64 (97 + ((rd_T33 l0_0 x5_1).f1))) % 256) [.int .u8 ((wrap64 (97 + ((rd_T33 l0_0 x5_1).f1))) % 256)] from rfl) (Reps.none _ _)))
         intro v12 w48 ho49 hb hg_ hnew_
         clear hg_ hnew_
         (first | rw [← Ny11.out] at ho49 | (simp only [Int.reduceToNat] at ho49; rw [← Ny11.out] at ho49))
         have R13 := lw HB ho49
         replace B1 := kT B1 hb
         replace B4 := kT B4 hb
         replace HB := bT HB hb
         clear hb ho49
         refine hK.out _ _ (h3 B4) (fun hHeld => ?_)
         clear hK K
         refine nO 39 ?_
         exact norm_ Ny (hJ3_9_14 (v12) _ ⟨hHeld, rs R13, ks B1, ks B4, es HB⟩)
       ·skip
        rintro v12 w48 ⟨hS_, h0_, h1_, h2_, h3_⟩
        have R13 := Ak h0_
        replace B1 := Ak h1_
        replace B4 := Ak h2_
        replace HB := Ak h3_
        clear h0_ h1_ h2_ h3_
        have hHeld := hS_
        refine nQ ?_
        refine tw 10 14 (fun K hK => ?_) (fun K hK => ?_)
        ·skip
         have hcv49 := own_string (P := Tryz.prog) Tryz.underlying22 Tryz.underlying5 Tryz.underlying9 (Kd.own_of_R R13.out)
         refine value_ (w1 := ?_) (v := ?_) (by rfl) rfl ?_ ?_
         rotate_left 2
         ·go_simp
          constructor
          ·rfl
          ·rfl
         clear hcv49
         refine hK.out _ _ (h3 B4) (fun hHeld => ?_)
         clear hK K
         refine nO 40 ?_
         refine Pu 11 ?_
         exact norm_ Ny (hJ3_9_10 (v12) _ ⟨hHeld, rs R13, ks B1, ks B4, es HB⟩)
        ·skip
         refine gO Tryz.func39 #[.int .i64 ((rd_T33 l0_0 x5_1).f2)] ?_
         with_reducible refine (Faa.calls k1 ((rd_T33 l0_0 x5_1).f2) t14 _ A37.out).mono ?_
         rintro e w49 ⟨rfl, hb⟩
         refine ⟨_, rfl, ?_⟩
         replace R13 := rT R13 hb
         replace B1 := kT B1 hb
         replace B4 := kT B4 hb
         replace HB := bT HB hb
         clear hb
         refine hK.out _ _ (h3 B4) (fun hHeld => ?_)
         clear hK K
         refine nO 44 ?_
         exact norm_ Ny (hJ3_9_14 (v12) _ ⟨hHeld, rs R13, ks B1, ks B4, es HB⟩)
      ·skip
       rintro v12 w49 ⟨hS_, h0_, h1_, h2_, h3_⟩
       have R13 := Ak h0_
       replace B1 := Ak h1_
       replace B4 := Ak h2_
       replace HB := Ak h3_
       clear h0_ h1_ h2_ h3_
       have hHeld := hS_
       refine nQ ?_
       refine oN 10 fun K hK => ?_
       have hcv50 := own_string (P := Tryz.prog) Tryz.underlying22 Tryz.underlying5 Tryz.underlying9 (Kd.own_of_R R13.out)
       refine value_ (w1 := ?_) (v := ?_) (by rfl) rfl ?_ ?_
       rotate_left 2
       ·go_simp
        constructor
        ·rfl
        ·rfl
       clear hcv50
       refine hK.out _ _ (h3 B4) (fun hHeld => ?_)
       clear hK K
       refine nO 40 ?_
       refine Pu 11 ?_
       exact norm_ Ny (hJ3_9_10_14 (v12) _ ⟨hHeld, rs R13, ks B1, ks B4, es HB⟩)
     ·skip
      rintro v12 w49 ⟨hS_, h0_, h1_, h2_, h3_⟩
      have R13 := Ak h0_
      replace B1 := Ak h1_
      replace B4 := Ak h2_
      replace HB := Ak h3_
      clear h0_ h1_ h2_ h3_
      have hHeld := hS_
      refine nQ ?_
      refine oN 14 fun K hK => ?_
      refine gO Tryz.func39 #[.int .i64 ((rd_T33 l0_0 x5_1).f2)] ?_
      with_reducible refine (Faa.calls k1 ((rd_T33 l0_0 x5_1).f2) t14 _ A37.out).mono ?_
      rintro e w50 ⟨rfl, hb⟩
      refine ⟨_, rfl, ?_⟩
      replace R13 := rT R13 hb
      replace B1 := kT B1 hb
      replace B4 := kT B4 hb
      replace HB := bT HB hb
      clear hb
      refine hK.out _ _ (h3 B4) (fun hHeld => ?_)
      clear hK K
      refine nO 44 ?_
      exact norm_ Ny (hJ3_9_10_14 (v12) _ ⟨hHeld, rs R13, ks B1, ks B4, es HB⟩)
    rintro v12 w50 ⟨hS_, h0_, h1_, h2_, h3_⟩
    have R13 := Ak h0_
    replace B1 := Ak h1_
    replace B4 := Ak h2_
    replace HB := Ak h3_
    clear h0_ h1_ h2_ h3_
    have hHeld := hS_
    refine nQ ?_
    refine Pu 15 ?_
    refine Pu 16 ?_
    refine dO ?_
    try go_wp2
    go_roundg k1
    case measure => have := HK1.out; omega
    case rel => exact ⟨(((x4_1 ++ t10) ++ (strOfNums y11)) ++ t14), (wrap64 (x5_1 + 1)), Ey, Ey, H', ⟨by have := HK1.out; omega⟩, ⟨ks B1⟩, ⟨es HB⟩⟩
   rw [if_pos c15] at H
   have c15b0 := decide_eq_true c15
   clear c15
   by_cases c16 : x4_1.size + 1 ≤ 9223372036854775807
   rotate_left
   ·rw [if_neg c16] at H
    exact absurd H (by simp)
   rw [if_pos c16] at H
   have c16b0 := eq_true c16
   have c16b1 := decide_eq_true c16
   try have c16b2 : (9223372036854775807 < x4_1.size + 1) = False := eq_false (Nat.not_lt.2 c16)
   (try (have c16b3 := c16b2; simp only [ByteArray.size_append] at c16b3))
   obtain ⟨t5, A17, H⟩ := bn H
   (try dsimp only at H)
   by_cases c18 : (x4_1 ++ (⟨#[32]⟩ : ByteArray)).size + t5.size ≤ 9223372036854775807
   rotate_left
   ·rw [if_neg c18] at H
    exact absurd H (by simp)
   rw [if_pos c18] at H
   have c18b0 := eq_true c18
   have c18b1 := decide_eq_true c18
   try have c18b2 : (9223372036854775807 < (x4_1 ++ (⟨#[32]⟩ : ByteArray)).size + t5.size) = False := eq_false (Nat.not_lt.2 c18)
   (try (have c18b3 := c18b2; simp only [ByteArray.size_append, show (⟨#[32]⟩ : ByteArray).size = 1 from rfl] at c18b3))
   obtain ⟨y106, hy6⟩ : ∃ y_ : List Int, y_ = (([(wrap64 (97 + ((rd_T33 l0_0 x5_1).f1))) % 256] : List Int)) := ⟨_, rfl⟩
   replace H : (if ((x4_1 ++ (⟨#[32]⟩ : ByteArray)) ++ t5).size + (strOfNums y106).size ≤ 9223372036854775807 then ((Faa.f k1 ((rd_T33 l0_0 x5_1).f2)).bind fun t9 => (if (((x4_1 ++ (⟨#[32]⟩ : ByteArray)) ++ t5) ++ (strOfNums y106)).size + t9.size ≤ 9223372036854775807 then (Fn.l0 k1 ((((x4_1 ++ (⟨#[32]⟩ : ByteArray)) ++ t5) ++ (strOfNums y106)) ++ t9) (wrap64 (x5_1 + 1)) l0_0 a0_1 a0_2 a0_3 a0_4) else (none))) else (none)) = some (r1, r2) := by first | (rw [hy6]; with_reducible exact H) | (have H2_ := (Option.bind_some _ _).symm.trans H; rw [hy6]; with_reducible exact H2_) | (have H2_ := (Option.bind_some _ _).symm.trans H; with_reducible exact H2_) | with_reducible exact H | (rw [hy6]; exact H) | exact H
   have Ny6 := Aside0.mk hy6
   clear hy6
   by_cases c19 : ((x4_1 ++ (⟨#[32]⟩ : ByteArray)) ++ t5).size + (strOfNums y106).size ≤ 9223372036854775807
   rotate_left
   ·rw [if_neg c19] at H
    exact absurd H (by simp)
   rw [if_pos c19] at H
   have c19b0 := eq_true c19
   have c19b1 := decide_eq_true c19
   try have c19b2 : (9223372036854775807 < ((x4_1 ++ (⟨#[32]⟩ : ByteArray)) ++ t5).size + (strOfNums y106).size) = False := eq_false (Nat.not_lt.2 c19)
   (try (have c19b3 := c19b2; simp only [ByteArray.size_append, show (⟨#[32]⟩ : ByteArray).size = 1 from rfl] at c19b3))
   obtain ⟨t9, A20, H⟩ := bn H
   (try dsimp only at H)
   by_cases c21 : (((x4_1 ++ (⟨#[32]⟩ : ByteArray)) ++ t5) ++ (strOfNums y106)).size + t9.size ≤ 9223372036854775807
   rotate_left
   ·rw [if_neg c21] at H
    exact absurd H (by simp)
   rw [if_pos c21] at H
   have c21b0 := eq_true c21
   have c21b1 := decide_eq_true c21
   try have c21b2 : (9223372036854775807 < (((x4_1 ++ (⟨#[32]⟩ : ByteArray)) ++ t5) ++ (strOfNums y106)).size + t9.size) = False := eq_false (Nat.not_lt.2 c21)
   (try (have c21b3 := c21b2; simp only [ByteArray.size_append, show (⟨#[32]⟩ : ByteArray).size = 1 from rfl] at c21b3))
   have H' := Aside0.mk H
   clear H
   have hz22 := Sq.c5 B1.out
   have p103 : 0 ≤ (x5_1 : Int) := Dz
   have q3 : x5_1 < (l0_0.length : Int) := Dz
   obtain ⟨ad3, e3, hx3_0, hx3_1, hx3_2⟩ := at_T33 HR0_0.out x5_1 p103 q3
   cases e3
   replace hx3_0 := Sq.cB HB.out hx3_0
   replace hx3_1 := Sq.cB HB.out hx3_1
   replace hx3_2 := Sq.cB HB.out hx3_2
   replace p103 := eq_true p103
   replace q3 := eq_true q3
   try go_wp2_with (first | (refine bE 6 33 #[.int .i64 0, .int .i64 0, .int .i64 0] ?_; intro g4 hg w23 B4 hb; have E4 := gW HB hg; obtain ⟨N1_4, N4_1⟩ := nB B1 hg; replace B1 := kT B1 hb; replace HB := bT HB hb; clear hb hg; have hnb24 := nP N4_1; have hz25 := Sq.c3 B4.out))
   refine gn g4 w23 (.cells #[.int .i64 ((rd_T33 l0_0 x5_1).f0), .int .i64 ((rd_T33 l0_0 x5_1).f1), .int .i64 ((rd_T33 l0_0 x5_1).f2)] 33 (0, 0)) ?hh ?_
   (case hh => apply Sq.put3; exact bS B4.out)
   intro w26 hK_ hG_
   replace B1 := cK B1 hK_ N1_4
   replace HB := cB_ HB hK_ E4
   replace B4 := hG_
   clear hK_
   replace B1 := kD B1
   replace B4 := kD B4
   replace HB := bD HB
   refine sT 17 (H3 g4 (.int .i64 ((rd_T33 l0_0 x5_1).f0)) (.int .i64 ((rd_T33 l0_0 x5_1).f1)) (.int .i64 ((rd_T33 l0_0 x5_1).f2))) [] Fn.tab12 Fn.bits12 (h3 B4) fun hHeld HT_ HW_ => ?_
   generalize w26.drew = w27 at B1 B4 HB hHeld ⊢
   refine Pu 0 ?_
   refine Pu 1 ?_
   refine Pu 5 ?_
   refine Pu 12 ?_
   refine Ta 2 ?_
   refine Ta 6 ?_
   refine Pu 7 ?_
   refine Pu 8 ?_
   refine Ta 13 ?_
   refine join_ (σ := Value) 2 (Bt 17 32767) (fun s_ => [(33, .string t5), (39, s_), (40, .string (strOfNums y106)), (44, .string t9), (34, .string ((x4_1 ++ (⟨#[32]⟩ : ByteArray)) ++ t5)), (41, .string (((x4_1 ++ (⟨#[32]⟩ : ByteArray)) ++ t5) ++ (strOfNums y106)))]) (fun s_ w' => (H3 g4 (.int .i64 ((rd_T33 l0_0 x5_1).f0)) (.int .i64 ((rd_T33 l0_0 x5_1).f1)) (.int .i64 ((rd_T33 l0_0 x5_1).f2)) w') ∧ (Kd.R (Kd.int .u8) 5 w' w.heap.size (fun _ => True) s_ y106) ∧ (w'.heap[g1]? = some (.cells #[.slice (some ad3) l0_0.length c0_0, .int .i64 a0_1, .int .i64 a0_2, .int .i64 a0_3, .int .i64 a0_4] 26 (0, 0))) ∧ (w'.heap[g4]? = some (.cells #[.int .i64 ((rd_T33 l0_0 x5_1).f0), .int .i64 ((rd_T33 l0_0 x5_1).f1), .int .i64 ((rd_T33 l0_0 x5_1).f2)] 33 (0, 0))) ∧ (Below w.heap.size w w')) ?_ ?_
   rotate_left
   ·intro hJ3_9_10_14
    refine join_ (σ := Value) 3 (Bt 17 16383) (fun s_ => [(33, .string t5), (39, s_), (40, .string (strOfNums y106)), (34, .string ((x4_1 ++ (⟨#[32]⟩ : ByteArray)) ++ t5)), (41, .string (((x4_1 ++ (⟨#[32]⟩ : ByteArray)) ++ t5) ++ (strOfNums y106)))]) (fun s_ w' => (H3 g4 (.int .i64 ((rd_T33 l0_0 x5_1).f0)) (.int .i64 ((rd_T33 l0_0 x5_1).f1)) (.int .i64 ((rd_T33 l0_0 x5_1).f2)) w') ∧ (Kd.R (Kd.int .u8) 5 w' w.heap.size (fun _ => True) s_ y106) ∧ (w'.heap[g1]? = some (.cells #[.slice (some ad3) l0_0.length c0_0, .int .i64 a0_1, .int .i64 a0_2, .int .i64 a0_3, .int .i64 a0_4] 26 (0, 0))) ∧ (w'.heap[g4]? = some (.cells #[.int .i64 ((rd_T33 l0_0 x5_1).f0), .int .i64 ((rd_T33 l0_0 x5_1).f1), .int .i64 ((rd_T33 l0_0 x5_1).f2)] 33 (0, 0))) ∧ (Below w.heap.size w w')) ?_ ?_
    rotate_left
    ·intro hJ3_9_10
     refine join_ (σ := Value) 4 (Bt 17 29695) (fun s_ => [(33, .string t5), (39, s_), (44, .string t9), (34, .string ((x4_1 ++ (⟨#[32]⟩ : ByteArray)) ++ t5))]) (fun s_ w' => (H3 g4 (.int .i64 ((rd_T33 l0_0 x5_1).f0)) (.int .i64 ((rd_T33 l0_0 x5_1).f1)) (.int .i64 ((rd_T33 l0_0 x5_1).f2)) w') ∧ (Kd.R (Kd.int .u8) 5 w' w.heap.size (fun _ => True) s_ y106) ∧ (w'.heap[g1]? = some (.cells #[.slice (some ad3) l0_0.length c0_0, .int .i64 a0_1, .int .i64 a0_2, .int .i64 a0_3, .int .i64 a0_4] 26 (0, 0))) ∧ (w'.heap[g4]? = some (.cells #[.int .i64 ((rd_T33 l0_0 x5_1).f0), .int .i64 ((rd_T33 l0_0 x5_1).f1), .int .i64 ((rd_T33 l0_0 x5_1).f2)] 33 (0, 0))) ∧ (Below w.heap.size w w')) ?_ ?_
     rotate_left
     ·intro hJ3_9_14
      refine join_ (σ := Value) 5 (Bt 17 13311) (fun s_ => [(33, .string t5), (39, s_), (34, .string ((x4_1 ++ (⟨#[32]⟩ : ByteArray)) ++ t5))]) (fun s_ w' => (H3 g4 (.int .i64 ((rd_T33 l0_0 x5_1).f0)) (.int .i64 ((rd_T33 l0_0 x5_1).f1)) (.int .i64 ((rd_T33 l0_0 x5_1).f2)) w') ∧ (Kd.R (Kd.int .u8) 5 w' w.heap.size (fun _ => True) s_ y106) ∧ (w'.heap[g1]? = some (.cells #[.slice (some ad3) l0_0.length c0_0, .int .i64 a0_1, .int .i64 a0_2, .int .i64 a0_3, .int .i64 a0_4] 26 (0, 0))) ∧ (w'.heap[g4]? = some (.cells #[.int .i64 ((rd_T33 l0_0 x5_1).f0), .int .i64 ((rd_T33 l0_0 x5_1).f1), .int .i64 ((rd_T33 l0_0 x5_1).f2)] 33 (0, 0))) ∧ (Below w.heap.size w w')) ?_ ?_
      rotate_left
      ·intro hJ3_9
       refine join_ (σ := Unit) 5 (Bt 17 29183) (fun s_ => [(33, .string t5), (44, .string t9), (34, .string ((x4_1 ++ (⟨#[32]⟩ : ByteArray)) ++ t5))]) (fun s_ w' => (H3 g4 (.int .i64 ((rd_T33 l0_0 x5_1).f0)) (.int .i64 ((rd_T33 l0_0 x5_1).f1)) (.int .i64 ((rd_T33 l0_0 x5_1).f2)) w') ∧ (w'.heap[g1]? = some (.cells #[.slice (some ad3) l0_0.length c0_0, .int .i64 a0_1, .int .i64 a0_2, .int .i64 a0_3, .int .i64 a0_4] 26 (0, 0))) ∧ (w'.heap[g4]? = some (.cells #[.int .i64 ((rd_T33 l0_0 x5_1).f0), .int .i64 ((rd_T33 l0_0 x5_1).f1), .int .i64 ((rd_T33 l0_0 x5_1).f2)] 33 (0, 0))) ∧ (Below w.heap.size w w')) ?_ ?_
       rotate_left
       ·intro hJ3_14
        refine join_ (σ := Value) 6 (Bt 17 14311) (fun s_ => [(39, s_), (40, .string (strOfNums y106))]) (fun s_ w' => (H3 g4 (.int .i64 ((rd_T33 l0_0 x5_1).f0)) (.int .i64 ((rd_T33 l0_0 x5_1).f1)) (.int .i64 ((rd_T33 l0_0 x5_1).f2)) w') ∧ (Kd.R (Kd.int .u8) 5 w' w.heap.size (fun _ => True) s_ y106) ∧ (w'.heap[g1]? = some (.cells #[.slice (some ad3) l0_0.length c0_0, .int .i64 a0_1, .int .i64 a0_2, .int .i64 a0_3, .int .i64 a0_4] 26 (0, 0))) ∧ (w'.heap[g4]? = some (.cells #[.int .i64 ((rd_T33 l0_0 x5_1).f0), .int .i64 ((rd_T33 l0_0 x5_1).f1), .int .i64 ((rd_T33 l0_0 x5_1).f2)] 33 (0, 0))) ∧ (Below w.heap.size w w')) ?_ ?_
        rotate_left
        ·intro hJ9_10
         refine join_ (σ := Unit) 6 (Bt 17 12799) (fun s_ => [(33, .string t5), (34, .string ((x4_1 ++ (⟨#[32]⟩ : ByteArray)) ++ t5))]) (fun s_ w' => (H3 g4 (.int .i64 ((rd_T33 l0_0 x5_1).f0)) (.int .i64 ((rd_T33 l0_0 x5_1).f1)) (.int .i64 ((rd_T33 l0_0 x5_1).f2)) w') ∧ (w'.heap[g1]? = some (.cells #[.slice (some ad3) l0_0.length c0_0, .int .i64 a0_1, .int .i64 a0_2, .int .i64 a0_3, .int .i64 a0_4] 26 (0, 0))) ∧ (w'.heap[g4]? = some (.cells #[.int .i64 ((rd_T33 l0_0 x5_1).f0), .int .i64 ((rd_T33 l0_0 x5_1).f1), .int .i64 ((rd_T33 l0_0 x5_1).f2)] 33 (0, 0))) ∧ (Below w.heap.size w w')) ?_ ?_
         rotate_left
         ·intro hJ3
          refine join_ (σ := Value) 7 (Bt 17 13287) (fun s_ => [(39, s_)]) (fun s_ w' => (H3 g4 (.int .i64 ((rd_T33 l0_0 x5_1).f0)) (.int .i64 ((rd_T33 l0_0 x5_1).f1)) (.int .i64 ((rd_T33 l0_0 x5_1).f2)) w') ∧ (Kd.R (Kd.int .u8) 5 w' w.heap.size (fun _ => True) s_ y106) ∧ (w'.heap[g1]? = some (.cells #[.slice (some ad3) l0_0.length c0_0, .int .i64 a0_1, .int .i64 a0_2, .int .i64 a0_3, .int .i64 a0_4] 26 (0, 0))) ∧ (w'.heap[g4]? = some (.cells #[.int .i64 ((rd_T33 l0_0 x5_1).f0), .int .i64 ((rd_T33 l0_0 x5_1).f1), .int .i64 ((rd_T33 l0_0 x5_1).f2)] 33 (0, 0))) ∧ (Below w.heap.size w w')) ?_ ?_
          rotate_left
          ·intro hJ9
           refine tw 3 9 (fun K hK => ?_) (fun K hK => ?_)
           ·skip
            refine gO Tryz.func39 #[.int .i64 ((rd_T33 l0_0 x5_1).f0)] ?_
            with_reducible refine (Faa.calls k1 ((rd_T33 l0_0 x5_1).f0) t5 _ A17.out).mono ?_
            rintro e w28 ⟨rfl, hb⟩
            refine ⟨_, rfl, ?_⟩
            replace B1 := kT B1 hb
            replace B4 := kT B4 hb
            replace HB := bT HB hb
            clear hb
            refine hK.out _ _ (h3 B4) (fun hHeld => ?_)
            clear hK K
            refine nO 33 ?_
            refine Pu 4 ?_
            exact norm_ Ny (hJ3 () _ ⟨hHeld, ks B1, ks B4, es HB⟩)
           ·skip
            refine Kd.R_lit_step (Kd.int .u8) _ 5 ?hg (N := 39) ?hd (xs := ([(wrap64 (97 + ((rd_T33 l0_0 x5_1).f1))) % 256] : List Int)) (inner := [.int .u8 ((wrap64 (97 + ((rd_T33 l0_0 x5_1).f1))) % 256)]) (ok := fun _ => True) (okp := fun _ => True) ?hr ?hp (fun _ hk => hk) trivial (Below.refl _ _) (Nat.le_refl _) (by simp) ?_
            (case hd => rfl)
            (case hg => rfl)
            (case hr => first | (go_simp; done) | (go_simp; rfl))
            (case hp => exact (Reps.one (show Kd.M (Kd.int .u8) _ _ _ ((wrap64 (97 + ((rd_T33 l0_0 x5_1).f1))) % 256) [.int .u8 ((wrap64 (97 + ((rd_T33 l0_0 x5_1).f1))) % 256)] from rfl) (Reps.none _ _)))
            intro v7 w28 ho29 hb hg_ hnew_
            clear hg_ hnew_
            (first | rw [← Ny6.out] at ho29 | (simp only [Int.reduceToNat] at ho29; rw [← Ny6.out] at ho29))
            have R8 := lw HB ho29
            replace B1 := kT B1 hb
            replace B4 := kT B4 hb
            replace HB := bT HB hb
            clear hb ho29
            refine hK.out _ _ (h3 B4) (fun hHeld => ?_)
            clear hK K
            refine nO 39 ?_
            exact norm_ Ny (hJ9 (v7) _ ⟨hHeld, rs R8, ks B1, ks B4, es HB⟩)
          ·skip
           rintro v7 w30 ⟨hS_, h0_, h1_, h2_, h3_⟩
           have R8 := Ak h0_
           replace B1 := Ak h1_
           replace B4 := Ak h2_
           replace HB := Ak h3_
           clear h0_ h1_ h2_ h3_
           have hHeld := hS_
           refine nQ ?_
           refine tw 3 10 (fun K hK => ?_) (fun K hK => ?_)
           ·skip
            refine gO Tryz.func39 #[.int .i64 ((rd_T33 l0_0 x5_1).f0)] ?_
            with_reducible refine (Faa.calls k1 ((rd_T33 l0_0 x5_1).f0) t5 _ A17.out).mono ?_
            rintro e w31 ⟨rfl, hb⟩
            refine ⟨_, rfl, ?_⟩
            replace R8 := rT R8 hb
            replace B1 := kT B1 hb
            replace B4 := kT B4 hb
            replace HB := bT HB hb
            clear hb
            refine hK.out _ _ (h3 B4) (fun hHeld => ?_)
            clear hK K
            refine nO 33 ?_
            refine Pu 4 ?_
            exact norm_ Ny (hJ3_9 (v7) _ ⟨hHeld, rs R8, ks B1, ks B4, es HB⟩)
           ·skip
            have hcv31 := own_string (P := Tryz.prog) Tryz.underlying22 Tryz.underlying5 Tryz.underlying9 (Kd.own_of_R R8.out)
            refine value_ (w1 := ?_) (v := ?_) (by rfl) rfl ?_ ?_
            rotate_left 2
            ·go_simp
             constructor
             ·rfl
             ·rfl
            clear hcv31
            refine hK.out _ _ (h3 B4) (fun hHeld => ?_)
            clear hK K
            refine nO 40 ?_
            exact norm_ Ny (hJ9_10 (v7) _ ⟨hHeld, rs R8, ks B1, ks B4, es HB⟩)
         ·skip
          rintro _ w29 ⟨hS_, h0_, h1_, h2_⟩
          replace B1 := Ak h0_
          replace B4 := Ak h1_
          replace HB := Ak h2_
          clear h0_ h1_ h2_
          have hHeld := hS_
          refine nQ ?_
          refine tw 9 14 (fun K hK => ?_) (fun K hK => ?_)
          ·skip
           refine Kd.R_lit_step (Kd.int .u8) _ 5 ?hg (N := 39) ?hd (xs := ([(wrap64 (97 + ((rd_T33 l0_0 x5_1).f1))) % 256] : List Int)) (inner := [.int .u8 ((wrap64 (97 + ((rd_T33 l0_0 x5_1).f1))) % 256)]) (ok := fun _ => True) (okp := fun _ => True) ?hr ?hp (fun _ hk => hk) trivial (Below.refl _ _) (Nat.le_refl _) (by simp) ?_
           (case hd => rfl)
           (case hg => rfl)
           (case hr => first | (go_simp; done) | (go_simp; rfl))
           (case hp => exact (Reps.one (show Kd.M (Kd.int .u8) _ _ _ ((wrap64 (97 + ((rd_T33 l0_0 x5_1).f1))) % 256) [.int .u8 ((wrap64 (97 + ((rd_T33 l0_0 x5_1).f1))) % 256)] from rfl) (Reps.none _ _)))
           intro v7 w30 ho31 hb hg_ hnew_
           clear hg_ hnew_
           (first | rw [← Ny6.out] at ho31 | (simp only [Int.reduceToNat] at ho31; rw [← Ny6.out] at ho31))
           have R8 := lw HB ho31
           replace B1 := kT B1 hb
           replace B4 := kT B4 hb
           replace HB := bT HB hb
           clear hb ho31
           refine hK.out _ _ (h3 B4) (fun hHeld => ?_)
           clear hK K
           refine nO 39 ?_
           exact norm_ Ny (hJ3_9 (v7) _ ⟨hHeld, rs R8, ks B1, ks B4, es HB⟩)
          ·skip
           refine gO Tryz.func39 #[.int .i64 ((rd_T33 l0_0 x5_1).f2)] ?_
           with_reducible refine (Faa.calls k1 ((rd_T33 l0_0 x5_1).f2) t9 _ A20.out).mono ?_
           rintro e w30 ⟨rfl, hb⟩
           refine ⟨_, rfl, ?_⟩
           replace B1 := kT B1 hb
           replace B4 := kT B4 hb
           replace HB := bT HB hb
           clear hb
           refine hK.out _ _ (h3 B4) (fun hHeld => ?_)
           clear hK K
           refine nO 44 ?_
           exact norm_ Ny (hJ3_14 () _ ⟨hHeld, ks B1, ks B4, es HB⟩)
        ·skip
         rintro v7 w31 ⟨hS_, h0_, h1_, h2_, h3_⟩
         have R8 := Ak h0_
         replace B1 := Ak h1_
         replace B4 := Ak h2_
         replace HB := Ak h3_
         clear h0_ h1_ h2_ h3_
         have hHeld := hS_
         refine nQ ?_
         refine oN 3 fun K hK => ?_
         refine gO Tryz.func39 #[.int .i64 ((rd_T33 l0_0 x5_1).f0)] ?_
         with_reducible refine (Faa.calls k1 ((rd_T33 l0_0 x5_1).f0) t5 _ A17.out).mono ?_
         rintro e w32 ⟨rfl, hb⟩
         refine ⟨_, rfl, ?_⟩
         replace R8 := rT R8 hb
         replace B1 := kT B1 hb
         replace B4 := kT B4 hb
         replace HB := bT HB hb
         clear hb
         refine hK.out _ _ (h3 B4) (fun hHeld => ?_)
         clear hK K
         refine nO 33 ?_
         refine Pu 4 ?_
         refine Pu 11 ?_
         exact norm_ Ny (hJ3_9_10 (v7) _ ⟨hHeld, rs R8, ks B1, ks B4, es HB⟩)
       ·skip
        rintro _ w30 ⟨hS_, h0_, h1_, h2_⟩
        replace B1 := Ak h0_
        replace B4 := Ak h1_
        replace HB := Ak h2_
        clear h0_ h1_ h2_
        have hHeld := hS_
        refine nQ ?_
        refine oN 9 fun K hK => ?_
        refine Kd.R_lit_step (Kd.int .u8) _ 5 ?hg (N := 39) ?hd (xs := ([(wrap64 (97 + ((rd_T33 l0_0 x5_1).f1))) % 256] : List Int)) (inner := [.int .u8 ((wrap64 (97 + ((rd_T33 l0_0 x5_1).f1))) % 256)]) (ok := fun _ => True) (okp := fun _ => True) ?hr ?hp (fun _ hk => hk) trivial (Below.refl _ _) (Nat.le_refl _) (by simp) ?_
        (case hd => rfl)
        (case hg => rfl)
        (case hr => first | (go_simp; done) | (go_simp; rfl))
        (case hp => exact (Reps.one (show Kd.M (Kd.int .u8) _ _ _ ((wrap64 (97 + ((rd_T33 l0_0 x5_1).f1))) % 256) [.int .u8 ((wrap64 (97 + ((rd_T33 l0_0 x5_1).f1))) % 256)] from rfl) (Reps.none _ _)))
        intro v7 w31 ho32 hb hg_ hnew_
        clear hg_ hnew_
        (first | rw [← Ny6.out] at ho32 | (simp only [Int.reduceToNat] at ho32; rw [← Ny6.out] at ho32))
        have R8 := lw HB ho32
        replace B1 := kT B1 hb
        replace B4 := kT B4 hb
        replace HB := bT HB hb
        clear hb ho32
        refine hK.out _ _ (h3 B4) (fun hHeld => ?_)
        clear hK K
        refine nO 39 ?_
        exact norm_ Ny (hJ3_9_14 (v7) _ ⟨hHeld, rs R8, ks B1, ks B4, es HB⟩)
      ·skip
       rintro v7 w31 ⟨hS_, h0_, h1_, h2_, h3_⟩
       have R8 := Ak h0_
       replace B1 := Ak h1_
       replace B4 := Ak h2_
       replace HB := Ak h3_
       clear h0_ h1_ h2_ h3_
       have hHeld := hS_
       refine nQ ?_
       refine tw 10 14 (fun K hK => ?_) (fun K hK => ?_)
       ·skip
        have hcv32 := own_string (P := Tryz.prog) Tryz.underlying22 Tryz.underlying5 Tryz.underlying9 (Kd.own_of_R R8.out)
        refine value_ (w1 := ?_) (v := ?_) (by rfl) rfl ?_ ?_
        rotate_left 2
        ·go_simp
         constructor
         ·rfl
         ·rfl
        clear hcv32
        refine hK.out _ _ (h3 B4) (fun hHeld => ?_)
        clear hK K
        refine nO 40 ?_
        refine Pu 11 ?_
        exact norm_ Ny (hJ3_9_10 (v7) _ ⟨hHeld, rs R8, ks B1, ks B4, es HB⟩)
       ·skip
        refine gO Tryz.func39 #[.int .i64 ((rd_T33 l0_0 x5_1).f2)] ?_
        with_reducible refine (Faa.calls k1 ((rd_T33 l0_0 x5_1).f2) t9 _ A20.out).mono ?_
        rintro e w32 ⟨rfl, hb⟩
        refine ⟨_, rfl, ?_⟩
        replace R8 := rT R8 hb
        replace B1 := kT B1 hb
        replace B4 := kT B4 hb
        replace HB := bT HB hb
        clear hb
        refine hK.out _ _ (h3 B4) (fun hHeld => ?_)
        clear hK K
        refine nO 44 ?_
        exact norm_ Ny (hJ3_9_14 (v7) _ ⟨hHeld, rs R8, ks B1, ks B4, es HB⟩)
     ·skip
      rintro v7 w32 ⟨hS_, h0_, h1_, h2_, h3_⟩
      have R8 := Ak h0_
      replace B1 := Ak h1_
      replace B4 := Ak h2_
      replace HB := Ak h3_
      clear h0_ h1_ h2_ h3_
      have hHeld := hS_
      refine nQ ?_
      refine oN 10 fun K hK => ?_
      have hcv33 := own_string (P := Tryz.prog) Tryz.underlying22 Tryz.underlying5 Tryz.underlying9 (Kd.own_of_R R8.out)
      refine value_ (w1 := ?_) (v := ?_) (by rfl) rfl ?_ ?_
      rotate_left 2
      ·go_simp
       constructor
       ·rfl
       ·rfl
      clear hcv33
      refine hK.out _ _ (h3 B4) (fun hHeld => ?_)
      clear hK K
      refine nO 40 ?_
      refine Pu 11 ?_
      exact norm_ Ny (hJ3_9_10_14 (v7) _ ⟨hHeld, rs R8, ks B1, ks B4, es HB⟩)
    ·skip
     rintro v7 w32 ⟨hS_, h0_, h1_, h2_, h3_⟩
     have R8 := Ak h0_
     replace B1 := Ak h1_
     replace B4 := Ak h2_
     replace HB := Ak h3_
     clear h0_ h1_ h2_ h3_
     have hHeld := hS_
     refine nQ ?_
     refine oN 14 fun K hK => ?_
     refine gO Tryz.func39 #[.int .i64 ((rd_T33 l0_0 x5_1).f2)] ?_
     with_reducible refine (Faa.calls k1 ((rd_T33 l0_0 x5_1).f2) t9 _ A20.out).mono ?_
     rintro e w33 ⟨rfl, hb⟩
     refine ⟨_, rfl, ?_⟩
     replace R8 := rT R8 hb
     replace B1 := kT B1 hb
     replace B4 := kT B4 hb
     replace HB := bT HB hb
     clear hb
     refine hK.out _ _ (h3 B4) (fun hHeld => ?_)
     clear hK K
     refine nO 44 ?_
     exact norm_ Ny (hJ3_9_10_14 (v7) _ ⟨hHeld, rs R8, ks B1, ks B4, es HB⟩)
   rintro v7 w33 ⟨hS_, h0_, h1_, h2_, h3_⟩
   have R8 := Ak h0_
   replace B1 := Ak h1_
   replace B4 := Ak h2_
   replace HB := Ak h3_
   clear h0_ h1_ h2_ h3_
   have hHeld := hS_
   refine nQ ?_
   refine Pu 15 ?_
   refine Pu 16 ?_
   refine dO ?_
   try go_wp2
   go_roundg k1
   case measure => have := HK1.out; omega
   case rel => exact ⟨((((x4_1 ++ (⟨#[32]⟩ : ByteArray)) ++ t5) ++ (strOfNums y106)) ++ t9), (wrap64 (x5_1 + 1)), Ey, Ey, H', ⟨by have := HK1.out; omega⟩, ⟨ks B1⟩, ⟨es HB⟩⟩
end
section
attribute [local go_sem ↓] Ho.isSome_setCell_
/-! ### Fj: function 3 -/
mutual
def Fj.j0 : Nat → List Int → Int → Int → Int → Bool → Bool → List (S33) → Int → Int → Int → Int → Option (Bool)
  | 0, _, _, _, _, _, _, _, _, _, _, _ => none
  | k + 1, x0, x4, x5, x6, x7, x59, x112000, x112001, x112002, x112003, x112004 => if x59 = true then (some false) else ((Fy.f k x112000 x112001 x112002 x112003 x112004 x4 x5).bind fun bt116 => ((Fr.f k x112000 x112001 x112002 x112003 x112004 x4 x5).bind fun bt118 => (if bt116.1 = bt118.1 then (if (bt116.2 != bt118.2) = true then (Fj.j1 k x0 x4 x5 x6 x7 bt116.1 bt116.2 true x112000 x112001 x112002 x112003 x112004) else (if x7 = true then (Fj.j1 k x0 x4 x5 x6 x7 bt116.1 bt116.2 (bt116.2 != (x6 == 0)) x112000 x112001 x112002 x112003 x112004) else (Fj.j1 k x0 x4 x5 x6 x7 bt116.1 bt116.2 (bt116.2 != false) x112000 x112001 x112002 x112003 x112004))) else (Fj.j1 k x0 x4 x5 x6 x7 bt116.1 bt116.2 true x112000 x112001 x112002 x112003 x112004))))
def Fj.j1 : Nat → List Int → Int → Int → Int → Bool → Int → Bool → Bool → List (S33) → Int → Int → Int → Int → Option (Bool)
  | 0, _, _, _, _, _, _, _, _, _, _, _, _, _ => none
  | k + 1, x0, x4, x5, x6, x7, x10, x11, x90, x112000, x112001, x112002, x112003, x112004 => if x90 = true then (some false) else (if x7 = true then ((Fab.f k x112000 x112001 x112002 x112003 x112004 x4).bind fun bt120 => (if bt120.2 = true then (if bt120.1 < x5 then (some false) else (if x6 < 0 then (some false) else (if x6 ≥ (x112000.length : Int) then (some false) else (Fj.j2 k x0 x4 x5 x10 x11 x112000 x112001 x112002 x112003 x112004)))) else (some false))) else (Fj.j2 k x0 x4 x5 x10 x11 x112000 x112001 x112002 x112003 x112004))
def Fj.j2 : Nat → List Int → Int → Int → Int → Bool → List (S33) → Int → Int → Int → Int → Option (Bool)
  | 0, _, _, _, _, _, _, _, _, _, _ => none
  | k + 1, x0, x4, x5, x10, x11, x112000, x112001, x112002, x112003, x112004 => if x11 = true then (Fj.l0 k x0 x4 x5 x10 false 0 x112000 x112001 x112002 x112003 x112004) else (Fj.j4 k x0)
def Fj.j4 : Nat → List Int → Option (Bool)
  | 0, _ => none
  | k + 1, x0 => (Fak.f k x0).bind fun bt124 => ((Fab.f k bt124.1 bt124.2.1 bt124.2.2.1 bt124.2.2.2.1 bt124.2.2.2.2.1 bt124.2.2.2.2.2).bind fun bt133 => ((Fas.f k bt124.1 bt124.2.1 bt124.2.2.1 bt124.2.2.2.1 bt124.2.2.2.2.1 bt124.2.2.2.2.2).bind fun bt135 => (if bt133.1 = bt135.1 then (Fj.j5 k x0 (bt133.2 != bt135.2)) else (Fj.j5 k x0 true))))
def Fj.j5 : Nat → List Int → Bool → Option (Bool)
  | 0, _, _ => none
  | k + 1, x0, x169 => if x169 = true then (some false) else ((Fae.f k x0).bind fun bt137 => ((Fp.f k bt137.1 bt137.2.1 bt137.2.2.1 bt137.2.2.2.1 bt137.2.2.2.2).bind fun bt145 => ((Fn.f k bt137.1 bt137.2.1 bt137.2.2.1 bt137.2.2.2.1 bt137.2.2.2.2).bind fun bt147 => (if bt145.1.toList = bt147.1.toList then (if (bt145.2 == bt147.2) = true then ((Fk.f k bt137.1 bt137.2.1 bt137.2.2.1 bt137.2.2.2.1 bt137.2.2.2.2).bind fun t149 => (some (bt145.2 == t149))) else (some false)) else (some false)))))
def Fj.l0 : Nat → List Int → Int → Int → Int → Bool → Int → List (S33) → Int → Int → Int → Int → Option (Bool)
  | 0, _, _, _, _, _, _, _, _, _, _, _ => none
  | k + 1, x0, x4, x5, x10, x16, x17, x112000, x112001, x112002, x112003, x112004 => if x17 < (x112000.length : Int) then (if 0 ≤ x17 then (if ((rd_T33 x112000 x17).f0) = x10 then (if ((rd_T33 x112000 x17).f1) = x4 then (Fj.l0 k x0 x4 x5 x10 (decide (((rd_T33 x112000 x17).f2) ≥ x5)) (wrap64 (x17 + 1)) x112000 x112001 x112002 x112003 x112004) else (Fj.l0 k x0 x4 x5 x10 false (wrap64 (x17 + 1)) x112000 x112001 x112002 x112003 x112004)) else (Fj.l0 k x0 x4 x5 x10 x16 (wrap64 (x17 + 1)) x112000 x112001 x112002 x112003 x112004)) else (none)) else (if x16 = true then (Fj.j4 k x0) else (some false))
end
def Fj.f (k : Nat) (l0 : List Int) : Option (Bool) := (Fbt.f l0).bind fun t101 => (if t101 = true then (some true) else ((Fam.f k l0).bind fun bt102 => ((Fx.f k bt102.1 bt102.2.1 bt102.2.2.1 bt102.2.2.2.1 bt102.2.2.2.2.1 bt102.2.2.2.2.2.1 bt102.2.2.2.2.2.2).bind fun bt112 => ((Fo.f k bt102.1 bt102.2.1 bt102.2.2.1 bt102.2.2.2.1 bt102.2.2.2.2.1 bt102.2.2.2.2.2.1 bt102.2.2.2.2.2.2).bind fun bt114 => (if bt112.1 = bt114.1 then (Fj.j0 k l0 bt102.2.2.2.2.2.1 bt102.2.2.2.2.2.2 bt112.1 bt112.2 (bt112.2 != bt114.2) bt102.1 bt102.2.1 bt102.2.2.1 bt102.2.2.2.1 bt102.2.2.2.2.1) else (Fj.j0 k l0 bt102.2.2.2.2.2.1 bt102.2.2.2.2.2.2 bt112.1 bt112.2 true bt102.1 bt102.2.1 bt102.2.2.1 bt102.2.2.2.1 bt102.2.2.2.2.1))))))
theorem Fj.mono_l : ∀ k, (∀ y0 y1 y2 y3 y4 y5 y6 y7 y8 y9 y10, LeO (Fj.j0 k y0 y1 y2 y3 y4 y5 y6 y7 y8 y9 y10) (Fj.j0 (k + 1) y0 y1 y2 y3 y4 y5 y6 y7 y8 y9 y10)) ∧ (∀ y0 y1 y2 y3 y4 y5 y6 y7 y8 y9 y10 y11 y12, LeO (Fj.j1 k y0 y1 y2 y3 y4 y5 y6 y7 y8 y9 y10 y11 y12) (Fj.j1 (k + 1) y0 y1 y2 y3 y4 y5 y6 y7 y8 y9 y10 y11 y12)) ∧ (∀ y0 y1 y2 y3 y4 y5 y6 y7 y8 y9, LeO (Fj.j2 k y0 y1 y2 y3 y4 y5 y6 y7 y8 y9) (Fj.j2 (k + 1) y0 y1 y2 y3 y4 y5 y6 y7 y8 y9)) ∧ (∀ y0, LeO (Fj.j4 k y0) (Fj.j4 (k + 1) y0)) ∧ (∀ y0 y1, LeO (Fj.j5 k y0 y1) (Fj.j5 (k + 1) y0 y1)) ∧ (∀ y0 y1 y2 y3 y4 y5 y6 y7 y8 y9 y10, LeO (Fj.l0 k y0 y1 y2 y3 y4 y5 y6 y7 y8 y9 y10) (Fj.l0 (k + 1) y0 y1 y2 y3 y4 y5 y6 y7 y8 y9 y10))
  | 0 => ⟨fun _ _ _ _ _ _ _ _ _ _ _ r h => by simp [Fj.j0] at h, fun _ _ _ _ _ _ _ _ _ _ _ _ _ r h => by simp [Fj.j1] at h, fun _ _ _ _ _ _ _ _ _ _ r h => by simp [Fj.j2] at h, fun _ r h => by simp [Fj.j4] at h, fun _ _ r h => by simp [Fj.j5] at h, fun _ _ _ _ _ _ _ _ _ _ _ r h => by simp [Fj.l0] at h⟩
  | k + 1 => by
    obtain ⟨ih0, ih1, ih2, ih3, ih4, ih5⟩ := Fj.mono_l k
    refine ⟨?_, ?_, ?_, ?_, ?_, ?_⟩
    · intro y0 y1 y2 y3 y4 y5 y6 y7 y8 y9 y10
      unfold Fj.j0
      repeat' (with_reducible first | exact ih0 _ _ _ _ _ _ _ _ _ _ _ | exact ih1 _ _ _ _ _ _ _ _ _ _ _ _ _ | exact ih2 _ _ _ _ _ _ _ _ _ _ | exact ih3 _ | exact ih4 _ _ | exact ih5 _ _ _ _ _ _ _ _ _ _ _ | apply Fk.mono | apply Fab.mono | apply Fy.mono | apply Fx.mono | apply Fp.mono | apply Fak.mono | apply Fam.mono | apply Fae.mono | apply Fas.mono | apply Fr.mono | apply Fo.mono | apply Fn.mono | exact LeO.refl _ | exact LeO.none _ | refine LeO.ite ?_ ?_ | refine LeO.bind ?_ (fun _ => ?_))
    · intro y0 y1 y2 y3 y4 y5 y6 y7 y8 y9 y10 y11 y12
      unfold Fj.j1
      repeat' (with_reducible first | exact ih0 _ _ _ _ _ _ _ _ _ _ _ | exact ih1 _ _ _ _ _ _ _ _ _ _ _ _ _ | exact ih2 _ _ _ _ _ _ _ _ _ _ | exact ih3 _ | exact ih4 _ _ | exact ih5 _ _ _ _ _ _ _ _ _ _ _ | apply Fk.mono | apply Fab.mono | apply Fy.mono | apply Fx.mono | apply Fp.mono | apply Fak.mono | apply Fam.mono | apply Fae.mono | apply Fas.mono | apply Fr.mono | apply Fo.mono | apply Fn.mono | exact LeO.refl _ | exact LeO.none _ | refine LeO.ite ?_ ?_ | refine LeO.bind ?_ (fun _ => ?_))
    · intro y0 y1 y2 y3 y4 y5 y6 y7 y8 y9
      unfold Fj.j2
      repeat' (with_reducible first | exact ih0 _ _ _ _ _ _ _ _ _ _ _ | exact ih1 _ _ _ _ _ _ _ _ _ _ _ _ _ | exact ih2 _ _ _ _ _ _ _ _ _ _ | exact ih3 _ | exact ih4 _ _ | exact ih5 _ _ _ _ _ _ _ _ _ _ _ | apply Fk.mono | apply Fab.mono | apply Fy.mono | apply Fx.mono | apply Fp.mono | apply Fak.mono | apply Fam.mono | apply Fae.mono | apply Fas.mono | apply Fr.mono | apply Fo.mono | apply Fn.mono | exact LeO.refl _ | exact LeO.none _ | refine LeO.ite ?_ ?_ | refine LeO.bind ?_ (fun _ => ?_))
    · intro y0
      unfold Fj.j4
      repeat' (with_reducible first | exact ih0 _ _ _ _ _ _ _ _ _ _ _ | exact ih1 _ _ _ _ _ _ _ _ _ _ _ _ _ | exact ih2 _ _ _ _ _ _ _ _ _ _ | exact ih3 _ | exact ih4 _ _ | exact ih5 _ _ _ _ _ _ _ _ _ _ _ | apply Fk.mono | apply Fab.mono | apply Fy.mono | apply Fx.mono | apply Fp.mono | apply Fak.mono | apply Fam.mono | apply Fae.mono | apply Fas.mono | apply Fr.mono | apply Fo.mono | apply Fn.mono | exact LeO.refl _ | exact LeO.none _ | refine LeO.ite ?_ ?_ | refine LeO.bind ?_ (fun _ => ?_))
    · intro y0 y1
      unfold Fj.j5
      repeat' (with_reducible first | exact ih0 _ _ _ _ _ _ _ _ _ _ _ | exact ih1 _ _ _ _ _ _ _ _ _ _ _ _ _ | exact ih2 _ _ _ _ _ _ _ _ _ _ | exact ih3 _ | exact ih4 _ _ | exact ih5 _ _ _ _ _ _ _ _ _ _ _ | apply Fk.mono | apply Fab.mono | apply Fy.mono | apply Fx.mono | apply Fp.mono | apply Fak.mono | apply Fam.mono | apply Fae.mono | apply Fas.mono | apply Fr.mono | apply Fo.mono | apply Fn.mono | exact LeO.refl _ | exact LeO.none _ | refine LeO.ite ?_ ?_ | refine LeO.bind ?_ (fun _ => ?_))
    · intro y0 y1 y2 y3 y4 y5 y6 y7 y8 y9 y10
      unfold Fj.l0
      repeat' (with_reducible first | exact ih0 _ _ _ _ _ _ _ _ _ _ _ | exact ih1 _ _ _ _ _ _ _ _ _ _ _ _ _ | exact ih2 _ _ _ _ _ _ _ _ _ _ | exact ih3 _ | exact ih4 _ _ | exact ih5 _ _ _ _ _ _ _ _ _ _ _ | apply Fk.mono | apply Fab.mono | apply Fy.mono | apply Fx.mono | apply Fp.mono | apply Fak.mono | apply Fam.mono | apply Fae.mono | apply Fas.mono | apply Fr.mono | apply Fo.mono | apply Fn.mono | exact LeO.refl _ | exact LeO.none _ | refine LeO.ite ?_ ?_ | refine LeO.bind ?_ (fun _ => ?_))
theorem Fj.mono : ∀ a0 k, LeO (Fj.f k a0) (Fj.f (k + 1) a0) := by
  intro a0 k
  obtain ⟨ih0, ih1, ih2, ih3, ih4, ih5⟩ := Fj.mono_l k
  unfold Fj.f
  repeat' (with_reducible first | exact ih0 _ _ _ _ _ _ _ _ _ _ _ | exact ih1 _ _ _ _ _ _ _ _ _ _ _ _ _ | exact ih2 _ _ _ _ _ _ _ _ _ _ | exact ih3 _ | exact ih4 _ _ | exact ih5 _ _ _ _ _ _ _ _ _ _ _ | apply Fk.mono | apply Fab.mono | apply Fy.mono | apply Fx.mono | apply Fp.mono | apply Fak.mono | apply Fam.mono | apply Fae.mono | apply Fas.mono | apply Fr.mono | apply Fo.mono | apply Fn.mono | exact LeO.refl _ | exact LeO.none _ | refine LeO.ite ?_ ?_ | refine LeO.bind ?_ (fun _ => ?_))
set_option maxHeartbeats 64000000 in
theorem Fj.calls (k : Nat) (A0 : Option Addr) (c0 : Nat) (l0 : List Int) (r : Bool) (w : World) (hr0 : Kd.C (Kd.int .u8) w A0 l0.length l0) (hc0 : l0.length ≤ c0) (ht : r = true) (htab : Lib.TabIs Tryz.prog w "internal/strconv.uint64pow10" .u64 Lib.pow10Tab) (h : Fj.f k l0 = some r) :
  Calls Tryz.prog 3 #[.slice A0 l0.length c0] w fun e w' => e = .returned (.bool r) ∧ Below w.heap.size w w' := by
 have HTAB := Aside0.mk htab
 clear htab
 have hu26 := Tryz.underlying26
 have hu33 := Tryz.underlying33
 have HR0 := Aside0.mk hr0
 have HC0 := Aside0.mk hc0
 clear hr0 hc0
 have HB := Aside0.mk (Below.refl w.heap.size w)
 have HT := Aside0.mk ht
 clear ht
 have H := h
 clear h
 unfold Fj.f at H
 obtain ⟨t1, A2, H⟩ := bn H
 (try dsimp only at H)
 by_cases c3 : t1 = true
 ·subst c3
  rw [if_pos rfl] at H
  as_aux_lemma =>
   obtain rfl := Option.some.inj H
   go_enter Tryz.func3, Tryz.ntmps3
   go_wp2_with (first | (refine cE (some 31) Tryz.func4 #[.slice A0 l0.length c0] ?_; (with_reducible refine (Fbt.calls _ _ l0 true _ ?side1 ?side2 A2.out).mono ?_); (case side1 => exact Cs HR0.out); (case side2 => exact HC0.out); rintro e w' ⟨rfl, ⟨nd, rfl⟩⟩; refine ⟨_, rfl, ?_⟩))
   go_ret
   exact ⟨Ez, by exact eS HB.out⟩
 replace c3 := Bool.eq_false_iff.mpr c3
 subst c3
 rw [if_neg (show ¬ (false = true) by decide)] at H
 obtain ⟨⟨t2, t5, t6, t7, t8, t9, t10⟩, A4, H⟩ := bn H
 (try dsimp only at H)
 obtain ⟨⟨t12, t13⟩, A5, H⟩ := bn H
 (try dsimp only at H)
 obtain ⟨⟨t14, t15⟩, A6, H⟩ := bn H
 (try dsimp only at H)
 have HC7 := Aside0.mk H
 clear H
 go_enter Tryz.func3, Tryz.ntmps3
 go_upto_region 6 with (first | (refine cE (some 31) Tryz.func4 #[.slice A0 l0.length c0] ?_; (with_reducible refine (Fbt.calls _ _ l0 false _ ?side1 ?side2 A2.out).mono ?_); (case side1 => exact Cs HR0.out); (case side2 => exact HC0.out); rintro e w' ⟨rfl, ⟨nd, rfl⟩⟩; refine ⟨_, rfl, ?_⟩) | (refine cE (some 34) Tryz.func5 #[.slice A0 l0.length c0] ?_; (with_reducible refine (Fam.calls k _ _ l0 t2 t5 t6 t7 t8 t9 t10 _ ?side1 ?side2 A4.out).mono ?_); (case side1 => exact Cs HR0.out); (case side2 => exact HC0.out); rintro e w8 ⟨v3, rfl, ho0, hb⟩; refine ⟨_, rfl, ?_⟩; have R4 := lw HB ho0; replace HB := bT HB hb; clear hb; (try clear ho0)) | ((with_reducible refine gate_dst (N := 3) rfl ?_); (try (refine gate_guard (by rfl) ?_; dsimp only)); refine bE 3 26 #[.slice none 0 0, .int .i64 0, .int .i64 0, .int .i64 0, .int .i64 0] ?_; intro g11 hg w9 B11 hb; have E11 := gW HB hg; replace R4 := rT R4 hb; replace HB := bT HB hb; clear hb hg; obtain ⟨Ao10, co10, eo10⟩ := Kd.R_slice R4.out; subst eo10; have hz11 := Sq.c5 B11.out) | ((with_reducible refine gate_dst (N := 39) rfl ?_); (fail_if_success guard_hyp GEN1_ : True); refine gl g11 w9 (.cells #[.slice Ao10 t2.length co10, .int .i64 t5, .int .i64 t6, .int .i64 t7, .int .i64 t8] 26 (0, 0)) ?hh ?_; (case hh => apply Sq.put5; exact bS B11.out); intro wg1_ hK_ hG_; have GEN1_ := True.intro; replace R4 := cr R4 B11 hK_; replace HB := cB_ HB hK_ (by assumption); replace B11 := hG_; clear hK_; (try clear hz11); have hzg1 := Sq.c5 B11.out) | (refine cE (some 42) Tryz.func6 #[.agg #[.slice Ao10 t2.length co10, .int .i64 t5, .int .i64 t6, .int .i64 t7, .int .i64 t8], .int .i64 t9, .int .i64 t10] ?_; (with_reducible refine (Fx.calls k _ _ t2 t5 t6 t7 t8 t9 t10 t12 t13 _ ?side1 ?side2 A5.out).mono ?_); (case side1 => exact Cs (Kd.R_reads' R4.out).2.2); (case side2 => exact (Kd.R_reads' R4.out).2.1); rintro e w12 ⟨rfl, hb⟩; refine ⟨_, rfl, ?_⟩; (try clear hzg1); replace R4 := rT R4 hb; replace B11 := kT B11 hb; replace HB := bT HB hb; clear hb; have hz13 := Sq.c5 B11.out) | (refine cE (some 49) Tryz.func7 #[.agg #[.slice Ao10 t2.length co10, .int .i64 t5, .int .i64 t6, .int .i64 t7, .int .i64 t8], .int .i64 t9, .int .i64 t10] ?_; (with_reducible refine (Fo.calls k _ _ t2 t5 t6 t7 t8 t9 t10 t14 t15 _ ?side1 ?side2 A6.out).mono ?_); (case side1 => exact Cs (Kd.R_reads' R4.out).2.2); (case side2 => exact (Kd.R_reads' R4.out).2.1); rintro e w14 ⟨rfl, hb⟩; refine ⟨_, rfl, ?_⟩; replace R4 := rT R4 hb; replace B11 := kT B11 hb; replace HB := bT HB hb; clear hb))
 (try simp only [Act.put, List.setIfInBounds_toArray, List.set_cons_zero, List.set_cons_succ])
 go_cut [59] (fun v59 wc => ∃ (kq : Nat) (x59_6 : Bool), v59 = .bool x59_6 ∧ Aside0 (Fj.j0 kq l0 t9 t10 t12 t13 x59_6 t2 t5 t6 t7 t8 = some r) ∧ Aside0 (kq ≤ k) ∧ Aside0 (Kd.R k33 33 wc w.heap.size (fun _ => True) (.slice Ao10 t2.length co10) t2) ∧ Aside0 (wc.heap[g11]? = some (.cells #[(.slice Ao10 t2.length co10), .int .i64 t5, .int .i64 t6, .int .i64 t7, .int .i64 t8] 26 (0, 0))) ∧ Aside0 (Below w.heap.size w wc))
 case first =>
  have H := HC7.out
  clear HC7
  by_cases c15 : t12 = t14
  rotate_left
  ·rw [if_neg c15] at H
   have c15b0 := beq_eq_false_iff_ne.mpr c15
   have c15b1 := bne_iff_ne.mpr c15
   (first | rw [c15b0] | (simp only [i64_w, i32_w]; rw [c15b0]) | skip)
   as_aux_lemma =>
    have H' := Aside0.mk H
    clear H
    go_wp2
    go_meet
    case rel => exact ⟨_, (true), Ey, H', ⟨by first | omega | exact Nat.le_refl _⟩, ⟨rs R4⟩, ⟨ks B11⟩, ⟨es HB⟩⟩
  rw [if_pos c15] at H
  have c15b0 := beq_iff_eq.mpr c15
  have c15b1 := bne_eq_false_iff_eq.mpr c15
  clear c15
  (first | rw [c15b0] | (simp only [i64_w, i32_w]; rw [c15b0]) | skip)
  as_aux_lemma =>
   have H' := Aside0.mk H
   clear H
   go_wp2
   go_meet
   case rel => exact ⟨_, ((t13 != t15)), Ey, H', ⟨by first | omega | exact Nat.le_refl _⟩, ⟨rs R4⟩, ⟨ks B11⟩, ⟨es HB⟩⟩
 case rest =>
  clear HC7
  try clear c1
  try clear p2
  try clear c3
  try clear c4
  try clear c5
  try clear c6
  try clear c7
  try clear c15
  try clear c15b0
  try clear c15b1
  (try clear hz11)
  (try clear hz13)
  as_aux_lemma =>
   obtain ⟨kq, x59_6, rfl, HA, HJ6, R_112000, B11, HB⟩ := hcut
   cases kq with
   | zero => exact absurd HA.out (by simp [Fj.j0])
   | succ kj6 =>
    have H := HA.out
    clear HA
    simp only [Fj.j0] at H
    by_cases c16 : x59_6 = true
    ·subst c16
     rw [if_pos rfl] at H
     as_aux_lemma =>
      exact absurd ((Option.some.inj H).trans HT.out) (by decide)
    replace c16 := Bool.eq_false_iff.mpr c16
    subst c16
    rw [if_neg (show ¬ (false = true) by decide)] at H
    obtain ⟨⟨t16, t17⟩, A17, H⟩ := bn H
    (try dsimp only at H)
    obtain ⟨⟨t18, t19⟩, A18, H⟩ := bn H
    (try dsimp only at H)
    have HC19 := Aside0.mk H
    clear H
    have hz20 := Sq.c5 B11.out
    go_upto_region 10 with (first | (refine cE (some 64) Tryz.func8 #[.agg #[.slice Ao10 t2.length co10, .int .i64 t5, .int .i64 t6, .int .i64 t7, .int .i64 t8], .int .i64 t9, .int .i64 t10] ?_; (with_reducible refine (Fy.calls kj6 _ _ t2 t5 t6 t7 t8 t9 t10 t16 t17 _ ?side1 ?side2 A17.out).mono ?_); (case side1 => exact Cs (Kd.R_reads' R_112000.out).2.2); (case side2 => exact (Kd.R_reads' R_112000.out).2.1); rintro e w21 ⟨rfl, hb⟩; refine ⟨_, rfl, ?_⟩; replace R_112000 := rT R_112000 hb; replace B11 := kT B11 hb; replace HB := bT HB hb; clear hb; have hz22 := Sq.c5 B11.out) | (refine cE (some 71) Tryz.func9 #[.agg #[.slice Ao10 t2.length co10, .int .i64 t5, .int .i64 t6, .int .i64 t7, .int .i64 t8], .int .i64 t9, .int .i64 t10] ?_; (with_reducible refine (Fr.calls kj6 _ _ t2 t5 t6 t7 t8 t9 t10 t18 t19 _ ?side1 ?side2 A18.out).mono ?_); (case side1 => exact Cs (Kd.R_reads' R_112000.out).2.2); (case side2 => exact (Kd.R_reads' R_112000.out).2.1); rintro e w23 ⟨rfl, hb⟩; refine ⟨_, rfl, ?_⟩; replace R_112000 := rT R_112000 hb; replace B11 := kT B11 hb; replace HB := bT HB hb; clear hb))
    (try simp only [Act.put, List.setIfInBounds_toArray, List.set_cons_zero, List.set_cons_succ])
    go_cut [90] (fun v90 wc => ∃ (kq : Nat) (x90_18 : Bool), v90 = .bool x90_18 ∧ Aside0 (Fj.j1 kq l0 t9 t10 t12 t13 t16 t17 x90_18 t2 t5 t6 t7 t8 = some r) ∧ Aside0 (kq ≤ kj6) ∧ Aside0 (Kd.R k33 33 wc w.heap.size (fun _ => True) (.slice Ao10 t2.length co10) t2) ∧ Aside0 (wc.heap[g11]? = some (.cells #[(.slice Ao10 t2.length co10), .int .i64 t5, .int .i64 t6, .int .i64 t7, .int .i64 t8] 26 (0, 0))) ∧ Aside0 (Below w.heap.size w wc))
    case first =>
     have H := HC19.out
     clear HC19
     by_cases c24 : t16 = t18
     rotate_left
     ·rw [if_neg c24] at H
      have c24b0 := beq_eq_false_iff_ne.mpr c24
      have c24b1 := bne_iff_ne.mpr c24
      (first | rw [c24b0] | (simp only [i64_w, i32_w]; rw [c24b0]) | skip)
      as_aux_lemma =>
       have H' := Aside0.mk H
       clear H
       go_wp2
       go_meet
       case rel => exact ⟨_, (true), Ey, H', ⟨by have := HJ6.out; first | omega | exact Nat.le_refl _⟩, ⟨rs R_112000⟩, ⟨ks B11⟩, ⟨es HB⟩⟩
     rw [if_pos c24] at H
     have c24b0 := beq_iff_eq.mpr c24
     have c24b1 := bne_eq_false_iff_eq.mpr c24
     clear c24
     (first | rw [c24b0] | (simp only [i64_w, i32_w]; rw [c24b0]) | skip)
     by_cases c25 : (t17 != t19) = true
     ·rw [if_pos c25] at H
      have c25b0 : (t17 != t19) = true := c25
      (try (have c25b1 : decide (t17 = t19) = false := by simpa using c25))
      (try (have c25b2 : (t17 == t19) = false := by simpa using c25))
      (try (have c25b3 : ¬ (t17 = t19) := by simpa using c25))
      clear c25
      as_aux_lemma =>
       have H' := Aside0.mk H
       clear H
       go_wp2
       go_meet
       case rel => exact ⟨_, (true), Ey, H', ⟨by have := HJ6.out; first | omega | exact Nat.le_refl _⟩, ⟨rs R_112000⟩, ⟨ks B11⟩, ⟨es HB⟩⟩
     rw [if_neg c25] at H
     have c25b0 : (t17 != t19) = false := by simpa using c25
     (try (have c25b1 : decide (t17 = t19) = true := by simpa using c25))
     (try (have c25b2 : (t17 == t19) = true := by simpa using c25))
     clear c25
     by_cases c26 : t13 = true
     ·subst c26
      rw [if_pos rfl] at H
      as_aux_lemma =>
       have H' := Aside0.mk H
       clear H
       go_wp2
       go_meet
       case rel => exact ⟨_, ((t17 != (t12 == 0))), Ey, H', ⟨by have := HJ6.out; first | omega | exact Nat.le_refl _⟩, ⟨rs R_112000⟩, ⟨ks B11⟩, ⟨es HB⟩⟩
     replace c26 := Bool.eq_false_iff.mpr c26
     subst c26
     rw [if_neg (show ¬ (false = true) by decide)] at H
     as_aux_lemma =>
      have H' := Aside0.mk H
      clear H
      go_wp2
      go_meet
      case rel => exact ⟨_, ((t17 != false)), Ey, H', ⟨by have := HJ6.out; first | omega | exact Nat.le_refl _⟩, ⟨rs R_112000⟩, ⟨ks B11⟩, ⟨es HB⟩⟩
    case rest =>
     clear HC19
     try clear c1
     try clear c2
     try clear p2
     try clear c3
     try clear c4
     try clear c5
     try clear c6
     try clear c7
     try clear c8
     try clear c9
     try clear c15
     try clear c15b0
     try clear c15b1
     try clear c16
     try clear c24
     try clear c24b0
     try clear c24b1
     try clear c25
     try clear c25b0
     try clear c25b1
     try clear c25b2
     try clear c26
     (try clear hz11)
     (try clear hz13)
     (try clear hz20)
     (try clear hz22)
     try clear p2
     as_aux_lemma =>
      obtain ⟨kq, x90_18, rfl, HA, HJ18, R_112000, B11, HB⟩ := hcut
      cases kq with
      | zero => exact absurd HA.out (by simp [Fj.j1])
      | succ kj18 =>
       have H := HA.out
       clear HA
       simp only [Fj.j1] at H
       by_cases c27 : x90_18 = true
       ·subst c27
        rw [if_pos rfl] at H
        as_aux_lemma =>
         exact absurd ((Option.some.inj H).trans HT.out) (by decide)
       replace c27 := Bool.eq_false_iff.mpr c27
       subst c27
       rw [if_neg (show ¬ (false = true) by decide)] at H
       have HC28 := Aside0.mk H
       clear H
       go_upto_if 91 with (fail)
       go_cut [] (fun wc => ∃ (kq : Nat), Aside0 (Fj.j2 kq l0 t9 t10 t16 t17 t2 t5 t6 t7 t8 = some r) ∧ Aside0 (kq ≤ kj18) ∧ Aside0 (Kd.R k33 33 wc w.heap.size (fun _ => True) (.slice Ao10 t2.length co10) t2) ∧ Aside0 (wc.heap[g11]? = some (.cells #[(.slice Ao10 t2.length co10), .int .i64 t5, .int .i64 t6, .int .i64 t7, .int .i64 t8] 26 (0, 0))) ∧ Aside0 (Below w.heap.size w wc))
       case first =>
        have H := HC28.out
        clear HC28
        by_cases c29 : t13 = true
        rotate_left
        ·replace c29 := Bool.eq_false_iff.mpr c29
         subst c29
         rw [if_neg (show ¬ (false = true) by decide)] at H
         as_aux_lemma =>
          have H' := Aside0.mk H
          clear H
          go_wp2
          go_meet
          case rel => exact ⟨_, H', ⟨by have := HJ6.out; have := HJ18.out; first | omega | exact Nat.le_refl _⟩, ⟨rs R_112000⟩, ⟨ks B11⟩, ⟨es HB⟩⟩
        subst c29
        rw [if_pos rfl] at H
        obtain ⟨⟨t20, t21⟩, A30, H⟩ := bn H
        (try dsimp only at H)
        by_cases c31 : t21 = true
        rotate_left
        ·replace c31 := Bool.eq_false_iff.mpr c31
         subst c31
         rw [if_neg (show ¬ (false = true) by decide)] at H
         as_aux_lemma =>
          exact absurd ((Option.some.inj H).trans HT.out) (by decide)
        subst c31
        rw [if_pos rfl] at H
        by_cases c32 : t20 < t10
        ·rw [if_pos c32] at H
         have c32b0 := decide_eq_true c32
         clear c32
         (first | rw [c32b0] | (simp only [i64_w, i32_w]; rw [c32b0]) | skip)
         as_aux_lemma =>
          exact absurd ((Option.some.inj H).trans HT.out) (by decide)
        rw [if_neg c32] at H
        have c32b0 := decide_eq_false c32
        clear c32
        (first | rw [c32b0] | (simp only [i64_w, i32_w]; rw [c32b0]) | skip)
        by_cases c33 : t12 < 0
        ·rw [if_pos c33] at H
         have c33b0 := decide_eq_true c33
         clear c33
         as_aux_lemma =>
          exact absurd ((Option.some.inj H).trans HT.out) (by decide)
        rw [if_neg c33] at H
        have c33b0 := decide_eq_false c33
        clear c33
        by_cases c34 : t12 ≥ (t2.length : Int)
        ·rw [if_pos c34] at H
         have c34b0 := decide_eq_true c34
         clear c34
         as_aux_lemma =>
          exact absurd ((Option.some.inj H).trans HT.out) (by decide)
        rw [if_neg c34] at H
        have c34b0 := decide_eq_false c34
        clear c34
        as_aux_lemma =>
         have H' := Aside0.mk H
         clear H
         have hz35 := Sq.c5 B11.out
         go_wp2_with (first | (refine cE (some 95) Tryz.func10 #[.agg #[.slice Ao10 t2.length co10, .int .i64 t5, .int .i64 t6, .int .i64 t7, .int .i64 t8], .int .i64 t9] ?_; (with_reducible refine (Fab.calls kj18 _ _ t2 t5 t6 t7 t8 t9 t20 true _ ?side1 ?side2 A30.out).mono ?_); (case side1 => exact Cs (Kd.R_reads' R_112000.out).2.2); (case side2 => exact (Kd.R_reads' R_112000.out).2.1); rintro e w36 ⟨rfl, hb⟩; refine ⟨_, rfl, ?_⟩; replace R_112000 := rT R_112000 hb; replace B11 := kT B11 hb; replace HB := bT HB hb; clear hb; have hz37 := Sq.c5 B11.out))
         go_meet
         case rel => exact ⟨_, H', ⟨by have := HJ6.out; have := HJ18.out; first | omega | exact Nat.le_refl _⟩, ⟨rs R_112000⟩, ⟨ks B11⟩, ⟨es HB⟩⟩
       case rest =>
        clear HC28
        try clear c1
        try clear c2
        try clear p2
        try clear c3
        try clear c4
        try clear c5
        try clear c6
        try clear c7
        try clear c8
        try clear c9
        try clear c10
        try clear c15
        try clear c15b0
        try clear c15b1
        try clear c16
        try clear c24
        try clear c24b0
        try clear c24b1
        try clear c25
        try clear c25b0
        try clear c25b1
        try clear c25b2
        try clear c26
        try clear c27
        try clear c29
        try clear c31
        try clear c32
        try clear c32b0
        try clear c33
        try clear c33b0
        try clear c34
        try clear c34b0
        (try clear hz11)
        (try clear hz13)
        (try clear hz20)
        (try clear hz22)
        (try clear hz35)
        (try clear hz37)
        try clear p2
        as_aux_lemma =>
         obtain ⟨kq, HA, HJ27, R_112000, B11, HB⟩ := hcut
         cases kq with
         | zero => exact absurd HA.out (by simp [Fj.j2])
         | succ kj27 =>
          have H := HA.out
          clear HA
          simp only [Fj.j2] at H
          have HC38 := Aside0.mk H
          clear H
          go_upto_if 116 with (fail)
          go_cut [] (fun wc => ∃ (kq : Nat), Aside0 (Fj.j4 kq l0 = some r) ∧ Aside0 (kq ≤ kj27) ∧ Aside0 (Kd.R k33 33 wc w.heap.size (fun _ => True) (.slice Ao10 t2.length co10) t2) ∧ Aside0 (wc.heap[g11]? = some (.cells #[(.slice Ao10 t2.length co10), .int .i64 t5, .int .i64 t6, .int .i64 t7, .int .i64 t8] 26 (0, 0))) ∧ Aside0 (Below w.heap.size w wc))
          case first =>
           have H := HC38.out
           clear HC38
           by_cases c39 : t17 = true
           rotate_left
           ·replace c39 := Bool.eq_false_iff.mpr c39
            subst c39
            rw [if_neg (show ¬ (false = true) by decide)] at H
            as_aux_lemma =>
             have H' := Aside0.mk H
             clear H
             go_wp2
             go_meet
             case rel => exact ⟨_, H', ⟨by have := HJ6.out; have := HJ18.out; have := HJ27.out; first | omega | exact Nat.le_refl _⟩, ⟨rs R_112000⟩, ⟨ks B11⟩, ⟨es HB⟩⟩
           subst c39
           rw [if_pos rfl] at H
           have H' := Aside0.mk H
           clear H
           go_wp2
           go_loopg [16, 17] kj27 (fun kq v16 v17 w' => ∃ (x16_4 : Bool) (x17_4 : Int), v16 = .bool x16_4 ∧ v17 = .int .i64 x17_4 ∧ Aside0 (Fj.l0 kq l0 t9 t10 t16 x16_4 x17_4 t2 t5 t6 t7 t8 = some r) ∧ Aside0 (kq ≤ kj27) ∧ Aside0 (Kd.R k33 33 w' w.heap.size (fun _ => True) (.slice Ao10 t2.length co10) t2) ∧ Aside0 (w'.heap[g11]? = some (.cells #[(.slice Ao10 t2.length co10), .int .i64 t5, .int .i64 t6, .int .i64 t7, .int .i64 t8] 26 (0, 0))) ∧ Aside0 (Below w.heap.size w w'))
           case atStart => exact ⟨(false), (0), Ey, Ey, H', ⟨Nat.le_refl _⟩, ⟨rs R_112000⟩, ⟨ks B11⟩, ⟨es HB⟩⟩
           case round =>
            clear H'
            try clear c1
            try clear c2
            try clear p2
            try clear c3
            try clear c4
            try clear c5
            try clear c6
            try clear c7
            try clear c8
            try clear c9
            try clear c10
            try clear c15
            try clear c15b0
            try clear c15b1
            try clear c16
            try clear c24
            try clear c24b0
            try clear c24b1
            try clear c25
            try clear c25b0
            try clear c25b1
            try clear c25b2
            try clear c26
            try clear c27
            try clear c29
            try clear c31
            try clear c32
            try clear c32b0
            try clear c33
            try clear c33b0
            try clear c34
            try clear c34b0
            try clear c39
            (try clear hz11)
            (try clear hz13)
            (try clear hz20)
            (try clear hz22)
            (try clear hz35)
            (try clear hz37)
            try clear p2
            obtain ⟨x16_4, x17_4, rfl, rfl, HA, HK4, R_112000, B11, HB⟩ := hrel
            cases gk with
            | zero => exact absurd HA.out (by simp [Fj.l0])
            | succ k4 =>
             have H := HA.out
             clear HA
             simp only [Fj.l0] at H
             by_cases c40 : x17_4 < (t2.length : Int)
             rotate_left
             ·rw [if_neg c40] at H
              have c40b0 := decide_eq_false c40
              clear c40
              (first | rw [c40b0] | (simp only [i64_w, i32_w]; rw [c40b0]) | skip)
              by_cases c56 : x16_4 = true
              rotate_left
              ·replace c56 := Bool.eq_false_iff.mpr c56
               subst c56
               rw [if_neg (show ¬ (false = true) by decide)] at H
               as_aux_lemma =>
                exact absurd ((Option.some.inj H).trans HT.out) (by decide)
              subst c56
              rw [if_pos rfl] at H
              as_aux_lemma =>
               have H' := Aside0.mk H
               clear H
               have hz57 := Sq.c5 B11.out
               go_wp2
               go_meet
               case rel => exact ⟨_, H', ⟨by have := HJ6.out; have := HJ18.out; have := HJ27.out; have := HK4.out; first | omega | exact Nat.le_refl _⟩, ⟨rs R_112000⟩, ⟨ks B11⟩, ⟨es HB⟩⟩
             rw [if_pos c40] at H
             have c40b0 := decide_eq_true c40
             clear c40
             (first | rw [c40b0] | (simp only [i64_w, i32_w]; rw [c40b0]) | skip)
             by_cases c41 : 0 ≤ x17_4
             rotate_left
             ·rw [if_neg c41] at H
              exact absurd H (by simp)
             rw [if_pos c41] at H
             have c41b0 := decide_eq_true c41
             clear c41
             by_cases c42 : ((rd_T33 t2 x17_4).f0) = t16
             rotate_left
             ·rw [if_neg c42] at H
              have c42b0 := beq_eq_false_iff_ne.mpr c42
              have c42b1 := bne_iff_ne.mpr c42
              as_aux_lemma =>
               have H' := Aside0.mk H
               clear H
               have hz52 := Sq.c5 B11.out
               have p22 : 0 ≤ (x17_4 : Int) := Dz
               have q22 : x17_4 < (t2.length : Int) := Dz
               obtain ⟨ad22, e22, hx22_0, hx22_1, hx22_2⟩ := at_T33 (Kd.R_reads' R_112000.out).2.2 x17_4 p22 q22
               cases e22
               replace p22 := eq_true p22
               replace q22 := eq_true q22
               go_wp2_with (first | ((with_reducible refine gate_dst (N := 18) rfl ?_); (try (refine gate_guard (by rfl) ?_; dsimp only)); refine bE 18 33 #[.int .i64 0, .int .i64 0, .int .i64 0] ?_; intro g23 hg w53 B23 hb; have E23 := gW HB hg; obtain ⟨N11_23, N23_11⟩ := nB B11 hg; replace R_112000 := rE R_112000 hg hb; replace B11 := kT B11 hb; replace HB := bT HB hb; clear hb hg; have hnb54 := nP N23_11; have hz55 := Sq.c3 B23.out))
               go_roundg k4
               case measure => have := HJ6.out; have := HJ18.out; have := HJ27.out; have := HK4.out; omega
               case rel => exact ⟨(x16_4), (wrap64 (x17_4 + 1)), Ey, Ey, H', ⟨by have := HJ6.out; have := HJ18.out; have := HJ27.out; have := HK4.out; omega⟩, ⟨by exact Ho.RS <| Kd.R_mono (Kd.R_far (p := ⟨g23, 2, none⟩) (Kd.R_far (p := ⟨g23, 1, none⟩) (Kd.R_far (p := ⟨g23, 0, none⟩) (Kd.R_mono R_112000.out (fun k_ hk => (⟨hk, hk.2⟩ : _ ∧ k_ ≠ g23))) (fun _ hk => hk.2) (.int .i64 ((rd_T33 t2 x17_4).f0))) (fun _ hk => hk.2) (.int .i64 ((rd_T33 t2 x17_4).f1))) (fun _ hk => hk.2) (.int .i64 ((rd_T33 t2 x17_4).f2))) (fun _ hk => trivial)⟩, ⟨Kz⟩, ⟨Bq⟩⟩
             rw [if_pos c42] at H
             have c42b0 := beq_iff_eq.mpr c42
             have c42b1 := bne_eq_false_iff_eq.mpr c42
             clear c42
             by_cases c43 : ((rd_T33 t2 x17_4).f1) = t9
             rotate_left
             ·rw [if_neg c43] at H
              have c43b0 := beq_eq_false_iff_ne.mpr c43
              have c43b1 := bne_iff_ne.mpr c43
              as_aux_lemma =>
               have H' := Aside0.mk H
               clear H
               have hz48 := Sq.c5 B11.out
               have p22 : 0 ≤ (x17_4 : Int) := Dz
               have q22 : x17_4 < (t2.length : Int) := Dz
               obtain ⟨ad22, e22, hx22_0, hx22_1, hx22_2⟩ := at_T33 (Kd.R_reads' R_112000.out).2.2 x17_4 p22 q22
               cases e22
               replace p22 := eq_true p22
               replace q22 := eq_true q22
               go_wp2_with (first | ((with_reducible refine gate_dst (N := 18) rfl ?_); (try (refine gate_guard (by rfl) ?_; dsimp only)); refine bE 18 33 #[.int .i64 0, .int .i64 0, .int .i64 0] ?_; intro g23 hg w49 B23 hb; have E23 := gW HB hg; obtain ⟨N11_23, N23_11⟩ := nB B11 hg; replace R_112000 := rE R_112000 hg hb; replace B11 := kT B11 hb; replace HB := bT HB hb; clear hb hg; have hnb50 := nP N23_11; have hz51 := Sq.c3 B23.out))
               go_roundg k4
               case measure => have := HJ6.out; have := HJ18.out; have := HJ27.out; have := HK4.out; omega
               case rel => exact ⟨(false), (wrap64 (x17_4 + 1)), Ey, Ey, H', ⟨by have := HJ6.out; have := HJ18.out; have := HJ27.out; have := HK4.out; omega⟩, ⟨by exact Ho.RS <| Kd.R_mono (Kd.R_far (p := ⟨g23, 2, none⟩) (Kd.R_far (p := ⟨g23, 1, none⟩) (Kd.R_far (p := ⟨g23, 0, none⟩) (Kd.R_mono R_112000.out (fun k_ hk => (⟨hk, hk.2⟩ : _ ∧ k_ ≠ g23))) (fun _ hk => hk.2) (.int .i64 ((rd_T33 t2 x17_4).f0))) (fun _ hk => hk.2) (.int .i64 ((rd_T33 t2 x17_4).f1))) (fun _ hk => hk.2) (.int .i64 ((rd_T33 t2 x17_4).f2))) (fun _ hk => trivial)⟩, ⟨Kz⟩, ⟨Bq⟩⟩
             rw [if_pos c43] at H
             have c43b0 := beq_iff_eq.mpr c43
             have c43b1 := bne_eq_false_iff_eq.mpr c43
             clear c43
             as_aux_lemma =>
              have H' := Aside0.mk H
              clear H
              have hz44 := Sq.c5 B11.out
              have p22 : 0 ≤ (x17_4 : Int) := Dz
              have q22 : x17_4 < (t2.length : Int) := Dz
              obtain ⟨ad22, e22, hx22_0, hx22_1, hx22_2⟩ := at_T33 (Kd.R_reads' R_112000.out).2.2 x17_4 p22 q22
              cases e22
              replace p22 := eq_true p22
              replace q22 := eq_true q22
              go_wp2_with (first | ((with_reducible refine gate_dst (N := 18) rfl ?_); (try (refine gate_guard (by rfl) ?_; dsimp only)); refine bE 18 33 #[.int .i64 0, .int .i64 0, .int .i64 0] ?_; intro g23 hg w45 B23 hb; have E23 := gW HB hg; obtain ⟨N11_23, N23_11⟩ := nB B11 hg; replace R_112000 := rE R_112000 hg hb; replace B11 := kT B11 hb; replace HB := bT HB hb; clear hb hg; have hnb46 := nP N23_11; have hz47 := Sq.c3 B23.out))
              go_roundg k4
              case measure => have := HJ6.out; have := HJ18.out; have := HJ27.out; have := HK4.out; omega
              case rel => exact ⟨(decide (((rd_T33 t2 x17_4).f2) ≥ t10)), (wrap64 (x17_4 + 1)), Ey, Ey, H', ⟨by have := HJ6.out; have := HJ18.out; have := HJ27.out; have := HK4.out; omega⟩, ⟨by exact Ho.RS <| Kd.R_mono (Kd.R_far (p := ⟨g23, 2, none⟩) (Kd.R_far (p := ⟨g23, 1, none⟩) (Kd.R_far (p := ⟨g23, 0, none⟩) (Kd.R_mono R_112000.out (fun k_ hk => (⟨hk, hk.2⟩ : _ ∧ k_ ≠ g23))) (fun _ hk => hk.2) (.int .i64 ((rd_T33 t2 x17_4).f0))) (fun _ hk => hk.2) (.int .i64 ((rd_T33 t2 x17_4).f1))) (fun _ hk => hk.2) (.int .i64 ((rd_T33 t2 x17_4).f2))) (fun _ hk => trivial)⟩, ⟨Kz⟩, ⟨Bq⟩⟩
          case rest =>
           clear HC38
           try clear c1
           try clear p1
           try clear q1
           try clear hx1
           try clear c2
           try clear p2
           try clear c3
           try clear c4
           try clear c5
           try clear c6
           try clear p6
           try clear c7
           try clear c8
           try clear c9
           try clear c10
           try clear p12
           try clear q12
           try clear hx12
           try clear c15
           try clear c15b0
           try clear c15b1
           try clear c16
           try clear c24
           try clear c24b0
           try clear c24b1
           try clear c25
           try clear c25b0
           try clear c25b1
           try clear c25b2
           try clear c26
           try clear c27
           try clear c29
           try clear c31
           try clear c32
           try clear c32b0
           try clear c33
           try clear c33b0
           try clear c34
           try clear c34b0
           try clear c39
           try clear c40
           try clear c40b0
           try clear c41
           try clear c41b0
           try clear c42
           try clear c42b0
           try clear c42b1
           try clear c43
           try clear c43b0
           try clear c43b1
           try clear c46
           try clear c50
           try clear c54
           try clear c56
           (try clear hz11)
           (try clear hz13)
           (try clear hz20)
           (try clear hz22)
           (try clear hz35)
           (try clear hz37)
           (try clear hz44)
           (try clear hz47)
           (try clear hz48)
           (try clear hz51)
           (try clear hz52)
           (try clear hz55)
           (try clear hz57)
           try clear hx22_0
           try clear hx22_1
           try clear hx22_2
           try clear p22
           try clear p2
           try clear q22
           as_aux_lemma =>
            obtain ⟨kq, HA, HJ37, R_112000, B11, HB⟩ := hcut
            cases kq with
            | zero => exact absurd HA.out (by simp [Fj.j4])
            | succ kj37 =>
             have H := HA.out
             clear HA
             simp only [Fj.j4] at H
             obtain ⟨⟨t24, t27, t28, t29, t30, t31⟩, A58, H⟩ := bn H
             (try dsimp only at H)
             obtain ⟨⟨t33, t34⟩, A59, H⟩ := bn H
             (try dsimp only at H)
             obtain ⟨⟨t35, t36⟩, A60, H⟩ := bn H
             (try dsimp only at H)
             have HC61 := Aside0.mk H
             clear H
             go_upto_region 29 with (first | (refine cE (some 147) Tryz.func11 #[.slice A0 l0.length c0] ?_; (with_reducible refine (Fak.calls kj37 _ _ l0 t24 t27 t28 t29 t30 t31 _ ?side1 ?side2 A58.out).mono ?_); (case side1 => exact Cs (Kd.C_below HR0.out HB.out)); (case side2 => exact HC0.out); rintro e w62 ⟨v25, rfl, ho0, hb⟩; refine ⟨_, rfl, ?_⟩; have R26 := Ak (Kd.R_lower (Kd.R_new' ho0 (Kd.R_lt (by exact Ho.RS <| R_112000.out))) (below_size (by exact eS HB.out))); replace R_112000 := el R_112000 ho0 hb; replace B11 := kT B11 hb; replace HB := bT HB hb; clear hb; (try clear ho0)) | ((with_reducible refine gate_dst (N := 19) rfl ?_); (try (refine gate_guard (by rfl) ?_; dsimp only)); refine bE 19 26 #[.slice none 0 0, .int .i64 0, .int .i64 0, .int .i64 0, .int .i64 0] ?_; intro g32 hg w63 B32 hb; have E32 := gW HB hg; obtain ⟨N11_32, N32_11⟩ := nB B11 hg; replace R_112000 := rT R_112000 hb; replace R26 := rT R26 hb; replace B11 := kT B11 hb; replace HB := bT HB hb; clear hb hg; obtain ⟨Ao64, co64, eo64⟩ := Kd.R_slice R26.out; subst eo64; have hnb65 := nP N32_11; have hz66 := Sq.c5 B32.out) | ((with_reducible refine gate_dst (N := 151) rfl ?_); (fail_if_success guard_hyp GEN2_ : True); refine gl g32 w63 (.cells #[.slice Ao64 t24.length co64, .int .i64 t27, .int .i64 t28, .int .i64 t29, .int .i64 t30] 26 (0, 0)) ?hh ?_; (case hh => apply Sq.put5; exact bS B32.out); intro wg2_ hK_ hG_; have GEN2_ := True.intro; replace R_112000 := cr R_112000 B32 hK_; replace R26 := cr R26 B32 hK_; replace B11 := cK B11 hK_ (by assumption); replace HB := cB_ HB hK_ (by assumption); replace B32 := hG_; clear hK_; (try clear hz66); have hzg2 := Sq.c5 B32.out) | (refine cE (some 153) Tryz.func10 #[.agg #[.slice Ao64 t24.length co64, .int .i64 t27, .int .i64 t28, .int .i64 t29, .int .i64 t30], .int .i64 t31] ?_; (with_reducible refine (Fab.calls kj37 _ _ t24 t27 t28 t29 t30 t31 t33 t34 _ ?side1 ?side2 A59.out).mono ?_); (case side1 => exact Cs (Kd.R_reads' R26.out).2.2); (case side2 => exact (Kd.R_reads' R26.out).2.1); rintro e w67 ⟨rfl, hb⟩; refine ⟨_, rfl, ?_⟩; (try clear hzg2); replace R_112000 := rT R_112000 hb; replace R26 := rT R26 hb; replace B11 := kT B11 hb; replace B32 := kT B32 hb; replace HB := bT HB hb; clear hb; have hz68 := Sq.c5 B32.out) | (refine cE (some 159) Tryz.func12 #[.agg #[.slice Ao64 t24.length co64, .int .i64 t27, .int .i64 t28, .int .i64 t29, .int .i64 t30], .int .i64 t31] ?_; (with_reducible refine (Fas.calls kj37 _ _ t24 t27 t28 t29 t30 t31 t35 t36 _ ?side1 ?side2 A60.out).mono ?_); (case side1 => exact Cs (Kd.R_reads' R26.out).2.2); (case side2 => exact (Kd.R_reads' R26.out).2.1); rintro e w69 ⟨rfl, hb⟩; refine ⟨_, rfl, ?_⟩; replace R_112000 := rT R_112000 hb; replace R26 := rT R26 hb; replace B11 := kT B11 hb; replace B32 := kT B32 hb; replace HB := bT HB hb; clear hb))
             (try simp only [Act.put, List.setIfInBounds_toArray, List.set_cons_zero, List.set_cons_succ])
             go_cut [169] (fun v69 wc => ∃ (kq : Nat) (x169_60 : Bool), v69 = .bool x169_60 ∧ Aside0 (Fj.j5 kq l0 x169_60 = some r) ∧ Aside0 (kq ≤ kj37) ∧ Aside0 (Kd.R k33 33 wc w.heap.size (fun k_ => some k_ ≠ ((.slice Ao64 t24.length co64) : Value).ownBlock) (.slice Ao10 t2.length co10) t2) ∧ Aside0 (Kd.R k33 33 wc w.heap.size (fun k_ => some k_ ≠ ((.slice Ao10 t2.length co10) : Value).ownBlock) (.slice Ao64 t24.length co64) t24) ∧ Aside0 (wc.heap[g11]? = some (.cells #[(.slice Ao10 t2.length co10), .int .i64 t5, .int .i64 t6, .int .i64 t7, .int .i64 t8] 26 (0, 0))) ∧ Aside0 (wc.heap[g32]? = some (.cells #[(.slice Ao64 t24.length co64), .int .i64 t27, .int .i64 t28, .int .i64 t29, .int .i64 t30] 26 (0, 0))) ∧ Aside0 (Below w.heap.size w wc))
             case first =>
              have H := HC61.out
              clear HC61
              by_cases c70 : t33 = t35
              rotate_left
              ·rw [if_neg c70] at H
               have c70b0 := beq_eq_false_iff_ne.mpr c70
               have c70b1 := bne_iff_ne.mpr c70
               (first | rw [c70b0] | (simp only [i64_w, i32_w]; rw [c70b0]) | skip)
               as_aux_lemma =>
                have H' := Aside0.mk H
                clear H
                go_wp2
                go_meet
                case rel => exact ⟨_, (true), Ey, H', ⟨by have := HJ6.out; have := HJ18.out; have := HJ27.out; have := HJ37.out; first | omega | exact Nat.le_refl _⟩, ⟨by exact Ho.RS <| Kd.R_mono R_112000.out (fun _ hk => hk.2)⟩, ⟨by exact Ho.RS <| Kd.R_mono R26.out (fun _ hk => hk.2)⟩, ⟨ks B11⟩, ⟨ks B32⟩, ⟨es HB⟩⟩
              rw [if_pos c70] at H
              have c70b0 := beq_iff_eq.mpr c70
              have c70b1 := bne_eq_false_iff_eq.mpr c70
              clear c70
              (first | rw [c70b0] | (simp only [i64_w, i32_w]; rw [c70b0]) | skip)
              as_aux_lemma =>
               have H' := Aside0.mk H
               clear H
               go_wp2
               go_meet
               case rel => exact ⟨_, ((t34 != t36)), Ey, H', ⟨by have := HJ6.out; have := HJ18.out; have := HJ27.out; have := HJ37.out; first | omega | exact Nat.le_refl _⟩, ⟨by exact Ho.RS <| Kd.R_mono R_112000.out (fun _ hk => hk.2)⟩, ⟨by exact Ho.RS <| Kd.R_mono R26.out (fun _ hk => hk.2)⟩, ⟨ks B11⟩, ⟨ks B32⟩, ⟨es HB⟩⟩
             case rest =>
              clear HC61
              try clear c1
              try clear p1
              try clear q1
              try clear hx1
              try clear c2
              try clear p2
              try clear c3
              try clear c4
              try clear c5
              try clear c6
              try clear p6
              try clear c7
              try clear c8
              try clear c9
              try clear c10
              try clear c11
              try clear c12
              try clear p12
              try clear q12
              try clear hx12
              try clear c15
              try clear c15b0
              try clear c15b1
              try clear c16
              try clear c24
              try clear c24b0
              try clear c24b1
              try clear c25
              try clear c25b0
              try clear c25b1
              try clear c25b2
              try clear c26
              try clear c27
              try clear c29
              try clear c31
              try clear c32
              try clear c32b0
              try clear c33
              try clear c33b0
              try clear c34
              try clear c34b0
              try clear c39
              try clear c40
              try clear c40b0
              try clear c41
              try clear c41b0
              try clear c42
              try clear c42b0
              try clear c42b1
              try clear c43
              try clear c43b0
              try clear c43b1
              try clear c46
              try clear c50
              try clear c54
              try clear c56
              try clear p64
              try clear c65
              try clear c70
              try clear c70b0
              try clear c70b1
              (try clear hz11)
              (try clear hz13)
              (try clear hz20)
              (try clear hz22)
              (try clear hz35)
              (try clear hz37)
              (try clear hz44)
              (try clear hz47)
              (try clear hz48)
              (try clear hz51)
              (try clear hz52)
              (try clear hz55)
              (try clear hz57)
              (try clear hz66)
              (try clear hz68)
              try clear hx22_0
              try clear hx22_1
              try clear hx22_2
              try clear p1
              try clear p12
              try clear p22
              try clear p2
              try clear p6
              try clear q1
              try clear q12
              try clear q22
              as_aux_lemma =>
               obtain ⟨kq, x169_60, rfl, HA, HJ60, R_112000, R_133000, B11, B32, HB⟩ := hcut
               cases kq with
               | zero => exact absurd HA.out (by simp [Fj.j5])
               | succ kj60 =>
                have H := HA.out
                clear HA
                simp only [Fj.j5] at H
                by_cases c71 : x169_60 = true
                ·subst c71
                 rw [if_pos rfl] at H
                 as_aux_lemma =>
                  exact absurd ((Option.some.inj H).trans HT.out) (by decide)
                replace c71 := Bool.eq_false_iff.mpr c71
                subst c71
                rw [if_neg (show ¬ (false = true) by decide)] at H
                obtain ⟨⟨t37, t40, t41, t42, t43⟩, A72, H⟩ := bn H
                (try dsimp only at H)
                obtain ⟨⟨t45, t46⟩, A73, H⟩ := bn H
                (try dsimp only at H)
                obtain ⟨⟨t47, t48⟩, A74, H⟩ := bn H
                (try dsimp only at H)
                by_cases c75 : t45.toList = t47.toList
                rotate_left
                ·rw [if_neg c75] at H
                 have c75b0 := beq_eq_false_iff_ne.mpr c75
                 have c75b1 := bne_iff_ne.mpr c75
                 as_aux_lemma =>
                  exact absurd ((Option.some.inj H).trans HT.out) (by decide)
                rw [if_pos c75] at H
                have c75b0 := beq_iff_eq.mpr c75
                have c75b1 := bne_eq_false_iff_eq.mpr c75
                clear c75
                by_cases c76 : (t46 == t48) = true
                rotate_left
                ·rw [if_neg c76] at H
                 have c76b0 : (t46 == t48) = false := by simpa using c76
                 (try (have c76b1 : decide (t46 = t48) = false := by simpa using c76))
                 (try (have c76b2 : (t46 == t48) = false := by simpa using c76))
                 (try (have c76b3 : ¬ (t46 = t48) := by simpa using c76))
                 clear c76
                 as_aux_lemma =>
                  exact absurd ((Option.some.inj H).trans HT.out) (by decide)
                rw [if_pos c76] at H
                have c76b0 : (t46 == t48) = true := c76
                (try (have c76b1 : decide (t46 = t48) = true := by simpa using c76))
                (try (have c76b2 : (t46 == t48) = true := by simpa using c76))
                clear c76
                obtain ⟨t49, A77, H⟩ := bn H
                (try dsimp only at H)
                as_aux_lemma =>
                 obtain rfl := Option.some.inj H
                 go_wp2_with (first | (refine cE (some 171) Tryz.func13 #[.slice A0 l0.length c0] ?_; (with_reducible refine (Fae.calls kj60 _ _ l0 t37 t40 t41 t42 t43 _ ?side1 ?side2 A72.out).mono ?_); (case side1 => exact Cs (Kd.C_below HR0.out HB.out)); (case side2 => exact HC0.out); rintro e w78 ⟨v38, rfl, ho0, hb⟩; refine ⟨_, rfl, ?_⟩; have R39 := Ak (Kd.R_lower (Kd.R_new' (Kd.R_new' ho0 (Kd.R_lt (by exact Ho.RS <| R_112000.out))) (Kd.R_lt (by exact Ho.RS <| R_133000.out))) (below_size (by exact eS HB.out))); replace R_112000 := el R_112000 ho0 hb; replace R_133000 := el R_133000 ho0 hb; replace B11 := kT B11 hb; replace B32 := kT B32 hb; replace HB := bT HB hb; clear hb; (try clear ho0)) | ((with_reducible refine gate_dst (N := 25) rfl ?_); (try (refine gate_guard (by rfl) ?_; dsimp only)); refine bE 25 26 #[.slice none 0 0, .int .i64 0, .int .i64 0, .int .i64 0, .int .i64 0] ?_; intro g44 hg w79 B44 hb; have E44 := gW HB hg; obtain ⟨N11_44, N44_11⟩ := nB B11 hg; obtain ⟨N32_44, N44_32⟩ := nB B32 hg; replace R_112000 := rT R_112000 hb; replace R_133000 := rT R_133000 hb; replace R39 := rT R39 hb; replace B11 := kT B11 hb; replace B32 := kT B32 hb; replace HB := bT HB hb; clear hb hg; obtain ⟨Ao80, co80, eo80⟩ := Kd.R_slice R39.out; subst eo80; have hnb81 := nP N44_11; have hnb82 := nP N44_32; have hz83 := Sq.c5 B44.out) | ((with_reducible refine gate_dst (N := 173) rfl ?_); (fail_if_success guard_hyp GEN3_ : True); refine gl g44 w79 (.cells #[.slice Ao80 t37.length co80, .int .i64 t40, .int .i64 t41, .int .i64 t42, .int .i64 t43] 26 (0, 0)) ?hh ?_; (case hh => apply Sq.put5; exact bS B44.out); intro wg3_ hK_ hG_; have GEN3_ := True.intro; replace R_112000 := cr R_112000 B44 hK_; replace R_133000 := cr R_133000 B44 hK_; replace R39 := cr R39 B44 hK_; replace B11 := cK B11 hK_ (by assumption); replace B32 := cK B32 hK_ (by assumption); replace HB := cB_ HB hK_ (by assumption); replace B44 := hG_; clear hK_; (try clear hz83); have hzg3 := Sq.c5 B44.out) | (refine cE (some 174) Tryz.func14 #[.agg #[.slice Ao80 t37.length co80, .int .i64 t40, .int .i64 t41, .int .i64 t42, .int .i64 t43]] ?_; (with_reducible refine (Fp.calls kj60 _ _ t37 t40 t41 t42 t43 t45 t46 _ ?side1 ?side2 (Go.Joins.tab_stays Tryz.lays171.m17 HTAB.out (Bq) (Nat.le_refl _)) A73.out).mono ?_); (case side1 => exact Cs (Kd.R_reads' R39.out).2.2); (case side2 => exact (Kd.R_reads' R39.out).2.1); rintro e w84 ⟨rfl, hb⟩; refine ⟨_, rfl, ?_⟩; (try clear hzg3); replace R_112000 := rT R_112000 hb; replace R_133000 := rT R_133000 hb; replace R39 := rT R39 hb; replace B11 := kT B11 hb; replace B32 := kT B32 hb; replace B44 := kT B44 hb; replace HB := bT HB hb; clear hb; have hz85 := Sq.c5 B44.out) | (refine cE (some 179) Tryz.func15 #[.agg #[.slice Ao80 t37.length co80, .int .i64 t40, .int .i64 t41, .int .i64 t42, .int .i64 t43]] ?_; (with_reducible refine (Fn.calls kj60 _ _ t37 t40 t41 t42 t43 t47 t48 _ ?side1 ?side2 A74.out).mono ?_); (case side1 => exact Cs (Kd.R_reads' R39.out).2.2); (case side2 => exact (Kd.R_reads' R39.out).2.1); rintro e w86 ⟨rfl, hb⟩; refine ⟨_, rfl, ?_⟩; replace R_112000 := rT R_112000 hb; replace R_133000 := rT R_133000 hb; replace R39 := rT R39 hb; replace B11 := kT B11 hb; replace B32 := kT B32 hb; replace B44 := kT B44 hb; replace HB := bT HB hb; clear hb; have hz87 := Sq.c5 B44.out) | (go_at_call 16; (with_reducible refine (Fk.calls kj60 _ _ t37 t40 t41 t42 t43 t49 _ ?side1 ?side2 A77.out).mono ?_); (case side1 => exact Cs (Kd.R_reads' R39.out).2.2); (case side2 => exact (Kd.R_reads' R39.out).2.1); rintro e w88 ⟨rfl, hb⟩; replace R_112000 := rT R_112000 hb; replace R_133000 := rT R_133000 hb; replace R39 := rT R39 hb; replace B11 := kT B11 hb; replace B32 := kT B32 hb; replace B44 := kT B44 hb; replace HB := bT HB hb; clear hb))
                 go_ret
                 exact ⟨Ez, by exact eS HB.out⟩
/-- THE ONE PURE STATEMENT of Fj: yours. -/
def Fj.Pure : Prop := ∀ (l0 : List Int), (l0.length ≤ 9223372036854775807 ∧ ∀ y_ ∈ l0, (Lit.int .u8 y_).wf = true) → ∃ k, Fj.f k l0 = some true
end
end Go.Proofs.YtiomfignokichaaGreatDoor.X

namespace Go.Proofs.YtiomfignokichaaGreatDoor.Pure
open Go Go.RowKit Go.Proofs Go.Proofs.YtiomfignokichaaGreatDoorW.PrintWords Go.Proofs.YtiomfignokichaaGreatDoorW.PrintLast
set_option linter.unusedVariables false
set_option linter.unusedSimpArgs false
theorem w64 {x : Int} (h1 : -9223372036854775808 ≤ x) (h2 : x ≤ 9223372036854775807) : wrap64 x = x := by unfold wrap64; omega
theorem drop_step {α : Type} {l : List α} {i : Nat} (h : i < l.length) (d : α) : l.drop i = l.getD i d :: l.drop (i + 1) := by
  rw [List.drop_eq_getElem_cons h]; congr 1; simp [List.getD_eq_getElem?_getD, List.getElem?_eq_getElem h]
theorem wstep {i : Nat} {n : Nat} (h : i < n) (hn : n ≤ 9223372036854775807) : wrap64 ((i : Int) + 1) = ((i + 1 : Nat) : Int) := by unfold wrap64; omega
theorem nat_of {i : Int} (h : 0 ≤ i) : ∃ n : Nat, i = n := ⟨i.toNat, by omega⟩
theorem succ_of {k d : Nat} (h : d < k) : ∃ m, k = m + 1 ∧ d ≤ m := ⟨k - 1, by omega, by omega⟩
/-- an element put into a list (whose reverse is given), from the right -/
def insB {α : Type} (lt : α → α → Bool) : List α → α → List α
  | [], x => [x]
  | y :: rp, x => if lt x y = true then insB lt rp x ++ [y] else (y :: rp).reverse ++ [x]
def isortB {α : Type} (lt : α → α → Bool) (P l : List α) : List α := l.foldl (fun P x => insB lt P.reverse x) P
theorem insB_perm {α : Type} (lt : α → α → Bool) : ∀ (rp : List α) (x : α), (insB lt rp x).Perm (x :: rp) := by
  intro rp
  induction rp with
  | nil => intro x; exact List.Perm.refl _
  | cons y rp ih =>
    intro x
    rw [insB]
    split
    · have h1 : (insB lt rp x ++ [y]).Perm ((x :: rp) ++ [y]) := (ih x).append_right _
      refine h1.trans ?_
      have h2 : ((x :: rp) ++ [y]).Perm ([y] ++ (x :: rp)) := List.perm_append_comm
      exact h2.trans (List.Perm.swap _ _ _)
    · have h1 : ((y :: rp).reverse ++ [x]).Perm ([x] ++ (y :: rp).reverse) := List.perm_append_comm
      refine h1.trans ?_
      exact List.Perm.cons _ (List.reverse_perm _)
theorem insB_len {α : Type} (lt : α → α → Bool) (rp : List α) (x : α) : (insB lt rp x).length = rp.length + 1 := by
  rw [(insB_perm lt rp x).length_eq, List.length_cons]
theorem isortB_perm {α : Type} (lt : α → α → Bool) : ∀ (l P : List α), (isortB lt P l).Perm (P ++ l) := by
  intro l
  induction l with
  | nil => intro P; rw [List.append_nil]; exact List.Perm.refl _
  | cons x l ih =>
    intro P
    unfold isortB at *
    rw [List.foldl_cons]
    refine (ih _).trans ?_
    have h1 : (insB lt P.reverse x ++ l).Perm ((x :: P.reverse) ++ l) := (insB_perm lt _ x).append_right _
    refine h1.trans ?_
    have h2 : ((x :: P.reverse) ++ l).Perm ((x :: P) ++ l) := (List.Perm.cons _ (List.reverse_perm _)).append_right _
    exact h2.trans List.perm_middle.symm
theorem insB_sorted {α : Type} (lt : α → α → Bool) (R : α → α → Prop) (tr : ∀ a b c, R a b → R b c → R a c) : ∀ (rp : List α) (x : α), rp.reverse.Pairwise R → (∀ y ∈ rp, lt x y = true → R x y) → (∀ y ∈ rp, lt x y = false → R y x) → (insB lt rp x).Pairwise R := by
  intro rp
  induction rp with
  | nil => intro x _ _ _; simp [insB]
  | cons y rp ih =>
    intro x hP h1 h2
    rw [List.reverse_cons, List.pairwise_append] at hP
    rw [insB]
    split
    · rename_i g
      rw [List.pairwise_append]
      refine ⟨ih x hP.1 (fun z hz => h1 z (List.mem_cons_of_mem _ hz)) (fun z hz => h2 z (List.mem_cons_of_mem _ hz)), List.pairwise_singleton _ _, fun a ha b hb => ?_⟩
      rw [List.mem_singleton] at hb
      subst hb
      rcases List.mem_cons.mp ((insB_perm lt rp x).mem_iff.mp ha) with e | e
      · subst e; exact h1 b List.mem_cons_self g
      · exact hP.2.2 a (List.mem_reverse.mpr e) b (List.mem_singleton.mpr rfl)
    · rename_i g
      have g : lt x y = false := by simpa using g
      have hy := h2 y List.mem_cons_self g
      rw [List.pairwise_append]
      refine ⟨by rw [List.reverse_cons, List.pairwise_append]; exact hP, List.pairwise_singleton _ _, fun a ha b hb => ?_⟩
      rw [List.mem_singleton] at hb
      subst hb
      rw [List.mem_reverse] at ha
      rcases List.mem_cons.mp ha with e | e
      · subst e; exact hy
      · exact tr _ _ _ (hP.2.2 a (List.mem_reverse.mpr e) y (List.mem_singleton.mpr rfl)) hy
/-- the inner loop of the library's insertion sort -/
theorem ins_l1 {α : Type} (z : α) (lt : α → α → Bool) (L0 : Nat → List α → Int → Option (List α)) (L1 : Nat → List α → Int → Int → Option (List α))
    (h1 : ∀ k (s : List α) (i : Int) (j : Nat), 0 < j → j < s.length → s.length ≤ 1048576 → L1 (k + 1) s i (j : Int) = if lt (s.getD j z) (s.getD (j - 1) z) = true then L1 k ((s.set j (s.getD (j - 1) z)).set (j - 1) (s.getD j z)) i ((j - 1 : Nat) : Int) else L0 k s (wrap64 (i + 1)))
    (h2 : ∀ k (s : List α) (i : Int), L1 (k + 1) s i 0 = L0 k s (wrap64 (i + 1))) :
    ∀ (rp : List α) (k : Nat) (x : α) (Q : List α) (i : Int), rp.length + 1 + Q.length ≤ 1048576 → rp.length < k → ∃ k', k ≤ k' + rp.length + 1 ∧ L1 k (rp.reverse ++ x :: Q) i (rp.length : Int) = L0 k' (insB lt rp x ++ Q) (wrap64 (i + 1)) := by
  intro rp
  induction rp with
  | nil =>
    intro k x Q i hb hk
    obtain ⟨k, rfl, _⟩ := succ_of hk
    refine ⟨k, by simp, ?_⟩
    have := h2 k (x :: Q) i
    simpa [insB] using this
  | cons y rp ih =>
    intro k x Q i hb hk
    obtain ⟨k, rfl, hk2⟩ := succ_of hk
    rw [List.length_cons] at *
    have hs : (y :: rp).reverse ++ x :: Q = rp.reverse ++ y :: x :: Q := by simp
    have hlen : (rp.reverse ++ y :: x :: Q).length = rp.length + 2 + Q.length := by simp; omega
    have e1 : (rp.reverse ++ y :: x :: Q).getD (rp.length + 1) z = x := by
      rw [List.getD_eq_getElem?_getD, List.getElem?_append_right (by rw [List.length_reverse]; omega), List.length_reverse, show rp.length + 1 - rp.length = 1 by omega]; rfl
    have e2 : (rp.reverse ++ y :: x :: Q).getD rp.length z = y := by
      rw [List.getD_eq_getElem?_getD, List.getElem?_append_right (by rw [List.length_reverse]; omega), List.length_reverse, Nat.sub_self]; rfl
    have e3 : ((rp.reverse ++ y :: x :: Q).set (rp.length + 1) y).set rp.length x = rp.reverse ++ x :: y :: Q := by
      rw [List.set_append_right _ _ (by rw [List.length_reverse]; omega), List.length_reverse, show rp.length + 1 - rp.length = 1 by omega, List.set_append_right _ _ (by rw [List.length_reverse]; omega), List.length_reverse, Nat.sub_self]; rfl
    rw [hs, h1 k _ i (rp.length + 1) (by omega) (by omega) (by omega), e1, Nat.add_sub_cancel, e2, e3]
    by_cases g : lt x y = true
    · rw [if_pos g]
      obtain ⟨k', hk', e⟩ := ih k x (y :: Q) i (by rw [List.length_cons]; omega) (by omega)
      refine ⟨k', by omega, ?_⟩
      rw [e, insB, if_pos g, List.append_assoc]; rfl
    · rw [if_neg g]
      refine ⟨k, by omega, ?_⟩
      rw [insB, if_neg g]; simp
theorem ins_l0 {α : Type} (z : α) (lt : α → α → Bool) (n0 : Nat) (hn0 : n0 ≤ 1048576) (L0 : Nat → List α → Int → Option (List α)) (L1 : Nat → List α → Int → Int → Option (List α))
    (h1 : ∀ k (s : List α) (i : Int) (j : Nat), 0 < j → j < s.length → s.length ≤ 1048576 → L1 (k + 1) s i (j : Int) = if lt (s.getD j z) (s.getD (j - 1) z) = true then L1 k ((s.set j (s.getD (j - 1) z)).set (j - 1) (s.getD j z)) i ((j - 1 : Nat) : Int) else L0 k s (wrap64 (i + 1)))
    (h2 : ∀ k (s : List α) (i : Int), L1 (k + 1) s i 0 = L0 k s (wrap64 (i + 1)))
    (h3 : ∀ k (s : List α) (i : Nat), i < n0 → L0 (k + 1) s (i : Int) = L1 k s (i : Int) (i : Int)) (h4 : ∀ k (s : List α) (i : Nat), n0 ≤ i → L0 (k + 1) s (i : Int) = some s) :
    ∀ (Q P : List α) (k : Nat), P.length + Q.length = n0 → (Q.length + 1) * (n0 + 3) < k → L0 k (P ++ Q) (P.length : Int) = some (isortB lt P Q) := by
  intro Q
  induction Q with
  | nil =>
    intro P k hn hk
    obtain ⟨k, rfl, _⟩ := succ_of (show 0 < k by omega)
    rw [h4 k _ _ (by simpa using Nat.le_of_eq hn.symm), List.append_nil]; rfl
  | cons x Q ih =>
    intro P k hn hk
    rw [List.length_cons, Nat.add_mul, Nat.one_mul] at hk
    rw [List.length_cons] at hn
    obtain ⟨k, rfl, _⟩ := succ_of (show 0 < k by omega)
    rw [h3 k _ _ (by omega)]
    obtain ⟨k', hk', e⟩ := ins_l1 z lt L0 L1 h1 h2 P.reverse k x Q (P.length : Int) (by rw [List.length_reverse]; omega) (by rw [List.length_reverse]; omega)
    rw [List.reverse_reverse, List.length_reverse] at e
    rw [List.length_reverse] at hk'
    have hl := insB_len lt P.reverse x
    rw [List.length_reverse] at hl
    rw [e, wstep (n := n0) (by omega) (by omega), ← hl, ih (insB lt P.reverse x) k' (by omega) (by omega)]
    rfl
/-- the library's insertion sort, from the second element on -/
theorem ins_eq {α : Type} (z : α) (lt : α → α → Bool) (l : List α) (hl : l.length ≤ 1048576) (L0 : Nat → List α → Int → Option (List α)) (L1 : Nat → List α → Int → Int → Option (List α))
    (h1 : ∀ k (s : List α) (i : Int) (j : Nat), 0 < j → j < s.length → s.length ≤ 1048576 → L1 (k + 1) s i (j : Int) = if lt (s.getD j z) (s.getD (j - 1) z) = true then L1 k ((s.set j (s.getD (j - 1) z)).set (j - 1) (s.getD j z)) i ((j - 1 : Nat) : Int) else L0 k s (wrap64 (i + 1)))
    (h2 : ∀ k (s : List α) (i : Int), L1 (k + 1) s i 0 = L0 k s (wrap64 (i + 1)))
    (h3 : ∀ k (s : List α) (i : Nat), i < l.length → L0 (k + 1) s (i : Int) = L1 k s (i : Int) (i : Int)) (h4 : ∀ k (s : List α) (i : Nat), l.length ≤ i → L0 (k + 1) s (i : Int) = some s) {k : Nat} (hk : (l.length + 1) * (l.length + 3) < k) :
    L0 k l 1 = some (isortB lt [] l) := by
  cases l with
  | nil =>
    obtain ⟨k, rfl, _⟩ := succ_of (show 0 < k by omega)
    exact h4 k [] 1 (by simp)
  | cons x l =>
    have hk2 : (l.length + 1) * ((x :: l).length + 3) < k := Nat.lt_of_le_of_lt (Nat.mul_le_mul_right _ (by rw [List.length_cons]; omega)) hk
    exact ins_l0 z lt (x :: l).length hl L0 L1 h1 h2 h3 h4 l [x] k (by simp only [List.length_cons, List.length_nil]; omega) hk2
/-- q at all numbers from i on, n of them -/
def allR (q : Nat → Bool) (i n : Nat) : Bool := (List.range' i n).all q
theorem allR_iff {q : Nat → Bool} {i n : Nat} : allR q i n = true ↔ ∀ j, i ≤ j → j < i + n → q j = true := by
  unfold allR
  rw [List.all_eq_true]
  exact ⟨fun h j h1 h2 => h j (List.mem_range'_1.mpr ⟨h1, h2⟩), fun h j hj => h j (List.mem_range'_1.mp hj).1 (List.mem_range'_1.mp hj).2⟩
theorem allR_succ (q : Nat → Bool) (i n : Nat) : allR q i (n + 1) = (q i && allR q (i + 1) n) := by
  unfold allR; rw [List.range'_succ, List.all_cons]
/-- A loop that asks of all numbers, from i on. -/
theorem idx_loop (L : Nat → Int → Option Bool) (q : Nat → Bool) (i0 n0 : Nat) (e : Bool) (hb : n0 ≤ 9223372036854775806)
    (hs : ∀ k (i : Nat), i0 ≤ i → i < n0 → L (k + 1) i = if q i = true then L k (wrap64 ((i : Int) + 1)) else some false) (he : ∀ k (i : Nat), n0 ≤ i → L (k + 1) i = some e) :
    ∀ n k (i : Nat), i0 ≤ i → i + n = n0 → n < k → L k i = some (allR q i n && e) := by
  intro n
  induction n with
  | zero =>
    intro k i h0 hi hk
    obtain ⟨k, rfl, _⟩ := succ_of hk
    rw [he k i (by omega)]; simp [allR]
  | succ n ih =>
    intro k i h0 hi hk
    obtain ⟨k, rfl, hk⟩ := succ_of hk
    rw [hs k i h0 (by omega), wstep (show i < n0 by omega) (by omega), allR_succ, ih k (i + 1) (by omega) (by omega) (by omega)]
    cases q i <;> simp
theorem all_getD {α : Type} {p : α → Bool} {l : List α} (d : α) : l.all p = true ↔ ∀ j, j < l.length → p (l.getD j d) = true := by
  rw [List.all_eq_true]
  constructor
  · intro h j hj
    rw [List.getD_eq_getElem?_getD, List.getElem?_eq_getElem hj]
    exact h _ (List.getElem_mem hj)
  · intro h x hx
    obtain ⟨j, hj, rfl⟩ := List.mem_iff_getElem.mp hx
    have := h j hj
    rwa [List.getD_eq_getElem?_getD, List.getElem?_eq_getElem hj] at this
/-- A loop that adds up. -/
theorem sum_loop {α β : Type} (L : Nat → Int → Int → Option β) (v : α → Int) (r : Int → Option β) (d : α) (B : Int) (l : List α) (hb : l.length ≤ 9223372036854775806) (hv : ∀ x ∈ l, 0 ≤ v x ∧ v x ≤ B)
    (hs : ∀ k (acc : Int) (i : Nat), i < l.length → 0 ≤ acc → acc ≤ B * i → L (k + 1) acc i = L k (acc + v (l.getD i d)) (wrap64 ((i : Int) + 1)))
    (he : ∀ k (acc : Int) (i : Nat), l.length ≤ i → L (k + 1) acc i = r acc) :
    ∀ n k (acc : Int) (i : Nat), i + n = l.length → n < k → 0 ≤ acc → acc ≤ B * i → L k acc i = r (acc + ((l.drop i).map v).sum) := by
  intro n
  induction n with
  | zero =>
    intro k acc i hi hk h0 h1
    obtain ⟨k, rfl, _⟩ := succ_of hk
    rw [he k acc i (by omega), List.drop_eq_nil_of_le (by omega)]; simp
  | succ n ih =>
    intro k acc i hi hk h0 h1
    obtain ⟨k, rfl, hk⟩ := succ_of hk
    have hlt : i < l.length := by omega
    have hm : l.getD i d ∈ l := by rw [List.getD_eq_getElem?_getD, List.getElem?_eq_getElem hlt]; exact List.getElem_mem hlt
    have := hv _ hm
    rw [hs k acc i hlt h0 h1, wstep hlt (by omega), drop_step hlt d, List.map_cons, List.sum_cons]
    have hB : B * ((i + 1 : Nat) : Int) = B * i + B := by push_cast; rw [Int.mul_add, Int.mul_one]
    rw [ih k _ (i + 1) (by omega) (by omega) (by omega) (by omega), Int.add_assoc]
/-- The same, where the end leans on all that was asked, and needs fuel of its own. -/
theorem idx_loop2 (L : Nat → Int → Option Bool) (q : Nat → Bool) (i0 n0 m0 : Nat) (e : Bool) (hb : n0 ≤ 9223372036854775806)
    (hs : ∀ k (i : Nat), i0 ≤ i → i < n0 → m0 ≤ k → L (k + 1) i = if q i = true then L k (wrap64 ((i : Int) + 1)) else some false) (he : (∀ j, i0 ≤ j → j < n0 → q j = true) → ∀ k, m0 ≤ k → L (k + 1) (n0 : Int) = some e) :
    ∀ n k (i : Nat), i0 ≤ i → i + n = n0 → n + m0 < k → (∀ j, i0 ≤ j → j < i → q j = true) → L k i = some (allR q i n && e) := by
  intro n
  induction n with
  | zero =>
    intro k i h0 hi hk hq
    obtain ⟨k, rfl, _⟩ := succ_of (show 0 < k by omega)
    obtain rfl : i = n0 := by omega
    rw [he hq k (by omega)]; simp [allR]
  | succ n ih =>
    intro k i h0 hi hk hq
    obtain ⟨k, rfl, hk'⟩ := succ_of (show 0 < k by omega)
    rw [hs k i h0 (by omega) (by omega), wstep (show i < n0 by omega) (by omega), allR_succ]
    cases hc : q i
    · simp
    · rw [if_pos rfl, ih k (i + 1) (by omega) (by omega) (by omega) (fun j h1 h2 => by
        by_cases hj : j = i
        · rw [hj]; exact hc
        · exact hq j h1 (by omega)), Bool.true_and]
end Go.Proofs.YtiomfignokichaaGreatDoor.Pure

namespace Go.Proofs.YtiomfignokichaaGreatDoor.Pure
open Go Go.RowKit Go.Proofs Go.Proofs.YtiomfignokichaaGreatDoor.X Go.Proofs.YtiomfignokichaaGreatDoorW.PrintWords Go.Proofs.YtiomfignokichaaGreatDoorW.PrintLast
set_option linter.unusedVariables false
set_option linter.unusedSimpArgs false
theorem in_eq (x a b : Int) : Fbn.f x a b = some (decide (a ≤ x ∧ x ≤ b)) := by
  unfold Fbn.f
  by_cases h1 : a ≤ x <;> simp [h1]
theorem clr_take_ {α : Type} (l : List α) (k : Nat) (z : α) (h : k ≤ l.length) : (Cl.clr l k z).take k = l.take k := by
  unfold Cl.clr
  rw [List.take_append_of_le_length (by rw [List.length_take]; omega), List.take_of_length_le (by rw [List.length_take]; omega)]
/-- A loop that keeps, in place, what q does not hold of. -/
theorem del_loop {α : Type} (z : α) (L : Nat → List α → Int → Int → Option (List α)) (q : α → Bool) (l : List α) (hs : l.length ≤ 1048576)
    (hstep : ∀ k (s : List α) (o j : Nat), j < l.length → s.length = l.length → o ≤ j → L (k + 1) s (o : Int) (j : Int) = if q (s.getD j z) = true then L k s (o : Int) (wrap64 ((j : Int) + 1)) else L k (s.set o (s.getD j z)) (wrap64 ((o : Int) + 1)) (wrap64 ((j : Int) + 1)))
    (hend : ∀ k (s : List α) (o : Nat), s.length = l.length → o ≤ l.length → L (k + 1) s (o : Int) (l.length : Int) = some ((Cl.clr s o z).take o)) :
    ∀ (m k o j : Nat) (s : List α), j + m = l.length → m < k → o ≤ j → s.length = l.length → s.take o = (l.take j).filter (fun x => !q x) → s.drop j = l.drop j → L k s (o : Int) (j : Int) = some (l.filter (fun x => !q x)) := by
  intro m
  induction m with
  | zero =>
    intro k o j s hj hk ho hl ht hd
    obtain ⟨k, rfl, _⟩ := succ_of hk
    obtain rfl : j = l.length := by omega
    rw [hend k s o hl ho, clr_take_ _ _ _ (by omega), ht, List.take_of_length_le (by omega)]
  | succ m ih =>
    intro k o j s hj hk ho hl ht hd
    obtain ⟨k, rfl, _⟩ := succ_of hk
    have hlt : j < l.length := by omega
    have hg : s.getD j z = l.getD j z := by
      have h := congrArg (fun (q : List α) => q[0]?) hd
      simp only [List.getElem?_drop, Nat.add_zero] at h
      rw [List.getD_eq_getElem?_getD, List.getD_eq_getElem?_getD, h]
    have hst : l.take (j + 1) = l.take j ++ [l.getD j z] := by
      rw [List.take_add_one, List.getD_eq_getElem?_getD, List.getElem?_eq_getElem hlt]; rfl
    have hd1 : s.drop (j + 1) = l.drop (j + 1) := by
      simpa [List.drop_drop, Nat.add_comm] using congrArg (List.drop 1) hd
    rw [hstep k s o j hlt hl ho, hg]
    by_cases g : q (l.getD j z) = true
    · rw [if_pos g, wstep hlt (by omega)]
      exact ih k o (j + 1) s (by omega) (by omega) (by omega) hl (by rw [hst, List.filter_append, ht]; simp only [List.filter_cons, g, List.filter_nil]; simp) hd1
    · have g2 : q (l.getD j z) = false := by simpa using g
      rw [if_neg g, wstep (n := l.length) (i := o) (by omega) (by omega), wstep hlt (by omega)]
      refine ih k (o + 1) (j + 1) (s.set o (l.getD j z)) (by omega) (by omega) (by omega) (by rw [List.length_set]; exact hl) ?_ ?_
      · rw [hst, List.filter_append, ← ht, List.take_add_one, List.take_set_of_le (by omega), List.getElem?_set_self (by omega)]
        simp only [List.filter_cons, g2, List.filter_nil]; simp
      · rw [List.drop_set_of_lt (by omega)]; exact hd1
theorem del_eq {α : Type} (z : α) (L : Nat → List α → Int → Int → Option (List α)) (p : α → Option Bool) (q : α → Bool) (l : List α) (hp : ∀ x ∈ l, p x = some (q x)) (hs : l.length ≤ 1048576)
    (hstep : ∀ k (s : List α) (o j : Nat), j < l.length → s.length = l.length → o ≤ j → L (k + 1) s (o : Int) (j : Int) = if q (s.getD j z) = true then L k s (o : Int) (wrap64 ((j : Int) + 1)) else L k (s.set o (s.getD j z)) (wrap64 ((o : Int) + 1)) (wrap64 ((j : Int) + 1)))
    (hend : ∀ k (s : List α) (o : Nat), s.length = l.length → o ≤ l.length → L (k + 1) s (o : Int) (l.length : Int) = some ((Cl.clr s o z).take o)) {k : Nat} (hk : l.length < k) :
    ((Ho.idxO p l 0).bind fun t => if t = (-1) then some l else L k l t (wrap64 (t + 1))) = some (l.filter (fun x => !q x)) := by
  rw [Ho.idxO_eq (p := p) (q := q) hp]
  simp only [Option.bind_some]
  cases h : l.findIdx? q with
  | none =>
    simp only [if_true]
    congr 1
    rw [eq_comm, List.filter_eq_self]
    intro x hx
    have := (List.findIdx?_eq_none_iff.mp h) x hx
    rw [this]; rfl
  | some j =>
    obtain ⟨hj, hq, hb⟩ := List.findIdx?_eq_some_iff_getElem.mp h
    simp only [Int.zero_add]
    rw [if_neg (by omega), wstep hj (by omega)]
    have hst : l.take (j + 1) = l.take j ++ [l[j]] := by rw [List.take_add_one, List.getElem?_eq_getElem hj]; rfl
    refine del_loop z L q l hs hstep hend (l.length - (j + 1)) k j (j + 1) l (by omega) (by omega) (by omega) rfl ?_ rfl
    rw [hst, List.filter_append, List.filter_cons, hq]
    simp only [Bool.not_true, Bool.false_eq_true, if_false, List.filter_nil, List.append_nil]
    rw [eq_comm, List.filter_eq_self]
    intro x hx
    obtain ⟨i, hi, rfl⟩ := List.mem_iff_getElem.mp hx
    rw [List.getElem_take]
    have := hb i (by rw [List.length_take] at hi; omega)
    simpa using this
theorem rdIB_nat (l : List S33) (i : Nat) : rd_T33 l (i : Int) = l.getD i z33 := by simp [rd_T33]
def numB (n : Int) : Bool := decide (1 ≤ n ∧ n ≤ 999)
theorem isNumber_eq (n : Int) : Fbi.f n = some (numB n) := by simp only [Fbi.f, in_eq, Option.bind_some, numB]
theorem l1In_eq (x a b : Int) : Fai.f x a b = some (decide (a ≤ x ∧ x ≤ b)) := by
  unfold Fai.f
  by_cases h1 : a ≤ x <;> simp [h1]
def tallyB (n : Int) : Bool := decide (0 ≤ n ∧ n ≤ 100000)
def bobB (a : Int) (x : S33) : Bool := decide (1 ≤ x.f0 ∧ x.f0 ≤ a - 1) && (decide (0 ≤ x.f1 ∧ x.f1 ≤ 5) && decide (1 ≤ x.f2 ∧ x.f2 ≤ 100000))
def ascB (l : List S33) (j : Nat) : Bool := decide ((l.getD (j - 1) z33).f0 < (l.getD j z33).f0)
def bobsB (l : List S33) (a : Int) : Bool := l.all (bobB a) && allR (ascB l) 1 (l.length - 1)
def metersM (l : List S33) : Int := (l.map fun x => x.f2).sum
def yarnB (l : List S33) (a b c d : Int) : Bool :=
  (numB a && (tallyB b && (tallyB c && tallyB d))) && (decide (l.length ≤ 8) && (bobsB l a && decide (b = metersM l + c + d)))
theorem sumS_all {k : Nat} {l : List S33} (hk : l.length < k) (hl : l.length ≤ 1000) (hb : ∀ x ∈ l, 0 ≤ x.f2 ∧ x.f2 ≤ 100000) (a b c d : Int) : Fac.f k l a b c d (-1) = some (metersM l) := by
  unfold Fac.f
  have := sum_loop (fun k acc i => Fac.l0 k (-1) acc i l a b c d) (fun x : S33 => x.f2) (fun a => some a) z33 100000 l (by omega) hb
    (fun k acc i h1 h2 h3 => by
      simp only [Fac.l0, rdIB_nat]
      have hm : l.getD i z33 ∈ l := by rw [List.getD_eq_getElem?_getD, List.getElem?_eq_getElem h1]; exact List.getElem_mem h1
      have hw := hb _ hm
      rw [if_pos (by omega), if_pos (by trivial), if_pos (by omega), w64 (by omega) (by omega)])
    (fun k acc i h1 => by simp only [Fac.l0]; rw [if_neg (by omega)])
    l.length k 0 0 (by omega) hk (by omega) (by omega)
  simpa [metersM] using this
theorem sumI_all {k : Nat} {l : List S33} (hk : l.length < k) (hl : l.length ≤ 1000) (hb : ∀ x ∈ l, 0 ≤ x.f2 ∧ x.f2 ≤ 100000) (a b c d : Int) : Fv.f k l a b c d = some (metersM l) := by
  unfold Fv.f
  have := sum_loop (fun k acc i => Fv.l0 k acc l (l.length : Int) i) (fun x : S33 => x.f2) (fun a => some a) z33 100000 l (by omega) hb
    (fun k acc i h1 h2 h3 => by
      simp only [Fv.l0, rdIB_nat]
      have hm : l.getD i z33 ∈ l := by rw [List.getD_eq_getElem?_getD, List.getElem?_eq_getElem h1]; exact List.getElem_mem h1
      have hw := hb _ hm
      rw [if_pos (by omega), if_pos (by omega), if_pos (by omega), w64 (by omega) (by omega)])
    (fun k acc i h1 => by simp only [Fv.l0]; rw [if_neg (by omega)])
    l.length k 0 0 (by omega) hk (by omega) (by omega)
  simpa [metersM] using this
theorem bob_m {l : List S33} {a : Int} (h : l.all (bobB a) = true) : ∀ x ∈ l, 0 ≤ x.f2 ∧ x.f2 ≤ 100000 := by
  intro x hx
  have := List.all_eq_true.mp h x hx
  simp only [bobB, Bool.and_eq_true, decide_eq_true_eq] at this
  omega
theorem meters_bd {l : List S33} (hb : ∀ x ∈ l, 0 ≤ x.f2 ∧ x.f2 ≤ 100000) : 0 ≤ metersM l ∧ metersM l ≤ 100000 * l.length := by
  unfold metersM
  induction l with
  | nil => simp
  | cons x l ih =>
    have h1 := hb x List.mem_cons_self
    have h2 := ih (fun y hy => hb y (List.mem_cons_of_mem _ hy))
    rw [List.map_cons, List.sum_cons, List.length_cons]
    push_cast
    omega
theorem bobs_eq (l : List S33) (a : Int) : allR (fun j => bobB a (l.getD j z33) && (decide (j = 0) || ascB l j)) 0 l.length = bobsB l a := by
  unfold bobsB
  rw [Bool.eq_iff_iff, Bool.and_eq_true, allR_iff, allR_iff, all_getD z33]
  constructor
  · intro h
    refine ⟨fun j hj => ?_, fun j h1 h2 => ?_⟩
    · have := h j (by omega) (by omega)
      rw [Bool.and_eq_true] at this; exact this.1
    · have := h j (by omega) (by omega)
      rw [Bool.and_eq_true, Bool.or_eq_true] at this
      rcases this.2 with h3 | h3
      · have := of_decide_eq_true h3; omega
      · exact h3
  · intro h j h1 h2
    rw [Bool.and_eq_true, Bool.or_eq_true]
    refine ⟨h.1 j (by omega), ?_⟩
    by_cases hj : j = 0
    · exact .inl (by simp [hj])
    · exact .inr (h.2 j (by omega) (by omega))
theorem yarnS_eq {k : Nat} {l : List S33} (hk : 20 < k) (hl : l.length ≤ 1073741824) {a b c d : Int} : Ff.f k l a b c d = some (yarnB l a b c d) := by
  obtain ⟨k, rfl, hk2⟩ := succ_of hk
  simp only [Ff.f, l1In_eq, Option.bind_some, yarnB, numB, tallyB, Ff.j0]
  cases ha : decide (1 ≤ a ∧ a ≤ 999)
  · simp
  cases hb : decide (0 ≤ b ∧ b ≤ 100000)
  · simp
  cases hc : decide (0 ≤ c ∧ c ≤ 100000)
  · simp
  cases hd : decide (0 ≤ d ∧ d ≤ 100000)
  · simp
  have ha := of_decide_eq_true ha; have hb := of_decide_eq_true hb; have hc := of_decide_eq_true hc; have hd := of_decide_eq_true hd
  by_cases h8 : (8 : Int) < l.length
  · simp [show ¬ l.length ≤ 8 by omega, h8]
  simp only [show decide ((l.length : Int) > 8) = false by simp; omega, show decide (l.length ≤ 8) = true by simp; omega, if_true, Bool.false_eq_true, if_false, Bool.true_and]
  have h := idx_loop2 (fun k i => Ff.l0 k i l a b c d) (fun j => bobB a (l.getD j z33) && (decide (j = 0) || ascB l j)) 0 l.length 9 (decide (b = metersM l + c + d)) (by omega)
    (fun k i _ h1 _ => by
      simp only [Ff.l0, rdIB_nat]
      rw [if_pos (by omega), if_pos (by omega), l1In_eq, w64 (x := a - 1) (by omega) (by omega)]
      simp only [Fah.f, Fal.f, l1In_eq, Option.bind_some]
      have hbob : bobB a (l.getD i z33) = (decide (1 ≤ (l.getD i z33).f0 ∧ (l.getD i z33).f0 ≤ a - 1) && (decide (0 ≤ (l.getD i z33).f1 ∧ (l.getD i z33).f1 ≤ 5) && decide (1 ≤ (l.getD i z33).f2 ∧ (l.getD i z33).f2 ≤ 100000))) := rfl
      obtain ⟨p1, e1⟩ : ∃ p1, decide (1 ≤ (l.getD i z33).f0 ∧ (l.getD i z33).f0 ≤ a - 1) = p1 := ⟨_, rfl⟩
      obtain ⟨p2, e2⟩ : ∃ p2, decide (0 ≤ (l.getD i z33).f1 ∧ (l.getD i z33).f1 ≤ 5) = p2 := ⟨_, rfl⟩
      obtain ⟨p3, e3⟩ : ∃ p3, decide (1 ≤ (l.getD i z33).f2 ∧ (l.getD i z33).f2 ≤ 100000) = p3 := ⟨_, rfl⟩
      rw [hbob, e1, e2, e3]
      clear hbob e1 e2 e3
      cases p1
      · simp
      cases p2
      · simp
      cases p3
      · simp
      by_cases hi : i = 0
      · subst hi; simp
      · simp only [if_true, Bool.true_and]
        rw [if_pos (by omega), w64 (x := (i : Int) - 1) (by omega) (by omega), if_pos (by omega), if_pos (by omega), show (i : Int) - 1 = ((i - 1 : Nat) : Int) by omega, rdIB_nat]
        by_cases hc : (l.getD (i - 1) z33).f0 < (l.getD i z33).f0
        · rw [if_neg (by omega)]; simp only [ascB, hc, decide_true, Bool.or_true, if_true]
        · rw [if_pos (by omega)]; simp only [ascB, hc, decide_false, Bool.or_false, hi, Bool.false_eq_true, if_false])
    (fun hq k hk => by
      have hall : l.all (bobB a) = true := by
        rw [all_getD z33]
        intro j hj
        have := hq j (by omega) hj
        rw [Bool.and_eq_true] at this; exact this.1
      have hm := bob_m hall
      have hs := meters_bd hm
      simp only [Ff.l0]
      rw [if_neg (by omega), sumS_all (by omega) (by omega) hm]
      simp only [Option.bind_some]
      rw [w64 (x := metersM l + c) (by omega) (by omega), w64 (by omega) (by omega)]
      congr 1)
    l.length k 0 (by omega) (by omega) (by omega) (fun j h1 h2 => by omega)
  refine h.trans (congrArg some ?_)
  rw [bobs_eq]
theorem yarnI_eq {k : Nat} {l : List S33} (hk : l.length + 1 < k) (hl : l.length ≤ 1073741824) {a b c d : Int} : Fk.f k l a b c d = some (yarnB l a b c d) := by
  obtain ⟨k, rfl, hk2⟩ := succ_of hk
  have hasc : Fg.f (k + 1) l = some (allR (ascB l) 1 (l.length - 1)) := by
    by_cases h0 : l.length = 0
    · simp only [Fg.f, Fg.l0]
      rw [if_neg (by omega), h0]; simp [allR]
    have h := idx_loop (fun k i => Fg.l0 k l i) (ascB l) 1 l.length true (by omega)
      (fun k i h0 h1 => by
        simp only [Fg.l0, Fat.f, Option.bind_some]
        rw [if_pos (by omega), w64 (x := (i : Int) - 1) (by omega) (by omega), if_pos (by omega), if_pos (by omega), show (i : Int) - 1 = ((i - 1 : Nat) : Int) by omega, rdIB_nat, rdIB_nat, if_pos (by omega)]
        by_cases hc : (l.getD (i - 1) z33).f0 < (l.getD i z33).f0
        · rw [if_neg (by omega)]; simp only [ascB, hc, decide_true, if_true]
        · rw [if_pos (by omega)]; simp only [ascB, hc, decide_false, Bool.false_eq_true, if_false])
      (fun k i h1 => by simp only [Fg.l0]; rw [if_neg (by omega)])
      (l.length - 1) (k + 1) 1 (by omega) (by omega) (by omega)
    unfold Fg.f
    rw [show ((1 : Nat) : Int) = 1 from rfl] at h
    rw [h]; simp
  simp only [Fk.f, hasc, isNumber_eq, Option.bind_some, yarnB, Fk.j0, Faz.f, in_eq]
  cases ha : numB a
  · simp
  have ha' : 1 ≤ a ∧ a ≤ 999 := of_decide_eq_true ha
  by_cases h8 : (8 : Int) < l.length
  · simp [show ¬ l.length ≤ 8 by omega, h8]
  rw [if_pos rfl, if_neg (by omega)]
  simp only [Fau.f]
  rw [Ho.allO_eq (q := bobB a) (fun x _ => by
    simp only [Fbg.f, in_eq, Faw.f, Fbb.f, Option.bind_some, bobB]
    rw [w64 (x := a - 1) (by omega) (by omega)]
    cases decide (1 ≤ x.f0 ∧ x.f0 ≤ a - 1) <;> cases decide (0 ≤ x.f1 ∧ x.f1 ≤ 5) <;> rfl)]
  simp only [Option.bind_some, show decide (l.length ≤ 8) = true by simp; omega, bobsB]
  cases hall : l.all (bobB a)
  · simp
  have hm := bob_m hall
  have hs := meters_bd hm
  cases allR (ascB l) 1 (l.length - 1)
  · simp
  simp only [if_true, Bool.not_true, Bool.false_eq_true, if_false, Bool.true_and]
  show (if tallyB b = true then _ else _) = _
  cases hb : tallyB b
  · simp
  show (if tallyB c = true then _ else _) = _
  cases hc : tallyB c
  · simp
  show (if tallyB d = true then _ else _) = _
  cases hd : tallyB d
  · simp
  have hb := of_decide_eq_true hb; have hc := of_decide_eq_true hc; have hd := of_decide_eq_true hd
  simp only [if_true, Bool.and_self, Bool.true_and]
  rw [sumI_all (by omega) (by omega) hm]
  simp only [Option.bind_some]
  rw [w64 (x := metersM l + c) (by omega) (by omega), w64 (by omega) (by omega)]
  congr 1
def colQ (c : Int) (x : S33) : Bool := !(x.f1 != c)
theorem ofColor_eq {k : Nat} {l : List S33} (hk : l.length < k) (hl : l.length ≤ 1048576) (a b c d col : Int) : Fz.f k l a b c d col = some (l.filter (colQ col)) := by
  have h82 : Fbo.f l = some l := by
    simp only [Fbo.f, Option.bind_some, List.length_nil, List.nil_append]
    rw [if_pos (by omega)]
  simp only [Fz.f, h82, Option.bind_some, Fd.f, Fap.f]
  rw [del_eq z33 (fun k s o j => Fd.l0 k s o j col) (fun (x_ : S33) => Fao.f x_.f0 x_.f1 x_.f2 col) (fun x => x.f1 != col) l (fun x _ => rfl) hl
    (fun k s o j h1 h2 h3 => by
      simp only [Fd.l0, rdIB_nat, Fao.f, Option.bind_some]
      rw [if_pos (by omega), if_pos (by omega), if_pos (show (0 : Int) ≤ (o : Int) by omega), if_pos (show (o : Int) < (s.length : Int) by omega), Int.toNat_natCast])
    (fun k s o h2 h3 => by
      simp only [Fd.l0]
      rw [if_neg (by omega), if_pos (by omega), if_pos (by omega), Int.toNat_natCast]) hk]
  rfl
theorem yarn_of {l : List S33} {a b c d : Int} (h : yarnB l a b c d = true) : l.length ≤ 8 ∧ (∀ x ∈ l, (1 ≤ x.f0 ∧ x.f0 ≤ 998) ∧ (0 ≤ x.f1 ∧ x.f1 ≤ 5) ∧ (1 ≤ x.f2 ∧ x.f2 ≤ 100000)) ∧ ∀ j, 1 ≤ j → j < l.length → (l.getD (j - 1) z33).f0 < (l.getD j z33).f0 := by
  simp only [yarnB, bobsB, Bool.and_eq_true, decide_eq_true_eq] at h
  obtain ⟨⟨ha, _⟩, h8, ⟨hall, hasc⟩, _⟩ := h
  have ha : 1 ≤ a ∧ a ≤ 999 := of_decide_eq_true ha
  refine ⟨h8, fun x hx => ?_, fun j h1 h2 => ?_⟩
  · have := List.all_eq_true.mp hall x hx
    simp only [bobB, Bool.and_eq_true, decide_eq_true_eq] at this
    omega
  · have := allR_iff.mp hasc j h1 (by omega)
    exact of_decide_eq_true this
def colB (c : Int) : Bool := decide (0 ≤ c ∧ c ≤ 5)
def metB (m : Int) : Bool := decide (1 ≤ m ∧ m ≤ 100000)
theorem meters_filter (c : Int) (l : List S33) : metersM (l.filter (colQ c)) = (l.map fun x => if x.f1 = c then x.f2 else 0).sum := by
  unfold metersM
  induction l with
  | nil => rfl
  | cons x l ih =>
    rw [List.filter_cons, List.map_cons, List.sum_cons, ← ih]
    unfold colQ
    by_cases g : x.f1 = c
    · rw [if_pos g]; simp [g]
    · rw [if_neg g]; simp [g]
theorem sumS_col {k : Nat} {l : List S33} (hk : l.length < k) (hl : l.length ≤ 1000) (hb : ∀ x ∈ l, 0 ≤ x.f2 ∧ x.f2 ≤ 100000) (a b c d col : Int) (hc : 0 ≤ col) : Fac.f k l a b c d col = some (metersM (l.filter (colQ col))) := by
  unfold Fac.f
  have := sum_loop (fun k acc i => Fac.l0 k col acc i l a b c d) (fun x : S33 => if x.f1 = col then x.f2 else 0) (fun a => some a) z33 100000 l (by omega) (fun x hx => by have := hb x hx; split <;> omega)
    (fun k acc i h1 h2 h3 => by
      simp only [Fac.l0, rdIB_nat]
      have hm : l.getD i z33 ∈ l := by rw [List.getD_eq_getElem?_getD, List.getElem?_eq_getElem h1]; exact List.getElem_mem h1
      have hw := hb _ hm
      rw [if_pos (by omega), if_neg (by omega), if_pos (by omega)]
      by_cases g : (l.getD i z33).f1 = col
      · rw [if_pos g, if_pos g, w64 (x := acc + _) (by omega) (by omega)]
      · rw [if_neg g, if_neg g, Int.add_zero])
    (fun k acc i h1 => by simp only [Fac.l0]; rw [if_neg (by omega)])
    l.length k 0 0 (by omega) hk (by omega) (by omega)
  rw [meters_filter]
  simpa using this
def metersOfM (l : List S33) (a b c d col : Int) : Int × Bool := if yarnB l a b c d && colB col then (metersM (l.filter (colQ col)), true) else (0, false)
theorem metersOf_eq {k : Nat} {l : List S33} (hk : l.length + 30 < k) (hl : l.length ≤ 1048576) (a b c d col : Int) : Fas.f k l a b c d col = some (metersOfM l a b c d col) ∧ Fab.f k l a b c d col = some (metersOfM l a b c d col) := by
  obtain ⟨k, rfl, hk1⟩ := succ_of hk
  obtain ⟨py, hy⟩ : ∃ py, yarnB l a b c d = py := ⟨_, rfl⟩
  obtain ⟨pc, hc⟩ : ∃ pc, decide (0 ≤ col ∧ col ≤ 5) = pc := ⟨_, rfl⟩
  simp only [hy, hc, Fas.f, Fab.f, Fab.j0, yarnS_eq (k := k + 1) (l := l) (by omega) (by omega), yarnI_eq (k := k + 1) (l := l) (by omega) (by omega), Fah.f, Faw.f, l1In_eq, in_eq, Option.bind_some, metersOfM, colB]
  cases py
  · simp
  cases pc
  · simp
  have hc := of_decide_eq_true hc
  obtain ⟨h8, hx, _⟩ := yarn_of hy
  have hb : ∀ x ∈ l, 0 ≤ x.f2 ∧ x.f2 ≤ 100000 := fun x hm => by have := hx x hm; omega
  have hfl : (l.filter (colQ col)).length ≤ l.length := List.length_filter_le _ _
  simp only [if_true, Bool.not_true, Bool.false_eq_true, if_false, Bool.and_self, sumS_col (k := k + 1) (l := l) (by omega) (by omega) hb a b c d col hc.1, ofColor_eq (k := k) (l := l) (by omega) hl a b c d col, sumI_all (k := k) (l := l.filter (colQ col)) (by omega) (by omega) (fun x hm => hb x (List.mem_filter.mp hm).1) 0 0 0 0, Option.bind_some]
  exact ⟨trivial, trivial⟩
def cmpI (a b : Int) : Int := if a < b then -1 else if a > b then 1 else 0
theorem cmpI_eq (a b : Int) : Fbf.f a b = some (cmpI a b) := by
  simp only [Fbf.f, Fbj.f, bne_self_eq_false, Option.bind_some, Bool.false_eq_true, if_false, cmpI]
  (repeat' split) <;> rfl
end Go.Proofs.YtiomfignokichaaGreatDoor.Pure

namespace Go.Proofs.YtiomfignokichaaGreatDoor.Pure
open Go Go.RowKit Go.Proofs Go.Proofs.YtiomfignokichaaGreatDoorW.PrintWords Go.Proofs.YtiomfignokichaaGreatDoorW.PrintLast
set_option linter.unusedVariables false
set_option linter.unusedSimpArgs false
theorem nest_inv {σ β : Type} (Lin : Nat → σ → Int → Option β) (Lout : Nat → σ → Option β) (step : σ → Nat → σ) (I : Nat → σ → Prop) (n0 m0 : Nat)
    (hs : ∀ (i : Nat) (s : σ), i < n0 → I i s → I (i + 1) (step s i) ∧ ∃ c, ∀ k, m0 ≤ k → Lin (k + c) s (i : Int) = Lin k (step s i) ((i + 1 : Nat) : Int)) (he : ∀ k s, I n0 s → Lin (k + 1) s (n0 : Int) = Lout k s) :
    ∀ (n i : Nat) (s : σ), i + n = n0 → I i s → I n0 ((List.range' i n).foldl step s) ∧ ∃ c, ∀ k, m0 ≤ k → Lin (k + c) s (i : Int) = Lout k ((List.range' i n).foldl step s) := by
  intro n
  induction n with
  | zero =>
    intro i s hi hI
    obtain rfl : i = n0 := by omega
    exact ⟨hI, 1, fun k _ => by rw [he k s hI]; rfl⟩
  | succ n ih =>
    intro i s hi hI
    obtain ⟨hI1, c1, h1⟩ := hs i s (by omega) hI
    obtain ⟨hI2, c2, h2⟩ := ih (i + 1) (step s i) (by omega) hI1
    refine ⟨hI2, c2 + c1, fun k hk => ?_⟩
    rw [show k + (c2 + c1) = (k + c2) + c1 by omega, h1 (k + c2) (by omega), h2 k hk, List.range'_succ, List.foldl_cons]
end Go.Proofs.YtiomfignokichaaGreatDoor.Pure

namespace Go.Proofs.YtiomfignokichaaGreatDoor.Pure
open Go Go.RowKit Go.Proofs Go.Proofs.YtiomfignokichaaGreatDoor.X Go.Proofs.YtiomfignokichaaGreatDoorW.PrintWords Go.Proofs.YtiomfignokichaaGreatDoorW.PrintLast
set_option linter.unusedVariables false
set_option linter.unusedSimpArgs false
def longQ (m : Int) (x : S33) : Bool := !decide (x.f2 < m)
def minB (b x : S33) : S33 := if x.f2 < b.f2 then x else b
def bestO (b : Option S33) (x : S33) : Option S33 := match b with | none => some x | some y => some (minB y x)
theorem bestO_some (l : List S33) : ∀ y, l.foldl bestO (some y) = some (l.foldl minB y) := by
  induction l with
  | nil => intro y; rfl
  | cons x l ih => intro y; rw [List.foldl_cons, List.foldl_cons]; exact ih _
def bestP (c m : Int) (b : Option S33) (x : S33) : Option S33 := if colQ c x && longQ m x then bestO b x else b
theorem bestP_filter (c m : Int) (l : List S33) : ∀ b, l.foldl (bestP c m) b = ((l.filter (colQ c)).filter (longQ m)).foldl bestO b := by
  induction l with
  | nil => intro b; rfl
  | cons x l ih =>
    intro b
    rw [List.foldl_cons, ih, List.filter_cons]
    unfold bestP
    cases g1 : colQ c x
    · simp
    · simp only [Bool.true_and, if_true, List.filter_cons]
      cases g2 : longQ m x
      · simp
      · simp
def shortM (l : List S33) (a b c d col m : Int) : Int × Bool := if yarnB l a b c d && (colB col && metB m) then (match l.foldl (bestP col m) none with | none => (0, false) | some x => (x.f0, true)) else (0, false)
theorem delL_eq {k : Nat} {l : List S33} (hk : l.length < k) (hl : l.length ≤ 1048576) (m : Int) : Fe.f k l m = some (l.filter (longQ m)) := by
  simp only [Fe.f, Fav.f]
  rw [del_eq z33 (fun k s o j => Fe.l0 k s o j m) (fun (x_ : S33) => Fay.f x_.f0 x_.f1 x_.f2 m) (fun x => decide (x.f2 < m)) l (fun x _ => rfl) hl
    (fun k s o j h1 h2 h3 => by
      simp only [Fe.l0, rdIB_nat, Fay.f, Option.bind_some]
      rw [if_pos (by omega), if_pos (by omega), if_pos (show (0 : Int) ≤ (o : Int) by omega), if_pos (show (o : Int) < (s.length : Int) by omega), Int.toNat_natCast])
    (fun k s o h2 h3 => by
      simp only [Fe.l0]
      rw [if_neg (by omega), if_pos (by omega), if_pos (by omega), Int.toNat_natCast]) hk]
  rfl
theorem minF_loop {l : List S33} (hl : l.length ≤ 1048576) : ∀ (n k i : Nat) (x : S33), i + n = l.length → n < k → Fc.l0 k l (i : Int) x.f0 x.f1 x.f2 = some (((l.drop i).foldl minB x).f0, ((l.drop i).foldl minB x).f1, ((l.drop i).foldl minB x).f2) := by
  intro n
  induction n with
  | zero =>
    intro k i x hi hk
    obtain ⟨k, rfl, _⟩ := succ_of hk
    rw [Fc.l0, if_neg (by omega), List.drop_eq_nil_of_le (by omega)]; rfl
  | succ n ih =>
    intro k i x hi hk
    obtain ⟨k, rfl, _⟩ := succ_of hk
    have hlt : i < l.length := by omega
    rw [Fc.l0, if_pos (by omega), if_pos (by omega)]
    simp only [rdIB_nat, Fbh.f, cmpI_eq, Option.bind_some]
    rw [wstep hlt (by omega), drop_step hlt z33, List.foldl_cons]
    generalize l.getD i z33 = y
    by_cases g : y.f2 < x.f2
    · rw [if_pos (by unfold cmpI; rw [if_pos g]; omega), ih k (i + 1) y (by omega) (by omega)]
      unfold minB; rw [if_pos g]
    · rw [if_neg (by unfold cmpI; rw [if_neg g]; split <;> omega), ih k (i + 1) x (by omega) (by omega)]
      have e : minB x y = x := by unfold minB; rw [if_neg g]
      rw [e]
theorem minF_eq {k : Nat} {l : List S33} (hl : l.length ≤ 1048576) (h0 : 0 < l.length) (hk : l.length < k) : ∃ x, l.foldl bestO none = some x ∧ Fc.f k l = some (x.f0, x.f1, x.f2) := by
  obtain ⟨y, t, rfl⟩ := List.exists_cons_of_length_pos h0
  refine ⟨t.foldl minB y, by rw [List.foldl_cons]; exact bestO_some t y, ?_⟩
  unfold Fc.f
  rw [List.length_cons] at *
  rw [if_neg (by omega), if_pos (by omega)]
  have h := minF_loop (l := y :: t) (by rw [List.length_cons]; omega) t.length k 1 y (by rw [List.length_cons]; omega) (by omega)
  rw [show (0 : Int) = ((0 : Nat) : Int) from rfl, rdIB_nat]
  rw [show ((1 : Nat) : Int) = 1 from rfl] at h
  exact h
theorem shortI_eq {k : Nat} {l : List S33} (hk : l.length + 30 < k) (hl : l.length ≤ 1048576) (a b c d col m : Int) : Fy.f k l a b c d col m = some (shortM l a b c d col m) := by
  obtain ⟨k, rfl, hk1⟩ := succ_of hk
  obtain ⟨py, hy⟩ : ∃ py, yarnB l a b c d = py := ⟨_, rfl⟩
  obtain ⟨pc, hc⟩ : ∃ pc, decide (0 ≤ col ∧ col ≤ 5) = pc := ⟨_, rfl⟩
  obtain ⟨pm, hm⟩ : ∃ pm, decide (1 ≤ m ∧ m ≤ 100000) = pm := ⟨_, rfl⟩
  simp only [hy, hc, hm, Fy.f, Fy.j0, yarnI_eq (k := k + 1) (l := l) (by omega) (by omega), Faw.f, Fbb.f, in_eq, Option.bind_some, shortM, colB, metB]
  cases py
  · simp
  cases pc
  · simp
  cases pm
  · simp
  have hfl : (l.filter (colQ col)).length ≤ l.length := List.length_filter_le _ _
  have hfl2 : ((l.filter (colQ col)).filter (longQ m)).length ≤ (l.filter (colQ col)).length := List.length_filter_le _ _
  simp only [if_true, Bool.not_true, Bool.false_eq_true, if_false, Bool.and_self, ofColor_eq (k := k) (l := l) (by omega) hl a b c d col, delL_eq (k := k) (l := l.filter (colQ col)) (by omega) (by omega) m, Option.bind_some, bestP_filter]
  by_cases h0 : ((l.filter (colQ col)).filter (longQ m)).length = 0
  · have e := List.eq_nil_of_length_eq_zero h0
    rw [if_pos (by omega), e]; rfl
  · obtain ⟨x, e1, e2⟩ := minF_eq (k := k) (l := (l.filter (colQ col)).filter (longQ m)) (by omega) (by omega) (by omega)
    rw [if_neg (by omega), e1, e2]; rfl
def stepS (l : List S33) (c m : Int) (s : Int) (i : Nat) : Int := if colQ c (l.getD i z33) && longQ m (l.getD i z33) then (if s < 0 then (i : Int) else if (l.getD i z33).f2 < (l.getD s.toNat z33).f2 then (i : Int) else s) else s
def valS (l : List S33) (s : Int) : Option S33 := if s < 0 then none else some (l.getD s.toNat z33)
theorem shortS_eq {l : List S33} (hl : l.length ≤ 1048576) (a b c d col m : Int) : ∃ k0, ∀ k, k0 ≤ k → Fr.f k l a b c d col m = some (shortM l a b c d col m) := by
  obtain ⟨hI, q, hq⟩ := nest_inv (fun k (s : Int) i => Fr.l0 k col m s i l a b c d) (fun k s => some (match valS l s with | none => ((0 : Int), false) | some x => (x.f0, true))) (stepS l col m) (fun i s => (-1 ≤ s ∧ s < i) ∧ valS l s = (l.take i).foldl (bestP col m) none) l.length 0
    (fun i s hi hs => by
      obtain ⟨hs1, hs2⟩ := hs
      have hst : l.take (i + 1) = l.take i ++ [l.getD i z33] := by
        rw [List.take_add_one, List.getD_eq_getElem?_getD, List.getElem?_eq_getElem hi]; rfl
      refine ⟨⟨by unfold stepS; (repeat' split) <;> omega, ?_⟩, 1, fun k _ => ?_⟩
      · rw [hst, List.foldl_append, List.foldl_cons, List.foldl_nil, ← hs2]
        unfold stepS bestP
        cases colQ col (l.getD i z33) && longQ m (l.getD i z33)
        · simp
        · simp only [if_true]
          by_cases g : s < 0
          · rw [if_pos g]; unfold valS; rw [if_neg (by omega), if_pos g, Int.toNat_natCast]; rfl
          · rw [if_neg g]
            by_cases g2 : (l.getD i z33).f2 < (l.getD s.toNat z33).f2
            · rw [if_pos g2]; unfold valS; rw [if_neg (by omega), if_neg g, Int.toNat_natCast]; unfold bestO minB; simp only; rw [if_pos g2]
            · rw [if_neg g2]; unfold valS; rw [if_neg g]; unfold bestO minB; simp only; rw [if_neg g2]
      · simp only [Fr.l0, rdIB_nat]
        rw [if_pos (by omega), if_pos (by omega), wstep hi (by omega)]
        unfold stepS colQ longQ
        by_cases g1 : (l.getD i z33).f1 = col
        · rw [if_pos g1]
          by_cases g2 : (l.getD i z33).f2 ≥ m
          · rw [if_pos g2, if_pos (show (!((l.getD i z33).f1 != col) && !decide ((l.getD i z33).f2 < m)) = true by rw [g1, decide_eq_false (by omega)]; simp)]
            by_cases g3 : s < 0
            · rw [if_pos g3, if_pos g3]
            · obtain ⟨j, rfl⟩ := nat_of (show 0 ≤ s by omega)
              rw [if_neg g3, if_neg g3, if_pos (by omega), if_pos (by omega), rdIB_nat, Int.toNat_natCast]
              by_cases g4 : (l.getD i z33).f2 < (l.getD j z33).f2
              · rw [if_pos g4, if_pos g4]
              · rw [if_neg g4, if_neg g4]
          · rw [if_neg g2, if_neg (by rw [decide_eq_true (show (l.getD i z33).f2 < m by omega)]; simp)]
        · rw [if_neg g1, if_neg (by rw [show ((l.getD i z33).f1 != col) = true from bne_iff_ne.mpr g1]; simp)])
    (fun k s hs => by
      simp only [Fr.l0]
      rw [if_neg (by omega)]
      unfold valS
      by_cases g : s < 0
      · rw [if_pos g, if_pos g]
      · obtain ⟨j, rfl⟩ := nat_of (show 0 ≤ s by omega)
        have := hs.1
        rw [if_neg g, if_neg g, if_pos (by omega), if_pos (by omega), rdIB_nat, Int.toNat_natCast])
    l.length 0 (-1) (by omega) ⟨by omega, by simp [valS]⟩
  rw [List.take_length] at hI
  refine ⟨q + 31, fun k hk => ?_⟩
  obtain ⟨k2, rfl⟩ : ∃ k2, k = k2 + q + 1 := ⟨k - q - 1, by omega⟩
  have hq2 := hq k2 (by omega)
  rw [show ((0 : Nat) : Int) = 0 from rfl] at hq2
  obtain ⟨py, hy⟩ : ∃ py, yarnB l a b c d = py := ⟨_, rfl⟩
  obtain ⟨pc, hc⟩ : ∃ pc, decide (0 ≤ col ∧ col ≤ 5) = pc := ⟨_, rfl⟩
  obtain ⟨pm, hm⟩ : ∃ pm, decide (1 ≤ m ∧ m ≤ 100000) = pm := ⟨_, rfl⟩
  simp only [hy, hc, hm, Fr.f, Fr.j0, yarnS_eq (k := k2 + q + 1) (l := l) (by omega) (by omega), Fah.f, Fal.f, l1In_eq, Option.bind_some, shortM, colB, metB]
  cases py
  · simp
  cases pc
  · simp
  cases pm
  · simp
  simp only [if_true, Bool.not_true, Bool.false_eq_true, if_false, Bool.and_self]
  rw [hq2, hI.2]
theorem bitsLen_ex (k : Nat) (n : Int) (h : 0 ≤ n ∧ n < 256) : ∃ b, Fbp.f (k + 1) n = some b := by
  have h64 : ∃ b, Faq.f (k + 1) n = some b := by
    unfold Faq.f
    rw [if_neg (by omega), Faq.j0]
    rw [if_neg (show ¬ n ≥ 65536 by omega)]
    rw [if_neg (show ¬ n ≥ 256 by omega)]
    rw [if_pos (show 0 ≤ n % 256 by omega)]
    rw [if_pos (show n % 256 < 256 by omega)]
    exact ⟨_, rfl⟩
  obtain ⟨b, hb⟩ := h64
  refine ⟨b, ?_⟩
  unfold Fbp.f
  rw [hb]; rfl
def ltT (x y : S33) : Bool := decide (y.f2 < x.f2)
/-- the longer one first; of two that are as long, the one with the smaller number -/
def relT (x y : S33) : Prop := x.f2 > y.f2 ∨ (x.f2 = y.f2 ∧ x.f0 < y.f0)
theorem relT_trans (a b c : S33) (h1 : relT a b) (h2 : relT b c) : relT a c := by unfold relT at *; omega
theorem relT_asymm {a b : S33} (h1 : relT a b) (h2 : relT b a) : False := by unfold relT at *; omega
theorem sortedT : ∀ (l P : List S33), P.Pairwise relT → (∀ y ∈ P, ∀ x ∈ l, y.f0 < x.f0) → l.Pairwise (fun a b => a.f0 < b.f0) → (isortB ltT P l).Pairwise relT := by
  intro l
  induction l with
  | nil => intro P h _ _; exact h
  | cons x l ih =>
    intro P hP hlt hl
    rw [List.pairwise_cons] at hl
    show (isortB ltT (insB ltT P.reverse x) l).Pairwise relT
    refine ih _ (insB_sorted ltT relT relT_trans P.reverse x (by rw [List.reverse_reverse]; exact hP) (fun y _ h => ?_) (fun y hy h => ?_)) (fun y hy w hw => ?_) hl.2
    · unfold ltT at h
      exact .inl (of_decide_eq_true h)
    · unfold ltT at h
      have h := of_decide_eq_false h
      have := hlt y (List.mem_reverse.mp hy) x List.mem_cons_self
      unfold relT; omega
    · rcases List.mem_cons.mp ((insB_perm ltT P.reverse x).mem_iff.mp hy) with e | e
      · subst e; exact hl.1 w hw
      · exact hlt y (List.mem_reverse.mp e) w (List.mem_cons_of_mem _ hw)
theorem lenT_ex {k n : Nat} (hl : n ≤ 8) (hk : 200 < k) : ∃ b, Fbp.f k (IntKind.u64.wrap (n : Int)) = some b := by
  have hw : IntKind.u64.wrap (n : Int) = (n : Int) := by simp [IntKind.wrap, IntKind.bits, IntKind.signed]; omega
  obtain ⟨k, rfl, _⟩ := succ_of (show 0 < k by omega)
  obtain ⟨b, hb⟩ := bitsLen_ex k (n : Int) (by omega)
  exact ⟨b, by rw [hw]; exact hb⟩
theorem pdqT_eq {k : Nat} {l : List S33} (hl : l.length ≤ 8) (hk : 200 ≤ k) (k0 : Int) : Fi.f (k + 1) l 0 (l.length : Int) k0 = some (isortB ltT [] l) := by
  unfold Fi.f
  rw [Fi.l0]
  rw [Int.sub_zero, w64 (x := (l.length : Int)) (by omega) (by omega), if_pos (by omega)]
  unfold Fa.f
  rw [Int.zero_add]
  rw [show wrap64 1 = 1 from w64 (by omega) (by omega)]
  rw [ins_eq z33 ltT l (by omega) (fun k s i => Fa.l0 k s 0 (l.length : Int) i) (fun k s i j => Fa.l1 k s 0 (l.length : Int) i j)
    (fun k s i j h0 h1 h2 => by
      simp only [Fa.l1]
      rw [w64 (x := (j : Int) - 1) (by omega) (by omega), if_pos (by omega), if_pos (by omega), if_pos (by omega), if_pos (by omega), if_pos (by omega), show (j : Int) - 1 = ((j - 1 : Nat) : Int) by omega]
      simp only [rdIB_nat, Fbl.f, cmpI_eq, Option.bind_some, Int.toNat_natCast]
      by_cases g : (s.getD (j - 1) z33).f2 < (s.getD j z33).f2
      · rw [if_pos (by unfold cmpI; rw [if_pos g]; omega), if_pos (show ltT _ _ = true from decide_eq_true g)]
      · rw [if_neg (by unfold cmpI; rw [if_neg g]; split <;> omega), if_neg (by unfold ltT; rw [decide_eq_false g]; simp)])
    (fun k s i => by
      simp only [Fa.l1]
      rw [if_neg (by omega)])
    (fun k s i h => by
      simp only [Fa.l0]
      rw [if_pos (by omega)])
    (fun k s i h => by
      simp only [Fa.l0]
      rw [if_neg (by omega)]) (by have : (l.length + 1) * (l.length + 3) ≤ 9 * 11 := Nat.mul_le_mul (by omega) (by omega); omega)]
  rfl
theorem sortT_eq {k : Nat} {l : List S33} (hl : l.length ≤ 8) (hk : 200 < k) : Fu.f k l = some (isortB ltT [] l) := by
  obtain ⟨b, hb⟩ := lenT_ex (k := k) (n := l.length) hl hk
  unfold Fu.f
  rw [hb]
  clear hb
  obtain ⟨k, rfl, hk2⟩ := succ_of hk
  rw [Option.bind_some, pdqT_eq hl hk2 b]
  rfl
/-- how many ties: the longest are taken one after the other -/
def scanT (m : Int) : List S33 → Int → Nat → Int × Bool
  | [], _, _ => (0, false)
  | x :: r, s, t => if s + x.f2 - t ≥ m then ((t : Int), true) else scanT m r (s + x.f2) (t + 1)
def tiesM (l : List S33) (a b c d col m : Int) : Int × Bool := if yarnB l a b c d && (colB col && metB m) then scanT m (isortB ltT [] (l.filter (colQ col))) 0 0 else (0, false)
theorem scanI {S : List S33} {m : Int} (h8 : S.length ≤ 8) (hx : ∀ x ∈ S, 0 ≤ x.f2 ∧ x.f2 ≤ 100000) : ∀ (n k i : Nat) (s : Int), i + n = S.length → n < k → 0 ≤ s → s ≤ 100000 * i → Fx.l0 k m s S (S.length : Int) (i : Int) = some (scanT m (S.drop i) s i) := by
  intro n
  induction n with
  | zero =>
    intro k i s hi hk h1 h2
    obtain ⟨k, rfl, _⟩ := succ_of hk
    rw [Fx.l0, if_neg (by omega), List.drop_eq_nil_of_le (by omega)]; rfl
  | succ n ih =>
    intro k i s hi hk h1 h2
    obtain ⟨k, rfl, _⟩ := succ_of hk
    have hlt : i < S.length := by omega
    have hm : S.getD i z33 ∈ S := by rw [List.getD_eq_getElem?_getD, List.getElem?_eq_getElem hlt]; exact List.getElem_mem hlt
    have hb := hx _ hm
    rw [Fx.l0, if_pos (by omega), if_pos (by omega), if_pos (by omega), rdIB_nat, drop_step hlt z33, scanT]
    rw [w64 (x := s + _) (by omega) (by omega), w64 (x := s + _ - _) (by omega) (by omega), wstep hlt (by omega)]
    by_cases g : s + (S.getD i z33).f2 - (i : Int) ≥ m
    · rw [if_pos g, if_pos g]
    · rw [if_neg g, if_neg g, ih k (i + 1) _ (by omega) (by omega) (by omega) (by push_cast; omega)]
theorem tiesI_eq {k : Nat} {l : List S33} (hk : l.length + 300 < k) (hl : l.length ≤ 1048576) (a b c d col m : Int) : Fx.f k l a b c d col m = some (tiesM l a b c d col m) := by
  obtain ⟨k, rfl, hk1⟩ := succ_of hk
  obtain ⟨py, hy⟩ : ∃ py, yarnB l a b c d = py := ⟨_, rfl⟩
  obtain ⟨pc, hc⟩ : ∃ pc, decide (0 ≤ col ∧ col ≤ 5) = pc := ⟨_, rfl⟩
  obtain ⟨pm, hm⟩ : ∃ pm, decide (1 ≤ m ∧ m ≤ 100000) = pm := ⟨_, rfl⟩
  simp only [hy, hc, hm, Fx.f, Fx.j0, yarnI_eq (k := k + 1) (l := l) (by omega) (by omega), Faw.f, Fbb.f, in_eq, Option.bind_some, tiesM, colB, metB]
  cases py
  · simp
  cases pc
  · simp
  cases pm
  · simp
  obtain ⟨h8, hx, _⟩ := yarn_of hy
  have hfl : (l.filter (colQ col)).length ≤ l.length := List.length_filter_le _ _
  have hp := isortB_perm ltT (l.filter (colQ col)) []
  rw [List.nil_append] at hp
  have hlen := hp.length_eq
  simp only [if_true, Bool.not_true, Bool.false_eq_true, if_false, Bool.and_self, ofColor_eq (k := k) (l := l) (by omega) hl a b c d col, sortT_eq (k := k) (l := l.filter (colQ col)) (by omega) (by omega), Option.bind_some]
  rw [← hlen]
  have h := scanI (S := isortB ltT [] (l.filter (colQ col))) (m := m) (by omega) (fun x hxm => by
    have := hx x (List.mem_filter.mp (hp.mem_iff.mp hxm)).1
    omega) (isortB ltT [] (l.filter (colQ col))).length k 0 0 (by omega) (by omega) (by omega) (by omega)
  rw [show ((0 : Nat) : Int) = 0 from rfl] at h
  rw [h]; rfl
end Go.Proofs.YtiomfignokichaaGreatDoor.Pure

namespace Go.Proofs.YtiomfignokichaaGreatDoor.Pure
open Go Go.RowKit Go.Proofs Go.Proofs.YtiomfignokichaaGreatDoorW.PrintWords Go.Proofs.YtiomfignokichaaGreatDoorW.PrintLast
set_option linter.unusedVariables false
set_option linter.unusedSimpArgs false
theorem rd_nat (l : List Int) (i : Nat) : rd l (i : Int) = l.getD i 0 := by simp [rd]
/-- A loop that looks for an element. -/
theorem any_loop {α : Type} (L : Nat → Int → Option Bool) (q : α → Bool) (d : α) (l : List α) (hb : l.length ≤ 9223372036854775806)
    (hs : ∀ k (i : Nat), i < l.length → L (k + 1) i = if q (l.getD i d) = true then some true else L k (wrap64 ((i : Int) + 1))) (he : ∀ k (i : Nat), l.length ≤ i → L (k + 1) i = some false) :
    ∀ n k (i : Nat), i + n = l.length → n < k → L k i = some ((l.drop i).any q) := by
  intro n
  induction n with
  | zero =>
    intro k i hi hk
    obtain ⟨k, rfl, _⟩ := succ_of hk
    rw [he k i (by omega), List.drop_eq_nil_of_le (by omega)]; rfl
  | succ n ih =>
    intro k i hi hk
    obtain ⟨k, rfl, hk⟩ := succ_of hk
    rw [hs k i (by omega), wstep (show i < l.length by omega) (by omega), drop_step (by omega) d, List.any_cons, ih k (i + 1) (by omega) (by omega)]
    cases q (l.getD i d) <;> simp
end Go.Proofs.YtiomfignokichaaGreatDoor.Pure

namespace Go.Proofs.YtiomfignokichaaGreatDoor.Pure
open Go Go.RowKit Go.Proofs Go.Proofs.YtiomfignokichaaGreatDoor.X Go.Proofs.YtiomfignokichaaGreatDoorW.PrintWords Go.Proofs.YtiomfignokichaaGreatDoorW.PrintLast
set_option linter.unusedVariables false
set_option linter.unusedSimpArgs false
theorem hasS_eq {k : Nat} {t : List Int} (hk : t.length < k) (hl : t.length ≤ 1048576) (v : Int) : Fag.f k t v = some (t.any fun y => decide (y = v)) := by
  unfold Fag.f
  have := any_loop (fun k i => Fag.l0 k t v i) (fun y => decide (y = v)) 0 t (by omega)
    (fun k i h => by
      simp only [Fag.l0]
      rw [if_pos (by omega), if_pos (by omega), rd_nat]
      by_cases g : t.getD i 0 = v
      · rw [if_pos g, if_pos (decide_eq_true g)]
      · rw [if_neg g, if_neg (by simpa using g)])
    (fun k i h => by simp only [Fag.l0]; rw [if_neg (by omega)])
    t.length k 0 (by omega) hk
  simpa using this
def candT (c : Int) (t : List Int) (x : S33) : Bool := decide (x.f1 = c) && !(t.any fun y => decide (y = x.f0))
def stepT (l : List S33) (c : Int) (t : List Int) (s : Int) (i : Nat) : Int := if candT c t (l.getD i z33) = true then (if s < 0 then (i : Int) else if (l.getD i z33).f2 > (l.getD s.toNat z33).f2 then (i : Int) else s) else s
theorem asc_lt {l : List S33} (h : ∀ j, 1 ≤ j → j < l.length → (l.getD (j - 1) z33).f0 < (l.getD j z33).f0) : ∀ n i, i + n + 1 < l.length → (l.getD i z33).f0 < (l.getD (i + n + 1) z33).f0 := by
  intro n
  induction n with
  | zero => intro i hi; have := h (i + 1) (by omega) (by omega); simpa using this
  | succ n ih =>
    intro i hi
    have h1 := ih i (by omega)
    have h2 := h (i + (n + 1) + 1) (by omega) (by omega)
    rw [show i + (n + 1) + 1 - 1 = i + n + 1 by omega] at h2
    omega
theorem asc_pw {l : List S33} (h : ∀ j, 1 ≤ j → j < l.length → (l.getD (j - 1) z33).f0 < (l.getD j z33).f0) : l.Pairwise (fun a b => a.f0 < b.f0) := by
  rw [List.pairwise_iff_getElem]
  intro i j hi hj hij
  have := asc_lt h (j - i - 1) i (by omega)
  rw [show i + (j - i - 1) + 1 = j by omega] at this
  rwa [List.getD_eq_getElem?_getD, List.getElem?_eq_getElem hi, List.getD_eq_getElem?_getD, List.getElem?_eq_getElem hj] at this
/-- what the inner loop finds -/
def bestT (l : List S33) (c : Int) (t : List Int) (n : Nat) (s : Int) : Prop :=
  -1 ≤ s ∧ s < n ∧ (s < 0 → ∀ j, j < n → candT c t (l.getD j z33) = false) ∧ (0 ≤ s → candT c t (l.getD s.toNat z33) = true ∧ ∀ j, j < n → candT c t (l.getD j z33) = true → l.getD j z33 = l.getD s.toNat z33 ∨ relT (l.getD s.toNat z33) (l.getD j z33))
theorem bestT_step {l : List S33} {c : Int} {t : List Int} (h : ∀ j, 1 ≤ j → j < l.length → (l.getD (j - 1) z33).f0 < (l.getD j z33).f0) {i : Nat} {s : Int} (hi : i < l.length) (hs : bestT l c t i s) : bestT l c t (i + 1) (stepT l c t s i) := by
  obtain ⟨h1, h2, h3, h4⟩ := hs
  unfold stepT
  by_cases g : candT c t (l.getD i z33) = true
  · rw [if_pos g]
    by_cases g0 : s < 0
    · rw [if_pos g0]
      refine ⟨by omega, by omega, fun e => by omega, fun _ => ⟨by rw [Int.toNat_natCast]; exact g, fun j hj hc => ?_⟩⟩
      by_cases e : j = i
      · subst e; rw [Int.toNat_natCast]; exact .inl rfl
      · rw [h3 g0 j (by omega)] at hc; exact absurd hc (by simp)
    · rw [if_neg g0]
      obtain ⟨p1, p2⟩ := h4 (by omega)
      by_cases g2 : (l.getD i z33).f2 > (l.getD s.toNat z33).f2
      · rw [if_pos g2]
        refine ⟨by omega, by omega, fun e => by omega, fun _ => ⟨by rw [Int.toNat_natCast]; exact g, fun j hj hc => ?_⟩⟩
        rw [Int.toNat_natCast]
        by_cases e : j = i
        · subst e; exact .inl rfl
        · rcases p2 j (by omega) hc with q | q
          · rw [q]; exact .inr (.inl g2)
          · exact .inr (relT_trans _ _ _ (.inl g2) q)
      · rw [if_neg g2]
        refine ⟨h1, by omega, fun e => absurd e g0, fun _ => ⟨p1, fun j hj hc => ?_⟩⟩
        by_cases e : j = i
        · subst e
          obtain ⟨q, rfl⟩ := nat_of (show 0 ≤ s by omega)
          rw [Int.toNat_natCast] at g2 ⊢
          have := asc_lt h (j - q - 1) q (by omega)
          rw [show q + (j - q - 1) + 1 = j by omega] at this
          exact .inr (by unfold relT; omega)
        · exact p2 j (by omega) hc
  · rw [if_neg g]
    refine ⟨h1, by omega, fun e j hj => ?_, fun e => ⟨(h4 e).1, fun j hj hc => ?_⟩⟩
    · by_cases q : j = i
      · subst q; simpa using g
      · exact h3 e j (by omega)
    · by_cases q : j = i
      · subst q; exact absurd hc g
      · exact (h4 e).2 j (by omega) hc
/-- what follows behind the inner loop -/
def outT (k : Nat) (col m : Int) (t : List Int) (s r : Int) (l : List S33) (a b c d : Int) : Option (Int × Bool) := if r < 0 then (some (0, false)) else (if 0 ≤ r then (if r < (l.length : Int) then (if t.length < 17592186044416 then ((some (t ++ [(rd_T33 l r).f0] : List Int)).bind fun y113 => (if (wrap64 ((wrap64 ((wrap64 (s + ((rd_T33 l r).f2))) - (y113.length : Int))) + 1)) ≥ m then (some (wrap64 ((y113.length : Int) - 1), true)) else (Fo.l0 k col m y113 (wrap64 (s + ((rd_T33 l r).f2))) l a b c d))) else (none)) else (none)) else (none))
theorem innerT {l : List S33} (h : ∀ j, 1 ≤ j → j < l.length → (l.getD (j - 1) z33).f0 < (l.getD j z33).f0) (h8 : l.length ≤ 8) (a b c d col m : Int) (t : List Int) (ht : t.length ≤ 8) (s : Int) : ∃ r, bestT l col t l.length r ∧ ∃ q, ∀ k, 10 ≤ k → Fo.l1 (k + q) col m t s (-1) 0 l a b c d = outT k col m t s r l a b c d := by
  obtain ⟨hI, q, hq⟩ := nest_inv (fun k (s' : Int) i => Fo.l1 k col m t s s' i l a b c d) (fun k r => outT k col m t s r l a b c d) (stepT l col t) (bestT l col t) l.length 10
    (fun i s' hi hs => by
      refine ⟨bestT_step h hi hs, 1, fun k hk => ?_⟩
      obtain ⟨hs1, hs2, _, _⟩ := hs
      simp only [Fo.l1, rdIB_nat]
      rw [if_pos (by omega), if_pos (by omega)]
      unfold stepT candT
      by_cases g1 : (l.getD i z33).f1 = col
      · rw [if_pos g1, hasS_eq (by omega) (by omega), decide_eq_true g1, Bool.true_and]
        simp only [Option.bind_some]
        cases t.any fun y => decide (y = (l.getD i z33).f0)
        · simp only [Bool.false_eq_true, if_false, Bool.not_false, if_true]
          by_cases g0 : s' < 0
          · rw [if_pos g0, if_pos g0, wstep hi (by omega)]
          · obtain ⟨j, rfl⟩ := nat_of (show 0 ≤ s' by omega)
            rw [if_neg g0, if_neg g0, if_pos (by omega), if_pos (by omega), rdIB_nat, Int.toNat_natCast, wstep hi (by omega)]
            by_cases g4 : (l.getD i z33).f2 > (l.getD j z33).f2
            · rw [if_pos g4, if_pos g4]
            · rw [if_neg g4, if_neg g4]
        · simp only [if_true, Bool.not_true, Bool.false_eq_true, if_false]
          rw [wstep hi (by omega)]
      · rw [if_neg g1, decide_eq_false g1, wstep hi (by omega)]
        simp only [Bool.false_and, Bool.false_eq_true, if_false])
    (fun k s' hs => by
      simp only [Fo.l1]
      rw [if_neg (by omega)]
      rfl)
    l.length 0 (-1) (by omega) ⟨by omega, by omega, fun _ j hj => by omega, fun e => by omega⟩
  exact ⟨_, hI, q, fun k hk => hq k hk⟩
theorem cand_iff {c : Int} {t : List Int} {x : S33} : candT c t x = true ↔ x.f1 = c ∧ x.f0 ∉ t := by
  unfold candT
  simp only [Bool.and_eq_true, decide_eq_true_eq, Bool.not_eq_true', List.any_eq_false]
  constructor
  · rintro ⟨h1, h2⟩; exact ⟨h1, fun hm => h2 _ hm rfl⟩
  · rintro ⟨h1, h2⟩; exact ⟨h1, fun y hy e => h2 (e ▸ hy)⟩
theorem outerT {l : List S33} {a b c d col m : Int} (hy : yarnB l a b c d = true) {S : List S33} (hS : S = isortB ltT [] (l.filter (colQ col))) : ∀ (n t : Nat) (s : Int), t + n = S.length → 0 ≤ s → s ≤ 100000 * t → ∃ q, ∀ k, q ≤ k → Fo.l0 k col m ((S.take t).map fun x => x.f0) s l a b c d = some (scanT m (S.drop t) s t) := by
  obtain ⟨h8, hx, hasc⟩ := yarn_of hy
  have hp := isortB_perm ltT (l.filter (colQ col)) []
  rw [List.nil_append, ← hS] at hp
  have hpw := asc_pw hasc
  have hsorted : S.Pairwise relT := by rw [hS]; exact sortedT _ [] List.Pairwise.nil (fun y hy => absurd hy (by simp)) (hpw.filter _)
  have hfl : (l.filter (colQ col)).length ≤ l.length := List.length_filter_le _ _
  have hlen := hp.length_eq
  have hmem : ∀ x, x ∈ S ↔ x ∈ l ∧ x.f1 = col := by
    intro x
    rw [hp.mem_iff, List.mem_filter]
    unfold colQ
    constructor
    · rintro ⟨h1, h2⟩; exact ⟨h1, by simpa using h2⟩
    · rintro ⟨h1, h2⟩; exact ⟨h1, by simpa using h2⟩
  have hnd : (S.map fun x => x.f0).Nodup := by
    have h1 : ((l.filter (colQ col)).map fun x => x.f0).Nodup := by
      unfold List.Nodup
      rw [List.pairwise_map]
      exact (hpw.filter (colQ col)).imp (fun h => by omega)
    exact (hp.map _).nodup_iff.mpr h1
  have hget : ∀ j, j < l.length → l.getD j z33 ∈ l := fun j hj => by rw [List.getD_eq_getElem?_getD, List.getElem?_eq_getElem hj]; exact List.getElem_mem hj
  intro n
  induction n with
  | zero =>
    intro t s ht h0 h1
    have htake : S.take t = S := List.take_of_length_le (by omega)
    have hdrop : S.drop t = [] := List.drop_eq_nil_of_le (by omega)
    rw [htake, hdrop]
    by_cases g : (S.length : Int) < (l.length : Int)
    · obtain ⟨r, ⟨r1, r2, r3, r4⟩, q, hq⟩ := innerT hasc h8 a b c d col m (S.map fun x => x.f0) (by rw [List.length_map]; omega) s
      have hr : r < 0 := by
        rcases Int.lt_or_le r 0 with h | h
        · exact h
        · obtain ⟨c1, _⟩ := r4 h
          rw [cand_iff] at c1
          have hm := (hmem (l.getD r.toNat z33)).mpr ⟨hget _ (by omega), c1.1⟩
          exact absurd (List.mem_map_of_mem hm) c1.2
      refine ⟨q + 11, fun k hk => ?_⟩
      obtain ⟨k2, rfl⟩ : ∃ k2, k = k2 + q + 1 := ⟨k - q - 1, by omega⟩
      rw [Fo.l0, if_pos (by rw [List.length_map]; exact g), hq k2 (by omega)]
      unfold outT
      rw [if_pos hr]; rfl
    · refine ⟨1, fun k hk => ?_⟩
      obtain ⟨k, rfl, _⟩ := succ_of (show 0 < k by omega)
      rw [Fo.l0, if_neg (by rw [List.length_map]; exact g)]; rfl
  | succ n ih =>
    intro t s ht h0 h1
    have hlt : t < S.length := by omega
    have htk : ((S.take t).map fun x => x.f0).length = t := by rw [List.length_map, List.length_take]; omega
    obtain ⟨r, ⟨r1, r2, r3, r4⟩, q, hq⟩ := innerT hasc h8 a b c d col m ((S.take t).map fun x => x.f0) (by rw [htk]; omega) s
    obtain ⟨h, hh⟩ : ∃ h, S.getD t z33 = h := ⟨_, rfl⟩
    have hd := drop_step hlt z33
    rw [hh] at hd
    have hS2 : S.take t ++ (h :: S.drop (t + 1)) = S := by rw [← hd]; exact List.take_append_drop t S
    have hhS : h ∈ S := by rw [← hS2]; exact List.mem_append_right _ List.mem_cons_self
    have hnd2 : ((S.take t).map (fun x => x.f0) ++ (h :: S.drop (t + 1)).map (fun x => x.f0)).Nodup := by rw [← List.map_append, hS2]; exact hnd
    have hpw2 : (h :: S.drop (t + 1)).Pairwise relT := by rw [← hd]; exact hsorted.sublist (List.drop_sublist t S)
    rw [List.pairwise_cons] at hpw2
    have hcand : candT col ((S.take t).map fun x => x.f0) h = true := by
      rw [cand_iff]
      refine ⟨((hmem h).mp hhS).2, fun hm => ?_⟩
      exact (List.nodup_append.mp hnd2).2.2 _ hm _ (List.mem_map_of_mem List.mem_cons_self) rfl
    obtain ⟨j, hj, hjh⟩ := List.mem_iff_getElem.mp ((hmem h).mp hhS).1
    have hjg : l.getD j z33 = h := by rw [List.getD_eq_getElem?_getD, List.getElem?_eq_getElem hj]; exact hjh
    have hr : 0 ≤ r := by
      rcases Int.lt_or_le r 0 with e | e
      · have := r3 e j hj
        rw [hjg, hcand] at this; exact absurd this (by simp)
      · exact e
    obtain ⟨c1, c2⟩ := r4 hr
    have hb : l.getD r.toNat z33 = h := by
      have h3 := c2 j hj (by rw [hjg]; exact hcand)
      rw [hjg] at h3
      rcases h3 with e | e
      · exact e.symm
      · rw [cand_iff] at c1
        have hm := (hmem (l.getD r.toNat z33)).mpr ⟨hget _ (by omega), c1.1⟩
        rw [← hS2] at hm
        rcases List.mem_append.mp hm with e2 | e2
        · exact absurd (List.mem_map_of_mem e2) c1.2
        · rcases List.mem_cons.mp e2 with e3 | e3
          · exact e3
          · exact absurd e (fun e => relT_asymm e (hpw2.1 _ e3))
    have hhb := hx h ((hmem h).mp hhS).1
    obtain ⟨j2, rfl⟩ := nat_of hr
    rw [Int.toNat_natCast] at hb
    by_cases g : s + h.f2 - (t : Int) ≥ m
    · refine ⟨q + 11, fun k hk => ?_⟩
      obtain ⟨k2, rfl⟩ : ∃ k2, k = k2 + q + 1 := ⟨k - q - 1, by omega⟩
      rw [Fo.l0, if_pos (by rw [htk]; omega), hq k2 (by omega), hd, scanT, if_pos g]
      unfold outT
      rw [if_neg (by omega), if_pos (by omega), if_pos (by omega), if_pos (by rw [htk]; omega), rdIB_nat, hb]
      simp only [Option.bind_some, List.length_append, List.length_singleton, htk]
      rw [w64 (x := s + h.f2) (by omega) (by omega), w64 (x := s + h.f2 - _) (by push_cast; omega) (by push_cast; omega), w64 (x := _ + 1) (by push_cast; omega) (by push_cast; omega), if_pos (by push_cast; omega), w64 (by push_cast; omega) (by push_cast; omega)]
      congr 2
      push_cast; omega
    · obtain ⟨q2, hq2⟩ := ih (t + 1) (s + h.f2) (by omega) (by omega) (by push_cast; omega)
      have htk2 : ((S.take t).map fun x => x.f0) ++ [h.f0] = (S.take (t + 1)).map fun x => x.f0 := by
        rw [List.take_add_one, List.map_append]
        congr 1
        rw [List.getElem?_eq_getElem hlt]
        have : S[t] = h := by rw [← hh, List.getD_eq_getElem?_getD, List.getElem?_eq_getElem hlt]; rfl
        rw [this]; rfl
      refine ⟨q + q2 + 11, fun k hk => ?_⟩
      obtain ⟨k2, rfl⟩ : ∃ k2, k = k2 + q + 1 := ⟨k - q - 1, by omega⟩
      rw [Fo.l0, if_pos (by rw [htk]; omega), hq k2 (by omega), hd, scanT, if_neg g]
      unfold outT
      rw [if_neg (by omega), if_pos (by omega), if_pos (by omega), if_pos (by rw [htk]; omega), rdIB_nat, hb]
      simp only [Option.bind_some]
      have hl2 : (((S.take t).map fun x => x.f0) ++ [h.f0]).length = t + 1 := by rw [List.length_append, htk]; rfl
      rw [w64 (x := s + h.f2) (by omega) (by omega), hl2, w64 (x := s + h.f2 - _) (by push_cast; omega) (by push_cast; omega), w64 (x := _ + 1) (by push_cast; omega) (by push_cast; omega), if_neg (by push_cast; omega), htk2]
      exact hq2 k2 (by omega)
theorem tiesS_eq {l : List S33} (hl : l.length ≤ 1048576) (a b c d col m : Int) : ∃ k0, ∀ k, k0 ≤ k → Fo.f k l a b c d col m = some (tiesM l a b c d col m) := by
  by_cases hy : yarnB l a b c d = true
  · obtain ⟨q, hq⟩ := outerT (col := col) (m := m) hy rfl (isortB ltT [] (l.filter (colQ col))).length 0 0 (by omega) (by omega) (by omega)
    refine ⟨q + 31, fun k hk => ?_⟩
    obtain ⟨k2, rfl⟩ : ∃ k2, k = k2 + q + 1 := ⟨k - q - 1, by omega⟩
    have hq2 := hq (k2 + q) (by omega)
    obtain ⟨pc, hc⟩ : ∃ pc, decide (0 ≤ col ∧ col ≤ 5) = pc := ⟨_, rfl⟩
    obtain ⟨pm, hm⟩ : ∃ pm, decide (1 ≤ m ∧ m ≤ 100000) = pm := ⟨_, rfl⟩
    simp only [Fo.f, Fo.j0, yarnS_eq (k := k2 + q + 1) (l := l) (by omega) (by omega), hy, Fah.f, Fal.f, l1In_eq, Option.bind_some, tiesM, colB, metB, hc, hm, if_true, Bool.true_and]
    cases pc
    · simp
    cases pm
    · simp
    simp only [if_true, Bool.not_true, Bool.false_eq_true, if_false, Bool.and_self]
    simpa using hq2
  · refine ⟨31, fun k hk => ?_⟩
    obtain ⟨k, rfl, _⟩ := succ_of (show 0 < k by omega)
    have hy2 : yarnB l a b c d = false := by simpa using hy
    simp only [Fo.f, Fo.j0, yarnS_eq (k := k + 1) (l := l) (by omega) (by omega), hy2, Option.bind_some, tiesM, Bool.false_and, Bool.false_eq_true, if_false, if_true]
theorem scanT_facts {m : Int} : ∀ (r : List S33) (s : Int) (t : Nat), (∀ x ∈ r, 0 ≤ x.f2) → (scanT m r s t).2 = true → (t : Int) ≤ (scanT m r s t).1 ∧ (scanT m r s t).1 < (t : Int) + (r.length : Int) ∧ m + (scanT m r s t).1 ≤ s + metersM r
  | [], s, t, _, h => by cases h
  | x :: r, s, t, hx, h => by
    have h0 := hx x List.mem_cons_self
    have hr : ∀ y ∈ r, 0 ≤ y.f2 := fun y hy => hx y (List.mem_cons_of_mem _ hy)
    have hn : 0 ≤ metersM r := by
      clear h hx
      induction r with
      | nil => simp [metersM]
      | cons y r ih =>
        have := ih (fun z hz => hr z (List.mem_cons_of_mem _ hz))
        have := hr y List.mem_cons_self
        simp only [metersM, List.map_cons, List.sum_cons] at *
        omega
    have e : metersM (x :: r) = x.f2 + metersM r := by simp only [metersM, List.map_cons, List.sum_cons]
    rw [scanT] at h ⊢
    rw [e, List.length_cons]
    by_cases g : s + x.f2 - t ≥ m
    · rw [if_pos g]
      simp only
      omega
    · rw [if_neg g] at h ⊢
      have := scanT_facts r (s + x.f2) (t + 1) hr h
      omega
theorem minB_mem (l : List S33) : ∀ y, l.foldl minB y ∈ y :: l := by
  induction l with
  | nil => intro y; simp
  | cons x l ih =>
    intro y
    rw [List.foldl_cons]
    have h := ih (minB y x)
    unfold minB at h ⊢
    rcases List.mem_cons.mp h with h | h
    · rw [h]
      split <;> simp
    · exact List.mem_cons_of_mem _ (List.mem_cons_of_mem _ h)
theorem bestP_none {c m : Int} {l : List S33} (h : l.foldl (bestP c m) none = none) : ∀ x ∈ l, x.f1 = c → x.f2 < m := by
  rw [bestP_filter] at h
  intro x hx hc
  rcases hG : (l.filter (colQ c)).filter (longQ m) with _ | ⟨y, g⟩
  · refine Decidable.byContradiction fun hm => ?_
    have : x ∈ (l.filter (colQ c)).filter (longQ m) := List.mem_filter.mpr ⟨List.mem_filter.mpr ⟨hx, by simp [colQ, hc]⟩, by simp [longQ]; omega⟩
    rw [hG] at this; cases this
  · rw [hG, List.foldl_cons, show bestO none y = some y from rfl, bestO_some] at h
    cases h
theorem bestP_some {c m : Int} {l : List S33} {x : S33} (h : l.foldl (bestP c m) none = some x) : x ∈ l ∧ x.f1 = c ∧ m ≤ x.f2 := by
  rw [bestP_filter] at h
  rcases hG : (l.filter (colQ c)).filter (longQ m) with _ | ⟨y, g⟩
  · rw [hG] at h; cases h
  · rw [hG, List.foldl_cons, show bestO none y = some y from rfl, bestO_some] at h
    obtain rfl := Option.some.inj h
    have hm : g.foldl minB y ∈ (l.filter (colQ c)).filter (longQ m) := by rw [hG]; exact minB_mem g y
    obtain ⟨h1, h2⟩ := List.mem_filter.mp hm
    obtain ⟨h3, h4⟩ := List.mem_filter.mp h1
    exact ⟨h3, by simpa [colQ] using h4, by simp only [longQ, Bool.not_eq_true', decide_eq_false_iff_not] at h2; omega⟩
/-- a bobbin is long enough exactly if no tie is needed -/
theorem bobb_iff {l : List S33} {a b c d col m : Int} : (shortM l a b c d col m).2 = ((tiesM l a b c d col m).2 && decide ((tiesM l a b c d col m).1 = 0)) := by
  unfold shortM tiesM
  cases hg : (yarnB l a b c d && (colB col && metB m))
  · rfl
  simp only [if_true]
  simp only [Bool.and_eq_true] at hg
  obtain ⟨h8, hx, ha⟩ := yarn_of hg.1
  have hm : 1 ≤ m ∧ m ≤ 100000 := by simpa [metB] using hg.2.2
  have hs : (isortB ltT [] (l.filter (colQ col))).Pairwise relT := sortedT _ [] List.Pairwise.nil (fun y hy => by cases hy) ((asc_pw ha).sublist List.filter_sublist)
  have hp := isortB_perm ltT (l.filter (colQ col)) []
  rw [List.nil_append] at hp
  have hpos : ∀ x ∈ isortB ltT [] (l.filter (colQ col)), 0 ≤ x.f2 := fun x h => by
    have := hx x (List.mem_filter.mp (hp.mem_iff.mp h)).1
    omega
  rcases hS : isortB ltT [] (l.filter (colQ col)) with _ | ⟨x, r⟩
  · rw [hS] at hp
    have hF : l.filter (colQ col) = [] := List.Perm.eq_nil hp.symm
    rcases hb : l.foldl (bestP col m) none with _ | y
    · rfl
    · obtain ⟨q1, q2, q3⟩ := bestP_some hb
      have : y ∈ l.filter (colQ col) := List.mem_filter.mpr ⟨q1, by simp [colQ, q2]⟩
      rw [hF] at this; cases this
  · rw [hS] at hs hp hpos
    have hxm : x ∈ l.filter (colQ col) := hp.mem_iff.mp List.mem_cons_self
    rw [scanT]
    by_cases g : (0 : Int) + x.f2 - ((0 : Nat) : Int) ≥ m
    · rw [if_pos g]
      rcases hb : l.foldl (bestP col m) none with _ | y
      · have := bestP_none hb x (List.mem_filter.mp hxm).1 (by simpa [colQ] using (List.mem_filter.mp hxm).2)
        omega
      · rfl
    · rw [if_neg g]
      rcases hb : l.foldl (bestP col m) none with _ | y
      · simp only
        cases ht : (scanT m r (0 + x.f2) (0 + 1)).2
        · rfl
        · have := (scanT_facts r (0 + x.f2) (0 + 1) (fun z hz => hpos z (List.mem_cons_of_mem _ hz)) ht).1
          rw [decide_eq_false (by omega)]; rfl
      · obtain ⟨q1, q2, q3⟩ := bestP_some hb
        have hy : y ∈ x :: r := hp.mem_iff.mpr (List.mem_filter.mpr ⟨q1, by simp [colQ, q2]⟩)
        rcases List.mem_cons.mp hy with rfl | hy
        · omega
        · have := List.rel_of_pairwise_cons hs hy
          unfold relT at this
          omega
/-- what is there is enough, and fewer ties than bobbins are needed -/
theorem bobb_ties {l : List S33} {a b c d col m : Int} (h : (tiesM l a b c d col m).2 = true) : (metersOfM l a b c d col).2 = true ∧ m ≤ (metersOfM l a b c d col).1 ∧ 0 ≤ (tiesM l a b c d col m).1 ∧ (tiesM l a b c d col m).1 < (l.length : Int) := by
  unfold tiesM at h ⊢
  unfold metersOfM
  cases hg : (yarnB l a b c d && (colB col && metB m))
  · rw [hg] at h; cases h
  rw [hg] at h
  simp only [if_true] at h ⊢
  simp only [Bool.and_eq_true] at hg
  rw [hg.1, hg.2.1]
  simp only [Bool.and_self, if_true]
  obtain ⟨h8, hx, ha⟩ := yarn_of hg.1
  have hp := isortB_perm ltT (l.filter (colQ col)) []
  rw [List.nil_append] at hp
  have hf := scanT_facts _ 0 0 (fun x h => by have := hx x (List.mem_filter.mp (hp.mem_iff.mp h)).1; omega) h
  have hl : (l.filter (colQ col)).length ≤ l.length := List.length_filter_le _ _
  have hm : metersM (isortB ltT [] (l.filter (colQ col))) = metersM (l.filter (colQ col)) := by
    have : ∀ {A B : List S33}, A.Perm B → metersM A = metersM B := fun h => by
      induction h with
      | nil => rfl
      | cons x _ ih => simp only [metersM, List.map_cons, List.sum_cons] at *; omega
      | swap x y l => simp only [metersM, List.map_cons, List.sum_cons]; omega
      | trans _ _ h1 h2 => exact h1.trans h2
    exact this hp
  have hlen := hp.length_eq
  rw [hm] at hf
  refine ⟨trivial, ?_, ?_, ?_⟩ <;> omega
/-- the bobbin that is told -/
theorem bobb_short {l : List S33} {a b c d col m : Int} (h : (shortM l a b c d col m).2 = true) : ∃ x ∈ l, x.f0 = (shortM l a b c d col m).1 ∧ x.f1 = col ∧ m ≤ x.f2 ∧ ∀ y ∈ l, y.f0 = (shortM l a b c d col m).1 → y = x := by
  unfold shortM at h ⊢
  cases hg : (yarnB l a b c d && (colB col && metB m))
  · rw [hg] at h; cases h
  rw [hg] at h
  simp only [if_true] at h ⊢
  simp only [Bool.and_eq_true] at hg
  obtain ⟨h8, hx, ha⟩ := yarn_of hg.1
  rcases hb : l.foldl (bestP col m) none with _ | x
  · rw [hb] at h; cases h
  · obtain ⟨q1, q2, q3⟩ := bestP_some hb
    refine ⟨x, q1, rfl, q2, q3, fun y hy e => ?_⟩
    have hw := asc_pw ha
    obtain ⟨i, hi, rfl⟩ := List.mem_iff_getElem.mp q1
    obtain ⟨j, hj, rfl⟩ := List.mem_iff_getElem.mp hy
    rcases Nat.lt_trichotomy i j with g | g | g
    · have := List.pairwise_iff_getElem.mp hw i j hi hj g
      simp only at e; omega
    · subst g; rfl
    · have := List.pairwise_iff_getElem.mp hw j i hj hi g
      simp only at e; omega
/-- a code that is drawn from: bytes, and not too many -/
def curOk (s : List Int) : Prop := s.length ≤ 65536 ∧ ∀ y ∈ s, 0 ≤ y ∧ y ≤ 255
theorem wf8 {x : Int} (h : (Lit.int .u8 x).wf = true) : 0 ≤ x ∧ x ≤ 255 := by
  have h1 := h
  simp [Lit.wf] at h1
  have h2 := h1.1; have h3 := h1.2
  constructor
  · exact h2
  · exact h3
theorem and255 (n : Int) : 0 ≤ wrap64 (Go.bits .and .u64 (IntKind.u64.wrap n / 1099511627776) 255) ∧ wrap64 (Go.bits .and .u64 (IntKind.u64.wrap n / 1099511627776) 255) ≤ 255 := by
  have hw : IntKind.u64.wrap n = n % 18446744073709551616 := by simp [IntKind.wrap, IntKind.bits, IntKind.signed]
  have h32 : (2 : Int) ^ 32 = 4294967296 := by decide
  have h := bits_mask .u64 32 (by decide) (fun n h0 h1 => by simp [IntKind.wrap, IntKind.bits, IntKind.signed]; omega) 8 (by decide) (IntKind.u64.wrap n / 1099511627776) (by rw [hw]; omega) (by rw [hw]; omega)
  rw [show ((2 : Int) ^ 8 - 1) = 255 by decide, show ((2 : Int) ^ 8) = 256 by decide] at h
  rw [h, w64 (by omega) (by omega)]
  omega
theorem next_ex {s : List Int} {p : Int} (h : Int) (hs : curOk s) (hp : 0 ≤ p ∧ p ≤ 1000000000) : ∃ a h', Fbc.f s p h = some (a, p + 1, h') ∧ 0 ≤ a ∧ a ≤ 255 := by
  have hw : wrap64 (p + 1) = p + 1 := w64 (by omega) (by omega)
  simp only [Fbc.f, hw]
  by_cases g : p < s.length
  · rw [if_pos g, if_pos hp.1, if_pos (by omega)]
    refine ⟨_, _, rfl, ?_⟩
    obtain ⟨n, rfl⟩ := nat_of hp.1
    have hm : s.getD n 0 ∈ s := by rw [List.getD_eq_getElem?_getD, List.getElem?_eq_getElem (by omega)]; exact List.getElem_mem (by omega)
    have := hs.2 _ hm
    rw [rd_nat, w64 (by omega) (by omega)]
    exact this
  · rw [if_neg g, if_neg (by omega)]
    exact ⟨_, _, rfl, and255 _⟩
theorem pick_ex {s : List Int} {p n : Int} (h : Int) (hs : curOk s) (hp : 0 ≤ p ∧ p ≤ 1000000) (hn : n ≤ 50000) : ∃ a p' h', Faf.f s p h n = some (a, p', h') ∧ (p ≤ p' ∧ p' ≤ p + 2) ∧ 0 ≤ a ∧ (1 ≤ n → a < n) := by
  unfold Faf.f
  by_cases g : n ≤ 1
  · rw [if_pos g]; exact ⟨_, _, _, rfl, by omega, by omega, by omega⟩
  rw [if_neg g]
  obtain ⟨a, h1, e1, b1⟩ := next_ex h hs (p := p) (by omega)
  rw [e1]
  simp only [Option.bind_some]
  by_cases g2 : n > 200
  · rw [if_pos g2]
    obtain ⟨b, h2, e2, b2⟩ := next_ex h1 hs (p := p + 1) (by omega)
    rw [e2]
    simp only [Option.bind_some]
    rw [if_neg (by omega), w64 (x := a * 256) (by omega) (by omega), w64 (x := a * 256 + b) (by omega) (by omega)]
    exact ⟨_, _, _, rfl, by omega, Int.tmod_nonneg _ (by omega), fun _ => Int.tmod_lt_of_pos _ (by omega)⟩
  · rw [if_neg g2, if_neg (by omega)]
    exact ⟨_, _, _, rfl, by omega, Int.tmod_nonneg _ (by omega), fun _ => Int.tmod_lt_of_pos _ (by omega)⟩
theorem one_ex {s : List Int} {p n : Int} (h : Int) (hs : curOk s) (hp : 0 ≤ p ∧ p ≤ 1000000) (hn : n ≤ 50000) : ∃ b p' h', Fbk.f s p h n = some (b, p', h') ∧ (p ≤ p' ∧ p' ≤ p + 2) := by
  obtain ⟨a, p1, h1, e1, b1, _⟩ := pick_ex h hs hp hn
  simp only [Fbk.f, e1, Option.bind_some]
  exact ⟨_, _, _, rfl, b1⟩
theorem among_ex {s : List Int} {p : Int} (h : Int) (xs : List Int) (hs : curOk s) (hp : 0 ≤ p ∧ p ≤ 1000000) (hx : 1 ≤ xs.length ∧ xs.length ≤ 50000) : ∃ v p' h', Fm.f s p h xs = some (v, p', h') ∧ (p ≤ p' ∧ p' ≤ p + 2) ∧ v ∈ xs := by
  obtain ⟨a, p1, h1, e1, b1, b2, b3⟩ := pick_ex (n := (xs.length : Int)) h hs hp (by omega)
  have b4 := b3 (by omega)
  simp only [Fm.f, e1, Option.bind_some]
  rw [if_pos b2, if_pos b4]
  refine ⟨_, _, _, rfl, b1, ?_⟩
  obtain ⟨n, rfl⟩ := nat_of b2
  rw [rd_nat, List.getD_eq_getElem?_getD, List.getElem?_eq_getElem (by omega)]
  exact List.getElem_mem (by omega)
theorem most_ex (a b : Int) : ∃ t, Fbs.f a b = some t := by
  unfold Fbs.f; split <;> exact ⟨_, rfl⟩
theorem findY_loop {l : List S33} (a b c d n : Int) (hl : l.length ≤ 1000) : ∀ (m k i : Nat), i + m = l.length → m < k → ∃ r, Fs.l0 k n (i : Int) l a b c d = some r ∧ ((r = -1 ∧ ∀ j, i ≤ j → j < l.length → (l.getD j z33).f0 ≠ n) ∨ ∃ j : Nat, r = j ∧ j < l.length ∧ (l.getD j z33).f0 = n) := by
  intro m
  induction m with
  | zero =>
    intro k i hi hk
    obtain ⟨k, rfl, _⟩ := succ_of (show 0 < k by omega)
    rw [Fs.l0, if_neg (by omega)]
    exact ⟨_, rfl, .inl ⟨rfl, fun j h1 h2 => by omega⟩⟩
  | succ m ih =>
    intro k i hi hk
    obtain ⟨k, rfl, _⟩ := succ_of (show 0 < k by omega)
    rw [Fs.l0, if_pos (by omega), if_pos (by omega), rdIB_nat]
    by_cases g : (l.getD i z33).f0 = n
    · rw [if_pos g]
      exact ⟨_, rfl, .inr ⟨i, rfl, by omega, g⟩⟩
    · rw [if_neg g, w64 (x := (i : Int) + 1) (by omega) (by omega)]
      obtain ⟨r, e, h⟩ := ih k (i + 1) (by omega) (by omega)
      refine ⟨r, e, ?_⟩
      rcases h with ⟨h1, h2⟩ | h
      · refine .inl ⟨h1, fun j hj1 hj2 => ?_⟩
        rcases Nat.lt_or_ge i j with h3 | h3
        · exact h2 j h3 hj2
        · obtain rfl : j = i := by omega
          exact g
      · exact .inr h
theorem findY_ex {k : Nat} {l : List S33} (a b c d n : Int) (hl : l.length ≤ 1000) (hk : l.length < k) : ∃ r, Fs.f k l a b c d n = some r ∧ ((r = -1 ∧ ∀ j, j < l.length → (l.getD j z33).f0 ≠ n) ∨ ∃ j : Nat, r = j ∧ j < l.length ∧ (l.getD j z33).f0 = n) := by
  obtain ⟨r, e, h⟩ := findY_loop a b c d n hl l.length k 0 (by omega) hk
  refine ⟨r, e, ?_⟩
  rcases h with ⟨h1, h2⟩ | h
  · exact .inl ⟨h1, fun j hj => h2 j (by omega) hj⟩
  · exact .inr h
def hasN (l : List S33) (n : Int) : Prop := ∃ j : Nat, j < l.length ∧ (l.getD j z33).f0 = n
theorem findY_has {k : Nat} {l : List S33} {n : Int} (a b c d : Int) (h : hasN l n) (hl : l.length ≤ 1000) (hk : l.length < k) : ∃ j : Nat, Fs.f k l a b c d n = some (j : Int) ∧ j < l.length ∧ (l.getD j z33).f0 = n := by
  obtain ⟨r, e, hr⟩ := findY_ex a b c d n hl hk
  rcases hr with ⟨_, h2⟩ | ⟨j, rfl, h1, h2⟩
  · obtain ⟨j, hj, e2⟩ := h
    exact absurd e2 (h2 j hj)
  · exact ⟨j, e, h1, h2⟩
theorem ownY_eq {l : List S33} (a b c d : Int) (hl : l.length ≤ 1000) : Fan.f l a b c d = some (l, a, b, c, d) := by
  simp only [Fan.f, Option.bind_some, List.length_nil, List.nil_append]
  rw [if_pos (by omega)]
theorem newY_eq {l : List S33} (a b c d x y : Int) (hl : l.length ≤ 1000) : Fbm.f l a b c d x y = some (l ++ [⟨a, x, y⟩], wrap64 (a + 1), b, c, d) := by
  simp only [Fbm.f, ownY_eq a b c d hl, Option.bind_some]
  rw [if_pos (by omega)]
theorem lessY_ex {k : Nat} {l : List S33} {n : Int} (a b c d m : Int) (h : hasN l n) (hl : l.length ≤ 900) (hk : l.length < k) : ∃ l', Faj.f k l a b c d n m = some (l', a, b, c, d) ∧ l'.length ≤ l.length ∧ ∀ n', n' ≠ n → hasN l n' → hasN l' n' := by
  obtain ⟨j, e, hj, hn⟩ := findY_has a b c d h (by omega) hk
  simp only [Faj.f, ownY_eq a b c d (show l.length ≤ 1000 by omega), e, Option.bind_some, List.length_nil, List.nil_append, Int.toNat_natCast]
  rw [if_pos (by omega), if_pos (by omega)]
  by_cases g : (rd_T33 l (j : Int)).f2 = m
  · rw [if_pos g, if_pos (by omega)]
    rw [w64 (x := (j : Int) + 1) (by omega) (by omega), if_pos (by rw [List.length_take]; omega), if_pos (by omega), if_pos (by omega), show ((j : Int) + 1).toNat = j + 1 by omega, if_pos (by rw [List.length_take, List.length_drop]; omega)]
    refine ⟨_, rfl, by rw [List.length_append, List.length_take, List.length_drop]; omega, fun n' hne ⟨q, hq, e2⟩ => ?_⟩
    have hqj : q ≠ j := fun e3 => hne (by rw [← e2, e3, hn])
    rcases Nat.lt_or_ge q j with h3 | h3
    · refine ⟨q, by rw [List.length_append, List.length_take]; omega, ?_⟩
      rw [List.getD_eq_getElem?_getD, List.getElem?_append_left (by rw [List.length_take]; omega), List.getElem?_take, if_pos h3, ← List.getD_eq_getElem?_getD]; exact e2
    · refine ⟨q - 1, by rw [List.length_append, List.length_take, List.length_drop]; omega, ?_⟩
      rw [List.getD_eq_getElem?_getD, List.getElem?_append_right (by rw [List.length_take]; omega), List.getElem?_drop, List.length_take, show j + 1 + (q - 1 - min j l.length) = q by omega, ← List.getD_eq_getElem?_getD]; exact e2
  · rw [if_neg g, if_pos (by omega)]
    refine ⟨_, rfl, by rw [List.length_set]; exact Nat.le_refl _, fun n' hne ⟨q, hq, e2⟩ => ?_⟩
    have hqj : j ≠ q := fun e3 => hne (by rw [← e2, ← e3, hn])
    refine ⟨q, by rw [List.length_set]; exact hq, ?_⟩
    rw [List.getD_eq_getElem?_getD, List.getElem?_set_ne hqj, ← List.getD_eq_getElem?_getD]; exact e2
theorem tieY_ex {k : Nat} {l : List S33} {n o : Int} (a b c d : Int) (hn : hasN l n) (ho : hasN l o) (hne : n ≠ o) (hl : l.length ≤ 900) (hk : l.length < k) : ∃ l' a' b' c' d' t, Fad.f k l a b c d n o = some (l', a', b', c', d', t) ∧ l'.length ≤ l.length := by
  obtain ⟨i, e1, hi, _⟩ := findY_has a b c d hn (by omega) hk
  obtain ⟨j, e2, hj, _⟩ := findY_has a b c d ho (by omega) hk
  obtain ⟨l1, e3, h1, h2⟩ := lessY_ex (k := k) a b c d ((rd_T33 l (j : Int)).f2) ho hl hk
  obtain ⟨q, e4, hq, _⟩ := findY_has (k := k) a b c d (h2 n hne hn) (by omega) (by omega)
  simp only [Fad.f, e1, e2, e3, e4, Option.bind_some]
  rw [if_pos (by omega), if_pos (by omega), if_pos (by omega), if_pos (by omega), if_pos (by omega), if_pos (by omega)]
  exact ⟨_, _, _, _, _, _, rfl, by rw [List.length_set]; exact h1⟩
theorem makeY_ex {k : Nat} {l : List S33} {a b c d x0 x1 x2 x3 : Int} (hl : l.length ≤ 8) (hk : 30 < k) (hs : Fax.f k l a b c d x0 x1 x2 x3 = some true) : ∃ l' a' b' c' d' t, Ft.f k l a b c d x0 x1 x2 x3 = some (l', a', b', c', d', t) ∧ l'.length ≤ 9 := by
  have good : ∀ (l' : List S33) (a' b' c' d' : Int), l'.length ≤ 9 → Ff.f k l' a' b' c' d' = some (yarnB l' a' b' c' d') := fun l' a' b' c' d' h => yarnS_eq (by omega) (by omega)
  by_cases g1 : x0 = 1
  · simp only [Ft.f, ownY_eq a b c d (show l.length ≤ 1000 by omega), Option.bind_some]
    rw [if_pos g1, newY_eq a b c d x2 x3 (by omega)]
    simp only [Option.bind_some]
    rw [good _ _ _ _ _ (by rw [List.length_append, List.length_singleton]; omega)]
    exact ⟨_, _, _, _, _, _, rfl, by rw [List.length_append, List.length_singleton]; omega⟩
  · obtain ⟨r, e, hr⟩ := findY_ex (k := k) a b c d x1 (show l.length ≤ 1000 by omega) (by omega)
    unfold Fax.f at hs
    rw [if_neg g1, e, Option.bind_some] at hs
    have hh : hasN l x1 := by
      rcases hr with ⟨rfl, _⟩ | ⟨j, rfl, h1, h2⟩
      · rw [if_pos (by omega)] at hs; simp at hs
      · exact ⟨j, h1, h2⟩
    have hr0 : ¬ r < 0 := by
      rcases hr with ⟨rfl, _⟩ | ⟨j, rfl, h1, h2⟩
      · rw [if_pos (by omega)] at hs; simp at hs
      · omega
    rw [if_neg hr0] at hs
    obtain ⟨l1, e1, h1, h2⟩ := lessY_ex (k := k) a b c d x3 hh (by omega) (by omega)
    simp only [Ft.f, ownY_eq a b c d (show l.length ≤ 1000 by omega), Option.bind_some]
    rw [if_neg g1]
    by_cases g2 : x0 = 2
    · obtain ⟨j, ej, hj, _⟩ := findY_has (k := k) a b c d hh (by omega) (by omega)
      rw [if_pos g2, ej]
      simp only [Option.bind_some]
      rw [if_pos (by omega), if_pos (by omega), e1]
      simp only [Option.bind_some]
      rw [newY_eq a b c d _ x3 (by omega)]
      simp only [Option.bind_some]
      split
      · rw [good _ _ _ _ _ (by rw [List.length_append, List.length_singleton]; omega)]
        exact ⟨_, _, _, _, _, _, rfl, by rw [List.length_append, List.length_singleton]; omega⟩
      · exact ⟨_, _, _, _, _, _, rfl, by rw [List.length_append, List.length_singleton]; omega⟩
    · rw [if_neg g2]
      by_cases g3 : x0 = 3
      · rw [if_pos g3] at hs ⊢
        obtain ⟨r2, e2, hr2⟩ := findY_ex (k := k) a b c d x2 (show l.length ≤ 1000 by omega) (by omega)
        rw [e2, Option.bind_some] at hs
        have ho : hasN l x2 := by
          rcases hr2 with ⟨rfl, _⟩ | ⟨j, rfl, h1, h2⟩
          · rw [if_neg (by omega)] at hs; simp at hs
          · exact ⟨j, h1, h2⟩
        have hne : x1 ≠ x2 := by
          intro e3
          subst e3
          split at hs
          · rw [if_pos rfl] at hs; simp at hs
          · simp at hs
        obtain ⟨l', a', b', c', d', t, et, ht⟩ := tieY_ex (k := k) a b c d hh ho hne (by omega) (by omega)
        rw [et]
        simp only [Option.bind_some]
        split
        · rw [good _ _ _ _ _ (by omega)]
          exact ⟨_, _, _, _, _, _, rfl, by omega⟩
        · exact ⟨_, _, _, _, _, _, rfl, by omega⟩
      · rw [if_neg g3]
        by_cases g4 : x0 = 4
        · rw [if_pos g4, e1]
          simp only [Option.bind_some]
          rw [good _ _ _ _ _ (by omega)]
          exact ⟨_, _, _, _, _, _, rfl, by omega⟩
        · rw [if_neg g4, e1]
          simp only [Option.bind_some]
          rw [good _ _ _ _ _ (by omega)]
          exact ⟨_, _, _, _, _, _, rfl, by omega⟩
theorem l21Step_ex {k : Nat} {l : List S33} (a b c d x0 x1 x2 x3 : Int) (hl : l.length ≤ 8) (hk : 30 < k) : ∃ t, Fax.f k l a b c d x0 x1 x2 x3 = some t := by
  obtain ⟨r, e, _⟩ := findY_ex (k := k) a b c d x1 (show l.length ≤ 1000 by omega) (by omega)
  obtain ⟨r2, e2, _⟩ := findY_ex (k := k) a b c d x2 (show l.length ≤ 1000 by omega) (by omega)
  simp only [Fax.f, Fah.f, Fal.f, l1In_eq, Option.bind_some, e, e2]
  (repeat' split) <;> exact ⟨_, rfl⟩
theorem stepY_ex {k : Nat} {l : List S33} (a b c d x0 x1 x2 x3 : Int) (hl : l.length ≤ 1000) (hk : 1100 < k) : ∃ l' a' b' c' d' t, Fw.f k l a b c d x0 x1 x2 x3 = some (l', a', b', c', d', t) ∧ l'.length ≤ 9 := by
  obtain ⟨k, rfl, hk⟩ := succ_of (show 1100 < k by omega)
  simp only [Fw.f, yarnS_eq (k := k + 1) (l := l) (a := a) (b := b) (c := c) (d := d) (by omega) (by omega), Option.bind_some, Fw.j0]
  cases hy : yarnB l a b c d
  · exact ⟨[], 0, 0, 0, 0, false, by simp, by simp⟩
  · have h8 := (yarn_of hy).1
    obtain ⟨t, et⟩ := l21Step_ex (k := k + 1) a b c d x0 x1 x2 x3 h8 (by omega)
    obtain ⟨t', et'⟩ := l21Step_ex (k := k) a b c d x0 x1 x2 x3 h8 (by omega)
    simp only [if_true, et, Option.bind_some]
    cases t
    · exact ⟨[], 0, 0, 0, 0, false, by simp, by simp⟩
    · have : t' = true := by
        have hm : LeO (Fax.f k l a b c d x0 x1 x2 x3) (Fax.f (k + 1) l a b c d x0 x1 x2 x3) := Fax.mono _ _ _ _ _ _ _ _ _ k
        have := hm _ et'
        rw [et] at this
        exact (Option.some.inj this).symm
      subst this
      obtain ⟨l', a', b', c', d', q, em, hl'⟩ := makeY_ex h8 (show 30 < k by omega) et'
      simp only [Bool.not_true, Bool.false_eq_true, if_false, em, Option.bind_some]
      cases q
      · exact ⟨[], 0, 0, 0, 0, false, by simp, by simp⟩
      · exact ⟨l', a', b', c', d', true, by simp, hl'⟩
theorem bstep_j2 {k : Nat} {s : List Int} {p : Int} (h x5 x6 x7 : Int) (hs : curOk s) (hk : 10 < k) (hp : 0 ≤ p ∧ p ≤ 500000) : ∃ a b c d p' h', Fb.j2 k x5 x6 x7 s p h = some (a, b, c, d, p', h') ∧ p ≤ p' ∧ p' ≤ p + 20 := by
  obtain ⟨k, rfl, hk⟩ := succ_of (show 10 < k by omega)
  obtain ⟨k, rfl, hk⟩ := succ_of (show 9 < k by omega)
  obtain ⟨k, rfl, hk⟩ := succ_of (show 8 < k by omega)
  obtain ⟨t, et⟩ := most_ex 1 (wrap64 (Int.tdiv x7 2))
  obtain ⟨v, p1, h1, e1, b1, _⟩ := among_ex h [1, 10, x7, t, wrap64 (x7 + 1)] hs (p := p) (by omega) (by simp)
  obtain ⟨q, p2, h2, e2, b2, _, _⟩ := pick_ex h1 hs (p := p1) (n := 9) (by omega) (by omega)
  obtain ⟨v3, p3, h3, e3, b3, _⟩ := among_ex h2 [0, 1, 1, 5, 6] hs (p := p2) (by omega) (by simp)
  obtain ⟨v4, p4, h4, e4, b4, _⟩ := among_ex h3 [1, 50, 500, 20000, 100000, 0] hs (p := p3) (by omega) (by simp)
  obtain ⟨v5, p5, h5, e5, b5, _⟩ := among_ex h2 [0, 6, 2] hs (p := p2) (by omega) (by simp)
  obtain ⟨v6, p6, h6, e6, b6, _⟩ := among_ex h5 [-1, 0, x5] hs (p := p5) (by omega) (by simp)
  obtain ⟨v7, p7, h7, e7, b7, _⟩ := among_ex h6 [-1, 0, 5] hs (p := p6) (by omega) (by simp)
  have j4 : ∀ b, ∃ a b' c d p' h', Fb.j4 (k + 1) x5 x6 v q b s p2 h2 = some (a, b', c, d, p', h') ∧ p ≤ p' ∧ p' ≤ p + 20 := fun b => by
    simp only [Fb.j4]
    cases b
    · simp only [Bool.false_eq_true, if_false]
      split
      · exact ⟨_, _, _, _, _, _, rfl, by omega, by omega⟩
      split
      · exact ⟨_, _, _, _, _, _, rfl, by omega, by omega⟩
      split
      · exact ⟨_, _, _, _, _, _, rfl, by omega, by omega⟩
      simp only [e5, Option.bind_some, e6, e7]
      exact ⟨_, _, _, _, _, _, rfl, by omega, by omega⟩
    · exact ⟨_, _, _, _, _, _, rfl, by omega, by omega⟩
  have j3 : ∀ b, ∃ a b' c d p' h', Fb.j3 (k + 1 + 1) x5 x6 v q b s p2 h2 = some (a, b', c, d, p', h') ∧ p ≤ p' ∧ p' ≤ p + 20 := fun b => by
    simp only [Fb.j3]
    cases b
    · simp only [Bool.false_eq_true, if_false]
      split <;> exact j4 _
    · simp only [if_true, e3, Option.bind_some, e4]
      exact ⟨_, _, _, _, _, _, rfl, by omega, by omega⟩
  simp only [Fb.j2, et, Option.bind_some, e1, e2]
  split
  · exact j3 _
  split <;> exact j3 _
theorem bstep_l0 {s : List Int} {l : List S33} (hs : curOk s) (hl : l.length ≤ 1000) (a b c d y0 y1 y2 x5 x7 : Int) : ∀ (m k i : Nat) (x6 p h : Int), i + m = l.length → 2 * m + 40 < k → 0 ≤ p → p + 2 * m ≤ 400000 → ∃ a' b' c' d' p' h', Fb.l0 k x5 x6 x7 (i : Int) s p h l a b c d y0 y1 y2 = some (a', b', c', d', p', h') ∧ p ≤ p' ∧ p' ≤ p + 2 * m + 20 := by
  intro m
  induction m with
  | zero =>
    intro k i x6 p h hi hk hp0 hp1
    obtain ⟨k, rfl⟩ : ∃ q, k = q + 1 + 1 := ⟨k - 2, by omega⟩
    rw [Fb.l0, if_neg (by omega), Fb.j1, if_neg (by decide)]
    obtain ⟨a', b', c', d', p', h', e, q1, q2⟩ := bstep_j2 (k := k) h x5 x6 x7 hs (by omega) (p := p) (by omega)
    exact ⟨a', b', c', d', p', h', e, by omega, by omega⟩
  | succ m ih =>
    intro k i x6 p h hi hk hp0 hp1
    obtain ⟨k, rfl⟩ : ∃ q, k = q + 1 + 1 := ⟨k - 2, by omega⟩
    obtain ⟨t, p1, h1, e1, b1⟩ := one_ex (n := 2) h hs (p := p) (by omega) (by omega)
    rw [Fb.l0, if_pos (by omega), e1, Option.bind_some, Fb.j1]
    simp only
    by_cases ht : t = true
    · rw [if_pos ht, if_pos (by omega), if_pos (by omega), w64 (x := (i : Int) + 1) (by omega) (by omega)]
      have go : ∀ x6, ∃ a' b' c' d' p' h', Fb.l0 k x5 x6 x7 ((i + 1 : Nat) : Int) s p1 h1 l a b c d y0 y1 y2 = some (a', b', c', d', p', h') ∧ p ≤ p' ∧ p' ≤ p + 2 * ((m + 1 : Nat) : Int) + 20 := fun x6 => by
        obtain ⟨a', b', c', d', p', h', e, q1, q2⟩ := ih k (i + 1) x6 p1 h1 (by omega) (by omega) (by omega) (by omega)
        exact ⟨a', b', c', d', p', h', e, by omega, by push_cast; omega⟩
      split
      · split
        · exact go _
        · exact go _
      · exact go _
    · rw [if_neg ht]
      obtain ⟨a', b', c', d', p', h', e, q1, q2⟩ := bstep_j2 (k := k) h1 x5 x6 x7 hs (by omega) (p := p1) (by omega)
      exact ⟨a', b', c', d', p', h', e, by omega, by push_cast; omega⟩
theorem bstep_ex {k : Nat} {s : List Int} {l : List S33} {p : Int} (h a b c d : Int) (hs : curOk s) (hl : l.length ≤ 1000) (hk : 2100 < k) (hp : 0 ≤ p ∧ p ≤ 300000) : ∃ a' b' c' d' p' h', Fb.f k s p h l a b c d = some (a', b', c', d', p', h') ∧ p ≤ p' ∧ p' ≤ p + 2100 := by
  simp only [Fb.f]
  by_cases h0 : (l.length : Int) > 0
  · obtain ⟨t, p1, h1, e1, b1, b2, b3⟩ := pick_ex h hs (p := p) (n := (l.length : Int)) (by omega) (by omega)
    have b4 := b3 (by omega)
    obtain ⟨t2, p2, h2, e2, b5, b6, b7⟩ := pick_ex h1 hs (p := p1) (n := (l.length : Int)) (by omega) (by omega)
    have b8 := b7 (by omega)
    rw [if_pos h0]
    simp only [e1, Option.bind_some]
    rw [if_pos (by omega), if_pos (by omega)]
    simp only [e2, Option.bind_some]
    rw [if_pos (by omega), if_pos (by omega)]
    obtain ⟨a', b', c', d', p', h', e, q1, q2⟩ := bstep_l0 hs hl a b c d ((rd_T33 l t).f0) ((rd_T33 l t).f1) ((rd_T33 l t).f2) ((rd_T33 l t).f0) ((rd_T33 l t).f2) l.length k 0 ((rd_T33 l t2).f0) p2 h2 (by omega) (by omega) (by omega) (by omega)
    exact ⟨a', b', c', d', p', h', e, by omega, by omega⟩
  · rw [if_neg h0]
    obtain ⟨a', b', c', d', p', h', e, q1, q2⟩ := bstep_j2 (k := k) h 1 1 100 hs (by omega) (p := p) (by omega)
    exact ⟨a', b', c', d', p', h', e, by omega, by omega⟩
theorem yarn_l0 {s : List Int} (hs : curOk s) : ∀ (n k : Nat) (l : List S33) (a b c d p h : Int), l.length ≤ 9 → n + 2200 < k → 0 ≤ p → p + 2100 * n ≤ 290000 → ∃ l' a' b' c' d' p' h', Fh.l0 k (n : Int) s p h l a b c d = some (l', a', b', c', d', p', h') ∧ l'.length ≤ 10 ∧ 0 ≤ p' ∧ p' ≤ p + 2100 * n + 20 := by
  intro n
  induction n with
  | zero =>
    intro k l a b c d p h hl hk hp0 hp1
    obtain ⟨k, rfl, _⟩ := succ_of (show 0 < k by omega)
    obtain ⟨t, p1, h1, e1, b1, _, _⟩ := pick_ex h hs (p := p) (n := 24) (by omega) (by omega)
    obtain ⟨v2, p2, h2, e2, b2, _⟩ := among_ex h1 [-1, 1] hs (p := p1) (by omega) (by simp)
    obtain ⟨v3, p3, h3, e3, b3, _⟩ := among_ex h1 [0, 1, 999, 1000] hs (p := p1) (by omega) (by simp)
    obtain ⟨v4, p4, h4, e4, b4, _⟩ := among_ex h1 [0, 1, 998] hs (p := p1) (by omega) (by simp)
    obtain ⟨v5, p5, h5, e5, b5, _⟩ := among_ex h4 [0, 6] hs (p := p4) (by omega) (by simp)
    obtain ⟨v6, p6, h6, e6, b6, _⟩ := among_ex h5 [0, 5] hs (p := p5) (by omega) (by simp)
    rw [Fh.l0, if_neg (by omega)]
    simp only [e1, e2, e3, e4, e5, e6, Option.bind_some]
    split
    · exact ⟨_, _, _, _, _, _, _, rfl, by omega, by omega, by omega⟩
    split
    · exact ⟨_, _, _, _, _, _, _, rfl, by omega, by omega, by omega⟩
    split
    · rw [if_pos (by omega)]
      exact ⟨_, _, _, _, _, _, _, rfl, by rw [List.length_append, List.length_singleton]; omega, by omega, by omega⟩
    · exact ⟨_, _, _, _, _, _, _, rfl, by omega, by omega, by omega⟩
  | succ n ih =>
    intro k l a b c d p h hl hk hp0 hp1
    obtain ⟨k, rfl, _⟩ := succ_of (show 0 < k by omega)
    obtain ⟨x0, x1, x2, x3, p1, h1, e1, q1, q2⟩ := bstep_ex (k := k) (l := l) h a b c d hs (by omega) (by omega) (p := p) (by omega)
    obtain ⟨l', a', b', c', d', t, e2, hl'⟩ := stepY_ex (k := k) (l := l) a b c d x0 x1 x2 x3 (by omega) (by omega)
    rw [Fh.l0, if_pos (by omega)]
    simp only [e1, e2, Option.bind_some]
    rw [w64 (x := ((n + 1 : Nat) : Int) - 1) (by omega) (by omega), show ((n + 1 : Nat) : Int) - 1 = (n : Int) by omega]
    split
    · obtain ⟨l2, a2, b2, c2, d2, p2, h2, e, r1, r2, r3⟩ := ih k l' a' b' c' d' p1 h1 hl' (by omega) (by omega) (by omega)
      exact ⟨l2, a2, b2, c2, d2, p2, h2, e, r1, r2, by push_cast; omega⟩
    · obtain ⟨l2, a2, b2, c2, d2, p2, h2, e, r1, r2, r3⟩ := ih k l a b c d p1 h1 hl (by omega) (by omega) (by omega)
      exact ⟨l2, a2, b2, c2, d2, p2, h2, e, r1, r2, by push_cast; omega⟩
theorem yarnDraw_ex {k : Nat} {s : List Int} (hs : curOk s) (hk : 3000 < k) : ∃ l a b c d p h, Fh.f k s 0 0 = some (l, a, b, c, d, p, h) ∧ l.length ≤ 10 ∧ 0 ≤ p ∧ p ≤ 100000 := by
  obtain ⟨v, p1, h1, e1, b1, m1⟩ := among_ex 0 [1, 1, 1, 990] hs (p := 0) (by omega) (by simp)
  obtain ⟨t, p2, h2, e2, b2, b3, b4⟩ := pick_ex h1 hs (p := p1) (n := 14) (by omega) (by omega)
  have b5 := b4 (by omega)
  obtain ⟨n, rfl⟩ := nat_of b3
  have hv : 1 ≤ v ∧ v ≤ 999 := by
    simp only [List.mem_cons, List.not_mem_nil, or_false] at m1
    omega
  have e3 : Fbd.f v = some ([], v, 0, 0, 0, true) := by
    simp only [Fbd.f, l1In_eq, Option.bind_some, decide_eq_true hv, if_true]
  obtain ⟨l, a, b, c, d, p, h, e, r1, r2, r3⟩ := yarn_l0 hs n k [] v 0 0 0 p2 h2 (by simp) (by omega) (by omega) (by omega)
  simp only [Fh.f, e1, e3, e2, Option.bind_some]
  exact ⟨l, a, b, c, d, p, h, e, r1, r2, by omega⟩
theorem dig_eq {n : Nat} (h : n < 10) : (⟨#[48, 49, 50, 51, 52, 53, 54, 55, 56, 57]⟩ : ByteArray).extract n (n + 1) = ⟨#[UInt8.ofNat (48 + n)]⟩ := by
  have : n = 0 ∨ n = 1 ∨ n = 2 ∨ n = 3 ∨ n = 4 ∨ n = 5 ∨ n = 6 ∨ n = 7 ∨ n = 8 ∨ n = 9 := by omega
  rcases this with rfl | rfl | rfl | rfl | rfl | rfl | rfl | rfl | rfl | rfl <;> decide
theorem digits_len : ∀ (j n : Nat), n < 10 ^ (j + 1) → (Go.Lib.decDigits n).length ≤ j + 1
  | 0, n, h => by rw [Go.Lib.decDigits, dif_pos (by simpa using h)]; simp
  | j + 1, n, h => by
    rw [Go.Lib.decDigits]
    by_cases h10 : n < 10
    · rw [dif_pos h10]; simp
    · rw [dif_neg h10, List.length_append, List.length_singleton]
      have := digits_len j (n / 10) (by rw [Nat.pow_succ] at h; omega)
      omega
def ytDec (n : Int) : ByteArray := ⟨(Go.Lib.decDigits n.toNat).toArray⟩
theorem ytDec_size {n : Int} (h : 0 ≤ n ∧ n ≤ 100000) : (ytDec n).size ≤ 6 := by
  have := digits_len 5 n.toNat (by omega)
  simpa [ytDec, ByteArray.size] using this
theorem num_nat : ∀ (j k n : Nat), n < 10 ^ (j + 1) → n ≤ 1000000 → Faa.f (k + j + 1) (n : Int) = some ⟨(Go.Lib.decDigits n).toArray⟩ := by
  have small : ∀ (k n : Nat), n < 10 → Faa.f (k + 1) (n : Int) = some ⟨(Go.Lib.decDigits n).toArray⟩ := fun k n h => by
    rw [Faa.f, if_neg (by omega), if_pos (by omega), if_pos (by omega), w64 (x := (n : Int) + 1) (by omega) (by omega), if_pos (by omega), if_pos (by omega)]
    rw [show ((n : Int) + 1).toNat = n + 1 by omega, Int.toNat_natCast, dig_eq h, Go.Lib.decDigits, dif_pos h]
  intro j
  induction j with
  | zero => intro k n h _; exact small k n (by simpa using h)
  | succ j ih =>
    intro k n h hm
    by_cases h10 : n < 10
    · exact small _ n h10
    · have e1 : Int.tdiv (n : Int) 10 = ((n / 10 : Nat) : Int) := by rw [Int.tdiv_eq_ediv_of_nonneg (by omega)]; rfl
      have e2 : Int.tmod (n : Int) 10 = ((n % 10 : Nat) : Int) := by rw [Int.tmod_eq_emod_of_nonneg (by omega)]; rfl
      have h1 : n / 10 < 10 ^ (j + 1) := by rw [Nat.pow_succ] at h; omega
      have hs := digits_len (j + 1) n h
      have hd : Go.Lib.decDigits n = Go.Lib.decDigits (n / 10) ++ [UInt8.ofNat (48 + n % 10)] := by rw [Go.Lib.decDigits, dif_neg h10]
      rw [show k + (j + 1) + 1 = (k + j + 1) + 1 by omega, Faa.f, if_neg (by omega), if_neg (by omega), e1, w64 (x := ((n / 10 : Nat) : Int)) (by omega) (by omega), ih k (n / 10) h1 (by omega), Option.bind_some, e2]
      rw [if_pos (by omega), w64 (x := ((n % 10 : Nat) : Int) + 1) (by omega) (by omega), if_pos (by omega), if_pos (by omega)]
      rw [show (((n % 10 : Nat) : Int) + 1).toNat = n % 10 + 1 by omega, Int.toNat_natCast, dig_eq (by omega)]
      have hl : (⟨(Go.Lib.decDigits (n / 10)).toArray⟩ : ByteArray).size ≤ 1000000 := by
        have h6 := digits_len 6 (n / 10) (by omega)
        have : (⟨(Go.Lib.decDigits (n / 10)).toArray⟩ : ByteArray).size = (Go.Lib.decDigits (n / 10)).length := by simp [ByteArray.size]
        omega
      have hq : (⟨#[UInt8.ofNat (48 + n % 10)]⟩ : ByteArray).size = 1 := rfl
      rw [if_pos (by rw [hq]; omega), hd]
      exact congrArg some (ByteArray.ext (by rw [ByteArray.data_append]; simp))
theorem numS_eq {k : Nat} {n : Int} (h : 0 ≤ n ∧ n ≤ 100000) (hk : 6 < k) : Faa.f k n = some (ytDec n) := by
  obtain ⟨m, rfl⟩ := nat_of h.1
  obtain ⟨q, rfl⟩ : ∃ q, k = q + 5 + 1 := ⟨k - 6, by omega⟩
  exact num_nat 5 q m (by omega) (by omega)
theorem numI_eq {n : Int} (h : 0 ≤ n ∧ n ≤ 100000) : Fbe.f n = some (ytDec n) := by
  rw [Fbe.eq_, if_pos (by omega), Go.Lib.itoa, if_neg (by omega)]; rfl
def ytCol (c : Int) : ByteArray := Utf8.encode (97 + c)
theorem ytCol_facts {c : Int} (h : 0 ≤ c ∧ c ≤ 5) : (ytCol c).size = 1 ∧ strOfNums [(wrap64 (97 + c)) % 256] = ytCol c ∧ Utf8.encode (wrap32 (wrap64 (97 + c))) = ytCol c := by
  have e : ∀ d : Int, 97 ≤ d → d ≤ 102 → Utf8.encode d = ⟨#[UInt8.ofNat d.toNat]⟩ := fun d h1 h2 => by
    have hv : Utf8.valid d = true := by unfold Utf8.valid; simp; omega
    simp only [Utf8.encode, hv, if_true]
    rw [if_pos (by omega)]
  rw [w64 (x := 97 + c) (by omega) (by omega), show wrap32 (97 + c) = 97 + c by unfold wrap32; omega, show (97 + c) % 256 = 97 + c by omega]
  refine ⟨?_, ?_, rfl⟩
  · rw [ytCol, e _ (by omega) (by omega)]; rfl
  · rw [ytCol, e _ (by omega) (by omega)]; rfl
def ytW (x : S33) : ByteArray := (ytDec x.f0 ++ ytCol x.f1) ++ ytDec x.f2
def ytT (l : List S33) : Nat → ByteArray
  | 0 => ⟨#[]⟩
  | i + 1 => if i = 0 then ((⟨#[]⟩ ++ ytDec (l.getD i z33).f0) ++ ytCol (l.getD i z33).f1) ++ ytDec (l.getD i z33).f2
    else (((ytT l i ++ (⟨#[32]⟩ : ByteArray)) ++ ytDec (l.getD i z33).f0) ++ ytCol (l.getD i z33).f1) ++ ytDec (l.getD i z33).f2
def ytOk (l : List S33) : Prop := l.length ≤ 8 ∧ ∀ x ∈ l, (0 ≤ x.f0 ∧ x.f0 ≤ 100000) ∧ (0 ≤ x.f1 ∧ x.f1 ≤ 5) ∧ (0 ≤ x.f2 ∧ x.f2 ≤ 100000)
theorem yt_at {l : List S33} (h : ytOk l) {i : Nat} (hi : i < l.length) : (0 ≤ (l.getD i z33).f0 ∧ (l.getD i z33).f0 ≤ 100000) ∧ (0 ≤ (l.getD i z33).f1 ∧ (l.getD i z33).f1 ≤ 5) ∧ (0 ≤ (l.getD i z33).f2 ∧ (l.getD i z33).f2 ≤ 100000) := by
  refine h.2 _ ?_
  rw [List.getD_eq_getElem?_getD, List.getElem?_eq_getElem hi]; exact List.getElem_mem hi
theorem ytT_size {l : List S33} (h : ytOk l) : ∀ i, i ≤ l.length → (ytT l i).size ≤ 20 * i
  | 0, _ => Nat.zero_le _
  | i + 1, hi => by
    obtain ⟨h0, h1, h2⟩ := yt_at h (i := i) (by omega)
    have s0 := ytDec_size h0
    have s1 := (ytCol_facts h1).1
    have s2 := ytDec_size h2
    have ih := ytT_size h i (by omega)
    have e0 : (⟨#[]⟩ : ByteArray).size = 0 := rfl
    have e1 : (⟨#[32]⟩ : ByteArray).size = 1 := rfl
    rw [ytT]
    split <;> simp only [ByteArray.size_append, e0, e1] <;> omega
theorem join_snoc {xs : List (List UInt8)} {y sep : List UInt8} (h : xs ≠ []) : Go.Lib.join (xs ++ [y]) sep = Go.Lib.join xs sep ++ sep ++ y := by
  cases xs with
  | nil => exact absurd rfl h
  | cons x r =>
    rw [List.cons_append, Go.Lib.join_cons, Go.Lib.join_cons]
    simp [Go.Lib.joinTail]
theorem ytT_join {l : List S33} : ∀ i, i ≤ l.length → (ytT l i).data.toList = Go.Lib.join (((l.take i).map ytW).map (·.data.toList)) [32]
  | 0, _ => rfl
  | i + 1, hi => by
    have ih := ytT_join (l := l) i (by omega)
    have hg : l[i]? = some (l.getD i z33) := (List.getElem?_eq_getElem (show i < l.length by omega)).trans (congrArg some (by rw [List.getD_eq_getElem?_getD, List.getElem?_eq_getElem (show i < l.length by omega)]; rfl))
    rw [List.take_add_one, hg, Option.toList_some, List.map_append, List.map_append, List.map_singleton, List.map_singleton, ytT]
    by_cases h0 : i = 0
    · subst h0
      rw [if_pos rfl]
      simp [ytW, Go.Lib.join_one, ByteArray.data_append]
    · rw [if_neg h0, join_snoc (by
        intro e
        have := congrArg List.length e
        simp only [List.length_map, List.length_take, List.length_nil] at this
        omega), ← ih]
      simp [ytW, ByteArray.data_append]
theorem ytS_loop {l : List S33} (h : ytOk l) (a b c d : Int) : ∀ (n k i : Nat), i + n = l.length → n + 20 < k → Fn.l0 k (ytT l i) (i : Int) l a b c d = some (ytT l l.length, true) := by
  intro n
  induction n with
  | zero =>
    intro k i hi hk
    obtain ⟨k, rfl, _⟩ := succ_of (show 0 < k by omega)
    obtain rfl : i = l.length := by omega
    rw [Fn.l0, if_neg (by omega)]
  | succ n ih =>
    intro k i hi hk
    obtain ⟨k, rfl, _⟩ := succ_of (show 0 < k by omega)
    have hlt : i < l.length := by omega
    have hl := h.1
    have hk6 : 6 < k := by omega
    have hn := ih k (i + 1) (by omega) (by omega)
    have w1 : wrap64 ((i : Int) + 1) = ((i + 1 : Nat) : Int) := by rw [w64 (by omega) (by omega)]; push_cast; rfl
    have st := ytT_size h i (by omega)
    obtain ⟨h0, h1, h2⟩ := yt_at h hlt
    have n0 := numS_eq (k := k) h0 hk6
    have n2 := numS_eq (k := k) h2 hk6
    have s0 := ytDec_size h0
    obtain ⟨s1, c1, _⟩ := ytCol_facts h1
    have s2 := ytDec_size h2
    have e1 : (⟨#[32]⟩ : ByteArray).size = 1 := rfl
    rw [ytT] at hn
    rw [Fn.l0]
    simp only [rdIB_nat, n0, n2, w1, Option.bind_some, c1]
    generalize ytDec (l.getD i z33).f0 = A at hn s0 ⊢
    generalize ytDec (l.getD i z33).f2 = B at hn s2 ⊢
    generalize ytCol (l.getD i z33).f1 = C at hn s1 ⊢
    clear n0 n2 c1 h0 h1 h2 ih
    rw [if_pos (by omega), if_pos (by omega)]
    by_cases hz : i = 0
    · subst hz
      rw [if_pos rfl] at hn
      rw [if_neg (by omega)]
      simp only [ytT, ByteArray.size_append] at hn st ⊢
      rw [if_pos (by omega), if_pos (by omega), if_pos (by omega)]
      exact hn
    · rw [if_neg hz] at hn
      rw [if_pos (by omega)]
      simp only [ByteArray.size_append, e1]
      rw [if_pos (by omega), if_pos (by omega), if_pos (by omega), if_pos (by omega)]
      exact hn
theorem ytI_loop {l : List S33} (h : ytOk l) : ∀ (n k i : Nat), i + n = l.length → n < k → Fp.l0 k ((l.take i).map ytW) l (l.length : Int) (i : Int) = (Fbr.f (l.map ytW) (⟨#[32]⟩ : ByteArray)).bind fun t => some (t, true) := by
  intro n
  induction n with
  | zero =>
    intro k i hi hk
    obtain ⟨k, rfl, _⟩ := succ_of (show 0 < k by omega)
    obtain rfl : i = l.length := by omega
    rw [Fp.l0, if_neg (by omega), List.take_length]
  | succ n ih =>
    intro k i hi hk
    obtain ⟨k, rfl, _⟩ := succ_of (show 0 < k by omega)
    have hlt : i < l.length := by omega
    have hl := h.1
    have hn := ih k (i + 1) (by omega) (by omega)
    have w1 : wrap64 ((i : Int) + 1) = ((i + 1 : Nat) : Int) := by rw [w64 (by omega) (by omega)]; push_cast; rfl
    have hg : l[i]? = some (l.getD i z33) := (List.getElem?_eq_getElem (show i < l.length by omega)).trans (congrArg some (by rw [List.getD_eq_getElem?_getD, List.getElem?_eq_getElem (show i < l.length by omega)]; rfl))
    have hw : ((l.take i).map ytW).length ≤ 8 := by rw [List.length_map, List.length_take]; omega
    rw [List.take_add_one, hg, Option.toList_some, List.map_append, List.map_singleton] at hn
    have ew : ytW (l.getD i z33) = (ytDec (l.getD i z33).f0 ++ ytCol (l.getD i z33).f1) ++ ytDec (l.getD i z33).f2 := rfl
    rw [ew] at hn
    obtain ⟨h0, h1, h2⟩ := yt_at h hlt
    have n0 := numI_eq h0
    have n2 := numI_eq h2
    have s0 := ytDec_size h0
    obtain ⟨s1, _, c2⟩ := ytCol_facts h1
    have s2 := ytDec_size h2
    rw [Fp.l0]
    simp only [rdIB_nat, n0, n2, w1, Option.bind_some, c2]
    generalize ytDec (l.getD i z33).f0 = A at hn s0 ⊢
    generalize ytDec (l.getD i z33).f2 = B at hn s2 ⊢
    generalize ytCol (l.getD i z33).f1 = C at hn s1 ⊢
    generalize (l.take i).map ytW = X at hn hw ⊢
    clear n0 n2 c2 h0 h1 h2 ih ew
    simp only [ByteArray.size_append]
    rw [if_pos (by omega), if_pos (by omega), if_pos (by omega), if_pos (by omega), if_pos (by omega), if_pos (by omega)]
    exact hn
def ytM (l : List S33) (a b c d : Int) : ByteArray × Bool := if yarnB l a b c d then (if l.length = 0 then (⟨#[101, 109, 112, 116, 121]⟩, true) else (ytT l l.length, true)) else (⟨#[]⟩, false)
theorem yt_ok {l : List S33} {a b c d : Int} (h : yarnB l a b c d = true) : ytOk l := by
  simp only [yarnB, bobsB, tallyB, numB, Bool.and_eq_true, decide_eq_true_eq, List.all_eq_true, bobB] at h
  refine ⟨by omega, fun x hx => ?_⟩
  have h1 : (1 ≤ x.f0 ∧ x.f0 ≤ a - 1) ∧ (0 ≤ x.f1 ∧ x.f1 ≤ 5) ∧ (1 ≤ x.f2 ∧ x.f2 ≤ 100000) := by
    simp_all
  omega
theorem ytS_eq {k : Nat} {l : List S33} {a b c d : Int} (hk : 60 < k) (hl : l.length ≤ 1073741824) : Fn.f k l a b c d = some (ytM l a b c d) := by
  simp only [Fn.f, yarnS_eq (k := k) (l := l) (a := a) (b := b) (c := c) (d := d) (by omega) hl, Option.bind_some, ytM]
  cases hb : yarnB l a b c d
  · simp
  · simp only [if_true]
    have ho := yt_ok hb
    have h8 := ho.1
    by_cases h0 : l.length = 0
    · rw [if_pos (by omega), if_pos h0]
    · rw [if_neg (by omega), if_neg h0]
      exact ytS_loop ho a b c d l.length k 0 (by omega) (by omega)
theorem ytI_eq {k : Nat} {l : List S33} {a b c d : Int} (hk : l.length + 1 < k) (hl : l.length ≤ 1073741824) : Fp.f k l a b c d = some (ytM l a b c d) := by
  simp only [Fp.f, yarnI_eq (k := k) (l := l) (a := a) (b := b) (c := c) (d := d) hk hl, Option.bind_some, ytM]
  cases hb : yarnB l a b c d
  · simp
  · simp only [if_true]
    have ho := yt_ok hb
    have h8 := ho.1
    by_cases h0 : l.length = 0
    · rw [if_pos (by omega), if_pos h0]
    · rw [if_neg (by omega), if_neg h0]
      have e := ytI_loop ho l.length k 0 (by omega) (by omega)
      rw [List.take_zero, List.map_nil] at e
      have hj := ytT_join (l := l) l.length (Nat.le_refl _)
      rw [List.take_length] at hj
      have hs := ytT_size ho l.length (Nat.le_refl _)
      have hs2 : (ytT l l.length).size = (Go.Lib.join ((l.map ytW).map (·.data.toList)) [32]).length := by rw [← hj, Array.length_toList]; rfl
      refine e.trans ?_
      have e32 : (⟨#[32]⟩ : ByteArray).data.toList = [32] := rfl
      rw [Fbr.f, e32, if_pos ⟨by rw [List.length_map]; omega, by omega⟩, Option.bind_some]
      congr 2
      exact ByteArray.ext (by rw [← hj])
theorem bobb_draw {k : Nat} {s : List Int} (hs : curOk s) (hk : 5000 < k) : ∃ l a b c d col m, Fl.f k s = some (l, a, b, c, d, col, m) ∧ l.length ≤ 10 := by
  obtain ⟨l, a, b, c, d, p, h, e1, hl, b1, b2⟩ := yarnDraw_ex hs (show 3000 < k by omega)
  obtain ⟨v, p1, h1, e2, b3, _⟩ := among_ex h [0, 0, 1, 1, 2, 3, 5, 6, -1] hs (p := p) (by omega) (by simp)
  have ec : Fba.f s p h = some (v, p1, h1) := by simp only [Fba.f, e2, Option.bind_some]
  have go : ∀ (k : Nat) (t : Bool) (p : Int) (h : Int), 3 < k → 0 ≤ p ∧ p ≤ 200000 → (t = true → 0 < l.length) → ∃ l' a' b' c' d' col m, Fl.j0 k v t s p h l a b c d = some (l', a', b', c', d', col, m) ∧ l'.length ≤ 10 := fun k t p h hk hp ht => by
    obtain ⟨k, rfl, _⟩ := succ_of (show 0 < k by omega)
    obtain ⟨q, p2, h2, e3, b4, b5, b6⟩ := pick_ex h hs (p := p) (n := (l.length : Int)) (by omega) (by omega)
    obtain ⟨w, p3, h3, e4, _, _⟩ := among_ex h2 [1, 40, 60, 500, 549, 20000, 100000, 0, 100001] hs (p := p2) (by omega) (by simp)
    obtain ⟨w2, p4, h4, e5, _, _⟩ := among_ex h [1, 40, 60, 500, 549, 20000, 100000, 0, 100001] hs (p := p) (by omega) (by simp)
    simp only [Fl.j0]
    cases t
    · simp only [Bool.false_eq_true, if_false, e5, Option.bind_some]
      exact ⟨_, _, _, _, _, _, _, rfl, hl⟩
    · have hq := b6 (by have := ht rfl; omega)
      simp only [if_true, e3, Option.bind_some]
      rw [if_pos (by omega), if_pos (by omega)]
      simp only [e4, Option.bind_some]
      exact ⟨_, _, _, _, _, _, _, rfl, hl⟩
  simp only [Fl.f, e1, ec, Option.bind_some]
  by_cases h0 : (l.length : Int) > 0
  · obtain ⟨t, p2, h2, e3, b4⟩ := one_ex (n := 4) h1 hs (p := p1) (by omega) (by omega)
    rw [if_pos h0]
    simp only [e3, Option.bind_some]
    exact go k _ p2 h2 (by omega) (by omega) (fun _ => by omega)
  · rw [if_neg h0]
    exact go k _ p1 h1 (by omega) (by omega) (fun h => by cases h)
theorem bobb_j5 {k : Nat} {s : List Int} (hs : curOk s) (hk : 6000 < k) : Fj.j5 k s false = some true := by
  obtain ⟨k, rfl, hk⟩ := succ_of (show 5999 < k by omega)
  obtain ⟨l, a, b, c, d, p, h, e1, hl, b1, b2⟩ := yarnDraw_ex hs (show 3000 < k by omega)
  have hd : Fae.f k s = some (l, a, b, c, d) := by simp only [Fae.f, Far.f, e1, Option.bind_some]
  have e3 : (ytM l a b c d).2 = yarnB l a b c d := by
    unfold ytM
    cases yarnB l a b c d
    · rfl
    · simp only [if_true]; split <;> rfl
  simp only [Fj.j5, Bool.false_eq_true, if_false, hd, Option.bind_some, ytI_eq (k := k) (l := l) (a := a) (b := b) (c := c) (d := d) (by omega) (by omega), ytS_eq (k := k) (l := l) (a := a) (b := b) (c := c) (d := d) (by omega) (by omega), if_true, beq_self_eq_true, yarnI_eq (k := k) (l := l) (a := a) (b := b) (c := c) (d := d) (by omega) (by omega), e3]
theorem bobb_j4 {k : Nat} {s : List Int} (hs : curOk s) (hk : 6001 < k) : Fj.j4 k s = some true := by
  obtain ⟨k, rfl, hk⟩ := succ_of (show 6000 < k by omega)
  obtain ⟨l, a, b, c, d, p, h, e1, hl, b1, b2⟩ := yarnDraw_ex hs (show 3000 < k by omega)
  obtain ⟨v, p1, h1, e2, b3, _⟩ := among_ex h [0, 0, 1, 1, 2, 3, 5, 6, -1] hs (p := p) (by omega) (by simp)
  have ec : Fba.f s p h = some (v, p1, h1) := by simp only [Fba.f, e2, Option.bind_some]
  have hd : Fak.f k s = some (l, a, b, c, d, v) := by simp only [Fak.f, e1, ec, Option.bind_some]
  have hm := metersOf_eq (k := k) (l := l) (by omega) (by omega) a b c d v
  simp only [Fj.j4, hd, Option.bind_some, hm.1, hm.2, if_true, bne_self_eq_false]
  exact bobb_j5 hs (by omega)
theorem bobb_l0 {s : List Int} (hs : curOk s) {l : List S33} (hl : l.length ≤ 1000) (a b c d col m num : Int) {x : S33} (hx : x ∈ l) (h0 : x.f0 = num) (h1 : x.f1 = col) (h2 : m ≤ x.f2) (hu : ∀ y ∈ l, y.f0 = num → y = x) :
    ∀ (n k i : Nat) (t : Bool), i + n = l.length → n + 6100 < k → (t = true ∨ x ∈ l.drop i) → Fj.l0 k s col m num t (i : Int) l a b c d = some true := by
  intro n
  induction n with
  | zero =>
    intro k i t hi hk ht
    obtain ⟨k, rfl, _⟩ := succ_of (show 0 < k by omega)
    rw [Fj.l0, if_neg (by omega)]
    rcases ht with rfl | ht
    · rw [if_pos rfl]; exact bobb_j4 hs (by omega)
    · rw [List.drop_eq_nil_of_le (by omega)] at ht; cases ht
  | succ n ih =>
    intro k i t hi hk ht
    obtain ⟨k, rfl, _⟩ := succ_of (show 0 < k by omega)
    have hlt : i < l.length := by omega
    have hgd : l.getD i z33 = l[i] := by rw [List.getD_eq_getElem?_getD, List.getElem?_eq_getElem hlt, Option.getD_some]
    rw [Fj.l0, if_pos (by omega), if_pos (by omega), rdIB_nat, hgd, w64 (x := (i : Int) + 1) (by omega) (by omega)]
    have hdr : l.drop i = l[i] :: l.drop (i + 1) := List.drop_eq_getElem_cons hlt
    by_cases g : l[i].f0 = num
    · have e := hu l[i] (List.getElem_mem hlt) g
      rw [if_pos g, e, if_pos h1, decide_eq_true (show x.f2 ≥ m by omega)]
      exact ih k (i + 1) true (by omega) (by omega) (.inl rfl)
    · rw [if_neg g]
      refine ih k (i + 1) t (by omega) (by omega) ?_
      rcases ht with rfl | ht
      · exact .inl rfl
      · rw [hdr] at ht
        rcases List.mem_cons.mp ht with e | e
        · exact absurd (e ▸ h0) g
        · exact .inr e
theorem FnBobbins : Fj.Pure := by
  intro s hl
  by_cases hbig : (s.length : Int) > 65536
  · refine ⟨1, ?_⟩
    simp only [Fj.f, Fbt.f, Option.bind_some]
    rw [decide_eq_true hbig, if_pos rfl]
  have hs : curOk s := ⟨by omega, fun y hy => wf8 (hl.2 y hy)⟩
  obtain ⟨l, a, b, c, d, col, m, e1, h10⟩ := bobb_draw hs (show 5000 < 10000 by omega)
  obtain ⟨kt, ht⟩ := tiesS_eq (l := l) (by omega) a b c d col m
  obtain ⟨ks, hss⟩ := shortS_eq (l := l) (by omega) a b c d col m
  refine ⟨kt + ks + 10000 + 3, ?_⟩
  obtain ⟨l', a', b', c', d', col', m', e1', h10'⟩ := bobb_draw hs (show 5000 < kt + ks + 10000 + 3 by omega)
  have hm : ∀ n, Fl.f (10000 + n) s = some (l, a, b, c, d, col, m) := fun n => by
    induction n with
    | zero => exact e1
    | succ n ih => exact Fl.mono _ (10000 + n) _ ih
  have e2 : Fl.f (kt + ks + 10000 + 3) s = some (l, a, b, c, d, col, m) := by
    have := hm (kt + ks + 3)
    rwa [show 10000 + (kt + ks + 3) = kt + ks + 10000 + 3 by omega] at this
  have hd : Fam.f (kt + ks + 10000 + 3) s = some (l, a, b, c, d, col, m) := by simp only [Fam.f, e2, Option.bind_some]
  simp only [Fj.f, Fbt.f, Option.bind_some]
  rw [decide_eq_false hbig, if_neg (by simp)]
  simp only [hd, Option.bind_some, tiesI_eq (k := kt + ks + 10000 + 3) (l := l) (by omega) (by omega) a b c d col m, ht (kt + ks + 10000 + 3) (by omega), if_true, bne_self_eq_false]
  simp only [Fj.j0, Bool.false_eq_true, if_false, shortI_eq (k := kt + ks + 10000 + 2) (l := l) (by omega) (by omega) a b c d col m, hss (kt + ks + 10000 + 2) (by omega), Option.bind_some, if_true, bne_self_eq_false]
  have hiff := bobb_iff (l := l) (a := a) (b := b) (c := c) (d := d) (col := col) (m := m)
  have j2 : ∀ k, 9000 < k → Fj.j2 k s col m (shortM l a b c d col m).1 (shortM l a b c d col m).2 l a b c d = some true := fun k hk => by
    obtain ⟨k, rfl, _⟩ := succ_of (show 0 < k by omega)
    simp only [Fj.j2]
    cases h2 : (shortM l a b c d col m).2
    · simp only [Bool.false_eq_true, if_false]
      exact bobb_j4 hs (by omega)
    · simp only [if_true]
      obtain ⟨x, hx, q0, q1, q2, q3⟩ := bobb_short h2
      exact bobb_l0 hs (by omega) a b c d col m _ hx q0 q1 q2 q3 l.length k 0 false (by omega) (by omega) (.inr hx)
  have j1 : Fj.j1 (kt + ks + 10000 + 2) s col m (tiesM l a b c d col m).1 (tiesM l a b c d col m).2 (shortM l a b c d col m).1 (shortM l a b c d col m).2 false l a b c d = some true := by
    simp only [Fj.j1, Bool.false_eq_true, if_false]
    cases h2 : (tiesM l a b c d col m).2
    · simp only [Bool.false_eq_true, if_false]
      exact j2 _ (by omega)
    · obtain ⟨q1, q2, q3, q4⟩ := bobb_ties h2
      simp only [if_true, (metersOf_eq (k := kt + ks + 10000 + 1) (l := l) (by omega) (by omega) a b c d col).2, Option.bind_some, q1]
      rw [if_neg (by omega), if_neg (by omega), if_neg (by omega)]
      exact j2 _ (by omega)
  cases h2 : (tiesM l a b c d col m).2
  · rw [h2] at j1
    simp only [Bool.false_eq_true, if_false]
    rw [show ((shortM l a b c d col m).2 != false) = false by rw [hiff, h2]; rfl]
    exact j1
  · rw [h2] at j1
    simp only [if_true]
    rw [show ((shortM l a b c d col m).2 != ((tiesM l a b c d col m).1 == 0)) = false by
      rw [hiff, h2, Bool.true_and]
      by_cases g : (tiesM l a b c d col m).1 = 0
      · simp [g]
      · simp [g]]
    exact j1
end Go.Proofs.YtiomfignokichaaGreatDoor.Pure

namespace Go.Proofs.Open
open Go.RowKit Go.WideShapes Go.Proofs.YtiomfignokichaaGreatDoorW.PrintWords
set_option linter.unusedVariables false
theorem mapM_cons_some {α β : Type} {f : α → Option β} {a : α} {l : List α} {ys : List β} (h : (a :: l).mapM f = some ys) : ∃ y ys', f a = some y ∧ l.mapM f = some ys' ∧ ys = y :: ys' := by
  rw [List.mapM_cons] at h
  obtain ⟨y, hy, h⟩ := Option.bind_eq_some_iff.mp h
  obtain ⟨ys', hys, h⟩ := Option.bind_eq_some_iff.mp h
  exact ⟨y, ys', hy, hys, (Option.some.inj h).symm⟩
theorem mapM_some_get {α β : Type} {f : α → Option β} : ∀ {l : List α} {ys : List β}, l.mapM f = some ys → ys.length = l.length ∧ ∀ (i : Nat) (a : α), l[i]? = some a → ∃ y, f a = some y ∧ ys[i]? = some y
  | [], ys, h => by
    obtain rfl : ys = [] := by simpa using h
    exact ⟨rfl, fun i a h => by simp at h⟩
  | a :: l, ys, h => by
    obtain ⟨y, ys', hy, hys, rfl⟩ := mapM_cons_some h
    obtain ⟨hl, hg⟩ := mapM_some_get hys
    refine ⟨by simp [hl], fun i b hb => ?_⟩
    cases i with
    | zero => obtain rfl : a = b := by simpa using hb
              exact ⟨y, hy, rfl⟩
    | succ i => exact hg i b (by simpa using hb)
theorem cells_get {w : World} {base n : Nat} {a : Addr} {cs : List Value} (h : w.cells? base a n = some cs) : cs.length = n ∧ ∀ i u, cs[i]? = some u → w.cell? (a.add i) = some u := by
  unfold World.cells? at h
  split at h
  · obtain ⟨hl, hg⟩ := mapM_some_get h
    rw [List.length_range] at hl
    refine ⟨hl, fun i u hu => ?_⟩
    have hi : i < n := by have := (List.getElem?_eq_some_iff.1 hu).1; omega
    obtain ⟨y, hy, hy2⟩ := hg i i (by simp [List.getElem?_range hi])
    rw [hu] at hy2
    injection hy2 with hy2
    rw [hy2]; exact hy
  · cases h
theorem add_add (a : Addr) (i j : Nat) : (a.add i).add j = a.add (i + j) := by
  by_cases hi : i = 0
  · subst hi
    rw [Nat.zero_add, show a.add 0 = a by unfold Addr.add; simp]
  · by_cases hj : j = 0
    · subst hj
      rw [Nat.add_zero, show (a.add i).add 0 = a.add i by unfold Addr.add; simp]
    · unfold Addr.add
      simp [hi, hj, Nat.add_assoc]
/-- Whatever reads as a datum of type t is an x of kind d, within ok. -/
structure Opens {α : Type} (P : Program) (W : World) (t : TypeId) (d : Kd α) (ok : α → Prop) : Prop where
  get : ∀ {H : Type} (enc : TypeId × Value → H) (base : Nat) (spare : Nat → Bool) (held : Bool) (fuel : Nat) (cs : List Value) (y : DataW H × List MemPlace), DataW.trod enc P W base spare held fuel t cs = some y → ∃ x, d.K W x cs ∧ ok x
theorem Opens.int {P : Program} {W : World} {t : TypeId} {k : IntKind} (hu : P.underlying t = some (.int k)) : Opens P W t (Kd.int k) (fun x => (Lit.int k x).wf = true) := ⟨by
  intro H enc base spare held fuel cs y h
  cases fuel with
  | zero => simp [DataW.trod] at h
  | succ fuel =>
    simp only [DataW.trod, hu] at h
    split at h <;> first | (cases h; done) | skip
    all_goals rename_i heq
    all_goals first | (cases heq; done) | skip
    rename_i k0 k' n
    injection heq with heq
    injection heq with heq
    subst heq
    split at h
    · rename_i hk
      obtain ⟨rfl, hw⟩ := hk
      exact ⟨n, rfl, hw⟩
    · cases h⟩
theorem Opens.bool {P : Program} {W : World} {t : TypeId} (hu : P.underlying t = some .bool) : Opens P W t Kd.bool (fun _ => True) := ⟨by
  intro H enc base spare held fuel cs y h
  cases fuel with
  | zero => simp [DataW.trod] at h
  | succ fuel =>
    simp only [DataW.trod, hu] at h
    split at h <;> first | (cases h; done) | skip
    all_goals rename_i heq
    all_goals first | (cases heq; done) | skip
    rename_i b
    exact ⟨b, rfl, trivial⟩⟩
theorem Opens.string {P : Program} {W : World} {t : TypeId} (hu : P.underlying t = some .string) : Opens P W t Kd.string (fun s => s.size ≤ 9223372036854775807) := ⟨by
  intro H enc base spare held fuel cs y h
  cases fuel with
  | zero => simp [DataW.trod] at h
  | succ fuel =>
    simp only [DataW.trod, hu] at h
    split at h <;> first | (cases h; done) | skip
    all_goals rename_i heq
    all_goals first | (cases heq; done) | skip
    rename_i s
    split at h
    · rename_i hs
      exact ⟨s, rfl, by simpa [maxLen] using hs⟩
    · cases h⟩
theorem pick {α : Type} {n : Nat} {Q : Nat → α → Prop} (h : ∀ i, i < n → ∃ x, Q i x) : ∃ xs : List α, xs.length = n ∧ ∀ i x, xs[i]? = some x → Q i x := by
  induction n with
  | zero => exact ⟨[], rfl, fun i x h => by simp at h⟩
  | succ n ih =>
    obtain ⟨xs, hl, hq⟩ := ih (fun i hi => h i (by omega))
    obtain ⟨x, hx⟩ := h n (by omega)
    refine ⟨xs ++ [x], by simp [hl], fun i z hz => ?_⟩
    by_cases hi : i < n
    · rw [List.getElem?_append_left (by omega)] at hz
      exact hq i z hz
    · have hlt := (List.getElem?_eq_some_iff.1 hz).1
      simp [hl] at hlt
      obtain rfl : i = n := by omega
      rw [List.getElem?_append_right (by omega), hl, Nat.sub_self] at hz
      obtain rfl : x = z := by simpa using hz
      exact hx
theorem Opens.slice {α : Type} {P : Program} {W : World} {t e : TypeId} {d : Kd α} {ok : α → Prop} (hu : P.underlying t = some (.slice e)) (hc : P.cellsOf e = d.sz) (h : Opens P W e d ok) :
    Opens P W t (Kd.slice e d) (fun l => l.length ≤ 9223372036854775807 ∧ ∀ x ∈ l, ok x) := ⟨by
  intro H enc base spare held fuel cs y hd
  cases fuel with
  | zero => simp [DataW.trod] at hd
  | succ fuel =>
    simp only [DataW.trod, hu] at hd
    split at hd <;> first | (cases hd; done) | skip
    all_goals rename_i heq
    all_goals first | (cases heq; done) | skip
    · exact ⟨[], ⟨none, 0, rfl, Nat.le_refl _, rfl, by simp, fun hp => absurd hp (by simp)⟩, by simp, fun x hx => by simp at hx⟩
    · rename_i e' a len cap
      injection heq with heq
      injection heq with heq
      subst heq
      split at hd
      · rename_i hb
        obtain ⟨hb1, hb2, hb3⟩ := hb
        obtain ⟨elems, hel, _⟩ := Option.bind_eq_some_iff.mp hd
        obtain ⟨hl, hg⟩ := mapM_some_get hel
        rw [List.length_range] at hl
        have hm : len ≤ 9223372036854775807 := by have : cap ≤ 9223372036854775807 := by simpa [maxLen] using hb3
                                                  omega
        obtain ⟨xs, hxl, hxs⟩ := pick (n := len) (Q := fun i x => ∃ c, c.length = d.sz ∧ d.K W x c ∧ ok x ∧ ∀ j u, c[j]? = some u → W.cell? (a.add (i * d.sz + j)) = some u) (fun i hi => by
          obtain ⟨z, hz, _⟩ := hg i i (by simp [List.getElem?_range hi])
          obtain ⟨c, hcc, hct⟩ := Option.bind_eq_some_iff.mp hz
          obtain ⟨x, hK, hok⟩ := h.get enc base spare held fuel c z hct
          obtain ⟨hcl, hcell⟩ := cells_get hcc
          refine ⟨x, c, by rw [hcl, hc], hK, hok, fun j u hu => ?_⟩
          have := hcell j u hu
          rw [add_add, hc] at this
          exact this)
        refine ⟨xs, ⟨some a, cap, by rw [hxl], by omega, rfl, by omega, fun _ => ⟨a, rfl, fun j p hj => ?_⟩⟩, by omega, fun x hx => ?_⟩
        · obtain ⟨c, h1, h2, h3, h4⟩ := hxs j p hj
          exact ⟨c, h1, h2, h4⟩
        · obtain ⟨j, hj, rfl⟩ := List.mem_iff_getElem.mp hx
          obtain ⟨c, h1, h2, h3, h4⟩ := hxs j _ (List.getElem?_eq_getElem hj)
          exact h3
      · cases hd⟩
/-- The fields from an offset on. -/
structure OpensAt {α : Type} (P : Program) (W : World) (fs : List Field) (off : Nat) (d : Kd α) (ok : α → Prop) : Prop where
  get : ∀ {H : Type} (enc : TypeId × Value → H) (base : Nat) (spare : Nat → Bool) (held : Bool) (fuel : Nat) (cs : List Value) (ys : List (DataW H × List MemPlace)), cs.length = off + d.sz →
    (fs.mapM fun f => DataW.trod enc P W base spare held fuel f.type ((cs.drop f.offset).take (P.cellsOf f.type))) = some ys → ∃ x, d.K W x (cs.drop off) ∧ ok x
theorem OpensAt.one {α : Type} {P : Program} {W : World} {f : Field} {off : Nat} {d : Kd α} {ok : α → Prop} (ho : f.offset = off) (hc : P.cellsOf f.type = d.sz) (h : Opens P W f.type d ok) : OpensAt P W [f] off d ok := ⟨by
  intro H enc base spare held fuel cs ys hl hm
  obtain ⟨y, _, hy, _, _⟩ := mapM_cons_some hm
  rw [ho, hc, List.take_of_length_le (by rw [List.length_drop]; omega)] at hy
  exact h.get enc base spare held fuel _ y hy⟩
theorem OpensAt.cons {α β : Type} {P : Program} {W : World} {f : Field} {fs : List Field} {off : Nat} {d : Kd α} {d2 : Kd β} {ok : α → Prop} {ok2 : β → Prop} (ho : f.offset = off) (hc : P.cellsOf f.type = d.sz) (h : Opens P W f.type d ok) (h2 : OpensAt P W fs (off + d.sz) d2 ok2) :
    OpensAt P W (f :: fs) off (Kd.pair d d2) (fun x => ok x.1 ∧ ok2 x.2) := ⟨by
  intro H enc base spare held fuel cs ys hl hm
  have hl2 : cs.length = off + (d.sz + d2.sz) := hl
  obtain ⟨y, ys', hy, hys, _⟩ := mapM_cons_some hm
  rw [ho, hc] at hy
  obtain ⟨x, hK, hok⟩ := h.get enc base spare held fuel _ y hy
  obtain ⟨x2, hK2, hok2⟩ := h2.get enc base spare held fuel cs ys' (by omega) hys
  refine ⟨(x, x2), ⟨(cs.drop off).take d.sz, cs.drop (off + d.sz), ?_, hK, hK2⟩, hok, hok2⟩
  rw [← List.drop_drop, List.take_append_drop]⟩
theorem Opens.struct {α : Type} {P : Program} {W : World} {t : TypeId} {fs : Array Field} {d : Kd α} {ok : α → Prop} (hu : P.underlying t = some (.struct fs)) (hc : P.cellsOf t = d.sz) (h : OpensAt P W fs.toList 0 d ok) : Opens P W t d ok := ⟨by
  intro H enc base spare held fuel cs y hd
  cases fuel with
  | zero => simp [DataW.trod] at hd
  | succ fuel =>
    simp only [DataW.trod, hu] at hd
    split at hd
    · rename_i hl
      obtain ⟨ys, hys, _⟩ := Option.map_eq_some_iff.mp hd
      exact h.get enc base spare held fuel cs ys (by omega) hys
    · cases hd⟩
theorem Opens.iso {α β : Type} {P : Program} {W : World} {t : TypeId} {d : Kd α} {f : β → α} {ok : α → Prop} (h : Opens P W t d ok) (g : α → β) (hg : ∀ x, f (g x) = x) : Opens P W t (Kd.iso d f) (fun y => ok (f y)) := ⟨by
  intro H enc base spare held fuel cs y hd
  obtain ⟨x, hK, hok⟩ := h.get enc base spare held fuel cs y hd
  refine ⟨g x, ?_, ?_⟩
  · show d.K W (f (g x)) cs
    rw [hg]; exact hK
  · rw [hg]; exact hok⟩
theorem wf_i64 {x : Int} (h : (Lit.int .i64 x).wf = true) : -9223372036854775808 ≤ x ∧ x ≤ 9223372036854775807 := by
  have h1 := h
  simp [Lit.wf] at h1
  exact ⟨h1.1, h1.2⟩
end Go.Proofs.Open

namespace Go.Proofs.YtiomfignokichaaGreatDoor.X
open Ho (bS eS)
open Go.RowKit Go.Proofs.YtiomfignokichaaGreatDoorW.PrintWords Go.Proofs.YtiomfignokichaaGreatDoorW.PrintLast Go.Proofs.YtiomfignokichaaGreatDoorW.PrintMore
attribute [local go_sem] max2_int min2_int max_two min_two max_three min_three max_four min_four   -- for this text's walks alone
set_option linter.unusedVariables false
set_option linter.unusedSimpArgs false

end Go.Proofs.YtiomfignokichaaGreatDoor.X
