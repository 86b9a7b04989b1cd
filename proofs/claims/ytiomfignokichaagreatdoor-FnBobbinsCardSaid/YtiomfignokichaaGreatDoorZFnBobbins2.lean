/- What the law FnBobbins needs, part 3 of 5: what each function of the program that it reaches returns (printed by this session's own program, checked by Lean), and plain mathematics about it. Conditions: those of each theorem. -/
import Derived.Test.YtiomfignokichaaGreatDoorZFnBobbins1
namespace Go.Proofs.YtiomfignokichaaGreatDoor.X
open Ho (bS eS)
open Sq (I O Z)
open Mx
open Go.RowKit Go.Proofs.YtiomfignokichaaGreatDoorW.PrintWords Go.Proofs.YtiomfignokichaaGreatDoorW.PrintLast Go.Proofs.YtiomfignokichaaGreatDoorW.PrintMore
attribute [local go_sem] max2_int min2_int max_two min_two max_three min_three max_four min_four
set_option linter.unusedVariables false
set_option linter.unusedSimpArgs false
set_option maxHeartbeats 8000000
set_option maxRecDepth 100000
section
attribute [local go_sem ↓] Ho.isSome_setCell_
/-! ### Ft: function 78 -/
def Ft.f (k : Nat) (l0_0 : List (S33)) (a0_1 : Int) (a0_2 : Int) (a0_3 : Int) (a0_4 : Int) (a1_0 : Int) (a1_1 : Int) (a1_2 : Int) (a1_3 : Int) : Option ((List (S33)) × Int × Int × Int × Int × Bool) := (Fan.f l0_0 a0_1 a0_2 a0_3 a0_4).bind fun bt104 => (if a1_0 = 1 then ((Fbm.f l0_0 a0_1 a0_2 a0_3 a0_4 a1_2 a1_3).bind fun bt112 => ((Ff.f k bt112.1 bt112.2.1 (wrap64 (a0_2 + a1_3)) bt112.2.2.2.1 bt112.2.2.2.2).bind fun t119 => (some (bt112.1, bt112.2.1, wrap64 (a0_2 + a1_3), bt112.2.2.2.1, bt112.2.2.2.2, t119)))) else (if a1_0 = 2 then ((Fs.f k l0_0 a0_1 a0_2 a0_3 a0_4 a1_1).bind fun t120 => (if 0 ≤ t120 then (if t120 < (l0_0.length : Int) then ((Faj.f k l0_0 a0_1 a0_2 a0_3 a0_4 a1_1 a1_3).bind fun bt123 => ((Fbm.f bt123.1 bt123.2.1 bt123.2.2.1 bt123.2.2.2.1 bt123.2.2.2.2 ((rd_T33 l0_0 t120).f1) a1_3).bind fun bt130 => (if a1_3 < ((rd_T33 l0_0 t120).f2) then ((Ff.f k bt130.1 bt130.2.1 bt130.2.2.1 bt130.2.2.2.1 bt130.2.2.2.2).bind fun t137 => (some (bt130.1, bt130.2.1, bt130.2.2.1, bt130.2.2.2.1, bt130.2.2.2.2, t137))) else (some (bt130.1, bt130.2.1, bt130.2.2.1, bt130.2.2.2.1, bt130.2.2.2.2, false))))) else (none)) else (none))) else (if a1_0 = 3 then ((Fad.f k l0_0 a0_1 a0_2 a0_3 a0_4 a1_1 a1_2).bind fun bt138 => (if bt138.2.2.2.2.2 = true then ((Ff.f k bt138.1 bt138.2.1 bt138.2.2.1 bt138.2.2.2.1 bt138.2.2.2.2.1).bind fun t146 => (some (bt138.1, bt138.2.1, bt138.2.2.1, bt138.2.2.2.1, bt138.2.2.2.2.1, t146))) else (some (bt138.1, bt138.2.1, bt138.2.2.1, bt138.2.2.2.1, bt138.2.2.2.2.1, false)))) else (if a1_0 = 4 then ((Faj.f k l0_0 a0_1 a0_2 a0_3 a0_4 a1_1 a1_3).bind fun bt147 => ((Ff.f k bt147.1 bt147.2.1 bt147.2.2.1 (wrap64 (a0_3 + a1_3)) bt147.2.2.2.2).bind fun t154 => (some (bt147.1, bt147.2.1, bt147.2.2.1, wrap64 (a0_3 + a1_3), bt147.2.2.2.2, t154)))) else ((Faj.f k l0_0 a0_1 a0_2 a0_3 a0_4 a1_1 a1_3).bind fun bt155 => ((Ff.f k bt155.1 bt155.2.1 bt155.2.2.1 bt155.2.2.2.1 (wrap64 (a0_4 + a1_3))).bind fun t162 => (some (bt155.1, bt155.2.1, bt155.2.2.1, bt155.2.2.2.1, wrap64 (a0_4 + a1_3), t162))))))))
theorem Ft.mono : ∀ a0 a1 a2 a3 a4 a5 a6 a7 a8 k, LeO (Ft.f k a0 a1 a2 a3 a4 a5 a6 a7 a8) (Ft.f (k + 1) a0 a1 a2 a3 a4 a5 a6 a7 a8) := by
  intro a0 a1 a2 a3 a4 a5 a6 a7 a8 k
  unfold Ft.f
  repeat' (with_reducible first | apply Fs.mono | apply Ff.mono | apply Faj.mono | apply Fad.mono | exact LeO.refl _ | exact LeO.none _ | refine LeO.ite ?_ ?_ | refine LeO.bind ?_ (fun _ => ?_))
def Ft.T9 : Bool × List (List Nat × List Nat) := (true, [([], []), ([0], [0]), ([], []), ([], []), ([3], [3]), ([2, 4], [2, 4]), ([1, 5], [1, 5]), ([6], [6]), ([], []), ([8, 7, 5, 0, 1, 2, 3, 4, 5, 6, 7, 8], [7, 8])])
def Ft.B9 : List Nat := [0, 1, 0, 0, 8, 28, 63, 127, 0, 511]
theorem Ft.tab9 : rtab .any (opsOf Tryz.f78 9) = Ft.T9 := by kernel_rfl
theorem Ft.bits9 : waitsOk Ft.T9.2 Ft.B9 = true := by kernel_rfl
def Ft.T11 : Bool × List (List Nat × List Nat) := (true, [([], []), ([], []), ([1], [1]), ([], []), ([3], [3]), ([0, 2, 4], [0, 2, 4]), ([], []), ([6], [6]), ([], []), ([8], [8]), ([5, 7, 9, 5], [5, 7, 9]), ([10, 10, 0, 1, 2, 3, 4, 5, 6, 7, 8, 9, 10], [10])])
def Ft.B11 : List Nat := [0, 0, 2, 0, 8, 31, 0, 64, 0, 256, 1023, 2047]
theorem Ft.tab11 : rtab .any (opsOf Tryz.f78 11) = Ft.T11 := by kernel_rfl
theorem Ft.bits11 : waitsOk Ft.T11.2 Ft.B11 = true := by kernel_rfl
def Ft.T17 : Bool × List (List Nat × List Nat) := (true, [([], []), ([], []), ([1], [1]), ([2], [2]), ([3, 2, 2], [2, 3]), ([2, 4], [2, 4]), ([0, 4, 0], [0]), ([5, 6, 0, 1, 2, 3, 4, 5, 6], [5])])
def Ft.B17 : List Nat := [0, 0, 2, 6, 14, 30, 31, 127]
theorem Ft.tab17 : rtab .any (opsOf Tryz.f78 17) = Ft.T17 := by kernel_rfl
theorem Ft.bits17 : waitsOk Ft.T17.2 Ft.B17 = true := by kernel_rfl
theorem Ft.calls (k : Nat) (A0_0 : Option Addr) (c0_0 : Nat) (l0_0 : List (S33)) (a0_1 : Int) (a0_2 : Int) (a0_3 : Int) (a0_4 : Int) (a1_0 : Int) (a1_1 : Int) (a1_2 : Int) (a1_3 : Int) (r1 : List (S33)) (r2 : Int) (r3 : Int) (r4 : Int) (r5 : Int) (r6 : Bool) (w : World) (hr0_0 : Kd.C k33 w A0_0 l0_0.length l0_0) (hc0_0 : l0_0.length ≤ c0_0) (h : Ft.f k l0_0 a0_1 a0_2 a0_3 a0_4 a1_0 a1_1 a1_2 a1_3 = some (r1, r2, r3, r4, r5, r6)) :
  Calls Tryz.prog 78 #[.agg #[.slice A0_0 l0_0.length c0_0, .int .i64 a0_1, .int .i64 a0_2, .int .i64 a0_3, .int .i64 a0_4], .agg #[.int .i64 a1_0, .int .i64 a1_1, .int .i64 a1_2, .int .i64 a1_3]] w fun e w' => ∃ v0_ : Value, e = .returned (.tuple #[.agg #[v0_, .int .i64 r2, .int .i64 r3, .int .i64 r4, .int .i64 r5], .bool r6]) ∧ Kd.R k33 33 w' w.heap.size (fun _ => True) v0_ r1 ∧ Below w.heap.size w w' := by
 have hu26 := Tryz.underlying26
 have hu75 := Tryz.underlying75
 have hu33 := Tryz.underlying33
 have HR0_0 := Aside0.mk hr0_0
 have HC0_0 := Aside0.mk hc0_0
 clear hr0_0 hc0_0
 have HB := Aside0.mk (Below.refl w.heap.size w)
 have H := h
 clear h
 unfold Ft.f at H
 obtain ⟨⟨t4, t7, t8, t9, t10⟩, A3, H⟩ := bn H
 (try dsimp only at H)
 by_cases c4 : a1_0 = 1
 ·rw [if_pos c4] at H
  have c4b0 := beq_iff_eq.mpr c4
  have c4b1 := bne_eq_false_iff_eq.mpr c4
  clear c4
  obtain ⟨⟨t12, t15, t16, t17, t18⟩, A5, H⟩ := bn H
  (try dsimp only at H)
  obtain ⟨t19, A6, H⟩ := bn H
  (try dsimp only at H)
  simp only [Option.some.injEq, Prod.mk.injEq] at H
  obtain ⟨rfl, rfl, rfl, rfl, rfl, rfl⟩ := H
  go_enter Tryz.func78, Tryz.ntmps78
  try go_wp2_with (first | (refine bE 2 26 #[.slice A0_0 l0_0.length c0_0, .int .i64 a0_1, .int .i64 a0_2, .int .i64 a0_3, .int .i64 a0_4] ?_; intro g1 hg w7 B1 hb; have E1 := gW HB hg; replace HB := bT HB hb; clear hb hg) | (refine bE 3 75 #[.int .i64 a1_0, .int .i64 a1_1, .int .i64 a1_2, .int .i64 a1_3] ?_; intro g2 hg w8 B2 hb; have E2 := gW HB hg; obtain ⟨N1_2, N2_1⟩ := nB B1 hg; replace B1 := kT B1 hb; replace HB := bT HB hb; clear hb hg) | (refine bE 4 26 #[.slice none 0 0, .int .i64 0, .int .i64 0, .int .i64 0, .int .i64 0] ?_; intro g3 hg w9 B3 hb; have E3 := gW HB hg; obtain ⟨N1_3, N3_1⟩ := nB B1 hg; obtain ⟨N2_3, N3_2⟩ := nB B2 hg; replace B1 := kT B1 hb; replace B2 := kT B2 hb; replace HB := bT HB hb; clear hb hg; have hnb10 := nP N1_2; have hnb11 := nP N1_3; have hz12 := Sq.c5 B1.out) | (refine cE (some 10) Tryz.func89 #[.agg #[.slice A0_0 l0_0.length c0_0, .int .i64 a0_1, .int .i64 a0_2, .int .i64 a0_3, .int .i64 a0_4]] ?_; (with_reducible refine (Fan.calls _ _ l0_0 a0_1 a0_2 a0_3 a0_4 t4 t7 t8 t9 t10 _ ?side1 ?side2 A3.out).mono ?_); (case side1 => exact Cs (Kd.C_below HR0_0.out HB.out)); (case side2 => exact HC0_0.out); rintro e w13 ⟨v5, rfl, ho0, hb⟩; refine ⟨_, rfl, ?_⟩; have R6 := lw HB ho0; replace B1 := kT B1 hb; replace B2 := kT B2 hb; replace B3 := kT B3 hb; replace HB := bT HB hb; clear hb; (try clear ho0)) | (refine bE 6 26 #[.slice none 0 0, .int .i64 0, .int .i64 0, .int .i64 0, .int .i64 0] ?_; intro g11 hg w14 BK111 hb; have E11 := gW HB hg; obtain ⟨N1_11, N11_1⟩ := nB B1 hg; obtain ⟨N2_11, N11_2⟩ := nB B2 hg; obtain ⟨N3_11, N11_3⟩ := nB B3 hg; replace R6 := rT R6 hb; replace B1 := kT B1 hb; replace B2 := kT B2 hb; replace B3 := kT B3 hb; replace HB := bT HB hb; clear hb hg; obtain ⟨Ao15, co15, eo15⟩ := Kd.R_slice R6.out; subst eo15; have hnb16 := nP N11_1; have hnb17 := nP N11_2; have hnb18 := nP N11_3; have hz19 := Sq.c5 BK111.out; have hnb20 := nP N2_3; have hz21 := Sq.c4 B2.out; have hz22 := Sq.c5 B1.out) | (refine cE (some 32) Tryz.func90 #[.agg #[.slice A0_0 l0_0.length c0_0, .int .i64 a0_1, .int .i64 a0_2, .int .i64 a0_3, .int .i64 a0_4], .int .i64 a1_2, .int .i64 a1_3] ?_; (with_reducible refine (Fbm.calls _ _ l0_0 a0_1 a0_2 a0_3 a0_4 a1_2 a1_3 t12 t15 t16 t17 t18 _ ?side1 ?side2 A5.out).mono ?_); (case side1 => exact Kd.C_below HR0_0.out (Bq)); (case side2 => exact HC0_0.out); rintro e w23 ⟨v13, rfl, ho0, hb⟩; refine ⟨_, rfl, ?_⟩; have R14 := Ak (Kd.R_lower (Kd.R_new' ho0 (Kd.R_lt (by exact Ho.RS <| (Kd.R_mono (Kd.R_far (p := ⟨g11, 4, none⟩) (Kd.R_far (p := ⟨g11, 3, none⟩) (Kd.R_far (p := ⟨g11, 2, none⟩) (Kd.R_far (p := ⟨g11, 1, none⟩) (Kd.R_far (p := ⟨g11, 0, none⟩) (Kd.R_types R6.out BK111.out (by decide)) (fun _ hk => hk.2) (.slice Ao15 t4.length co15)) (fun _ hk => hk.2) (.int .i64 t7)) (fun _ hk => hk.2) (.int .i64 t8)) (fun _ hk => hk.2) (.int .i64 t9)) (fun _ hk => hk.2) (.int .i64 t10)) (fun _ h_ => h_.1))))) (below_size (Bq))); replace R6 := Ak (Kd.R_elder' (by exact Ho.RS <| (Kd.R_mono (Kd.R_far (p := ⟨g11, 4, none⟩) (Kd.R_far (p := ⟨g11, 3, none⟩) (Kd.R_far (p := ⟨g11, 2, none⟩) (Kd.R_far (p := ⟨g11, 1, none⟩) (Kd.R_far (p := ⟨g11, 0, none⟩) (Kd.R_types R6.out BK111.out (by decide)) (fun _ hk => hk.2) (.slice Ao15 t4.length co15)) (fun _ hk => hk.2) (.int .i64 t7)) (fun _ hk => hk.2) (.int .i64 t8)) (fun _ hk => hk.2) (.int .i64 t9)) (fun _ hk => hk.2) (.int .i64 t10)) (fun _ h_ => h_.1))) (Kd.R_base ho0) hb); replace B1 := Ak (blk_below (g := g1) (o := .cells #[.slice A0_0 l0_0.length c0_0, .int .i64 a0_1, .int .i64 a0_2, .int .i64 a0_3, .int .i64 a0_4] 26 (0, 0)) (Kz) hb); replace B2 := Ak (blk_below (g := g2) (o := .cells #[.int .i64 a1_0, .int .i64 a1_1, .int .i64 a1_2, .int .i64 a1_3] 75 (0, 0)) (Kz) hb); replace B3 := Ak (blk_below (g := g3) (o := .cells #[.slice none 0 0, .int .i64 0, .int .i64 0, .int .i64 0, .int .i64 0] 26 (0, 0)) (Kz) hb); replace BK111 := Ak (blk_below (g := g11) (o := .cells #[.slice Ao15 t4.length co15, .int .i64 t7, .int .i64 t8, .int .i64 t9, .int .i64 t10] 26 (0, 0)) (by apply Sq.put5; exact bS BK111.out) hb); replace HB := Ak (below_step (Bq) hb); clear hb; (try clear ho0); obtain ⟨Ao24, co24, eo24⟩ := Kd.R_slice R14.out; subst eo24; have hz25 := Sq.c5 BK111.out; have hz26 := Sq.c5 B1.out; have hz27 := Sq.c4 B2.out))
  refine gn g11 w23 (.cells #[.slice Ao24 t12.length co24, .int .i64 t15, .int .i64 (wrap64 (a0_2 + a1_3)), .int .i64 t17, .int .i64 t18] 26 (0, 0)) ?hh ?_
  (case hh => refine blk_put (cs := #[.slice Ao24 t12.length co24, .int .i64 t15, .int .i64 t16, .int .i64 t17, .int .i64 t18]) ?_ 2 _ rfl; apply Sq.put5; exact bS BK111.out)
  intro w28 hK_ hG_
  replace R14 := cR (ok' := (fun k_ => some k_ ≠ (.slice Ao15 t4.length co15 : Value).ownBlock)) R14 BK111 hK_ (fun _ hk => hk.1.2)
  replace R6 := cR (ok' := (fun k_ => some k_ ≠ (.slice Ao24 t12.length co24 : Value).ownBlock)) R6 BK111 hK_ (fun _ hk => hk.1.2)
  replace B1 := cK B1 hK_ N1_11
  replace B2 := cK B2 hK_ N2_11
  replace B3 := cK B3 hK_ N3_11
  replace HB := cB_ HB hK_ E11
  replace BK111 := hG_
  clear hK_
  replace R6 := rD R6
  replace R14 := rD R14
  replace B1 := kD B1
  replace B2 := kD B2
  replace B3 := kD B3
  replace BK111 := kD BK111
  replace HB := bD HB
  refine sT 8 (H5 g11 (.slice Ao24 t12.length co24) (.int .i64 t15) (.int .i64 (wrap64 (a0_2 + a1_3))) (.int .i64 t17) (.int .i64 t18)) [] Ft.tab17 Ft.bits17 (h5 BK111) fun hHeld HT_ HW_ => ?_
  generalize w28.drew = w29 at R6 R14 B1 B2 B3 BK111 HB hHeld ⊢
  refine Pu 1 ?_
  refine Pu 2 ?_
  refine Ta 0 ?_
  refine Ta 3 ?_
  refine oN 4 fun K hK => ?_
  refine gO Tryz.func24 #[.agg #[.slice Ao24 t12.length co24, .int .i64 t15, .int .i64 (wrap64 (a0_2 + a1_3)), .int .i64 t17, .int .i64 t18]] ?_
  with_reducible refine (Ff.calls k _ _ t12 t15 (wrap64 (a0_2 + a1_3)) t17 t18 t19 _ ?side1 ?side2 A6.out).mono ?_
  (case side1 => exact Cs (Kd.R_reads' R14.out).2.2)
  (case side2 => exact (Kd.R_reads' R14.out).2.1)
  rintro e w30 ⟨rfl, hb⟩
  refine ⟨_, rfl, ?_⟩
  replace R6 := rT R6 hb
  replace R14 := rT R14 hb
  replace B1 := kT B1 hb
  replace B2 := kT B2 hb
  replace B3 := kT B3 hb
  replace BK111 := kT BK111 hb
  replace HB := bT HB hb
  clear hb
  refine hK.out _ _ (h5 BK111) (fun hHeld => ?_)
  clear hK K
  refine nO 94 ?_
  refine Pu 5 ?_
  refine oN 6 fun K hK => ?_
  have hs31 := Sq.c5 B3.out
  have hns31_0 := N1_3.out
  have hns31_1 := N2_3.out
  have hns31_3 := N11_3.out
  have hms31_0 := N3_1.out
  have hms31_1 := N3_2.out
  have hms31_3 := N3_11.out
  refine sK ?_
  refine hK.out _ _ ⟨(cf5 N11_3.out hHeld.1), (cf5 N11_3.out hHeld.2.1), (cf5 N11_3.out hHeld.2.2.1), (cf5 N11_3.out hHeld.2.2.2.1), (cf5 N11_3.out hHeld.2.2.2.2)⟩ (fun hHeld => ?_)
  clear hK K
  refine Pu 7 ?_
  refine dO ?_
  try go_wp2
  refine bodyPost_ret (results_ct rfl _ _ g3 26 #[.slice Ao24 t12.length co24, .int .i64 t15, .int .i64 (wrap64 (a0_2 + a1_3)), .int .i64 t17, .int .i64 t18] (0, 0) _ rfl (by apply Sq.put5; exact bS B3.out) Tryz.underlying26 rfl (by kernel_rfl)) rfl ?_
  exact ⟨_, Ez, rY5 R14 B3 (fun _ hk => trivial), Bq⟩
 rw [if_neg c4] at H
 have c4b0 := beq_eq_false_iff_ne.mpr c4
 have c4b1 := bne_iff_ne.mpr c4
 by_cases c36 : a1_0 = 2
 rotate_left
 ·rw [if_neg c36] at H
  have c36b0 := beq_eq_false_iff_ne.mpr c36
  have c36b1 := bne_iff_ne.mpr c36
  by_cases c139 : a1_0 = 3
  ·rw [if_pos c139] at H
   have c139b0 := beq_iff_eq.mpr c139
   have c139b1 := bne_eq_false_iff_eq.mpr c139
   clear c139
   obtain ⟨⟨t38, t41, t42, t43, t44, t45⟩, A140, H⟩ := bn H
   (try dsimp only at H)
   by_cases c141 : t45 = true
   rotate_left
   ·replace c141 := Bool.eq_false_iff.mpr c141
    subst c141
    rw [if_neg (show ¬ (false = true) by decide)] at H
    simp only [Option.some.injEq, Prod.mk.injEq] at H
    obtain ⟨rfl, rfl, rfl, rfl, rfl, rfl⟩ := H
    go_enter Tryz.func78, Tryz.ntmps78
    try go_wp2_with (first | (refine bE 2 26 #[.slice A0_0 l0_0.length c0_0, .int .i64 a0_1, .int .i64 a0_2, .int .i64 a0_3, .int .i64 a0_4] ?_; intro g1 hg w170 B1 hb; have E1 := gW HB hg; replace HB := bT HB hb; clear hb hg) | (refine bE 3 75 #[.int .i64 a1_0, .int .i64 a1_1, .int .i64 a1_2, .int .i64 a1_3] ?_; intro g2 hg w171 B2 hb; have E2 := gW HB hg; obtain ⟨N1_2, N2_1⟩ := nB B1 hg; replace B1 := kT B1 hb; replace HB := bT HB hb; clear hb hg) | (refine bE 4 26 #[.slice none 0 0, .int .i64 0, .int .i64 0, .int .i64 0, .int .i64 0] ?_; intro g3 hg w172 B3 hb; have E3 := gW HB hg; obtain ⟨N1_3, N3_1⟩ := nB B1 hg; obtain ⟨N2_3, N3_2⟩ := nB B2 hg; replace B1 := kT B1 hb; replace B2 := kT B2 hb; replace HB := bT HB hb; clear hb hg; have n73 := nP N1_2; have n74 := nP N1_3; have z75 := Sq.c5 B1.out) | (refine cE (some 10) Tryz.func89 #[.agg #[.slice A0_0 l0_0.length c0_0, .int .i64 a0_1, .int .i64 a0_2, .int .i64 a0_3, .int .i64 a0_4]] ?_; (with_reducible refine (Fan.calls _ _ l0_0 a0_1 a0_2 a0_3 a0_4 t4 t7 t8 t9 t10 _ ?side1 ?side2 A3.out).mono ?_); (case side1 => exact Cs (Kd.C_below HR0_0.out HB.out)); (case side2 => exact HC0_0.out); rintro e w176 ⟨v5, rfl, ho0, hb⟩; refine ⟨_, rfl, ?_⟩; have R6 := lw HB ho0; replace B1 := kT B1 hb; replace B2 := kT B2 hb; replace B3 := kT B3 hb; replace HB := bT HB hb; clear hb; (try clear ho0)) | (refine bE 6 26 #[.slice none 0 0, .int .i64 0, .int .i64 0, .int .i64 0, .int .i64 0] ?_; intro g11 hg w177 BK111 hb; have E11 := gW HB hg; obtain ⟨N1_11, N11_1⟩ := nB B1 hg; obtain ⟨N2_11, N11_2⟩ := nB B2 hg; obtain ⟨N3_11, N11_3⟩ := nB B3 hg; replace R6 := rT R6 hb; replace B1 := kT B1 hb; replace B2 := kT B2 hb; replace B3 := kT B3 hb; replace HB := bT HB hb; clear hb hg; obtain ⟨Ao178, co178, eo178⟩ := Kd.R_slice R6.out; subst eo178; have n79 := nP N11_1; have n80 := nP N11_2; have n81 := nP N11_3; have z82 := Sq.c5 BK111.out; have n83 := nP N2_3; have z84 := Sq.c4 B2.out; have z85 := Sq.c5 B1.out) | (refine cE (some 73) Tryz.func92 #[.agg #[.slice A0_0 l0_0.length c0_0, .int .i64 a0_1, .int .i64 a0_2, .int .i64 a0_3, .int .i64 a0_4], .int .i64 a1_1, .int .i64 a1_2] ?_; (with_reducible refine (Fad.calls k _ _ l0_0 a0_1 a0_2 a0_3 a0_4 a1_1 a1_2 t38 t41 t42 t43 t44 false _ ?side1 ?side2 A140.out).mono ?_); (case side1 => exact Kd.C_below HR0_0.out (Bq)); (case side2 => exact HC0_0.out); rintro e w186 ⟨v39, rfl, ho0, hb⟩; refine ⟨_, rfl, ?_⟩; have R40 := Ak (Kd.R_lower (Kd.R_new' ho0 (Kd.R_lt (by exact Ho.RS <| (Kd.R_mono (Kd.R_far (p := ⟨g11, 4, none⟩) (Kd.R_far (p := ⟨g11, 3, none⟩) (Kd.R_far (p := ⟨g11, 2, none⟩) (Kd.R_far (p := ⟨g11, 1, none⟩) (Kd.R_far (p := ⟨g11, 0, none⟩) (Kd.R_types R6.out BK111.out (by decide)) (fun _ hk => hk.2) (.slice Ao178 t4.length co178)) (fun _ hk => hk.2) (.int .i64 t7)) (fun _ hk => hk.2) (.int .i64 t8)) (fun _ hk => hk.2) (.int .i64 t9)) (fun _ hk => hk.2) (.int .i64 t10)) (fun _ h_ => h_.1))))) (below_size (Bq))); replace R6 := Ak (Kd.R_elder' (by exact Ho.RS <| (Kd.R_mono (Kd.R_far (p := ⟨g11, 4, none⟩) (Kd.R_far (p := ⟨g11, 3, none⟩) (Kd.R_far (p := ⟨g11, 2, none⟩) (Kd.R_far (p := ⟨g11, 1, none⟩) (Kd.R_far (p := ⟨g11, 0, none⟩) (Kd.R_types R6.out BK111.out (by decide)) (fun _ hk => hk.2) (.slice Ao178 t4.length co178)) (fun _ hk => hk.2) (.int .i64 t7)) (fun _ hk => hk.2) (.int .i64 t8)) (fun _ hk => hk.2) (.int .i64 t9)) (fun _ hk => hk.2) (.int .i64 t10)) (fun _ h_ => h_.1))) (Kd.R_base ho0) hb); replace B1 := Ak (blk_below (g := g1) (o := .cells #[.slice A0_0 l0_0.length c0_0, .int .i64 a0_1, .int .i64 a0_2, .int .i64 a0_3, .int .i64 a0_4] 26 (0, 0)) (Kz) hb); replace B2 := Ak (blk_below (g := g2) (o := .cells #[.int .i64 a1_0, .int .i64 a1_1, .int .i64 a1_2, .int .i64 a1_3] 75 (0, 0)) (Kz) hb); replace B3 := Ak (blk_below (g := g3) (o := .cells #[.slice none 0 0, .int .i64 0, .int .i64 0, .int .i64 0, .int .i64 0] 26 (0, 0)) (Kz) hb); replace BK111 := Ak (blk_below (g := g11) (o := .cells #[.slice Ao178 t4.length co178, .int .i64 t7, .int .i64 t8, .int .i64 t9, .int .i64 t10] 26 (0, 0)) (by apply Sq.put5; exact bS BK111.out) hb); replace HB := Ak (below_step (Bq) hb); clear hb; (try clear ho0); obtain ⟨Ao87, co87, eo87⟩ := Kd.R_slice R40.out; subst eo87; have z88 := Sq.c5 BK111.out))
    refine gn g11 w186 (.cells #[.slice Ao87 t38.length co87, .int .i64 t41, .int .i64 t42, .int .i64 t43, .int .i64 t44] 26 (0, 0)) ?hh ?_
    (case hh => apply Sq.put5; exact bS BK111.out)
    intro w189 hK_ hG_
    replace R40 := cR (ok' := (fun k_ => some k_ ≠ (.slice Ao178 t4.length co178 : Value).ownBlock)) R40 BK111 hK_ (fun _ hk => hk.1.2)
    replace R6 := cR (ok' := (fun k_ => some k_ ≠ (.slice Ao87 t38.length co87 : Value).ownBlock)) R6 BK111 hK_ (fun _ hk => hk.1.2)
    replace B1 := cK B1 hK_ N1_11
    replace B2 := cK B2 hK_ N2_11
    replace B3 := cK B3 hK_ N3_11
    replace HB := cB_ HB hK_ E11
    replace BK111 := hG_
    clear hK_
    replace R6 := rD R6
    replace R40 := rD R40
    replace B1 := kD B1
    replace B2 := kD B2
    replace B3 := kD B3
    replace BK111 := kD BK111
    replace HB := bD HB
    refine sT 8 (H5 g11 (.slice Ao87 t38.length co87) (.int .i64 t41) (.int .i64 t42) (.int .i64 t43) (.int .i64 t44)) [] Ft.tab17 Ft.bits17 (h5 BK111) fun hHeld HT_ HW_ => ?_
    generalize w189.drew = w190 at R6 R40 B1 B2 B3 BK111 HB hHeld ⊢
    refine Pu 1 ?_
    refine Pu 2 ?_
    refine Pn 3 ?_
    refine Pn 4 ?_
    refine Pu 5 ?_
    refine Ta 0 ?_
    refine oN 6 fun K hK => ?_
    have hs191 := Sq.c5 B3.out
    have hns191_0 := N1_3.out
    have hns191_1 := N2_3.out
    have hns191_3 := N11_3.out
    have hms191_0 := N3_1.out
    have hms191_1 := N3_2.out
    have hms191_3 := N3_11.out
    refine sK ?_
    refine hK.out _ _ ⟨(cf5 N11_3.out hHeld.1), (cf5 N11_3.out hHeld.2.1), (cf5 N11_3.out hHeld.2.2.1), (cf5 N11_3.out hHeld.2.2.2.1), (cf5 N11_3.out hHeld.2.2.2.2)⟩ (fun hHeld => ?_)
    clear hK K
    refine Pu 7 ?_
    refine dO ?_
    try go_wp2
    refine bodyPost_ret (results_ct rfl _ _ g3 26 #[.slice Ao87 t38.length co87, .int .i64 t41, .int .i64 t42, .int .i64 t43, .int .i64 t44] (0, 0) _ rfl (by apply Sq.put5; exact bS B3.out) Tryz.underlying26 rfl (by kernel_rfl)) rfl ?_
    exact ⟨_, Ez, rY5 R40 B3 (fun _ hk => trivial), Bq⟩
   subst c141
   rw [if_pos rfl] at H
   obtain ⟨t46, A142, H⟩ := bn H
   (try dsimp only at H)
   simp only [Option.some.injEq, Prod.mk.injEq] at H
   obtain ⟨rfl, rfl, rfl, rfl, rfl, rfl⟩ := H
   go_enter Tryz.func78, Tryz.ntmps78
   try go_wp2_with (first | (refine bE 2 26 #[.slice A0_0 l0_0.length c0_0, .int .i64 a0_1, .int .i64 a0_2, .int .i64 a0_3, .int .i64 a0_4] ?_; intro g1 hg w143 B1 hb; have E1 := gW HB hg; replace HB := bT HB hb; clear hb hg) | (refine bE 3 75 #[.int .i64 a1_0, .int .i64 a1_1, .int .i64 a1_2, .int .i64 a1_3] ?_; intro g2 hg w144 B2 hb; have E2 := gW HB hg; obtain ⟨N1_2, N2_1⟩ := nB B1 hg; replace B1 := kT B1 hb; replace HB := bT HB hb; clear hb hg) | (refine bE 4 26 #[.slice none 0 0, .int .i64 0, .int .i64 0, .int .i64 0, .int .i64 0] ?_; intro g3 hg w145 B3 hb; have E3 := gW HB hg; obtain ⟨N1_3, N3_1⟩ := nB B1 hg; obtain ⟨N2_3, N3_2⟩ := nB B2 hg; replace B1 := kT B1 hb; replace B2 := kT B2 hb; replace HB := bT HB hb; clear hb hg; have n46 := nP N1_2; have n47 := nP N1_3; have z48 := Sq.c5 B1.out) | (refine cE (some 10) Tryz.func89 #[.agg #[.slice A0_0 l0_0.length c0_0, .int .i64 a0_1, .int .i64 a0_2, .int .i64 a0_3, .int .i64 a0_4]] ?_; (with_reducible refine (Fan.calls _ _ l0_0 a0_1 a0_2 a0_3 a0_4 t4 t7 t8 t9 t10 _ ?side1 ?side2 A3.out).mono ?_); (case side1 => exact Cs (Kd.C_below HR0_0.out HB.out)); (case side2 => exact HC0_0.out); rintro e w149 ⟨v5, rfl, ho0, hb⟩; refine ⟨_, rfl, ?_⟩; have R6 := lw HB ho0; replace B1 := kT B1 hb; replace B2 := kT B2 hb; replace B3 := kT B3 hb; replace HB := bT HB hb; clear hb; (try clear ho0)) | (refine bE 6 26 #[.slice none 0 0, .int .i64 0, .int .i64 0, .int .i64 0, .int .i64 0] ?_; intro g11 hg w150 BK111 hb; have E11 := gW HB hg; obtain ⟨N1_11, N11_1⟩ := nB B1 hg; obtain ⟨N2_11, N11_2⟩ := nB B2 hg; obtain ⟨N3_11, N11_3⟩ := nB B3 hg; replace R6 := rT R6 hb; replace B1 := kT B1 hb; replace B2 := kT B2 hb; replace B3 := kT B3 hb; replace HB := bT HB hb; clear hb hg; obtain ⟨Ao51, co51, eo51⟩ := Kd.R_slice R6.out; subst eo51; have n52 := nP N11_1; have n53 := nP N11_2; have n54 := nP N11_3; have z55 := Sq.c5 BK111.out; have n56 := nP N2_3; have z57 := Sq.c4 B2.out; have z58 := Sq.c5 B1.out) | (refine cE (some 73) Tryz.func92 #[.agg #[.slice A0_0 l0_0.length c0_0, .int .i64 a0_1, .int .i64 a0_2, .int .i64 a0_3, .int .i64 a0_4], .int .i64 a1_1, .int .i64 a1_2] ?_; (with_reducible refine (Fad.calls k _ _ l0_0 a0_1 a0_2 a0_3 a0_4 a1_1 a1_2 t38 t41 t42 t43 t44 true _ ?side1 ?side2 A140.out).mono ?_); (case side1 => exact Kd.C_below HR0_0.out (Bq)); (case side2 => exact HC0_0.out); rintro e w159 ⟨v39, rfl, ho0, hb⟩; refine ⟨_, rfl, ?_⟩; have R40 := Ak (Kd.R_lower (Kd.R_new' ho0 (Kd.R_lt (by exact Ho.RS <| (Kd.R_mono (Kd.R_far (p := ⟨g11, 4, none⟩) (Kd.R_far (p := ⟨g11, 3, none⟩) (Kd.R_far (p := ⟨g11, 2, none⟩) (Kd.R_far (p := ⟨g11, 1, none⟩) (Kd.R_far (p := ⟨g11, 0, none⟩) (Kd.R_types R6.out BK111.out (by decide)) (fun _ hk => hk.2) (.slice Ao51 t4.length co51)) (fun _ hk => hk.2) (.int .i64 t7)) (fun _ hk => hk.2) (.int .i64 t8)) (fun _ hk => hk.2) (.int .i64 t9)) (fun _ hk => hk.2) (.int .i64 t10)) (fun _ h_ => h_.1))))) (below_size (Bq))); replace R6 := Ak (Kd.R_elder' (by exact Ho.RS <| (Kd.R_mono (Kd.R_far (p := ⟨g11, 4, none⟩) (Kd.R_far (p := ⟨g11, 3, none⟩) (Kd.R_far (p := ⟨g11, 2, none⟩) (Kd.R_far (p := ⟨g11, 1, none⟩) (Kd.R_far (p := ⟨g11, 0, none⟩) (Kd.R_types R6.out BK111.out (by decide)) (fun _ hk => hk.2) (.slice Ao51 t4.length co51)) (fun _ hk => hk.2) (.int .i64 t7)) (fun _ hk => hk.2) (.int .i64 t8)) (fun _ hk => hk.2) (.int .i64 t9)) (fun _ hk => hk.2) (.int .i64 t10)) (fun _ h_ => h_.1))) (Kd.R_base ho0) hb); replace B1 := Ak (blk_below (g := g1) (o := .cells #[.slice A0_0 l0_0.length c0_0, .int .i64 a0_1, .int .i64 a0_2, .int .i64 a0_3, .int .i64 a0_4] 26 (0, 0)) (Kz) hb); replace B2 := Ak (blk_below (g := g2) (o := .cells #[.int .i64 a1_0, .int .i64 a1_1, .int .i64 a1_2, .int .i64 a1_3] 75 (0, 0)) (Kz) hb); replace B3 := Ak (blk_below (g := g3) (o := .cells #[.slice none 0 0, .int .i64 0, .int .i64 0, .int .i64 0, .int .i64 0] 26 (0, 0)) (Kz) hb); replace BK111 := Ak (blk_below (g := g11) (o := .cells #[.slice Ao51 t4.length co51, .int .i64 t7, .int .i64 t8, .int .i64 t9, .int .i64 t10] 26 (0, 0)) (by apply Sq.put5; exact bS BK111.out) hb); replace HB := Ak (below_step (Bq) hb); clear hb; (try clear ho0); obtain ⟨Ao60, co60, eo60⟩ := Kd.R_slice R40.out; subst eo60; have z61 := Sq.c5 BK111.out))
   refine gn g11 w159 (.cells #[.slice Ao60 t38.length co60, .int .i64 t41, .int .i64 t42, .int .i64 t43, .int .i64 t44] 26 (0, 0)) ?hh ?_
   (case hh => apply Sq.put5; exact bS BK111.out)
   intro w162 hK_ hG_
   replace R40 := cR (ok' := (fun k_ => some k_ ≠ (.slice Ao51 t4.length co51 : Value).ownBlock)) R40 BK111 hK_ (fun _ hk => hk.1.2)
   replace R6 := cR (ok' := (fun k_ => some k_ ≠ (.slice Ao60 t38.length co60 : Value).ownBlock)) R6 BK111 hK_ (fun _ hk => hk.1.2)
   replace B1 := cK B1 hK_ N1_11
   replace B2 := cK B2 hK_ N2_11
   replace B3 := cK B3 hK_ N3_11
   replace HB := cB_ HB hK_ E11
   replace BK111 := hG_
   clear hK_
   replace R6 := rD R6
   replace R40 := rD R40
   replace B1 := kD B1
   replace B2 := kD B2
   replace B3 := kD B3
   replace BK111 := kD BK111
   replace HB := bD HB
   refine sT 8 (H5 g11 (.slice Ao60 t38.length co60) (.int .i64 t41) (.int .i64 t42) (.int .i64 t43) (.int .i64 t44)) [] Ft.tab17 Ft.bits17 (h5 BK111) fun hHeld HT_ HW_ => ?_
   generalize w162.drew = w163 at R6 R40 B1 B2 B3 BK111 HB hHeld ⊢
   refine Pu 1 ?_
   refine Pu 2 ?_
   refine Ta 0 ?_
   refine Ta 3 ?_
   refine oN 4 fun K hK => ?_
   refine gO Tryz.func24 #[.agg #[.slice Ao60 t38.length co60, .int .i64 t41, .int .i64 t42, .int .i64 t43, .int .i64 t44]] ?_
   with_reducible refine (Ff.calls k _ _ t38 t41 t42 t43 t44 t46 _ ?side1 ?side2 A142.out).mono ?_
   (case side1 => exact Cs (Kd.R_reads' R40.out).2.2)
   (case side2 => exact (Kd.R_reads' R40.out).2.1)
   rintro e w164 ⟨rfl, hb⟩
   refine ⟨_, rfl, ?_⟩
   replace R6 := rT R6 hb
   replace R40 := rT R40 hb
   replace B1 := kT B1 hb
   replace B2 := kT B2 hb
   replace B3 := kT B3 hb
   replace BK111 := kT BK111 hb
   replace HB := bT HB hb
   clear hb
   refine hK.out _ _ (h5 BK111) (fun hHeld => ?_)
   clear hK K
   refine nO 94 ?_
   refine Pu 5 ?_
   refine oN 6 fun K hK => ?_
   have hs165 := Sq.c5 B3.out
   have hns165_0 := N1_3.out
   have hns165_1 := N2_3.out
   have hns165_3 := N11_3.out
   have hms165_0 := N3_1.out
   have hms165_1 := N3_2.out
   have hms165_3 := N3_11.out
   refine sK ?_
   refine hK.out _ _ ⟨(cf5 N11_3.out hHeld.1), (cf5 N11_3.out hHeld.2.1), (cf5 N11_3.out hHeld.2.2.1), (cf5 N11_3.out hHeld.2.2.2.1), (cf5 N11_3.out hHeld.2.2.2.2)⟩ (fun hHeld => ?_)
   clear hK K
   refine Pu 7 ?_
   refine dO ?_
   try go_wp2
   refine bodyPost_ret (results_ct rfl _ _ g3 26 #[.slice Ao60 t38.length co60, .int .i64 t41, .int .i64 t42, .int .i64 t43, .int .i64 t44] (0, 0) _ rfl (by apply Sq.put5; exact bS B3.out) Tryz.underlying26 rfl (by kernel_rfl)) rfl ?_
   exact ⟨_, Ez, rY5 R40 B3 (fun _ hk => trivial), Bq⟩
  rw [if_neg c139] at H
  have c139b0 := beq_eq_false_iff_ne.mpr c139
  have c139b1 := bne_iff_ne.mpr c139
  by_cases c196 : a1_0 = 4
  rotate_left
  ·rw [if_neg c196] at H
   have c196b0 := beq_eq_false_iff_ne.mpr c196
   have c196b1 := bne_iff_ne.mpr c196
   obtain ⟨⟨t55, t58, t59, t60, t61⟩, A228, H⟩ := bn H
   (try dsimp only at H)
   obtain ⟨t62, A229, H⟩ := bn H
   (try dsimp only at H)
   simp only [Option.some.injEq, Prod.mk.injEq] at H
   obtain ⟨rfl, rfl, rfl, rfl, rfl, rfl⟩ := H
   go_enter Tryz.func78, Tryz.ntmps78
   try go_wp2_with (first | (refine bE 2 26 #[.slice A0_0 l0_0.length c0_0, .int .i64 a0_1, .int .i64 a0_2, .int .i64 a0_3, .int .i64 a0_4] ?_; intro g1 hg w230 B1 hb; have E1 := gW HB hg; replace HB := bT HB hb; clear hb hg) | (refine bE 3 75 #[.int .i64 a1_0, .int .i64 a1_1, .int .i64 a1_2, .int .i64 a1_3] ?_; intro g2 hg w231 B2 hb; have E2 := gW HB hg; obtain ⟨N1_2, N2_1⟩ := nB B1 hg; replace B1 := kT B1 hb; replace HB := bT HB hb; clear hb hg) | (refine bE 4 26 #[.slice none 0 0, .int .i64 0, .int .i64 0, .int .i64 0, .int .i64 0] ?_; intro g3 hg w232 B3 hb; have E3 := gW HB hg; obtain ⟨N1_3, N3_1⟩ := nB B1 hg; obtain ⟨N2_3, N3_2⟩ := nB B2 hg; replace B1 := kT B1 hb; replace B2 := kT B2 hb; replace HB := bT HB hb; clear hb hg; have hnb233 := nP N1_2; have hnb234 := nP N1_3; have hz235 := Sq.c5 B1.out) | (refine cE (some 10) Tryz.func89 #[.agg #[.slice A0_0 l0_0.length c0_0, .int .i64 a0_1, .int .i64 a0_2, .int .i64 a0_3, .int .i64 a0_4]] ?_; (with_reducible refine (Fan.calls _ _ l0_0 a0_1 a0_2 a0_3 a0_4 t4 t7 t8 t9 t10 _ ?side1 ?side2 A3.out).mono ?_); (case side1 => exact Cs (Kd.C_below HR0_0.out HB.out)); (case side2 => exact HC0_0.out); rintro e w236 ⟨v5, rfl, ho0, hb⟩; refine ⟨_, rfl, ?_⟩; have R6 := lw HB ho0; replace B1 := kT B1 hb; replace B2 := kT B2 hb; replace B3 := kT B3 hb; replace HB := bT HB hb; clear hb; (try clear ho0)) | (refine bE 6 26 #[.slice none 0 0, .int .i64 0, .int .i64 0, .int .i64 0, .int .i64 0] ?_; intro g11 hg w237 BK111 hb; have E11 := gW HB hg; obtain ⟨N1_11, N11_1⟩ := nB B1 hg; obtain ⟨N2_11, N11_2⟩ := nB B2 hg; obtain ⟨N3_11, N11_3⟩ := nB B3 hg; replace R6 := rT R6 hb; replace B1 := kT B1 hb; replace B2 := kT B2 hb; replace B3 := kT B3 hb; replace HB := bT HB hb; clear hb hg; obtain ⟨Ao238, co238, eo238⟩ := Kd.R_slice R6.out; subst eo238; have hnb239 := nP N11_1; have hnb240 := nP N11_2; have hnb241 := nP N11_3; have hz242 := Sq.c5 BK111.out; have hnb243 := nP N2_3; have hz244 := Sq.c4 B2.out; have hz245 := Sq.c5 B1.out) | (refine cE (some 18) Tryz.func91 #[.agg #[.slice A0_0 l0_0.length c0_0, .int .i64 a0_1, .int .i64 a0_2, .int .i64 a0_3, .int .i64 a0_4], .int .i64 a1_1, .int .i64 a1_3] ?_; (with_reducible refine (Faj.calls k _ _ l0_0 a0_1 a0_2 a0_3 a0_4 a1_1 a1_3 t55 t58 t59 t60 t61 _ ?side1 ?side2 A228.out).mono ?_); (case side1 => exact Kd.C_below HR0_0.out (Bq)); (case side2 => exact HC0_0.out); rintro e w246 ⟨v56, rfl, ho0, hb⟩; refine ⟨_, rfl, ?_⟩; have R57 := Ak (Kd.R_lower (Kd.R_new' ho0 (Kd.R_lt (by exact Ho.RS <| (Kd.R_mono (Kd.R_far (p := ⟨g11, 4, none⟩) (Kd.R_far (p := ⟨g11, 3, none⟩) (Kd.R_far (p := ⟨g11, 2, none⟩) (Kd.R_far (p := ⟨g11, 1, none⟩) (Kd.R_far (p := ⟨g11, 0, none⟩) (Kd.R_types R6.out BK111.out (by decide)) (fun _ hk => hk.2) (.slice Ao238 t4.length co238)) (fun _ hk => hk.2) (.int .i64 t7)) (fun _ hk => hk.2) (.int .i64 t8)) (fun _ hk => hk.2) (.int .i64 t9)) (fun _ hk => hk.2) (.int .i64 t10)) (fun _ h_ => h_.1))))) (below_size (Bq))); replace R6 := Ak (Kd.R_elder' (by exact Ho.RS <| (Kd.R_mono (Kd.R_far (p := ⟨g11, 4, none⟩) (Kd.R_far (p := ⟨g11, 3, none⟩) (Kd.R_far (p := ⟨g11, 2, none⟩) (Kd.R_far (p := ⟨g11, 1, none⟩) (Kd.R_far (p := ⟨g11, 0, none⟩) (Kd.R_types R6.out BK111.out (by decide)) (fun _ hk => hk.2) (.slice Ao238 t4.length co238)) (fun _ hk => hk.2) (.int .i64 t7)) (fun _ hk => hk.2) (.int .i64 t8)) (fun _ hk => hk.2) (.int .i64 t9)) (fun _ hk => hk.2) (.int .i64 t10)) (fun _ h_ => h_.1))) (Kd.R_base ho0) hb); replace B1 := Ak (blk_below (g := g1) (o := .cells #[.slice A0_0 l0_0.length c0_0, .int .i64 a0_1, .int .i64 a0_2, .int .i64 a0_3, .int .i64 a0_4] 26 (0, 0)) (Kz) hb); replace B2 := Ak (blk_below (g := g2) (o := .cells #[.int .i64 a1_0, .int .i64 a1_1, .int .i64 a1_2, .int .i64 a1_3] 75 (0, 0)) (Kz) hb); replace B3 := Ak (blk_below (g := g3) (o := .cells #[.slice none 0 0, .int .i64 0, .int .i64 0, .int .i64 0, .int .i64 0] 26 (0, 0)) (Kz) hb); replace BK111 := Ak (blk_below (g := g11) (o := .cells #[.slice Ao238 t4.length co238, .int .i64 t7, .int .i64 t8, .int .i64 t9, .int .i64 t10] 26 (0, 0)) (by apply Sq.put5; exact bS BK111.out) hb); replace HB := Ak (below_step (Bq) hb); clear hb; (try clear ho0); obtain ⟨Ao247, co247, eo247⟩ := Kd.R_slice R57.out; subst eo247; have hz248 := Sq.c5 BK111.out; have hz249 := Sq.c5 B1.out; have hz250 := Sq.c4 B2.out))
   refine gn g11 w246 (.cells #[.slice Ao247 t55.length co247, .int .i64 t58, .int .i64 t59, .int .i64 t60, .int .i64 (wrap64 (a0_4 + a1_3))] 26 (0, 0)) ?hh ?_
   (case hh => refine blk_put (cs := #[.slice Ao247 t55.length co247, .int .i64 t58, .int .i64 t59, .int .i64 t60, .int .i64 t61]) ?_ 4 _ rfl; apply Sq.put5; exact bS BK111.out)
   intro w251 hK_ hG_
   replace R57 := cR (ok' := (fun k_ => some k_ ≠ (.slice Ao238 t4.length co238 : Value).ownBlock)) R57 BK111 hK_ (fun _ hk => hk.1.2)
   replace R6 := cR (ok' := (fun k_ => some k_ ≠ (.slice Ao247 t55.length co247 : Value).ownBlock)) R6 BK111 hK_ (fun _ hk => hk.1.2)
   replace B1 := cK B1 hK_ N1_11
   replace B2 := cK B2 hK_ N2_11
   replace B3 := cK B3 hK_ N3_11
   replace HB := cB_ HB hK_ E11
   replace BK111 := hG_
   clear hK_
   replace R6 := rD R6
   replace R57 := rD R57
   replace B1 := kD B1
   replace B2 := kD B2
   replace B3 := kD B3
   replace BK111 := kD BK111
   replace HB := bD HB
   refine sT 8 (H5 g11 (.slice Ao247 t55.length co247) (.int .i64 t58) (.int .i64 t59) (.int .i64 t60) (.int .i64 (wrap64 (a0_4 + a1_3)))) [] Ft.tab17 Ft.bits17 (h5 BK111) fun hHeld HT_ HW_ => ?_
   generalize w251.drew = w252 at R6 R57 B1 B2 B3 BK111 HB hHeld ⊢
   refine Pu 1 ?_
   refine Pu 2 ?_
   refine Ta 0 ?_
   refine Ta 3 ?_
   refine oN 4 fun K hK => ?_
   refine gO Tryz.func24 #[.agg #[.slice Ao247 t55.length co247, .int .i64 t58, .int .i64 t59, .int .i64 t60, .int .i64 (wrap64 (a0_4 + a1_3))]] ?_
   with_reducible refine (Ff.calls k _ _ t55 t58 t59 t60 (wrap64 (a0_4 + a1_3)) t62 _ ?side1 ?side2 A229.out).mono ?_
   (case side1 => exact Cs (Kd.R_reads' R57.out).2.2)
   (case side2 => exact (Kd.R_reads' R57.out).2.1)
   rintro e w253 ⟨rfl, hb⟩
   refine ⟨_, rfl, ?_⟩
   replace R6 := rT R6 hb
   replace R57 := rT R57 hb
   replace B1 := kT B1 hb
   replace B2 := kT B2 hb
   replace B3 := kT B3 hb
   replace BK111 := kT BK111 hb
   replace HB := bT HB hb
   clear hb
   refine hK.out _ _ (h5 BK111) (fun hHeld => ?_)
   clear hK K
   refine nO 94 ?_
   refine Pu 5 ?_
   refine oN 6 fun K hK => ?_
   have hs254 := Sq.c5 B3.out
   have hns254_0 := N1_3.out
   have hns254_1 := N2_3.out
   have hns254_3 := N11_3.out
   have hms254_0 := N3_1.out
   have hms254_1 := N3_2.out
   have hms254_3 := N3_11.out
   refine sK ?_
   refine hK.out _ _ ⟨(cf5 N11_3.out hHeld.1), (cf5 N11_3.out hHeld.2.1), (cf5 N11_3.out hHeld.2.2.1), (cf5 N11_3.out hHeld.2.2.2.1), (cf5 N11_3.out hHeld.2.2.2.2)⟩ (fun hHeld => ?_)
   clear hK K
   refine Pu 7 ?_
   refine dO ?_
   try go_wp2
   refine bodyPost_ret (results_ct rfl _ _ g3 26 #[.slice Ao247 t55.length co247, .int .i64 t58, .int .i64 t59, .int .i64 t60, .int .i64 (wrap64 (a0_4 + a1_3))] (0, 0) _ rfl (by apply Sq.put5; exact bS B3.out) Tryz.underlying26 rfl (by kernel_rfl)) rfl ?_
   exact ⟨_, Ez, rY5 R57 B3 (fun _ hk => trivial), Bq⟩
  rw [if_pos c196] at H
  have c196b0 := beq_iff_eq.mpr c196
  have c196b1 := bne_eq_false_iff_eq.mpr c196
  clear c196
  obtain ⟨⟨t47, t50, t51, t52, t53⟩, A197, H⟩ := bn H
  (try dsimp only at H)
  obtain ⟨t54, A198, H⟩ := bn H
  (try dsimp only at H)
  simp only [Option.some.injEq, Prod.mk.injEq] at H
  obtain ⟨rfl, rfl, rfl, rfl, rfl, rfl⟩ := H
  go_enter Tryz.func78, Tryz.ntmps78
  try go_wp2_with (first | (refine bE 2 26 #[.slice A0_0 l0_0.length c0_0, .int .i64 a0_1, .int .i64 a0_2, .int .i64 a0_3, .int .i64 a0_4] ?_; intro g1 hg w199 B1 hb; have E1 := gW HB hg; replace HB := bT HB hb; clear hb hg) | (refine bE 3 75 #[.int .i64 a1_0, .int .i64 a1_1, .int .i64 a1_2, .int .i64 a1_3] ?_; intro g2 hg w200 B2 hb; have E2 := gW HB hg; obtain ⟨N1_2, N2_1⟩ := nB B1 hg; replace B1 := kT B1 hb; replace HB := bT HB hb; clear hb hg) | (refine bE 4 26 #[.slice none 0 0, .int .i64 0, .int .i64 0, .int .i64 0, .int .i64 0] ?_; intro g3 hg w201 B3 hb; have E3 := gW HB hg; obtain ⟨N1_3, N3_1⟩ := nB B1 hg; obtain ⟨N2_3, N3_2⟩ := nB B2 hg; replace B1 := kT B1 hb; replace B2 := kT B2 hb; replace HB := bT HB hb; clear hb hg; have hnb202 := nP N1_2; have hnb203 := nP N1_3; have hz204 := Sq.c5 B1.out) | (refine cE (some 10) Tryz.func89 #[.agg #[.slice A0_0 l0_0.length c0_0, .int .i64 a0_1, .int .i64 a0_2, .int .i64 a0_3, .int .i64 a0_4]] ?_; (with_reducible refine (Fan.calls _ _ l0_0 a0_1 a0_2 a0_3 a0_4 t4 t7 t8 t9 t10 _ ?side1 ?side2 A3.out).mono ?_); (case side1 => exact Cs (Kd.C_below HR0_0.out HB.out)); (case side2 => exact HC0_0.out); rintro e w205 ⟨v5, rfl, ho0, hb⟩; refine ⟨_, rfl, ?_⟩; have R6 := lw HB ho0; replace B1 := kT B1 hb; replace B2 := kT B2 hb; replace B3 := kT B3 hb; replace HB := bT HB hb; clear hb; (try clear ho0)) | (refine bE 6 26 #[.slice none 0 0, .int .i64 0, .int .i64 0, .int .i64 0, .int .i64 0] ?_; intro g11 hg w206 BK111 hb; have E11 := gW HB hg; obtain ⟨N1_11, N11_1⟩ := nB B1 hg; obtain ⟨N2_11, N11_2⟩ := nB B2 hg; obtain ⟨N3_11, N11_3⟩ := nB B3 hg; replace R6 := rT R6 hb; replace B1 := kT B1 hb; replace B2 := kT B2 hb; replace B3 := kT B3 hb; replace HB := bT HB hb; clear hb hg; obtain ⟨Ao207, co207, eo207⟩ := Kd.R_slice R6.out; subst eo207; have hnb208 := nP N11_1; have hnb209 := nP N11_2; have hnb210 := nP N11_3; have hz211 := Sq.c5 BK111.out; have hnb212 := nP N2_3; have hz213 := Sq.c4 B2.out; have hz214 := Sq.c5 B1.out) | (refine cE (some 83) Tryz.func91 #[.agg #[.slice A0_0 l0_0.length c0_0, .int .i64 a0_1, .int .i64 a0_2, .int .i64 a0_3, .int .i64 a0_4], .int .i64 a1_1, .int .i64 a1_3] ?_; (with_reducible refine (Faj.calls k _ _ l0_0 a0_1 a0_2 a0_3 a0_4 a1_1 a1_3 t47 t50 t51 t52 t53 _ ?side1 ?side2 A197.out).mono ?_); (case side1 => exact Kd.C_below HR0_0.out (Bq)); (case side2 => exact HC0_0.out); rintro e w215 ⟨v48, rfl, ho0, hb⟩; refine ⟨_, rfl, ?_⟩; have R49 := Ak (Kd.R_lower (Kd.R_new' ho0 (Kd.R_lt (by exact Ho.RS <| (Kd.R_mono (Kd.R_far (p := ⟨g11, 4, none⟩) (Kd.R_far (p := ⟨g11, 3, none⟩) (Kd.R_far (p := ⟨g11, 2, none⟩) (Kd.R_far (p := ⟨g11, 1, none⟩) (Kd.R_far (p := ⟨g11, 0, none⟩) (Kd.R_types R6.out BK111.out (by decide)) (fun _ hk => hk.2) (.slice Ao207 t4.length co207)) (fun _ hk => hk.2) (.int .i64 t7)) (fun _ hk => hk.2) (.int .i64 t8)) (fun _ hk => hk.2) (.int .i64 t9)) (fun _ hk => hk.2) (.int .i64 t10)) (fun _ h_ => h_.1))))) (below_size (Bq))); replace R6 := Ak (Kd.R_elder' (by exact Ho.RS <| (Kd.R_mono (Kd.R_far (p := ⟨g11, 4, none⟩) (Kd.R_far (p := ⟨g11, 3, none⟩) (Kd.R_far (p := ⟨g11, 2, none⟩) (Kd.R_far (p := ⟨g11, 1, none⟩) (Kd.R_far (p := ⟨g11, 0, none⟩) (Kd.R_types R6.out BK111.out (by decide)) (fun _ hk => hk.2) (.slice Ao207 t4.length co207)) (fun _ hk => hk.2) (.int .i64 t7)) (fun _ hk => hk.2) (.int .i64 t8)) (fun _ hk => hk.2) (.int .i64 t9)) (fun _ hk => hk.2) (.int .i64 t10)) (fun _ h_ => h_.1))) (Kd.R_base ho0) hb); replace B1 := Ak (blk_below (g := g1) (o := .cells #[.slice A0_0 l0_0.length c0_0, .int .i64 a0_1, .int .i64 a0_2, .int .i64 a0_3, .int .i64 a0_4] 26 (0, 0)) (Kz) hb); replace B2 := Ak (blk_below (g := g2) (o := .cells #[.int .i64 a1_0, .int .i64 a1_1, .int .i64 a1_2, .int .i64 a1_3] 75 (0, 0)) (Kz) hb); replace B3 := Ak (blk_below (g := g3) (o := .cells #[.slice none 0 0, .int .i64 0, .int .i64 0, .int .i64 0, .int .i64 0] 26 (0, 0)) (Kz) hb); replace BK111 := Ak (blk_below (g := g11) (o := .cells #[.slice Ao207 t4.length co207, .int .i64 t7, .int .i64 t8, .int .i64 t9, .int .i64 t10] 26 (0, 0)) (by apply Sq.put5; exact bS BK111.out) hb); replace HB := Ak (below_step (Bq) hb); clear hb; (try clear ho0); obtain ⟨Ao216, co216, eo216⟩ := Kd.R_slice R49.out; subst eo216; have hz217 := Sq.c5 BK111.out; have hz218 := Sq.c5 B1.out; have hz219 := Sq.c4 B2.out))
  refine gn g11 w215 (.cells #[.slice Ao216 t47.length co216, .int .i64 t50, .int .i64 t51, .int .i64 (wrap64 (a0_3 + a1_3)), .int .i64 t53] 26 (0, 0)) ?hh ?_
  (case hh => refine blk_put (cs := #[.slice Ao216 t47.length co216, .int .i64 t50, .int .i64 t51, .int .i64 t52, .int .i64 t53]) ?_ 3 _ rfl; apply Sq.put5; exact bS BK111.out)
  intro w220 hK_ hG_
  replace R49 := cR (ok' := (fun k_ => some k_ ≠ (.slice Ao207 t4.length co207 : Value).ownBlock)) R49 BK111 hK_ (fun _ hk => hk.1.2)
  replace R6 := cR (ok' := (fun k_ => some k_ ≠ (.slice Ao216 t47.length co216 : Value).ownBlock)) R6 BK111 hK_ (fun _ hk => hk.1.2)
  replace B1 := cK B1 hK_ N1_11
  replace B2 := cK B2 hK_ N2_11
  replace B3 := cK B3 hK_ N3_11
  replace HB := cB_ HB hK_ E11
  replace BK111 := hG_
  clear hK_
  replace R6 := rD R6
  replace R49 := rD R49
  replace B1 := kD B1
  replace B2 := kD B2
  replace B3 := kD B3
  replace BK111 := kD BK111
  replace HB := bD HB
  refine sT 8 (H5 g11 (.slice Ao216 t47.length co216) (.int .i64 t50) (.int .i64 t51) (.int .i64 (wrap64 (a0_3 + a1_3))) (.int .i64 t53)) [] Ft.tab17 Ft.bits17 (h5 BK111) fun hHeld HT_ HW_ => ?_
  generalize w220.drew = w221 at R6 R49 B1 B2 B3 BK111 HB hHeld ⊢
  refine Pu 1 ?_
  refine Pu 2 ?_
  refine Ta 0 ?_
  refine Ta 3 ?_
  refine oN 4 fun K hK => ?_
  refine gO Tryz.func24 #[.agg #[.slice Ao216 t47.length co216, .int .i64 t50, .int .i64 t51, .int .i64 (wrap64 (a0_3 + a1_3)), .int .i64 t53]] ?_
  with_reducible refine (Ff.calls k _ _ t47 t50 t51 (wrap64 (a0_3 + a1_3)) t53 t54 _ ?side1 ?side2 A198.out).mono ?_
  (case side1 => exact Cs (Kd.R_reads' R49.out).2.2)
  (case side2 => exact (Kd.R_reads' R49.out).2.1)
  rintro e w222 ⟨rfl, hb⟩
  refine ⟨_, rfl, ?_⟩
  replace R6 := rT R6 hb
  replace R49 := rT R49 hb
  replace B1 := kT B1 hb
  replace B2 := kT B2 hb
  replace B3 := kT B3 hb
  replace BK111 := kT BK111 hb
  replace HB := bT HB hb
  clear hb
  refine hK.out _ _ (h5 BK111) (fun hHeld => ?_)
  clear hK K
  refine nO 94 ?_
  refine Pu 5 ?_
  refine oN 6 fun K hK => ?_
  have hs223 := Sq.c5 B3.out
  have hns223_0 := N1_3.out
  have hns223_1 := N2_3.out
  have hns223_3 := N11_3.out
  have hms223_0 := N3_1.out
  have hms223_1 := N3_2.out
  have hms223_3 := N3_11.out
  refine sK ?_
  refine hK.out _ _ ⟨(cf5 N11_3.out hHeld.1), (cf5 N11_3.out hHeld.2.1), (cf5 N11_3.out hHeld.2.2.1), (cf5 N11_3.out hHeld.2.2.2.1), (cf5 N11_3.out hHeld.2.2.2.2)⟩ (fun hHeld => ?_)
  clear hK K
  refine Pu 7 ?_
  refine dO ?_
  try go_wp2
  refine bodyPost_ret (results_ct rfl _ _ g3 26 #[.slice Ao216 t47.length co216, .int .i64 t50, .int .i64 t51, .int .i64 (wrap64 (a0_3 + a1_3)), .int .i64 t53] (0, 0) _ rfl (by apply Sq.put5; exact bS B3.out) Tryz.underlying26 rfl (by kernel_rfl)) rfl ?_
  exact ⟨_, Ez, rY5 R49 B3 (fun _ hk => trivial), Bq⟩
 rw [if_pos c36] at H
 have c36b0 := beq_iff_eq.mpr c36
 have c36b1 := bne_eq_false_iff_eq.mpr c36
 clear c36
 obtain ⟨t20, A37, H⟩ := bn H
 (try dsimp only at H)
 by_cases c38 : 0 ≤ t20
 rotate_left
 ·rw [if_neg c38] at H
  exact absurd H (by simp)
 rw [if_pos c38] at H
 have c38b0 := decide_eq_true c38
 clear c38
 by_cases c39 : t20 < (l0_0.length : Int)
 rotate_left
 ·rw [if_neg c39] at H
  exact absurd H (by simp)
 rw [if_pos c39] at H
 have c39b0 := decide_eq_true c39
 clear c39
 obtain ⟨⟨t23, t26, t27, t28, t29⟩, A40, H⟩ := bn H
 (try dsimp only at H)
 obtain ⟨⟨t30, t33, t34, t35, t36⟩, A41, H⟩ := bn H
 (try dsimp only at H)
 by_cases c42 : a1_3 < ((rd_T33 l0_0 t20).f2)
 rotate_left
 ·rw [if_neg c42] at H
  have c42b0 := decide_eq_false c42
  clear c42
  simp only [Option.some.injEq, Prod.mk.injEq] at H
  obtain ⟨rfl, rfl, rfl, rfl, rfl, rfl⟩ := H
  go_enter Tryz.func78, Tryz.ntmps78
  try go_wp2_with (first | (refine bE 2 26 #[.slice A0_0 l0_0.length c0_0, .int .i64 a0_1, .int .i64 a0_2, .int .i64 a0_3, .int .i64 a0_4] ?_; intro g1 hg w92 B1 hb; have E1 := gW HB hg; replace HB := bT HB hb; clear hb hg) | (refine bE 3 75 #[.int .i64 a1_0, .int .i64 a1_1, .int .i64 a1_2, .int .i64 a1_3] ?_; intro g2 hg w93 B2 hb; have E2 := gW HB hg; obtain ⟨N1_2, N2_1⟩ := nB B1 hg; replace B1 := kT B1 hb; replace HB := bT HB hb; clear hb hg) | (refine bE 4 26 #[.slice none 0 0, .int .i64 0, .int .i64 0, .int .i64 0, .int .i64 0] ?_; intro g3 hg w94 B3 hb; have E3 := gW HB hg; obtain ⟨N1_3, N3_1⟩ := nB B1 hg; obtain ⟨N2_3, N3_2⟩ := nB B2 hg; replace B1 := kT B1 hb; replace B2 := kT B2 hb; replace HB := bT HB hb; clear hb hg; have hnb95 := nP N1_2; have hnb96 := nP N1_3; have hz97 := Sq.c5 B1.out) | (refine cE (some 10) Tryz.func89 #[.agg #[.slice A0_0 l0_0.length c0_0, .int .i64 a0_1, .int .i64 a0_2, .int .i64 a0_3, .int .i64 a0_4]] ?_; (with_reducible refine (Fan.calls _ _ l0_0 a0_1 a0_2 a0_3 a0_4 t4 t7 t8 t9 t10 _ ?side1 ?side2 A3.out).mono ?_); (case side1 => exact Cs (Kd.C_below HR0_0.out HB.out)); (case side2 => exact HC0_0.out); rintro e w98 ⟨v5, rfl, ho0, hb⟩; refine ⟨_, rfl, ?_⟩; have R6 := lw HB ho0; replace B1 := kT B1 hb; replace B2 := kT B2 hb; replace B3 := kT B3 hb; replace HB := bT HB hb; clear hb; (try clear ho0)) | (refine bE 6 26 #[.slice none 0 0, .int .i64 0, .int .i64 0, .int .i64 0, .int .i64 0] ?_; intro g11 hg w99 BK111 hb; have E11 := gW HB hg; obtain ⟨N1_11, N11_1⟩ := nB B1 hg; obtain ⟨N2_11, N11_2⟩ := nB B2 hg; obtain ⟨N3_11, N11_3⟩ := nB B3 hg; replace R6 := rT R6 hb; replace B1 := kT B1 hb; replace B2 := kT B2 hb; replace B3 := kT B3 hb; replace HB := bT HB hb; clear hb hg; obtain ⟨Ao100, co100, eo100⟩ := Kd.R_slice R6.out; subst eo100; have n1 := nP N11_1; have n2 := nP N11_2; have n3 := nP N11_3; have z4 := Sq.c5 BK111.out; have n5 := nP N2_3; have z6 := Sq.c4 B2.out))
  have n0_ : Aside0 (Kd.R k33 33 (((((w99.setCell ⟨g11, 0, none⟩ (.slice Ao100 t4.length co100)).setCell ⟨g11, 1, none⟩ (.int .i64 t7)).setCell ⟨g11, 2, none⟩ (.int .i64 t8)).setCell ⟨g11, 3, none⟩ (.int .i64 t9)).setCell ⟨g11, 4, none⟩ (.int .i64 t10)) w.heap.size (fun _ => True) (.slice Ao100 t4.length co100) t4) := ⟨rY5 R6 BK111 (fun _ hk => trivial)⟩
  have n1_ : Aside0 ((((((w99.setCell ⟨g11, 0, none⟩ (.slice Ao100 t4.length co100)).setCell ⟨g11, 1, none⟩ (.int .i64 t7)).setCell ⟨g11, 2, none⟩ (.int .i64 t8)).setCell ⟨g11, 3, none⟩ (.int .i64 t9)).setCell ⟨g11, 4, none⟩ (.int .i64 t10)).heap[g1]? = some (.cells #[.slice A0_0 l0_0.length c0_0, .int .i64 a0_1, .int .i64 a0_2, .int .i64 a0_3, .int .i64 a0_4] 26 (0, 0))) := ⟨Kz⟩
  have n2_ : Aside0 ((((((w99.setCell ⟨g11, 0, none⟩ (.slice Ao100 t4.length co100)).setCell ⟨g11, 1, none⟩ (.int .i64 t7)).setCell ⟨g11, 2, none⟩ (.int .i64 t8)).setCell ⟨g11, 3, none⟩ (.int .i64 t9)).setCell ⟨g11, 4, none⟩ (.int .i64 t10)).heap[g2]? = some (.cells #[.int .i64 a1_0, .int .i64 a1_1, .int .i64 a1_2, .int .i64 a1_3] 75 (0, 0))) := ⟨Kz⟩
  have n3_ : Aside0 ((((((w99.setCell ⟨g11, 0, none⟩ (.slice Ao100 t4.length co100)).setCell ⟨g11, 1, none⟩ (.int .i64 t7)).setCell ⟨g11, 2, none⟩ (.int .i64 t8)).setCell ⟨g11, 3, none⟩ (.int .i64 t9)).setCell ⟨g11, 4, none⟩ (.int .i64 t10)).heap[g3]? = some (.cells #[.slice none 0 0, .int .i64 0, .int .i64 0, .int .i64 0, .int .i64 0] 26 (0, 0))) := ⟨Kz⟩
  have n4_ : Aside0 ((((((w99.setCell ⟨g11, 0, none⟩ (.slice Ao100 t4.length co100)).setCell ⟨g11, 1, none⟩ (.int .i64 t7)).setCell ⟨g11, 2, none⟩ (.int .i64 t8)).setCell ⟨g11, 3, none⟩ (.int .i64 t9)).setCell ⟨g11, 4, none⟩ (.int .i64 t10)).heap[g11]? = some (.cells #[.slice Ao100 t4.length co100, .int .i64 t7, .int .i64 t8, .int .i64 t9, .int .i64 t10] 26 (0, 0))) := ⟨by apply Sq.put5; exact bS BK111.out⟩
  have n5_ : Aside0 (Below w.heap.size w (((((w99.setCell ⟨g11, 0, none⟩ (.slice Ao100 t4.length co100)).setCell ⟨g11, 1, none⟩ (.int .i64 t7)).setCell ⟨g11, 2, none⟩ (.int .i64 t8)).setCell ⟨g11, 3, none⟩ (.int .i64 t9)).setCell ⟨g11, 4, none⟩ (.int .i64 t10))) := ⟨Bq⟩
  (try clear R6)
  (try clear B1)
  (try clear B2)
  (try clear B3)
  (try clear BK111)
  (try clear HB)
  generalize (((((w99.setCell ⟨g11, 0, none⟩ (.slice Ao100 t4.length co100)).setCell ⟨g11, 1, none⟩ (.int .i64 t7)).setCell ⟨g11, 2, none⟩ (.int .i64 t8)).setCell ⟨g11, 3, none⟩ (.int .i64 t9)).setCell ⟨g11, 4, none⟩ (.int .i64 t10)) = w107 at n0_ n1_ n2_ n3_ n4_ n5_ ⊢
  have R6 := n0_
  have B1 := n1_
  have B2 := n2_
  have B3 := n3_
  have BK111 := n4_
  have HB := n5_
  clear n0_ n1_ n2_ n3_ n4_ n5_
  replace R6 := rD R6
  replace B1 := kD B1
  replace B2 := kD B2
  replace B3 := kD B3
  replace BK111 := kD BK111
  replace HB := bD HB
  have p21 : 0 ≤ (t20 : Int) := Dz
  have q21 : t20 < (l0_0.length : Int) := Dz
  obtain ⟨ad21, e21, hx21_0, hx21_1, hx21_2⟩ := at_T33 HR0_0.out t20 p21 q21
  have hw121_2 := hx21_2
  have hw121_1 := hx21_1
  have hw121_0 := hx21_0
  cases e21
  replace hx21_0 := Sq.cB HB.out hx21_0
  replace hx21_1 := Sq.cB HB.out hx21_1
  replace hx21_2 := Sq.cB HB.out hx21_2
  replace p21 := eq_true p21
  replace q21 := eq_true q21
  refine sT 10 (fun w' => w'.cell? ⟨g1, 0, none⟩ = some (.slice (some ad21) l0_0.length c0_0) ∧ w'.cell? ⟨g1, 1, none⟩ = some (.int .i64 a0_1) ∧ w'.cell? ⟨g1, 2, none⟩ = some (.int .i64 a0_2) ∧ w'.cell? ⟨g1, 3, none⟩ = some (.int .i64 a0_3) ∧ w'.cell? ⟨g1, 4, none⟩ = some (.int .i64 a0_4) ∧ w'.cell? ⟨g2, 0, none⟩ = some (.int .i64 a1_0) ∧ w'.cell? ⟨g2, 1, none⟩ = some (.int .i64 a1_1) ∧ w'.cell? ⟨g2, 2, none⟩ = some (.int .i64 a1_2) ∧ w'.cell? ⟨g2, 3, none⟩ = some (.int .i64 a1_3) ∧ w'.cell? (ad21.add ((t20).toNat * 3)) = some (.int .i64 ((rd_T33 l0_0 t20).f0)) ∧ w'.cell? ⟨(ad21.add ((t20).toNat * 3)).block, (ad21.add ((t20).toNat * 3)).off + 1, none⟩ = some (.int .i64 ((rd_T33 l0_0 t20).f1)) ∧ w'.cell? ⟨(ad21.add ((t20).toNat * 3)).block, (ad21.add ((t20).toNat * 3)).off + 2, none⟩ = some (.int .i64 ((rd_T33 l0_0 t20).f2))) [] Ft.tab9 Ft.bits9 ⟨bc B1 0, bc B1 1, bc B1 2, bc B1 3, bc B1 4, bc B2 0, bc B2 1, bc B2 2, bc B2 3, (cb HB hw121_0), (cb HB hw121_1), (cb HB hw121_2)⟩ fun hHeld HT_ HW_ => ?_
  generalize w107.drew = w108 at R6 B1 B2 B3 BK111 HB hx21_0 hx21_1 hx21_2 hHeld ⊢
  refine Pu 0 ?_
  refine Pu 3 ?_
  refine Ta 1 ?_
  refine Ta 2 ?_
  refine Ta 4 ?_
  refine join_ (σ := Nat) 1 (Bt 10 511) (fun s_ => [(46, .int .i64 t20), (8, .pointer (some ⟨s_, 0, none⟩)), (47, .pointer (some (ad21.add ((t20).toNat * 3)))), (48, .agg #[.int .i64 ((rd_T33 l0_0 t20).f0), .int .i64 ((rd_T33 l0_0 t20).f1), .int .i64 ((rd_T33 l0_0 t20).f2)])]) (fun s_ w' => (w'.cell? ⟨g1, 0, none⟩ = some (.slice (some ad21) l0_0.length c0_0) ∧ w'.cell? ⟨g1, 1, none⟩ = some (.int .i64 a0_1) ∧ w'.cell? ⟨g1, 2, none⟩ = some (.int .i64 a0_2) ∧ w'.cell? ⟨g1, 3, none⟩ = some (.int .i64 a0_3) ∧ w'.cell? ⟨g1, 4, none⟩ = some (.int .i64 a0_4) ∧ w'.cell? ⟨g2, 0, none⟩ = some (.int .i64 a1_0) ∧ w'.cell? ⟨g2, 1, none⟩ = some (.int .i64 a1_1) ∧ w'.cell? ⟨g2, 2, none⟩ = some (.int .i64 a1_2) ∧ w'.cell? ⟨g2, 3, none⟩ = some (.int .i64 a1_3) ∧ w'.cell? (ad21.add ((t20).toNat * 3)) = some (.int .i64 ((rd_T33 l0_0 t20).f0)) ∧ w'.cell? ⟨(ad21.add ((t20).toNat * 3)).block, (ad21.add ((t20).toNat * 3)).off + 1, none⟩ = some (.int .i64 ((rd_T33 l0_0 t20).f1)) ∧ w'.cell? ⟨(ad21.add ((t20).toNat * 3)).block, (ad21.add ((t20).toNat * 3)).off + 2, none⟩ = some (.int .i64 ((rd_T33 l0_0 t20).f2))) ∧ (Kd.R k33 33 w' w.heap.size (fun k_ => k_ ≠ s_) (.slice Ao100 t4.length co100) t4) ∧ (w'.heap[g1]? = some (.cells #[.slice (some ad21) l0_0.length c0_0, .int .i64 a0_1, .int .i64 a0_2, .int .i64 a0_3, .int .i64 a0_4] 26 (0, 0))) ∧ (w'.heap[g2]? = some (.cells #[.int .i64 a1_0, .int .i64 a1_1, .int .i64 a1_2, .int .i64 a1_3] 75 (0, 0))) ∧ (w'.heap[g3]? = some (.cells #[.slice none 0 0, .int .i64 0, .int .i64 0, .int .i64 0, .int .i64 0] 26 (0, 0))) ∧ (w'.heap[g11]? = some (.cells #[.slice Ao100 t4.length co100, .int .i64 t7, .int .i64 t8, .int .i64 t9, .int .i64 t10] 26 (0, 0))) ∧ (w'.heap[s_]? = some (.cells #[.int .i64 0, .int .i64 0, .int .i64 0] 33 (0, 0))) ∧ (w.heap.size ≤ s_) ∧ (w.heap.size ≤ s_) ∧ (g1 ≠ s_) ∧ (s_ ≠ g1) ∧ (g2 ≠ s_) ∧ (s_ ≠ g2) ∧ (g3 ≠ s_) ∧ (s_ ≠ g3) ∧ (g11 ≠ s_) ∧ (s_ ≠ g11) ∧ (Below w.heap.size w w')) ?_ ?_
  rotate_left
  ·intro hCont
   refine tw 5 8 (fun K hK => ?_) (fun K hK => ?_)
   ·skip
    refine gO Tryz.func88 #[.agg #[.slice (some ad21) l0_0.length c0_0, .int .i64 a0_1, .int .i64 a0_2, .int .i64 a0_3, .int .i64 a0_4], .int .i64 a1_1] ?_
    with_reducible refine (Fs.calls k _ _ l0_0 a0_1 a0_2 a0_3 a0_4 a1_1 t20 _ ?side1 ?side2 A37.out).mono ?_
    (case side1 => exact Cs (Kd.C_below HR0_0.out HB.out))
    (case side2 => exact HC0_0.out)
    rintro e w109 ⟨rfl, hb⟩
    refine ⟨_, rfl, ?_⟩
    replace R6 := rT R6 hb
    replace B1 := kT B1 hb
    replace B2 := kT B2 hb
    replace B3 := kT B3 hb
    replace BK111 := kT BK111 hb
    replace HB := bT HB hb
    clear hb
    refine hK.out _ _ ⟨bc B1 0, bc B1 1, bc B1 2, bc B1 3, bc B1 4, bc B2 0, bc B2 1, bc B2 2, bc B2 3, (cb HB hw121_0), (cb HB hw121_1), (cb HB hw121_2)⟩ (fun hHeld => ?_)
    clear hK K
    refine nO 46 ?_
    refine Pu 6 ?_
    refine Ta 7 ?_
    refine oN 8 fun K hK => ?_
    refine bX 8 33 #[.int .i64 0, .int .i64 0, .int .i64 0] ?_
    intro g22 hg w110 B22 hb
    have G22 := gW HB hg
    have E22 := G22
    obtain ⟨N1_22, N22_1⟩ := nB B1 hg
    obtain ⟨N2_22, N22_2⟩ := nB B2 hg
    obtain ⟨N3_22, N22_3⟩ := nB B3 hg
    obtain ⟨N11_22, N22_11⟩ := nB BK111 hg
    replace R6 := rE R6 hg hb
    replace B1 := kT B1 hb
    replace B2 := kT B2 hb
    replace B3 := kT B3 hb
    replace BK111 := kT BK111 hb
    replace HB := bT HB hb
    clear hb hg
    refine hK.out _ _ ⟨bc B1 0, bc B1 1, bc B1 2, bc B1 3, bc B1 4, bc B2 0, bc B2 1, bc B2 2, bc B2 3, (cb HB hw121_0), (cb HB hw121_1), (cb HB hw121_2)⟩ (fun hHeld => ?_)
    clear hK K
    refine nO 8 ?_
    exact norm_ Nz (hCont (g22) _ ⟨hHeld, Ho.RS (Kd.R_mono R6.out (fun _ hk => hk.2)), ks B1, ks B2, ks B3, ks BK111, ks B22, G22.out, E22.out, N1_22.out, N22_1.out, N2_22.out, N22_2.out, N3_22.out, N22_3.out, N11_22.out, N22_11.out, es HB⟩)
   ·skip
    refine bX 8 33 #[.int .i64 0, .int .i64 0, .int .i64 0] ?_
    intro g22 hg w109 B22 hb
    have G22 := gW HB hg
    have E22 := G22
    obtain ⟨N1_22, N22_1⟩ := nB B1 hg
    obtain ⟨N2_22, N22_2⟩ := nB B2 hg
    obtain ⟨N3_22, N22_3⟩ := nB B3 hg
    obtain ⟨N11_22, N22_11⟩ := nB BK111 hg
    replace R6 := rE R6 hg hb
    replace B1 := kT B1 hb
    replace B2 := kT B2 hb
    replace B3 := kT B3 hb
    replace BK111 := kT BK111 hb
    replace HB := bT HB hb
    clear hb hg
    refine hK.out _ _ ⟨bc B1 0, bc B1 1, bc B1 2, bc B1 3, bc B1 4, bc B2 0, bc B2 1, bc B2 2, bc B2 3, (cb HB hw121_0), (cb HB hw121_1), (cb HB hw121_2)⟩ (fun hHeld => ?_)
    clear hK K
    refine nO 8 ?_
    refine oN 5 fun K hK => ?_
    refine gO Tryz.func88 #[.agg #[.slice (some ad21) l0_0.length c0_0, .int .i64 a0_1, .int .i64 a0_2, .int .i64 a0_3, .int .i64 a0_4], .int .i64 a1_1] ?_
    with_reducible refine (Fs.calls k _ _ l0_0 a0_1 a0_2 a0_3 a0_4 a1_1 t20 _ ?side1 ?side2 A37.out).mono ?_
    (case side1 => exact Cs (Kd.C_below HR0_0.out HB.out))
    (case side2 => exact HC0_0.out)
    rintro e w110 ⟨rfl, hb⟩
    refine ⟨_, rfl, ?_⟩
    replace R6 := rT R6 hb
    replace B1 := kT B1 hb
    replace B2 := kT B2 hb
    replace B3 := kT B3 hb
    replace BK111 := kT BK111 hb
    replace B22 := kT B22 hb
    replace HB := bT HB hb
    clear hb
    refine hK.out _ _ ⟨bc B1 0, bc B1 1, bc B1 2, bc B1 3, bc B1 4, bc B2 0, bc B2 1, bc B2 2, bc B2 3, (cb HB hw121_0), (cb HB hw121_1), (cb HB hw121_2)⟩ (fun hHeld => ?_)
    clear hK K
    refine nO 46 ?_
    refine Pu 6 ?_
    refine Ta 7 ?_
    exact norm_ Nz (hCont (g22) _ ⟨hHeld, Ho.RS (Kd.R_mono R6.out (fun _ hk => hk.2)), ks B1, ks B2, ks B3, ks BK111, ks B22, G22.out, E22.out, N1_22.out, N22_1.out, N2_22.out, N22_2.out, N3_22.out, N22_3.out, N11_22.out, N22_11.out, es HB⟩)
  rintro g22 w111 ⟨hS_, h0_, h1_, h2_, h3_, h4_, h5_, h6_, h7_, h8_, h9_, h10_, h11_, h12_, h13_, h14_, h15_, h16_⟩
  have B22 := Ak h5_
  have G22 := Ak h6_
  have E22 := Ak h7_
  have N1_22 := Ak h8_
  have N22_1 := Ak h9_
  have N2_22 := Ak h10_
  have N22_2 := Ak h11_
  have N3_22 := Ak h12_
  have N22_3 := Ak h13_
  have N11_22 := Ak h14_
  have N22_11 := Ak h15_
  replace R6 := Ak h0_
  replace B1 := Ak h1_
  replace B2 := Ak h2_
  replace B3 := Ak h3_
  replace BK111 := Ak h4_
  replace HB := Ak h16_
  clear h0_ h10_ h11_ h12_ h13_ h14_ h15_ h16_ h1_ h2_ h3_ h4_ h5_ h6_ h7_ h8_ h9_
  have hHeld := hS_
  refine nQ ?_
  refine oN 9 fun K hK => ?_
  have hs112 := Sq.c3 B22.out
  have hns112_0 := N1_22.out
  have hns112_1 := N2_22.out
  have hns112_2 := N3_22.out
  have hns112_3 := N11_22.out
  have hms112_0 := N22_1.out
  have hms112_1 := N22_2.out
  have hms112_2 := N22_3.out
  have hms112_3 := N22_11.out
  refine sK ?_
  refine hK.out _ _ ⟨(cf3 N1_22.out hHeld.1), (cf3 N1_22.out hHeld.2.1), (cf3 N1_22.out hHeld.2.2.1), (cf3 N1_22.out hHeld.2.2.2.1), (cf3 N1_22.out hHeld.2.2.2.2.1), (cf3 N2_22.out hHeld.2.2.2.2.2.1), (cf3 N2_22.out hHeld.2.2.2.2.2.2.1), (cf3 N2_22.out hHeld.2.2.2.2.2.2.2.1), (cf3 N2_22.out hHeld.2.2.2.2.2.2.2.2.1), (Sq.cB Bq hw121_0), (Sq.cB Bq hw121_1), (Sq.cB Bq hw121_2)⟩ (fun hHeld => ?_)
  clear hK K
  refine dO ?_
  have n15 := nP N2_22
  have z16 := Sq.c4 B2.out
  have n17 := nP N22_1
  have n18 := nP N22_3
  have n19 := nP N22_11
  have z20 := Sq.c3 B22.out
  try go_wp2
  refine gn g22 w111 (.cells #[.int .i64 ((rd_T33 l0_0 t20).f0), .int .i64 ((rd_T33 l0_0 t20).f1), .int .i64 ((rd_T33 l0_0 t20).f2)] 33 (0, 0)) ?hh ?_
  (case hh => apply Sq.put3; exact bS B22.out)
  intro w121 hK_ hG_
  replace R6 := cQ (ok' := (fun k_ => k_ ≠ g22)) R6 (fun k_ hk => (⟨hk, hk⟩ : _ ∧ k_ ≠ g22)) hK_ (fun _ hk => hk.1)
  replace B1 := cK B1 hK_ N1_22
  replace B2 := cK B2 hK_ N2_22
  replace B3 := cK B3 hK_ N3_22
  replace BK111 := cK BK111 hK_ N11_22
  replace HB := cB_ HB hK_ E22
  replace B22 := hG_
  clear hK_
  replace R6 := rD R6
  replace B1 := kD B1
  replace B2 := kD B2
  replace B3 := kD B3
  replace BK111 := kD BK111
  replace B22 := kD B22
  replace HB := bD HB
  refine sT 12 (fun w' => w'.cell? ⟨g1, 0, none⟩ = some (.slice (some ad21) l0_0.length c0_0) ∧ w'.cell? ⟨g1, 1, none⟩ = some (.int .i64 a0_1) ∧ w'.cell? ⟨g1, 2, none⟩ = some (.int .i64 a0_2) ∧ w'.cell? ⟨g1, 3, none⟩ = some (.int .i64 a0_3) ∧ w'.cell? ⟨g1, 4, none⟩ = some (.int .i64 a0_4) ∧ w'.cell? ⟨g2, 0, none⟩ = some (.int .i64 a1_0) ∧ w'.cell? ⟨g2, 1, none⟩ = some (.int .i64 a1_1) ∧ w'.cell? ⟨g2, 2, none⟩ = some (.int .i64 a1_2) ∧ w'.cell? ⟨g2, 3, none⟩ = some (.int .i64 a1_3) ∧ w'.cell? ⟨g22, 0, none⟩ = some (.int .i64 ((rd_T33 l0_0 t20).f0)) ∧ w'.cell? ⟨g22, 1, none⟩ = some (.int .i64 ((rd_T33 l0_0 t20).f1)) ∧ w'.cell? ⟨g22, 2, none⟩ = some (.int .i64 ((rd_T33 l0_0 t20).f2))) [] Ft.tab11 Ft.bits11 ⟨bc B1 0, bc B1 1, bc B1 2, bc B1 3, bc B1 4, bc B2 0, bc B2 1, bc B2 2, bc B2 3, bc B22 0, bc B22 1, bc B22 2⟩ fun hHeld HT_ HW_ => ?_
  generalize w121.drew = w122 at R6 B1 B2 B3 BK111 B22 HB hHeld ⊢
  refine Pu 1 ?_
  refine Pu 3 ?_
  refine Pu 6 ?_
  refine Pu 8 ?_
  refine Ta 0 ?_
  refine Ta 2 ?_
  refine Ta 4 ?_
  refine Ta 7 ?_
  refine Ta 9 ?_
  refine oN 5 fun K hK => ?_
  refine gO Tryz.func91 #[.agg #[.slice (some ad21) l0_0.length c0_0, .int .i64 a0_1, .int .i64 a0_2, .int .i64 a0_3, .int .i64 a0_4], .int .i64 a1_1, .int .i64 a1_3] ?_
  with_reducible refine (Faj.calls k _ _ l0_0 a0_1 a0_2 a0_3 a0_4 a1_1 a1_3 t23 t26 t27 t28 t29 _ ?side1 ?side2 A40.out).mono ?_
  (case side1 => exact Cs (Kd.C_below HR0_0.out HB.out))
  (case side2 => exact HC0_0.out)
  rintro e w123 ⟨v24, rfl, ho0, hb⟩
  refine ⟨_, rfl, ?_⟩
  have R25 := Ak (Kd.R_lower (Kd.R_newB (Kd.R_new' ho0 (Kd.R_lt (by exact Ho.RS <| R6.out))) (bS B22.out)) (below_size (by exact eS HB.out)))
  replace R6 := el R6 ho0 hb
  replace B1 := kT B1 hb
  replace B2 := kT B2 hb
  replace B3 := kT B3 hb
  replace BK111 := kT BK111 hb
  replace B22 := kT B22 hb
  replace HB := bT HB hb
  clear hb
  (try clear ho0)
  obtain ⟨Ao124, co124, eo124⟩ := Kd.R_slice R25.out
  (first | subst eo124 | (injection eo124 with f1_ f2_ f3_; have f4_ := f1_.symm; have f5_ := f3_.symm; clear f1_ f2_ f3_; subst f4_; subst f5_))
  refine hK.out _ _ ⟨bc B1 0, bc B1 1, bc B1 2, bc B1 3, bc B1 4, bc B2 0, bc B2 1, bc B2 2, bc B2 3, bc B22 0, bc B22 1, bc B22 2⟩ (fun hHeld => ?_)
  clear hK K
  refine nO 59 ?_
  refine oN 10 fun K hK => ?_
  refine gO Tryz.func90 #[.agg #[.slice Ao124 t23.length co124, .int .i64 t26, .int .i64 t27, .int .i64 t28, .int .i64 t29], .int .i64 ((rd_T33 l0_0 t20).f1), .int .i64 a1_3] ?_
  with_reducible refine (Fbm.calls _ _ t23 t26 t27 t28 t29 ((rd_T33 l0_0 t20).f1) a1_3 t30 t33 t34 t35 t36 _ ?side1 ?side2 A41.out).mono ?_
  (case side1 => exact Cs (Kd.R_reads' R25.out).2.2)
  (case side2 => exact (Kd.R_reads' R25.out).2.1)
  rintro e w125 ⟨v31, rfl, ho0, hb⟩
  refine ⟨_, rfl, ?_⟩
  have R32 := Ak (Kd.R_lower (Kd.R_newB (Kd.R_new' (Kd.R_new' ho0 (Kd.R_lt (by exact Ho.RS <| R6.out))) (Kd.R_lt (by exact Ho.RS <| R25.out))) (bS B22.out)) (below_size (by exact eS HB.out)))
  replace R6 := el R6 ho0 hb
  replace R25 := el R25 ho0 hb
  replace B1 := kT B1 hb
  replace B2 := kT B2 hb
  replace B3 := kT B3 hb
  replace BK111 := kT BK111 hb
  replace B22 := kT B22 hb
  replace HB := bT HB hb
  clear hb
  (try clear ho0)
  obtain ⟨Ao26, co26, eo26⟩ := Kd.R_slice R32.out
  (first | subst eo26 | (injection eo26 with f1_ f2_ f3_; have f4_ := f1_.symm; have f5_ := f3_.symm; clear f1_ f2_ f3_; subst f4_; subst f5_))
  refine hK.out _ _ ⟨bc B1 0, bc B1 1, bc B1 2, bc B1 3, bc B1 4, bc B2 0, bc B2 1, bc B2 2, bc B2 3, bc B22 0, bc B22 1, bc B22 2⟩ (fun hHeld => ?_)
  clear hK K
  refine nO 64 ?_
  refine oN 11 fun K hK => ?_
  have hs127 := Sq.c5 BK111.out
  have hns127_0 := N1_11.out
  have hns127_1 := N2_11.out
  have hns127_2 := N3_11.out
  have hns127_4 := N22_11.out
  have hms127_0 := N11_1.out
  have hms127_1 := N11_2.out
  have hms127_2 := N11_3.out
  have hms127_4 := N11_22.out
  refine sK ?_
  refine hK.out _ _ ⟨(cf5 N1_11.out hHeld.1), (cf5 N1_11.out hHeld.2.1), (cf5 N1_11.out hHeld.2.2.1), (cf5 N1_11.out hHeld.2.2.2.1), (cf5 N1_11.out hHeld.2.2.2.2.1), (cf5 N2_11.out hHeld.2.2.2.2.2.1), (cf5 N2_11.out hHeld.2.2.2.2.2.2.1), (cf5 N2_11.out hHeld.2.2.2.2.2.2.2.1), (cf5 N2_11.out hHeld.2.2.2.2.2.2.2.2.1), (cf5 N22_11.out hHeld.2.2.2.2.2.2.2.2.2.1), (cf5 N22_11.out hHeld.2.2.2.2.2.2.2.2.2.2.1), (cf5 N22_11.out hHeld.2.2.2.2.2.2.2.2.2.2.2)⟩ (fun hHeld => ?_)
  clear hK K
  refine dO ?_
  try go_wp2
  refine gn g11 w125 (.cells #[.slice Ao26 t30.length co26, .int .i64 t33, .int .i64 t34, .int .i64 t35, .int .i64 t36] 26 (0, 0)) ?hh ?_
  (case hh => apply Sq.put5; exact bS BK111.out)
  intro w132 hK_ hG_
  replace R32 := cR (ok' := (fun k_ => some k_ ≠ (.slice Ao100 t4.length co100 : Value).ownBlock ∧ some k_ ≠ (.slice Ao124 t23.length co124 : Value).ownBlock ∧ k_ ≠ g22)) R32 BK111 hK_ (fun _ hk => ⟨hk.1.1.1.2, ⟨hk.1.1.2, hk.1.2⟩⟩)
  replace R25 := cR (ok' := (fun k_ => some k_ ≠ (.slice Ao100 t4.length co100 : Value).ownBlock ∧ some k_ ≠ (.slice Ao26 t30.length co26 : Value).ownBlock ∧ k_ ≠ g22)) R25 BK111 hK_ (fun _ hk => ⟨hk.1.1.1.2, ⟨hk.1.2, hk.1.1.2⟩⟩)
  replace R6 := cR (ok' := (fun k_ => some k_ ≠ (.slice Ao124 t23.length co124 : Value).ownBlock ∧ some k_ ≠ (.slice Ao26 t30.length co26 : Value).ownBlock ∧ k_ ≠ g22)) R6 BK111 hK_ (fun _ hk => ⟨hk.1.1.2, ⟨hk.1.2, hk.1.1.1⟩⟩)
  replace B1 := cK B1 hK_ N1_11
  replace B2 := cK B2 hK_ N2_11
  replace B3 := cK B3 hK_ N3_11
  replace B22 := cK B22 hK_ N22_11
  replace HB := cB_ HB hK_ E11
  replace BK111 := hG_
  clear hK_
  replace R6 := rD R6
  replace R25 := rD R25
  replace R32 := rD R32
  replace B1 := kD B1
  replace B2 := kD B2
  replace B3 := kD B3
  replace BK111 := kD BK111
  replace B22 := kD B22
  replace HB := bD HB
  refine sT 8 (H5 g11 (.slice Ao26 t30.length co26) (.int .i64 t33) (.int .i64 t34) (.int .i64 t35) (.int .i64 t36)) [] Ft.tab17 Ft.bits17 (h5 BK111) fun hHeld HT_ HW_ => ?_
  generalize w132.drew = w133 at R6 R25 R32 B1 B2 B3 BK111 B22 HB hHeld ⊢
  refine Pu 1 ?_
  refine Pu 2 ?_
  refine Pn 3 ?_
  refine Pn 4 ?_
  refine Pu 5 ?_
  refine Ta 0 ?_
  refine oN 6 fun K hK => ?_
  have hs134 := Sq.c5 B3.out
  have hns134_0 := N1_3.out
  have hns134_1 := N2_3.out
  have hns134_3 := N11_3.out
  have hns134_4 := N22_3.out
  have hms134_0 := N3_1.out
  have hms134_1 := N3_2.out
  have hms134_3 := N3_11.out
  have hms134_4 := N3_22.out
  refine sK ?_
  refine hK.out _ _ ⟨(cf5 N11_3.out hHeld.1), (cf5 N11_3.out hHeld.2.1), (cf5 N11_3.out hHeld.2.2.1), (cf5 N11_3.out hHeld.2.2.2.1), (cf5 N11_3.out hHeld.2.2.2.2)⟩ (fun hHeld => ?_)
  clear hK K
  refine Pu 7 ?_
  refine dO ?_
  try go_wp2
  refine bodyPost_ret (results_ct rfl _ _ g3 26 #[.slice Ao26 t30.length co26, .int .i64 t33, .int .i64 t34, .int .i64 t35, .int .i64 t36] (0, 0) _ rfl (by apply Sq.put5; exact bS B3.out) Tryz.underlying26 rfl (by kernel_rfl)) rfl ?_
  exact ⟨_, Ez, rY5 R32 B3 (fun _ hk => trivial), Bq⟩
 rw [if_pos c42] at H
 have c42b0 := decide_eq_true c42
 clear c42
 obtain ⟨t37, A43, H⟩ := bn H
 (try dsimp only at H)
 simp only [Option.some.injEq, Prod.mk.injEq] at H
 obtain ⟨rfl, rfl, rfl, rfl, rfl, rfl⟩ := H
 go_enter Tryz.func78, Tryz.ntmps78
 try go_wp2_with (first | (refine bE 2 26 #[.slice A0_0 l0_0.length c0_0, .int .i64 a0_1, .int .i64 a0_2, .int .i64 a0_3, .int .i64 a0_4] ?_; intro g1 hg w44 B1 hb; have E1 := gW HB hg; replace HB := bT HB hb; clear hb hg) | (refine bE 3 75 #[.int .i64 a1_0, .int .i64 a1_1, .int .i64 a1_2, .int .i64 a1_3] ?_; intro g2 hg w45 B2 hb; have E2 := gW HB hg; obtain ⟨N1_2, N2_1⟩ := nB B1 hg; replace B1 := kT B1 hb; replace HB := bT HB hb; clear hb hg) | (refine bE 4 26 #[.slice none 0 0, .int .i64 0, .int .i64 0, .int .i64 0, .int .i64 0] ?_; intro g3 hg w46 B3 hb; have E3 := gW HB hg; obtain ⟨N1_3, N3_1⟩ := nB B1 hg; obtain ⟨N2_3, N3_2⟩ := nB B2 hg; replace B1 := kT B1 hb; replace B2 := kT B2 hb; replace HB := bT HB hb; clear hb hg; have hnb47 := nP N1_2; have hnb48 := nP N1_3; have hz49 := Sq.c5 B1.out) | (refine cE (some 10) Tryz.func89 #[.agg #[.slice A0_0 l0_0.length c0_0, .int .i64 a0_1, .int .i64 a0_2, .int .i64 a0_3, .int .i64 a0_4]] ?_; (with_reducible refine (Fan.calls _ _ l0_0 a0_1 a0_2 a0_3 a0_4 t4 t7 t8 t9 t10 _ ?side1 ?side2 A3.out).mono ?_); (case side1 => exact Cs (Kd.C_below HR0_0.out HB.out)); (case side2 => exact HC0_0.out); rintro e w50 ⟨v5, rfl, ho0, hb⟩; refine ⟨_, rfl, ?_⟩; have R6 := lw HB ho0; replace B1 := kT B1 hb; replace B2 := kT B2 hb; replace B3 := kT B3 hb; replace HB := bT HB hb; clear hb; (try clear ho0)) | (refine bE 6 26 #[.slice none 0 0, .int .i64 0, .int .i64 0, .int .i64 0, .int .i64 0] ?_; intro g11 hg w51 BK111 hb; have E11 := gW HB hg; obtain ⟨N1_11, N11_1⟩ := nB B1 hg; obtain ⟨N2_11, N11_2⟩ := nB B2 hg; obtain ⟨N3_11, N11_3⟩ := nB B3 hg; replace R6 := rT R6 hb; replace B1 := kT B1 hb; replace B2 := kT B2 hb; replace B3 := kT B3 hb; replace HB := bT HB hb; clear hb hg; obtain ⟨Ao52, co52, eo52⟩ := Kd.R_slice R6.out; subst eo52; have hnb53 := nP N11_1; have hnb54 := nP N11_2; have hnb55 := nP N11_3; have hz56 := Sq.c5 BK111.out; have hnb57 := nP N2_3; have hz58 := Sq.c4 B2.out))
 have n0_ : Aside0 (Kd.R k33 33 (((((w51.setCell ⟨g11, 0, none⟩ (.slice Ao52 t4.length co52)).setCell ⟨g11, 1, none⟩ (.int .i64 t7)).setCell ⟨g11, 2, none⟩ (.int .i64 t8)).setCell ⟨g11, 3, none⟩ (.int .i64 t9)).setCell ⟨g11, 4, none⟩ (.int .i64 t10)) w.heap.size (fun _ => True) (.slice Ao52 t4.length co52) t4) := ⟨rY5 R6 BK111 (fun _ hk => trivial)⟩
 have n1_ : Aside0 ((((((w51.setCell ⟨g11, 0, none⟩ (.slice Ao52 t4.length co52)).setCell ⟨g11, 1, none⟩ (.int .i64 t7)).setCell ⟨g11, 2, none⟩ (.int .i64 t8)).setCell ⟨g11, 3, none⟩ (.int .i64 t9)).setCell ⟨g11, 4, none⟩ (.int .i64 t10)).heap[g1]? = some (.cells #[.slice A0_0 l0_0.length c0_0, .int .i64 a0_1, .int .i64 a0_2, .int .i64 a0_3, .int .i64 a0_4] 26 (0, 0))) := ⟨Kz⟩
 have n2_ : Aside0 ((((((w51.setCell ⟨g11, 0, none⟩ (.slice Ao52 t4.length co52)).setCell ⟨g11, 1, none⟩ (.int .i64 t7)).setCell ⟨g11, 2, none⟩ (.int .i64 t8)).setCell ⟨g11, 3, none⟩ (.int .i64 t9)).setCell ⟨g11, 4, none⟩ (.int .i64 t10)).heap[g2]? = some (.cells #[.int .i64 a1_0, .int .i64 a1_1, .int .i64 a1_2, .int .i64 a1_3] 75 (0, 0))) := ⟨Kz⟩
 have n3_ : Aside0 ((((((w51.setCell ⟨g11, 0, none⟩ (.slice Ao52 t4.length co52)).setCell ⟨g11, 1, none⟩ (.int .i64 t7)).setCell ⟨g11, 2, none⟩ (.int .i64 t8)).setCell ⟨g11, 3, none⟩ (.int .i64 t9)).setCell ⟨g11, 4, none⟩ (.int .i64 t10)).heap[g3]? = some (.cells #[.slice none 0 0, .int .i64 0, .int .i64 0, .int .i64 0, .int .i64 0] 26 (0, 0))) := ⟨Kz⟩
 have n4_ : Aside0 ((((((w51.setCell ⟨g11, 0, none⟩ (.slice Ao52 t4.length co52)).setCell ⟨g11, 1, none⟩ (.int .i64 t7)).setCell ⟨g11, 2, none⟩ (.int .i64 t8)).setCell ⟨g11, 3, none⟩ (.int .i64 t9)).setCell ⟨g11, 4, none⟩ (.int .i64 t10)).heap[g11]? = some (.cells #[.slice Ao52 t4.length co52, .int .i64 t7, .int .i64 t8, .int .i64 t9, .int .i64 t10] 26 (0, 0))) := ⟨by apply Sq.put5; exact bS BK111.out⟩
 have n5_ : Aside0 (Below w.heap.size w (((((w51.setCell ⟨g11, 0, none⟩ (.slice Ao52 t4.length co52)).setCell ⟨g11, 1, none⟩ (.int .i64 t7)).setCell ⟨g11, 2, none⟩ (.int .i64 t8)).setCell ⟨g11, 3, none⟩ (.int .i64 t9)).setCell ⟨g11, 4, none⟩ (.int .i64 t10))) := ⟨Bq⟩
 (try clear R6)
 (try clear B1)
 (try clear B2)
 (try clear B3)
 (try clear BK111)
 (try clear HB)
 generalize (((((w51.setCell ⟨g11, 0, none⟩ (.slice Ao52 t4.length co52)).setCell ⟨g11, 1, none⟩ (.int .i64 t7)).setCell ⟨g11, 2, none⟩ (.int .i64 t8)).setCell ⟨g11, 3, none⟩ (.int .i64 t9)).setCell ⟨g11, 4, none⟩ (.int .i64 t10)) = w59 at n0_ n1_ n2_ n3_ n4_ n5_ ⊢
 have R6 := n0_
 have B1 := n1_
 have B2 := n2_
 have B3 := n3_
 have BK111 := n4_
 have HB := n5_
 clear n0_ n1_ n2_ n3_ n4_ n5_
 replace R6 := rD R6
 replace B1 := kD B1
 replace B2 := kD B2
 replace B3 := kD B3
 replace BK111 := kD BK111
 replace HB := bD HB
 have p21 : 0 ≤ (t20 : Int) := Dz
 have q21 : t20 < (l0_0.length : Int) := Dz
 obtain ⟨ad21, e21, hx21_0, hx21_1, hx21_2⟩ := at_T33 HR0_0.out t20 p21 q21
 have hw121_2 := hx21_2
 have hw121_1 := hx21_1
 have hw121_0 := hx21_0
 cases e21
 replace hx21_0 := Sq.cB HB.out hx21_0
 replace hx21_1 := Sq.cB HB.out hx21_1
 replace hx21_2 := Sq.cB HB.out hx21_2
 replace p21 := eq_true p21
 replace q21 := eq_true q21
 refine sT 10 (fun w' => w'.cell? ⟨g1, 0, none⟩ = some (.slice (some ad21) l0_0.length c0_0) ∧ w'.cell? ⟨g1, 1, none⟩ = some (.int .i64 a0_1) ∧ w'.cell? ⟨g1, 2, none⟩ = some (.int .i64 a0_2) ∧ w'.cell? ⟨g1, 3, none⟩ = some (.int .i64 a0_3) ∧ w'.cell? ⟨g1, 4, none⟩ = some (.int .i64 a0_4) ∧ w'.cell? ⟨g2, 0, none⟩ = some (.int .i64 a1_0) ∧ w'.cell? ⟨g2, 1, none⟩ = some (.int .i64 a1_1) ∧ w'.cell? ⟨g2, 2, none⟩ = some (.int .i64 a1_2) ∧ w'.cell? ⟨g2, 3, none⟩ = some (.int .i64 a1_3) ∧ w'.cell? (ad21.add ((t20).toNat * 3)) = some (.int .i64 ((rd_T33 l0_0 t20).f0)) ∧ w'.cell? ⟨(ad21.add ((t20).toNat * 3)).block, (ad21.add ((t20).toNat * 3)).off + 1, none⟩ = some (.int .i64 ((rd_T33 l0_0 t20).f1)) ∧ w'.cell? ⟨(ad21.add ((t20).toNat * 3)).block, (ad21.add ((t20).toNat * 3)).off + 2, none⟩ = some (.int .i64 ((rd_T33 l0_0 t20).f2))) [] Ft.tab9 Ft.bits9 ⟨bc B1 0, bc B1 1, bc B1 2, bc B1 3, bc B1 4, bc B2 0, bc B2 1, bc B2 2, bc B2 3, (cb HB hw121_0), (cb HB hw121_1), (cb HB hw121_2)⟩ fun hHeld HT_ HW_ => ?_
 generalize w59.drew = w60 at R6 B1 B2 B3 BK111 HB hx21_0 hx21_1 hx21_2 hHeld ⊢
 refine Pu 0 ?_
 refine Pu 3 ?_
 refine Ta 1 ?_
 refine Ta 2 ?_
 refine Ta 4 ?_
 refine join_ (σ := Nat) 1 (Bt 10 511) (fun s_ => [(46, .int .i64 t20), (8, .pointer (some ⟨s_, 0, none⟩)), (47, .pointer (some (ad21.add ((t20).toNat * 3)))), (48, .agg #[.int .i64 ((rd_T33 l0_0 t20).f0), .int .i64 ((rd_T33 l0_0 t20).f1), .int .i64 ((rd_T33 l0_0 t20).f2)])]) (fun s_ w' => (w'.cell? ⟨g1, 0, none⟩ = some (.slice (some ad21) l0_0.length c0_0) ∧ w'.cell? ⟨g1, 1, none⟩ = some (.int .i64 a0_1) ∧ w'.cell? ⟨g1, 2, none⟩ = some (.int .i64 a0_2) ∧ w'.cell? ⟨g1, 3, none⟩ = some (.int .i64 a0_3) ∧ w'.cell? ⟨g1, 4, none⟩ = some (.int .i64 a0_4) ∧ w'.cell? ⟨g2, 0, none⟩ = some (.int .i64 a1_0) ∧ w'.cell? ⟨g2, 1, none⟩ = some (.int .i64 a1_1) ∧ w'.cell? ⟨g2, 2, none⟩ = some (.int .i64 a1_2) ∧ w'.cell? ⟨g2, 3, none⟩ = some (.int .i64 a1_3) ∧ w'.cell? (ad21.add ((t20).toNat * 3)) = some (.int .i64 ((rd_T33 l0_0 t20).f0)) ∧ w'.cell? ⟨(ad21.add ((t20).toNat * 3)).block, (ad21.add ((t20).toNat * 3)).off + 1, none⟩ = some (.int .i64 ((rd_T33 l0_0 t20).f1)) ∧ w'.cell? ⟨(ad21.add ((t20).toNat * 3)).block, (ad21.add ((t20).toNat * 3)).off + 2, none⟩ = some (.int .i64 ((rd_T33 l0_0 t20).f2))) ∧ (Kd.R k33 33 w' w.heap.size (fun k_ => k_ ≠ s_) (.slice Ao52 t4.length co52) t4) ∧ (w'.heap[g1]? = some (.cells #[.slice (some ad21) l0_0.length c0_0, .int .i64 a0_1, .int .i64 a0_2, .int .i64 a0_3, .int .i64 a0_4] 26 (0, 0))) ∧ (w'.heap[g2]? = some (.cells #[.int .i64 a1_0, .int .i64 a1_1, .int .i64 a1_2, .int .i64 a1_3] 75 (0, 0))) ∧ (w'.heap[g3]? = some (.cells #[.slice none 0 0, .int .i64 0, .int .i64 0, .int .i64 0, .int .i64 0] 26 (0, 0))) ∧ (w'.heap[g11]? = some (.cells #[.slice Ao52 t4.length co52, .int .i64 t7, .int .i64 t8, .int .i64 t9, .int .i64 t10] 26 (0, 0))) ∧ (w'.heap[s_]? = some (.cells #[.int .i64 0, .int .i64 0, .int .i64 0] 33 (0, 0))) ∧ (w.heap.size ≤ s_) ∧ (w.heap.size ≤ s_) ∧ (g1 ≠ s_) ∧ (s_ ≠ g1) ∧ (g2 ≠ s_) ∧ (s_ ≠ g2) ∧ (g3 ≠ s_) ∧ (s_ ≠ g3) ∧ (g11 ≠ s_) ∧ (s_ ≠ g11) ∧ (Below w.heap.size w w')) ?_ ?_
 rotate_left
 ·intro hCont
  refine tw 5 8 (fun K hK => ?_) (fun K hK => ?_)
  ·skip
   refine gO Tryz.func88 #[.agg #[.slice (some ad21) l0_0.length c0_0, .int .i64 a0_1, .int .i64 a0_2, .int .i64 a0_3, .int .i64 a0_4], .int .i64 a1_1] ?_
   with_reducible refine (Fs.calls k _ _ l0_0 a0_1 a0_2 a0_3 a0_4 a1_1 t20 _ ?side1 ?side2 A37.out).mono ?_
   (case side1 => exact Cs (Kd.C_below HR0_0.out HB.out))
   (case side2 => exact HC0_0.out)
   rintro e w61 ⟨rfl, hb⟩
   refine ⟨_, rfl, ?_⟩
   replace R6 := rT R6 hb
   replace B1 := kT B1 hb
   replace B2 := kT B2 hb
   replace B3 := kT B3 hb
   replace BK111 := kT BK111 hb
   replace HB := bT HB hb
   clear hb
   refine hK.out _ _ ⟨bc B1 0, bc B1 1, bc B1 2, bc B1 3, bc B1 4, bc B2 0, bc B2 1, bc B2 2, bc B2 3, (cb HB hw121_0), (cb HB hw121_1), (cb HB hw121_2)⟩ (fun hHeld => ?_)
   clear hK K
   refine nO 46 ?_
   refine Pu 6 ?_
   refine Ta 7 ?_
   refine oN 8 fun K hK => ?_
   refine bX 8 33 #[.int .i64 0, .int .i64 0, .int .i64 0] ?_
   intro g22 hg w62 B22 hb
   have G22 := gW HB hg
   have E22 := G22
   obtain ⟨N1_22, N22_1⟩ := nB B1 hg
   obtain ⟨N2_22, N22_2⟩ := nB B2 hg
   obtain ⟨N3_22, N22_3⟩ := nB B3 hg
   obtain ⟨N11_22, N22_11⟩ := nB BK111 hg
   replace R6 := rE R6 hg hb
   replace B1 := kT B1 hb
   replace B2 := kT B2 hb
   replace B3 := kT B3 hb
   replace BK111 := kT BK111 hb
   replace HB := bT HB hb
   clear hb hg
   refine hK.out _ _ ⟨bc B1 0, bc B1 1, bc B1 2, bc B1 3, bc B1 4, bc B2 0, bc B2 1, bc B2 2, bc B2 3, (cb HB hw121_0), (cb HB hw121_1), (cb HB hw121_2)⟩ (fun hHeld => ?_)
   clear hK K
   refine nO 8 ?_
   exact norm_ Nz (hCont (g22) _ ⟨hHeld, Ho.RS (Kd.R_mono R6.out (fun _ hk => hk.2)), ks B1, ks B2, ks B3, ks BK111, ks B22, G22.out, E22.out, N1_22.out, N22_1.out, N2_22.out, N22_2.out, N3_22.out, N22_3.out, N11_22.out, N22_11.out, es HB⟩)
  ·skip
   refine bX 8 33 #[.int .i64 0, .int .i64 0, .int .i64 0] ?_
   intro g22 hg w61 B22 hb
   have G22 := gW HB hg
   have E22 := G22
   obtain ⟨N1_22, N22_1⟩ := nB B1 hg
   obtain ⟨N2_22, N22_2⟩ := nB B2 hg
   obtain ⟨N3_22, N22_3⟩ := nB B3 hg
   obtain ⟨N11_22, N22_11⟩ := nB BK111 hg
   replace R6 := rE R6 hg hb
   replace B1 := kT B1 hb
   replace B2 := kT B2 hb
   replace B3 := kT B3 hb
   replace BK111 := kT BK111 hb
   replace HB := bT HB hb
   clear hb hg
   refine hK.out _ _ ⟨bc B1 0, bc B1 1, bc B1 2, bc B1 3, bc B1 4, bc B2 0, bc B2 1, bc B2 2, bc B2 3, (cb HB hw121_0), (cb HB hw121_1), (cb HB hw121_2)⟩ (fun hHeld => ?_)
   clear hK K
   refine nO 8 ?_
   refine oN 5 fun K hK => ?_
   refine gO Tryz.func88 #[.agg #[.slice (some ad21) l0_0.length c0_0, .int .i64 a0_1, .int .i64 a0_2, .int .i64 a0_3, .int .i64 a0_4], .int .i64 a1_1] ?_
   with_reducible refine (Fs.calls k _ _ l0_0 a0_1 a0_2 a0_3 a0_4 a1_1 t20 _ ?side1 ?side2 A37.out).mono ?_
   (case side1 => exact Cs (Kd.C_below HR0_0.out HB.out))
   (case side2 => exact HC0_0.out)
   rintro e w62 ⟨rfl, hb⟩
   refine ⟨_, rfl, ?_⟩
   replace R6 := rT R6 hb
   replace B1 := kT B1 hb
   replace B2 := kT B2 hb
   replace B3 := kT B3 hb
   replace BK111 := kT BK111 hb
   replace B22 := kT B22 hb
   replace HB := bT HB hb
   clear hb
   refine hK.out _ _ ⟨bc B1 0, bc B1 1, bc B1 2, bc B1 3, bc B1 4, bc B2 0, bc B2 1, bc B2 2, bc B2 3, (cb HB hw121_0), (cb HB hw121_1), (cb HB hw121_2)⟩ (fun hHeld => ?_)
   clear hK K
   refine nO 46 ?_
   refine Pu 6 ?_
   refine Ta 7 ?_
   exact norm_ Nz (hCont (g22) _ ⟨hHeld, Ho.RS (Kd.R_mono R6.out (fun _ hk => hk.2)), ks B1, ks B2, ks B3, ks BK111, ks B22, G22.out, E22.out, N1_22.out, N22_1.out, N2_22.out, N22_2.out, N3_22.out, N22_3.out, N11_22.out, N22_11.out, es HB⟩)
 rintro g22 w63 ⟨hS_, h0_, h1_, h2_, h3_, h4_, h5_, h6_, h7_, h8_, h9_, h10_, h11_, h12_, h13_, h14_, h15_, h16_⟩
 have B22 := Ak h5_
 have G22 := Ak h6_
 have E22 := Ak h7_
 have N1_22 := Ak h8_
 have N22_1 := Ak h9_
 have N2_22 := Ak h10_
 have N22_2 := Ak h11_
 have N3_22 := Ak h12_
 have N22_3 := Ak h13_
 have N11_22 := Ak h14_
 have N22_11 := Ak h15_
 replace R6 := Ak h0_
 replace B1 := Ak h1_
 replace B2 := Ak h2_
 replace B3 := Ak h3_
 replace BK111 := Ak h4_
 replace HB := Ak h16_
 clear h0_ h10_ h11_ h12_ h13_ h14_ h15_ h16_ h1_ h2_ h3_ h4_ h5_ h6_ h7_ h8_ h9_
 have hHeld := hS_
 refine nQ ?_
 refine oN 9 fun K hK => ?_
 have hs64 := Sq.c3 B22.out
 have hns64_0 := N1_22.out
 have hns64_1 := N2_22.out
 have hns64_2 := N3_22.out
 have hns64_3 := N11_22.out
 have hms64_0 := N22_1.out
 have hms64_1 := N22_2.out
 have hms64_2 := N22_3.out
 have hms64_3 := N22_11.out
 refine sK ?_
 refine hK.out _ _ ⟨(cf3 N1_22.out hHeld.1), (cf3 N1_22.out hHeld.2.1), (cf3 N1_22.out hHeld.2.2.1), (cf3 N1_22.out hHeld.2.2.2.1), (cf3 N1_22.out hHeld.2.2.2.2.1), (cf3 N2_22.out hHeld.2.2.2.2.2.1), (cf3 N2_22.out hHeld.2.2.2.2.2.2.1), (cf3 N2_22.out hHeld.2.2.2.2.2.2.2.1), (cf3 N2_22.out hHeld.2.2.2.2.2.2.2.2.1), (Sq.cB Bq hw121_0), (Sq.cB Bq hw121_1), (Sq.cB Bq hw121_2)⟩ (fun hHeld => ?_)
 clear hK K
 refine dO ?_
 have hnb67 := nP N2_22
 have hz68 := Sq.c4 B2.out
 have hnb69 := nP N22_1
 have hnb70 := nP N22_3
 have hnb71 := nP N22_11
 have hz72 := Sq.c3 B22.out
 try go_wp2
 refine gn g22 w63 (.cells #[.int .i64 ((rd_T33 l0_0 t20).f0), .int .i64 ((rd_T33 l0_0 t20).f1), .int .i64 ((rd_T33 l0_0 t20).f2)] 33 (0, 0)) ?hh ?_
 (case hh => apply Sq.put3; exact bS B22.out)
 intro w73 hK_ hG_
 replace R6 := cQ (ok' := (fun k_ => k_ ≠ g22)) R6 (fun k_ hk => (⟨hk, hk⟩ : _ ∧ k_ ≠ g22)) hK_ (fun _ hk => hk.1)
 replace B1 := cK B1 hK_ N1_22
 replace B2 := cK B2 hK_ N2_22
 replace B3 := cK B3 hK_ N3_22
 replace BK111 := cK BK111 hK_ N11_22
 replace HB := cB_ HB hK_ E22
 replace B22 := hG_
 clear hK_
 replace R6 := rD R6
 replace B1 := kD B1
 replace B2 := kD B2
 replace B3 := kD B3
 replace BK111 := kD BK111
 replace B22 := kD B22
 replace HB := bD HB
 refine sT 12 (fun w' => w'.cell? ⟨g1, 0, none⟩ = some (.slice (some ad21) l0_0.length c0_0) ∧ w'.cell? ⟨g1, 1, none⟩ = some (.int .i64 a0_1) ∧ w'.cell? ⟨g1, 2, none⟩ = some (.int .i64 a0_2) ∧ w'.cell? ⟨g1, 3, none⟩ = some (.int .i64 a0_3) ∧ w'.cell? ⟨g1, 4, none⟩ = some (.int .i64 a0_4) ∧ w'.cell? ⟨g2, 0, none⟩ = some (.int .i64 a1_0) ∧ w'.cell? ⟨g2, 1, none⟩ = some (.int .i64 a1_1) ∧ w'.cell? ⟨g2, 2, none⟩ = some (.int .i64 a1_2) ∧ w'.cell? ⟨g2, 3, none⟩ = some (.int .i64 a1_3) ∧ w'.cell? ⟨g22, 0, none⟩ = some (.int .i64 ((rd_T33 l0_0 t20).f0)) ∧ w'.cell? ⟨g22, 1, none⟩ = some (.int .i64 ((rd_T33 l0_0 t20).f1)) ∧ w'.cell? ⟨g22, 2, none⟩ = some (.int .i64 ((rd_T33 l0_0 t20).f2))) [] Ft.tab11 Ft.bits11 ⟨bc B1 0, bc B1 1, bc B1 2, bc B1 3, bc B1 4, bc B2 0, bc B2 1, bc B2 2, bc B2 3, bc B22 0, bc B22 1, bc B22 2⟩ fun hHeld HT_ HW_ => ?_
 generalize w73.drew = w74 at R6 B1 B2 B3 BK111 B22 HB hHeld ⊢
 refine Pu 1 ?_
 refine Pu 3 ?_
 refine Pu 6 ?_
 refine Pu 8 ?_
 refine Ta 0 ?_
 refine Ta 2 ?_
 refine Ta 4 ?_
 refine Ta 7 ?_
 refine Ta 9 ?_
 refine oN 5 fun K hK => ?_
 refine gO Tryz.func91 #[.agg #[.slice (some ad21) l0_0.length c0_0, .int .i64 a0_1, .int .i64 a0_2, .int .i64 a0_3, .int .i64 a0_4], .int .i64 a1_1, .int .i64 a1_3] ?_
 with_reducible refine (Faj.calls k _ _ l0_0 a0_1 a0_2 a0_3 a0_4 a1_1 a1_3 t23 t26 t27 t28 t29 _ ?side1 ?side2 A40.out).mono ?_
 (case side1 => exact Cs (Kd.C_below HR0_0.out HB.out))
 (case side2 => exact HC0_0.out)
 rintro e w75 ⟨v24, rfl, ho0, hb⟩
 refine ⟨_, rfl, ?_⟩
 have R25 := Ak (Kd.R_lower (Kd.R_newB (Kd.R_new' ho0 (Kd.R_lt (by exact Ho.RS <| R6.out))) (bS B22.out)) (below_size (by exact eS HB.out)))
 replace R6 := el R6 ho0 hb
 replace B1 := kT B1 hb
 replace B2 := kT B2 hb
 replace B3 := kT B3 hb
 replace BK111 := kT BK111 hb
 replace B22 := kT B22 hb
 replace HB := bT HB hb
 clear hb
 (try clear ho0)
 obtain ⟨Ao76, co76, eo76⟩ := Kd.R_slice R25.out
 (first | subst eo76 | (injection eo76 with f1_ f2_ f3_; have f4_ := f1_.symm; have f5_ := f3_.symm; clear f1_ f2_ f3_; subst f4_; subst f5_))
 refine hK.out _ _ ⟨bc B1 0, bc B1 1, bc B1 2, bc B1 3, bc B1 4, bc B2 0, bc B2 1, bc B2 2, bc B2 3, bc B22 0, bc B22 1, bc B22 2⟩ (fun hHeld => ?_)
 clear hK K
 refine nO 59 ?_
 refine oN 10 fun K hK => ?_
 refine gO Tryz.func90 #[.agg #[.slice Ao76 t23.length co76, .int .i64 t26, .int .i64 t27, .int .i64 t28, .int .i64 t29], .int .i64 ((rd_T33 l0_0 t20).f1), .int .i64 a1_3] ?_
 with_reducible refine (Fbm.calls _ _ t23 t26 t27 t28 t29 ((rd_T33 l0_0 t20).f1) a1_3 t30 t33 t34 t35 t36 _ ?side1 ?side2 A41.out).mono ?_
 (case side1 => exact Cs (Kd.R_reads' R25.out).2.2)
 (case side2 => exact (Kd.R_reads' R25.out).2.1)
 rintro e w77 ⟨v31, rfl, ho0, hb⟩
 refine ⟨_, rfl, ?_⟩
 have R32 := Ak (Kd.R_lower (Kd.R_newB (Kd.R_new' (Kd.R_new' ho0 (Kd.R_lt (by exact Ho.RS <| R6.out))) (Kd.R_lt (by exact Ho.RS <| R25.out))) (bS B22.out)) (below_size (by exact eS HB.out)))
 replace R6 := el R6 ho0 hb
 replace R25 := el R25 ho0 hb
 replace B1 := kT B1 hb
 replace B2 := kT B2 hb
 replace B3 := kT B3 hb
 replace BK111 := kT BK111 hb
 replace B22 := kT B22 hb
 replace HB := bT HB hb
 clear hb
 (try clear ho0)
 obtain ⟨Ao78, co78, eo78⟩ := Kd.R_slice R32.out
 (first | subst eo78 | (injection eo78 with f1_ f2_ f3_; have f4_ := f1_.symm; have f5_ := f3_.symm; clear f1_ f2_ f3_; subst f4_; subst f5_))
 refine hK.out _ _ ⟨bc B1 0, bc B1 1, bc B1 2, bc B1 3, bc B1 4, bc B2 0, bc B2 1, bc B2 2, bc B2 3, bc B22 0, bc B22 1, bc B22 2⟩ (fun hHeld => ?_)
 clear hK K
 refine nO 64 ?_
 refine oN 11 fun K hK => ?_
 have hs79 := Sq.c5 BK111.out
 have hns79_0 := N1_11.out
 have hns79_1 := N2_11.out
 have hns79_2 := N3_11.out
 have hns79_4 := N22_11.out
 have hms79_0 := N11_1.out
 have hms79_1 := N11_2.out
 have hms79_2 := N11_3.out
 have hms79_4 := N11_22.out
 refine sK ?_
 refine hK.out _ _ ⟨(cf5 N1_11.out hHeld.1), (cf5 N1_11.out hHeld.2.1), (cf5 N1_11.out hHeld.2.2.1), (cf5 N1_11.out hHeld.2.2.2.1), (cf5 N1_11.out hHeld.2.2.2.2.1), (cf5 N2_11.out hHeld.2.2.2.2.2.1), (cf5 N2_11.out hHeld.2.2.2.2.2.2.1), (cf5 N2_11.out hHeld.2.2.2.2.2.2.2.1), (cf5 N2_11.out hHeld.2.2.2.2.2.2.2.2.1), (cf5 N22_11.out hHeld.2.2.2.2.2.2.2.2.2.1), (cf5 N22_11.out hHeld.2.2.2.2.2.2.2.2.2.2.1), (cf5 N22_11.out hHeld.2.2.2.2.2.2.2.2.2.2.2)⟩ (fun hHeld => ?_)
 clear hK K
 refine dO ?_
 try go_wp2
 refine gn g11 w77 (.cells #[.slice Ao78 t30.length co78, .int .i64 t33, .int .i64 t34, .int .i64 t35, .int .i64 t36] 26 (0, 0)) ?hh ?_
 (case hh => apply Sq.put5; exact bS BK111.out)
 intro w84 hK_ hG_
 replace R32 := cR (ok' := (fun k_ => some k_ ≠ (.slice Ao52 t4.length co52 : Value).ownBlock ∧ some k_ ≠ (.slice Ao76 t23.length co76 : Value).ownBlock ∧ k_ ≠ g22)) R32 BK111 hK_ (fun _ hk => ⟨hk.1.1.1.2, ⟨hk.1.1.2, hk.1.2⟩⟩)
 replace R25 := cR (ok' := (fun k_ => some k_ ≠ (.slice Ao52 t4.length co52 : Value).ownBlock ∧ some k_ ≠ (.slice Ao78 t30.length co78 : Value).ownBlock ∧ k_ ≠ g22)) R25 BK111 hK_ (fun _ hk => ⟨hk.1.1.1.2, ⟨hk.1.2, hk.1.1.2⟩⟩)
 replace R6 := cR (ok' := (fun k_ => some k_ ≠ (.slice Ao76 t23.length co76 : Value).ownBlock ∧ some k_ ≠ (.slice Ao78 t30.length co78 : Value).ownBlock ∧ k_ ≠ g22)) R6 BK111 hK_ (fun _ hk => ⟨hk.1.1.2, ⟨hk.1.2, hk.1.1.1⟩⟩)
 replace B1 := cK B1 hK_ N1_11
 replace B2 := cK B2 hK_ N2_11
 replace B3 := cK B3 hK_ N3_11
 replace B22 := cK B22 hK_ N22_11
 replace HB := cB_ HB hK_ E11
 replace BK111 := hG_
 clear hK_
 replace R6 := rD R6
 replace R25 := rD R25
 replace R32 := rD R32
 replace B1 := kD B1
 replace B2 := kD B2
 replace B3 := kD B3
 replace BK111 := kD BK111
 replace B22 := kD B22
 replace HB := bD HB
 refine sT 8 (H5 g11 (.slice Ao78 t30.length co78) (.int .i64 t33) (.int .i64 t34) (.int .i64 t35) (.int .i64 t36)) [] Ft.tab17 Ft.bits17 (h5 BK111) fun hHeld HT_ HW_ => ?_
 generalize w84.drew = w85 at R6 R25 R32 B1 B2 B3 BK111 B22 HB hHeld ⊢
 refine Pu 1 ?_
 refine Pu 2 ?_
 refine Ta 0 ?_
 refine Ta 3 ?_
 refine oN 4 fun K hK => ?_
 refine gO Tryz.func24 #[.agg #[.slice Ao78 t30.length co78, .int .i64 t33, .int .i64 t34, .int .i64 t35, .int .i64 t36]] ?_
 with_reducible refine (Ff.calls k _ _ t30 t33 t34 t35 t36 t37 _ ?side1 ?side2 A43.out).mono ?_
 (case side1 => exact Cs (Kd.R_reads' R32.out).2.2)
 (case side2 => exact (Kd.R_reads' R32.out).2.1)
 rintro e w86 ⟨rfl, hb⟩
 refine ⟨_, rfl, ?_⟩
 replace R6 := rT R6 hb
 replace R25 := rT R25 hb
 replace R32 := rT R32 hb
 replace B1 := kT B1 hb
 replace B2 := kT B2 hb
 replace B3 := kT B3 hb
 replace BK111 := kT BK111 hb
 replace B22 := kT B22 hb
 replace HB := bT HB hb
 clear hb
 refine hK.out _ _ (h5 BK111) (fun hHeld => ?_)
 clear hK K
 refine nO 94 ?_
 refine Pu 5 ?_
 refine oN 6 fun K hK => ?_
 have hs87 := Sq.c5 B3.out
 have hns87_0 := N1_3.out
 have hns87_1 := N2_3.out
 have hns87_3 := N11_3.out
 have hns87_4 := N22_3.out
 have hms87_0 := N3_1.out
 have hms87_1 := N3_2.out
 have hms87_3 := N3_11.out
 have hms87_4 := N3_22.out
 refine sK ?_
 refine hK.out _ _ ⟨(cf5 N11_3.out hHeld.1), (cf5 N11_3.out hHeld.2.1), (cf5 N11_3.out hHeld.2.2.1), (cf5 N11_3.out hHeld.2.2.2.1), (cf5 N11_3.out hHeld.2.2.2.2)⟩ (fun hHeld => ?_)
 clear hK K
 refine Pu 7 ?_
 refine dO ?_
 try go_wp2
 refine bodyPost_ret (results_ct rfl _ _ g3 26 #[.slice Ao78 t30.length co78, .int .i64 t33, .int .i64 t34, .int .i64 t35, .int .i64 t36] (0, 0) _ rfl (by apply Sq.put5; exact bS B3.out) Tryz.underlying26 rfl (by kernel_rfl)) rfl ?_
 exact ⟨_, Ez, rY5 R32 B3 (fun _ hk => trivial), Bq⟩
end
section
attribute [local go_sem ↓] Ho.isSome_setCell_
/-! ### Fax: function 77 -/
def Fax.f (k : Nat) (l0_0 : List (S33)) (a0_1 : Int) (a0_2 : Int) (a0_3 : Int) (a0_4 : Int) (a1_0 : Int) (a1_1 : Int) (a1_2 : Int) (a1_3 : Int) : Option (Bool) := if a1_0 = 1 then (if a1_1 = 0 then ((Fah.f a1_2).bind fun t103 => (if t103 = true then ((Fal.f a1_3).bind fun t104 => (some t104)) else (some false))) else (some false)) else ((Fs.f k l0_0 a0_1 a0_2 a0_3 a0_4 a1_1).bind fun t105 => (if t105 < 0 then (some false) else (if a1_0 = 3 then ((Fs.f k l0_0 a0_1 a0_2 a0_3 a0_4 a1_2).bind fun t106 => (if t106 ≥ 0 then (if a1_2 = a1_1 then (some false) else (some (a1_3 == 0))) else (some false))) else ((Fai.f a1_0 2 5).bind fun t107 => (if t107 = true then (if a1_2 = 0 then ((Fal.f a1_3).bind fun t108 => (some t108)) else (some false)) else (some false))))))
theorem Fax.mono : ∀ a0 a1 a2 a3 a4 a5 a6 a7 a8 k, LeO (Fax.f k a0 a1 a2 a3 a4 a5 a6 a7 a8) (Fax.f (k + 1) a0 a1 a2 a3 a4 a5 a6 a7 a8) := by
  intro a0 a1 a2 a3 a4 a5 a6 a7 a8 k
  unfold Fax.f
  repeat' (with_reducible first | apply Fs.mono | exact LeO.refl _ | exact LeO.none _ | refine LeO.ite ?_ ?_ | refine LeO.bind ?_ (fun _ => ?_))
theorem Fax.calls (k : Nat) (A0_0 : Option Addr) (c0_0 : Nat) (l0_0 : List (S33)) (a0_1 : Int) (a0_2 : Int) (a0_3 : Int) (a0_4 : Int) (a1_0 : Int) (a1_1 : Int) (a1_2 : Int) (a1_3 : Int) (r : Bool) (w : World) (hr0_0 : Kd.C k33 w A0_0 l0_0.length l0_0) (hc0_0 : l0_0.length ≤ c0_0) (h : Fax.f k l0_0 a0_1 a0_2 a0_3 a0_4 a1_0 a1_1 a1_2 a1_3 = some r) :
  Calls Tryz.prog 77 #[.agg #[.slice A0_0 l0_0.length c0_0, .int .i64 a0_1, .int .i64 a0_2, .int .i64 a0_3, .int .i64 a0_4], .agg #[.int .i64 a1_0, .int .i64 a1_1, .int .i64 a1_2, .int .i64 a1_3]] w fun e w' => e = .returned (.bool r) ∧ Below w.heap.size w w' := by
 have hu26 := Tryz.underlying26
 have hu75 := Tryz.underlying75
 have HR0_0 := Aside0.mk hr0_0
 have HC0_0 := Aside0.mk hc0_0
 clear hr0_0 hc0_0
 have HB := Aside0.mk (Below.refl w.heap.size w)
 have H := h
 clear h
 unfold Fax.f at H
 by_cases c3 : a1_0 = 1
 rw [if_pos c3] at H
 have c3b0 := beq_iff_eq.mpr c3
 have c3b1 := bne_eq_false_iff_eq.mpr c3
 clear c3
 by_cases c4 : a1_1 = 0
 rw [if_pos c4] at H
 have c4b0 := beq_iff_eq.mpr c4
 have c4b1 := bne_eq_false_iff_eq.mpr c4
 clear c4
 obtain ⟨t3, A5, H⟩ := bn H
 (try dsimp only at H)
 by_cases c6 : t3 = true
 subst c6
 rw [if_pos rfl] at H
 obtain ⟨t4, A7, H⟩ := bn H
 (try dsimp only at H)
 obtain rfl := Option.some.inj H
 have WAY0 := True.intro
 rotate_left
 replace c6 := Bool.eq_false_iff.mpr c6
 subst c6
 rw [if_neg (show ¬ (false = true) by decide)] at H
 obtain rfl := Option.some.inj H
 have WAY1 := True.intro
 rotate_left
 rw [if_neg c4] at H
 have c4b0 := beq_eq_false_iff_ne.mpr c4
 have c4b1 := bne_iff_ne.mpr c4
 obtain rfl := Option.some.inj H
 have WAY2 := True.intro
 rotate_left
 rw [if_neg c3] at H
 have c3b0 := beq_eq_false_iff_ne.mpr c3
 have c3b1 := bne_iff_ne.mpr c3
 obtain ⟨t5, A20, H⟩ := bn H
 (try dsimp only at H)
 by_cases c21 : t5 < 0
 rw [if_pos c21] at H
 have c21b0 := decide_eq_true c21
 clear c21
 obtain rfl := Option.some.inj H
 have WAY3 := True.intro
 rotate_left
 rw [if_neg c21] at H
 have c21b0 := decide_eq_false c21
 clear c21
 by_cases c28 : a1_0 = 3
 rw [if_pos c28] at H
 have c28b0 := beq_iff_eq.mpr c28
 have c28b1 := bne_eq_false_iff_eq.mpr c28
 clear c28
 obtain ⟨t6, A29, H⟩ := bn H
 (try dsimp only at H)
 by_cases c30 : t6 ≥ 0
 rw [if_pos c30] at H
 have c30b0 := decide_eq_true c30
 clear c30
 by_cases c31 : a1_2 = a1_1
 rw [if_pos c31] at H
 have c31b0 := beq_iff_eq.mpr c31
 have c31b1 := bne_eq_false_iff_eq.mpr c31
 clear c31
 obtain rfl := Option.some.inj H
 have WAY4 := True.intro
 rotate_left
 rw [if_neg c31] at H
 have c31b0 := beq_eq_false_iff_ne.mpr c31
 have c31b1 := bne_iff_ne.mpr c31
 obtain rfl := Option.some.inj H
 have WAY5 := True.intro
 rotate_left
 rw [if_neg c30] at H
 have c30b0 := decide_eq_false c30
 clear c30
 obtain rfl := Option.some.inj H
 have WAY6 := True.intro
 rotate_left
 rw [if_neg c28] at H
 have c28b0 := beq_eq_false_iff_ne.mpr c28
 have c28b1 := bne_iff_ne.mpr c28
 obtain ⟨t7, A61, H⟩ := bn H
 (try dsimp only at H)
 by_cases c62 : t7 = true
 subst c62
 rw [if_pos rfl] at H
 by_cases c63 : a1_2 = 0
 rw [if_pos c63] at H
 have c63b0 := beq_iff_eq.mpr c63
 have c63b1 := bne_eq_false_iff_eq.mpr c63
 clear c63
 obtain ⟨t8, A64, H⟩ := bn H
 (try dsimp only at H)
 obtain rfl := Option.some.inj H
 have WAY7 := True.intro
 rotate_left
 rw [if_neg c63] at H
 have c63b0 := beq_eq_false_iff_ne.mpr c63
 have c63b1 := bne_iff_ne.mpr c63
 obtain rfl := Option.some.inj H
 have WAY8 := True.intro
 rotate_left
 replace c62 := Bool.eq_false_iff.mpr c62
 subst c62
 rw [if_neg (show ¬ (false = true) by decide)] at H
 obtain rfl := Option.some.inj H
 have WAY9 := True.intro
 rotate_left
 all_goals
  go_enter Tryz.func77, Tryz.ntmps77
  go_wp2_with (first | (refine bE 2 26 #[.slice A0_0 l0_0.length c0_0, .int .i64 a0_1, .int .i64 a0_2, .int .i64 a0_3, .int .i64 a0_4] ?_; intro g1 hg w8 B1 hb; have E1 := gW HB hg; replace HB := bT HB hb; clear hb hg) | ((first | guard_hyp WAY0 : True | guard_hyp WAY1 : True | guard_hyp WAY2 : True); (refine bE 3 75 #[.int .i64 a1_0, .int .i64 a1_1, .int .i64 a1_2, .int .i64 a1_3] ?_; intro g2 hg w9 B2 hb; have E2 := gW HB hg; obtain ⟨N1_2, N2_1⟩ := nB B1 hg; replace B1 := kT B1 hb; replace HB := bT HB hb; clear hb hg; have hnb10 := nP N2_1; have hz11 := Sq.c4 B2.out)) | ((guard_hyp WAY0 : True); (go_at_call 25; (with_reducible refine (Fah.calls a1_2 true _ A5.out).mono ?_); rintro e w' ⟨rfl, ⟨nd, rfl⟩⟩)) | ((guard_hyp WAY0 : True); (go_at_call 26; (with_reducible refine (Fal.calls a1_3 t4 _ A7.out).mono ?_); rintro e w' ⟨rfl, ⟨nd, rfl⟩⟩)) | ((guard_hyp WAY1 : True); (go_at_call 25; (with_reducible refine (Fah.calls a1_2 false _ A5.out).mono ?_); rintro e w' ⟨rfl, ⟨nd, rfl⟩⟩)) | ((guard_hyp WAY3 : True); (refine bE 3 75 #[.int .i64 a1_0, .int .i64 a1_1, .int .i64 a1_2, .int .i64 a1_3] ?_; intro g2 hg w23 B2 hb; have E2 := gW HB hg; obtain ⟨N1_2, N2_1⟩ := nB B1 hg; replace B1 := kT B1 hb; replace HB := bT HB hb; clear hb hg; have hnb24 := nP N2_1; have hz25 := Sq.c4 B2.out; have hz26 := Sq.c5 B1.out)) | ((guard_hyp WAY3 : True); (refine cE (some 24) Tryz.func88 #[.agg #[.slice A0_0 l0_0.length c0_0, .int .i64 a0_1, .int .i64 a0_2, .int .i64 a0_3, .int .i64 a0_4], .int .i64 a1_1] ?_; (with_reducible refine (Fs.calls k _ _ l0_0 a0_1 a0_2 a0_3 a0_4 a1_1 t5 _ ?side1 ?side2 A20.out).mono ?_); (case side1 => exact Cs (Kd.C_below HR0_0.out HB.out)); (case side2 => exact HC0_0.out); rintro e w27 ⟨rfl, hb⟩; refine ⟨_, rfl, ?_⟩; replace B1 := kT B1 hb; replace B2 := kT B2 hb; replace HB := bT HB hb; clear hb)) | ((guard_hyp WAY4 : True); (refine bE 3 75 #[.int .i64 a1_0, .int .i64 a1_1, .int .i64 a1_2, .int .i64 a1_3] ?_; intro g2 hg w33 B2 hb; have E2 := gW HB hg; obtain ⟨N1_2, N2_1⟩ := nB B1 hg; replace B1 := kT B1 hb; replace HB := bT HB hb; clear hb hg; have hnb34 := nP N2_1; have hz35 := Sq.c4 B2.out; have hz36 := Sq.c5 B1.out)) | ((guard_hyp WAY4 : True); (refine cE (some 24) Tryz.func88 #[.agg #[.slice A0_0 l0_0.length c0_0, .int .i64 a0_1, .int .i64 a0_2, .int .i64 a0_3, .int .i64 a0_4], .int .i64 a1_1] ?_; (with_reducible refine (Fs.calls k _ _ l0_0 a0_1 a0_2 a0_3 a0_4 a1_1 t5 _ ?side1 ?side2 A20.out).mono ?_); (case side1 => exact Cs (Kd.C_below HR0_0.out HB.out)); (case side2 => exact HC0_0.out); rintro e w37 ⟨rfl, hb⟩; refine ⟨_, rfl, ?_⟩; replace B1 := kT B1 hb; replace B2 := kT B2 hb; replace HB := bT HB hb; clear hb; have hz38 := Sq.c4 B2.out; have hz39 := Sq.c5 B1.out)) | ((guard_hyp WAY4 : True); (refine cE (some 32) Tryz.func88 #[.agg #[.slice A0_0 l0_0.length c0_0, .int .i64 a0_1, .int .i64 a0_2, .int .i64 a0_3, .int .i64 a0_4], .int .i64 a1_2] ?_; (with_reducible refine (Fs.calls k _ _ l0_0 a0_1 a0_2 a0_3 a0_4 a1_2 t6 _ ?side1 ?side2 A29.out).mono ?_); (case side1 => exact Cs (Kd.C_below HR0_0.out HB.out)); (case side2 => exact HC0_0.out); rintro e w40 ⟨rfl, hb⟩; refine ⟨_, rfl, ?_⟩; replace B1 := kT B1 hb; replace B2 := kT B2 hb; replace HB := bT HB hb; clear hb; have hz41 := Sq.c4 B2.out)) | ((guard_hyp WAY5 : True); (refine bE 3 75 #[.int .i64 a1_0, .int .i64 a1_1, .int .i64 a1_2, .int .i64 a1_3] ?_; intro g2 hg w43 B2 hb; have E2 := gW HB hg; obtain ⟨N1_2, N2_1⟩ := nB B1 hg; replace B1 := kT B1 hb; replace HB := bT HB hb; clear hb hg; have hnb44 := nP N2_1; have hz45 := Sq.c4 B2.out; have hz46 := Sq.c5 B1.out)) | ((guard_hyp WAY5 : True); (refine cE (some 24) Tryz.func88 #[.agg #[.slice A0_0 l0_0.length c0_0, .int .i64 a0_1, .int .i64 a0_2, .int .i64 a0_3, .int .i64 a0_4], .int .i64 a1_1] ?_; (with_reducible refine (Fs.calls k _ _ l0_0 a0_1 a0_2 a0_3 a0_4 a1_1 t5 _ ?side1 ?side2 A20.out).mono ?_); (case side1 => exact Cs (Kd.C_below HR0_0.out HB.out)); (case side2 => exact HC0_0.out); rintro e w47 ⟨rfl, hb⟩; refine ⟨_, rfl, ?_⟩; replace B1 := kT B1 hb; replace B2 := kT B2 hb; replace HB := bT HB hb; clear hb; have hz48 := Sq.c4 B2.out; have hz49 := Sq.c5 B1.out)) | ((guard_hyp WAY5 : True); (refine cE (some 32) Tryz.func88 #[.agg #[.slice A0_0 l0_0.length c0_0, .int .i64 a0_1, .int .i64 a0_2, .int .i64 a0_3, .int .i64 a0_4], .int .i64 a1_2] ?_; (with_reducible refine (Fs.calls k _ _ l0_0 a0_1 a0_2 a0_3 a0_4 a1_2 t6 _ ?side1 ?side2 A29.out).mono ?_); (case side1 => exact Cs (Kd.C_below HR0_0.out HB.out)); (case side2 => exact HC0_0.out); rintro e w50 ⟨rfl, hb⟩; refine ⟨_, rfl, ?_⟩; replace B1 := kT B1 hb; replace B2 := kT B2 hb; replace HB := bT HB hb; clear hb; have hz51 := Sq.c4 B2.out)) | ((guard_hyp WAY6 : True); (refine bE 3 75 #[.int .i64 a1_0, .int .i64 a1_1, .int .i64 a1_2, .int .i64 a1_3] ?_; intro g2 hg w53 B2 hb; have E2 := gW HB hg; obtain ⟨N1_2, N2_1⟩ := nB B1 hg; replace B1 := kT B1 hb; replace HB := bT HB hb; clear hb hg; have hnb54 := nP N2_1; have hz55 := Sq.c4 B2.out; have hz56 := Sq.c5 B1.out)) | ((guard_hyp WAY6 : True); (refine cE (some 24) Tryz.func88 #[.agg #[.slice A0_0 l0_0.length c0_0, .int .i64 a0_1, .int .i64 a0_2, .int .i64 a0_3, .int .i64 a0_4], .int .i64 a1_1] ?_; (with_reducible refine (Fs.calls k _ _ l0_0 a0_1 a0_2 a0_3 a0_4 a1_1 t5 _ ?side1 ?side2 A20.out).mono ?_); (case side1 => exact Cs (Kd.C_below HR0_0.out HB.out)); (case side2 => exact HC0_0.out); rintro e w57 ⟨rfl, hb⟩; refine ⟨_, rfl, ?_⟩; replace B1 := kT B1 hb; replace B2 := kT B2 hb; replace HB := bT HB hb; clear hb; have hz58 := Sq.c4 B2.out; have hz59 := Sq.c5 B1.out)) | ((guard_hyp WAY6 : True); (refine cE (some 32) Tryz.func88 #[.agg #[.slice A0_0 l0_0.length c0_0, .int .i64 a0_1, .int .i64 a0_2, .int .i64 a0_3, .int .i64 a0_4], .int .i64 a1_2] ?_; (with_reducible refine (Fs.calls k _ _ l0_0 a0_1 a0_2 a0_3 a0_4 a1_2 t6 _ ?side1 ?side2 A29.out).mono ?_); (case side1 => exact Cs (Kd.C_below HR0_0.out HB.out)); (case side2 => exact HC0_0.out); rintro e w60 ⟨rfl, hb⟩; refine ⟨_, rfl, ?_⟩; replace B1 := kT B1 hb; replace B2 := kT B2 hb; replace HB := bT HB hb; clear hb)) | ((guard_hyp WAY7 : True); (refine bE 3 75 #[.int .i64 a1_0, .int .i64 a1_1, .int .i64 a1_2, .int .i64 a1_3] ?_; intro g2 hg w66 B2 hb; have E2 := gW HB hg; obtain ⟨N1_2, N2_1⟩ := nB B1 hg; replace B1 := kT B1 hb; replace HB := bT HB hb; clear hb hg; have hnb67 := nP N2_1; have hz68 := Sq.c4 B2.out; have hz69 := Sq.c5 B1.out)) | ((guard_hyp WAY7 : True); (refine cE (some 24) Tryz.func88 #[.agg #[.slice A0_0 l0_0.length c0_0, .int .i64 a0_1, .int .i64 a0_2, .int .i64 a0_3, .int .i64 a0_4], .int .i64 a1_1] ?_; (with_reducible refine (Fs.calls k _ _ l0_0 a0_1 a0_2 a0_3 a0_4 a1_1 t5 _ ?side1 ?side2 A20.out).mono ?_); (case side1 => exact Cs (Kd.C_below HR0_0.out HB.out)); (case side2 => exact HC0_0.out); rintro e w70 ⟨rfl, hb⟩; refine ⟨_, rfl, ?_⟩; replace B1 := kT B1 hb; replace B2 := kT B2 hb; replace HB := bT HB hb; clear hb; have hz71 := Sq.c4 B2.out)) | ((first | guard_hyp WAY7 : True | guard_hyp WAY8 : True); (refine cE (some 48) Tryz.func55 #[.int .i64 a1_0, .int .i64 2, .int .i64 5] ?_; (with_reducible refine (Fai.calls a1_0 2 5 true _ A61.out).mono ?_); rintro e w' ⟨rfl, ⟨nd, rfl⟩⟩; refine ⟨_, rfl, ?_⟩)) | ((guard_hyp WAY7 : True); (go_at_call 26; (with_reducible refine (Fal.calls a1_3 t8 _ A64.out).mono ?_); rintro e w' ⟨rfl, ⟨nd, rfl⟩⟩)) | ((guard_hyp WAY8 : True); (refine bE 3 75 #[.int .i64 a1_0, .int .i64 a1_1, .int .i64 a1_2, .int .i64 a1_3] ?_; intro g2 hg w73 B2 hb; have E2 := gW HB hg; obtain ⟨N1_2, N2_1⟩ := nB B1 hg; replace B1 := kT B1 hb; replace HB := bT HB hb; clear hb hg; have hnb74 := nP N2_1; have hz75 := Sq.c4 B2.out; have hz76 := Sq.c5 B1.out)) | ((guard_hyp WAY8 : True); (refine cE (some 24) Tryz.func88 #[.agg #[.slice A0_0 l0_0.length c0_0, .int .i64 a0_1, .int .i64 a0_2, .int .i64 a0_3, .int .i64 a0_4], .int .i64 a1_1] ?_; (with_reducible refine (Fs.calls k _ _ l0_0 a0_1 a0_2 a0_3 a0_4 a1_1 t5 _ ?side1 ?side2 A20.out).mono ?_); (case side1 => exact Cs (Kd.C_below HR0_0.out HB.out)); (case side2 => exact HC0_0.out); rintro e w77 ⟨rfl, hb⟩; refine ⟨_, rfl, ?_⟩; replace B1 := kT B1 hb; replace B2 := kT B2 hb; replace HB := bT HB hb; clear hb; have hz78 := Sq.c4 B2.out)) | ((guard_hyp WAY9 : True); (refine bE 3 75 #[.int .i64 a1_0, .int .i64 a1_1, .int .i64 a1_2, .int .i64 a1_3] ?_; intro g2 hg w80 B2 hb; have E2 := gW HB hg; obtain ⟨N1_2, N2_1⟩ := nB B1 hg; replace B1 := kT B1 hb; replace HB := bT HB hb; clear hb hg; have hnb81 := nP N2_1; have hz82 := Sq.c4 B2.out; have hz83 := Sq.c5 B1.out)) | ((guard_hyp WAY9 : True); (refine cE (some 24) Tryz.func88 #[.agg #[.slice A0_0 l0_0.length c0_0, .int .i64 a0_1, .int .i64 a0_2, .int .i64 a0_3, .int .i64 a0_4], .int .i64 a1_1] ?_; (with_reducible refine (Fs.calls k _ _ l0_0 a0_1 a0_2 a0_3 a0_4 a1_1 t5 _ ?side1 ?side2 A20.out).mono ?_); (case side1 => exact Cs (Kd.C_below HR0_0.out HB.out)); (case side2 => exact HC0_0.out); rintro e w84 ⟨rfl, hb⟩; refine ⟨_, rfl, ?_⟩; replace B1 := kT B1 hb; replace B2 := kT B2 hb; replace HB := bT HB hb; clear hb; have hz85 := Sq.c4 B2.out)) | ((guard_hyp WAY9 : True); (refine cE (some 48) Tryz.func55 #[.int .i64 a1_0, .int .i64 2, .int .i64 5] ?_; (with_reducible refine (Fai.calls a1_0 2 5 false _ A61.out).mono ?_); rintro e w' ⟨rfl, ⟨nd, rfl⟩⟩; refine ⟨_, rfl, ?_⟩)))
  go_ret
  exact ⟨Ez, by exact eS HB.out⟩
end
section
attribute [local go_sem ↓] Ho.isSome_setCell_
/-! ### Fw: function 58 -/
def Fw.j0 : Nat → Bool → List (S33) → Int → Int → Int → Int → Int → Int → Int → Int → Option ((List (S33)) × Int × Int × Int × Int × Bool)
  | 0, _, _, _, _, _, _, _, _, _, _ => none
  | k + 1, x16, x102000, x102001, x102002, x102003, x102004, x103000, x103001, x103002, x103003 => if x16 = true then (some (([] : List (S33)), 0, 0, 0, 0, false)) else ((Ft.f k x102000 x102001 x102002 x102003 x102004 x103000 x103001 x103002 x103003).bind fun bt106 => (if bt106.2.2.2.2.2 = true then (some (bt106.1, bt106.2.1, bt106.2.2.1, bt106.2.2.2.1, bt106.2.2.2.2.1, true)) else (some (([] : List (S33)), 0, 0, 0, 0, false))))
def Fw.f (k : Nat) (l0_0 : List (S33)) (a0_1 : Int) (a0_2 : Int) (a0_3 : Int) (a0_4 : Int) (a1_0 : Int) (a1_1 : Int) (a1_2 : Int) (a1_3 : Int) : Option ((List (S33)) × Int × Int × Int × Int × Bool) := (Ff.f k l0_0 a0_1 a0_2 a0_3 a0_4).bind fun t104 => (if t104 = true then ((Fax.f k l0_0 a0_1 a0_2 a0_3 a0_4 a1_0 a1_1 a1_2 a1_3).bind fun t105 => (Fw.j0 k (!t105) l0_0 a0_1 a0_2 a0_3 a0_4 a1_0 a1_1 a1_2 a1_3)) else (Fw.j0 k true l0_0 a0_1 a0_2 a0_3 a0_4 a1_0 a1_1 a1_2 a1_3))
theorem Fw.mono_l : ∀ k, (∀ y0 y1 y2 y3 y4 y5 y6 y7 y8 y9, LeO (Fw.j0 k y0 y1 y2 y3 y4 y5 y6 y7 y8 y9) (Fw.j0 (k + 1) y0 y1 y2 y3 y4 y5 y6 y7 y8 y9))
  | 0 => fun _ _ _ _ _ _ _ _ _ _ r h => by simp [Fw.j0] at h
  | k + 1 => by
    have ih0 := Fw.mono_l k
    · intro y0 y1 y2 y3 y4 y5 y6 y7 y8 y9
      unfold Fw.j0
      repeat' (with_reducible first | exact ih0 _ _ _ _ _ _ _ _ _ _ | apply Ff.mono | apply Ft.mono | apply Fax.mono | exact LeO.refl _ | exact LeO.none _ | refine LeO.ite ?_ ?_ | refine LeO.bind ?_ (fun _ => ?_))
theorem Fw.mono : ∀ a0 a1 a2 a3 a4 a5 a6 a7 a8 k, LeO (Fw.f k a0 a1 a2 a3 a4 a5 a6 a7 a8) (Fw.f (k + 1) a0 a1 a2 a3 a4 a5 a6 a7 a8) := by
  intro a0 a1 a2 a3 a4 a5 a6 a7 a8 k
  have ih0 := Fw.mono_l k
  unfold Fw.f
  repeat' (with_reducible first | exact ih0 _ _ _ _ _ _ _ _ _ _ | apply Ff.mono | apply Ft.mono | apply Fax.mono | exact LeO.refl _ | exact LeO.none _ | refine LeO.ite ?_ ?_ | refine LeO.bind ?_ (fun _ => ?_))
theorem Fw.calls (k : Nat) (A0_0 : Option Addr) (c0_0 : Nat) (l0_0 : List (S33)) (a0_1 : Int) (a0_2 : Int) (a0_3 : Int) (a0_4 : Int) (a1_0 : Int) (a1_1 : Int) (a1_2 : Int) (a1_3 : Int) (r1 : List (S33)) (r2 : Int) (r3 : Int) (r4 : Int) (r5 : Int) (r6 : Bool) (w : World) (hr0_0 : Kd.C k33 w A0_0 l0_0.length l0_0) (hc0_0 : l0_0.length ≤ c0_0) (h : Fw.f k l0_0 a0_1 a0_2 a0_3 a0_4 a1_0 a1_1 a1_2 a1_3 = some (r1, r2, r3, r4, r5, r6)) :
  Calls Tryz.prog 58 #[.agg #[.slice A0_0 l0_0.length c0_0, .int .i64 a0_1, .int .i64 a0_2, .int .i64 a0_3, .int .i64 a0_4], .agg #[.int .i64 a1_0, .int .i64 a1_1, .int .i64 a1_2, .int .i64 a1_3]] w fun e w' => ∃ v0_ : Value, e = .returned (.tuple #[.agg #[v0_, .int .i64 r2, .int .i64 r3, .int .i64 r4, .int .i64 r5], .bool r6]) ∧ Kd.R k33 33 w' w.heap.size (fun _ => True) v0_ r1 ∧ Below w.heap.size w w' := by
 have hu26 := Tryz.underlying26
 have hu75 := Tryz.underlying75
 have HR0_0 := Aside0.mk hr0_0
 have HC0_0 := Aside0.mk hc0_0
 clear hr0_0 hc0_0
 have HB := Aside0.mk (Below.refl w.heap.size w)
 have H := h
 clear h
 unfold Fw.f at H
 have HC3 := Aside0.mk H
 clear H
 go_enter Tryz.func58, Tryz.ntmps58
 go_upto_region 1 with (first | (refine bE 2 26 #[.slice A0_0 l0_0.length c0_0, .int .i64 a0_1, .int .i64 a0_2, .int .i64 a0_3, .int .i64 a0_4] ?_; intro g1 hg w4 B1 hb; have E1 := gW HB hg; replace HB := bT HB hb; clear hb hg) | (refine bE 3 75 #[.int .i64 a1_0, .int .i64 a1_1, .int .i64 a1_2, .int .i64 a1_3] ?_; intro g2 hg w5 B2 hb; have E2 := gW HB hg; obtain ⟨N1_2, N2_1⟩ := nB B1 hg; replace B1 := kT B1 hb; replace HB := bT HB hb; clear hb hg) | (refine bE 4 26 #[.slice none 0 0, .int .i64 0, .int .i64 0, .int .i64 0, .int .i64 0] ?_; intro g3 hg w6 B3 hb; have E3 := gW HB hg; obtain ⟨N1_3, N3_1⟩ := nB B1 hg; obtain ⟨N2_3, N3_2⟩ := nB B2 hg; replace B1 := kT B1 hb; replace B2 := kT B2 hb; replace HB := bT HB hb; clear hb hg))
 (try simp only [Act.put, List.setIfInBounds_toArray, List.set_cons_zero, List.set_cons_succ])
 go_cut [16] (fun v16 wc => ∃ (kq : Nat) (x16_2 : Bool), v16 = .bool x16_2 ∧ Aside0 (Fw.j0 kq x16_2 l0_0 a0_1 a0_2 a0_3 a0_4 a1_0 a1_1 a1_2 a1_3 = some (r1, r2, r3, r4, r5, r6)) ∧ Aside0 (kq ≤ k) ∧ Aside0 (wc.heap[g1]? = some (.cells #[(.slice A0_0 l0_0.length c0_0), .int .i64 a0_1, .int .i64 a0_2, .int .i64 a0_3, .int .i64 a0_4] 26 (0, 0))) ∧ Aside0 (wc.heap[g2]? = some (.cells #[.int .i64 a1_0, .int .i64 a1_1, .int .i64 a1_2, .int .i64 a1_3] 75 (0, 0))) ∧ Aside0 (wc.heap[g3]? = some (.cells #[(.slice none 0 0), .int .i64 0, .int .i64 0, .int .i64 0, .int .i64 0] 26 (0, 0))) ∧ Aside0 (Below w.heap.size w wc))
 case first =>
  have H := HC3.out
  clear HC3
  obtain ⟨t4, A7, H⟩ := bn H
  (try dsimp only at H)
  by_cases c8 : t4 = true
  rotate_left
  ·replace c8 := Bool.eq_false_iff.mpr c8
   subst c8
   rw [if_neg (show ¬ (false = true) by decide)] at H
   have H' := Aside0.mk H
   clear H
   have hnb18 := nP N1_2
   have hnb19 := nP N1_3
   have hz20 := Sq.c5 B1.out
   go_wp2_with (first | (refine cE (some 9) Tryz.func24 #[.agg #[.slice A0_0 l0_0.length c0_0, .int .i64 a0_1, .int .i64 a0_2, .int .i64 a0_3, .int .i64 a0_4]] ?_; (with_reducible refine (Ff.calls k _ _ l0_0 a0_1 a0_2 a0_3 a0_4 false _ ?side1 ?side2 A7.out).mono ?_); (case side1 => exact Cs (Kd.C_below HR0_0.out HB.out)); (case side2 => exact HC0_0.out); rintro e w21 ⟨rfl, hb⟩; refine ⟨_, rfl, ?_⟩; replace B1 := kT B1 hb; replace B2 := kT B2 hb; replace B3 := kT B3 hb; replace HB := bT HB hb; clear hb))
   go_meet
   case rel => exact ⟨_, (true), Ey, H', ⟨by first | omega | exact Nat.le_refl _⟩, ⟨ks B1⟩, ⟨ks B2⟩, ⟨ks B3⟩, ⟨es HB⟩⟩
  subst c8
  rw [if_pos rfl] at H
  obtain ⟨t5, A9, H⟩ := bn H
  (try dsimp only at H)
  have H' := Aside0.mk H
  clear H
  have hnb10 := nP N1_2
  have hnb11 := nP N1_3
  have hz12 := Sq.c5 B1.out
  go_wp2_with (first | (refine cE (some 9) Tryz.func24 #[.agg #[.slice A0_0 l0_0.length c0_0, .int .i64 a0_1, .int .i64 a0_2, .int .i64 a0_3, .int .i64 a0_4]] ?_; (with_reducible refine (Ff.calls k _ _ l0_0 a0_1 a0_2 a0_3 a0_4 true _ ?side1 ?side2 A7.out).mono ?_); (case side1 => exact Cs (Kd.C_below HR0_0.out HB.out)); (case side2 => exact HC0_0.out); rintro e w13 ⟨rfl, hb⟩; refine ⟨_, rfl, ?_⟩; replace B1 := kT B1 hb; replace B2 := kT B2 hb; replace B3 := kT B3 hb; replace HB := bT HB hb; clear hb; have hz14 := Sq.c5 B1.out; have hnb15 := nP N2_3; have hz16 := Sq.c4 B2.out) | (go_at_call 77; (with_reducible refine (Fax.calls k _ _ l0_0 a0_1 a0_2 a0_3 a0_4 a1_0 a1_1 a1_2 a1_3 t5 _ ?side1 ?side2 A9.out).mono ?_); (case side1 => exact Cs (Kd.C_below HR0_0.out HB.out)); (case side2 => exact HC0_0.out); rintro e w17 ⟨rfl, hb⟩; replace B1 := kT B1 hb; replace B2 := kT B2 hb; replace B3 := kT B3 hb; replace HB := bT HB hb; clear hb))
  go_meet
  case rel => exact ⟨_, (!t5), Ey, H', ⟨by first | omega | exact Nat.le_refl _⟩, ⟨ks B1⟩, ⟨ks B2⟩, ⟨ks B3⟩, ⟨es HB⟩⟩
 case rest =>
  clear HC3
  try clear c1
  try clear c2
  try clear p2
  try clear c5
  try clear c8
  try clear c10
  try clear c11
  try clear c15
  try clear c18
  try clear c19
  (try clear hz12)
  (try clear hz14)
  (try clear hz16)
  (try clear hz20)
  obtain ⟨kq, x16_2, rfl, HA, HJ2, B1, B2, B3, HB⟩ := hcut
  cases kq with
  | zero => exact absurd HA.out (by simp [Fw.j0])
  | succ kj2 =>
   have H := HA.out
   clear HA
   simp only [Fw.j0] at H
   by_cases c22 : x16_2 = true
   ·subst c22
    rw [if_pos rfl] at H
    simp only [Option.some.injEq, Prod.mk.injEq] at H
    obtain ⟨rfl, rfl, rfl, rfl, rfl, rfl⟩ := H
    have hnb23 := nP N3_1
    have hnb24 := nP N3_2
    have hz25 := Sq.c5 B3.out
    go_wp2
    refine bodyPost_ret (results_ct rfl _ _ g3 26 #[.slice none 0 0, .int .i64 0, .int .i64 0, .int .i64 0, .int .i64 0] (0, 0) _ rfl (by apply Sq.put5; exact bS B3.out) Tryz.underlying26 rfl (by kernel_rfl)) rfl ?_
    exact ⟨_, Ez, by first | exact Kd.R_nil _ _ _ _ _ | exact Kd.N_nil _ _ _ _ _ | exact Kd.V_nil _ _ _ _ _ | exact Kd.Q_nil _ _ _ _ _ | exact Kd.S_nil _ _ _ _ _, Bq⟩
   replace c22 := Bool.eq_false_iff.mpr c22
   subst c22
   rw [if_neg (show ¬ (false = true) by decide)] at H
   obtain ⟨⟨t6, t9, t10, t11, t12, t13⟩, A26, H⟩ := bn H
   (try dsimp only at H)
   by_cases c27 : t13 = true
   rotate_left
   ·replace c27 := Bool.eq_false_iff.mpr c27
    subst c27
    rw [if_neg (show ¬ (false = true) by decide)] at H
    simp only [Option.some.injEq, Prod.mk.injEq] at H
    obtain ⟨rfl, rfl, rfl, rfl, rfl, rfl⟩ := H
    have hnb41 := nP N1_2
    have hnb42 := nP N1_3
    have hz43 := Sq.c5 B1.out
    have hnb44 := nP N2_3
    have hz45 := Sq.c4 B2.out
    go_wp2_with (first | (refine cE (some 21) Tryz.func78 #[.agg #[.slice A0_0 l0_0.length c0_0, .int .i64 a0_1, .int .i64 a0_2, .int .i64 a0_3, .int .i64 a0_4], .agg #[.int .i64 a1_0, .int .i64 a1_1, .int .i64 a1_2, .int .i64 a1_3]] ?_; (with_reducible refine (Ft.calls kj2 _ _ l0_0 a0_1 a0_2 a0_3 a0_4 a1_0 a1_1 a1_2 a1_3 t6 t9 t10 t11 t12 false _ ?side1 ?side2 A26.out).mono ?_); (case side1 => exact Cs (Kd.C_below HR0_0.out HB.out)); (case side2 => exact HC0_0.out); rintro e w46 ⟨v7, rfl, ho0, hb⟩; refine ⟨_, rfl, ?_⟩; have R8 := lw HB ho0; replace B1 := kT B1 hb; replace B2 := kT B2 hb; replace B3 := kT B3 hb; replace HB := bT HB hb; clear hb; (try clear ho0)) | (refine bE 6 26 #[.slice none 0 0, .int .i64 0, .int .i64 0, .int .i64 0, .int .i64 0] ?_; intro g14 hg w47 B14 hb; have E14 := gW HB hg; obtain ⟨N1_14, N14_1⟩ := nB B1 hg; obtain ⟨N2_14, N14_2⟩ := nB B2 hg; obtain ⟨N3_14, N14_3⟩ := nB B3 hg; replace R8 := rT R8 hb; replace B1 := kT B1 hb; replace B2 := kT B2 hb; replace B3 := kT B3 hb; replace HB := bT HB hb; clear hb hg; obtain ⟨Ao48, co48, eo48⟩ := Kd.R_slice R8.out; subst eo48; have hnb49 := nP N14_1; have hnb50 := nP N14_2; have hnb51 := nP N14_3; have hz52 := Sq.c5 B14.out; have hz53 := Sq.c5 B3.out))
    refine bodyPost_ret (results_ct rfl _ _ g3 26 #[.slice none 0 0, .int .i64 0, .int .i64 0, .int .i64 0, .int .i64 0] (0, 0) _ rfl (by apply Sq.put5; exact Kz) Tryz.underlying26 rfl (by kernel_rfl)) rfl ?_
    exact ⟨_, Ez, by first | exact Kd.R_nil _ _ _ _ _ | exact Kd.N_nil _ _ _ _ _ | exact Kd.V_nil _ _ _ _ _ | exact Kd.Q_nil _ _ _ _ _ | exact Kd.S_nil _ _ _ _ _, Bq⟩
   subst c27
   rw [if_pos rfl] at H
   simp only [Option.some.injEq, Prod.mk.injEq] at H
   obtain ⟨rfl, rfl, rfl, rfl, rfl, rfl⟩ := H
   have hnb28 := nP N1_2
   have hnb29 := nP N1_3
   have hz30 := Sq.c5 B1.out
   have hnb31 := nP N2_3
   have hz32 := Sq.c4 B2.out
   go_wp2_with (first | (refine cE (some 21) Tryz.func78 #[.agg #[.slice A0_0 l0_0.length c0_0, .int .i64 a0_1, .int .i64 a0_2, .int .i64 a0_3, .int .i64 a0_4], .agg #[.int .i64 a1_0, .int .i64 a1_1, .int .i64 a1_2, .int .i64 a1_3]] ?_; (with_reducible refine (Ft.calls kj2 _ _ l0_0 a0_1 a0_2 a0_3 a0_4 a1_0 a1_1 a1_2 a1_3 t6 t9 t10 t11 t12 true _ ?side1 ?side2 A26.out).mono ?_); (case side1 => exact Cs (Kd.C_below HR0_0.out HB.out)); (case side2 => exact HC0_0.out); rintro e w33 ⟨v7, rfl, ho0, hb⟩; refine ⟨_, rfl, ?_⟩; have R8 := lw HB ho0; replace B1 := kT B1 hb; replace B2 := kT B2 hb; replace B3 := kT B3 hb; replace HB := bT HB hb; clear hb; (try clear ho0)) | (refine bE 6 26 #[.slice none 0 0, .int .i64 0, .int .i64 0, .int .i64 0, .int .i64 0] ?_; intro g14 hg w34 B14 hb; have E14 := gW HB hg; obtain ⟨N1_14, N14_1⟩ := nB B1 hg; obtain ⟨N2_14, N14_2⟩ := nB B2 hg; obtain ⟨N3_14, N14_3⟩ := nB B3 hg; replace R8 := rT R8 hb; replace B1 := kT B1 hb; replace B2 := kT B2 hb; replace B3 := kT B3 hb; replace HB := bT HB hb; clear hb hg; obtain ⟨Ao35, co35, eo35⟩ := Kd.R_slice R8.out; subst eo35; have hnb36 := nP N14_1; have hnb37 := nP N14_2; have hnb38 := nP N14_3; have hz39 := Sq.c5 B14.out; have hz40 := Sq.c5 B3.out))
   refine bodyPost_ret (results_ct rfl _ _ g3 26 #[.slice Ao35 t6.length co35, .int .i64 t9, .int .i64 t10, .int .i64 t11, .int .i64 t12] (0, 0) _ rfl (by apply Sq.put5; exact Kz) Tryz.underlying26 rfl (by kernel_rfl)) rfl ?_
   exact ⟨_, Ez, by exact Ho.RS <| Kd.R_mono (Kd.R_far (p := ⟨g3, 4, none⟩) (Kd.R_far (p := ⟨g3, 3, none⟩) (Kd.R_far (p := ⟨g3, 2, none⟩) (Kd.R_far (p := ⟨g3, 1, none⟩) (Kd.R_far (p := ⟨g3, 0, none⟩) (Kd.R_far (p := ⟨g14, 4, none⟩) (Kd.R_far (p := ⟨g14, 3, none⟩) (Kd.R_far (p := ⟨g14, 2, none⟩) (Kd.R_far (p := ⟨g14, 1, none⟩) (Kd.R_far (p := ⟨g14, 0, none⟩) (Kd.R_types (Kd.R_types R8.out B14.out (by decide)) B3.out (by decide)) (fun _ hk => hk.1.2) (.slice Ao35 t6.length co35)) (fun _ hk => hk.1.2) (.int .i64 t9)) (fun _ hk => hk.1.2) (.int .i64 t10)) (fun _ hk => hk.1.2) (.int .i64 t11)) (fun _ hk => hk.1.2) (.int .i64 t12)) (fun _ hk => hk.2) (.slice Ao35 t6.length co35)) (fun _ hk => hk.2) (.int .i64 t9)) (fun _ hk => hk.2) (.int .i64 t10)) (fun _ hk => hk.2) (.int .i64 t11)) (fun _ hk => hk.2) (.int .i64 t12)) (fun _ hk => trivial), Bq⟩
end
/-! ### Fbk: function 47 -/
def Fbk.f (s0_0 : List Int) (s0_1 : Int) (s0_2 : Int) (a1 : Int) : Option (Bool × Int × Int) := (Faf.f s0_0 s0_1 s0_2 a1).bind fun bt101 => (some ((bt101.1 == 0), bt101.2.1, bt101.2.2))
theorem Fbk.calls (g : Nat) (s0_0 : List Int) (s0_1 : Int) (s0_2 : Int) (a1 : Int) (r1 : Bool) (r2 : Int) (r3 : Int) (w0 w : World) (hI : IsS54 w0 w g s0_0 s0_1 s0_2) (hB : Below w0.heap.size w0 w) (h : Fbk.f s0_0 s0_1 s0_2 a1 = some (r1, r2, r3)) :
  Calls Tryz.prog 47 #[.pointer (some ⟨g, 0, none⟩), .int .i64 a1] w fun e w' => e = .returned (.bool r1) ∧ IsS54 w0 w' g s0_0 r2 r3 ∧ Below w0.heap.size w0 w' ∧ KeepBut w w' g none := by
 have HI0 := Aside0.mk hI
 have HK := Aside0.mk (KeepBut.refl w g none)
 have HL := Aside0.mk hB.size
 clear hI
 have HW0 := Aside0.mk hB.size
 have HB := Aside0.mk hB
 clear hB
 have H := h
 clear h
 unfold Fbk.f at H
 obtain ⟨⟨t1, t2, t3⟩, A3, H⟩ := bn H
 (try dsimp only at H)
 simp only [Option.some.injEq, Prod.mk.injEq] at H
 obtain ⟨rfl, rfl, rfl⟩ := H
 go_enter Tryz.func47, Tryz.ntmps47
 go_wp2_with (first | (refine cE (some 7) Tryz.func48 #[.pointer (some ⟨g, 0, none⟩), .int .i64 a1] ?_; (with_reducible refine (Faf.calls g s0_0 s0_1 s0_2 a1 t1 t2 t3 w0 _ ?side1 ?side2 A3.out).mono ?_); (case side1 => exact IsS54.below HI0.out Ho.Steps.below); (case side2 => exact eS HB.out); rintro e w4 ⟨rfl, hi, hb, hk⟩; refine ⟨_, rfl, ?_⟩; replace HK := hU HK hk; replace HB := Ak hb; replace HI0 := Ak hi; clear hb hk hi))
 go_ret
 exact ⟨Ez, by exact IsS54.below HI0.out Ho.Steps.below, by exact eS HB.out, by exact Ho.kS HK.out⟩
/-! ### Fbs: function 79 -/
def Fbs.f (a0 : Int) (a1 : Int) : Option (Int) := if a0 > a1 then (some a0) else (some a1)
theorem Fbs.calls (a0 : Int) (a1 : Int) (r : Int) (w : World) (h : Fbs.f a0 a1 = some r) :
  Calls Tryz.prog 79 #[.int .i64 a0, .int .i64 a1] w fun e w' => e = .returned (.int .i64 r) ∧ Drawn0 w w' := by
 have H := h
 clear h
 unfold Fbs.f at H
 by_cases c3 : a0 > a1
 ·rw [if_pos c3] at H
  have c3b0 := decide_eq_true c3
  clear c3
  obtain rfl := Option.some.inj H
  go_enter Tryz.func79, Tryz.ntmps79
  go_wp2
  go_ret
  exact ⟨by first | rfl | (simp; done) | (simp [*]; done), by repeat (first | exact Drawn0.refl _ | apply Drawn0.step)⟩
 ·rw [if_neg c3] at H
  have c3b0 := decide_eq_false c3
  clear c3
  obtain rfl := Option.some.inj H
  go_enter Tryz.func79, Tryz.ntmps79
  go_wp2
  go_ret
  exact ⟨by first | rfl | (simp; done) | (simp [*]; done), by repeat (first | exact Drawn0.refl _ | apply Drawn0.step)⟩
section
attribute [local go_sem ↓] Ho.isSome_setCell_
/-! ### Fb: function 59 -/
mutual
def Fb.j2 : Nat → Int → Int → Int → List Int → Int → Int → Option (Int × Int × Int × Int × Int × Int)
  | 0, _, _, _, _, _, _ => none
  | k + 1, x5, x6, x7, x1000, x1001, x1002 => (Fbs.f 1 (wrap64 (Int.tdiv x7 2))).bind fun t118 => ((Fm.f x1000 x1001 x1002 (([1, 10, x7, t118, wrap64 (x7 + 1)] : List Int))).bind fun bt122 => ((Faf.f x1000 bt122.2.1 bt122.2.2 9).bind fun bt125 => (if bt125.1 = 0 then (Fb.j3 k x5 x6 bt122.1 bt125.1 (bt125.1 == 0) x1000 bt125.2.1 bt125.2.2) else (if bt125.1 = 1 then (Fb.j3 k x5 x6 bt122.1 bt125.1 (bt125.1 == 1) x1000 bt125.2.1 bt125.2.2) else (Fb.j3 k x5 x6 bt122.1 bt125.1 (bt125.1 == 2) x1000 bt125.2.1 bt125.2.2)))))
def Fb.j3 : Nat → Int → Int → Int → Int → Bool → List Int → Int → Int → Option (Int × Int × Int × Int × Int × Int)
  | 0, _, _, _, _, _, _, _, _ => none
  | k + 1, x5, x6, x10, x84, x85, x1000, x1001, x1002 => if x85 = true then ((Fm.f x1000 x1001 x1002 (([0, 1, 1, 5, 6] : List Int))).bind fun bt131 => ((Fm.f x1000 bt131.2.1 bt131.2.2 (([1, 50, 500, 20000, 100000, 0] : List Int))).bind fun bt137 => (some (1, 0, bt131.1, bt137.1, bt137.2.1, bt137.2.2)))) else (if x84 = 3 then (Fb.j4 k x5 x6 x10 x84 (x84 == 3) x1000 x1001 x1002) else (Fb.j4 k x5 x6 x10 x84 (x84 == 4) x1000 x1001 x1002))
def Fb.j4 : Nat → Int → Int → Int → Int → Bool → List Int → Int → Int → Option (Int × Int × Int × Int × Int × Int)
  | 0, _, _, _, _, _, _, _, _ => none
  | k + 1, x5, x6, x10, x84, x96, x1000, x1001, x1002 => if x96 = true then (some (2, x5, 0, x10, x1001, x1002)) else (if x84 = 5 then (some (3, x5, x6, 0, x1001, x1002)) else (if x84 = 6 then (some (4, x5, 0, x10, x1001, x1002)) else (if x84 = 7 then (some (5, x5, 0, x10, x1001, x1002)) else ((Fm.f x1000 x1001 x1002 (([0, 6, 2] : List Int))).bind fun bt143 => ((Fm.f x1000 bt143.2.1 bt143.2.2 (([(-1), 0, x5] : List Int))).bind fun bt149 => ((Fm.f x1000 bt149.2.1 bt149.2.2 (([(-1), 0, 5] : List Int))).bind fun bt155 => (some (bt143.1, bt149.1, 0, bt155.1, bt155.2.1, bt155.2.2))))))))
def Fb.l0 : Nat → Int → Int → Int → Int → List Int → Int → Int → List (S33) → Int → Int → Int → Int → Int → Int → Int → Option (Int × Int × Int × Int × Int × Int)
  | 0, _, _, _, _, _, _, _, _, _, _, _, _, _, _, _ => none
  | k + 1, x5, x6, x7, x9, x1000, x1001, x1002, x102000, x102001, x102002, x102003, x102004, x108000, x108001, x108002 => if x9 < (x102000.length : Int) then ((Fbk.f x1000 x1001 x1002 2).bind fun bt112 => (Fb.j1 k x5 x6 x7 x9 bt112.1 x1000 bt112.2.1 bt112.2.2 x102000 x102001 x102002 x102003 x102004 x108000 x108001 x108002)) else (Fb.j1 k x5 x6 x7 x9 false x1000 x1001 x1002 x102000 x102001 x102002 x102003 x102004 x108000 x108001 x108002)
def Fb.j1 : Nat → Int → Int → Int → Int → Bool → List Int → Int → Int → List (S33) → Int → Int → Int → Int → Int → Int → Int → Option (Int × Int × Int × Int × Int × Int)
  | 0, _, _, _, _, _, _, _, _, _, _, _, _, _, _, _, _ => none
  | k + 1, x5, x6, x7, x9, x46, x1000, x1001, x1002, x102000, x102001, x102002, x102003, x102004, x108000, x108001, x108002 => if x46 = true then (if 0 ≤ x9 then (if x9 < (x102000.length : Int) then (if ((rd_T33 x102000 x9).f1) = x108001 then (if ((rd_T33 x102000 x9).f0) = x5 then (Fb.l0 k x5 x6 x7 (wrap64 (x9 + 1)) x1000 x1001 x1002 x102000 x102001 x102002 x102003 x102004 x108000 x108001 x108002) else (Fb.l0 k x5 ((rd_T33 x102000 x9).f0) x7 (wrap64 (x9 + 1)) x1000 x1001 x1002 x102000 x102001 x102002 x102003 x102004 x108000 x108001 x108002)) else (Fb.l0 k x5 x6 x7 (wrap64 (x9 + 1)) x1000 x1001 x1002 x102000 x102001 x102002 x102003 x102004 x108000 x108001 x108002)) else (none)) else (none)) else (Fb.j2 k x5 x6 x7 x1000 x1001 x1002)
end
def Fb.f (k : Nat) (s0_0 : List Int) (s0_1 : Int) (s0_2 : Int) (l1_0 : List (S33)) (a1_1 : Int) (a1_2 : Int) (a1_3 : Int) (a1_4 : Int) : Option (Int × Int × Int × Int × Int × Int) := if (l1_0.length : Int) > 0 then ((Faf.f s0_0 s0_1 s0_2 (l1_0.length : Int)).bind fun bt103 => (if 0 ≤ bt103.1 then (if bt103.1 < (l1_0.length : Int) then ((Faf.f s0_0 bt103.2.1 bt103.2.2 (l1_0.length : Int)).bind fun bt108 => (if 0 ≤ bt108.1 then (if bt108.1 < (l1_0.length : Int) then (Fb.l0 k ((rd_T33 l1_0 bt103.1).f0) ((rd_T33 l1_0 bt108.1).f0) ((rd_T33 l1_0 bt103.1).f2) 0 s0_0 bt108.2.1 bt108.2.2 l1_0 a1_1 a1_2 a1_3 a1_4 ((rd_T33 l1_0 bt103.1).f0) ((rd_T33 l1_0 bt103.1).f1) ((rd_T33 l1_0 bt103.1).f2)) else (none)) else (none))) else (none)) else (none))) else (Fb.j2 k 1 1 100 s0_0 s0_1 s0_2)
theorem Fb.mono_l : ∀ k, (∀ y0 y1 y2 y3 y4 y5, LeO (Fb.j2 k y0 y1 y2 y3 y4 y5) (Fb.j2 (k + 1) y0 y1 y2 y3 y4 y5)) ∧ (∀ y0 y1 y2 y3 y4 y5 y6 y7, LeO (Fb.j3 k y0 y1 y2 y3 y4 y5 y6 y7) (Fb.j3 (k + 1) y0 y1 y2 y3 y4 y5 y6 y7)) ∧ (∀ y0 y1 y2 y3 y4 y5 y6 y7, LeO (Fb.j4 k y0 y1 y2 y3 y4 y5 y6 y7) (Fb.j4 (k + 1) y0 y1 y2 y3 y4 y5 y6 y7)) ∧ (∀ y0 y1 y2 y3 y4 y5 y6 y7 y8 y9 y10 y11 y12 y13 y14, LeO (Fb.l0 k y0 y1 y2 y3 y4 y5 y6 y7 y8 y9 y10 y11 y12 y13 y14) (Fb.l0 (k + 1) y0 y1 y2 y3 y4 y5 y6 y7 y8 y9 y10 y11 y12 y13 y14)) ∧ (∀ y0 y1 y2 y3 y4 y5 y6 y7 y8 y9 y10 y11 y12 y13 y14 y15, LeO (Fb.j1 k y0 y1 y2 y3 y4 y5 y6 y7 y8 y9 y10 y11 y12 y13 y14 y15) (Fb.j1 (k + 1) y0 y1 y2 y3 y4 y5 y6 y7 y8 y9 y10 y11 y12 y13 y14 y15))
  | 0 => ⟨fun _ _ _ _ _ _ r h => by simp [Fb.j2] at h, fun _ _ _ _ _ _ _ _ r h => by simp [Fb.j3] at h, fun _ _ _ _ _ _ _ _ r h => by simp [Fb.j4] at h, fun _ _ _ _ _ _ _ _ _ _ _ _ _ _ _ r h => by simp [Fb.l0] at h, fun _ _ _ _ _ _ _ _ _ _ _ _ _ _ _ _ r h => by simp [Fb.j1] at h⟩
  | k + 1 => by
    obtain ⟨ih0, ih1, ih2, ih3, ih4⟩ := Fb.mono_l k
    refine ⟨?_, ?_, ?_, ?_, ?_⟩
    · intro y0 y1 y2 y3 y4 y5
      unfold Fb.j2
      repeat' (with_reducible first | exact ih0 _ _ _ _ _ _ | exact ih1 _ _ _ _ _ _ _ _ | exact ih2 _ _ _ _ _ _ _ _ | exact ih3 _ _ _ _ _ _ _ _ _ _ _ _ _ _ _ | exact ih4 _ _ _ _ _ _ _ _ _ _ _ _ _ _ _ _ | exact LeO.refl _ | exact LeO.none _ | refine LeO.ite ?_ ?_ | refine LeO.bind ?_ (fun _ => ?_))
    · intro y0 y1 y2 y3 y4 y5 y6 y7
      unfold Fb.j3
      repeat' (with_reducible first | exact ih0 _ _ _ _ _ _ | exact ih1 _ _ _ _ _ _ _ _ | exact ih2 _ _ _ _ _ _ _ _ | exact ih3 _ _ _ _ _ _ _ _ _ _ _ _ _ _ _ | exact ih4 _ _ _ _ _ _ _ _ _ _ _ _ _ _ _ _ | exact LeO.refl _ | exact LeO.none _ | refine LeO.ite ?_ ?_ | refine LeO.bind ?_ (fun _ => ?_))
    · intro y0 y1 y2 y3 y4 y5 y6 y7
      unfold Fb.j4
      repeat' (with_reducible first | exact ih0 _ _ _ _ _ _ | exact ih1 _ _ _ _ _ _ _ _ | exact ih2 _ _ _ _ _ _ _ _ | exact ih3 _ _ _ _ _ _ _ _ _ _ _ _ _ _ _ | exact ih4 _ _ _ _ _ _ _ _ _ _ _ _ _ _ _ _ | exact LeO.refl _ | exact LeO.none _ | refine LeO.ite ?_ ?_ | refine LeO.bind ?_ (fun _ => ?_))
    · intro y0 y1 y2 y3 y4 y5 y6 y7 y8 y9 y10 y11 y12 y13 y14
      unfold Fb.l0
      repeat' (with_reducible first | exact ih0 _ _ _ _ _ _ | exact ih1 _ _ _ _ _ _ _ _ | exact ih2 _ _ _ _ _ _ _ _ | exact ih3 _ _ _ _ _ _ _ _ _ _ _ _ _ _ _ | exact ih4 _ _ _ _ _ _ _ _ _ _ _ _ _ _ _ _ | exact LeO.refl _ | exact LeO.none _ | refine LeO.ite ?_ ?_ | refine LeO.bind ?_ (fun _ => ?_))
    · intro y0 y1 y2 y3 y4 y5 y6 y7 y8 y9 y10 y11 y12 y13 y14 y15
      unfold Fb.j1
      repeat' (with_reducible first | exact ih0 _ _ _ _ _ _ | exact ih1 _ _ _ _ _ _ _ _ | exact ih2 _ _ _ _ _ _ _ _ | exact ih3 _ _ _ _ _ _ _ _ _ _ _ _ _ _ _ | exact ih4 _ _ _ _ _ _ _ _ _ _ _ _ _ _ _ _ | exact LeO.refl _ | exact LeO.none _ | refine LeO.ite ?_ ?_ | refine LeO.bind ?_ (fun _ => ?_))
theorem Fb.mono : ∀ a0 a1 a2 a3 a4 a5 a6 a7 k, LeO (Fb.f k a0 a1 a2 a3 a4 a5 a6 a7) (Fb.f (k + 1) a0 a1 a2 a3 a4 a5 a6 a7) := by
  intro a0 a1 a2 a3 a4 a5 a6 a7 k
  obtain ⟨ih0, ih1, ih2, ih3, ih4⟩ := Fb.mono_l k
  unfold Fb.f
  repeat' (with_reducible first | exact ih0 _ _ _ _ _ _ | exact ih1 _ _ _ _ _ _ _ _ | exact ih2 _ _ _ _ _ _ _ _ | exact ih3 _ _ _ _ _ _ _ _ _ _ _ _ _ _ _ | exact ih4 _ _ _ _ _ _ _ _ _ _ _ _ _ _ _ _ | exact LeO.refl _ | exact LeO.none _ | refine LeO.ite ?_ ?_ | refine LeO.bind ?_ (fun _ => ?_))
def Fb.T3 : Bool × List (List Nat × List Nat) := (true, [([], []), ([0], [0]), ([], []), ([], []), ([3], [3]), ([4], [4]), ([2, 5], [2, 5]), ([1, 6], [1, 6]), ([7], [7]), ([], []), ([9, 8, 6, 0, 1, 2, 3, 4, 5, 6, 7, 8, 9], [8, 9])])
def Fb.B3 : List Nat := [0, 1, 0, 0, 8, 24, 60, 127, 255, 0, 1023]
theorem Fb.tab3 : rtab .any (opsOf Tryz.f59 3) = Fb.T3 := by kernel_rfl
theorem Fb.bits3 : waitsOk Fb.T3.2 Fb.B3 = true := by kernel_rfl
def Fb.T6 : Bool × List (List Nat × List Nat) := (true, [([], []), ([0], [0]), ([], []), ([], []), ([3], [3]), ([4], [4]), ([2, 5], [2, 5]), ([1, 6], [1, 6]), ([7], [7]), ([8], [8]), ([9, 6, 0, 1, 2, 3, 4, 5, 6, 7, 8, 9], [9])])
def Fb.B6 : List Nat := [0, 1, 0, 0, 8, 24, 60, 127, 255, 511, 1023]
theorem Fb.tab6 : rtab .any (opsOf Tryz.f59 6) = Fb.T6 := by kernel_rfl
theorem Fb.bits6 : waitsOk Fb.T6.2 Fb.B6 = true := by kernel_rfl
def Fb.T10 : Bool × List (List Nat × List Nat) := (true, [([], []), ([0], [0]), ([], []), ([1, 2], [1, 2]), ([3], [3]), ([4], [4]), ([], []), ([6], [6]), ([5, 7], [5, 7]), ([8], [8]), ([9], [9]), ([10, 9], [9, 10]), ([9], [9]), ([11, 12, 9], [9, 11, 12]), ([13, 9], [9, 13]), ([14, 9], [9, 14]), ([9], [9]), ([15, 16, 9], [9, 15, 16]), ([9, 17], [9, 17])])
def Fb.B10 : List Nat := [0, 1, 0, 7, 15, 31, 0, 64, 255, 511, 1023, 2047, 1023, 8191, 16383, 32767, 1023, 131071, 262143]
theorem Fb.tab10 : rtab .any (opsOf Tryz.f59 10) = Fb.T10 := by kernel_rfl
theorem Fb.bits10 : waitsOk Fb.T10.2 Fb.B10 = true := by kernel_rfl
theorem Fb.calls (k : Nat) (g : Nat) (s0_0 : List Int) (s0_1 : Int) (s0_2 : Int) (A1_0 : Option Addr) (c1_0 : Nat) (l1_0 : List (S33)) (a1_1 : Int) (a1_2 : Int) (a1_3 : Int) (a1_4 : Int) (r1 : Int) (r2 : Int) (r3 : Int) (r4 : Int) (r5 : Int) (r6 : Int) (w0 w : World) (hI : IsS54 w0 w g s0_0 s0_1 s0_2) (hB : Below w0.heap.size w0 w) (hr1_0 : ∀ W_, KeepBut w W_ g none → Kd.C k33 W_ A1_0 l1_0.length l1_0) (hc1_0 : l1_0.length ≤ c1_0) (h : Fb.f k s0_0 s0_1 s0_2 l1_0 a1_1 a1_2 a1_3 a1_4 = some (r1, r2, r3, r4, r5, r6)) :
  Calls Tryz.prog 59 #[.pointer (some ⟨g, 0, none⟩), .agg #[.slice A1_0 l1_0.length c1_0, .int .i64 a1_1, .int .i64 a1_2, .int .i64 a1_3, .int .i64 a1_4]] w fun e w' => e = .returned (.agg #[.int .i64 r1, .int .i64 r2, .int .i64 r3, .int .i64 r4]) ∧ IsS54 w0 w' g s0_0 r5 r6 ∧ Below w0.heap.size w0 w' ∧ KeepBut w w' g none := by
 have hu26 := Tryz.underlying26
 have hu75 := Tryz.underlying75
 have hu33 := Tryz.underlying33
 have HR1_0 := Aside0.mk hr1_0
 have HC1_0 := Aside0.mk hc1_0
 clear hr1_0 hc1_0
 have HI0 := Aside0.mk hI
 have HK := Aside0.mk (KeepBut.refl w g none)
 have HL := Aside0.mk hB.size
 clear hI
 have HW0 := Aside0.mk hB.size
 have HB := Aside0.mk hB
 clear hB
 have H := h
 clear h
 unfold Fb.f at H
 have HC3 := Aside0.mk H
 clear H
 go_enter Tryz.func59, Tryz.ntmps59
 go_upto_if 14 with (first | (refine bE 3 26 #[.slice A1_0 l1_0.length c1_0, .int .i64 a1_1, .int .i64 a1_2, .int .i64 a1_3, .int .i64 a1_4] ?_; intro g1 hg w4 B1 hb; have G1 := hG HK hg; have E1 := Ak (Nat.le_trans HW0.out (by rw [hg]; exact (keep_size (w := w) (g := g) (row := none) (by exact Ho.kS HK.out)) : w.heap.size ≤ g1) : w0.heap.size ≤ g1); have N0_1 := Ak ((by rw [hg]; exact Nat.ne_of_lt (IsS54.lt (show IsS54 w0 _ g s0_0 s0_1 s0_2 from by exact IsS54.below HI0.out Ho.Steps.below)) : g ≠ g1)); have N1_0 := Ak ((by rw [hg]; exact Nat.ne_of_gt (IsS54.lt (show IsS54 w0 _ g s0_0 s0_1 s0_2 from by exact IsS54.below HI0.out Ho.Steps.below)) : g1 ≠ g)); replace HI0 := Ak (IsS54.below (by exact IsS54.below HI0.out Ho.Steps.below) hb); replace HK := hT HK hb; replace HB := bT HB hb; clear hb hg) | (refine bE 4 75 #[.int .i64 0, .int .i64 0, .int .i64 0, .int .i64 0] ?_; intro g2 hg w5 B2 hb; have G2 := hG HK hg; have E2 := Ak (Nat.le_trans HW0.out (by rw [hg]; exact (keep_size (w := w) (g := g) (row := none) (by exact Ho.kS HK.out)) : w.heap.size ≤ g2) : w0.heap.size ≤ g2); obtain ⟨N1_2, N2_1⟩ := nB B1 hg; have N0_2 := Ak ((by rw [hg]; exact Nat.ne_of_lt (IsS54.lt (show IsS54 w0 _ g s0_0 s0_1 s0_2 from by exact IsS54.below HI0.out Ho.Steps.below)) : g ≠ g2)); have N2_0 := Ak ((by rw [hg]; exact Nat.ne_of_gt (IsS54.lt (show IsS54 w0 _ g s0_0 s0_1 s0_2 from by exact IsS54.below HI0.out Ho.Steps.below)) : g2 ≠ g)); replace HI0 := Ak (IsS54.below (by exact IsS54.below HI0.out Ho.Steps.below) hb); replace B1 := kT B1 hb; replace HK := hT HK hb; replace HB := bT HB hb; clear hb hg; have hnb6 := nP N1_2; have hnb7 := nP N1_0; have hz8 := Sq.c5 B1.out))
 (try simp only [Act.put, List.setIfInBounds_toArray, List.set_cons_zero, List.set_cons_succ])
 go_cut [5, 6, 7] (fun v5 v6 v7 wc => ∃ (kq : Nat) (x5_2 : Int) (x6_2 : Int) (x7_2 : Int) (x1001_2 : Int) (x1002_2 : Int), v5 = .int .i64 x5_2 ∧ v6 = .int .i64 x6_2 ∧ v7 = .int .i64 x7_2 ∧ Aside0 (Fb.j2 kq x5_2 x6_2 x7_2 s0_0 x1001_2 x1002_2 = some (r1, r2, r3, r4, r5, r6)) ∧ Aside0 (kq ≤ k) ∧ Aside0 (wc.heap[g2]? = some (.cells #[.int .i64 0, .int .i64 0, .int .i64 0, .int .i64 0] 75 (0, 0))) ∧ Aside0 (IsS54 w0 wc g s0_0 x1001_2 x1002_2) ∧ Aside0 (KeepBut w wc g none) ∧ Aside0 (Below w0.heap.size w0 wc))
 case first =>
  have H := HC3.out
  clear HC3
  by_cases c9 : (l1_0.length : Int) > 0
  rotate_left
  ·rw [if_neg c9] at H
   have c9b0 := decide_eq_false c9
   have c9b1 : decide (0 < l1_0.length) = false := decide_eq_false (by omega)
   clear c9
   (first | rw [c9b0] | rw [c9b1] | (simp only [gt_iff_lt, Int.natCast_pos]; rw [c9b1]) | (simp only [i64_w, i32_w]; rw [c9b0]) | skip)
   have H' := Aside0.mk H
   clear H
   go_wp2
   go_meet
   case rel => exact ⟨_, (1), (1), (100), (s0_1), (s0_2), Ey, Ey, Ey, H', ⟨by first | omega | exact Nat.le_refl _⟩, ⟨ks B2⟩, ⟨by exact IsS54.below HI0.out Ho.Steps.below⟩, ⟨by exact Ho.kS HK.out⟩, ⟨es HB⟩⟩
  rw [if_pos c9] at H
  have c9b0 := decide_eq_true c9
  have c9b1 : decide (0 < l1_0.length) = true := decide_eq_true (by omega)
  clear c9
  (first | rw [c9b0] | rw [c9b1] | (simp only [gt_iff_lt, Int.natCast_pos]; rw [c9b1]) | (simp only [i64_w, i32_w]; rw [c9b0]) | skip)
  obtain ⟨⟨t3, t4, t5⟩, A10, H⟩ := bn H
  (try dsimp only at H)
  by_cases c11 : 0 ≤ t3
  rotate_left
  ·rw [if_neg c11] at H
   exact absurd H (by simp)
  rw [if_pos c11] at H
  have c11b0 := decide_eq_true c11
  clear c11
  by_cases c12 : t3 < (l1_0.length : Int)
  rotate_left
  ·rw [if_neg c12] at H
   exact absurd H (by simp)
  rw [if_pos c12] at H
  have c12b0 := decide_eq_true c12
  clear c12
  obtain ⟨⟨t8, t9, t10⟩, A13, H⟩ := bn H
  (try dsimp only at H)
  by_cases c14 : 0 ≤ t8
  rotate_left
  ·rw [if_neg c14] at H
   exact absurd H (by simp)
  rw [if_pos c14] at H
  have c14b0 := decide_eq_true c14
  clear c14
  by_cases c15 : t8 < (l1_0.length : Int)
  rotate_left
  ·rw [if_neg c15] at H
   exact absurd H (by simp)
  rw [if_pos c15] at H
  have c15b0 := decide_eq_true c15
  clear c15
  have H' := Aside0.mk H
  clear H
  try go_wp2
  replace B1 := kD B1
  replace B2 := kD B2
  replace HI0 := Ak (IsS54.drew HI0.out)
  replace HK := hD HK
  replace HB := bD HB
  have p106 : 0 ≤ (t3 : Int) := Dz
  have q6 : t3 < (l1_0.length : Int) := Dz
  obtain ⟨ad6, e6, hx6_0, hx6_1, hx6_2⟩ := at_T33 (Kd.C_foot_now HR1_0.out HK.out) t3 p106 q6
  have hw106_2 := hx6_2
  have hw106_1 := hx6_1
  have hw106_0 := hx6_0
  cases e6
  have hne106_2 := (show (⟨(ad6.add ((t3).toNat * 3)).block, (ad6.add ((t3).toNat * 3)).off + 2, none⟩ : Addr).block ≠ g from by first | (rw [add_block]; exact Kd.foot_ne HR1_0.out (by omega) (by decide)) | (show (Addr.add _ _).block ≠ _; rw [add_block]; exact Kd.foot_ne HR1_0.out (by omega) (by decide)) | exact Kd.foot_ne HR1_0.out (by omega) (by decide) | (dsimp only; exact Kd.foot_ne HR1_0.out (by omega) (by decide)))
  have hlt106_2 := (Kd.foot_lt HR1_0.out (by omega) (by decide))
  have hne106_1 := (show (⟨(ad6.add ((t3).toNat * 3)).block, (ad6.add ((t3).toNat * 3)).off + 1, none⟩ : Addr).block ≠ g from by first | (rw [add_block]; exact Kd.foot_ne HR1_0.out (by omega) (by decide)) | (show (Addr.add _ _).block ≠ _; rw [add_block]; exact Kd.foot_ne HR1_0.out (by omega) (by decide)) | exact Kd.foot_ne HR1_0.out (by omega) (by decide) | (dsimp only; exact Kd.foot_ne HR1_0.out (by omega) (by decide)))
  have hlt106_1 := (Kd.foot_lt HR1_0.out (by omega) (by decide))
  have hne106_0 := (show ((ad6.add ((t3).toNat * 3)) : Addr).block ≠ g from by first | (rw [add_block]; exact Kd.foot_ne HR1_0.out (by omega) (by decide)) | (show (Addr.add _ _).block ≠ _; rw [add_block]; exact Kd.foot_ne HR1_0.out (by omega) (by decide)) | exact Kd.foot_ne HR1_0.out (by omega) (by decide) | (dsimp only; exact Kd.foot_ne HR1_0.out (by omega) (by decide)))
  have hlt106_0 := (Kd.foot_lt HR1_0.out (by omega) (by decide))
  replace p106 := eq_true p106
  replace q6 := eq_true q6
  refine sT 11 (fun w' => w'.cell? ⟨g1, 0, none⟩ = some (.slice (some ad6) l1_0.length c1_0) ∧ w'.cell? ⟨g1, 1, none⟩ = some (.int .i64 a1_1) ∧ w'.cell? ⟨g1, 2, none⟩ = some (.int .i64 a1_2) ∧ w'.cell? ⟨g1, 3, none⟩ = some (.int .i64 a1_3) ∧ w'.cell? ⟨g1, 4, none⟩ = some (.int .i64 a1_4) ∧ w'.cell? (ad6.add ((t3).toNat * 3)) = some (.int .i64 ((rd_T33 l1_0 t3).f0)) ∧ w'.cell? ⟨(ad6.add ((t3).toNat * 3)).block, (ad6.add ((t3).toNat * 3)).off + 1, none⟩ = some (.int .i64 ((rd_T33 l1_0 t3).f1)) ∧ w'.cell? ⟨(ad6.add ((t3).toNat * 3)).block, (ad6.add ((t3).toNat * 3)).off + 2, none⟩ = some (.int .i64 ((rd_T33 l1_0 t3).f2))) [] Fb.tab3 Fb.bits3 ⟨bc B1 0, bc B1 1, bc B1 2, bc B1 3, bc B1 4, hx6_0, hx6_1, hx6_2⟩ fun hHeld HT_ HW_ => ?_
  generalize w5.drew = w16 at B1 B2 HI0 HK HB hx6_0 hx6_1 hx6_2 hHeld ⊢
  refine Pu 0 ?_
  refine Pu 2 ?_
  refine Pu 3 ?_
  refine Ta 1 ?_
  refine Ta 4 ?_
  refine Pu 5 ?_
  refine join_ (σ := Nat) 1 (Bt 11 1023) (fun s_ => [(21, .int .i64 t3), (8, .pointer (some ⟨s_, 0, none⟩)), (22, .pointer (some (ad6.add ((t3).toNat * 3)))), (23, .agg #[.int .i64 ((rd_T33 l1_0 t3).f0), .int .i64 ((rd_T33 l1_0 t3).f1), .int .i64 ((rd_T33 l1_0 t3).f2)])]) (fun s_ w' => (w'.cell? ⟨g1, 0, none⟩ = some (.slice (some ad6) l1_0.length c1_0) ∧ w'.cell? ⟨g1, 1, none⟩ = some (.int .i64 a1_1) ∧ w'.cell? ⟨g1, 2, none⟩ = some (.int .i64 a1_2) ∧ w'.cell? ⟨g1, 3, none⟩ = some (.int .i64 a1_3) ∧ w'.cell? ⟨g1, 4, none⟩ = some (.int .i64 a1_4) ∧ w'.cell? (ad6.add ((t3).toNat * 3)) = some (.int .i64 ((rd_T33 l1_0 t3).f0)) ∧ w'.cell? ⟨(ad6.add ((t3).toNat * 3)).block, (ad6.add ((t3).toNat * 3)).off + 1, none⟩ = some (.int .i64 ((rd_T33 l1_0 t3).f1)) ∧ w'.cell? ⟨(ad6.add ((t3).toNat * 3)).block, (ad6.add ((t3).toNat * 3)).off + 2, none⟩ = some (.int .i64 ((rd_T33 l1_0 t3).f2))) ∧ (w'.heap[g1]? = some (.cells #[.slice (some ad6) l1_0.length c1_0, .int .i64 a1_1, .int .i64 a1_2, .int .i64 a1_3, .int .i64 a1_4] 26 (0, 0))) ∧ (w'.heap[g2]? = some (.cells #[.int .i64 0, .int .i64 0, .int .i64 0, .int .i64 0] 75 (0, 0))) ∧ (w'.heap[s_]? = some (.cells #[.int .i64 0, .int .i64 0, .int .i64 0] 33 (0, 0))) ∧ (w.heap.size ≤ s_) ∧ (w0.heap.size ≤ s_) ∧ (g ≠ s_) ∧ (s_ ≠ g) ∧ (g1 ≠ s_) ∧ (s_ ≠ g1) ∧ (g2 ≠ s_) ∧ (s_ ≠ g2) ∧ (IsS54 w0 w' g s0_0 t4 t5) ∧ (KeepBut w w' g none) ∧ (Below w0.heap.size w0 w')) ?_ ?_
  rotate_left
  ·intro hCont
   refine tw 6 9 (fun K hK => ?_) (fun K hK => ?_)
   ·skip
    refine gO Tryz.func48 #[.pointer (some ⟨g, 0, none⟩), .int .i64 (l1_0.length : Int)] ?_
    with_reducible refine (Faf.calls g s0_0 s0_1 s0_2 (l1_0.length : Int) t3 t4 t5 w0 _ ?side1 ?side2 A10.out).mono ?_
    (case side1 => exact IsS54.below HI0.out Ho.Steps.below)
    (case side2 => exact eS HB.out)
    rintro e w17 ⟨rfl, hi, hb, hk⟩
    have HS5_ := keep_cell hk (hHeld.2.2.2.2.2.1) (by first | (rw [add_block]; exact hne106_0) | (show (Addr.add _ _).block ≠ _; rw [add_block]; exact hne106_0) | exact hne106_0)
    have HS6_ := keep_cell hk (hHeld.2.2.2.2.2.2.1) (by first | (rw [add_block]; exact hne106_1) | (show (Addr.add _ _).block ≠ _; rw [add_block]; exact hne106_1) | exact hne106_1)
    have HS7_ := keep_cell hk (hHeld.2.2.2.2.2.2.2) (by first | (rw [add_block]; exact hne106_2) | (show (Addr.add _ _).block ≠ _; rw [add_block]; exact hne106_2) | exact hne106_2)
    refine ⟨_, rfl, ?_⟩
    replace B1 := kK B1 hk N1_0
    replace B2 := kK B2 hk N2_0
    replace HK := hU HK hk
    replace HB := Ak hb
    replace HI0 := Ak hi
    clear hb hk hi
    refine hK.out _ _ ⟨bc B1 0, bc B1 1, bc B1 2, bc B1 3, bc B1 4, HS5_, HS6_, HS7_⟩ (fun hHeld => ?_)
    clear hK K
    refine nO 21 ?_
    refine Pu 7 ?_
    refine Ta 8 ?_
    refine oN 9 fun K hK => ?_
    refine bX 8 33 #[.int .i64 0, .int .i64 0, .int .i64 0] ?_
    intro g7 hg w18 B7 hb
    have HS5_ := (hb.cell (World.block_lt_of_cell? _ _ (hHeld.2.2.2.2.2.1))).trans (hHeld.2.2.2.2.2.1)
    have HS6_ := (hb.cell (World.block_lt_of_cell? _ _ (hHeld.2.2.2.2.2.2.1))).trans (hHeld.2.2.2.2.2.2.1)
    have HS7_ := (hb.cell (World.block_lt_of_cell? _ _ (hHeld.2.2.2.2.2.2.2))).trans (hHeld.2.2.2.2.2.2.2)
    have G7 := hG HK hg
    have E7 := Ak (Nat.le_trans HW0.out (by rw [hg]; exact (keep_size (w := w) (g := g) (row := none) (by exact Ho.kS HK.out)) : w.heap.size ≤ g7) : w0.heap.size ≤ g7)
    obtain ⟨N1_7, N7_1⟩ := nB B1 hg
    obtain ⟨N2_7, N7_2⟩ := nB B2 hg
    have N0_7 := Ak ((by rw [hg]; exact Nat.ne_of_lt (IsS54.lt (show IsS54 w0 _ g s0_0 t4 t5 from by exact IsS54.below HI0.out Ho.Steps.below)) : g ≠ g7))
    have N7_0 := Ak ((by rw [hg]; exact Nat.ne_of_gt (IsS54.lt (show IsS54 w0 _ g s0_0 t4 t5 from by exact IsS54.below HI0.out Ho.Steps.below)) : g7 ≠ g))
    replace HI0 := Ak (IsS54.below (by exact IsS54.below HI0.out Ho.Steps.below) hb)
    replace B1 := kT B1 hb
    replace B2 := kT B2 hb
    replace HK := hT HK hb
    replace HB := bT HB hb
    clear hb hg
    refine hK.out _ _ ⟨bc B1 0, bc B1 1, bc B1 2, bc B1 3, bc B1 4, HS5_, HS6_, HS7_⟩ (fun hHeld => ?_)
    clear hK K
    refine nO 8 ?_
    exact norm_ Nz (hCont (g7) _ ⟨hHeld, ks B1, ks B2, ks B7, G7.out, E7.out, N0_7.out, N7_0.out, N1_7.out, N7_1.out, N2_7.out, N7_2.out, (by exact IsS54.below HI0.out Ho.Steps.below), (by exact Ho.kS HK.out), es HB⟩)
   ·skip
    refine bX 8 33 #[.int .i64 0, .int .i64 0, .int .i64 0] ?_
    intro g7 hg w17 B7 hb
    have HS5_ := (hb.cell (World.block_lt_of_cell? _ _ (hHeld.2.2.2.2.2.1))).trans (hHeld.2.2.2.2.2.1)
    have HS6_ := (hb.cell (World.block_lt_of_cell? _ _ (hHeld.2.2.2.2.2.2.1))).trans (hHeld.2.2.2.2.2.2.1)
    have HS7_ := (hb.cell (World.block_lt_of_cell? _ _ (hHeld.2.2.2.2.2.2.2))).trans (hHeld.2.2.2.2.2.2.2)
    have G7 := hG HK hg
    have E7 := Ak (Nat.le_trans HW0.out (by rw [hg]; exact (keep_size (w := w) (g := g) (row := none) (by exact Ho.kS HK.out)) : w.heap.size ≤ g7) : w0.heap.size ≤ g7)
    obtain ⟨N1_7, N7_1⟩ := nB B1 hg
    obtain ⟨N2_7, N7_2⟩ := nB B2 hg
    have N0_7 := Ak ((by rw [hg]; exact Nat.ne_of_lt (IsS54.lt (show IsS54 w0 _ g s0_0 s0_1 s0_2 from by exact IsS54.below HI0.out Ho.Steps.below)) : g ≠ g7))
    have N7_0 := Ak ((by rw [hg]; exact Nat.ne_of_gt (IsS54.lt (show IsS54 w0 _ g s0_0 s0_1 s0_2 from by exact IsS54.below HI0.out Ho.Steps.below)) : g7 ≠ g))
    replace HI0 := Ak (IsS54.below (by exact IsS54.below HI0.out Ho.Steps.below) hb)
    replace B1 := kT B1 hb
    replace B2 := kT B2 hb
    replace HK := hT HK hb
    replace HB := bT HB hb
    clear hb hg
    refine hK.out _ _ ⟨bc B1 0, bc B1 1, bc B1 2, bc B1 3, bc B1 4, HS5_, HS6_, HS7_⟩ (fun hHeld => ?_)
    clear hK K
    refine nO 8 ?_
    refine oN 6 fun K hK => ?_
    refine gO Tryz.func48 #[.pointer (some ⟨g, 0, none⟩), .int .i64 (l1_0.length : Int)] ?_
    with_reducible refine (Faf.calls g s0_0 s0_1 s0_2 (l1_0.length : Int) t3 t4 t5 w0 _ ?side1 ?side2 A10.out).mono ?_
    (case side1 => exact IsS54.below HI0.out Ho.Steps.below)
    (case side2 => exact eS HB.out)
    rintro e w18 ⟨rfl, hi, hb, hk⟩
    have HS5_ := keep_cell hk (hHeld.2.2.2.2.2.1) (by first | (rw [add_block]; exact hne106_0) | (show (Addr.add _ _).block ≠ _; rw [add_block]; exact hne106_0) | exact hne106_0)
    have HS6_ := keep_cell hk (hHeld.2.2.2.2.2.2.1) (by first | (rw [add_block]; exact hne106_1) | (show (Addr.add _ _).block ≠ _; rw [add_block]; exact hne106_1) | exact hne106_1)
    have HS7_ := keep_cell hk (hHeld.2.2.2.2.2.2.2) (by first | (rw [add_block]; exact hne106_2) | (show (Addr.add _ _).block ≠ _; rw [add_block]; exact hne106_2) | exact hne106_2)
    refine ⟨_, rfl, ?_⟩
    replace B1 := kK B1 hk N1_0
    replace B2 := kK B2 hk N2_0
    replace B7 := kK B7 hk N7_0
    replace HK := hU HK hk
    replace HB := Ak hb
    replace HI0 := Ak hi
    clear hb hk hi
    refine hK.out _ _ ⟨bc B1 0, bc B1 1, bc B1 2, bc B1 3, bc B1 4, HS5_, HS6_, HS7_⟩ (fun hHeld => ?_)
    clear hK K
    refine nO 21 ?_
    refine Pu 7 ?_
    refine Ta 8 ?_
    exact norm_ Nz (hCont (g7) _ ⟨hHeld, ks B1, ks B2, ks B7, G7.out, E7.out, N0_7.out, N7_0.out, N1_7.out, N7_1.out, N2_7.out, N7_2.out, (by exact IsS54.below HI0.out Ho.Steps.below), (by exact Ho.kS HK.out), es HB⟩)
  rintro g7 w19 ⟨hS_, h0_, h1_, h2_, h3_, h4_, h5_, h6_, h7_, h8_, h9_, h10_, h11_, h12_, h13_⟩
  have B7 := Ak h2_
  have G7 := Ak h3_
  have E7 := Ak h4_
  have N0_7 := Ak h5_
  have N7_0 := Ak h6_
  have N1_7 := Ak h7_
  have N7_1 := Ak h8_
  have N2_7 := Ak h9_
  have N7_2 := Ak h10_
  replace B1 := Ak h0_
  replace B2 := Ak h1_
  replace HI0 := Ak h11_
  replace HK := Ak h12_
  replace HB := Ak h13_
  clear h0_ h10_ h11_ h12_ h13_ h1_ h2_ h3_ h4_ h5_ h6_ h7_ h8_ h9_
  have hHeld := hS_
  refine nQ ?_
  refine oN 10 fun K hK => ?_
  have hs20 := Sq.c3 B7.out
  have hns20_0 := N1_7.out
  have hns20_1 := N2_7.out
  have hms20_0 := N7_1.out
  have hms20_1 := N7_2.out
  refine sK ?_
  refine hK.out _ _ ⟨(cf3 N1_7.out hHeld.1), (cf3 N1_7.out hHeld.2.1), (cf3 N1_7.out hHeld.2.2.1), (cf3 N1_7.out hHeld.2.2.2.1), (cf3 N1_7.out hHeld.2.2.2.2.1), ((cell_far (p := ⟨g7, _, none⟩) (by first | exact Nat.ne_of_lt (Nat.lt_of_lt_of_le hlt106_0 G7.out) | (rw [add_block]; exact Nat.ne_of_lt (Nat.lt_of_lt_of_le hlt106_0 G7.out)) | (show (Addr.add _ _).block ≠ _; rw [add_block]; exact Nat.ne_of_lt (Nat.lt_of_lt_of_le hlt106_0 G7.out)) | (dsimp only; exact Nat.ne_of_lt (Nat.lt_of_lt_of_le hlt106_0 G7.out))) _).trans (((cell_far (p := ⟨g7, _, none⟩) (by first | exact Nat.ne_of_lt (Nat.lt_of_lt_of_le hlt106_0 G7.out) | (rw [add_block]; exact Nat.ne_of_lt (Nat.lt_of_lt_of_le hlt106_0 G7.out)) | (show (Addr.add _ _).block ≠ _; rw [add_block]; exact Nat.ne_of_lt (Nat.lt_of_lt_of_le hlt106_0 G7.out)) | (dsimp only; exact Nat.ne_of_lt (Nat.lt_of_lt_of_le hlt106_0 G7.out))) _).trans (((cell_far (p := ⟨g7, _, none⟩) (by first | exact Nat.ne_of_lt (Nat.lt_of_lt_of_le hlt106_0 G7.out) | (rw [add_block]; exact Nat.ne_of_lt (Nat.lt_of_lt_of_le hlt106_0 G7.out)) | (show (Addr.add _ _).block ≠ _; rw [add_block]; exact Nat.ne_of_lt (Nat.lt_of_lt_of_le hlt106_0 G7.out)) | (dsimp only; exact Nat.ne_of_lt (Nat.lt_of_lt_of_le hlt106_0 G7.out))) _).trans (hHeld.2.2.2.2.2.1)))))), ((cell_far (p := ⟨g7, _, none⟩) (by first | exact Nat.ne_of_lt (Nat.lt_of_lt_of_le hlt106_1 G7.out) | (rw [add_block]; exact Nat.ne_of_lt (Nat.lt_of_lt_of_le hlt106_1 G7.out)) | (show (Addr.add _ _).block ≠ _; rw [add_block]; exact Nat.ne_of_lt (Nat.lt_of_lt_of_le hlt106_1 G7.out)) | (dsimp only; exact Nat.ne_of_lt (Nat.lt_of_lt_of_le hlt106_1 G7.out))) _).trans (((cell_far (p := ⟨g7, _, none⟩) (by first | exact Nat.ne_of_lt (Nat.lt_of_lt_of_le hlt106_1 G7.out) | (rw [add_block]; exact Nat.ne_of_lt (Nat.lt_of_lt_of_le hlt106_1 G7.out)) | (show (Addr.add _ _).block ≠ _; rw [add_block]; exact Nat.ne_of_lt (Nat.lt_of_lt_of_le hlt106_1 G7.out)) | (dsimp only; exact Nat.ne_of_lt (Nat.lt_of_lt_of_le hlt106_1 G7.out))) _).trans (((cell_far (p := ⟨g7, _, none⟩) (by first | exact Nat.ne_of_lt (Nat.lt_of_lt_of_le hlt106_1 G7.out) | (rw [add_block]; exact Nat.ne_of_lt (Nat.lt_of_lt_of_le hlt106_1 G7.out)) | (show (Addr.add _ _).block ≠ _; rw [add_block]; exact Nat.ne_of_lt (Nat.lt_of_lt_of_le hlt106_1 G7.out)) | (dsimp only; exact Nat.ne_of_lt (Nat.lt_of_lt_of_le hlt106_1 G7.out))) _).trans (hHeld.2.2.2.2.2.2.1)))))), ((cell_far (p := ⟨g7, _, none⟩) (by first | exact Nat.ne_of_lt (Nat.lt_of_lt_of_le hlt106_2 G7.out) | (rw [add_block]; exact Nat.ne_of_lt (Nat.lt_of_lt_of_le hlt106_2 G7.out)) | (show (Addr.add _ _).block ≠ _; rw [add_block]; exact Nat.ne_of_lt (Nat.lt_of_lt_of_le hlt106_2 G7.out)) | (dsimp only; exact Nat.ne_of_lt (Nat.lt_of_lt_of_le hlt106_2 G7.out))) _).trans (((cell_far (p := ⟨g7, _, none⟩) (by first | exact Nat.ne_of_lt (Nat.lt_of_lt_of_le hlt106_2 G7.out) | (rw [add_block]; exact Nat.ne_of_lt (Nat.lt_of_lt_of_le hlt106_2 G7.out)) | (show (Addr.add _ _).block ≠ _; rw [add_block]; exact Nat.ne_of_lt (Nat.lt_of_lt_of_le hlt106_2 G7.out)) | (dsimp only; exact Nat.ne_of_lt (Nat.lt_of_lt_of_le hlt106_2 G7.out))) _).trans (((cell_far (p := ⟨g7, _, none⟩) (by first | exact Nat.ne_of_lt (Nat.lt_of_lt_of_le hlt106_2 G7.out) | (rw [add_block]; exact Nat.ne_of_lt (Nat.lt_of_lt_of_le hlt106_2 G7.out)) | (show (Addr.add _ _).block ≠ _; rw [add_block]; exact Nat.ne_of_lt (Nat.lt_of_lt_of_le hlt106_2 G7.out)) | (dsimp only; exact Nat.ne_of_lt (Nat.lt_of_lt_of_le hlt106_2 G7.out))) _).trans (hHeld.2.2.2.2.2.2.2))))))⟩ (fun hHeld => ?_)
  clear hK K
  refine dO ?_
  have hnb23 := nP N7_1
  have hnb24 := nP N7_2
  have hnb25 := nP N7_0
  have hz26 := Sq.c3 B7.out
  try go_wp2
  have n0_ : Aside0 ((((w19.setCell ⟨g7, 0, none⟩ (.int .i64 ((rd_T33 l1_0 t3).f0))).setCell ⟨g7, 1, none⟩ (.int .i64 ((rd_T33 l1_0 t3).f1))).setCell ⟨g7, 2, none⟩ (.int .i64 ((rd_T33 l1_0 t3).f2))).heap[g1]? = some (.cells #[.slice (some ad6) l1_0.length c1_0, .int .i64 a1_1, .int .i64 a1_2, .int .i64 a1_3, .int .i64 a1_4] 26 (0, 0))) := ⟨Kz⟩
  have n1_ : Aside0 ((((w19.setCell ⟨g7, 0, none⟩ (.int .i64 ((rd_T33 l1_0 t3).f0))).setCell ⟨g7, 1, none⟩ (.int .i64 ((rd_T33 l1_0 t3).f1))).setCell ⟨g7, 2, none⟩ (.int .i64 ((rd_T33 l1_0 t3).f2))).heap[g2]? = some (.cells #[.int .i64 0, .int .i64 0, .int .i64 0, .int .i64 0] 75 (0, 0))) := ⟨Kz⟩
  have n2_ : Aside0 ((((w19.setCell ⟨g7, 0, none⟩ (.int .i64 ((rd_T33 l1_0 t3).f0))).setCell ⟨g7, 1, none⟩ (.int .i64 ((rd_T33 l1_0 t3).f1))).setCell ⟨g7, 2, none⟩ (.int .i64 ((rd_T33 l1_0 t3).f2))).heap[g7]? = some (.cells #[.int .i64 ((rd_T33 l1_0 t3).f0), .int .i64 ((rd_T33 l1_0 t3).f1), .int .i64 ((rd_T33 l1_0 t3).f2)] 33 (0, 0))) := ⟨by apply Sq.put3; exact bS B7.out⟩
  have n3_ : Aside0 (IsS54 w0 (((w19.setCell ⟨g7, 0, none⟩ (.int .i64 ((rd_T33 l1_0 t3).f0))).setCell ⟨g7, 1, none⟩ (.int .i64 ((rd_T33 l1_0 t3).f1))).setCell ⟨g7, 2, none⟩ (.int .i64 ((rd_T33 l1_0 t3).f2))) g s0_0 t4 t5) := ⟨by repeat (first | (with_reducible first | exact HI0.out | apply IsS54.alloc | apply IsS54.drewN | apply IsS54.drew | apply IsS54.set_1 | apply IsS54.set_2 | refine IsS54.far ?_ N0_1.out _ | refine IsS54.far ?_ N0_2.out _ | refine IsS54.far ?_ N0_7.out _) | exact HI0.out)⟩
  have n4_ : Aside0 (KeepBut w (((w19.setCell ⟨g7, 0, none⟩ (.int .i64 ((rd_T33 l1_0 t3).f0))).setCell ⟨g7, 1, none⟩ (.int .i64 ((rd_T33 l1_0 t3).f1))).setCell ⟨g7, 2, none⟩ (.int .i64 ((rd_T33 l1_0 t3).f2))) g none) := ⟨by repeat (first | (with_reducible first | exact HK.out | apply KeepBut.set_ | apply keep_drewN | apply keep_drew | apply keep_alloc | refine keep_far ?_ G1.out _ | refine keep_far ?_ G2.out _ | refine keep_far ?_ G7.out _) | exact HK.out)⟩
  have n5_ : Aside0 (Below w0.heap.size w0 (((w19.setCell ⟨g7, 0, none⟩ (.int .i64 ((rd_T33 l1_0 t3).f0))).setCell ⟨g7, 1, none⟩ (.int .i64 ((rd_T33 l1_0 t3).f1))).setCell ⟨g7, 2, none⟩ (.int .i64 ((rd_T33 l1_0 t3).f2)))) := ⟨by repeat (first | (with_reducible first | exact HB.out | apply below_alloc | apply pw_below_drewN | apply below_drew1 | refine below_set ?_ (IsS54.ge HI0.out) | refine below_set ?_ E1.out | refine below_set ?_ E2.out | refine below_set ?_ E7.out) | exact HB.out)⟩
  (try clear B1)
  (try clear B2)
  (try clear B7)
  (try clear HI0)
  (try clear HK)
  (try clear HB)
  generalize (((w19.setCell ⟨g7, 0, none⟩ (.int .i64 ((rd_T33 l1_0 t3).f0))).setCell ⟨g7, 1, none⟩ (.int .i64 ((rd_T33 l1_0 t3).f1))).setCell ⟨g7, 2, none⟩ (.int .i64 ((rd_T33 l1_0 t3).f2))) = w27 at n0_ n1_ n2_ n3_ n4_ n5_ ⊢
  have B1 := n0_
  have B2 := n1_
  have B7 := n2_
  have HI0 := n3_
  have HK := n4_
  have HB := n5_
  clear n0_ n1_ n2_ n3_ n4_ n5_
  replace B1 := kD B1
  replace B2 := kD B2
  replace B7 := kD B7
  replace HI0 := Ak (IsS54.drew HI0.out)
  replace HK := hD HK
  replace HB := bD HB
  have p111 : 0 ≤ (t8 : Int) := Dz
  have q111 : t8 < (l1_0.length : Int) := Dz
  obtain ⟨ad11, e11, hx11_0, hx11_1, hx11_2⟩ := at_T33 (Kd.C_foot_now HR1_0.out HK.out) t8 p111 q111
  have hw111_2 := hx11_2
  have hw111_1 := hx11_1
  have hw111_0 := hx11_0
  obtain rfl : ad6 = ad11 := (by injection e11)
  have hne111_2 := (show (⟨(ad6.add ((t8).toNat * 3)).block, (ad6.add ((t8).toNat * 3)).off + 2, none⟩ : Addr).block ≠ g from by first | (rw [add_block]; exact Kd.foot_ne HR1_0.out (by omega) (by decide)) | (show (Addr.add _ _).block ≠ _; rw [add_block]; exact Kd.foot_ne HR1_0.out (by omega) (by decide)) | exact Kd.foot_ne HR1_0.out (by omega) (by decide) | (dsimp only; exact Kd.foot_ne HR1_0.out (by omega) (by decide)))
  have hlt111_2 := (Kd.foot_lt HR1_0.out (by omega) (by decide))
  have hne111_1 := (show (⟨(ad6.add ((t8).toNat * 3)).block, (ad6.add ((t8).toNat * 3)).off + 1, none⟩ : Addr).block ≠ g from by first | (rw [add_block]; exact Kd.foot_ne HR1_0.out (by omega) (by decide)) | (show (Addr.add _ _).block ≠ _; rw [add_block]; exact Kd.foot_ne HR1_0.out (by omega) (by decide)) | exact Kd.foot_ne HR1_0.out (by omega) (by decide) | (dsimp only; exact Kd.foot_ne HR1_0.out (by omega) (by decide)))
  have hlt111_1 := (Kd.foot_lt HR1_0.out (by omega) (by decide))
  have hne111_0 := (show ((ad6.add ((t8).toNat * 3)) : Addr).block ≠ g from by first | (rw [add_block]; exact Kd.foot_ne HR1_0.out (by omega) (by decide)) | (show (Addr.add _ _).block ≠ _; rw [add_block]; exact Kd.foot_ne HR1_0.out (by omega) (by decide)) | exact Kd.foot_ne HR1_0.out (by omega) (by decide) | (dsimp only; exact Kd.foot_ne HR1_0.out (by omega) (by decide)))
  have hlt111_0 := (Kd.foot_lt HR1_0.out (by omega) (by decide))
  replace p111 := eq_true p111
  replace q111 := eq_true q111
  refine sT 11 (fun w' => w'.cell? ⟨g1, 0, none⟩ = some (.slice (some ad6) l1_0.length c1_0) ∧ w'.cell? ⟨g1, 1, none⟩ = some (.int .i64 a1_1) ∧ w'.cell? ⟨g1, 2, none⟩ = some (.int .i64 a1_2) ∧ w'.cell? ⟨g1, 3, none⟩ = some (.int .i64 a1_3) ∧ w'.cell? ⟨g1, 4, none⟩ = some (.int .i64 a1_4) ∧ w'.cell? (ad6.add ((t8).toNat * 3)) = some (.int .i64 ((rd_T33 l1_0 t8).f0)) ∧ w'.cell? ⟨(ad6.add ((t8).toNat * 3)).block, (ad6.add ((t8).toNat * 3)).off + 1, none⟩ = some (.int .i64 ((rd_T33 l1_0 t8).f1)) ∧ w'.cell? ⟨(ad6.add ((t8).toNat * 3)).block, (ad6.add ((t8).toNat * 3)).off + 2, none⟩ = some (.int .i64 ((rd_T33 l1_0 t8).f2))) [] Fb.tab6 Fb.bits6 ⟨bc B1 0, bc B1 1, bc B1 2, bc B1 3, bc B1 4, hx11_0, hx11_1, hx11_2⟩ fun hHeld HT_ HW_ => ?_
  generalize w27.drew = w28 at B1 B2 B7 HI0 HK HB hx11_0 hx11_1 hx11_2 hHeld ⊢
  refine Pu 0 ?_
  refine Pu 2 ?_
  refine Pu 3 ?_
  refine Ta 1 ?_
  refine Ta 4 ?_
  refine Pu 5 ?_
  refine oN 6 fun K hK => ?_
  refine gO Tryz.func48 #[.pointer (some ⟨g, 0, none⟩), .int .i64 (l1_0.length : Int)] ?_
  with_reducible refine (Faf.calls g s0_0 t4 t5 (l1_0.length : Int) t8 t9 t10 w0 _ ?side1 ?side2 A13.out).mono ?_
  (case side1 => exact IsS54.below HI0.out Ho.Steps.below)
  (case side2 => exact eS HB.out)
  rintro e w29 ⟨rfl, hi, hb, hk⟩
  have HS5_ := keep_cell hk (hHeld.2.2.2.2.2.1) (by first | (rw [add_block]; exact hne111_0) | (show (Addr.add _ _).block ≠ _; rw [add_block]; exact hne111_0) | exact hne111_0)
  have HS6_ := keep_cell hk (hHeld.2.2.2.2.2.2.1) (by first | (rw [add_block]; exact hne111_1) | (show (Addr.add _ _).block ≠ _; rw [add_block]; exact hne111_1) | exact hne111_1)
  have HS7_ := keep_cell hk (hHeld.2.2.2.2.2.2.2) (by first | (rw [add_block]; exact hne111_2) | (show (Addr.add _ _).block ≠ _; rw [add_block]; exact hne111_2) | exact hne111_2)
  refine ⟨_, rfl, ?_⟩
  replace B1 := kK B1 hk N1_0
  replace B2 := kK B2 hk N2_0
  replace B7 := kK B7 hk N7_0
  replace HK := hU HK hk
  replace HB := Ak hb
  replace HI0 := Ak hi
  clear hb hk hi
  refine hK.out _ _ ⟨bc B1 0, bc B1 1, bc B1 2, bc B1 3, bc B1 4, HS5_, HS6_, HS7_⟩ (fun hHeld => ?_)
  clear hK K
  refine nO 34 ?_
  refine Pu 7 ?_
  refine Pu 8 ?_
  refine Ta 9 ?_
  refine Pu 10 ?_
  refine dO ?_
  try go_wp2
  go_loopg [6, 9] k (fun kq v6 v9 w' => ∃ (x6_1 : Int) (x9_1 : Int) (x1001_1 : Int) (x1002_1 : Int), v6 = .int .i64 x6_1 ∧ v9 = .int .i64 x9_1 ∧ Aside0 (Fb.l0 kq ((rd_T33 l1_0 t3).f0) x6_1 ((rd_T33 l1_0 t3).f2) x9_1 s0_0 x1001_1 x1002_1 l1_0 a1_1 a1_2 a1_3 a1_4 ((rd_T33 l1_0 t3).f0) ((rd_T33 l1_0 t3).f1) ((rd_T33 l1_0 t3).f2) = some (r1, r2, r3, r4, r5, r6)) ∧ Aside0 (kq ≤ k) ∧ Aside0 (w'.heap[g1]? = some (.cells #[(.slice (some ad6) l1_0.length c1_0), .int .i64 a1_1, .int .i64 a1_2, .int .i64 a1_3, .int .i64 a1_4] 26 (0, 0))) ∧ Aside0 (w'.heap[g2]? = some (.cells #[.int .i64 0, .int .i64 0, .int .i64 0, .int .i64 0] 75 (0, 0))) ∧ Aside0 (w'.heap[g7]? = some (.cells #[.int .i64 ((rd_T33 l1_0 t3).f0), .int .i64 ((rd_T33 l1_0 t3).f1), .int .i64 ((rd_T33 l1_0 t3).f2)] 33 (0, 0))) ∧ Aside0 (IsS54 w0 w' g s0_0 x1001_1 x1002_1) ∧ Aside0 (KeepBut w w' g none) ∧ Aside0 (Below w0.heap.size w0 w'))
  case atStart => exact ⟨((rd_T33 l1_0 t8).f0), (0), (t9), (t10), Ey, Ey, H', ⟨Nat.le_refl _⟩, ⟨ks B1⟩, ⟨ks B2⟩, ⟨ks B7⟩, ⟨by exact IsS54.below HI0.out Ho.Steps.below⟩, ⟨by exact Ho.kS HK.out⟩, ⟨es HB⟩⟩
  case round =>
   clear H'
   try clear c1
   try clear p1
   try clear q1
   try clear hx1
   try clear c2
   try clear p2
   try clear c4
   try clear c5
   try clear c6
   try clear c7
   try clear c9
   try clear c9b0
   try clear c9b1
   try clear p10
   try clear q10
   try clear hx10
   try clear c11
   try clear c11b0
   try clear p11
   try clear q11
   try clear hx11
   try clear c12
   try clear c12b0
   try clear c14
   try clear c14b0
   try clear c15
   try clear c15b0
   try clear c23
   try clear c24
   try clear c25
   (try clear hz26)
   (try clear hz8)
   try clear hx6_0
   try clear hx6_1
   try clear hx6_2
   try clear hx11_0
   try clear hx11_1
   try clear hx11_2
   try clear p106
   try clear p111
   try clear q6
   try clear q111
   obtain ⟨x6_1, x9_1, x1001_1, x1002_1, rfl, rfl, HA, HK1, B1, B2, B7, HI0, HK, HB⟩ := hrel
   cases gk with
   | zero => exact absurd HA.out (by simp [Fb.l0])
   | succ k1 =>
    have H := HA.out
    clear HA
    simp only [Fb.l0] at H
    have HC30 := Aside0.mk H
    clear H
    go_upto_region 8 with (fail)
    go_cut [46] (fun v46 wc => ∃ (kq : Nat) (x46_29 : Bool) (x1001_29 : Int) (x1002_29 : Int), v46 = .bool x46_29 ∧ Aside0 (Fb.j1 kq ((rd_T33 l1_0 t3).f0) x6_1 ((rd_T33 l1_0 t3).f2) x9_1 x46_29 s0_0 x1001_29 x1002_29 l1_0 a1_1 a1_2 a1_3 a1_4 ((rd_T33 l1_0 t3).f0) ((rd_T33 l1_0 t3).f1) ((rd_T33 l1_0 t3).f2) = some (r1, r2, r3, r4, r5, r6)) ∧ Aside0 (kq ≤ k1) ∧ Aside0 (wc.heap[g1]? = some (.cells #[(.slice (some ad6) l1_0.length c1_0), .int .i64 a1_1, .int .i64 a1_2, .int .i64 a1_3, .int .i64 a1_4] 26 (0, 0))) ∧ Aside0 (wc.heap[g2]? = some (.cells #[.int .i64 0, .int .i64 0, .int .i64 0, .int .i64 0] 75 (0, 0))) ∧ Aside0 (wc.heap[g7]? = some (.cells #[.int .i64 ((rd_T33 l1_0 t3).f0), .int .i64 ((rd_T33 l1_0 t3).f1), .int .i64 ((rd_T33 l1_0 t3).f2)] 33 (0, 0))) ∧ Aside0 (IsS54 w0 wc g s0_0 x1001_29 x1002_29) ∧ Aside0 (KeepBut w wc g none) ∧ Aside0 (Below w0.heap.size w0 wc))
    case first =>
     have H := HC30.out
     clear HC30
     by_cases c31 : x9_1 < (l1_0.length : Int)
     rotate_left
     ·rw [if_neg c31] at H
      have c31b0 := decide_eq_false c31
      clear c31
      (first | rw [c31b0] | rw [c31b1] | (simp only [gt_iff_lt, Int.natCast_pos]; rw [c31b1]) | (simp only [i64_w, i32_w]; rw [c31b0]) | skip)
      have H' := Aside0.mk H
      clear H
      have hnb38 := nP N1_2
      have hnb39 := nP N1_7
      have hnb40 := nP N1_0
      have hz41 := Sq.c5 B1.out
      go_wp2
      go_meet
      case rel => exact ⟨_, (false), (x1001_1), (x1002_1), Ey, H', ⟨by have := HK1.out; first | omega | exact Nat.le_refl _⟩, ⟨ks B1⟩, ⟨ks B2⟩, ⟨ks B7⟩, ⟨by exact IsS54.below HI0.out Ho.Steps.below⟩, ⟨by exact Ho.kS HK.out⟩, ⟨es HB⟩⟩
     rw [if_pos c31] at H
     have c31b0 := decide_eq_true c31
     clear c31
     (first | rw [c31b0] | rw [c31b1] | (simp only [gt_iff_lt, Int.natCast_pos]; rw [c31b1]) | (simp only [i64_w, i32_w]; rw [c31b0]) | skip)
     obtain ⟨⟨t12, t13, t14⟩, A32, H⟩ := bn H
     (try dsimp only at H)
     have H' := Aside0.mk H
     clear H
     have hnb33 := nP N1_2
     have hnb34 := nP N1_7
     have hnb35 := nP N1_0
     have hz36 := Sq.c5 B1.out
     go_wp2_with (first | (go_at_call 47; (with_reducible refine (Fbk.calls g s0_0 x1001_1 x1002_1 2 t12 t13 t14 w0 _ ?side1 ?side2 A32.out).mono ?_); (case side1 => exact IsS54.below HI0.out Ho.Steps.below); (case side2 => exact eS HB.out); rintro e w37 ⟨rfl, hi, hb, hk⟩; replace B1 := kK B1 hk N1_0; replace B2 := kK B2 hk N2_0; replace B7 := kK B7 hk N7_0; replace HK := hU HK hk; replace HB := Ak hb; replace HI0 := Ak hi; clear hb hk hi))
     go_meet
     case rel => exact ⟨_, (t12), (t13), (t14), Ey, H', ⟨by have := HK1.out; first | omega | exact Nat.le_refl _⟩, ⟨ks B1⟩, ⟨ks B2⟩, ⟨ks B7⟩, ⟨by exact IsS54.below HI0.out Ho.Steps.below⟩, ⟨by exact Ho.kS HK.out⟩, ⟨es HB⟩⟩
    case rest =>
     clear HC30
     try clear c1
     try clear p1
     try clear q1
     try clear hx1
     try clear c2
     try clear p2
     try clear c3
     try clear c4
     try clear c5
     try clear c6
     try clear c7
     try clear c9
     try clear c9b0
     try clear c9b1
     try clear p10
     try clear q10
     try clear hx10
     try clear c11
     try clear c11b0
     try clear p11
     try clear q11
     try clear hx11
     try clear c12
     try clear c12b0
     try clear c14
     try clear c14b0
     try clear c15
     try clear c15b0
     try clear c23
     try clear c24
     try clear c25
     try clear c31
     try clear c31b0
     try clear c33
     try clear c34
     try clear c35
     try clear c38
     try clear c39
     try clear c40
     (try clear hz26)
     (try clear hz36)
     (try clear hz41)
     (try clear hz8)
     try clear hx6_0
     try clear hx6_1
     try clear hx6_2
     try clear hx11_0
     try clear hx11_1
     try clear hx11_2
     try clear p1
     try clear p10
     try clear p106
     try clear p11
     try clear p111
     try clear p2
     try clear q1
     try clear q10
     try clear q6
     try clear q11
     try clear q111
     obtain ⟨kq, x46_29, x1001_29, x1002_29, rfl, HA, HJ29, B1, B2, B7, HI0, HK, HB⟩ := hcut
     cases kq with
     | zero => exact absurd HA.out (by simp [Fb.j1])
     | succ kj29 =>
      have H := HA.out
      clear HA
      simp only [Fb.j1] at H
      by_cases c42 : x46_29 = true
      rotate_left
      ·replace c42 := Bool.eq_false_iff.mpr c42
       subst c42
       rw [if_neg (show ¬ (false = true) by decide)] at H
       have H' := Aside0.mk H
       clear H
       go_wp2
       go_meet
       case rel => exact ⟨_, (((rd_T33 l1_0 t3).f0)), (x6_1), (((rd_T33 l1_0 t3).f2)), (x1001_29), (x1002_29), Ey, Ey, Ey, H', ⟨by have := HK1.out; have := HJ29.out; first | omega | exact Nat.le_refl _⟩, ⟨ks B2⟩, ⟨by exact IsS54.below HI0.out Ho.Steps.below⟩, ⟨by exact Ho.kS HK.out⟩, ⟨es HB⟩⟩
      subst c42
      rw [if_pos rfl] at H
      by_cases c43 : 0 ≤ x9_1
      rotate_left
      ·rw [if_neg c43] at H
       exact absurd H (by simp)
      rw [if_pos c43] at H
      have c43b0 := decide_eq_true c43
      clear c43
      by_cases c44 : x9_1 < (l1_0.length : Int)
      rotate_left
      ·rw [if_neg c44] at H
       exact absurd H (by simp)
      rw [if_pos c44] at H
      have c44b0 := decide_eq_true c44
      clear c44
      by_cases c45 : ((rd_T33 l1_0 x9_1).f1) = ((rd_T33 l1_0 t3).f1)
      rotate_left
      ·rw [if_neg c45] at H
       have c45b0 := beq_eq_false_iff_ne.mpr c45
       have c45b1 := bne_iff_ne.mpr c45
       have H' := Aside0.mk H
       clear H
       try go_wp2
       replace B1 := kD B1
       replace B2 := kD B2
       replace B7 := kD B7
       replace HI0 := Ak (IsS54.drew HI0.out)
       replace HK := hD HK
       replace HB := bD HB
       have p15 : 0 ≤ (x9_1 : Int) := Dz
       have q15 : x9_1 < (l1_0.length : Int) := Dz
       obtain ⟨ad15, e15, hx15_0, hx15_1, hx15_2⟩ := at_T33 (Kd.C_foot_now HR1_0.out HK.out) x9_1 p15 q15
       have hw115_2 := hx15_2
       have hw115_1 := hx15_1
       have hw115_0 := hx15_0
       obtain rfl : ad6 = ad15 := (by injection e15)
       have hne115_2 := (show (⟨(ad6.add ((x9_1).toNat * 3)).block, (ad6.add ((x9_1).toNat * 3)).off + 2, none⟩ : Addr).block ≠ g from by first | (rw [add_block]; exact Kd.foot_ne HR1_0.out (by omega) (by decide)) | (show (Addr.add _ _).block ≠ _; rw [add_block]; exact Kd.foot_ne HR1_0.out (by omega) (by decide)) | exact Kd.foot_ne HR1_0.out (by omega) (by decide) | (dsimp only; exact Kd.foot_ne HR1_0.out (by omega) (by decide)))
       have hlt115_2 := (Kd.foot_lt HR1_0.out (by omega) (by decide))
       have hne115_1 := (show (⟨(ad6.add ((x9_1).toNat * 3)).block, (ad6.add ((x9_1).toNat * 3)).off + 1, none⟩ : Addr).block ≠ g from by first | (rw [add_block]; exact Kd.foot_ne HR1_0.out (by omega) (by decide)) | (show (Addr.add _ _).block ≠ _; rw [add_block]; exact Kd.foot_ne HR1_0.out (by omega) (by decide)) | exact Kd.foot_ne HR1_0.out (by omega) (by decide) | (dsimp only; exact Kd.foot_ne HR1_0.out (by omega) (by decide)))
       have hlt115_1 := (Kd.foot_lt HR1_0.out (by omega) (by decide))
       have hne115_0 := (show ((ad6.add ((x9_1).toNat * 3)) : Addr).block ≠ g from by first | (rw [add_block]; exact Kd.foot_ne HR1_0.out (by omega) (by decide)) | (show (Addr.add _ _).block ≠ _; rw [add_block]; exact Kd.foot_ne HR1_0.out (by omega) (by decide)) | exact Kd.foot_ne HR1_0.out (by omega) (by decide) | (dsimp only; exact Kd.foot_ne HR1_0.out (by omega) (by decide)))
       have hlt115_0 := (Kd.foot_lt HR1_0.out (by omega) (by decide))
       replace p15 := eq_true p15
       replace q15 := eq_true q15
       refine sT 19 (fun w' => w'.cell? ⟨g1, 0, none⟩ = some (.slice (some ad6) l1_0.length c1_0) ∧ w'.cell? ⟨g1, 1, none⟩ = some (.int .i64 a1_1) ∧ w'.cell? ⟨g1, 2, none⟩ = some (.int .i64 a1_2) ∧ w'.cell? ⟨g1, 3, none⟩ = some (.int .i64 a1_3) ∧ w'.cell? ⟨g1, 4, none⟩ = some (.int .i64 a1_4) ∧ w'.cell? ⟨g7, 0, none⟩ = some (.int .i64 ((rd_T33 l1_0 t3).f0)) ∧ w'.cell? ⟨g7, 1, none⟩ = some (.int .i64 ((rd_T33 l1_0 t3).f1)) ∧ w'.cell? ⟨g7, 2, none⟩ = some (.int .i64 ((rd_T33 l1_0 t3).f2)) ∧ w'.cell? (ad6.add ((x9_1).toNat * 3)) = some (.int .i64 ((rd_T33 l1_0 x9_1).f0)) ∧ w'.cell? ⟨(ad6.add ((x9_1).toNat * 3)).block, (ad6.add ((x9_1).toNat * 3)).off + 1, none⟩ = some (.int .i64 ((rd_T33 l1_0 x9_1).f1)) ∧ w'.cell? ⟨(ad6.add ((x9_1).toNat * 3)).block, (ad6.add ((x9_1).toNat * 3)).off + 2, none⟩ = some (.int .i64 ((rd_T33 l1_0 x9_1).f2))) [] Fb.tab10 Fb.bits10 ⟨bc B1 0, bc B1 1, bc B1 2, bc B1 3, bc B1 4, bc B7 0, bc B7 1, bc B7 2, hx15_0, hx15_1, hx15_2⟩ fun hHeld HT_ HW_ => ?_
       generalize wc.drew = w53 at B1 B2 B7 HI0 HK HB hx15_0 hx15_1 hx15_2 hHeld ⊢
       refine Pu 0 ?_
       refine Pu 2 ?_
       refine Pu 6 ?_
       refine Ta 1 ?_
       refine Pu 3 ?_
       refine Pu 4 ?_
       refine Ta 5 ?_
       refine Ta 7 ?_
       refine Pu 8 ?_
       refine Pu 9 ?_
       refine Pn 10 ?_
       refine Pn 11 ?_
       refine Pn 12 ?_
       refine Pn 13 ?_
       refine Pn 14 ?_
       refine Pn 15 ?_
       refine Pn 16 ?_
       refine Pn 17 ?_
       refine Pu 18 ?_
       refine dO ?_
       try go_wp2
       go_roundg kj29
       case measure => have := HK1.out; have := HJ29.out; omega
       case rel => exact ⟨(x6_1), (wrap64 (x9_1 + 1)), (x1001_29), (x1002_29), Ey, Ey, H', ⟨by have := HK1.out; have := HJ29.out; omega⟩, ⟨ks B1⟩, ⟨ks B2⟩, ⟨ks B7⟩, ⟨by exact IsS54.below HI0.out Ho.Steps.below⟩, ⟨by exact Ho.kS HK.out⟩, ⟨es HB⟩⟩
      rw [if_pos c45] at H
      have c45b0 := beq_iff_eq.mpr c45
      have c45b1 := bne_eq_false_iff_eq.mpr c45
      clear c45
      by_cases c46 : ((rd_T33 l1_0 x9_1).f0) = ((rd_T33 l1_0 t3).f0)
      ·rw [if_pos c46] at H
       have c46b0 := beq_iff_eq.mpr c46
       have c46b1 := bne_eq_false_iff_eq.mpr c46
       clear c46
       have H' := Aside0.mk H
       clear H
       try go_wp2
       replace B1 := kD B1
       replace B2 := kD B2
       replace B7 := kD B7
       replace HI0 := Ak (IsS54.drew HI0.out)
       replace HK := hD HK
       replace HB := bD HB
       have p15 : 0 ≤ (x9_1 : Int) := Dz
       have q15 : x9_1 < (l1_0.length : Int) := Dz
       obtain ⟨ad15, e15, hx15_0, hx15_1, hx15_2⟩ := at_T33 (Kd.C_foot_now HR1_0.out HK.out) x9_1 p15 q15
       have hw115_2 := hx15_2
       have hw115_1 := hx15_1
       have hw115_0 := hx15_0
       obtain rfl : ad6 = ad15 := (by injection e15)
       have hne115_2 := (show (⟨(ad6.add ((x9_1).toNat * 3)).block, (ad6.add ((x9_1).toNat * 3)).off + 2, none⟩ : Addr).block ≠ g from by first | (rw [add_block]; exact Kd.foot_ne HR1_0.out (by omega) (by decide)) | (show (Addr.add _ _).block ≠ _; rw [add_block]; exact Kd.foot_ne HR1_0.out (by omega) (by decide)) | exact Kd.foot_ne HR1_0.out (by omega) (by decide) | (dsimp only; exact Kd.foot_ne HR1_0.out (by omega) (by decide)))
       have hlt115_2 := (Kd.foot_lt HR1_0.out (by omega) (by decide))
       have hne115_1 := (show (⟨(ad6.add ((x9_1).toNat * 3)).block, (ad6.add ((x9_1).toNat * 3)).off + 1, none⟩ : Addr).block ≠ g from by first | (rw [add_block]; exact Kd.foot_ne HR1_0.out (by omega) (by decide)) | (show (Addr.add _ _).block ≠ _; rw [add_block]; exact Kd.foot_ne HR1_0.out (by omega) (by decide)) | exact Kd.foot_ne HR1_0.out (by omega) (by decide) | (dsimp only; exact Kd.foot_ne HR1_0.out (by omega) (by decide)))
       have hlt115_1 := (Kd.foot_lt HR1_0.out (by omega) (by decide))
       have hne115_0 := (show ((ad6.add ((x9_1).toNat * 3)) : Addr).block ≠ g from by first | (rw [add_block]; exact Kd.foot_ne HR1_0.out (by omega) (by decide)) | (show (Addr.add _ _).block ≠ _; rw [add_block]; exact Kd.foot_ne HR1_0.out (by omega) (by decide)) | exact Kd.foot_ne HR1_0.out (by omega) (by decide) | (dsimp only; exact Kd.foot_ne HR1_0.out (by omega) (by decide)))
       have hlt115_0 := (Kd.foot_lt HR1_0.out (by omega) (by decide))
       replace p15 := eq_true p15
       replace q15 := eq_true q15
       have p16 : 0 ≤ (x9_1 : Int) := Dz
       have q16 : x9_1 < (l1_0.length : Int) := Dz
       obtain ⟨ad16, e16, hx16_0, hx16_1, hx16_2⟩ := at_T33 (Kd.C_foot_now HR1_0.out HK.out) x9_1 p16 q16
       have hw116_2 := hx16_2
       have hw116_1 := hx16_1
       have hw116_0 := hx16_0
       obtain rfl : ad6 = ad16 := (by injection e16)
       have hne116_2 := (show (⟨(ad6.add ((x9_1).toNat * 3)).block, (ad6.add ((x9_1).toNat * 3)).off + 2, none⟩ : Addr).block ≠ g from by first | (rw [add_block]; exact Kd.foot_ne HR1_0.out (by omega) (by decide)) | (show (Addr.add _ _).block ≠ _; rw [add_block]; exact Kd.foot_ne HR1_0.out (by omega) (by decide)) | exact Kd.foot_ne HR1_0.out (by omega) (by decide) | (dsimp only; exact Kd.foot_ne HR1_0.out (by omega) (by decide)))
       have hlt116_2 := (Kd.foot_lt HR1_0.out (by omega) (by decide))
       have hne116_1 := (show (⟨(ad6.add ((x9_1).toNat * 3)).block, (ad6.add ((x9_1).toNat * 3)).off + 1, none⟩ : Addr).block ≠ g from by first | (rw [add_block]; exact Kd.foot_ne HR1_0.out (by omega) (by decide)) | (show (Addr.add _ _).block ≠ _; rw [add_block]; exact Kd.foot_ne HR1_0.out (by omega) (by decide)) | exact Kd.foot_ne HR1_0.out (by omega) (by decide) | (dsimp only; exact Kd.foot_ne HR1_0.out (by omega) (by decide)))
       have hlt116_1 := (Kd.foot_lt HR1_0.out (by omega) (by decide))
       have hne116_0 := (show ((ad6.add ((x9_1).toNat * 3)) : Addr).block ≠ g from by first | (rw [add_block]; exact Kd.foot_ne HR1_0.out (by omega) (by decide)) | (show (Addr.add _ _).block ≠ _; rw [add_block]; exact Kd.foot_ne HR1_0.out (by omega) (by decide)) | exact Kd.foot_ne HR1_0.out (by omega) (by decide) | (dsimp only; exact Kd.foot_ne HR1_0.out (by omega) (by decide)))
       have hlt116_0 := (Kd.foot_lt HR1_0.out (by omega) (by decide))
       replace p16 := eq_true p16
       replace q16 := eq_true q16
       refine sT 19 (fun w' => w'.cell? ⟨g1, 0, none⟩ = some (.slice (some ad6) l1_0.length c1_0) ∧ w'.cell? ⟨g1, 1, none⟩ = some (.int .i64 a1_1) ∧ w'.cell? ⟨g1, 2, none⟩ = some (.int .i64 a1_2) ∧ w'.cell? ⟨g1, 3, none⟩ = some (.int .i64 a1_3) ∧ w'.cell? ⟨g1, 4, none⟩ = some (.int .i64 a1_4) ∧ w'.cell? ⟨g7, 0, none⟩ = some (.int .i64 ((rd_T33 l1_0 t3).f0)) ∧ w'.cell? ⟨g7, 1, none⟩ = some (.int .i64 ((rd_T33 l1_0 t3).f1)) ∧ w'.cell? ⟨g7, 2, none⟩ = some (.int .i64 ((rd_T33 l1_0 t3).f2)) ∧ w'.cell? (ad6.add ((x9_1).toNat * 3)) = some (.int .i64 ((rd_T33 l1_0 x9_1).f0)) ∧ w'.cell? ⟨(ad6.add ((x9_1).toNat * 3)).block, (ad6.add ((x9_1).toNat * 3)).off + 1, none⟩ = some (.int .i64 ((rd_T33 l1_0 x9_1).f1)) ∧ w'.cell? ⟨(ad6.add ((x9_1).toNat * 3)).block, (ad6.add ((x9_1).toNat * 3)).off + 2, none⟩ = some (.int .i64 ((rd_T33 l1_0 x9_1).f2)) ∧ w'.cell? (ad6.add ((x9_1).toNat * 3)) = some (.int .i64 ((rd_T33 l1_0 x9_1).f0)) ∧ w'.cell? ⟨(ad6.add ((x9_1).toNat * 3)).block, (ad6.add ((x9_1).toNat * 3)).off + 1, none⟩ = some (.int .i64 ((rd_T33 l1_0 x9_1).f1)) ∧ w'.cell? ⟨(ad6.add ((x9_1).toNat * 3)).block, (ad6.add ((x9_1).toNat * 3)).off + 2, none⟩ = some (.int .i64 ((rd_T33 l1_0 x9_1).f2))) [] Fb.tab10 Fb.bits10 ⟨bc B1 0, bc B1 1, bc B1 2, bc B1 3, bc B1 4, bc B7 0, bc B7 1, bc B7 2, hx15_0, hx15_1, hx15_2, hx16_0, hx16_1, hx16_2⟩ fun hHeld HT_ HW_ => ?_
       generalize wc.drew = w47 at B1 B2 B7 HI0 HK HB hx15_0 hx15_1 hx15_2 hx16_0 hx16_1 hx16_2 hHeld ⊢
       refine Pu 0 ?_
       refine Pu 2 ?_
       refine Pu 6 ?_
       refine Ta 1 ?_
       refine Pu 3 ?_
       refine Pu 4 ?_
       refine Ta 5 ?_
       refine Ta 7 ?_
       refine Pu 8 ?_
       refine Pu 9 ?_
       refine Pu 10 ?_
       refine Pu 12 ?_
       refine Pu 16 ?_
       refine Ta 11 ?_
       refine Pu 13 ?_
       refine Pu 14 ?_
       refine Ta 15 ?_
       refine Pu 17 ?_
       refine Pu 18 ?_
       refine dO ?_
       try go_wp2
       go_roundg kj29
       case measure => have := HK1.out; have := HJ29.out; omega
       case rel => exact ⟨(x6_1), (wrap64 (x9_1 + 1)), (x1001_29), (x1002_29), Ey, Ey, H', ⟨by have := HK1.out; have := HJ29.out; omega⟩, ⟨ks B1⟩, ⟨ks B2⟩, ⟨ks B7⟩, ⟨by exact IsS54.below HI0.out Ho.Steps.below⟩, ⟨by exact Ho.kS HK.out⟩, ⟨es HB⟩⟩
      rw [if_neg c46] at H
      have c46b0 := beq_eq_false_iff_ne.mpr c46
      have c46b1 := bne_iff_ne.mpr c46
      have H' := Aside0.mk H
      clear H
      try go_wp2
      replace B1 := kD B1
      replace B2 := kD B2
      replace B7 := kD B7
      replace HI0 := Ak (IsS54.drew HI0.out)
      replace HK := hD HK
      replace HB := bD HB
      have p15 : 0 ≤ (x9_1 : Int) := Dz
      have q15 : x9_1 < (l1_0.length : Int) := Dz
      obtain ⟨ad15, e15, hx15_0, hx15_1, hx15_2⟩ := at_T33 (Kd.C_foot_now HR1_0.out HK.out) x9_1 p15 q15
      have hw115_2 := hx15_2
      have hw115_1 := hx15_1
      have hw115_0 := hx15_0
      obtain rfl : ad6 = ad15 := (by injection e15)
      have hne115_2 := (show (⟨(ad6.add ((x9_1).toNat * 3)).block, (ad6.add ((x9_1).toNat * 3)).off + 2, none⟩ : Addr).block ≠ g from by first | (rw [add_block]; exact Kd.foot_ne HR1_0.out (by omega) (by decide)) | (show (Addr.add _ _).block ≠ _; rw [add_block]; exact Kd.foot_ne HR1_0.out (by omega) (by decide)) | exact Kd.foot_ne HR1_0.out (by omega) (by decide) | (dsimp only; exact Kd.foot_ne HR1_0.out (by omega) (by decide)))
      have hlt115_2 := (Kd.foot_lt HR1_0.out (by omega) (by decide))
      have hne115_1 := (show (⟨(ad6.add ((x9_1).toNat * 3)).block, (ad6.add ((x9_1).toNat * 3)).off + 1, none⟩ : Addr).block ≠ g from by first | (rw [add_block]; exact Kd.foot_ne HR1_0.out (by omega) (by decide)) | (show (Addr.add _ _).block ≠ _; rw [add_block]; exact Kd.foot_ne HR1_0.out (by omega) (by decide)) | exact Kd.foot_ne HR1_0.out (by omega) (by decide) | (dsimp only; exact Kd.foot_ne HR1_0.out (by omega) (by decide)))
      have hlt115_1 := (Kd.foot_lt HR1_0.out (by omega) (by decide))
      have hne115_0 := (show ((ad6.add ((x9_1).toNat * 3)) : Addr).block ≠ g from by first | (rw [add_block]; exact Kd.foot_ne HR1_0.out (by omega) (by decide)) | (show (Addr.add _ _).block ≠ _; rw [add_block]; exact Kd.foot_ne HR1_0.out (by omega) (by decide)) | exact Kd.foot_ne HR1_0.out (by omega) (by decide) | (dsimp only; exact Kd.foot_ne HR1_0.out (by omega) (by decide)))
      have hlt115_0 := (Kd.foot_lt HR1_0.out (by omega) (by decide))
      replace p15 := eq_true p15
      replace q15 := eq_true q15
      have p16 : 0 ≤ (x9_1 : Int) := Dz
      have q16 : x9_1 < (l1_0.length : Int) := Dz
      obtain ⟨ad16, e16, hx16_0, hx16_1, hx16_2⟩ := at_T33 (Kd.C_foot_now HR1_0.out HK.out) x9_1 p16 q16
      have hw116_2 := hx16_2
      have hw116_1 := hx16_1
      have hw116_0 := hx16_0
      obtain rfl : ad6 = ad16 := (by injection e16)
      have hne116_2 := (show (⟨(ad6.add ((x9_1).toNat * 3)).block, (ad6.add ((x9_1).toNat * 3)).off + 2, none⟩ : Addr).block ≠ g from by first | (rw [add_block]; exact Kd.foot_ne HR1_0.out (by omega) (by decide)) | (show (Addr.add _ _).block ≠ _; rw [add_block]; exact Kd.foot_ne HR1_0.out (by omega) (by decide)) | exact Kd.foot_ne HR1_0.out (by omega) (by decide) | (dsimp only; exact Kd.foot_ne HR1_0.out (by omega) (by decide)))
      have hlt116_2 := (Kd.foot_lt HR1_0.out (by omega) (by decide))
      have hne116_1 := (show (⟨(ad6.add ((x9_1).toNat * 3)).block, (ad6.add ((x9_1).toNat * 3)).off + 1, none⟩ : Addr).block ≠ g from by first | (rw [add_block]; exact Kd.foot_ne HR1_0.out (by omega) (by decide)) | (show (Addr.add _ _).block ≠ _; rw [add_block]; exact Kd.foot_ne HR1_0.out (by omega) (by decide)) | exact Kd.foot_ne HR1_0.out (by omega) (by decide) | (dsimp only; exact Kd.foot_ne HR1_0.out (by omega) (by decide)))
      have hlt116_1 := (Kd.foot_lt HR1_0.out (by omega) (by decide))
      have hne116_0 := (show ((ad6.add ((x9_1).toNat * 3)) : Addr).block ≠ g from by first | (rw [add_block]; exact Kd.foot_ne HR1_0.out (by omega) (by decide)) | (show (Addr.add _ _).block ≠ _; rw [add_block]; exact Kd.foot_ne HR1_0.out (by omega) (by decide)) | exact Kd.foot_ne HR1_0.out (by omega) (by decide) | (dsimp only; exact Kd.foot_ne HR1_0.out (by omega) (by decide)))
      have hlt116_0 := (Kd.foot_lt HR1_0.out (by omega) (by decide))
      replace p16 := eq_true p16
      replace q16 := eq_true q16
      refine sT 19 (fun w' => w'.cell? ⟨g1, 0, none⟩ = some (.slice (some ad6) l1_0.length c1_0) ∧ w'.cell? ⟨g1, 1, none⟩ = some (.int .i64 a1_1) ∧ w'.cell? ⟨g1, 2, none⟩ = some (.int .i64 a1_2) ∧ w'.cell? ⟨g1, 3, none⟩ = some (.int .i64 a1_3) ∧ w'.cell? ⟨g1, 4, none⟩ = some (.int .i64 a1_4) ∧ w'.cell? ⟨g7, 0, none⟩ = some (.int .i64 ((rd_T33 l1_0 t3).f0)) ∧ w'.cell? ⟨g7, 1, none⟩ = some (.int .i64 ((rd_T33 l1_0 t3).f1)) ∧ w'.cell? ⟨g7, 2, none⟩ = some (.int .i64 ((rd_T33 l1_0 t3).f2)) ∧ w'.cell? (ad6.add ((x9_1).toNat * 3)) = some (.int .i64 ((rd_T33 l1_0 x9_1).f0)) ∧ w'.cell? ⟨(ad6.add ((x9_1).toNat * 3)).block, (ad6.add ((x9_1).toNat * 3)).off + 1, none⟩ = some (.int .i64 ((rd_T33 l1_0 x9_1).f1)) ∧ w'.cell? ⟨(ad6.add ((x9_1).toNat * 3)).block, (ad6.add ((x9_1).toNat * 3)).off + 2, none⟩ = some (.int .i64 ((rd_T33 l1_0 x9_1).f2)) ∧ w'.cell? (ad6.add ((x9_1).toNat * 3)) = some (.int .i64 ((rd_T33 l1_0 x9_1).f0)) ∧ w'.cell? ⟨(ad6.add ((x9_1).toNat * 3)).block, (ad6.add ((x9_1).toNat * 3)).off + 1, none⟩ = some (.int .i64 ((rd_T33 l1_0 x9_1).f1)) ∧ w'.cell? ⟨(ad6.add ((x9_1).toNat * 3)).block, (ad6.add ((x9_1).toNat * 3)).off + 2, none⟩ = some (.int .i64 ((rd_T33 l1_0 x9_1).f2))) [] Fb.tab10 Fb.bits10 ⟨bc B1 0, bc B1 1, bc B1 2, bc B1 3, bc B1 4, bc B7 0, bc B7 1, bc B7 2, hx15_0, hx15_1, hx15_2, hx16_0, hx16_1, hx16_2⟩ fun hHeld HT_ HW_ => ?_
      generalize wc.drew = w48 at B1 B2 B7 HI0 HK HB hx15_0 hx15_1 hx15_2 hx16_0 hx16_1 hx16_2 hHeld ⊢
      refine Pu 0 ?_
      refine Pu 2 ?_
      refine Pu 6 ?_
      refine Ta 1 ?_
      refine Pu 3 ?_
      refine Pu 4 ?_
      refine Ta 5 ?_
      refine Ta 7 ?_
      refine Pu 8 ?_
      refine Pu 9 ?_
      refine Pu 10 ?_
      refine Pu 12 ?_
      refine Pu 16 ?_
      refine Ta 11 ?_
      refine Pu 13 ?_
      refine Pu 14 ?_
      refine Ta 15 ?_
      refine Pu 17 ?_
      refine Pu 18 ?_
      refine dO ?_
      have hnb49 := nP N1_2
      have hnb50 := nP N1_7
      have hnb51 := nP N1_0
      have hz52 := Sq.c5 B1.out
      have p17 : 0 ≤ (x9_1 : Int) := Dz
      have q17 : x9_1 < (l1_0.length : Int) := Dz
      obtain ⟨ad17, e17, hx17_0, hx17_1, hx17_2⟩ := at_T33 (Kd.C_foot_now HR1_0.out HK.out) x9_1 p17 q17
      obtain rfl : ad6 = ad17 := (by injection e17)
      replace p17 := eq_true p17
      replace q17 := eq_true q17
      try go_wp2
      go_roundg kj29
      case measure => have := HK1.out; have := HJ29.out; omega
      case rel => exact ⟨((rd_T33 l1_0 x9_1).f0), (wrap64 (x9_1 + 1)), (x1001_29), (x1002_29), Ey, Ey, H', ⟨by have := HK1.out; have := HJ29.out; omega⟩, ⟨ks B1⟩, ⟨ks B2⟩, ⟨ks B7⟩, ⟨by exact IsS54.below HI0.out Ho.Steps.below⟩, ⟨by exact Ho.kS HK.out⟩, ⟨es HB⟩⟩
 case rest =>
  clear HC3
  try clear c1
  try clear p1
  try clear q1
  try clear hx1
  try clear p2
  try clear c4
  try clear c5
  try clear p6
  try clear c9
  try clear c9b0
  try clear c9b1
  try clear c11
  try clear p11
  try clear q11
  try clear hx11
  try clear c12
  try clear c14
  try clear c15
  try clear c42
  try clear c43
  try clear c44
  try clear c45
  try clear c45b0
  try clear c45b1
  try clear c46
  try clear c46b0
  try clear c46b1
  try clear c49
  try clear c50
  try clear c51
  (try clear hz52)
  try clear hx15_0
  try clear hx15_1
  try clear hx15_2
  try clear hx16_0
  try clear hx16_1
  try clear hx16_2
  try clear hx17_0
  try clear hx17_1
  try clear hx17_2
  try clear p15
  try clear p16
  try clear p17
  try clear q15
  try clear q16
  try clear q17
  obtain ⟨kq, x5_2, x6_2, x7_2, x1001_2, x1002_2, rfl, rfl, rfl, HA, HJ2, B2, HI0, HK, HB⟩ := hcut
  cases kq with
  | zero => exact absurd HA.out (by simp [Fb.j2])
  | succ kj2 =>
   have H := HA.out
   clear HA
   simp only [Fb.j2] at H
   obtain ⟨t18, A54, H⟩ := bn H
   (try dsimp only at H)
   obtain ⟨y19, hy19⟩ : ∃ y_ : List Int, y_ = (([1, 10, x7_2, t18, wrap64 (x7_2 + 1)] : List Int)) := ⟨_, rfl⟩
   replace H : ((Fm.f s0_0 x1001_2 x1002_2 y19).bind fun bt122 => ((Faf.f s0_0 bt122.2.1 bt122.2.2 9).bind fun bt125 => (if bt125.1 = 0 then (Fb.j3 kj2 x5_2 x6_2 bt122.1 bt125.1 (bt125.1 == 0) s0_0 bt125.2.1 bt125.2.2) else (if bt125.1 = 1 then (Fb.j3 kj2 x5_2 x6_2 bt122.1 bt125.1 (bt125.1 == 1) s0_0 bt125.2.1 bt125.2.2) else (Fb.j3 kj2 x5_2 x6_2 bt122.1 bt125.1 (bt125.1 == 2) s0_0 bt125.2.1 bt125.2.2))))) = some (r1, r2, r3, r4, r5, r6) := by first | (rw [hy19]; with_reducible exact H) | (have H2_ := (Option.bind_some _ _).symm.trans H; rw [hy19]; with_reducible exact H2_) | (have H2_ := (Option.bind_some _ _).symm.trans H; with_reducible exact H2_) | with_reducible exact H | (rw [hy19]; exact H) | exact H
   have Ny19 := Aside0.mk hy19
   clear hy19
   obtain ⟨⟨t22, t23, t24⟩, A55, H⟩ := bn H
   (try dsimp only at H)
   obtain ⟨⟨t25, t26, t27⟩, A56, H⟩ := bn H
   (try dsimp only at H)
   have HC57 := Aside0.mk H
   clear H
   go_upto_if 85 with (first | (refine cE (some 78) Tryz.func79 #[.int .i64 1, .int .i64 (wrap64 (Int.tdiv x7_2 2))] ?_; (with_reducible refine (Fbs.calls 1 (wrap64 (Int.tdiv x7_2 2)) t18 _ A54.out).mono ?_); rintro e w' ⟨rfl, ⟨nd, rfl⟩⟩; refine ⟨_, rfl, ?_⟩) | ((with_reducible refine gate_dst (N := 81) rfl ?_); refine Kd.R_lit (Kd.int .i64) _ 3 ?hg (N := 81) ?hd (xs := ([1, 10, x7_2, t18, wrap64 (x7_2 + 1)] : List Int)) (inner := [.int .i64 1, .int .i64 10, .int .i64 x7_2, .int .i64 t18, .int .i64 (wrap64 (x7_2 + 1))]) (ok := fun _ => True) (okp := fun _ => True) ?hr ?hp (fun _ hk => hk) trivial (Below.refl _ _) (Nat.le_refl _) (by simp) ?_; (case hd => rfl); (case hg => rfl); (case hr => first | (go_simp; done) | (go_simp; rfl)); (case hp => exact (Reps.one (show Kd.M (Kd.int .i64) _ _ _ 1 [.int .i64 1] from rfl) (Reps.one (show Kd.M (Kd.int .i64) _ _ _ 10 [.int .i64 10] from rfl) (Reps.one (show Kd.M (Kd.int .i64) _ _ _ x7_2 [.int .i64 x7_2] from rfl) (Reps.one (show Kd.M (Kd.int .i64) _ _ _ t18 [.int .i64 t18] from rfl) (Reps.one (show Kd.M (Kd.int .i64) _ _ _ (wrap64 (x7_2 + 1)) [.int .i64 (wrap64 (x7_2 + 1))] from rfl) (Reps.none _ _))))))); intro v20 w58 ho59 hb hg_ hnew_; clear hg_ hnew_; (first | rw [← Ny19.out] at ho59 | (simp only [Int.reduceToNat] at ho59; rw [← Ny19.out] at ho59)); have R21 := Ak (Kd.R_lower ho59 (keep_size (w := w) (g := g) (row := none) (by exact Ho.kS HK.out))); replace B2 := kT B2 hb; replace HI0 := Ak (IsS54.below (by exact IsS54.below HI0.out Ho.Steps.below) hb); replace HK := hT HK hb; replace HB := bT HB hb; clear hb ho59; obtain ⟨Ao60, co60, eo60⟩ := Kd.R_slice R21.out; subst eo60) | (refine cE (some 82) Tryz.func49 #[.pointer (some ⟨g, 0, none⟩), .slice Ao60 y19.length co60] ?_; (with_reducible refine (Fm.calls g s0_0 x1001_2 x1002_2 _ _ y19 t22 t23 t24 w0 _ ?side1 ?side2 ?side3 ?side4 ?side5 A55.out).mono ?_); (case side1 => exact IsS54.below HI0.out Ho.Steps.below); (case side2 => exact eS HB.out); (case side3 => exact Cs (Kd.R_reads' R21.out).2.2); (case side4 => exact (Kd.R_reads' R21.out).2.1); (case side5 => exact far_slice (IsS54.own_ne HI0.out R21.out (by decide))); rintro e w61 ⟨rfl, hi, hb, hk⟩; refine ⟨_, rfl, ?_⟩; replace B2 := kK B2 hk N2_0; replace R21 := Ak (Kd.R_mono (Kd.R_keep (IsS54.apart (show IsS54 w0 _ g s0_0 x1001_2 x1002_2 from by exact IsS54.below HI0.out Ho.Steps.below) (by exact Ho.RS <| R21.out) (by decide)) hk (fun _ h => h.2)) (fun _ h => h.1)); replace HK := hU HK hk; replace HB := Ak hb; replace HI0 := Ak hi; clear hb hk hi) | (refine cE (some 84) Tryz.func48 #[.pointer (some ⟨g, 0, none⟩), .int .i64 9] ?_; (with_reducible refine (Faf.calls g s0_0 t23 t24 9 t25 t26 t27 w0 _ ?side1 ?side2 A56.out).mono ?_); (case side1 => exact IsS54.below HI0.out Ho.Steps.below); (case side2 => exact eS HB.out); rintro e w62 ⟨rfl, hi, hb, hk⟩; refine ⟨_, rfl, ?_⟩; replace B2 := kK B2 hk N2_0; replace R21 := Ak (Kd.R_mono (Kd.R_keep (IsS54.apart (show IsS54 w0 _ g s0_0 t23 t24 from by exact IsS54.below HI0.out Ho.Steps.below) (by exact Ho.RS <| R21.out) (by decide)) hk (fun _ h => h.2)) (fun _ h => h.1)); replace HK := hU HK hk; replace HB := Ak hb; replace HI0 := Ak hi; clear hb hk hi))
   (try simp only [Act.put, List.setIfInBounds_toArray, List.set_cons_zero, List.set_cons_succ])
   go_cut [85] (fun v85 wc => ∃ (kq : Nat) (x85_56 : Bool), v85 = .bool x85_56 ∧ Aside0 (Fb.j3 kq x5_2 x6_2 t22 t25 x85_56 s0_0 t26 t27 = some (r1, r2, r3, r4, r5, r6)) ∧ Aside0 (kq ≤ kj2) ∧ Aside0 (wc.heap[g2]? = some (.cells #[.int .i64 0, .int .i64 0, .int .i64 0, .int .i64 0] 75 (0, 0))) ∧ Aside0 (IsS54 w0 wc g s0_0 t26 t27) ∧ Aside0 (KeepBut w wc g none) ∧ Aside0 (Below w0.heap.size w0 wc))
   case first =>
    have H := HC57.out
    clear HC57
    by_cases c63 : t25 = 0
    ·rw [if_pos c63] at H
     have c63b0 := beq_iff_eq.mpr c63
     have c63b1 := bne_eq_false_iff_eq.mpr c63
     clear c63
     (first | rw [c63b0] | rw [c63b1] | (simp only [gt_iff_lt, Int.natCast_pos]; rw [c63b1]) | (simp only [i64_w, i32_w]; rw [c63b0]) | skip)
     have H' := Aside0.mk H
     clear H
     go_wp2
     go_meet
     case rel => exact ⟨_, ((t25 == 0)), Ey, H', ⟨by have := HJ2.out; first | omega | exact Nat.le_refl _⟩, ⟨ks B2⟩, ⟨by exact IsS54.below HI0.out Ho.Steps.below⟩, ⟨by exact Ho.kS HK.out⟩, ⟨es HB⟩⟩
    rw [if_neg c63] at H
    have c63b0 := beq_eq_false_iff_ne.mpr c63
    have c63b1 := bne_iff_ne.mpr c63
    (first | rw [c63b0] | rw [c63b1] | (simp only [gt_iff_lt, Int.natCast_pos]; rw [c63b1]) | (simp only [i64_w, i32_w]; rw [c63b0]) | skip)
    by_cases c64 : t25 = 1
    rotate_left
    ·rw [if_neg c64] at H
     have c64b0 := beq_eq_false_iff_ne.mpr c64
     have c64b1 := bne_iff_ne.mpr c64
     have H' := Aside0.mk H
     clear H
     go_wp2
     go_meet
     case rel => exact ⟨_, ((t25 == 2)), Ey, H', ⟨by have := HJ2.out; first | omega | exact Nat.le_refl _⟩, ⟨ks B2⟩, ⟨by exact IsS54.below HI0.out Ho.Steps.below⟩, ⟨by exact Ho.kS HK.out⟩, ⟨es HB⟩⟩
    rw [if_pos c64] at H
    have c64b0 := beq_iff_eq.mpr c64
    have c64b1 := bne_eq_false_iff_eq.mpr c64
    clear c64
    have H' := Aside0.mk H
    clear H
    go_wp2
    go_meet
    case rel => exact ⟨_, ((t25 == 1)), Ey, H', ⟨by have := HJ2.out; first | omega | exact Nat.le_refl _⟩, ⟨ks B2⟩, ⟨by exact IsS54.below HI0.out Ho.Steps.below⟩, ⟨by exact Ho.kS HK.out⟩, ⟨es HB⟩⟩
   case rest =>
    clear HC57
    try clear c1
    try clear p1
    try clear q1
    try clear hx1
    try clear p2
    try clear c4
    try clear c5
    try clear c6
    try clear p6
    try clear c7
    try clear c9
    try clear c9b0
    try clear c9b1
    try clear c11
    try clear p11
    try clear q11
    try clear hx11
    try clear c12
    try clear c14
    try clear c15
    try clear c42
    try clear c43
    try clear c44
    try clear c45
    try clear c45b0
    try clear c45b1
    try clear c46
    try clear c46b0
    try clear c46b1
    try clear c48
    try clear c49
    try clear c50
    try clear c51
    try clear c63
    try clear c63b0
    try clear c63b1
    try clear c64
    try clear c64b0
    try clear c64b1
    try clear p64
    (try clear hz52)
    try clear hx15_0
    try clear hx15_1
    try clear hx15_2
    try clear hx16_0
    try clear hx16_1
    try clear hx16_2
    try clear hx17_0
    try clear hx17_1
    try clear hx17_2
    try clear p1
    try clear p11
    try clear p15
    try clear p16
    try clear p17
    try clear p2
    try clear p6
    try clear q1
    try clear q11
    try clear q15
    try clear q16
    try clear q17
    obtain ⟨kq, x85_56, rfl, HA, HJ56, B2, HI0, HK, HB⟩ := hcut
    cases kq with
    | zero => exact absurd HA.out (by simp [Fb.j3])
    | succ kj56 =>
     have H := HA.out
     clear HA
     simp only [Fb.j3] at H
     by_cases c65 : x85_56 = true
     ·subst c65
      rw [if_pos rfl] at H
      obtain ⟨y28, hy28⟩ : ∃ y_ : List Int, y_ = (([0, 1, 1, 5, 6] : List Int)) := ⟨_, rfl⟩
      replace H : ((Fm.f s0_0 t26 t27 y28).bind fun bt131 => ((Fm.f s0_0 bt131.2.1 bt131.2.2 (([1, 50, 500, 20000, 100000, 0] : List Int))).bind fun bt137 => (some (1, 0, bt131.1, bt137.1, bt137.2.1, bt137.2.2)))) = some (r1, r2, r3, r4, r5, r6) := by first | (rw [hy28]; with_reducible exact H) | (have H2_ := (Option.bind_some _ _).symm.trans H; rw [hy28]; with_reducible exact H2_) | (have H2_ := (Option.bind_some _ _).symm.trans H; with_reducible exact H2_) | with_reducible exact H | (rw [hy28]; exact H) | exact H
      have Ny28 := Aside0.mk hy28
      clear hy28
      obtain ⟨⟨t31, t32, t33⟩, A66, H⟩ := bn H
      (try dsimp only at H)
      obtain ⟨y34, hy34⟩ : ∃ y_ : List Int, y_ = (([1, 50, 500, 20000, 100000, 0] : List Int)) := ⟨_, rfl⟩
      replace H : ((Fm.f s0_0 t32 t33 y34).bind fun bt137 => (some (1, 0, t31, bt137.1, bt137.2.1, bt137.2.2))) = some (r1, r2, r3, r4, r5, r6) := by first | (rw [hy34]; with_reducible exact H) | (have H2_ := (Option.bind_some _ _).symm.trans H; rw [hy34]; with_reducible exact H2_) | (have H2_ := (Option.bind_some _ _).symm.trans H; with_reducible exact H2_) | with_reducible exact H | (rw [hy34]; exact H) | exact H
      have Ny34 := Aside0.mk hy34
      clear hy34
      obtain ⟨⟨t37, t38, t39⟩, A67, H⟩ := bn H
      (try dsimp only at H)
      simp only [Option.some.injEq, Prod.mk.injEq] at H
      obtain ⟨rfl, rfl, rfl, rfl, rfl, rfl⟩ := H
      go_wp2_with (first | ((with_reducible refine gate_dst (N := 90) rfl ?_); refine Kd.R_lit (Kd.int .i64) _ 3 ?hg (N := 90) ?hd (xs := ([0, 1, 1, 5, 6] : List Int)) (inner := [.int .i64 0, .int .i64 1, .int .i64 1, .int .i64 5, .int .i64 6]) (ok := fun _ => True) (okp := fun _ => True) ?hr ?hp (fun _ hk => hk) trivial (Below.refl _ _) (Nat.le_refl _) (by simp) ?_; (case hd => rfl); (case hg => rfl); (case hr => first | (go_simp; done) | (go_simp; rfl)); (case hp => exact Rz); intro v29 w68 ho69 hb hg_ hnew_; clear hg_ hnew_; (first | rw [← Ny28.out] at ho69 | (simp only [Int.reduceToNat] at ho69; rw [← Ny28.out] at ho69)); have R30 := Ak (Kd.R_lower ho69 (keep_size (w := w) (g := g) (row := none) (by exact Ho.kS HK.out))); replace B2 := kT B2 hb; replace HI0 := Ak (IsS54.below (by exact IsS54.below HI0.out Ho.Steps.below) hb); replace HK := hT HK hb; replace HB := bT HB hb; clear hb ho69; obtain ⟨Ao70, co70, eo70⟩ := Kd.R_slice R30.out; subst eo70) | (refine cE (some 91) Tryz.func49 #[.pointer (some ⟨g, 0, none⟩), .slice Ao70 y28.length co70] ?_; (with_reducible refine (Fm.calls g s0_0 t26 t27 _ _ y28 t31 t32 t33 w0 _ ?side1 ?side2 ?side3 ?side4 ?side5 A66.out).mono ?_); (case side1 => exact IsS54.below HI0.out Ho.Steps.below); (case side2 => exact eS HB.out); (case side3 => exact Cs (Kd.R_reads' R30.out).2.2); (case side4 => exact (Kd.R_reads' R30.out).2.1); (case side5 => exact far_slice (IsS54.own_ne HI0.out R30.out (by decide))); rintro e w71 ⟨rfl, hi, hb, hk⟩; refine ⟨_, rfl, ?_⟩; replace B2 := kK B2 hk N2_0; replace R30 := Ak (Kd.R_mono (Kd.R_keep (IsS54.apart (show IsS54 w0 _ g s0_0 t26 t27 from by exact IsS54.below HI0.out Ho.Steps.below) (by exact Ho.RS <| R30.out) (by decide)) hk (fun _ h => h.2)) (fun _ h => h.1)); replace HK := hU HK hk; replace HB := Ak hb; replace HI0 := Ak hi; clear hb hk hi) | ((with_reducible refine gate_dst (N := 93) rfl ?_); refine Kd.R_lit (Kd.int .i64) _ 3 ?hg (N := 93) ?hd (xs := ([1, 50, 500, 20000, 100000, 0] : List Int)) (inner := [.int .i64 1, .int .i64 50, .int .i64 500, .int .i64 20000, .int .i64 100000, .int .i64 0]) (ok := fun _ => True) (okp := fun _ => True) ?hr ?hp (fun _ hk => hk) trivial (Below.refl _ _) (Nat.le_refl _) (by simp) ?_; (case hd => rfl); (case hg => rfl); (case hr => first | (go_simp; done) | (go_simp; rfl)); (case hp => exact Rz); intro v35 w72 ho73 hb hg_ hnew_; clear hg_ hnew_; (first | rw [← Ny34.out] at ho73 | (simp only [Int.reduceToNat] at ho73; rw [← Ny34.out] at ho73)); have R36 := Ak (Kd.R_lower (Kd.R_new' ho73 (Kd.R_lt (by exact Ho.RS <| R30.out))) (keep_size (w := w) (g := g) (row := none) (by exact Ho.kS HK.out))); replace R30 := el R30 ho73 hb; replace B2 := kT B2 hb; replace HI0 := Ak (IsS54.below (by exact IsS54.below HI0.out Ho.Steps.below) hb); replace HK := hT HK hb; replace HB := bT HB hb; clear hb ho73; obtain ⟨Ao74, co74, eo74⟩ := Kd.R_slice R36.out; subst eo74) | (refine cE (some 94) Tryz.func49 #[.pointer (some ⟨g, 0, none⟩), .slice Ao74 y34.length co74] ?_; (with_reducible refine (Fm.calls g s0_0 t32 t33 _ _ y34 t37 t38 t39 w0 _ ?side1 ?side2 ?side3 ?side4 ?side5 A67.out).mono ?_); (case side1 => exact IsS54.below HI0.out Ho.Steps.below); (case side2 => exact eS HB.out); (case side3 => exact Cs (Kd.R_reads' R36.out).2.2); (case side4 => exact (Kd.R_reads' R36.out).2.1); (case side5 => exact far_slice (IsS54.own_ne HI0.out R36.out (by decide))); rintro e w75 ⟨rfl, hi, hb, hk⟩; refine ⟨_, rfl, ?_⟩; replace B2 := kK B2 hk N2_0; replace R30 := Ak (Kd.R_mono (Kd.R_keep (IsS54.apart (show IsS54 w0 _ g s0_0 t32 t33 from by exact IsS54.below HI0.out Ho.Steps.below) (by exact Ho.RS <| R30.out) (by decide)) hk (fun _ h => h.2)) (fun _ h => h.1)); replace R36 := Ak (Kd.R_mono (Kd.R_keep (IsS54.apart (show IsS54 w0 _ g s0_0 t32 t33 from by exact IsS54.below HI0.out Ho.Steps.below) (by exact Ho.RS <| R36.out) (by decide)) hk (fun _ h => h.2)) (fun _ h => h.1)); replace HK := hU HK hk; replace HB := Ak hb; replace HI0 := Ak hi; clear hb hk hi; have hnb76 := nP N2_0; have hz77 := Sq.c4 B2.out))
      refine bodyPost_ret (results_cell_row rfl _ _ g2 75 #[.int .i64 1, .int .i64 0, .int .i64 t31, .int .i64 t37] (0, 0) _ rfl (by apply Sq.put4; exact bS B2.out) Tryz.underlying75 rfl (by kernel_rfl)) rfl ?_
      exact ⟨Ez, by repeat (first | (with_reducible first | exact HI0.out | apply IsS54.alloc | apply IsS54.drewN | apply IsS54.drew | apply IsS54.set_1 | apply IsS54.set_2 | refine IsS54.far ?_ N0_2.out _) | exact HI0.out), by repeat (first | (with_reducible first | exact HB.out | apply below_alloc | apply pw_below_drewN | apply below_drew1 | refine below_set ?_ (IsS54.ge HI0.out) | refine below_set ?_ E2.out) | exact HB.out), by repeat (first | (with_reducible first | exact HK.out | apply KeepBut.set_ | apply keep_drewN | apply keep_drew | apply keep_alloc | refine keep_far ?_ G2.out _) | exact HK.out)⟩
     replace c65 := Bool.eq_false_iff.mpr c65
     subst c65
     rw [if_neg (show ¬ (false = true) by decide)] at H
     have HC78 := Aside0.mk H
     clear H
     go_upto_if 96 with (fail)
     go_cut [96] (fun v96 wc => ∃ (kq : Nat) (x96_77 : Bool), v96 = .bool x96_77 ∧ Aside0 (Fb.j4 kq x5_2 x6_2 t22 t25 x96_77 s0_0 t26 t27 = some (r1, r2, r3, r4, r5, r6)) ∧ Aside0 (kq ≤ kj56) ∧ Aside0 (wc.heap[g2]? = some (.cells #[.int .i64 0, .int .i64 0, .int .i64 0, .int .i64 0] 75 (0, 0))) ∧ Aside0 (IsS54 w0 wc g s0_0 t26 t27) ∧ Aside0 (KeepBut w wc g none) ∧ Aside0 (Below w0.heap.size w0 wc))
     case first =>
      have H := HC78.out
      clear HC78
      by_cases c79 : t25 = 3
      rotate_left
      ·rw [if_neg c79] at H
       have c79b0 := beq_eq_false_iff_ne.mpr c79
       have c79b1 := bne_iff_ne.mpr c79
       (first | rw [c79b0] | rw [c79b1] | (simp only [gt_iff_lt, Int.natCast_pos]; rw [c79b1]) | (simp only [i64_w, i32_w]; rw [c79b0]) | skip)
       have H' := Aside0.mk H
       clear H
       go_wp2
       go_meet
       case rel => exact ⟨_, ((t25 == 4)), Ey, H', ⟨by have := HJ2.out; have := HJ56.out; first | omega | exact Nat.le_refl _⟩, ⟨ks B2⟩, ⟨by exact IsS54.below HI0.out Ho.Steps.below⟩, ⟨by exact Ho.kS HK.out⟩, ⟨es HB⟩⟩
      rw [if_pos c79] at H
      have c79b0 := beq_iff_eq.mpr c79
      have c79b1 := bne_eq_false_iff_eq.mpr c79
      clear c79
      (first | rw [c79b0] | rw [c79b1] | (simp only [gt_iff_lt, Int.natCast_pos]; rw [c79b1]) | (simp only [i64_w, i32_w]; rw [c79b0]) | skip)
      have H' := Aside0.mk H
      clear H
      go_wp2
      go_meet
      case rel => exact ⟨_, ((t25 == 3)), Ey, H', ⟨by have := HJ2.out; have := HJ56.out; first | omega | exact Nat.le_refl _⟩, ⟨ks B2⟩, ⟨by exact IsS54.below HI0.out Ho.Steps.below⟩, ⟨by exact Ho.kS HK.out⟩, ⟨es HB⟩⟩
     case rest =>
      clear HC78
      try clear c1
      try clear p1
      try clear q1
      try clear hx1
      try clear p2
      try clear c4
      try clear c5
      try clear c6
      try clear p6
      try clear c7
      try clear c9
      try clear c9b0
      try clear c9b1
      try clear c11
      try clear p11
      try clear q11
      try clear hx11
      try clear c12
      try clear c14
      try clear c15
      try clear c42
      try clear c43
      try clear c44
      try clear c45
      try clear c45b0
      try clear c45b1
      try clear c46
      try clear c46b0
      try clear c46b1
      try clear c48
      try clear c49
      try clear c50
      try clear c51
      try clear c63
      try clear c63b0
      try clear c63b1
      try clear c64
      try clear c64b0
      try clear c64b1
      try clear p64
      try clear c65
      try clear c76
      try clear c79
      try clear c79b0
      try clear c79b1
      (try clear hz52)
      (try clear hz77)
      try clear hx15_0
      try clear hx15_1
      try clear hx15_2
      try clear hx16_0
      try clear hx16_1
      try clear hx16_2
      try clear hx17_0
      try clear hx17_1
      try clear hx17_2
      try clear p1
      try clear p11
      try clear p15
      try clear p16
      try clear p17
      try clear p2
      try clear p6
      try clear p64
      try clear q1
      try clear q11
      try clear q15
      try clear q16
      try clear q17
      obtain ⟨kq, x96_77, rfl, HA, HJ77, B2, HI0, HK, HB⟩ := hcut
      cases kq with
      | zero => exact absurd HA.out (by simp [Fb.j4])
      | succ kj77 =>
       have H := HA.out
       clear HA
       simp only [Fb.j4] at H
       by_cases c80 : x96_77 = true
       ·subst c80
        rw [if_pos rfl] at H
        simp only [Option.some.injEq, Prod.mk.injEq] at H
        obtain ⟨rfl, rfl, rfl, rfl, rfl, rfl⟩ := H
        have hnb81 := nP N2_0
        have hz82 := Sq.c4 B2.out
        go_wp2
        refine bodyPost_ret (results_cell_row rfl _ _ g2 75 #[.int .i64 2, .int .i64 x5_2, .int .i64 0, .int .i64 t22] (0, 0) _ rfl (by apply Sq.put4; exact bS B2.out) Tryz.underlying75 rfl (by kernel_rfl)) rfl ?_
        exact ⟨Ez, by repeat (first | (with_reducible first | exact HI0.out | apply IsS54.alloc | apply IsS54.drewN | apply IsS54.drew | apply IsS54.set_1 | apply IsS54.set_2 | refine IsS54.far ?_ N0_2.out _) | exact HI0.out), by repeat (first | (with_reducible first | exact HB.out | apply below_alloc | apply pw_below_drewN | apply below_drew1 | refine below_set ?_ (IsS54.ge HI0.out) | refine below_set ?_ E2.out) | exact HB.out), by repeat (first | (with_reducible first | exact HK.out | apply KeepBut.set_ | apply keep_drewN | apply keep_drew | apply keep_alloc | refine keep_far ?_ G2.out _) | exact HK.out)⟩
       replace c80 := Bool.eq_false_iff.mpr c80
       subst c80
       rw [if_neg (show ¬ (false = true) by decide)] at H
       by_cases c83 : t25 = 5
       ·rw [if_pos c83] at H
        have c83b0 := beq_iff_eq.mpr c83
        have c83b1 := bne_eq_false_iff_eq.mpr c83
        clear c83
        simp only [Option.some.injEq, Prod.mk.injEq] at H
        obtain ⟨rfl, rfl, rfl, rfl, rfl, rfl⟩ := H
        have hnb84 := nP N2_0
        have hz85 := Sq.c4 B2.out
        go_wp2
        refine bodyPost_ret (results_cell_row rfl _ _ g2 75 #[.int .i64 3, .int .i64 x5_2, .int .i64 x6_2, .int .i64 0] (0, 0) _ rfl (by apply Sq.put4; exact bS B2.out) Tryz.underlying75 rfl (by kernel_rfl)) rfl ?_
        exact ⟨Ez, by repeat (first | (with_reducible first | exact HI0.out | apply IsS54.alloc | apply IsS54.drewN | apply IsS54.drew | apply IsS54.set_1 | apply IsS54.set_2 | refine IsS54.far ?_ N0_2.out _) | exact HI0.out), by repeat (first | (with_reducible first | exact HB.out | apply below_alloc | apply pw_below_drewN | apply below_drew1 | refine below_set ?_ (IsS54.ge HI0.out) | refine below_set ?_ E2.out) | exact HB.out), by repeat (first | (with_reducible first | exact HK.out | apply KeepBut.set_ | apply keep_drewN | apply keep_drew | apply keep_alloc | refine keep_far ?_ G2.out _) | exact HK.out)⟩
       rw [if_neg c83] at H
       have c83b0 := beq_eq_false_iff_ne.mpr c83
       have c83b1 := bne_iff_ne.mpr c83
       by_cases c86 : t25 = 6
       ·rw [if_pos c86] at H
        have c86b0 := beq_iff_eq.mpr c86
        have c86b1 := bne_eq_false_iff_eq.mpr c86
        clear c86
        simp only [Option.some.injEq, Prod.mk.injEq] at H
        obtain ⟨rfl, rfl, rfl, rfl, rfl, rfl⟩ := H
        have hnb87 := nP N2_0
        have hz88 := Sq.c4 B2.out
        go_wp2
        refine bodyPost_ret (results_cell_row rfl _ _ g2 75 #[.int .i64 4, .int .i64 x5_2, .int .i64 0, .int .i64 t22] (0, 0) _ rfl (by apply Sq.put4; exact bS B2.out) Tryz.underlying75 rfl (by kernel_rfl)) rfl ?_
        exact ⟨Ez, by repeat (first | (with_reducible first | exact HI0.out | apply IsS54.alloc | apply IsS54.drewN | apply IsS54.drew | apply IsS54.set_1 | apply IsS54.set_2 | refine IsS54.far ?_ N0_2.out _) | exact HI0.out), by repeat (first | (with_reducible first | exact HB.out | apply below_alloc | apply pw_below_drewN | apply below_drew1 | refine below_set ?_ (IsS54.ge HI0.out) | refine below_set ?_ E2.out) | exact HB.out), by repeat (first | (with_reducible first | exact HK.out | apply KeepBut.set_ | apply keep_drewN | apply keep_drew | apply keep_alloc | refine keep_far ?_ G2.out _) | exact HK.out)⟩
       rw [if_neg c86] at H
       have c86b0 := beq_eq_false_iff_ne.mpr c86
       have c86b1 := bne_iff_ne.mpr c86
       by_cases c89 : t25 = 7
       ·rw [if_pos c89] at H
        have c89b0 := beq_iff_eq.mpr c89
        have c89b1 := bne_eq_false_iff_eq.mpr c89
        clear c89
        simp only [Option.some.injEq, Prod.mk.injEq] at H
        obtain ⟨rfl, rfl, rfl, rfl, rfl, rfl⟩ := H
        have hnb90 := nP N2_0
        have hz91 := Sq.c4 B2.out
        go_wp2
        refine bodyPost_ret (results_cell_row rfl _ _ g2 75 #[.int .i64 5, .int .i64 x5_2, .int .i64 0, .int .i64 t22] (0, 0) _ rfl (by apply Sq.put4; exact bS B2.out) Tryz.underlying75 rfl (by kernel_rfl)) rfl ?_
        exact ⟨Ez, by repeat (first | (with_reducible first | exact HI0.out | apply IsS54.alloc | apply IsS54.drewN | apply IsS54.drew | apply IsS54.set_1 | apply IsS54.set_2 | refine IsS54.far ?_ N0_2.out _) | exact HI0.out), by repeat (first | (with_reducible first | exact HB.out | apply below_alloc | apply pw_below_drewN | apply below_drew1 | refine below_set ?_ (IsS54.ge HI0.out) | refine below_set ?_ E2.out) | exact HB.out), by repeat (first | (with_reducible first | exact HK.out | apply KeepBut.set_ | apply keep_drewN | apply keep_drew | apply keep_alloc | refine keep_far ?_ G2.out _) | exact HK.out)⟩
       rw [if_neg c89] at H
       have c89b0 := beq_eq_false_iff_ne.mpr c89
       have c89b1 := bne_iff_ne.mpr c89
       obtain ⟨y40, hy40⟩ : ∃ y_ : List Int, y_ = (([0, 6, 2] : List Int)) := ⟨_, rfl⟩
       replace H : ((Fm.f s0_0 t26 t27 y40).bind fun bt143 => ((Fm.f s0_0 bt143.2.1 bt143.2.2 (([(-1), 0, x5_2] : List Int))).bind fun bt149 => ((Fm.f s0_0 bt149.2.1 bt149.2.2 (([(-1), 0, 5] : List Int))).bind fun bt155 => (some (bt143.1, bt149.1, 0, bt155.1, bt155.2.1, bt155.2.2))))) = some (r1, r2, r3, r4, r5, r6) := by first | (rw [hy40]; with_reducible exact H) | (have H2_ := (Option.bind_some _ _).symm.trans H; rw [hy40]; with_reducible exact H2_) | (have H2_ := (Option.bind_some _ _).symm.trans H; with_reducible exact H2_) | with_reducible exact H | (rw [hy40]; exact H) | exact H
       have Ny40 := Aside0.mk hy40
       clear hy40
       obtain ⟨⟨t43, t44, t45⟩, A92, H⟩ := bn H
       (try dsimp only at H)
       obtain ⟨y46, hy46⟩ : ∃ y_ : List Int, y_ = (([(-1), 0, x5_2] : List Int)) := ⟨_, rfl⟩
       replace H : ((Fm.f s0_0 t44 t45 y46).bind fun bt149 => ((Fm.f s0_0 bt149.2.1 bt149.2.2 (([(-1), 0, 5] : List Int))).bind fun bt155 => (some (t43, bt149.1, 0, bt155.1, bt155.2.1, bt155.2.2)))) = some (r1, r2, r3, r4, r5, r6) := by first | (rw [hy46]; with_reducible exact H) | (have H2_ := (Option.bind_some _ _).symm.trans H; rw [hy46]; with_reducible exact H2_) | (have H2_ := (Option.bind_some _ _).symm.trans H; with_reducible exact H2_) | with_reducible exact H | (rw [hy46]; exact H) | exact H
       have Ny46 := Aside0.mk hy46
       clear hy46
       obtain ⟨⟨t49, t50, t51⟩, A93, H⟩ := bn H
       (try dsimp only at H)
       obtain ⟨y52, hy52⟩ : ∃ y_ : List Int, y_ = (([(-1), 0, 5] : List Int)) := ⟨_, rfl⟩
       replace H : ((Fm.f s0_0 t50 t51 y52).bind fun bt155 => (some (t43, t49, 0, bt155.1, bt155.2.1, bt155.2.2))) = some (r1, r2, r3, r4, r5, r6) := by first | (rw [hy52]; with_reducible exact H) | (have H2_ := (Option.bind_some _ _).symm.trans H; rw [hy52]; with_reducible exact H2_) | (have H2_ := (Option.bind_some _ _).symm.trans H; with_reducible exact H2_) | with_reducible exact H | (rw [hy52]; exact H) | exact H
       have Ny52 := Aside0.mk hy52
       clear hy52
       obtain ⟨⟨t55, t56, t57⟩, A94, H⟩ := bn H
       (try dsimp only at H)
       simp only [Option.some.injEq, Prod.mk.injEq] at H
       obtain ⟨rfl, rfl, rfl, rfl, rfl, rfl⟩ := H
       go_wp2_with (first | ((with_reducible refine gate_dst (N := 118) rfl ?_); refine Kd.R_lit (Kd.int .i64) _ 3 ?hg (N := 118) ?hd (xs := ([0, 6, 2] : List Int)) (inner := [.int .i64 0, .int .i64 6, .int .i64 2]) (ok := fun _ => True) (okp := fun _ => True) ?hr ?hp (fun _ hk => hk) trivial (Below.refl _ _) (Nat.le_refl _) (by simp) ?_; (case hd => rfl); (case hg => rfl); (case hr => first | (go_simp; done) | (go_simp; rfl)); (case hp => exact Rz); intro v41 w95 ho96 hb hg_ hnew_; clear hg_ hnew_; (first | rw [← Ny40.out] at ho96 | (simp only [Int.reduceToNat] at ho96; rw [← Ny40.out] at ho96)); have R42 := Ak (Kd.R_lower ho96 (keep_size (w := w) (g := g) (row := none) (by exact Ho.kS HK.out))); replace B2 := kT B2 hb; replace HI0 := Ak (IsS54.below (by exact IsS54.below HI0.out Ho.Steps.below) hb); replace HK := hT HK hb; replace HB := bT HB hb; clear hb ho96; obtain ⟨Ao97, co97, eo97⟩ := Kd.R_slice R42.out; subst eo97) | (refine cE (some 119) Tryz.func49 #[.pointer (some ⟨g, 0, none⟩), .slice Ao97 y40.length co97] ?_; (with_reducible refine (Fm.calls g s0_0 t26 t27 _ _ y40 t43 t44 t45 w0 _ ?side1 ?side2 ?side3 ?side4 ?side5 A92.out).mono ?_); (case side1 => exact IsS54.below HI0.out Ho.Steps.below); (case side2 => exact eS HB.out); (case side3 => exact Cs (Kd.R_reads' R42.out).2.2); (case side4 => exact (Kd.R_reads' R42.out).2.1); (case side5 => exact far_slice (IsS54.own_ne HI0.out R42.out (by decide))); rintro e w98 ⟨rfl, hi, hb, hk⟩; refine ⟨_, rfl, ?_⟩; replace B2 := kK B2 hk N2_0; replace R42 := Ak (Kd.R_mono (Kd.R_keep (IsS54.apart (show IsS54 w0 _ g s0_0 t26 t27 from by exact IsS54.below HI0.out Ho.Steps.below) (by exact Ho.RS <| R42.out) (by decide)) hk (fun _ h => h.2)) (fun _ h => h.1)); replace HK := hU HK hk; replace HB := Ak hb; replace HI0 := Ak hi; clear hb hk hi) | ((with_reducible refine gate_dst (N := 122) rfl ?_); refine Kd.R_lit (Kd.int .i64) _ 3 ?hg (N := 122) ?hd (xs := ([(-1), 0, x5_2] : List Int)) (inner := [.int .i64 (-1), .int .i64 0, .int .i64 x5_2]) (ok := fun _ => True) (okp := fun _ => True) ?hr ?hp (fun _ hk => hk) trivial (Below.refl _ _) (Nat.le_refl _) (by simp) ?_; (case hd => rfl); (case hg => rfl); (case hr => first | (go_simp; done) | (go_simp; rfl)); (case hp => exact Rz); intro v47 w99 ho100 hb hg_ hnew_; clear hg_ hnew_; (first | rw [← Ny46.out] at ho100 | (simp only [Int.reduceToNat] at ho100; rw [← Ny46.out] at ho100)); have R48 := Ak (Kd.R_lower (Kd.R_new' ho100 (Kd.R_lt (by exact Ho.RS <| R42.out))) (keep_size (w := w) (g := g) (row := none) (by exact Ho.kS HK.out))); replace R42 := el R42 ho100 hb; replace B2 := kT B2 hb; replace HI0 := Ak (IsS54.below (by exact IsS54.below HI0.out Ho.Steps.below) hb); replace HK := hT HK hb; replace HB := bT HB hb; clear hb ho100; obtain ⟨Ao1, co1, eo1⟩ := Kd.R_slice R48.out; subst eo1) | (refine cE (some 123) Tryz.func49 #[.pointer (some ⟨g, 0, none⟩), .slice Ao1 y46.length co1] ?_; (with_reducible refine (Fm.calls g s0_0 t44 t45 _ _ y46 t49 t50 t51 w0 _ ?side1 ?side2 ?side3 ?side4 ?side5 A93.out).mono ?_); (case side1 => exact IsS54.below HI0.out Ho.Steps.below); (case side2 => exact eS HB.out); (case side3 => exact Cs (Kd.R_reads' R48.out).2.2); (case side4 => exact (Kd.R_reads' R48.out).2.1); (case side5 => exact far_slice (IsS54.own_ne HI0.out R48.out (by decide))); rintro e w102 ⟨rfl, hi, hb, hk⟩; refine ⟨_, rfl, ?_⟩; replace B2 := kK B2 hk N2_0; replace R42 := Ak (Kd.R_mono (Kd.R_keep (IsS54.apart (show IsS54 w0 _ g s0_0 t44 t45 from by exact IsS54.below HI0.out Ho.Steps.below) (by exact Ho.RS <| R42.out) (by decide)) hk (fun _ h => h.2)) (fun _ h => h.1)); replace R48 := Ak (Kd.R_mono (Kd.R_keep (IsS54.apart (show IsS54 w0 _ g s0_0 t44 t45 from by exact IsS54.below HI0.out Ho.Steps.below) (by exact Ho.RS <| R48.out) (by decide)) hk (fun _ h => h.2)) (fun _ h => h.1)); replace HK := hU HK hk; replace HB := Ak hb; replace HI0 := Ak hi; clear hb hk hi) | ((with_reducible refine gate_dst (N := 125) rfl ?_); refine Kd.R_lit (Kd.int .i64) _ 3 ?hg (N := 125) ?hd (xs := ([(-1), 0, 5] : List Int)) (inner := [.int .i64 (-1), .int .i64 0, .int .i64 5]) (ok := fun _ => True) (okp := fun _ => True) ?hr ?hp (fun _ hk => hk) trivial (Below.refl _ _) (Nat.le_refl _) (by simp) ?_; (case hd => rfl); (case hg => rfl); (case hr => first | (go_simp; done) | (go_simp; rfl)); (case hp => exact Rz); intro v53 w103 ho104 hb hg_ hnew_; clear hg_ hnew_; (first | rw [← Ny52.out] at ho104 | (simp only [Int.reduceToNat] at ho104; rw [← Ny52.out] at ho104)); have R54 := Ak (Kd.R_lower (Kd.R_new' (Kd.R_new' ho104 (Kd.R_lt (by exact Ho.RS <| R42.out))) (Kd.R_lt (by exact Ho.RS <| R48.out))) (keep_size (w := w) (g := g) (row := none) (by exact Ho.kS HK.out))); replace R42 := el R42 ho104 hb; replace R48 := el R48 ho104 hb; replace B2 := kT B2 hb; replace HI0 := Ak (IsS54.below (by exact IsS54.below HI0.out Ho.Steps.below) hb); replace HK := hT HK hb; replace HB := bT HB hb; clear hb ho104; obtain ⟨Ao5, co5, eo5⟩ := Kd.R_slice R54.out; subst eo5) | (refine cE (some 126) Tryz.func49 #[.pointer (some ⟨g, 0, none⟩), .slice Ao5 y52.length co5] ?_; (with_reducible refine (Fm.calls g s0_0 t50 t51 _ _ y52 t55 t56 t57 w0 _ ?side1 ?side2 ?side3 ?side4 ?side5 A94.out).mono ?_); (case side1 => exact IsS54.below HI0.out Ho.Steps.below); (case side2 => exact eS HB.out); (case side3 => exact Cs (Kd.R_reads' R54.out).2.2); (case side4 => exact (Kd.R_reads' R54.out).2.1); (case side5 => exact far_slice (IsS54.own_ne HI0.out R54.out (by decide))); rintro e w106 ⟨rfl, hi, hb, hk⟩; refine ⟨_, rfl, ?_⟩; replace B2 := kK B2 hk N2_0; replace R42 := Ak (Kd.R_mono (Kd.R_keep (IsS54.apart (show IsS54 w0 _ g s0_0 t50 t51 from by exact IsS54.below HI0.out Ho.Steps.below) (by exact Ho.RS <| R42.out) (by decide)) hk (fun _ h => h.2)) (fun _ h => h.1)); replace R48 := Ak (Kd.R_mono (Kd.R_keep (IsS54.apart (show IsS54 w0 _ g s0_0 t50 t51 from by exact IsS54.below HI0.out Ho.Steps.below) (by exact Ho.RS <| R48.out) (by decide)) hk (fun _ h => h.2)) (fun _ h => h.1)); replace R54 := Ak (Kd.R_mono (Kd.R_keep (IsS54.apart (show IsS54 w0 _ g s0_0 t50 t51 from by exact IsS54.below HI0.out Ho.Steps.below) (by exact Ho.RS <| R54.out) (by decide)) hk (fun _ h => h.2)) (fun _ h => h.1)); replace HK := hU HK hk; replace HB := Ak hb; replace HI0 := Ak hi; clear hb hk hi; have n7 := nP N2_0; have z8 := Sq.c4 B2.out))
       refine bodyPost_ret (results_cell_row rfl _ _ g2 75 #[.int .i64 t43, .int .i64 t49, .int .i64 0, .int .i64 t55] (0, 0) _ rfl (by apply Sq.put4; exact bS B2.out) Tryz.underlying75 rfl (by kernel_rfl)) rfl ?_
       exact ⟨Ez, by repeat (first | (with_reducible first | exact HI0.out | apply IsS54.alloc | apply IsS54.drewN | apply IsS54.drew | apply IsS54.set_1 | apply IsS54.set_2 | refine IsS54.far ?_ N0_2.out _) | exact HI0.out), by repeat (first | (with_reducible first | exact HB.out | apply below_alloc | apply pw_below_drewN | apply below_drew1 | refine below_set ?_ (IsS54.ge HI0.out) | refine below_set ?_ E2.out) | exact HB.out), by repeat (first | (with_reducible first | exact HK.out | apply KeepBut.set_ | apply keep_drewN | apply keep_drew | apply keep_alloc | refine keep_far ?_ G2.out _) | exact HK.out)⟩
end
end Go.Proofs.YtiomfignokichaaGreatDoor.X
