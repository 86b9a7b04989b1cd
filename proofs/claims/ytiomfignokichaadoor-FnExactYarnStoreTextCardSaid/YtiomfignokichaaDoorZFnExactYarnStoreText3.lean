/- What the law FnExactYarnStoreText needs, part 4 of 4: what each function of the program that it reaches returns (printed by this session's own program, checked by Lean), and plain mathematics about it. Conditions: those of each theorem. -/
import Derived.Test.YtiomfignokichaaDoorZFnExactYarnStoreText2
import Derived.Lib.SmallJoins
import Derived.Test.YtiomfignokichaaDoorYG
-- XspecYarnStoreTextF5
namespace Go.Proofs.YtiomfignokichaaDoor.X
open Ho (bS eS)
open Go.RowKit Go.Proofs.YtiomfignokichaaDoorW.PrintWords Go.Proofs.YtiomfignokichaaDoorW.PrintLast Go.Proofs.YtiomfignokichaaDoorW.PrintMore
attribute [local go_sem] max2_int min2_int max_two min_two max_three min_three max_four min_four   -- for this text's walks alone
set_option linter.unusedVariables false
set_option linter.unusedSimpArgs false

open Sq (I O Z)
attribute [local go_sem ↓] Ho.isSome_setCell_   -- a store leaves all places there
/-! ### spec_YarnStoreText: function 5 -/
def spec_YarnStoreText.l0 : Nat → ByteArray → Int → List (S37) → Int → Int → Int → Int → Option (ByteArray × Bool)
  | 0, _, _, _, _, _, _, _ => none
  | k + 1, x4, x5, x102000, x102001, x102002, x102003, x102004 => if x5 < (x102000.length : Int) then (if 0 ≤ x5 then (if x5 > 0 then (if x4.size + 1 ≤ 9223372036854775807 then ((spec_l1Num.f k ((rd_T37 x102000 x5).f0)).bind fun t105 => (if (x4 ++ (⟨#[32]⟩ : ByteArray)).size + t105.size ≤ 9223372036854775807 then ((some (([(wrap64 (97 + ((rd_T37 x102000 x5).f1))) % 256] : List Int) : List Int)).bind fun y106 => (if ((x4 ++ (⟨#[32]⟩ : ByteArray)) ++ t105).size + (strOfNums y106).size ≤ 9223372036854775807 then ((spec_l1Num.f k ((rd_T37 x102000 x5).f2)).bind fun t109 => (if (((x4 ++ (⟨#[32]⟩ : ByteArray)) ++ t105) ++ (strOfNums y106)).size + t109.size ≤ 9223372036854775807 then (spec_YarnStoreText.l0 k ((((x4 ++ (⟨#[32]⟩ : ByteArray)) ++ t105) ++ (strOfNums y106)) ++ t109) (wrap64 (x5 + 1)) x102000 x102001 x102002 x102003 x102004) else (none))) else (none))) else (none))) else (none)) else ((spec_l1Num.f k ((rd_T37 x102000 x5).f0)).bind fun t110 => (if x4.size + t110.size ≤ 9223372036854775807 then ((some (([(wrap64 (97 + ((rd_T37 x102000 x5).f1))) % 256] : List Int) : List Int)).bind fun y111 => (if (x4 ++ t110).size + (strOfNums y111).size ≤ 9223372036854775807 then ((spec_l1Num.f k ((rd_T37 x102000 x5).f2)).bind fun t114 => (if ((x4 ++ t110) ++ (strOfNums y111)).size + t114.size ≤ 9223372036854775807 then (spec_YarnStoreText.l0 k (((x4 ++ t110) ++ (strOfNums y111)) ++ t114) (wrap64 (x5 + 1)) x102000 x102001 x102002 x102003 x102004) else (none))) else (none))) else (none)))) else (none)) else (some (x4, true))
def spec_YarnStoreText.f (k : Nat) (l0_0 : List (S37)) (a0_1 : Int) (a0_2 : Int) (a0_3 : Int) (a0_4 : Int) : Option (ByteArray × Bool) := (spec_l21Good.f k l0_0 a0_1 a0_2 a0_3 a0_4).bind fun t102 => (if t102 = true then (if (l0_0.length : Int) = 0 then (some ((⟨#[101, 109, 112, 116, 121]⟩ : ByteArray), true)) else (spec_YarnStoreText.l0 k (⟨#[]⟩ : ByteArray) 0 l0_0 a0_1 a0_2 a0_3 a0_4)) else (some ((⟨#[]⟩ : ByteArray), false)))
theorem spec_YarnStoreText.mono_l : ∀ k, (∀ y0 y1 y2 y3 y4 y5 y6, LeO (spec_YarnStoreText.l0 k y0 y1 y2 y3 y4 y5 y6) (spec_YarnStoreText.l0 (k + 1) y0 y1 y2 y3 y4 y5 y6))
  | 0 => fun _ _ _ _ _ _ _ r h => by simp [spec_YarnStoreText.l0] at h
  | k + 1 => by
    have ih0 := spec_YarnStoreText.mono_l k
    · intro y0 y1 y2 y3 y4 y5 y6
      unfold spec_YarnStoreText.l0
      repeat' first
      | (with_reducible exact ih0 _ _ _ _ _ _ _)
      | (with_reducible exact spec_l1Num.mono _ _)
      | (with_reducible exact spec_l21Good.mono _ _ _ _ _ _)
      | (with_reducible exact LeO.refl _)
      | (with_reducible exact LeO.none _)
      | (with_reducible refine LeO.ite ?_ ?_)
      | (with_reducible refine LeO.bind ?_ (fun _ => ?_))
      | exact ih0 _ _ _ _ _ _ _
      | exact spec_l1Num.mono _ _
      | exact spec_l21Good.mono _ _ _ _ _ _
      | exact LeO.none _
      | refine LeO.ite ?_ ?_
      | refine LeO.bind ?_ (fun _ => ?_)
theorem spec_YarnStoreText.mono : ∀ a0 a1 a2 a3 a4 k, LeO (spec_YarnStoreText.f k a0 a1 a2 a3 a4) (spec_YarnStoreText.f (k + 1) a0 a1 a2 a3 a4) := by
  intro a0 a1 a2 a3 a4 k
  have ih0 := spec_YarnStoreText.mono_l k
  unfold spec_YarnStoreText.f
  repeat' first
      | (with_reducible exact ih0 _ _ _ _ _ _ _)
      | (with_reducible exact spec_l1Num.mono _ _)
      | (with_reducible exact spec_l21Good.mono _ _ _ _ _ _)
      | (with_reducible exact LeO.refl _)
      | (with_reducible exact LeO.none _)
      | (with_reducible refine LeO.ite ?_ ?_)
      | (with_reducible refine LeO.bind ?_ (fun _ => ?_))
      | exact ih0 _ _ _ _ _ _ _
      | exact spec_l1Num.mono _ _
      | exact spec_l21Good.mono _ _ _ _ _ _
      | exact LeO.none _
      | refine LeO.ite ?_ ?_
      | refine LeO.bind ?_ (fun _ => ?_)
def spec_YarnStoreText.T12 : Bool × List (List Nat × List Nat) := (true, [([], []), ([], []), ([1], [1]), ([2], [2]), ([0, 3], [0, 3]), ([], []), ([5], [5]), ([6], [6]), ([7], [7]), ([8], [8]), ([9], [9]), ([4, 10], [4, 10]), ([], []), ([12], [12]), ([13, 3], [13]), ([11, 14], [11, 14]), ([15, 14, 0, 1, 2, 3, 4, 5, 6, 7, 8, 9, 10, 11, 12, 13, 14, 15], [0, 15])])
def spec_YarnStoreText.B12 : List Nat := [0, 0, 2, 6, 15, 0, 32, 96, 224, 480, 992, 2047, 0, 4096, 12302, 32767, 65535]
theorem spec_YarnStoreText.tab12 : rtab .any (opsOf Tryd.f5 12) = spec_YarnStoreText.T12 := by kernel_rfl
theorem spec_YarnStoreText.bits12 : waitsOk spec_YarnStoreText.T12.2 spec_YarnStoreText.B12 = true := by kernel_rfl
set_option maxHeartbeats 8000000 in
set_option maxRecDepth 100000 in
theorem spec_YarnStoreText.calls (k : Nat) (A0_0 : Option Addr) (c0_0 : Nat) (l0_0 : List (S37)) (a0_1 : Int) (a0_2 : Int) (a0_3 : Int) (a0_4 : Int) (r1 : ByteArray) (r2 : Bool) (w : World) (hr0_0 : Kd.C k37 w A0_0 l0_0.length l0_0) (hc0_0 : l0_0.length ≤ c0_0) (h : spec_YarnStoreText.f k l0_0 a0_1 a0_2 a0_3 a0_4 = some (r1, r2)) :
  Calls Tryd.prog 5 #[.agg #[.slice A0_0 l0_0.length c0_0, .int .i64 a0_1, .int .i64 a0_2, .int .i64 a0_3, .int .i64 a0_4]] w fun e w' => e = .returned (.tuple #[.string r1, .bool r2]) ∧ Below w.heap.size w w' := by
 have hu30 := Tryd.underlying30
 have hu37 := Tryd.underlying37
 have HR0_0 := Aside0.mk hr0_0
 have HC0_0 := Aside0.mk hc0_0
 clear hr0_0 hc0_0
 have HB := Aside0.mk (Below.refl w.heap.size w)
 have H : ((spec_l21Good.f k l0_0 a0_1 a0_2 a0_3 a0_4).bind fun t102 => (if t102 = true then (if (l0_0.length : Int) = 0 then (some ((⟨#[101, 109, 112, 116, 121]⟩ : ByteArray), true)) else (spec_YarnStoreText.l0 k (⟨#[]⟩ : ByteArray) 0 l0_0 a0_1 a0_2 a0_3 a0_4)) else (some ((⟨#[]⟩ : ByteArray), false)))) = some (r1, r2) := h
 clear h
 replace H := Option.bind_eq_some_iff.mp H
 obtain ⟨t102, A20, H⟩ := H
 replace H : (if t102 = true then (if (l0_0.length : Int) = 0 then (some ((⟨#[101, 109, 112, 116, 121]⟩ : ByteArray), true)) else (spec_YarnStoreText.l0 k (⟨#[]⟩ : ByteArray) 0 l0_0 a0_1 a0_2 a0_3 a0_4)) else (some ((⟨#[]⟩ : ByteArray), false))) = some (r1, r2) := H
 have A2 := Aside0.mk A20
 clear A20
 by_cases c3 : t102 = true
 ·subst c3
  have H1 : (if (l0_0.length : Int) = 0 then (some ((⟨#[101, 109, 112, 116, 121]⟩ : ByteArray), true)) else (spec_YarnStoreText.l0 k (⟨#[]⟩ : ByteArray) 0 l0_0 a0_1 a0_2 a0_3 a0_4)) = some (r1, r2) := by rw [if_pos rfl] at H; exact H
  clear H
  have H := H1
  clear H1
  by_cases c4 : (l0_0.length : Int) = 0
  ·rw [if_pos c4] at H
   have c4b0 : ((l0_0.length : Int) == 0) = true := beq_iff_eq.mpr c4
   have c4b1 : ((l0_0.length : Int) != 0) = false := bne_eq_false_iff_eq.mpr c4
   clear c4
   simp only [Option.some.injEq, Prod.mk.injEq] at H
   obtain ⟨rfl, rfl⟩ := H
   go_enter Tryd.func5, Tryd.ntmps5
   go_wp2_with (first | ((with_reducible refine gate_dst (N := 1) rfl ?_); refine box_event ?hg (N := 1) ?hd (cs := #[.slice A0_0 l0_0.length c0_0, .int .i64 a0_1, .int .i64 a0_2, .int .i64 a0_3, .int .i64 a0_4]) (t := 30) ?hr ?_; (case hd => rfl); (case hg => rfl); (case hr => first | (go_simp; done) | (go_simp; rfl)); intro gb101 hg w5 hbox hb; have n0_ := Aside0.mk (below_step (by exact eS HB.out) hb); have n1_ := Aside0.mk (hbox); have n2_ := Aside0.mk ((by rw [hg]; exact (below_size (by exact eS HB.out)) : w.heap.size ≤ gb101)); have n3_ := Aside0.mk ((by rw [hg]; exact (below_size (by exact eS HB.out)) : w.heap.size ≤ gb101)); clear HB; have HB := n0_; have BK101 := n1_; have GW101 := n2_; have GE101 := n3_; clear n0_ n1_ n2_ n3_; clear hb hbox hg; have hcz6_0 : w5.cell? ⟨gb101, 0, none⟩ = some (.slice A0_0 l0_0.length c0_0) := (blk_cell BK101.out 0).trans rfl; have hcz6_1 : w5.cell? ⟨gb101, 1, none⟩ = some (.int .i64 a0_1) := (blk_cell BK101.out 1).trans rfl; have hcz6_2 : w5.cell? ⟨gb101, 2, none⟩ = some (.int .i64 a0_2) := (blk_cell BK101.out 2).trans rfl; have hcz6_3 : w5.cell? ⟨gb101, 3, none⟩ = some (.int .i64 a0_3) := (blk_cell BK101.out 3).trans rfl; have hcz6_4 : w5.cell? ⟨gb101, 4, none⟩ = some (.int .i64 a0_4) := (blk_cell BK101.out 4).trans rfl; have hfz6_0 := blk_frozen BK101.out 0; have hfz6_1 := blk_frozen BK101.out 1; have hfz6_2 := blk_frozen BK101.out 2; have hfz6_3 := blk_frozen BK101.out 3; have hfz6_4 := blk_frozen BK101.out 4) | ((with_reducible refine gate_callee (f := 10) rfl ?_); refine goesL_ (some 8) rfl rfl Tryd.func10 (by kernel_rfl) rfl #[.agg #[.slice A0_0 l0_0.length c0_0, .int .i64 a0_1, .int .i64 a0_2, .int .i64 a0_3, .int .i64 a0_4]] rfl (by (try simp only [List.map_toArray, List.map_cons, List.map_nil]); first | done | rfl | (simp only [List.length_drop, List.length_take]; rfl)) ?_; (with_reducible refine (spec_l21Good.calls k _ _ l0_0 a0_1 a0_2 a0_3 a0_4 true _ ?side1 ?side2 A2.out).mono ?_); (case side1 => repeat (first | exact (Kd.C_below HR0_0.out HB.out) | (with_reducible refine Kd.C_alloc ?_ _) | (with_reducible refine Kd.C_drewN ?_ _) | (with_reducible refine Kd.C_drew ?_))); (case side2 => exact HC0_0.out); rintro e w7 ⟨rfl, hb⟩; refine ⟨_, rfl, ?_⟩; have n0_ := Aside0.mk (blk_below (bS BK101.out) hb); have n1_ := Aside0.mk (below_step (by exact eS HB.out) hb); clear BK101; clear HB; have BK101 := n0_; have HB := n1_; clear n0_ n1_; (try clear hb); (try clear hb2); (try clear hk); (try clear hi); have hcz8_0 : w7.cell? ⟨gb101, 0, none⟩ = some (.slice A0_0 l0_0.length c0_0) := (blk_cell BK101.out 0).trans rfl; have hcz8_1 : w7.cell? ⟨gb101, 1, none⟩ = some (.int .i64 a0_1) := (blk_cell BK101.out 1).trans rfl; have hcz8_2 : w7.cell? ⟨gb101, 2, none⟩ = some (.int .i64 a0_2) := (blk_cell BK101.out 2).trans rfl; have hcz8_3 : w7.cell? ⟨gb101, 3, none⟩ = some (.int .i64 a0_3) := (blk_cell BK101.out 3).trans rfl; have hcz8_4 : w7.cell? ⟨gb101, 4, none⟩ = some (.int .i64 a0_4) := (blk_cell BK101.out 4).trans rfl; have hfz8_0 := blk_frozen BK101.out 0; have hfz8_1 := blk_frozen BK101.out 1; have hfz8_2 := blk_frozen BK101.out 2; have hfz8_3 := blk_frozen BK101.out 3; have hfz8_4 := blk_frozen BK101.out 4))
   go_ret2
   exact ⟨by first | rfl | (simp [errW_none, errW_some] <;> rfl) | (simp [*, errW_none, errW_some] <;> rfl), by exact eS HB.out⟩
  ·rw [if_neg c4] at H
   have c4b0 : ((l0_0.length : Int) == 0) = false := beq_eq_false_iff_ne.mpr c4
   have c4b1 : ((l0_0.length : Int) != 0) = true := bne_iff_ne.mpr c4
   have c4b2 : ¬ (l0_0 = []) := fun h_ => c4 (by rw [h_]; rfl)
   have H' := Aside0.mk H
   clear H
   go_enter Tryd.func5, Tryd.ntmps5
   go_wp2_with (first | ((with_reducible refine gate_dst (N := 1) rfl ?_); refine box_event ?hg (N := 1) ?hd (cs := #[.slice A0_0 l0_0.length c0_0, .int .i64 a0_1, .int .i64 a0_2, .int .i64 a0_3, .int .i64 a0_4]) (t := 30) ?hr ?_; (case hd => rfl); (case hg => rfl); (case hr => first | (go_simp; done) | (go_simp; rfl)); intro gb101 hg w9 hbox hb; have n0_ := Aside0.mk (below_step (by exact eS HB.out) hb); have n1_ := Aside0.mk (hbox); have n2_ := Aside0.mk ((by rw [hg]; exact (below_size (by exact eS HB.out)) : w.heap.size ≤ gb101)); have n3_ := Aside0.mk ((by rw [hg]; exact (below_size (by exact eS HB.out)) : w.heap.size ≤ gb101)); clear HB; have HB := n0_; have BK101 := n1_; have GW101 := n2_; have GE101 := n3_; clear n0_ n1_ n2_ n3_; clear hb hbox hg; have hcz10_0 : w9.cell? ⟨gb101, 0, none⟩ = some (.slice A0_0 l0_0.length c0_0) := (blk_cell BK101.out 0).trans rfl; have hcz10_1 : w9.cell? ⟨gb101, 1, none⟩ = some (.int .i64 a0_1) := (blk_cell BK101.out 1).trans rfl; have hcz10_2 : w9.cell? ⟨gb101, 2, none⟩ = some (.int .i64 a0_2) := (blk_cell BK101.out 2).trans rfl; have hcz10_3 : w9.cell? ⟨gb101, 3, none⟩ = some (.int .i64 a0_3) := (blk_cell BK101.out 3).trans rfl; have hcz10_4 : w9.cell? ⟨gb101, 4, none⟩ = some (.int .i64 a0_4) := (blk_cell BK101.out 4).trans rfl; have hfz10_0 := blk_frozen BK101.out 0; have hfz10_1 := blk_frozen BK101.out 1; have hfz10_2 := blk_frozen BK101.out 2; have hfz10_3 := blk_frozen BK101.out 3; have hfz10_4 := blk_frozen BK101.out 4) | ((with_reducible refine gate_callee (f := 10) rfl ?_); refine goesL_ (some 8) rfl rfl Tryd.func10 (by kernel_rfl) rfl #[.agg #[.slice A0_0 l0_0.length c0_0, .int .i64 a0_1, .int .i64 a0_2, .int .i64 a0_3, .int .i64 a0_4]] rfl (by (try simp only [List.map_toArray, List.map_cons, List.map_nil]); first | done | rfl | (simp only [List.length_drop, List.length_take]; rfl)) ?_; (with_reducible refine (spec_l21Good.calls k _ _ l0_0 a0_1 a0_2 a0_3 a0_4 true _ ?side1 ?side2 A2.out).mono ?_); (case side1 => repeat (first | exact (Kd.C_below HR0_0.out HB.out) | (with_reducible refine Kd.C_alloc ?_ _) | (with_reducible refine Kd.C_drewN ?_ _) | (with_reducible refine Kd.C_drew ?_))); (case side2 => exact HC0_0.out); rintro e w11 ⟨rfl, hb⟩; refine ⟨_, rfl, ?_⟩; have n0_ := Aside0.mk (blk_below (bS BK101.out) hb); have n1_ := Aside0.mk (below_step (by exact eS HB.out) hb); clear BK101; clear HB; have BK101 := n0_; have HB := n1_; clear n0_ n1_; (try clear hb); (try clear hb2); (try clear hk); (try clear hi); have hcz12_0 : w11.cell? ⟨gb101, 0, none⟩ = some (.slice A0_0 l0_0.length c0_0) := (blk_cell BK101.out 0).trans rfl; have hcz12_1 : w11.cell? ⟨gb101, 1, none⟩ = some (.int .i64 a0_1) := (blk_cell BK101.out 1).trans rfl; have hcz12_2 : w11.cell? ⟨gb101, 2, none⟩ = some (.int .i64 a0_2) := (blk_cell BK101.out 2).trans rfl; have hcz12_3 : w11.cell? ⟨gb101, 3, none⟩ = some (.int .i64 a0_3) := (blk_cell BK101.out 3).trans rfl; have hcz12_4 : w11.cell? ⟨gb101, 4, none⟩ = some (.int .i64 a0_4) := (blk_cell BK101.out 4).trans rfl; have hfz12_0 := blk_frozen BK101.out 0; have hfz12_1 := blk_frozen BK101.out 1; have hfz12_2 := blk_frozen BK101.out 2; have hfz12_3 := blk_frozen BK101.out 3; have hfz12_4 := blk_frozen BK101.out 4))
   go_loopg [4, 5] k (fun kq v4 v5 w' => ∃ (x4_1 : ByteArray) (x5_1 : Int), v4 = .string x4_1 ∧ v5 = .int .i64 x5_1 ∧ Aside0 (spec_YarnStoreText.l0 kq x4_1 x5_1 l0_0 a0_1 a0_2 a0_3 a0_4 = some (r1, r2)) ∧ Aside0 (kq ≤ k) ∧ Aside0 (w'.heap[gb101]? = some (.cells #[(.slice A0_0 l0_0.length c0_0), .int .i64 a0_1, .int .i64 a0_2, .int .i64 a0_3, .int .i64 a0_4] 30 (0, 0))) ∧ Aside0 (Below w.heap.size w w'))
   case atStart => exact ⟨((⟨#[]⟩ : ByteArray)), (0), (by first | rfl | (simp; done) | (simp [*]; done)), (by first | rfl | (simp; done) | (simp [*]; done)), H', ⟨Nat.le_refl _⟩, ⟨by exact bS BK101.out⟩, ⟨by exact eS HB.out⟩⟩
   case round =>
    clear H'
    try clear c1
    try clear p2
    try clear c3
    try clear c4
    try clear c4b0
    try clear c4b1
    try clear c4b2
    try clear c5
    try clear c10
    try clear hcz10_0
    try clear hcz10_1
    try clear hcz10_2
    try clear hcz10_3
    try clear hcz10_4
    try clear hcz12_0
    try clear hcz12_1
    try clear hcz12_2
    try clear hcz12_3
    try clear hcz12_4
    try clear hcz6_0
    try clear hcz6_1
    try clear hcz6_2
    try clear hcz6_3
    try clear hcz6_4
    try clear hcz8_0
    try clear hcz8_1
    try clear hcz8_2
    try clear hcz8_3
    try clear hcz8_4
    try clear hfz10_0
    try clear hfz10_1
    try clear hfz10_2
    try clear hfz10_3
    try clear hfz10_4
    try clear hfz12_0
    try clear hfz12_1
    try clear hfz12_2
    try clear hfz12_3
    try clear hfz12_4
    try clear hfz6_0
    try clear hfz6_1
    try clear hfz6_2
    try clear hfz6_3
    try clear hfz6_4
    try clear hfz8_0
    try clear hfz8_1
    try clear hfz8_2
    try clear hfz8_3
    try clear hfz8_4
    obtain ⟨x4_1, x5_1, rfl, rfl, HA, HK1, BK101, HB⟩ := hrel
    cases gk with
    | zero => exact absurd HA.out (by simp [spec_YarnStoreText.l0])
    | succ k1 =>
     have H := HA.out
     clear HA
     simp only [spec_YarnStoreText.l0] at H
     by_cases c13 : x5_1 < (l0_0.length : Int)
     ·rw [if_pos c13] at H
      have c13b0 : decide (x5_1 < (l0_0.length : Int)) = true := decide_eq_true c13
      clear c13
      by_cases c14 : 0 ≤ x5_1
      ·rw [if_pos c14] at H
       have c14b0 : decide (0 ≤ x5_1) = true := decide_eq_true c14
       clear c14
       by_cases c15 : x5_1 > 0
       ·rw [if_pos c15] at H
        have c15b0 : decide (0 < x5_1) = true := decide_eq_true c15
        clear c15
        by_cases c16 : x4_1.size + 1 ≤ 9223372036854775807
        ·rw [if_pos c16] at H
         have c16b0 := eq_true c16
         have c16b1 : decide (x4_1.size + 1 ≤ 9223372036854775807) = true := decide_eq_true c16
         try have c16b2 : (9223372036854775807 < x4_1.size + 1) = False := eq_false (Nat.not_lt.2 c16)
         (try (have c16b3 := c16b2; simp only [ByteArray.size_append] at c16b3))
         replace H := Option.bind_eq_some_iff.mp H
         obtain ⟨t105, A170, H⟩ := H
         replace H : (if (x4_1 ++ (⟨#[32]⟩ : ByteArray)).size + t105.size ≤ 9223372036854775807 then ((some (([(wrap64 (97 + ((rd_T37 l0_0 x5_1).f1))) % 256] : List Int) : List Int)).bind fun y106 => (if ((x4_1 ++ (⟨#[32]⟩ : ByteArray)) ++ t105).size + (strOfNums y106).size ≤ 9223372036854775807 then ((spec_l1Num.f k1 ((rd_T37 l0_0 x5_1).f2)).bind fun t109 => (if (((x4_1 ++ (⟨#[32]⟩ : ByteArray)) ++ t105) ++ (strOfNums y106)).size + t109.size ≤ 9223372036854775807 then (spec_YarnStoreText.l0 k1 ((((x4_1 ++ (⟨#[32]⟩ : ByteArray)) ++ t105) ++ (strOfNums y106)) ++ t109) (wrap64 (x5_1 + 1)) l0_0 a0_1 a0_2 a0_3 a0_4) else (none))) else (none))) else (none)) = some (r1, r2) := H
         have A17 := Aside0.mk A170
         clear A170
         by_cases c18 : (x4_1 ++ (⟨#[32]⟩ : ByteArray)).size + t105.size ≤ 9223372036854775807
         ·rw [if_pos c18] at H
          have c18b0 := eq_true c18
          have c18b1 : decide ((x4_1 ++ (⟨#[32]⟩ : ByteArray)).size + t105.size ≤ 9223372036854775807) = true := decide_eq_true c18
          try have c18b2 : (9223372036854775807 < (x4_1 ++ (⟨#[32]⟩ : ByteArray)).size + t105.size) = False := eq_false (Nat.not_lt.2 c18)
          (try (have c18b3 := c18b2; simp only [ByteArray.size_append, show (⟨#[32]⟩ : ByteArray).size = 1 from rfl] at c18b3))
          obtain ⟨y106, hy106⟩ : ∃ y_ : List Int, y_ = (([(wrap64 (97 + ((rd_T37 l0_0 x5_1).f1))) % 256] : List Int)) := ⟨_, rfl⟩
          replace H : (if ((x4_1 ++ (⟨#[32]⟩ : ByteArray)) ++ t105).size + (strOfNums y106).size ≤ 9223372036854775807 then ((spec_l1Num.f k1 ((rd_T37 l0_0 x5_1).f2)).bind fun t109 => (if (((x4_1 ++ (⟨#[32]⟩ : ByteArray)) ++ t105) ++ (strOfNums y106)).size + t109.size ≤ 9223372036854775807 then (spec_YarnStoreText.l0 k1 ((((x4_1 ++ (⟨#[32]⟩ : ByteArray)) ++ t105) ++ (strOfNums y106)) ++ t109) (wrap64 (x5_1 + 1)) l0_0 a0_1 a0_2 a0_3 a0_4) else (none))) else (none)) = some (r1, r2) := by first | (rw [hy106]; with_reducible exact H) | (have H2_ := (Option.bind_some _ _).symm.trans H; rw [hy106]; with_reducible exact H2_) | (have H2_ := (Option.bind_some _ _).symm.trans H; with_reducible exact H2_) | with_reducible exact H | (rw [hy106]; exact H) | exact H
          have Ny106 := Aside0.mk hy106
          clear hy106
          by_cases c19 : ((x4_1 ++ (⟨#[32]⟩ : ByteArray)) ++ t105).size + (strOfNums y106).size ≤ 9223372036854775807
          ·rw [if_pos c19] at H
           have c19b0 := eq_true c19
           have c19b1 : decide (((x4_1 ++ (⟨#[32]⟩ : ByteArray)) ++ t105).size + (strOfNums y106).size ≤ 9223372036854775807) = true := decide_eq_true c19
           try have c19b2 : (9223372036854775807 < ((x4_1 ++ (⟨#[32]⟩ : ByteArray)) ++ t105).size + (strOfNums y106).size) = False := eq_false (Nat.not_lt.2 c19)
           (try (have c19b3 := c19b2; simp only [ByteArray.size_append, show (⟨#[32]⟩ : ByteArray).size = 1 from rfl] at c19b3))
           replace H := Option.bind_eq_some_iff.mp H
           obtain ⟨t109, A200, H⟩ := H
           replace H : (if (((x4_1 ++ (⟨#[32]⟩ : ByteArray)) ++ t105) ++ (strOfNums y106)).size + t109.size ≤ 9223372036854775807 then (spec_YarnStoreText.l0 k1 ((((x4_1 ++ (⟨#[32]⟩ : ByteArray)) ++ t105) ++ (strOfNums y106)) ++ t109) (wrap64 (x5_1 + 1)) l0_0 a0_1 a0_2 a0_3 a0_4) else (none)) = some (r1, r2) := H
           have A20 := Aside0.mk A200
           clear A200
           by_cases c21 : (((x4_1 ++ (⟨#[32]⟩ : ByteArray)) ++ t105) ++ (strOfNums y106)).size + t109.size ≤ 9223372036854775807
           ·rw [if_pos c21] at H
            have c21b0 := eq_true c21
            have c21b1 : decide ((((x4_1 ++ (⟨#[32]⟩ : ByteArray)) ++ t105) ++ (strOfNums y106)).size + t109.size ≤ 9223372036854775807) = true := decide_eq_true c21
            try have c21b2 : (9223372036854775807 < (((x4_1 ++ (⟨#[32]⟩ : ByteArray)) ++ t105) ++ (strOfNums y106)).size + t109.size) = False := eq_false (Nat.not_lt.2 c21)
            (try (have c21b3 := c21b2; simp only [ByteArray.size_append, show (⟨#[32]⟩ : ByteArray).size = 1 from rfl] at c21b3))
            have H' := Aside0.mk H
            clear H
            have hcz22_0 : wr.cell? ⟨gb101, 0, none⟩ = some (.slice A0_0 l0_0.length c0_0) := (blk_cell BK101.out 0).trans rfl
            have hcz22_1 : wr.cell? ⟨gb101, 1, none⟩ = some (.int .i64 a0_1) := (blk_cell BK101.out 1).trans rfl
            have hcz22_2 : wr.cell? ⟨gb101, 2, none⟩ = some (.int .i64 a0_2) := (blk_cell BK101.out 2).trans rfl
            have hcz22_3 : wr.cell? ⟨gb101, 3, none⟩ = some (.int .i64 a0_3) := (blk_cell BK101.out 3).trans rfl
            have hcz22_4 : wr.cell? ⟨gb101, 4, none⟩ = some (.int .i64 a0_4) := (blk_cell BK101.out 4).trans rfl
            have hfz22_0 := blk_frozen BK101.out 0
            have hfz22_1 := blk_frozen BK101.out 1
            have hfz22_2 := blk_frozen BK101.out 2
            have hfz22_3 := blk_frozen BK101.out 3
            have hfz22_4 := blk_frozen BK101.out 4
            have p103 : 0 ≤ (x5_1 : Int) := of_decide_eq_true (by first | (with_reducible assumption) | assumption)
            have q103 : x5_1 < (l0_0.length : Int) := of_decide_eq_true (by first | (with_reducible assumption) | assumption)
            obtain ⟨ad103, e103, hx103_0, hx103_1, hx103_2⟩ := at_T37 HR0_0.out x5_1 p103 q103
            cases e103
            replace hx103_0 := (HB.out.cell (World.block_lt_of_cell? w _ hx103_0)).trans hx103_0
            replace hx103_1 := (HB.out.cell (World.block_lt_of_cell? w _ hx103_1)).trans hx103_1
            replace hx103_2 := (HB.out.cell (World.block_lt_of_cell? w _ hx103_2)).trans hx103_2
            replace p103 := eq_true p103
            replace q103 := eq_true q103
            try go_wp2_with (first | ((with_reducible refine gate_dst (N := 6) rfl ?_); refine box_event ?hg (N := 6) ?hd (cs := #[.int .i64 0, .int .i64 0, .int .i64 0]) (t := 37) ?hr ?_; (case hd => rfl); (case hg => rfl); (case hr => first | (go_simp; done) | (go_simp; rfl)); intro gb104 hg w23 hbox hb; have n0_ := Aside0.mk (blk_below (bS BK101.out) hb); have n1_ := Aside0.mk (below_step (by exact eS HB.out) hb); have n2_ := Aside0.mk (hbox); have n3_ := Aside0.mk ((by rw [hg]; exact (below_size (by exact eS HB.out)) : w.heap.size ≤ gb104)); have n4_ := Aside0.mk ((by rw [hg]; exact (below_size (by exact eS HB.out)) : w.heap.size ≤ gb104)); have n5_ := Aside0.mk ((by rw [hg]; exact Nat.ne_of_lt (blk_lt (bS BK101.out)) : gb101 ≠ gb104)); have n6_ := Aside0.mk ((by rw [hg]; exact Nat.ne_of_gt (blk_lt (bS BK101.out)) : gb104 ≠ gb101)); clear BK101; clear HB; have BK101 := n0_; have HB := n1_; have BK104 := n2_; have GW104 := n3_; have GE104 := n4_; have NB101_104 := n5_; have NB104_101 := n6_; clear n0_ n1_ n2_ n3_ n4_ n5_ n6_; clear hb hbox hg; have hnb24 := NB104_101.out; have hnc24 := NB101_104.out; have hcz25_0 : w23.cell? ⟨gb104, 0, none⟩ = some (.int .i64 0) := (blk_cell BK104.out 0).trans rfl; have hcz25_1 : w23.cell? ⟨gb104, 1, none⟩ = some (.int .i64 0) := (blk_cell BK104.out 1).trans rfl; have hcz25_2 : w23.cell? ⟨gb104, 2, none⟩ = some (.int .i64 0) := (blk_cell BK104.out 2).trans rfl; have hfz25_0 := blk_frozen BK104.out 0; have hfz25_1 := blk_frozen BK104.out 1; have hfz25_2 := blk_frozen BK104.out 2))
            have n0_ : Aside0 ((((w23.setCell ⟨gb104, 0, none⟩ (.int .i64 ((rd_T37 l0_0 x5_1).f0))).setCell ⟨gb104, 1, none⟩ (.int .i64 ((rd_T37 l0_0 x5_1).f1))).setCell ⟨gb104, 2, none⟩ (.int .i64 ((rd_T37 l0_0 x5_1).f2))).heap[gb101]? = some (.cells #[.slice (some ad103) l0_0.length c0_0, .int .i64 a0_1, .int .i64 a0_2, .int .i64 a0_3, .int .i64 a0_4] 30 (0, 0))) := ⟨by (with_reducible repeat (first | refine blk_drewN ?_ _ | refine blk_drew ?_ | refine blk_alloc ?_ _)); refine blk_far ?_ NB101_104.out _; (with_reducible repeat (first | refine blk_drewN ?_ _ | refine blk_drew ?_ | refine blk_alloc ?_ _)); refine blk_far ?_ NB101_104.out _; (with_reducible repeat (first | refine blk_drewN ?_ _ | refine blk_drew ?_ | refine blk_alloc ?_ _)); refine blk_far ?_ NB101_104.out _; exact bS BK101.out⟩
            have n1_ : Aside0 ((((w23.setCell ⟨gb104, 0, none⟩ (.int .i64 ((rd_T37 l0_0 x5_1).f0))).setCell ⟨gb104, 1, none⟩ (.int .i64 ((rd_T37 l0_0 x5_1).f1))).setCell ⟨gb104, 2, none⟩ (.int .i64 ((rd_T37 l0_0 x5_1).f2))).heap[gb104]? = some (.cells #[.int .i64 ((rd_T37 l0_0 x5_1).f0), .int .i64 ((rd_T37 l0_0 x5_1).f1), .int .i64 ((rd_T37 l0_0 x5_1).f2)] 37 (0, 0))) := ⟨by (with_reducible repeat (first | refine blk_drewN ?_ _ | refine blk_drew ?_ | refine blk_alloc ?_ _)); refine blk_put (cs := #[.int .i64 ((rd_T37 l0_0 x5_1).f0), .int .i64 ((rd_T37 l0_0 x5_1).f1), .int .i64 0]) ?_ 2 _ rfl; (with_reducible repeat (first | refine blk_drewN ?_ _ | refine blk_drew ?_ | refine blk_alloc ?_ _)); refine blk_put (cs := #[.int .i64 ((rd_T37 l0_0 x5_1).f0), .int .i64 0, .int .i64 0]) ?_ 1 _ rfl; (with_reducible repeat (first | refine blk_drewN ?_ _ | refine blk_drew ?_ | refine blk_alloc ?_ _)); refine blk_put (cs := #[.int .i64 0, .int .i64 0, .int .i64 0]) ?_ 0 _ rfl; exact bS BK104.out⟩
            have n2_ : Aside0 (Below w.heap.size w (((w23.setCell ⟨gb104, 0, none⟩ (.int .i64 ((rd_T37 l0_0 x5_1).f0))).setCell ⟨gb104, 1, none⟩ (.int .i64 ((rd_T37 l0_0 x5_1).f1))).setCell ⟨gb104, 2, none⟩ (.int .i64 ((rd_T37 l0_0 x5_1).f2)))) := ⟨by repeat (first | (with_reducible first | exact HB.out | apply below_alloc | apply pw_below_drewN | apply below_drew1 | refine below_set ?_ GE101.out | refine below_set ?_ GE104.out) | exact HB.out)⟩
            (try clear BK101)
            (try clear BK104)
            (try clear HB)
            generalize (((w23.setCell ⟨gb104, 0, none⟩ (.int .i64 ((rd_T37 l0_0 x5_1).f0))).setCell ⟨gb104, 1, none⟩ (.int .i64 ((rd_T37 l0_0 x5_1).f1))).setCell ⟨gb104, 2, none⟩ (.int .i64 ((rd_T37 l0_0 x5_1).f2))) = w26 at n0_ n1_ n2_ ⊢
            have BK101 := n0_
            have BK104 := n1_
            have HB := n2_
            clear n0_ n1_ n2_
            have n0_ := Aside0.mk (blk_drew BK101.out)
            have n1_ := Aside0.mk (blk_drew BK104.out)
            have n2_ := Aside0.mk (below_drew1 HB.out)
            clear BK101
            clear BK104
            clear HB
            have BK101 := n0_
            have BK104 := n1_
            have HB := n2_
            clear n0_ n1_ n2_
            refine start_ (n := 17) (S := fun w' => w'.cell? ⟨gb104, 0, none⟩ = some (.int .i64 ((rd_T37 l0_0 x5_1).f0)) ∧ w'.cell? ⟨gb104, 1, none⟩ = some (.int .i64 ((rd_T37 l0_0 x5_1).f1)) ∧ w'.cell? ⟨gb104, 2, none⟩ = some (.int .i64 ((rd_T37 l0_0 x5_1).f2))) (ds := []) #[O,O,O,O,O,O,O,O,O,O,O,O,O,O,O,O,O] (by kernel_rfl) rfl rfl ⟨(blk_cell BK104.out 0).trans rfl, (blk_cell BK104.out 1).trans rfl, (blk_cell BK104.out 2).trans rfl⟩ (fun hHeld => ?_); refine with_tabW spec_YarnStoreText.tab12 spec_YarnStoreText.bits12 (fun HT_ HW_ => ?_)
            generalize w26.drew = w27 at BK101 BK104 HB hHeld ⊢
            refine pure_ (i := 0) (N := some 30) (v := ?_) (a' := ?_) #[I,O,O,O,O,O,O,O,O,O,O,O,O,O,O,O,O] rfl rfl (any_of HT_.out (by kernel_rfl)) (fun _ _ _ h => h) (Or.inl ⟨by rfl, ?_⟩) ?_ ?_
            rotate_left; (intro w'; go_simp; with_reducible rfl); rotate_left; (simp only [Z]; rfl)
            refine pure_ (i := 1) (N := some 31) (v := ?_) (a' := ?_) #[I,I,O,O,O,O,O,O,O,O,O,O,O,O,O,O,O] rfl rfl (any_of HT_.out (by kernel_rfl)) (fun _ _ _ h => h) (Or.inl ⟨by rfl, ?_⟩) ?_ ?_
            rotate_left; (intro w'; go_simp; with_reducible rfl); rotate_left; (simp only [Z]; rfl)
            refine pure_ (i := 5) (N := some 35) (v := ?_) (a' := ?_) #[I,I,O,O,O,I,O,O,O,O,O,O,O,O,O,O,O] rfl rfl (any_of HT_.out (by kernel_rfl)) (fun _ _ _ h => h) (Or.inl ⟨by rfl, ?_⟩) ?_ ?_
            rotate_left; (intro w'; go_simp; with_reducible rfl); rotate_left; (simp only [Z]; rfl)
            refine pure_ (i := 12) (N := some 42) (v := ?_) (a' := ?_) #[I,I,O,O,O,I,O,O,O,O,O,O,I,O,O,O,O] rfl rfl (any_of HT_.out (by kernel_rfl)) (fun _ _ _ h => h) (Or.inl ⟨by rfl, ?_⟩) ?_ ?_
            rotate_left; (intro w'; go_simp; with_reducible rfl); rotate_left; (simp only [Z]; rfl)
            refine take_ (i := 2) (N := some 32) (v := ?_) (a' := ?_) #[I,I,I,O,O,I,O,O,O,O,O,O,I,O,O,O,O] rfl rfl (take_ofW HT_.out HW_.out (by kernel_rfl)) (fun _ _ _ h => h) (Or.inl ⟨by rfl, ?_⟩) hHeld ?_ ?_
            rotate_left; (rintro w' ⟨s0, s1, s2⟩; go_simp; with_reducible rfl); rotate_left; (simp only [Z]; rfl)
            refine take_ (i := 6) (N := some 36) (v := ?_) (a' := ?_) #[I,I,I,O,O,I,I,O,O,O,O,O,I,O,O,O,O] rfl rfl (take_ofW HT_.out HW_.out (by kernel_rfl)) (fun _ _ _ h => h) (Or.inl ⟨by rfl, ?_⟩) hHeld ?_ ?_
            rotate_left; (rintro w' ⟨s0, s1, s2⟩; go_simp; with_reducible rfl); rotate_left; (simp only [Z]; rfl)
            refine pure_ (i := 7) (N := some 37) (v := ?_) (a' := ?_) #[I,I,I,O,O,I,I,I,O,O,O,O,I,O,O,O,O] rfl rfl (any_of HT_.out (by kernel_rfl)) (fun _ _ _ h => h) (Or.inl ⟨by rfl, ?_⟩) ?_ ?_
            rotate_left; (intro w'; go_simp; with_reducible rfl); rotate_left; (simp only [Z]; rfl)
            refine pure_ (i := 8) (N := some 38) (v := ?_) (a' := ?_) #[I,I,I,O,O,I,I,I,I,O,O,O,I,O,O,O,O] rfl rfl (any_of HT_.out (by kernel_rfl)) (fun _ _ _ h => h) (Or.inl ⟨by rfl, ?_⟩) ?_ ?_
            rotate_left; (intro w'; go_simp; with_reducible rfl); rotate_left; (simp only [Z]; rfl)
            refine take_ (i := 13) (N := some 43) (v := ?_) (a' := ?_) #[I,I,I,O,O,I,I,I,I,O,O,O,I,I,O,O,O] rfl rfl (take_ofW HT_.out HW_.out (by kernel_rfl)) (fun _ _ _ h => h) (Or.inl ⟨by rfl, ?_⟩) hHeld ?_ ?_
            rotate_left; (rintro w' ⟨s0, s1, s2⟩; go_simp; with_reducible rfl); rotate_left; (simp only [Z]; rfl)
            refine join_ (σ := Value) 2 #[I,I,I,I,I,I,I,I,I,I,I,I,I,I,I,O,O] (fun s_ => [(33, .string t105), (39, s_), (40, .string (strOfNums y106)), (44, .string t109), (34, .string ((x4_1 ++ (⟨#[32]⟩ : ByteArray)) ++ t105)), (41, .string (((x4_1 ++ (⟨#[32]⟩ : ByteArray)) ++ t105) ++ (strOfNums y106)))]) (fun s_ w' => (w'.cell? ⟨gb104, 0, none⟩ = some (.int .i64 ((rd_T37 l0_0 x5_1).f0)) ∧ w'.cell? ⟨gb104, 1, none⟩ = some (.int .i64 ((rd_T37 l0_0 x5_1).f1)) ∧ w'.cell? ⟨gb104, 2, none⟩ = some (.int .i64 ((rd_T37 l0_0 x5_1).f2))) ∧ (Kd.R (Kd.int .u8) 5 w' w.heap.size (fun _ => True) s_ y106) ∧ (w'.heap[gb101]? = some (.cells #[.slice (some ad103) l0_0.length c0_0, .int .i64 a0_1, .int .i64 a0_2, .int .i64 a0_3, .int .i64 a0_4] 30 (0, 0))) ∧ (w'.heap[gb104]? = some (.cells #[.int .i64 ((rd_T37 l0_0 x5_1).f0), .int .i64 ((rd_T37 l0_0 x5_1).f1), .int .i64 ((rd_T37 l0_0 x5_1).f2)] 37 (0, 0))) ∧ (Below w.heap.size w w')) ?_ ?_
            rotate_left
            ·intro hJ3_9_10_14
             refine join_ (σ := Value) 3 #[I,I,I,I,I,I,I,I,I,I,I,I,I,I,O,O,O] (fun s_ => [(33, .string t105), (39, s_), (40, .string (strOfNums y106)), (34, .string ((x4_1 ++ (⟨#[32]⟩ : ByteArray)) ++ t105)), (41, .string (((x4_1 ++ (⟨#[32]⟩ : ByteArray)) ++ t105) ++ (strOfNums y106)))]) (fun s_ w' => (w'.cell? ⟨gb104, 0, none⟩ = some (.int .i64 ((rd_T37 l0_0 x5_1).f0)) ∧ w'.cell? ⟨gb104, 1, none⟩ = some (.int .i64 ((rd_T37 l0_0 x5_1).f1)) ∧ w'.cell? ⟨gb104, 2, none⟩ = some (.int .i64 ((rd_T37 l0_0 x5_1).f2))) ∧ (Kd.R (Kd.int .u8) 5 w' w.heap.size (fun _ => True) s_ y106) ∧ (w'.heap[gb101]? = some (.cells #[.slice (some ad103) l0_0.length c0_0, .int .i64 a0_1, .int .i64 a0_2, .int .i64 a0_3, .int .i64 a0_4] 30 (0, 0))) ∧ (w'.heap[gb104]? = some (.cells #[.int .i64 ((rd_T37 l0_0 x5_1).f0), .int .i64 ((rd_T37 l0_0 x5_1).f1), .int .i64 ((rd_T37 l0_0 x5_1).f2)] 37 (0, 0))) ∧ (Below w.heap.size w w')) ?_ ?_
             rotate_left
             ·intro hJ3_9_10
              refine join_ (σ := Value) 4 #[I,I,I,I,I,I,I,I,I,I,O,O,I,I,I,O,O] (fun s_ => [(33, .string t105), (39, s_), (44, .string t109), (34, .string ((x4_1 ++ (⟨#[32]⟩ : ByteArray)) ++ t105))]) (fun s_ w' => (w'.cell? ⟨gb104, 0, none⟩ = some (.int .i64 ((rd_T37 l0_0 x5_1).f0)) ∧ w'.cell? ⟨gb104, 1, none⟩ = some (.int .i64 ((rd_T37 l0_0 x5_1).f1)) ∧ w'.cell? ⟨gb104, 2, none⟩ = some (.int .i64 ((rd_T37 l0_0 x5_1).f2))) ∧ (Kd.R (Kd.int .u8) 5 w' w.heap.size (fun _ => True) s_ y106) ∧ (w'.heap[gb101]? = some (.cells #[.slice (some ad103) l0_0.length c0_0, .int .i64 a0_1, .int .i64 a0_2, .int .i64 a0_3, .int .i64 a0_4] 30 (0, 0))) ∧ (w'.heap[gb104]? = some (.cells #[.int .i64 ((rd_T37 l0_0 x5_1).f0), .int .i64 ((rd_T37 l0_0 x5_1).f1), .int .i64 ((rd_T37 l0_0 x5_1).f2)] 37 (0, 0))) ∧ (Below w.heap.size w w')) ?_ ?_
              rotate_left
              ·intro hJ3_9_14
               refine join_ (σ := Value) 5 #[I,I,I,I,I,I,I,I,I,I,O,O,I,I,O,O,O] (fun s_ => [(33, .string t105), (39, s_), (34, .string ((x4_1 ++ (⟨#[32]⟩ : ByteArray)) ++ t105))]) (fun s_ w' => (w'.cell? ⟨gb104, 0, none⟩ = some (.int .i64 ((rd_T37 l0_0 x5_1).f0)) ∧ w'.cell? ⟨gb104, 1, none⟩ = some (.int .i64 ((rd_T37 l0_0 x5_1).f1)) ∧ w'.cell? ⟨gb104, 2, none⟩ = some (.int .i64 ((rd_T37 l0_0 x5_1).f2))) ∧ (Kd.R (Kd.int .u8) 5 w' w.heap.size (fun _ => True) s_ y106) ∧ (w'.heap[gb101]? = some (.cells #[.slice (some ad103) l0_0.length c0_0, .int .i64 a0_1, .int .i64 a0_2, .int .i64 a0_3, .int .i64 a0_4] 30 (0, 0))) ∧ (w'.heap[gb104]? = some (.cells #[.int .i64 ((rd_T37 l0_0 x5_1).f0), .int .i64 ((rd_T37 l0_0 x5_1).f1), .int .i64 ((rd_T37 l0_0 x5_1).f2)] 37 (0, 0))) ∧ (Below w.heap.size w w')) ?_ ?_
               rotate_left
               ·intro hJ3_9
                refine join_ (σ := Unit) 5 #[I,I,I,I,I,I,I,I,I,O,O,O,I,I,I,O,O] (fun s_ => [(33, .string t105), (44, .string t109), (34, .string ((x4_1 ++ (⟨#[32]⟩ : ByteArray)) ++ t105))]) (fun s_ w' => (w'.cell? ⟨gb104, 0, none⟩ = some (.int .i64 ((rd_T37 l0_0 x5_1).f0)) ∧ w'.cell? ⟨gb104, 1, none⟩ = some (.int .i64 ((rd_T37 l0_0 x5_1).f1)) ∧ w'.cell? ⟨gb104, 2, none⟩ = some (.int .i64 ((rd_T37 l0_0 x5_1).f2))) ∧ (w'.heap[gb101]? = some (.cells #[.slice (some ad103) l0_0.length c0_0, .int .i64 a0_1, .int .i64 a0_2, .int .i64 a0_3, .int .i64 a0_4] 30 (0, 0))) ∧ (w'.heap[gb104]? = some (.cells #[.int .i64 ((rd_T37 l0_0 x5_1).f0), .int .i64 ((rd_T37 l0_0 x5_1).f1), .int .i64 ((rd_T37 l0_0 x5_1).f2)] 37 (0, 0))) ∧ (Below w.heap.size w w')) ?_ ?_
                rotate_left
                ·intro hJ3_14
                 refine join_ (σ := Value) 6 #[I,I,I,O,O,I,I,I,I,I,I,O,I,I,O,O,O] (fun s_ => [(39, s_), (40, .string (strOfNums y106))]) (fun s_ w' => (w'.cell? ⟨gb104, 0, none⟩ = some (.int .i64 ((rd_T37 l0_0 x5_1).f0)) ∧ w'.cell? ⟨gb104, 1, none⟩ = some (.int .i64 ((rd_T37 l0_0 x5_1).f1)) ∧ w'.cell? ⟨gb104, 2, none⟩ = some (.int .i64 ((rd_T37 l0_0 x5_1).f2))) ∧ (Kd.R (Kd.int .u8) 5 w' w.heap.size (fun _ => True) s_ y106) ∧ (w'.heap[gb101]? = some (.cells #[.slice (some ad103) l0_0.length c0_0, .int .i64 a0_1, .int .i64 a0_2, .int .i64 a0_3, .int .i64 a0_4] 30 (0, 0))) ∧ (w'.heap[gb104]? = some (.cells #[.int .i64 ((rd_T37 l0_0 x5_1).f0), .int .i64 ((rd_T37 l0_0 x5_1).f1), .int .i64 ((rd_T37 l0_0 x5_1).f2)] 37 (0, 0))) ∧ (Below w.heap.size w w')) ?_ ?_
                 rotate_left
                 ·intro hJ9_10
                  refine join_ (σ := Unit) 6 #[I,I,I,I,I,I,I,I,I,O,O,O,I,I,O,O,O] (fun s_ => [(33, .string t105), (34, .string ((x4_1 ++ (⟨#[32]⟩ : ByteArray)) ++ t105))]) (fun s_ w' => (w'.cell? ⟨gb104, 0, none⟩ = some (.int .i64 ((rd_T37 l0_0 x5_1).f0)) ∧ w'.cell? ⟨gb104, 1, none⟩ = some (.int .i64 ((rd_T37 l0_0 x5_1).f1)) ∧ w'.cell? ⟨gb104, 2, none⟩ = some (.int .i64 ((rd_T37 l0_0 x5_1).f2))) ∧ (w'.heap[gb101]? = some (.cells #[.slice (some ad103) l0_0.length c0_0, .int .i64 a0_1, .int .i64 a0_2, .int .i64 a0_3, .int .i64 a0_4] 30 (0, 0))) ∧ (w'.heap[gb104]? = some (.cells #[.int .i64 ((rd_T37 l0_0 x5_1).f0), .int .i64 ((rd_T37 l0_0 x5_1).f1), .int .i64 ((rd_T37 l0_0 x5_1).f2)] 37 (0, 0))) ∧ (Below w.heap.size w w')) ?_ ?_
                  rotate_left
                  ·intro hJ3
                   refine join_ (σ := Value) 7 #[I,I,I,O,O,I,I,I,I,I,O,O,I,I,O,O,O] (fun s_ => [(39, s_)]) (fun s_ w' => (w'.cell? ⟨gb104, 0, none⟩ = some (.int .i64 ((rd_T37 l0_0 x5_1).f0)) ∧ w'.cell? ⟨gb104, 1, none⟩ = some (.int .i64 ((rd_T37 l0_0 x5_1).f1)) ∧ w'.cell? ⟨gb104, 2, none⟩ = some (.int .i64 ((rd_T37 l0_0 x5_1).f2))) ∧ (Kd.R (Kd.int .u8) 5 w' w.heap.size (fun _ => True) s_ y106) ∧ (w'.heap[gb101]? = some (.cells #[.slice (some ad103) l0_0.length c0_0, .int .i64 a0_1, .int .i64 a0_2, .int .i64 a0_3, .int .i64 a0_4] 30 (0, 0))) ∧ (w'.heap[gb104]? = some (.cells #[.int .i64 ((rd_T37 l0_0 x5_1).f0), .int .i64 ((rd_T37 l0_0 x5_1).f1), .int .i64 ((rd_T37 l0_0 x5_1).f2)] 37 (0, 0))) ∧ (Below w.heap.size w w')) ?_ ?_
                   rotate_left
                   ·intro hJ9
                    refine two_ (i := 3) (j := 9) (Ni := some 33) (Nj := some 39) #[I,I,I,I,O,I,I,I,I,O,O,O,I,I,O,O,O] #[I,I,I,O,O,I,I,I,I,I,O,O,I,I,O,O,O] rfl rfl rfl rfl (two_of HT_.out (by kernel_rfl)) (by decide) (by decide) (fun K hK => ?_) (fun K hK => ?_)
                    ·skip
                     refine goes_ Tryd.func11 (by kernel_rfl) rfl #[.int .i64 ((rd_T37 l0_0 x5_1).f0)] (by rfl) rfl rfl (by (try simp only [List.map_toArray, List.map_cons, List.map_nil]); first | done | rfl | (simp only [List.length_drop, List.length_take]; rfl)) ?_
                     with_reducible refine (spec_l1Num.calls k1 ((rd_T37 l0_0 x5_1).f0) t105 _ A17.out).mono ?_
                     rintro e w28 ⟨rfl, hb⟩
                     refine ⟨_, rfl, ?_⟩
                     have n0_ := Aside0.mk (blk_below (bS BK101.out) hb)
                     have n1_ := Aside0.mk (blk_below (bS BK104.out) hb)
                     have n2_ := Aside0.mk (below_step (by exact eS HB.out) hb)
                     clear BK101
                     clear BK104
                     clear HB
                     have BK101 := n0_
                     have BK104 := n1_
                     have HB := n2_
                     clear n0_ n1_ n2_
                     (try clear hb)
                     (try clear hb2)
                     (try clear hk)
                     (try clear hi)
                     refine hK.out _ _ ⟨(blk_cell BK104.out 0).trans rfl, (blk_cell BK104.out 1).trans rfl, (blk_cell BK104.out 2).trans rfl⟩ (fun hHeld => ?_)
                     clear hK K
                     refine norm_ (a' := ?_) ?_ ?_
                     rotate_left
                     ·show Act.put _ (some 33) _ = _
                      simp only [Z]
                      rfl
                     refine pure_ (i := 4) (N := some 34) (v := ?_) (a' := ?_) #[I,I,I,I,I,I,I,I,I,O,O,O,I,I,O,O,O] rfl rfl (any_of HT_.out (by kernel_rfl)) (fun _ _ _ h => h) (Or.inl ⟨by rfl, ?_⟩) ?_ ?_
                     rotate_left; (intro w'; go_simp; with_reducible rfl); rotate_left; (simp only [Z]; rfl)
                     exact norm_ (by first | (simp only [putAll, Act.put, List.setIfInBounds_toArray, List.set_cons_zero, List.set_cons_succ]; done) | (simp only [putAll, Act.put, List.setIfInBounds_toArray, List.set_cons_zero, List.set_cons_succ]; rfl)) (hJ3 () _ ⟨hHeld, (by exact bS BK101.out), (by exact bS BK104.out), (by exact eS HB.out)⟩)
                    ·skip
                     refine Kd.R_lit_step (Kd.int .u8) _ 5 ?hg (N := 39) ?hd (xs := ([(wrap64 (97 + ((rd_T37 l0_0 x5_1).f1))) % 256] : List Int)) (inner := [.int .u8 ((wrap64 (97 + ((rd_T37 l0_0 x5_1).f1))) % 256)]) (ok := fun _ => True) (okp := fun _ => True) ?hr ?hp (fun _ hk => hk) trivial (Below.refl _ _) (Nat.le_refl _) (by simp) ?_; (case hd => rfl); (case hg => rfl); (case hr => first | (go_simp; done) | (go_simp; rfl)); (case hp => exact (Reps.one (show Kd.M (Kd.int .u8) _ _ _ ((wrap64 (97 + ((rd_T37 l0_0 x5_1).f1))) % 256) [.int .u8 ((wrap64 (97 + ((rd_T37 l0_0 x5_1).f1))) % 256)] from rfl) (Reps.none _ _)))
                     intro v107 w28 ho29 hb hg_ hnew_
                     clear hg_ hnew_
                     (first | rw [← Ny106.out] at ho29 | (simp only [Int.reduceToNat] at ho29; rw [← Ny106.out] at ho29))
                     have n0_ := Aside0.mk (Kd.R_lower ho29 (below_size (by exact eS HB.out)))
                     have n1_ := Aside0.mk (blk_below (bS BK101.out) hb)
                     have n2_ := Aside0.mk (blk_below (bS BK104.out) hb)
                     have n3_ := Aside0.mk (below_step (by exact eS HB.out) hb)
                     clear BK101
                     clear BK104
                     clear HB
                     have HO108 := n0_
                     have BK101 := n1_
                     have BK104 := n2_
                     have HB := n3_
                     clear n0_ n1_ n2_ n3_
                     clear hb ho29
                     refine hK.out _ _ ⟨(blk_cell BK104.out 0).trans rfl, (blk_cell BK104.out 1).trans rfl, (blk_cell BK104.out 2).trans rfl⟩ (fun hHeld => ?_)
                     clear hK K
                     refine norm_ (a' := ?_) ?_ ?_
                     rotate_left
                     ·show Act.put _ (some 39) _ = _
                      simp only [Z]
                      rfl
                     exact norm_ (by first | (simp only [putAll, Act.put, List.setIfInBounds_toArray, List.set_cons_zero, List.set_cons_succ]; done) | (simp only [putAll, Act.put, List.setIfInBounds_toArray, List.set_cons_zero, List.set_cons_succ]; rfl)) (hJ9 (v107) _ ⟨hHeld, (by exact Ho.RS <| HO108.out), (by exact bS BK101.out), (by exact bS BK104.out), (by exact eS HB.out)⟩)
                   ·skip
                    rintro v107 w30 ⟨hS_, h0_, h1_, h2_, h3_⟩
                    have n0_ : Aside0 (Kd.R (Kd.int .u8) 5 w30 w.heap.size (fun _ => True) v107 y106) := ⟨h0_⟩
                    have n1_ : Aside0 (w30.heap[gb101]? = some (.cells #[.slice (some ad103) l0_0.length c0_0, .int .i64 a0_1, .int .i64 a0_2, .int .i64 a0_3, .int .i64 a0_4] 30 (0, 0))) := ⟨h1_⟩
                    have n2_ : Aside0 (w30.heap[gb104]? = some (.cells #[.int .i64 ((rd_T37 l0_0 x5_1).f0), .int .i64 ((rd_T37 l0_0 x5_1).f1), .int .i64 ((rd_T37 l0_0 x5_1).f2)] 37 (0, 0))) := ⟨h2_⟩
                    have n3_ : Aside0 (Below w.heap.size w w30) := ⟨h3_⟩
                    clear BK101
                    clear BK104
                    clear HB
                    clear h0_ h1_ h2_ h3_
                    have HO108 := n0_
                    have BK101 := n1_
                    have BK104 := n2_
                    have HB := n3_
                    clear n0_ n1_ n2_ n3_
                    have hHeld : w30.cell? ⟨gb104, 0, none⟩ = some (.int .i64 ((rd_T37 l0_0 x5_1).f0)) ∧ w30.cell? ⟨gb104, 1, none⟩ = some (.int .i64 ((rd_T37 l0_0 x5_1).f1)) ∧ w30.cell? ⟨gb104, 2, none⟩ = some (.int .i64 ((rd_T37 l0_0 x5_1).f2)) := hS_
                    refine norm_ (a' := ?_) ?_ ?_
                    rotate_left
                    ·simp only [putAll, Act.put, List.setIfInBounds_toArray, List.set_cons_zero, List.set_cons_succ]
                     rfl
                    refine two_ (i := 3) (j := 10) (Ni := some 33) (Nj := some 40) #[I,I,I,I,O,I,I,I,I,I,O,O,I,I,O,O,O] #[I,I,I,O,O,I,I,I,I,I,I,O,I,I,O,O,O] rfl rfl rfl rfl (two_of HT_.out (by kernel_rfl)) (by decide) (by decide) (fun K hK => ?_) (fun K hK => ?_)
                    ·skip
                     refine goes_ Tryd.func11 (by kernel_rfl) rfl #[.int .i64 ((rd_T37 l0_0 x5_1).f0)] (by rfl) rfl rfl (by (try simp only [List.map_toArray, List.map_cons, List.map_nil]); first | done | rfl | (simp only [List.length_drop, List.length_take]; rfl)) ?_
                     with_reducible refine (spec_l1Num.calls k1 ((rd_T37 l0_0 x5_1).f0) t105 _ A17.out).mono ?_
                     rintro e w31 ⟨rfl, hb⟩
                     refine ⟨_, rfl, ?_⟩
                     have n0_ := Aside0.mk (Kd.R_below (by exact Ho.RS <| HO108.out) hb)
                     have n1_ := Aside0.mk (blk_below (bS BK101.out) hb)
                     have n2_ := Aside0.mk (blk_below (bS BK104.out) hb)
                     have n3_ := Aside0.mk (below_step (by exact eS HB.out) hb)
                     clear HO108
                     clear BK101
                     clear BK104
                     clear HB
                     have HO108 := n0_
                     have BK101 := n1_
                     have BK104 := n2_
                     have HB := n3_
                     clear n0_ n1_ n2_ n3_
                     (try clear hb)
                     (try clear hb2)
                     (try clear hk)
                     (try clear hi)
                     refine hK.out _ _ ⟨(blk_cell BK104.out 0).trans rfl, (blk_cell BK104.out 1).trans rfl, (blk_cell BK104.out 2).trans rfl⟩ (fun hHeld => ?_)
                     clear hK K
                     refine norm_ (a' := ?_) ?_ ?_
                     rotate_left
                     ·show Act.put _ (some 33) _ = _
                      simp only [Z]
                      rfl
                     refine pure_ (i := 4) (N := some 34) (v := ?_) (a' := ?_) #[I,I,I,I,I,I,I,I,I,I,O,O,I,I,O,O,O] rfl rfl (any_of HT_.out (by kernel_rfl)) (fun _ _ _ h => h) (Or.inl ⟨by rfl, ?_⟩) ?_ ?_
                     rotate_left; (intro w'; go_simp; with_reducible rfl); rotate_left; (simp only [Z]; rfl)
                     exact norm_ (by first | (simp only [putAll, Act.put, List.setIfInBounds_toArray, List.set_cons_zero, List.set_cons_succ]; done) | (simp only [putAll, Act.put, List.setIfInBounds_toArray, List.set_cons_zero, List.set_cons_succ]; rfl)) (hJ3_9 (v107) _ ⟨hHeld, (by exact Ho.RS <| HO108.out), (by exact bS BK101.out), (by exact bS BK104.out), (by exact eS HB.out)⟩)
                    ·skip
                     have hcv31 := own_string (P := Tryd.prog) Tryd.underlying39 Tryd.underlying5 Tryd.underlying9 (Kd.own_of_R HO108.out)
                     refine value_ (w1 := ?_) (v := ?_) (by rfl) rfl ?_ ?_
                     rotate_left 2
                     ·go_simp
                      constructor
                      ·rfl
                      ·rfl
                     clear hcv31
                     refine hK.out _ _ ⟨(blk_cell BK104.out 0).trans rfl, (blk_cell BK104.out 1).trans rfl, (blk_cell BK104.out 2).trans rfl⟩ (fun hHeld => ?_)
                     clear hK K
                     refine norm_ (a' := ?_) ?_ ?_
                     rotate_left
                     ·show Act.put _ (some 40) _ = _
                      simp only [Z]
                      rfl
                     exact norm_ (by first | (simp only [putAll, Act.put, List.setIfInBounds_toArray, List.set_cons_zero, List.set_cons_succ]; done) | (simp only [putAll, Act.put, List.setIfInBounds_toArray, List.set_cons_zero, List.set_cons_succ]; rfl)) (hJ9_10 (v107) _ ⟨hHeld, (by exact Ho.RS <| HO108.out), (by exact bS BK101.out), (by exact bS BK104.out), (by exact eS HB.out)⟩)
                  ·skip
                   rintro _ w29 ⟨hS_, h0_, h1_, h2_⟩
                   have n0_ : Aside0 (w29.heap[gb101]? = some (.cells #[.slice (some ad103) l0_0.length c0_0, .int .i64 a0_1, .int .i64 a0_2, .int .i64 a0_3, .int .i64 a0_4] 30 (0, 0))) := ⟨h0_⟩
                   have n1_ : Aside0 (w29.heap[gb104]? = some (.cells #[.int .i64 ((rd_T37 l0_0 x5_1).f0), .int .i64 ((rd_T37 l0_0 x5_1).f1), .int .i64 ((rd_T37 l0_0 x5_1).f2)] 37 (0, 0))) := ⟨h1_⟩
                   have n2_ : Aside0 (Below w.heap.size w w29) := ⟨h2_⟩
                   clear BK101
                   clear BK104
                   clear HB
                   clear h0_ h1_ h2_
                   have BK101 := n0_
                   have BK104 := n1_
                   have HB := n2_
                   clear n0_ n1_ n2_
                   have hHeld : w29.cell? ⟨gb104, 0, none⟩ = some (.int .i64 ((rd_T37 l0_0 x5_1).f0)) ∧ w29.cell? ⟨gb104, 1, none⟩ = some (.int .i64 ((rd_T37 l0_0 x5_1).f1)) ∧ w29.cell? ⟨gb104, 2, none⟩ = some (.int .i64 ((rd_T37 l0_0 x5_1).f2)) := hS_
                   refine norm_ (a' := ?_) ?_ ?_
                   rotate_left
                   ·simp only [putAll, Act.put, List.setIfInBounds_toArray, List.set_cons_zero, List.set_cons_succ]
                    rfl
                   refine two_ (i := 9) (j := 14) (Ni := some 39) (Nj := some 44) #[I,I,I,I,I,I,I,I,I,I,O,O,I,I,O,O,O] #[I,I,I,I,I,I,I,I,I,O,O,O,I,I,I,O,O] rfl rfl rfl rfl (two_of HT_.out (by kernel_rfl)) (by decide) (by decide) (fun K hK => ?_) (fun K hK => ?_)
                   ·skip
                    refine Kd.R_lit_step (Kd.int .u8) _ 5 ?hg (N := 39) ?hd (xs := ([(wrap64 (97 + ((rd_T37 l0_0 x5_1).f1))) % 256] : List Int)) (inner := [.int .u8 ((wrap64 (97 + ((rd_T37 l0_0 x5_1).f1))) % 256)]) (ok := fun _ => True) (okp := fun _ => True) ?hr ?hp (fun _ hk => hk) trivial (Below.refl _ _) (Nat.le_refl _) (by simp) ?_; (case hd => rfl); (case hg => rfl); (case hr => first | (go_simp; done) | (go_simp; rfl)); (case hp => exact (Reps.one (show Kd.M (Kd.int .u8) _ _ _ ((wrap64 (97 + ((rd_T37 l0_0 x5_1).f1))) % 256) [.int .u8 ((wrap64 (97 + ((rd_T37 l0_0 x5_1).f1))) % 256)] from rfl) (Reps.none _ _)))
                    intro v107 w30 ho31 hb hg_ hnew_
                    clear hg_ hnew_
                    (first | rw [← Ny106.out] at ho31 | (simp only [Int.reduceToNat] at ho31; rw [← Ny106.out] at ho31))
                    have n0_ := Aside0.mk (Kd.R_lower ho31 (below_size (by exact eS HB.out)))
                    have n1_ := Aside0.mk (blk_below (bS BK101.out) hb)
                    have n2_ := Aside0.mk (blk_below (bS BK104.out) hb)
                    have n3_ := Aside0.mk (below_step (by exact eS HB.out) hb)
                    clear BK101
                    clear BK104
                    clear HB
                    have HO108 := n0_
                    have BK101 := n1_
                    have BK104 := n2_
                    have HB := n3_
                    clear n0_ n1_ n2_ n3_
                    clear hb ho31
                    refine hK.out _ _ ⟨(blk_cell BK104.out 0).trans rfl, (blk_cell BK104.out 1).trans rfl, (blk_cell BK104.out 2).trans rfl⟩ (fun hHeld => ?_)
                    clear hK K
                    refine norm_ (a' := ?_) ?_ ?_
                    rotate_left
                    ·show Act.put _ (some 39) _ = _
                     simp only [Z]
                     rfl
                    exact norm_ (by first | (simp only [putAll, Act.put, List.setIfInBounds_toArray, List.set_cons_zero, List.set_cons_succ]; done) | (simp only [putAll, Act.put, List.setIfInBounds_toArray, List.set_cons_zero, List.set_cons_succ]; rfl)) (hJ3_9 (v107) _ ⟨hHeld, (by exact Ho.RS <| HO108.out), (by exact bS BK101.out), (by exact bS BK104.out), (by exact eS HB.out)⟩)
                   ·skip
                    refine goes_ Tryd.func11 (by kernel_rfl) rfl #[.int .i64 ((rd_T37 l0_0 x5_1).f2)] (by rfl) rfl rfl (by (try simp only [List.map_toArray, List.map_cons, List.map_nil]); first | done | rfl | (simp only [List.length_drop, List.length_take]; rfl)) ?_
                    with_reducible refine (spec_l1Num.calls k1 ((rd_T37 l0_0 x5_1).f2) t109 _ A20.out).mono ?_
                    rintro e w30 ⟨rfl, hb⟩
                    refine ⟨_, rfl, ?_⟩
                    have n0_ := Aside0.mk (blk_below (bS BK101.out) hb)
                    have n1_ := Aside0.mk (blk_below (bS BK104.out) hb)
                    have n2_ := Aside0.mk (below_step (by exact eS HB.out) hb)
                    clear BK101
                    clear BK104
                    clear HB
                    have BK101 := n0_
                    have BK104 := n1_
                    have HB := n2_
                    clear n0_ n1_ n2_
                    (try clear hb)
                    (try clear hb2)
                    (try clear hk)
                    (try clear hi)
                    refine hK.out _ _ ⟨(blk_cell BK104.out 0).trans rfl, (blk_cell BK104.out 1).trans rfl, (blk_cell BK104.out 2).trans rfl⟩ (fun hHeld => ?_)
                    clear hK K
                    refine norm_ (a' := ?_) ?_ ?_
                    rotate_left
                    ·show Act.put _ (some 44) _ = _
                     simp only [Z]
                     rfl
                    exact norm_ (by first | (simp only [putAll, Act.put, List.setIfInBounds_toArray, List.set_cons_zero, List.set_cons_succ]; done) | (simp only [putAll, Act.put, List.setIfInBounds_toArray, List.set_cons_zero, List.set_cons_succ]; rfl)) (hJ3_14 () _ ⟨hHeld, (by exact bS BK101.out), (by exact bS BK104.out), (by exact eS HB.out)⟩)
                 ·skip
                  rintro v107 w31 ⟨hS_, h0_, h1_, h2_, h3_⟩
                  have n0_ : Aside0 (Kd.R (Kd.int .u8) 5 w31 w.heap.size (fun _ => True) v107 y106) := ⟨h0_⟩
                  have n1_ : Aside0 (w31.heap[gb101]? = some (.cells #[.slice (some ad103) l0_0.length c0_0, .int .i64 a0_1, .int .i64 a0_2, .int .i64 a0_3, .int .i64 a0_4] 30 (0, 0))) := ⟨h1_⟩
                  have n2_ : Aside0 (w31.heap[gb104]? = some (.cells #[.int .i64 ((rd_T37 l0_0 x5_1).f0), .int .i64 ((rd_T37 l0_0 x5_1).f1), .int .i64 ((rd_T37 l0_0 x5_1).f2)] 37 (0, 0))) := ⟨h2_⟩
                  have n3_ : Aside0 (Below w.heap.size w w31) := ⟨h3_⟩
                  clear BK101
                  clear BK104
                  clear HB
                  clear h0_ h1_ h2_ h3_
                  have HO108 := n0_
                  have BK101 := n1_
                  have BK104 := n2_
                  have HB := n3_
                  clear n0_ n1_ n2_ n3_
                  have hHeld : w31.cell? ⟨gb104, 0, none⟩ = some (.int .i64 ((rd_T37 l0_0 x5_1).f0)) ∧ w31.cell? ⟨gb104, 1, none⟩ = some (.int .i64 ((rd_T37 l0_0 x5_1).f1)) ∧ w31.cell? ⟨gb104, 2, none⟩ = some (.int .i64 ((rd_T37 l0_0 x5_1).f2)) := hS_
                  refine norm_ (a' := ?_) ?_ ?_
                  rotate_left
                  ·simp only [putAll, Act.put, List.setIfInBounds_toArray, List.set_cons_zero, List.set_cons_succ]
                   rfl
                  refine one_ (i := 3) (N := some 33) #[I,I,I,I,O,I,I,I,I,I,I,O,I,I,O,O,O] rfl rfl (one_of HT_.out (by kernel_rfl)) (by decide) (fun K hK => ?_)
                  refine goes_ Tryd.func11 (by kernel_rfl) rfl #[.int .i64 ((rd_T37 l0_0 x5_1).f0)] (by rfl) rfl rfl (by (try simp only [List.map_toArray, List.map_cons, List.map_nil]); first | done | rfl | (simp only [List.length_drop, List.length_take]; rfl)) ?_
                  with_reducible refine (spec_l1Num.calls k1 ((rd_T37 l0_0 x5_1).f0) t105 _ A17.out).mono ?_
                  rintro e w32 ⟨rfl, hb⟩
                  refine ⟨_, rfl, ?_⟩
                  have n0_ := Aside0.mk (Kd.R_below (by exact Ho.RS <| HO108.out) hb)
                  have n1_ := Aside0.mk (blk_below (bS BK101.out) hb)
                  have n2_ := Aside0.mk (blk_below (bS BK104.out) hb)
                  have n3_ := Aside0.mk (below_step (by exact eS HB.out) hb)
                  clear HO108
                  clear BK101
                  clear BK104
                  clear HB
                  have HO108 := n0_
                  have BK101 := n1_
                  have BK104 := n2_
                  have HB := n3_
                  clear n0_ n1_ n2_ n3_
                  (try clear hb)
                  (try clear hb2)
                  (try clear hk)
                  (try clear hi)
                  refine hK.out _ _ ⟨(blk_cell BK104.out 0).trans rfl, (blk_cell BK104.out 1).trans rfl, (blk_cell BK104.out 2).trans rfl⟩ (fun hHeld => ?_)
                  clear hK K
                  refine norm_ (a' := ?_) ?_ ?_
                  rotate_left
                  ·show Act.put _ (some 33) _ = _
                   simp only [Z]
                   rfl
                  refine pure_ (i := 4) (N := some 34) (v := ?_) (a' := ?_) #[I,I,I,I,I,I,I,I,I,I,I,O,I,I,O,O,O] rfl rfl (any_of HT_.out (by kernel_rfl)) (fun _ _ _ h => h) (Or.inl ⟨by rfl, ?_⟩) ?_ ?_
                  rotate_left; (intro w'; go_simp; with_reducible rfl); rotate_left; (simp only [Z]; rfl)
                  refine pure_ (i := 11) (N := some 41) (v := ?_) (a' := ?_) #[I,I,I,I,I,I,I,I,I,I,I,I,I,I,O,O,O] rfl rfl (any_of HT_.out (by kernel_rfl)) (fun _ _ _ h => h) (Or.inl ⟨by rfl, ?_⟩) ?_ ?_
                  rotate_left; (intro w'; go_simp; with_reducible rfl); rotate_left; (simp only [Z]; rfl)
                  exact norm_ (by first | (simp only [putAll, Act.put, List.setIfInBounds_toArray, List.set_cons_zero, List.set_cons_succ]; done) | (simp only [putAll, Act.put, List.setIfInBounds_toArray, List.set_cons_zero, List.set_cons_succ]; rfl)) (hJ3_9_10 (v107) _ ⟨hHeld, (by exact Ho.RS <| HO108.out), (by exact bS BK101.out), (by exact bS BK104.out), (by exact eS HB.out)⟩)
                ·skip
                 rintro _ w30 ⟨hS_, h0_, h1_, h2_⟩
                 have n0_ : Aside0 (w30.heap[gb101]? = some (.cells #[.slice (some ad103) l0_0.length c0_0, .int .i64 a0_1, .int .i64 a0_2, .int .i64 a0_3, .int .i64 a0_4] 30 (0, 0))) := ⟨h0_⟩
                 have n1_ : Aside0 (w30.heap[gb104]? = some (.cells #[.int .i64 ((rd_T37 l0_0 x5_1).f0), .int .i64 ((rd_T37 l0_0 x5_1).f1), .int .i64 ((rd_T37 l0_0 x5_1).f2)] 37 (0, 0))) := ⟨h1_⟩
                 have n2_ : Aside0 (Below w.heap.size w w30) := ⟨h2_⟩
                 clear BK101
                 clear BK104
                 clear HB
                 clear h0_ h1_ h2_
                 have BK101 := n0_
                 have BK104 := n1_
                 have HB := n2_
                 clear n0_ n1_ n2_
                 have hHeld : w30.cell? ⟨gb104, 0, none⟩ = some (.int .i64 ((rd_T37 l0_0 x5_1).f0)) ∧ w30.cell? ⟨gb104, 1, none⟩ = some (.int .i64 ((rd_T37 l0_0 x5_1).f1)) ∧ w30.cell? ⟨gb104, 2, none⟩ = some (.int .i64 ((rd_T37 l0_0 x5_1).f2)) := hS_
                 refine norm_ (a' := ?_) ?_ ?_
                 rotate_left
                 ·simp only [putAll, Act.put, List.setIfInBounds_toArray, List.set_cons_zero, List.set_cons_succ]
                  rfl
                 refine one_ (i := 9) (N := some 39) #[I,I,I,I,I,I,I,I,I,I,O,O,I,I,I,O,O] rfl rfl (one_of HT_.out (by kernel_rfl)) (by decide) (fun K hK => ?_)
                 refine Kd.R_lit_step (Kd.int .u8) _ 5 ?hg (N := 39) ?hd (xs := ([(wrap64 (97 + ((rd_T37 l0_0 x5_1).f1))) % 256] : List Int)) (inner := [.int .u8 ((wrap64 (97 + ((rd_T37 l0_0 x5_1).f1))) % 256)]) (ok := fun _ => True) (okp := fun _ => True) ?hr ?hp (fun _ hk => hk) trivial (Below.refl _ _) (Nat.le_refl _) (by simp) ?_; (case hd => rfl); (case hg => rfl); (case hr => first | (go_simp; done) | (go_simp; rfl)); (case hp => exact (Reps.one (show Kd.M (Kd.int .u8) _ _ _ ((wrap64 (97 + ((rd_T37 l0_0 x5_1).f1))) % 256) [.int .u8 ((wrap64 (97 + ((rd_T37 l0_0 x5_1).f1))) % 256)] from rfl) (Reps.none _ _)))
                 intro v107 w31 ho32 hb hg_ hnew_
                 clear hg_ hnew_
                 (first | rw [← Ny106.out] at ho32 | (simp only [Int.reduceToNat] at ho32; rw [← Ny106.out] at ho32))
                 have n0_ := Aside0.mk (Kd.R_lower ho32 (below_size (by exact eS HB.out)))
                 have n1_ := Aside0.mk (blk_below (bS BK101.out) hb)
                 have n2_ := Aside0.mk (blk_below (bS BK104.out) hb)
                 have n3_ := Aside0.mk (below_step (by exact eS HB.out) hb)
                 clear BK101
                 clear BK104
                 clear HB
                 have HO108 := n0_
                 have BK101 := n1_
                 have BK104 := n2_
                 have HB := n3_
                 clear n0_ n1_ n2_ n3_
                 clear hb ho32
                 refine hK.out _ _ ⟨(blk_cell BK104.out 0).trans rfl, (blk_cell BK104.out 1).trans rfl, (blk_cell BK104.out 2).trans rfl⟩ (fun hHeld => ?_)
                 clear hK K
                 refine norm_ (a' := ?_) ?_ ?_
                 rotate_left
                 ·show Act.put _ (some 39) _ = _
                  simp only [Z]
                  rfl
                 exact norm_ (by first | (simp only [putAll, Act.put, List.setIfInBounds_toArray, List.set_cons_zero, List.set_cons_succ]; done) | (simp only [putAll, Act.put, List.setIfInBounds_toArray, List.set_cons_zero, List.set_cons_succ]; rfl)) (hJ3_9_14 (v107) _ ⟨hHeld, (by exact Ho.RS <| HO108.out), (by exact bS BK101.out), (by exact bS BK104.out), (by exact eS HB.out)⟩)
               ·skip
                rintro v107 w31 ⟨hS_, h0_, h1_, h2_, h3_⟩
                have n0_ : Aside0 (Kd.R (Kd.int .u8) 5 w31 w.heap.size (fun _ => True) v107 y106) := ⟨h0_⟩
                have n1_ : Aside0 (w31.heap[gb101]? = some (.cells #[.slice (some ad103) l0_0.length c0_0, .int .i64 a0_1, .int .i64 a0_2, .int .i64 a0_3, .int .i64 a0_4] 30 (0, 0))) := ⟨h1_⟩
                have n2_ : Aside0 (w31.heap[gb104]? = some (.cells #[.int .i64 ((rd_T37 l0_0 x5_1).f0), .int .i64 ((rd_T37 l0_0 x5_1).f1), .int .i64 ((rd_T37 l0_0 x5_1).f2)] 37 (0, 0))) := ⟨h2_⟩
                have n3_ : Aside0 (Below w.heap.size w w31) := ⟨h3_⟩
                clear BK101
                clear BK104
                clear HB
                clear h0_ h1_ h2_ h3_
                have HO108 := n0_
                have BK101 := n1_
                have BK104 := n2_
                have HB := n3_
                clear n0_ n1_ n2_ n3_
                have hHeld : w31.cell? ⟨gb104, 0, none⟩ = some (.int .i64 ((rd_T37 l0_0 x5_1).f0)) ∧ w31.cell? ⟨gb104, 1, none⟩ = some (.int .i64 ((rd_T37 l0_0 x5_1).f1)) ∧ w31.cell? ⟨gb104, 2, none⟩ = some (.int .i64 ((rd_T37 l0_0 x5_1).f2)) := hS_
                refine norm_ (a' := ?_) ?_ ?_
                rotate_left
                ·simp only [putAll, Act.put, List.setIfInBounds_toArray, List.set_cons_zero, List.set_cons_succ]
                 rfl
                refine two_ (i := 10) (j := 14) (Ni := some 40) (Nj := some 44) #[I,I,I,I,I,I,I,I,I,I,I,O,I,I,O,O,O] #[I,I,I,I,I,I,I,I,I,I,O,O,I,I,I,O,O] rfl rfl rfl rfl (two_of HT_.out (by kernel_rfl)) (by decide) (by decide) (fun K hK => ?_) (fun K hK => ?_)
                ·skip
                 have hcv32 := own_string (P := Tryd.prog) Tryd.underlying39 Tryd.underlying5 Tryd.underlying9 (Kd.own_of_R HO108.out)
                 refine value_ (w1 := ?_) (v := ?_) (by rfl) rfl ?_ ?_
                 rotate_left 2
                 ·go_simp
                  constructor
                  ·rfl
                  ·rfl
                 clear hcv32
                 refine hK.out _ _ ⟨(blk_cell BK104.out 0).trans rfl, (blk_cell BK104.out 1).trans rfl, (blk_cell BK104.out 2).trans rfl⟩ (fun hHeld => ?_)
                 clear hK K
                 refine norm_ (a' := ?_) ?_ ?_
                 rotate_left
                 ·show Act.put _ (some 40) _ = _
                  simp only [Z]
                  rfl
                 refine pure_ (i := 11) (N := some 41) (v := ?_) (a' := ?_) #[I,I,I,I,I,I,I,I,I,I,I,I,I,I,O,O,O] rfl rfl (any_of HT_.out (by kernel_rfl)) (fun _ _ _ h => h) (Or.inl ⟨by rfl, ?_⟩) ?_ ?_
                 rotate_left; (intro w'; go_simp; with_reducible rfl); rotate_left; (simp only [Z]; rfl)
                 exact norm_ (by first | (simp only [putAll, Act.put, List.setIfInBounds_toArray, List.set_cons_zero, List.set_cons_succ]; done) | (simp only [putAll, Act.put, List.setIfInBounds_toArray, List.set_cons_zero, List.set_cons_succ]; rfl)) (hJ3_9_10 (v107) _ ⟨hHeld, (by exact Ho.RS <| HO108.out), (by exact bS BK101.out), (by exact bS BK104.out), (by exact eS HB.out)⟩)
                ·skip
                 refine goes_ Tryd.func11 (by kernel_rfl) rfl #[.int .i64 ((rd_T37 l0_0 x5_1).f2)] (by rfl) rfl rfl (by (try simp only [List.map_toArray, List.map_cons, List.map_nil]); first | done | rfl | (simp only [List.length_drop, List.length_take]; rfl)) ?_
                 with_reducible refine (spec_l1Num.calls k1 ((rd_T37 l0_0 x5_1).f2) t109 _ A20.out).mono ?_
                 rintro e w32 ⟨rfl, hb⟩
                 refine ⟨_, rfl, ?_⟩
                 have n0_ := Aside0.mk (Kd.R_below (by exact Ho.RS <| HO108.out) hb)
                 have n1_ := Aside0.mk (blk_below (bS BK101.out) hb)
                 have n2_ := Aside0.mk (blk_below (bS BK104.out) hb)
                 have n3_ := Aside0.mk (below_step (by exact eS HB.out) hb)
                 clear HO108
                 clear BK101
                 clear BK104
                 clear HB
                 have HO108 := n0_
                 have BK101 := n1_
                 have BK104 := n2_
                 have HB := n3_
                 clear n0_ n1_ n2_ n3_
                 (try clear hb)
                 (try clear hb2)
                 (try clear hk)
                 (try clear hi)
                 refine hK.out _ _ ⟨(blk_cell BK104.out 0).trans rfl, (blk_cell BK104.out 1).trans rfl, (blk_cell BK104.out 2).trans rfl⟩ (fun hHeld => ?_)
                 clear hK K
                 refine norm_ (a' := ?_) ?_ ?_
                 rotate_left
                 ·show Act.put _ (some 44) _ = _
                  simp only [Z]
                  rfl
                 exact norm_ (by first | (simp only [putAll, Act.put, List.setIfInBounds_toArray, List.set_cons_zero, List.set_cons_succ]; done) | (simp only [putAll, Act.put, List.setIfInBounds_toArray, List.set_cons_zero, List.set_cons_succ]; rfl)) (hJ3_9_14 (v107) _ ⟨hHeld, (by exact Ho.RS <| HO108.out), (by exact bS BK101.out), (by exact bS BK104.out), (by exact eS HB.out)⟩)
              ·skip
               rintro v107 w32 ⟨hS_, h0_, h1_, h2_, h3_⟩
               have n0_ : Aside0 (Kd.R (Kd.int .u8) 5 w32 w.heap.size (fun _ => True) v107 y106) := ⟨h0_⟩
               have n1_ : Aside0 (w32.heap[gb101]? = some (.cells #[.slice (some ad103) l0_0.length c0_0, .int .i64 a0_1, .int .i64 a0_2, .int .i64 a0_3, .int .i64 a0_4] 30 (0, 0))) := ⟨h1_⟩
               have n2_ : Aside0 (w32.heap[gb104]? = some (.cells #[.int .i64 ((rd_T37 l0_0 x5_1).f0), .int .i64 ((rd_T37 l0_0 x5_1).f1), .int .i64 ((rd_T37 l0_0 x5_1).f2)] 37 (0, 0))) := ⟨h2_⟩
               have n3_ : Aside0 (Below w.heap.size w w32) := ⟨h3_⟩
               clear BK101
               clear BK104
               clear HB
               clear h0_ h1_ h2_ h3_
               have HO108 := n0_
               have BK101 := n1_
               have BK104 := n2_
               have HB := n3_
               clear n0_ n1_ n2_ n3_
               have hHeld : w32.cell? ⟨gb104, 0, none⟩ = some (.int .i64 ((rd_T37 l0_0 x5_1).f0)) ∧ w32.cell? ⟨gb104, 1, none⟩ = some (.int .i64 ((rd_T37 l0_0 x5_1).f1)) ∧ w32.cell? ⟨gb104, 2, none⟩ = some (.int .i64 ((rd_T37 l0_0 x5_1).f2)) := hS_
               refine norm_ (a' := ?_) ?_ ?_
               rotate_left
               ·simp only [putAll, Act.put, List.setIfInBounds_toArray, List.set_cons_zero, List.set_cons_succ]
                rfl
               refine one_ (i := 10) (N := some 40) #[I,I,I,I,I,I,I,I,I,I,I,O,I,I,I,O,O] rfl rfl (one_of HT_.out (by kernel_rfl)) (by decide) (fun K hK => ?_)
               have hcv33 := own_string (P := Tryd.prog) Tryd.underlying39 Tryd.underlying5 Tryd.underlying9 (Kd.own_of_R HO108.out)
               refine value_ (w1 := ?_) (v := ?_) (by rfl) rfl ?_ ?_
               rotate_left 2
               ·go_simp
                constructor
                ·rfl
                ·rfl
               clear hcv33
               refine hK.out _ _ ⟨(blk_cell BK104.out 0).trans rfl, (blk_cell BK104.out 1).trans rfl, (blk_cell BK104.out 2).trans rfl⟩ (fun hHeld => ?_)
               clear hK K
               refine norm_ (a' := ?_) ?_ ?_
               rotate_left
               ·show Act.put _ (some 40) _ = _
                simp only [Z]
                rfl
               refine pure_ (i := 11) (N := some 41) (v := ?_) (a' := ?_) #[I,I,I,I,I,I,I,I,I,I,I,I,I,I,I,O,O] rfl rfl (any_of HT_.out (by kernel_rfl)) (fun _ _ _ h => h) (Or.inl ⟨by rfl, ?_⟩) ?_ ?_
               rotate_left; (intro w'; go_simp; with_reducible rfl); rotate_left; (simp only [Z]; rfl)
               exact norm_ (by first | (simp only [putAll, Act.put, List.setIfInBounds_toArray, List.set_cons_zero, List.set_cons_succ]; done) | (simp only [putAll, Act.put, List.setIfInBounds_toArray, List.set_cons_zero, List.set_cons_succ]; rfl)) (hJ3_9_10_14 (v107) _ ⟨hHeld, (by exact Ho.RS <| HO108.out), (by exact bS BK101.out), (by exact bS BK104.out), (by exact eS HB.out)⟩)
             ·skip
              rintro v107 w32 ⟨hS_, h0_, h1_, h2_, h3_⟩
              have n0_ : Aside0 (Kd.R (Kd.int .u8) 5 w32 w.heap.size (fun _ => True) v107 y106) := ⟨h0_⟩
              have n1_ : Aside0 (w32.heap[gb101]? = some (.cells #[.slice (some ad103) l0_0.length c0_0, .int .i64 a0_1, .int .i64 a0_2, .int .i64 a0_3, .int .i64 a0_4] 30 (0, 0))) := ⟨h1_⟩
              have n2_ : Aside0 (w32.heap[gb104]? = some (.cells #[.int .i64 ((rd_T37 l0_0 x5_1).f0), .int .i64 ((rd_T37 l0_0 x5_1).f1), .int .i64 ((rd_T37 l0_0 x5_1).f2)] 37 (0, 0))) := ⟨h2_⟩
              have n3_ : Aside0 (Below w.heap.size w w32) := ⟨h3_⟩
              clear BK101
              clear BK104
              clear HB
              clear h0_ h1_ h2_ h3_
              have HO108 := n0_
              have BK101 := n1_
              have BK104 := n2_
              have HB := n3_
              clear n0_ n1_ n2_ n3_
              have hHeld : w32.cell? ⟨gb104, 0, none⟩ = some (.int .i64 ((rd_T37 l0_0 x5_1).f0)) ∧ w32.cell? ⟨gb104, 1, none⟩ = some (.int .i64 ((rd_T37 l0_0 x5_1).f1)) ∧ w32.cell? ⟨gb104, 2, none⟩ = some (.int .i64 ((rd_T37 l0_0 x5_1).f2)) := hS_
              refine norm_ (a' := ?_) ?_ ?_
              rotate_left
              ·simp only [putAll, Act.put, List.setIfInBounds_toArray, List.set_cons_zero, List.set_cons_succ]
               rfl
              refine one_ (i := 14) (N := some 44) #[I,I,I,I,I,I,I,I,I,I,I,I,I,I,I,O,O] rfl rfl (one_of HT_.out (by kernel_rfl)) (by decide) (fun K hK => ?_)
              refine goes_ Tryd.func11 (by kernel_rfl) rfl #[.int .i64 ((rd_T37 l0_0 x5_1).f2)] (by rfl) rfl rfl (by (try simp only [List.map_toArray, List.map_cons, List.map_nil]); first | done | rfl | (simp only [List.length_drop, List.length_take]; rfl)) ?_
              with_reducible refine (spec_l1Num.calls k1 ((rd_T37 l0_0 x5_1).f2) t109 _ A20.out).mono ?_
              rintro e w33 ⟨rfl, hb⟩
              refine ⟨_, rfl, ?_⟩
              have n0_ := Aside0.mk (Kd.R_below (by exact Ho.RS <| HO108.out) hb)
              have n1_ := Aside0.mk (blk_below (bS BK101.out) hb)
              have n2_ := Aside0.mk (blk_below (bS BK104.out) hb)
              have n3_ := Aside0.mk (below_step (by exact eS HB.out) hb)
              clear HO108
              clear BK101
              clear BK104
              clear HB
              have HO108 := n0_
              have BK101 := n1_
              have BK104 := n2_
              have HB := n3_
              clear n0_ n1_ n2_ n3_
              (try clear hb)
              (try clear hb2)
              (try clear hk)
              (try clear hi)
              refine hK.out _ _ ⟨(blk_cell BK104.out 0).trans rfl, (blk_cell BK104.out 1).trans rfl, (blk_cell BK104.out 2).trans rfl⟩ (fun hHeld => ?_)
              clear hK K
              refine norm_ (a' := ?_) ?_ ?_
              rotate_left
              ·show Act.put _ (some 44) _ = _
               simp only [Z]
               rfl
              exact norm_ (by first | (simp only [putAll, Act.put, List.setIfInBounds_toArray, List.set_cons_zero, List.set_cons_succ]; done) | (simp only [putAll, Act.put, List.setIfInBounds_toArray, List.set_cons_zero, List.set_cons_succ]; rfl)) (hJ3_9_10_14 (v107) _ ⟨hHeld, (by exact Ho.RS <| HO108.out), (by exact bS BK101.out), (by exact bS BK104.out), (by exact eS HB.out)⟩)
            rintro v107 w33 ⟨hS_, h0_, h1_, h2_, h3_⟩
            have n0_ : Aside0 (Kd.R (Kd.int .u8) 5 w33 w.heap.size (fun _ => True) v107 y106) := ⟨h0_⟩
            have n1_ : Aside0 (w33.heap[gb101]? = some (.cells #[.slice (some ad103) l0_0.length c0_0, .int .i64 a0_1, .int .i64 a0_2, .int .i64 a0_3, .int .i64 a0_4] 30 (0, 0))) := ⟨h1_⟩
            have n2_ : Aside0 (w33.heap[gb104]? = some (.cells #[.int .i64 ((rd_T37 l0_0 x5_1).f0), .int .i64 ((rd_T37 l0_0 x5_1).f1), .int .i64 ((rd_T37 l0_0 x5_1).f2)] 37 (0, 0))) := ⟨h2_⟩
            have n3_ : Aside0 (Below w.heap.size w w33) := ⟨h3_⟩
            clear BK101
            clear BK104
            clear HB
            clear h0_ h1_ h2_ h3_
            have HO108 := n0_
            have BK101 := n1_
            have BK104 := n2_
            have HB := n3_
            clear n0_ n1_ n2_ n3_
            have hHeld : w33.cell? ⟨gb104, 0, none⟩ = some (.int .i64 ((rd_T37 l0_0 x5_1).f0)) ∧ w33.cell? ⟨gb104, 1, none⟩ = some (.int .i64 ((rd_T37 l0_0 x5_1).f1)) ∧ w33.cell? ⟨gb104, 2, none⟩ = some (.int .i64 ((rd_T37 l0_0 x5_1).f2)) := hS_
            refine norm_ (a' := ?_) ?_ ?_
            rotate_left
            ·simp only [putAll, Act.put, List.setIfInBounds_toArray, List.set_cons_zero, List.set_cons_succ]
             rfl
            refine pure_ (i := 15) (N := some 45) (v := ?_) (a' := ?_) #[I,I,I,I,I,I,I,I,I,I,I,I,I,I,I,I,O] rfl rfl (any_of HT_.out (by kernel_rfl)) (fun _ _ _ h => h) (Or.inl ⟨by rfl, ?_⟩) ?_ ?_
            rotate_left; (intro w'; go_simp; with_reducible rfl); rotate_left; (simp only [Z]; rfl)
            refine pure_ (i := 16) (N := some 4) (v := ?_) (a' := ?_) #[I,I,I,I,I,I,I,I,I,I,I,I,I,I,I,I,I] rfl rfl (any_of HT_.out (by kernel_rfl)) (fun _ _ _ h => h) (Or.inl ⟨by rfl, ?_⟩) ?_ ?_
            rotate_left; (intro w'; go_simp; with_reducible rfl); rotate_left; (simp only [Z]; rfl)
            refine done_ (done_of HT_.out (by kernel_rfl)) ?_
            try go_wp2
            go_roundg k1
            case measure => have := HK1.out; omega
            case rel => exact ⟨((((x4_1 ++ (⟨#[32]⟩ : ByteArray)) ++ t105) ++ (strOfNums y106)) ++ t109), (wrap64 (x5_1 + 1)), (by first | rfl | (simp; done) | (simp [*]; done)), (by first | rfl | (simp; done) | (simp [*]; done)), H', ⟨by have := HK1.out; omega⟩, ⟨by exact bS BK101.out⟩, ⟨by exact eS HB.out⟩⟩
           ·rw [if_neg c21] at H
            exact absurd H (by simp)
          ·rw [if_neg c19] at H
           exact absurd H (by simp)
         ·rw [if_neg c18] at H
          exact absurd H (by simp)
        ·rw [if_neg c16] at H
         exact absurd H (by simp)
       ·rw [if_neg c15] at H
        have c15b0 : decide (0 < x5_1) = false := decide_eq_false c15
        clear c15
        replace H := Option.bind_eq_some_iff.mp H
        obtain ⟨t110, A340, H⟩ := H
        replace H : (if x4_1.size + t110.size ≤ 9223372036854775807 then ((some (([(wrap64 (97 + ((rd_T37 l0_0 x5_1).f1))) % 256] : List Int) : List Int)).bind fun y111 => (if (x4_1 ++ t110).size + (strOfNums y111).size ≤ 9223372036854775807 then ((spec_l1Num.f k1 ((rd_T37 l0_0 x5_1).f2)).bind fun t114 => (if ((x4_1 ++ t110) ++ (strOfNums y111)).size + t114.size ≤ 9223372036854775807 then (spec_YarnStoreText.l0 k1 (((x4_1 ++ t110) ++ (strOfNums y111)) ++ t114) (wrap64 (x5_1 + 1)) l0_0 a0_1 a0_2 a0_3 a0_4) else (none))) else (none))) else (none)) = some (r1, r2) := H
        have A34 := Aside0.mk A340
        clear A340
        by_cases c35 : x4_1.size + t110.size ≤ 9223372036854775807
        ·rw [if_pos c35] at H
         have c35b0 := eq_true c35
         have c35b1 : decide (x4_1.size + t110.size ≤ 9223372036854775807) = true := decide_eq_true c35
         try have c35b2 : (9223372036854775807 < x4_1.size + t110.size) = False := eq_false (Nat.not_lt.2 c35)
         (try (have c35b3 := c35b2; simp only [ByteArray.size_append] at c35b3))
         obtain ⟨y111, hy111⟩ : ∃ y_ : List Int, y_ = (([(wrap64 (97 + ((rd_T37 l0_0 x5_1).f1))) % 256] : List Int)) := ⟨_, rfl⟩
         replace H : (if (x4_1 ++ t110).size + (strOfNums y111).size ≤ 9223372036854775807 then ((spec_l1Num.f k1 ((rd_T37 l0_0 x5_1).f2)).bind fun t114 => (if ((x4_1 ++ t110) ++ (strOfNums y111)).size + t114.size ≤ 9223372036854775807 then (spec_YarnStoreText.l0 k1 (((x4_1 ++ t110) ++ (strOfNums y111)) ++ t114) (wrap64 (x5_1 + 1)) l0_0 a0_1 a0_2 a0_3 a0_4) else (none))) else (none)) = some (r1, r2) := by first | (rw [hy111]; with_reducible exact H) | (have H2_ := (Option.bind_some _ _).symm.trans H; rw [hy111]; with_reducible exact H2_) | (have H2_ := (Option.bind_some _ _).symm.trans H; with_reducible exact H2_) | with_reducible exact H | (rw [hy111]; exact H) | exact H
         have Ny111 := Aside0.mk hy111
         clear hy111
         by_cases c36 : (x4_1 ++ t110).size + (strOfNums y111).size ≤ 9223372036854775807
         ·rw [if_pos c36] at H
          have c36b0 := eq_true c36
          have c36b1 : decide ((x4_1 ++ t110).size + (strOfNums y111).size ≤ 9223372036854775807) = true := decide_eq_true c36
          try have c36b2 : (9223372036854775807 < (x4_1 ++ t110).size + (strOfNums y111).size) = False := eq_false (Nat.not_lt.2 c36)
          (try (have c36b3 := c36b2; simp only [ByteArray.size_append] at c36b3))
          replace H := Option.bind_eq_some_iff.mp H
          obtain ⟨t114, A370, H⟩ := H
          replace H : (if ((x4_1 ++ t110) ++ (strOfNums y111)).size + t114.size ≤ 9223372036854775807 then (spec_YarnStoreText.l0 k1 (((x4_1 ++ t110) ++ (strOfNums y111)) ++ t114) (wrap64 (x5_1 + 1)) l0_0 a0_1 a0_2 a0_3 a0_4) else (none)) = some (r1, r2) := H
          have A37 := Aside0.mk A370
          clear A370
          by_cases c38 : ((x4_1 ++ t110) ++ (strOfNums y111)).size + t114.size ≤ 9223372036854775807
          ·rw [if_pos c38] at H
           have c38b0 := eq_true c38
           have c38b1 : decide (((x4_1 ++ t110) ++ (strOfNums y111)).size + t114.size ≤ 9223372036854775807) = true := decide_eq_true c38
           try have c38b2 : (9223372036854775807 < ((x4_1 ++ t110) ++ (strOfNums y111)).size + t114.size) = False := eq_false (Nat.not_lt.2 c38)
           (try (have c38b3 := c38b2; simp only [ByteArray.size_append] at c38b3))
           have H' := Aside0.mk H
           clear H
           have hcz39_0 : wr.cell? ⟨gb101, 0, none⟩ = some (.slice A0_0 l0_0.length c0_0) := (blk_cell BK101.out 0).trans rfl
           have hcz39_1 : wr.cell? ⟨gb101, 1, none⟩ = some (.int .i64 a0_1) := (blk_cell BK101.out 1).trans rfl
           have hcz39_2 : wr.cell? ⟨gb101, 2, none⟩ = some (.int .i64 a0_2) := (blk_cell BK101.out 2).trans rfl
           have hcz39_3 : wr.cell? ⟨gb101, 3, none⟩ = some (.int .i64 a0_3) := (blk_cell BK101.out 3).trans rfl
           have hcz39_4 : wr.cell? ⟨gb101, 4, none⟩ = some (.int .i64 a0_4) := (blk_cell BK101.out 4).trans rfl
           have hfz39_0 := blk_frozen BK101.out 0
           have hfz39_1 := blk_frozen BK101.out 1
           have hfz39_2 := blk_frozen BK101.out 2
           have hfz39_3 := blk_frozen BK101.out 3
           have hfz39_4 := blk_frozen BK101.out 4
           have p103 : 0 ≤ (x5_1 : Int) := of_decide_eq_true (by first | (with_reducible assumption) | assumption)
           have q103 : x5_1 < (l0_0.length : Int) := of_decide_eq_true (by first | (with_reducible assumption) | assumption)
           obtain ⟨ad103, e103, hx103_0, hx103_1, hx103_2⟩ := at_T37 HR0_0.out x5_1 p103 q103
           cases e103
           replace hx103_0 := (HB.out.cell (World.block_lt_of_cell? w _ hx103_0)).trans hx103_0
           replace hx103_1 := (HB.out.cell (World.block_lt_of_cell? w _ hx103_1)).trans hx103_1
           replace hx103_2 := (HB.out.cell (World.block_lt_of_cell? w _ hx103_2)).trans hx103_2
           replace p103 := eq_true p103
           replace q103 := eq_true q103
           try go_wp2_with (first | ((with_reducible refine gate_dst (N := 6) rfl ?_); refine box_event ?hg (N := 6) ?hd (cs := #[.int .i64 0, .int .i64 0, .int .i64 0]) (t := 37) ?hr ?_; (case hd => rfl); (case hg => rfl); (case hr => first | (go_simp; done) | (go_simp; rfl)); intro gb104 hg w40 hbox hb; have n0_ := Aside0.mk (blk_below (bS BK101.out) hb); have n1_ := Aside0.mk (below_step (by exact eS HB.out) hb); have n2_ := Aside0.mk (hbox); have n3_ := Aside0.mk ((by rw [hg]; exact (below_size (by exact eS HB.out)) : w.heap.size ≤ gb104)); have n4_ := Aside0.mk ((by rw [hg]; exact (below_size (by exact eS HB.out)) : w.heap.size ≤ gb104)); have n5_ := Aside0.mk ((by rw [hg]; exact Nat.ne_of_lt (blk_lt (bS BK101.out)) : gb101 ≠ gb104)); have n6_ := Aside0.mk ((by rw [hg]; exact Nat.ne_of_gt (blk_lt (bS BK101.out)) : gb104 ≠ gb101)); clear BK101; clear HB; have BK101 := n0_; have HB := n1_; have BK104 := n2_; have GW104 := n3_; have GE104 := n4_; have NB101_104 := n5_; have NB104_101 := n6_; clear n0_ n1_ n2_ n3_ n4_ n5_ n6_; clear hb hbox hg; have hnb41 := NB104_101.out; have hnc41 := NB101_104.out; have hcz42_0 : w40.cell? ⟨gb104, 0, none⟩ = some (.int .i64 0) := (blk_cell BK104.out 0).trans rfl; have hcz42_1 : w40.cell? ⟨gb104, 1, none⟩ = some (.int .i64 0) := (blk_cell BK104.out 1).trans rfl; have hcz42_2 : w40.cell? ⟨gb104, 2, none⟩ = some (.int .i64 0) := (blk_cell BK104.out 2).trans rfl; have hfz42_0 := blk_frozen BK104.out 0; have hfz42_1 := blk_frozen BK104.out 1; have hfz42_2 := blk_frozen BK104.out 2))
           have n0_ : Aside0 ((((w40.setCell ⟨gb104, 0, none⟩ (.int .i64 ((rd_T37 l0_0 x5_1).f0))).setCell ⟨gb104, 1, none⟩ (.int .i64 ((rd_T37 l0_0 x5_1).f1))).setCell ⟨gb104, 2, none⟩ (.int .i64 ((rd_T37 l0_0 x5_1).f2))).heap[gb101]? = some (.cells #[.slice (some ad103) l0_0.length c0_0, .int .i64 a0_1, .int .i64 a0_2, .int .i64 a0_3, .int .i64 a0_4] 30 (0, 0))) := ⟨by (with_reducible repeat (first | refine blk_drewN ?_ _ | refine blk_drew ?_ | refine blk_alloc ?_ _)); refine blk_far ?_ NB101_104.out _; (with_reducible repeat (first | refine blk_drewN ?_ _ | refine blk_drew ?_ | refine blk_alloc ?_ _)); refine blk_far ?_ NB101_104.out _; (with_reducible repeat (first | refine blk_drewN ?_ _ | refine blk_drew ?_ | refine blk_alloc ?_ _)); refine blk_far ?_ NB101_104.out _; exact bS BK101.out⟩
           have n1_ : Aside0 ((((w40.setCell ⟨gb104, 0, none⟩ (.int .i64 ((rd_T37 l0_0 x5_1).f0))).setCell ⟨gb104, 1, none⟩ (.int .i64 ((rd_T37 l0_0 x5_1).f1))).setCell ⟨gb104, 2, none⟩ (.int .i64 ((rd_T37 l0_0 x5_1).f2))).heap[gb104]? = some (.cells #[.int .i64 ((rd_T37 l0_0 x5_1).f0), .int .i64 ((rd_T37 l0_0 x5_1).f1), .int .i64 ((rd_T37 l0_0 x5_1).f2)] 37 (0, 0))) := ⟨by (with_reducible repeat (first | refine blk_drewN ?_ _ | refine blk_drew ?_ | refine blk_alloc ?_ _)); refine blk_put (cs := #[.int .i64 ((rd_T37 l0_0 x5_1).f0), .int .i64 ((rd_T37 l0_0 x5_1).f1), .int .i64 0]) ?_ 2 _ rfl; (with_reducible repeat (first | refine blk_drewN ?_ _ | refine blk_drew ?_ | refine blk_alloc ?_ _)); refine blk_put (cs := #[.int .i64 ((rd_T37 l0_0 x5_1).f0), .int .i64 0, .int .i64 0]) ?_ 1 _ rfl; (with_reducible repeat (first | refine blk_drewN ?_ _ | refine blk_drew ?_ | refine blk_alloc ?_ _)); refine blk_put (cs := #[.int .i64 0, .int .i64 0, .int .i64 0]) ?_ 0 _ rfl; exact bS BK104.out⟩
           have n2_ : Aside0 (Below w.heap.size w (((w40.setCell ⟨gb104, 0, none⟩ (.int .i64 ((rd_T37 l0_0 x5_1).f0))).setCell ⟨gb104, 1, none⟩ (.int .i64 ((rd_T37 l0_0 x5_1).f1))).setCell ⟨gb104, 2, none⟩ (.int .i64 ((rd_T37 l0_0 x5_1).f2)))) := ⟨by repeat (first | (with_reducible first | exact HB.out | apply below_alloc | apply pw_below_drewN | apply below_drew1 | refine below_set ?_ GE101.out | refine below_set ?_ GE104.out) | exact HB.out)⟩
           (try clear BK101)
           (try clear BK104)
           (try clear HB)
           generalize (((w40.setCell ⟨gb104, 0, none⟩ (.int .i64 ((rd_T37 l0_0 x5_1).f0))).setCell ⟨gb104, 1, none⟩ (.int .i64 ((rd_T37 l0_0 x5_1).f1))).setCell ⟨gb104, 2, none⟩ (.int .i64 ((rd_T37 l0_0 x5_1).f2))) = w43 at n0_ n1_ n2_ ⊢
           have BK101 := n0_
           have BK104 := n1_
           have HB := n2_
           clear n0_ n1_ n2_
           have n0_ := Aside0.mk (blk_drew BK101.out)
           have n1_ := Aside0.mk (blk_drew BK104.out)
           have n2_ := Aside0.mk (below_drew1 HB.out)
           clear BK101
           clear BK104
           clear HB
           have BK101 := n0_
           have BK104 := n1_
           have HB := n2_
           clear n0_ n1_ n2_
           refine start_ (n := 17) (S := fun w' => w'.cell? ⟨gb104, 0, none⟩ = some (.int .i64 ((rd_T37 l0_0 x5_1).f0)) ∧ w'.cell? ⟨gb104, 1, none⟩ = some (.int .i64 ((rd_T37 l0_0 x5_1).f1)) ∧ w'.cell? ⟨gb104, 2, none⟩ = some (.int .i64 ((rd_T37 l0_0 x5_1).f2))) (ds := []) #[O,O,O,O,O,O,O,O,O,O,O,O,O,O,O,O,O] (by kernel_rfl) rfl rfl ⟨(blk_cell BK104.out 0).trans rfl, (blk_cell BK104.out 1).trans rfl, (blk_cell BK104.out 2).trans rfl⟩ (fun hHeld => ?_); refine with_tabW spec_YarnStoreText.tab12 spec_YarnStoreText.bits12 (fun HT_ HW_ => ?_)
           generalize w43.drew = w44 at BK101 BK104 HB hHeld ⊢
           refine pure_ (i := 0) (N := some 30) (v := ?_) (a' := ?_) #[I,O,O,O,O,O,O,O,O,O,O,O,O,O,O,O,O] rfl rfl (any_of HT_.out (by kernel_rfl)) (fun _ _ _ h => h) (Or.inl ⟨by rfl, ?_⟩) ?_ ?_
           rotate_left; (intro w'; go_simp; with_reducible rfl); rotate_left; (simp only [Z]; rfl)
           refine pure_ (i := 1) (N := some 31) (v := ?_) (a' := ?_) #[I,I,O,O,O,O,O,O,O,O,O,O,O,O,O,O,O] rfl rfl (any_of HT_.out (by kernel_rfl)) (fun _ _ _ h => h) (Or.inl ⟨by rfl, ?_⟩) ?_ ?_
           rotate_left; (intro w'; go_simp; with_reducible rfl); rotate_left; (simp only [Z]; rfl)
           refine pure_ (i := 5) (N := some 35) (v := ?_) (a' := ?_) #[I,I,O,O,O,I,O,O,O,O,O,O,O,O,O,O,O] rfl rfl (any_of HT_.out (by kernel_rfl)) (fun _ _ _ h => h) (Or.inl ⟨by rfl, ?_⟩) ?_ ?_
           rotate_left; (intro w'; go_simp; with_reducible rfl); rotate_left; (simp only [Z]; rfl)
           refine pure_ (i := 12) (N := some 42) (v := ?_) (a' := ?_) #[I,I,O,O,O,I,O,O,O,O,O,O,I,O,O,O,O] rfl rfl (any_of HT_.out (by kernel_rfl)) (fun _ _ _ h => h) (Or.inl ⟨by rfl, ?_⟩) ?_ ?_
           rotate_left; (intro w'; go_simp; with_reducible rfl); rotate_left; (simp only [Z]; rfl)
           refine take_ (i := 2) (N := some 32) (v := ?_) (a' := ?_) #[I,I,I,O,O,I,O,O,O,O,O,O,I,O,O,O,O] rfl rfl (take_ofW HT_.out HW_.out (by kernel_rfl)) (fun _ _ _ h => h) (Or.inl ⟨by rfl, ?_⟩) hHeld ?_ ?_
           rotate_left; (rintro w' ⟨s0, s1, s2⟩; go_simp; with_reducible rfl); rotate_left; (simp only [Z]; rfl)
           refine take_ (i := 6) (N := some 36) (v := ?_) (a' := ?_) #[I,I,I,O,O,I,I,O,O,O,O,O,I,O,O,O,O] rfl rfl (take_ofW HT_.out HW_.out (by kernel_rfl)) (fun _ _ _ h => h) (Or.inl ⟨by rfl, ?_⟩) hHeld ?_ ?_
           rotate_left; (rintro w' ⟨s0, s1, s2⟩; go_simp; with_reducible rfl); rotate_left; (simp only [Z]; rfl)
           refine pure_ (i := 7) (N := some 37) (v := ?_) (a' := ?_) #[I,I,I,O,O,I,I,I,O,O,O,O,I,O,O,O,O] rfl rfl (any_of HT_.out (by kernel_rfl)) (fun _ _ _ h => h) (Or.inl ⟨by rfl, ?_⟩) ?_ ?_
           rotate_left; (intro w'; go_simp; with_reducible rfl); rotate_left; (simp only [Z]; rfl)
           refine pure_ (i := 8) (N := some 38) (v := ?_) (a' := ?_) #[I,I,I,O,O,I,I,I,I,O,O,O,I,O,O,O,O] rfl rfl (any_of HT_.out (by kernel_rfl)) (fun _ _ _ h => h) (Or.inl ⟨by rfl, ?_⟩) ?_ ?_
           rotate_left; (intro w'; go_simp; with_reducible rfl); rotate_left; (simp only [Z]; rfl)
           refine take_ (i := 13) (N := some 43) (v := ?_) (a' := ?_) #[I,I,I,O,O,I,I,I,I,O,O,O,I,I,O,O,O] rfl rfl (take_ofW HT_.out HW_.out (by kernel_rfl)) (fun _ _ _ h => h) (Or.inl ⟨by rfl, ?_⟩) hHeld ?_ ?_
           rotate_left; (rintro w' ⟨s0, s1, s2⟩; go_simp; with_reducible rfl); rotate_left; (simp only [Z]; rfl)
           refine join_ (σ := Value) 2 #[I,I,I,I,I,I,I,I,I,I,I,I,I,I,I,O,O] (fun s_ => [(33, .string t110), (39, s_), (40, .string (strOfNums y111)), (44, .string t114), (34, .string (x4_1 ++ t110)), (41, .string ((x4_1 ++ t110) ++ (strOfNums y111)))]) (fun s_ w' => (w'.cell? ⟨gb104, 0, none⟩ = some (.int .i64 ((rd_T37 l0_0 x5_1).f0)) ∧ w'.cell? ⟨gb104, 1, none⟩ = some (.int .i64 ((rd_T37 l0_0 x5_1).f1)) ∧ w'.cell? ⟨gb104, 2, none⟩ = some (.int .i64 ((rd_T37 l0_0 x5_1).f2))) ∧ (Kd.R (Kd.int .u8) 5 w' w.heap.size (fun _ => True) s_ y111) ∧ (w'.heap[gb101]? = some (.cells #[.slice (some ad103) l0_0.length c0_0, .int .i64 a0_1, .int .i64 a0_2, .int .i64 a0_3, .int .i64 a0_4] 30 (0, 0))) ∧ (w'.heap[gb104]? = some (.cells #[.int .i64 ((rd_T37 l0_0 x5_1).f0), .int .i64 ((rd_T37 l0_0 x5_1).f1), .int .i64 ((rd_T37 l0_0 x5_1).f2)] 37 (0, 0))) ∧ (Below w.heap.size w w')) ?_ ?_
           rotate_left
           ·intro hJ3_9_10_14
            refine join_ (σ := Value) 3 #[I,I,I,I,I,I,I,I,I,I,I,I,I,I,O,O,O] (fun s_ => [(33, .string t110), (39, s_), (40, .string (strOfNums y111)), (34, .string (x4_1 ++ t110)), (41, .string ((x4_1 ++ t110) ++ (strOfNums y111)))]) (fun s_ w' => (w'.cell? ⟨gb104, 0, none⟩ = some (.int .i64 ((rd_T37 l0_0 x5_1).f0)) ∧ w'.cell? ⟨gb104, 1, none⟩ = some (.int .i64 ((rd_T37 l0_0 x5_1).f1)) ∧ w'.cell? ⟨gb104, 2, none⟩ = some (.int .i64 ((rd_T37 l0_0 x5_1).f2))) ∧ (Kd.R (Kd.int .u8) 5 w' w.heap.size (fun _ => True) s_ y111) ∧ (w'.heap[gb101]? = some (.cells #[.slice (some ad103) l0_0.length c0_0, .int .i64 a0_1, .int .i64 a0_2, .int .i64 a0_3, .int .i64 a0_4] 30 (0, 0))) ∧ (w'.heap[gb104]? = some (.cells #[.int .i64 ((rd_T37 l0_0 x5_1).f0), .int .i64 ((rd_T37 l0_0 x5_1).f1), .int .i64 ((rd_T37 l0_0 x5_1).f2)] 37 (0, 0))) ∧ (Below w.heap.size w w')) ?_ ?_
            rotate_left
            ·intro hJ3_9_10
             refine join_ (σ := Value) 4 #[I,I,I,I,I,I,I,I,I,I,O,O,I,I,I,O,O] (fun s_ => [(33, .string t110), (39, s_), (44, .string t114), (34, .string (x4_1 ++ t110))]) (fun s_ w' => (w'.cell? ⟨gb104, 0, none⟩ = some (.int .i64 ((rd_T37 l0_0 x5_1).f0)) ∧ w'.cell? ⟨gb104, 1, none⟩ = some (.int .i64 ((rd_T37 l0_0 x5_1).f1)) ∧ w'.cell? ⟨gb104, 2, none⟩ = some (.int .i64 ((rd_T37 l0_0 x5_1).f2))) ∧ (Kd.R (Kd.int .u8) 5 w' w.heap.size (fun _ => True) s_ y111) ∧ (w'.heap[gb101]? = some (.cells #[.slice (some ad103) l0_0.length c0_0, .int .i64 a0_1, .int .i64 a0_2, .int .i64 a0_3, .int .i64 a0_4] 30 (0, 0))) ∧ (w'.heap[gb104]? = some (.cells #[.int .i64 ((rd_T37 l0_0 x5_1).f0), .int .i64 ((rd_T37 l0_0 x5_1).f1), .int .i64 ((rd_T37 l0_0 x5_1).f2)] 37 (0, 0))) ∧ (Below w.heap.size w w')) ?_ ?_
             rotate_left
             ·intro hJ3_9_14
              refine join_ (σ := Value) 5 #[I,I,I,I,I,I,I,I,I,I,O,O,I,I,O,O,O] (fun s_ => [(33, .string t110), (39, s_), (34, .string (x4_1 ++ t110))]) (fun s_ w' => (w'.cell? ⟨gb104, 0, none⟩ = some (.int .i64 ((rd_T37 l0_0 x5_1).f0)) ∧ w'.cell? ⟨gb104, 1, none⟩ = some (.int .i64 ((rd_T37 l0_0 x5_1).f1)) ∧ w'.cell? ⟨gb104, 2, none⟩ = some (.int .i64 ((rd_T37 l0_0 x5_1).f2))) ∧ (Kd.R (Kd.int .u8) 5 w' w.heap.size (fun _ => True) s_ y111) ∧ (w'.heap[gb101]? = some (.cells #[.slice (some ad103) l0_0.length c0_0, .int .i64 a0_1, .int .i64 a0_2, .int .i64 a0_3, .int .i64 a0_4] 30 (0, 0))) ∧ (w'.heap[gb104]? = some (.cells #[.int .i64 ((rd_T37 l0_0 x5_1).f0), .int .i64 ((rd_T37 l0_0 x5_1).f1), .int .i64 ((rd_T37 l0_0 x5_1).f2)] 37 (0, 0))) ∧ (Below w.heap.size w w')) ?_ ?_
              rotate_left
              ·intro hJ3_9
               refine join_ (σ := Unit) 5 #[I,I,I,I,I,I,I,I,I,O,O,O,I,I,I,O,O] (fun s_ => [(33, .string t110), (44, .string t114), (34, .string (x4_1 ++ t110))]) (fun s_ w' => (w'.cell? ⟨gb104, 0, none⟩ = some (.int .i64 ((rd_T37 l0_0 x5_1).f0)) ∧ w'.cell? ⟨gb104, 1, none⟩ = some (.int .i64 ((rd_T37 l0_0 x5_1).f1)) ∧ w'.cell? ⟨gb104, 2, none⟩ = some (.int .i64 ((rd_T37 l0_0 x5_1).f2))) ∧ (w'.heap[gb101]? = some (.cells #[.slice (some ad103) l0_0.length c0_0, .int .i64 a0_1, .int .i64 a0_2, .int .i64 a0_3, .int .i64 a0_4] 30 (0, 0))) ∧ (w'.heap[gb104]? = some (.cells #[.int .i64 ((rd_T37 l0_0 x5_1).f0), .int .i64 ((rd_T37 l0_0 x5_1).f1), .int .i64 ((rd_T37 l0_0 x5_1).f2)] 37 (0, 0))) ∧ (Below w.heap.size w w')) ?_ ?_
               rotate_left
               ·intro hJ3_14
                refine join_ (σ := Value) 6 #[I,I,I,O,O,I,I,I,I,I,I,O,I,I,O,O,O] (fun s_ => [(39, s_), (40, .string (strOfNums y111))]) (fun s_ w' => (w'.cell? ⟨gb104, 0, none⟩ = some (.int .i64 ((rd_T37 l0_0 x5_1).f0)) ∧ w'.cell? ⟨gb104, 1, none⟩ = some (.int .i64 ((rd_T37 l0_0 x5_1).f1)) ∧ w'.cell? ⟨gb104, 2, none⟩ = some (.int .i64 ((rd_T37 l0_0 x5_1).f2))) ∧ (Kd.R (Kd.int .u8) 5 w' w.heap.size (fun _ => True) s_ y111) ∧ (w'.heap[gb101]? = some (.cells #[.slice (some ad103) l0_0.length c0_0, .int .i64 a0_1, .int .i64 a0_2, .int .i64 a0_3, .int .i64 a0_4] 30 (0, 0))) ∧ (w'.heap[gb104]? = some (.cells #[.int .i64 ((rd_T37 l0_0 x5_1).f0), .int .i64 ((rd_T37 l0_0 x5_1).f1), .int .i64 ((rd_T37 l0_0 x5_1).f2)] 37 (0, 0))) ∧ (Below w.heap.size w w')) ?_ ?_
                rotate_left
                ·intro hJ9_10
                 refine join_ (σ := Unit) 6 #[I,I,I,I,I,I,I,I,I,O,O,O,I,I,O,O,O] (fun s_ => [(33, .string t110), (34, .string (x4_1 ++ t110))]) (fun s_ w' => (w'.cell? ⟨gb104, 0, none⟩ = some (.int .i64 ((rd_T37 l0_0 x5_1).f0)) ∧ w'.cell? ⟨gb104, 1, none⟩ = some (.int .i64 ((rd_T37 l0_0 x5_1).f1)) ∧ w'.cell? ⟨gb104, 2, none⟩ = some (.int .i64 ((rd_T37 l0_0 x5_1).f2))) ∧ (w'.heap[gb101]? = some (.cells #[.slice (some ad103) l0_0.length c0_0, .int .i64 a0_1, .int .i64 a0_2, .int .i64 a0_3, .int .i64 a0_4] 30 (0, 0))) ∧ (w'.heap[gb104]? = some (.cells #[.int .i64 ((rd_T37 l0_0 x5_1).f0), .int .i64 ((rd_T37 l0_0 x5_1).f1), .int .i64 ((rd_T37 l0_0 x5_1).f2)] 37 (0, 0))) ∧ (Below w.heap.size w w')) ?_ ?_
                 rotate_left
                 ·intro hJ3
                  refine join_ (σ := Value) 7 #[I,I,I,O,O,I,I,I,I,I,O,O,I,I,O,O,O] (fun s_ => [(39, s_)]) (fun s_ w' => (w'.cell? ⟨gb104, 0, none⟩ = some (.int .i64 ((rd_T37 l0_0 x5_1).f0)) ∧ w'.cell? ⟨gb104, 1, none⟩ = some (.int .i64 ((rd_T37 l0_0 x5_1).f1)) ∧ w'.cell? ⟨gb104, 2, none⟩ = some (.int .i64 ((rd_T37 l0_0 x5_1).f2))) ∧ (Kd.R (Kd.int .u8) 5 w' w.heap.size (fun _ => True) s_ y111) ∧ (w'.heap[gb101]? = some (.cells #[.slice (some ad103) l0_0.length c0_0, .int .i64 a0_1, .int .i64 a0_2, .int .i64 a0_3, .int .i64 a0_4] 30 (0, 0))) ∧ (w'.heap[gb104]? = some (.cells #[.int .i64 ((rd_T37 l0_0 x5_1).f0), .int .i64 ((rd_T37 l0_0 x5_1).f1), .int .i64 ((rd_T37 l0_0 x5_1).f2)] 37 (0, 0))) ∧ (Below w.heap.size w w')) ?_ ?_
                  rotate_left
                  ·intro hJ9
                   refine two_ (i := 3) (j := 9) (Ni := some 33) (Nj := some 39) #[I,I,I,I,O,I,I,I,I,O,O,O,I,I,O,O,O] #[I,I,I,O,O,I,I,I,I,I,O,O,I,I,O,O,O] rfl rfl rfl rfl (two_of HT_.out (by kernel_rfl)) (by decide) (by decide) (fun K hK => ?_) (fun K hK => ?_)
                   ·skip
                    refine goes_ Tryd.func11 (by kernel_rfl) rfl #[.int .i64 ((rd_T37 l0_0 x5_1).f0)] (by rfl) rfl rfl (by (try simp only [List.map_toArray, List.map_cons, List.map_nil]); first | done | rfl | (simp only [List.length_drop, List.length_take]; rfl)) ?_
                    with_reducible refine (spec_l1Num.calls k1 ((rd_T37 l0_0 x5_1).f0) t110 _ A34.out).mono ?_
                    rintro e w45 ⟨rfl, hb⟩
                    refine ⟨_, rfl, ?_⟩
                    have n0_ := Aside0.mk (blk_below (bS BK101.out) hb)
                    have n1_ := Aside0.mk (blk_below (bS BK104.out) hb)
                    have n2_ := Aside0.mk (below_step (by exact eS HB.out) hb)
                    clear BK101
                    clear BK104
                    clear HB
                    have BK101 := n0_
                    have BK104 := n1_
                    have HB := n2_
                    clear n0_ n1_ n2_
                    (try clear hb)
                    (try clear hb2)
                    (try clear hk)
                    (try clear hi)
                    refine hK.out _ _ ⟨(blk_cell BK104.out 0).trans rfl, (blk_cell BK104.out 1).trans rfl, (blk_cell BK104.out 2).trans rfl⟩ (fun hHeld => ?_)
                    clear hK K
                    refine norm_ (a' := ?_) ?_ ?_
                    rotate_left
                    ·show Act.put _ (some 33) _ = _
                     simp only [Z]
                     rfl
                    refine pure_ (i := 4) (N := some 34) (v := ?_) (a' := ?_) #[I,I,I,I,I,I,I,I,I,O,O,O,I,I,O,O,O] rfl rfl (any_of HT_.out (by kernel_rfl)) (fun _ _ _ h => h) (Or.inl ⟨by rfl, ?_⟩) ?_ ?_
                    rotate_left; (intro w'; go_simp; with_reducible rfl); rotate_left; (simp only [Z]; rfl)
                    exact norm_ (by first | (simp only [putAll, Act.put, List.setIfInBounds_toArray, List.set_cons_zero, List.set_cons_succ]; done) | (simp only [putAll, Act.put, List.setIfInBounds_toArray, List.set_cons_zero, List.set_cons_succ]; rfl)) (hJ3 () _ ⟨hHeld, (by exact bS BK101.out), (by exact bS BK104.out), (by exact eS HB.out)⟩)
                   ·skip
                    refine Kd.R_lit_step (Kd.int .u8) _ 5 ?hg (N := 39) ?hd (xs := ([(wrap64 (97 + ((rd_T37 l0_0 x5_1).f1))) % 256] : List Int)) (inner := [.int .u8 ((wrap64 (97 + ((rd_T37 l0_0 x5_1).f1))) % 256)]) (ok := fun _ => True) (okp := fun _ => True) ?hr ?hp (fun _ hk => hk) trivial (Below.refl _ _) (Nat.le_refl _) (by simp) ?_; (case hd => rfl); (case hg => rfl); (case hr => first | (go_simp; done) | (go_simp; rfl)); (case hp => exact (Reps.one (show Kd.M (Kd.int .u8) _ _ _ ((wrap64 (97 + ((rd_T37 l0_0 x5_1).f1))) % 256) [.int .u8 ((wrap64 (97 + ((rd_T37 l0_0 x5_1).f1))) % 256)] from rfl) (Reps.none _ _)))
                    intro v112 w45 ho46 hb hg_ hnew_
                    clear hg_ hnew_
                    (first | rw [← Ny111.out] at ho46 | (simp only [Int.reduceToNat] at ho46; rw [← Ny111.out] at ho46))
                    have n0_ := Aside0.mk (Kd.R_lower ho46 (below_size (by exact eS HB.out)))
                    have n1_ := Aside0.mk (blk_below (bS BK101.out) hb)
                    have n2_ := Aside0.mk (blk_below (bS BK104.out) hb)
                    have n3_ := Aside0.mk (below_step (by exact eS HB.out) hb)
                    clear BK101
                    clear BK104
                    clear HB
                    have HO113 := n0_
                    have BK101 := n1_
                    have BK104 := n2_
                    have HB := n3_
                    clear n0_ n1_ n2_ n3_
                    clear hb ho46
                    refine hK.out _ _ ⟨(blk_cell BK104.out 0).trans rfl, (blk_cell BK104.out 1).trans rfl, (blk_cell BK104.out 2).trans rfl⟩ (fun hHeld => ?_)
                    clear hK K
                    refine norm_ (a' := ?_) ?_ ?_
                    rotate_left
                    ·show Act.put _ (some 39) _ = _
                     simp only [Z]
                     rfl
                    exact norm_ (by first | (simp only [putAll, Act.put, List.setIfInBounds_toArray, List.set_cons_zero, List.set_cons_succ]; done) | (simp only [putAll, Act.put, List.setIfInBounds_toArray, List.set_cons_zero, List.set_cons_succ]; rfl)) (hJ9 (v112) _ ⟨hHeld, (by exact Ho.RS <| HO113.out), (by exact bS BK101.out), (by exact bS BK104.out), (by exact eS HB.out)⟩)
                  ·skip
                   rintro v112 w47 ⟨hS_, h0_, h1_, h2_, h3_⟩
                   have n0_ : Aside0 (Kd.R (Kd.int .u8) 5 w47 w.heap.size (fun _ => True) v112 y111) := ⟨h0_⟩
                   have n1_ : Aside0 (w47.heap[gb101]? = some (.cells #[.slice (some ad103) l0_0.length c0_0, .int .i64 a0_1, .int .i64 a0_2, .int .i64 a0_3, .int .i64 a0_4] 30 (0, 0))) := ⟨h1_⟩
                   have n2_ : Aside0 (w47.heap[gb104]? = some (.cells #[.int .i64 ((rd_T37 l0_0 x5_1).f0), .int .i64 ((rd_T37 l0_0 x5_1).f1), .int .i64 ((rd_T37 l0_0 x5_1).f2)] 37 (0, 0))) := ⟨h2_⟩
                   have n3_ : Aside0 (Below w.heap.size w w47) := ⟨h3_⟩
                   clear BK101
                   clear BK104
                   clear HB
                   clear h0_ h1_ h2_ h3_
                   have HO113 := n0_
                   have BK101 := n1_
                   have BK104 := n2_
                   have HB := n3_
                   clear n0_ n1_ n2_ n3_
                   have hHeld : w47.cell? ⟨gb104, 0, none⟩ = some (.int .i64 ((rd_T37 l0_0 x5_1).f0)) ∧ w47.cell? ⟨gb104, 1, none⟩ = some (.int .i64 ((rd_T37 l0_0 x5_1).f1)) ∧ w47.cell? ⟨gb104, 2, none⟩ = some (.int .i64 ((rd_T37 l0_0 x5_1).f2)) := hS_
                   refine norm_ (a' := ?_) ?_ ?_
                   rotate_left
                   ·simp only [putAll, Act.put, List.setIfInBounds_toArray, List.set_cons_zero, List.set_cons_succ]
                    rfl
                   refine two_ (i := 3) (j := 10) (Ni := some 33) (Nj := some 40) #[I,I,I,I,O,I,I,I,I,I,O,O,I,I,O,O,O] #[I,I,I,O,O,I,I,I,I,I,I,O,I,I,O,O,O] rfl rfl rfl rfl (two_of HT_.out (by kernel_rfl)) (by decide) (by decide) (fun K hK => ?_) (fun K hK => ?_)
                   ·skip
                    refine goes_ Tryd.func11 (by kernel_rfl) rfl #[.int .i64 ((rd_T37 l0_0 x5_1).f0)] (by rfl) rfl rfl (by (try simp only [List.map_toArray, List.map_cons, List.map_nil]); first | done | rfl | (simp only [List.length_drop, List.length_take]; rfl)) ?_
                    with_reducible refine (spec_l1Num.calls k1 ((rd_T37 l0_0 x5_1).f0) t110 _ A34.out).mono ?_
                    rintro e w48 ⟨rfl, hb⟩
                    refine ⟨_, rfl, ?_⟩
                    have n0_ := Aside0.mk (Kd.R_below (by exact Ho.RS <| HO113.out) hb)
                    have n1_ := Aside0.mk (blk_below (bS BK101.out) hb)
                    have n2_ := Aside0.mk (blk_below (bS BK104.out) hb)
                    have n3_ := Aside0.mk (below_step (by exact eS HB.out) hb)
                    clear HO113
                    clear BK101
                    clear BK104
                    clear HB
                    have HO113 := n0_
                    have BK101 := n1_
                    have BK104 := n2_
                    have HB := n3_
                    clear n0_ n1_ n2_ n3_
                    (try clear hb)
                    (try clear hb2)
                    (try clear hk)
                    (try clear hi)
                    refine hK.out _ _ ⟨(blk_cell BK104.out 0).trans rfl, (blk_cell BK104.out 1).trans rfl, (blk_cell BK104.out 2).trans rfl⟩ (fun hHeld => ?_)
                    clear hK K
                    refine norm_ (a' := ?_) ?_ ?_
                    rotate_left
                    ·show Act.put _ (some 33) _ = _
                     simp only [Z]
                     rfl
                    refine pure_ (i := 4) (N := some 34) (v := ?_) (a' := ?_) #[I,I,I,I,I,I,I,I,I,I,O,O,I,I,O,O,O] rfl rfl (any_of HT_.out (by kernel_rfl)) (fun _ _ _ h => h) (Or.inl ⟨by rfl, ?_⟩) ?_ ?_
                    rotate_left; (intro w'; go_simp; with_reducible rfl); rotate_left; (simp only [Z]; rfl)
                    exact norm_ (by first | (simp only [putAll, Act.put, List.setIfInBounds_toArray, List.set_cons_zero, List.set_cons_succ]; done) | (simp only [putAll, Act.put, List.setIfInBounds_toArray, List.set_cons_zero, List.set_cons_succ]; rfl)) (hJ3_9 (v112) _ ⟨hHeld, (by exact Ho.RS <| HO113.out), (by exact bS BK101.out), (by exact bS BK104.out), (by exact eS HB.out)⟩)
                   ·skip
                    have hcv48 := own_string (P := Tryd.prog) Tryd.underlying39 Tryd.underlying5 Tryd.underlying9 (Kd.own_of_R HO113.out)
                    refine value_ (w1 := ?_) (v := ?_) (by rfl) rfl ?_ ?_
                    rotate_left 2
                    ·go_simp
                     constructor
                     ·rfl
                     ·rfl
                    clear hcv48
                    refine hK.out _ _ ⟨(blk_cell BK104.out 0).trans rfl, (blk_cell BK104.out 1).trans rfl, (blk_cell BK104.out 2).trans rfl⟩ (fun hHeld => ?_)
                    clear hK K
                    refine norm_ (a' := ?_) ?_ ?_
                    rotate_left
                    ·show Act.put _ (some 40) _ = _
                     simp only [Z]
                     rfl
                    exact norm_ (by first | (simp only [putAll, Act.put, List.setIfInBounds_toArray, List.set_cons_zero, List.set_cons_succ]; done) | (simp only [putAll, Act.put, List.setIfInBounds_toArray, List.set_cons_zero, List.set_cons_succ]; rfl)) (hJ9_10 (v112) _ ⟨hHeld, (by exact Ho.RS <| HO113.out), (by exact bS BK101.out), (by exact bS BK104.out), (by exact eS HB.out)⟩)
                 ·skip
                  rintro _ w46 ⟨hS_, h0_, h1_, h2_⟩
                  have n0_ : Aside0 (w46.heap[gb101]? = some (.cells #[.slice (some ad103) l0_0.length c0_0, .int .i64 a0_1, .int .i64 a0_2, .int .i64 a0_3, .int .i64 a0_4] 30 (0, 0))) := ⟨h0_⟩
                  have n1_ : Aside0 (w46.heap[gb104]? = some (.cells #[.int .i64 ((rd_T37 l0_0 x5_1).f0), .int .i64 ((rd_T37 l0_0 x5_1).f1), .int .i64 ((rd_T37 l0_0 x5_1).f2)] 37 (0, 0))) := ⟨h1_⟩
                  have n2_ : Aside0 (Below w.heap.size w w46) := ⟨h2_⟩
                  clear BK101
                  clear BK104
                  clear HB
                  clear h0_ h1_ h2_
                  have BK101 := n0_
                  have BK104 := n1_
                  have HB := n2_
                  clear n0_ n1_ n2_
                  have hHeld : w46.cell? ⟨gb104, 0, none⟩ = some (.int .i64 ((rd_T37 l0_0 x5_1).f0)) ∧ w46.cell? ⟨gb104, 1, none⟩ = some (.int .i64 ((rd_T37 l0_0 x5_1).f1)) ∧ w46.cell? ⟨gb104, 2, none⟩ = some (.int .i64 ((rd_T37 l0_0 x5_1).f2)) := hS_
                  refine norm_ (a' := ?_) ?_ ?_
                  rotate_left
                  ·simp only [putAll, Act.put, List.setIfInBounds_toArray, List.set_cons_zero, List.set_cons_succ]
                   rfl
                  refine two_ (i := 9) (j := 14) (Ni := some 39) (Nj := some 44) #[I,I,I,I,I,I,I,I,I,I,O,O,I,I,O,O,O] #[I,I,I,I,I,I,I,I,I,O,O,O,I,I,I,O,O] rfl rfl rfl rfl (two_of HT_.out (by kernel_rfl)) (by decide) (by decide) (fun K hK => ?_) (fun K hK => ?_)
                  ·skip
                   refine Kd.R_lit_step (Kd.int .u8) _ 5 ?hg (N := 39) ?hd (xs := ([(wrap64 (97 + ((rd_T37 l0_0 x5_1).f1))) % 256] : List Int)) (inner := [.int .u8 ((wrap64 (97 + ((rd_T37 l0_0 x5_1).f1))) % 256)]) (ok := fun _ => True) (okp := fun _ => True) ?hr ?hp (fun _ hk => hk) trivial (Below.refl _ _) (Nat.le_refl _) (by simp) ?_; (case hd => rfl); (case hg => rfl); (case hr => first | (go_simp; done) | (go_simp; rfl)); (case hp => exact (Reps.one (show Kd.M (Kd.int .u8) _ _ _ ((wrap64 (97 + ((rd_T37 l0_0 x5_1).f1))) % 256) [.int .u8 ((wrap64 (97 + ((rd_T37 l0_0 x5_1).f1))) % 256)] from rfl) (Reps.none _ _)))
                   intro v112 w47 ho48 hb hg_ hnew_
                   clear hg_ hnew_
                   (first | rw [← Ny111.out] at ho48 | (simp only [Int.reduceToNat] at ho48; rw [← Ny111.out] at ho48))
                   have n0_ := Aside0.mk (Kd.R_lower ho48 (below_size (by exact eS HB.out)))
                   have n1_ := Aside0.mk (blk_below (bS BK101.out) hb)
                   have n2_ := Aside0.mk (blk_below (bS BK104.out) hb)
                   have n3_ := Aside0.mk (below_step (by exact eS HB.out) hb)
                   clear BK101
                   clear BK104
                   clear HB
                   have HO113 := n0_
                   have BK101 := n1_
                   have BK104 := n2_
                   have HB := n3_
                   clear n0_ n1_ n2_ n3_
                   clear hb ho48
                   refine hK.out _ _ ⟨(blk_cell BK104.out 0).trans rfl, (blk_cell BK104.out 1).trans rfl, (blk_cell BK104.out 2).trans rfl⟩ (fun hHeld => ?_)
                   clear hK K
                   refine norm_ (a' := ?_) ?_ ?_
                   rotate_left
                   ·show Act.put _ (some 39) _ = _
                    simp only [Z]
                    rfl
                   exact norm_ (by first | (simp only [putAll, Act.put, List.setIfInBounds_toArray, List.set_cons_zero, List.set_cons_succ]; done) | (simp only [putAll, Act.put, List.setIfInBounds_toArray, List.set_cons_zero, List.set_cons_succ]; rfl)) (hJ3_9 (v112) _ ⟨hHeld, (by exact Ho.RS <| HO113.out), (by exact bS BK101.out), (by exact bS BK104.out), (by exact eS HB.out)⟩)
                  ·skip
                   refine goes_ Tryd.func11 (by kernel_rfl) rfl #[.int .i64 ((rd_T37 l0_0 x5_1).f2)] (by rfl) rfl rfl (by (try simp only [List.map_toArray, List.map_cons, List.map_nil]); first | done | rfl | (simp only [List.length_drop, List.length_take]; rfl)) ?_
                   with_reducible refine (spec_l1Num.calls k1 ((rd_T37 l0_0 x5_1).f2) t114 _ A37.out).mono ?_
                   rintro e w47 ⟨rfl, hb⟩
                   refine ⟨_, rfl, ?_⟩
                   have n0_ := Aside0.mk (blk_below (bS BK101.out) hb)
                   have n1_ := Aside0.mk (blk_below (bS BK104.out) hb)
                   have n2_ := Aside0.mk (below_step (by exact eS HB.out) hb)
                   clear BK101
                   clear BK104
                   clear HB
                   have BK101 := n0_
                   have BK104 := n1_
                   have HB := n2_
                   clear n0_ n1_ n2_
                   (try clear hb)
                   (try clear hb2)
                   (try clear hk)
                   (try clear hi)
                   refine hK.out _ _ ⟨(blk_cell BK104.out 0).trans rfl, (blk_cell BK104.out 1).trans rfl, (blk_cell BK104.out 2).trans rfl⟩ (fun hHeld => ?_)
                   clear hK K
                   refine norm_ (a' := ?_) ?_ ?_
                   rotate_left
                   ·show Act.put _ (some 44) _ = _
                    simp only [Z]
                    rfl
                   exact norm_ (by first | (simp only [putAll, Act.put, List.setIfInBounds_toArray, List.set_cons_zero, List.set_cons_succ]; done) | (simp only [putAll, Act.put, List.setIfInBounds_toArray, List.set_cons_zero, List.set_cons_succ]; rfl)) (hJ3_14 () _ ⟨hHeld, (by exact bS BK101.out), (by exact bS BK104.out), (by exact eS HB.out)⟩)
                ·skip
                 rintro v112 w48 ⟨hS_, h0_, h1_, h2_, h3_⟩
                 have n0_ : Aside0 (Kd.R (Kd.int .u8) 5 w48 w.heap.size (fun _ => True) v112 y111) := ⟨h0_⟩
                 have n1_ : Aside0 (w48.heap[gb101]? = some (.cells #[.slice (some ad103) l0_0.length c0_0, .int .i64 a0_1, .int .i64 a0_2, .int .i64 a0_3, .int .i64 a0_4] 30 (0, 0))) := ⟨h1_⟩
                 have n2_ : Aside0 (w48.heap[gb104]? = some (.cells #[.int .i64 ((rd_T37 l0_0 x5_1).f0), .int .i64 ((rd_T37 l0_0 x5_1).f1), .int .i64 ((rd_T37 l0_0 x5_1).f2)] 37 (0, 0))) := ⟨h2_⟩
                 have n3_ : Aside0 (Below w.heap.size w w48) := ⟨h3_⟩
                 clear BK101
                 clear BK104
                 clear HB
                 clear h0_ h1_ h2_ h3_
                 have HO113 := n0_
                 have BK101 := n1_
                 have BK104 := n2_
                 have HB := n3_
                 clear n0_ n1_ n2_ n3_
                 have hHeld : w48.cell? ⟨gb104, 0, none⟩ = some (.int .i64 ((rd_T37 l0_0 x5_1).f0)) ∧ w48.cell? ⟨gb104, 1, none⟩ = some (.int .i64 ((rd_T37 l0_0 x5_1).f1)) ∧ w48.cell? ⟨gb104, 2, none⟩ = some (.int .i64 ((rd_T37 l0_0 x5_1).f2)) := hS_
                 refine norm_ (a' := ?_) ?_ ?_
                 rotate_left
                 ·simp only [putAll, Act.put, List.setIfInBounds_toArray, List.set_cons_zero, List.set_cons_succ]
                  rfl
                 refine one_ (i := 3) (N := some 33) #[I,I,I,I,O,I,I,I,I,I,I,O,I,I,O,O,O] rfl rfl (one_of HT_.out (by kernel_rfl)) (by decide) (fun K hK => ?_)
                 refine goes_ Tryd.func11 (by kernel_rfl) rfl #[.int .i64 ((rd_T37 l0_0 x5_1).f0)] (by rfl) rfl rfl (by (try simp only [List.map_toArray, List.map_cons, List.map_nil]); first | done | rfl | (simp only [List.length_drop, List.length_take]; rfl)) ?_
                 with_reducible refine (spec_l1Num.calls k1 ((rd_T37 l0_0 x5_1).f0) t110 _ A34.out).mono ?_
                 rintro e w49 ⟨rfl, hb⟩
                 refine ⟨_, rfl, ?_⟩
                 have n0_ := Aside0.mk (Kd.R_below (by exact Ho.RS <| HO113.out) hb)
                 have n1_ := Aside0.mk (blk_below (bS BK101.out) hb)
                 have n2_ := Aside0.mk (blk_below (bS BK104.out) hb)
                 have n3_ := Aside0.mk (below_step (by exact eS HB.out) hb)
                 clear HO113
                 clear BK101
                 clear BK104
                 clear HB
                 have HO113 := n0_
                 have BK101 := n1_
                 have BK104 := n2_
                 have HB := n3_
                 clear n0_ n1_ n2_ n3_
                 (try clear hb)
                 (try clear hb2)
                 (try clear hk)
                 (try clear hi)
                 refine hK.out _ _ ⟨(blk_cell BK104.out 0).trans rfl, (blk_cell BK104.out 1).trans rfl, (blk_cell BK104.out 2).trans rfl⟩ (fun hHeld => ?_)
                 clear hK K
                 refine norm_ (a' := ?_) ?_ ?_
                 rotate_left
                 ·show Act.put _ (some 33) _ = _
                  simp only [Z]
                  rfl
                 refine pure_ (i := 4) (N := some 34) (v := ?_) (a' := ?_) #[I,I,I,I,I,I,I,I,I,I,I,O,I,I,O,O,O] rfl rfl (any_of HT_.out (by kernel_rfl)) (fun _ _ _ h => h) (Or.inl ⟨by rfl, ?_⟩) ?_ ?_
                 rotate_left; (intro w'; go_simp; with_reducible rfl); rotate_left; (simp only [Z]; rfl)
                 refine pure_ (i := 11) (N := some 41) (v := ?_) (a' := ?_) #[I,I,I,I,I,I,I,I,I,I,I,I,I,I,O,O,O] rfl rfl (any_of HT_.out (by kernel_rfl)) (fun _ _ _ h => h) (Or.inl ⟨by rfl, ?_⟩) ?_ ?_
                 rotate_left; (intro w'; go_simp; with_reducible rfl); rotate_left; (simp only [Z]; rfl)
                 exact norm_ (by first | (simp only [putAll, Act.put, List.setIfInBounds_toArray, List.set_cons_zero, List.set_cons_succ]; done) | (simp only [putAll, Act.put, List.setIfInBounds_toArray, List.set_cons_zero, List.set_cons_succ]; rfl)) (hJ3_9_10 (v112) _ ⟨hHeld, (by exact Ho.RS <| HO113.out), (by exact bS BK101.out), (by exact bS BK104.out), (by exact eS HB.out)⟩)
               ·skip
                rintro _ w47 ⟨hS_, h0_, h1_, h2_⟩
                have n0_ : Aside0 (w47.heap[gb101]? = some (.cells #[.slice (some ad103) l0_0.length c0_0, .int .i64 a0_1, .int .i64 a0_2, .int .i64 a0_3, .int .i64 a0_4] 30 (0, 0))) := ⟨h0_⟩
                have n1_ : Aside0 (w47.heap[gb104]? = some (.cells #[.int .i64 ((rd_T37 l0_0 x5_1).f0), .int .i64 ((rd_T37 l0_0 x5_1).f1), .int .i64 ((rd_T37 l0_0 x5_1).f2)] 37 (0, 0))) := ⟨h1_⟩
                have n2_ : Aside0 (Below w.heap.size w w47) := ⟨h2_⟩
                clear BK101
                clear BK104
                clear HB
                clear h0_ h1_ h2_
                have BK101 := n0_
                have BK104 := n1_
                have HB := n2_
                clear n0_ n1_ n2_
                have hHeld : w47.cell? ⟨gb104, 0, none⟩ = some (.int .i64 ((rd_T37 l0_0 x5_1).f0)) ∧ w47.cell? ⟨gb104, 1, none⟩ = some (.int .i64 ((rd_T37 l0_0 x5_1).f1)) ∧ w47.cell? ⟨gb104, 2, none⟩ = some (.int .i64 ((rd_T37 l0_0 x5_1).f2)) := hS_
                refine norm_ (a' := ?_) ?_ ?_
                rotate_left
                ·simp only [putAll, Act.put, List.setIfInBounds_toArray, List.set_cons_zero, List.set_cons_succ]
                 rfl
                refine one_ (i := 9) (N := some 39) #[I,I,I,I,I,I,I,I,I,I,O,O,I,I,I,O,O] rfl rfl (one_of HT_.out (by kernel_rfl)) (by decide) (fun K hK => ?_)
                refine Kd.R_lit_step (Kd.int .u8) _ 5 ?hg (N := 39) ?hd (xs := ([(wrap64 (97 + ((rd_T37 l0_0 x5_1).f1))) % 256] : List Int)) (inner := [.int .u8 ((wrap64 (97 + ((rd_T37 l0_0 x5_1).f1))) % 256)]) (ok := fun _ => True) (okp := fun _ => True) ?hr ?hp (fun _ hk => hk) trivial (Below.refl _ _) (Nat.le_refl _) (by simp) ?_; (case hd => rfl); (case hg => rfl); (case hr => first | (go_simp; done) | (go_simp; rfl)); (case hp => exact (Reps.one (show Kd.M (Kd.int .u8) _ _ _ ((wrap64 (97 + ((rd_T37 l0_0 x5_1).f1))) % 256) [.int .u8 ((wrap64 (97 + ((rd_T37 l0_0 x5_1).f1))) % 256)] from rfl) (Reps.none _ _)))
                intro v112 w48 ho49 hb hg_ hnew_
                clear hg_ hnew_
                (first | rw [← Ny111.out] at ho49 | (simp only [Int.reduceToNat] at ho49; rw [← Ny111.out] at ho49))
                have n0_ := Aside0.mk (Kd.R_lower ho49 (below_size (by exact eS HB.out)))
                have n1_ := Aside0.mk (blk_below (bS BK101.out) hb)
                have n2_ := Aside0.mk (blk_below (bS BK104.out) hb)
                have n3_ := Aside0.mk (below_step (by exact eS HB.out) hb)
                clear BK101
                clear BK104
                clear HB
                have HO113 := n0_
                have BK101 := n1_
                have BK104 := n2_
                have HB := n3_
                clear n0_ n1_ n2_ n3_
                clear hb ho49
                refine hK.out _ _ ⟨(blk_cell BK104.out 0).trans rfl, (blk_cell BK104.out 1).trans rfl, (blk_cell BK104.out 2).trans rfl⟩ (fun hHeld => ?_)
                clear hK K
                refine norm_ (a' := ?_) ?_ ?_
                rotate_left
                ·show Act.put _ (some 39) _ = _
                 simp only [Z]
                 rfl
                exact norm_ (by first | (simp only [putAll, Act.put, List.setIfInBounds_toArray, List.set_cons_zero, List.set_cons_succ]; done) | (simp only [putAll, Act.put, List.setIfInBounds_toArray, List.set_cons_zero, List.set_cons_succ]; rfl)) (hJ3_9_14 (v112) _ ⟨hHeld, (by exact Ho.RS <| HO113.out), (by exact bS BK101.out), (by exact bS BK104.out), (by exact eS HB.out)⟩)
              ·skip
               rintro v112 w48 ⟨hS_, h0_, h1_, h2_, h3_⟩
               have n0_ : Aside0 (Kd.R (Kd.int .u8) 5 w48 w.heap.size (fun _ => True) v112 y111) := ⟨h0_⟩
               have n1_ : Aside0 (w48.heap[gb101]? = some (.cells #[.slice (some ad103) l0_0.length c0_0, .int .i64 a0_1, .int .i64 a0_2, .int .i64 a0_3, .int .i64 a0_4] 30 (0, 0))) := ⟨h1_⟩
               have n2_ : Aside0 (w48.heap[gb104]? = some (.cells #[.int .i64 ((rd_T37 l0_0 x5_1).f0), .int .i64 ((rd_T37 l0_0 x5_1).f1), .int .i64 ((rd_T37 l0_0 x5_1).f2)] 37 (0, 0))) := ⟨h2_⟩
               have n3_ : Aside0 (Below w.heap.size w w48) := ⟨h3_⟩
               clear BK101
               clear BK104
               clear HB
               clear h0_ h1_ h2_ h3_
               have HO113 := n0_
               have BK101 := n1_
               have BK104 := n2_
               have HB := n3_
               clear n0_ n1_ n2_ n3_
               have hHeld : w48.cell? ⟨gb104, 0, none⟩ = some (.int .i64 ((rd_T37 l0_0 x5_1).f0)) ∧ w48.cell? ⟨gb104, 1, none⟩ = some (.int .i64 ((rd_T37 l0_0 x5_1).f1)) ∧ w48.cell? ⟨gb104, 2, none⟩ = some (.int .i64 ((rd_T37 l0_0 x5_1).f2)) := hS_
               refine norm_ (a' := ?_) ?_ ?_
               rotate_left
               ·simp only [putAll, Act.put, List.setIfInBounds_toArray, List.set_cons_zero, List.set_cons_succ]
                rfl
               refine two_ (i := 10) (j := 14) (Ni := some 40) (Nj := some 44) #[I,I,I,I,I,I,I,I,I,I,I,O,I,I,O,O,O] #[I,I,I,I,I,I,I,I,I,I,O,O,I,I,I,O,O] rfl rfl rfl rfl (two_of HT_.out (by kernel_rfl)) (by decide) (by decide) (fun K hK => ?_) (fun K hK => ?_)
               ·skip
                have hcv49 := own_string (P := Tryd.prog) Tryd.underlying39 Tryd.underlying5 Tryd.underlying9 (Kd.own_of_R HO113.out)
                refine value_ (w1 := ?_) (v := ?_) (by rfl) rfl ?_ ?_
                rotate_left 2
                ·go_simp
                 constructor
                 ·rfl
                 ·rfl
                clear hcv49
                refine hK.out _ _ ⟨(blk_cell BK104.out 0).trans rfl, (blk_cell BK104.out 1).trans rfl, (blk_cell BK104.out 2).trans rfl⟩ (fun hHeld => ?_)
                clear hK K
                refine norm_ (a' := ?_) ?_ ?_
                rotate_left
                ·show Act.put _ (some 40) _ = _
                 simp only [Z]
                 rfl
                refine pure_ (i := 11) (N := some 41) (v := ?_) (a' := ?_) #[I,I,I,I,I,I,I,I,I,I,I,I,I,I,O,O,O] rfl rfl (any_of HT_.out (by kernel_rfl)) (fun _ _ _ h => h) (Or.inl ⟨by rfl, ?_⟩) ?_ ?_
                rotate_left; (intro w'; go_simp; with_reducible rfl); rotate_left; (simp only [Z]; rfl)
                exact norm_ (by first | (simp only [putAll, Act.put, List.setIfInBounds_toArray, List.set_cons_zero, List.set_cons_succ]; done) | (simp only [putAll, Act.put, List.setIfInBounds_toArray, List.set_cons_zero, List.set_cons_succ]; rfl)) (hJ3_9_10 (v112) _ ⟨hHeld, (by exact Ho.RS <| HO113.out), (by exact bS BK101.out), (by exact bS BK104.out), (by exact eS HB.out)⟩)
               ·skip
                refine goes_ Tryd.func11 (by kernel_rfl) rfl #[.int .i64 ((rd_T37 l0_0 x5_1).f2)] (by rfl) rfl rfl (by (try simp only [List.map_toArray, List.map_cons, List.map_nil]); first | done | rfl | (simp only [List.length_drop, List.length_take]; rfl)) ?_
                with_reducible refine (spec_l1Num.calls k1 ((rd_T37 l0_0 x5_1).f2) t114 _ A37.out).mono ?_
                rintro e w49 ⟨rfl, hb⟩
                refine ⟨_, rfl, ?_⟩
                have n0_ := Aside0.mk (Kd.R_below (by exact Ho.RS <| HO113.out) hb)
                have n1_ := Aside0.mk (blk_below (bS BK101.out) hb)
                have n2_ := Aside0.mk (blk_below (bS BK104.out) hb)
                have n3_ := Aside0.mk (below_step (by exact eS HB.out) hb)
                clear HO113
                clear BK101
                clear BK104
                clear HB
                have HO113 := n0_
                have BK101 := n1_
                have BK104 := n2_
                have HB := n3_
                clear n0_ n1_ n2_ n3_
                (try clear hb)
                (try clear hb2)
                (try clear hk)
                (try clear hi)
                refine hK.out _ _ ⟨(blk_cell BK104.out 0).trans rfl, (blk_cell BK104.out 1).trans rfl, (blk_cell BK104.out 2).trans rfl⟩ (fun hHeld => ?_)
                clear hK K
                refine norm_ (a' := ?_) ?_ ?_
                rotate_left
                ·show Act.put _ (some 44) _ = _
                 simp only [Z]
                 rfl
                exact norm_ (by first | (simp only [putAll, Act.put, List.setIfInBounds_toArray, List.set_cons_zero, List.set_cons_succ]; done) | (simp only [putAll, Act.put, List.setIfInBounds_toArray, List.set_cons_zero, List.set_cons_succ]; rfl)) (hJ3_9_14 (v112) _ ⟨hHeld, (by exact Ho.RS <| HO113.out), (by exact bS BK101.out), (by exact bS BK104.out), (by exact eS HB.out)⟩)
             ·skip
              rintro v112 w49 ⟨hS_, h0_, h1_, h2_, h3_⟩
              have n0_ : Aside0 (Kd.R (Kd.int .u8) 5 w49 w.heap.size (fun _ => True) v112 y111) := ⟨h0_⟩
              have n1_ : Aside0 (w49.heap[gb101]? = some (.cells #[.slice (some ad103) l0_0.length c0_0, .int .i64 a0_1, .int .i64 a0_2, .int .i64 a0_3, .int .i64 a0_4] 30 (0, 0))) := ⟨h1_⟩
              have n2_ : Aside0 (w49.heap[gb104]? = some (.cells #[.int .i64 ((rd_T37 l0_0 x5_1).f0), .int .i64 ((rd_T37 l0_0 x5_1).f1), .int .i64 ((rd_T37 l0_0 x5_1).f2)] 37 (0, 0))) := ⟨h2_⟩
              have n3_ : Aside0 (Below w.heap.size w w49) := ⟨h3_⟩
              clear BK101
              clear BK104
              clear HB
              clear h0_ h1_ h2_ h3_
              have HO113 := n0_
              have BK101 := n1_
              have BK104 := n2_
              have HB := n3_
              clear n0_ n1_ n2_ n3_
              have hHeld : w49.cell? ⟨gb104, 0, none⟩ = some (.int .i64 ((rd_T37 l0_0 x5_1).f0)) ∧ w49.cell? ⟨gb104, 1, none⟩ = some (.int .i64 ((rd_T37 l0_0 x5_1).f1)) ∧ w49.cell? ⟨gb104, 2, none⟩ = some (.int .i64 ((rd_T37 l0_0 x5_1).f2)) := hS_
              refine norm_ (a' := ?_) ?_ ?_
              rotate_left
              ·simp only [putAll, Act.put, List.setIfInBounds_toArray, List.set_cons_zero, List.set_cons_succ]
               rfl
              refine one_ (i := 10) (N := some 40) #[I,I,I,I,I,I,I,I,I,I,I,O,I,I,I,O,O] rfl rfl (one_of HT_.out (by kernel_rfl)) (by decide) (fun K hK => ?_)
              have hcv50 := own_string (P := Tryd.prog) Tryd.underlying39 Tryd.underlying5 Tryd.underlying9 (Kd.own_of_R HO113.out)
              refine value_ (w1 := ?_) (v := ?_) (by rfl) rfl ?_ ?_
              rotate_left 2
              ·go_simp
               constructor
               ·rfl
               ·rfl
              clear hcv50
              refine hK.out _ _ ⟨(blk_cell BK104.out 0).trans rfl, (blk_cell BK104.out 1).trans rfl, (blk_cell BK104.out 2).trans rfl⟩ (fun hHeld => ?_)
              clear hK K
              refine norm_ (a' := ?_) ?_ ?_
              rotate_left
              ·show Act.put _ (some 40) _ = _
               simp only [Z]
               rfl
              refine pure_ (i := 11) (N := some 41) (v := ?_) (a' := ?_) #[I,I,I,I,I,I,I,I,I,I,I,I,I,I,I,O,O] rfl rfl (any_of HT_.out (by kernel_rfl)) (fun _ _ _ h => h) (Or.inl ⟨by rfl, ?_⟩) ?_ ?_
              rotate_left; (intro w'; go_simp; with_reducible rfl); rotate_left; (simp only [Z]; rfl)
              exact norm_ (by first | (simp only [putAll, Act.put, List.setIfInBounds_toArray, List.set_cons_zero, List.set_cons_succ]; done) | (simp only [putAll, Act.put, List.setIfInBounds_toArray, List.set_cons_zero, List.set_cons_succ]; rfl)) (hJ3_9_10_14 (v112) _ ⟨hHeld, (by exact Ho.RS <| HO113.out), (by exact bS BK101.out), (by exact bS BK104.out), (by exact eS HB.out)⟩)
            ·skip
             rintro v112 w49 ⟨hS_, h0_, h1_, h2_, h3_⟩
             have n0_ : Aside0 (Kd.R (Kd.int .u8) 5 w49 w.heap.size (fun _ => True) v112 y111) := ⟨h0_⟩
             have n1_ : Aside0 (w49.heap[gb101]? = some (.cells #[.slice (some ad103) l0_0.length c0_0, .int .i64 a0_1, .int .i64 a0_2, .int .i64 a0_3, .int .i64 a0_4] 30 (0, 0))) := ⟨h1_⟩
             have n2_ : Aside0 (w49.heap[gb104]? = some (.cells #[.int .i64 ((rd_T37 l0_0 x5_1).f0), .int .i64 ((rd_T37 l0_0 x5_1).f1), .int .i64 ((rd_T37 l0_0 x5_1).f2)] 37 (0, 0))) := ⟨h2_⟩
             have n3_ : Aside0 (Below w.heap.size w w49) := ⟨h3_⟩
             clear BK101
             clear BK104
             clear HB
             clear h0_ h1_ h2_ h3_
             have HO113 := n0_
             have BK101 := n1_
             have BK104 := n2_
             have HB := n3_
             clear n0_ n1_ n2_ n3_
             have hHeld : w49.cell? ⟨gb104, 0, none⟩ = some (.int .i64 ((rd_T37 l0_0 x5_1).f0)) ∧ w49.cell? ⟨gb104, 1, none⟩ = some (.int .i64 ((rd_T37 l0_0 x5_1).f1)) ∧ w49.cell? ⟨gb104, 2, none⟩ = some (.int .i64 ((rd_T37 l0_0 x5_1).f2)) := hS_
             refine norm_ (a' := ?_) ?_ ?_
             rotate_left
             ·simp only [putAll, Act.put, List.setIfInBounds_toArray, List.set_cons_zero, List.set_cons_succ]
              rfl
             refine one_ (i := 14) (N := some 44) #[I,I,I,I,I,I,I,I,I,I,I,I,I,I,I,O,O] rfl rfl (one_of HT_.out (by kernel_rfl)) (by decide) (fun K hK => ?_)
             refine goes_ Tryd.func11 (by kernel_rfl) rfl #[.int .i64 ((rd_T37 l0_0 x5_1).f2)] (by rfl) rfl rfl (by (try simp only [List.map_toArray, List.map_cons, List.map_nil]); first | done | rfl | (simp only [List.length_drop, List.length_take]; rfl)) ?_
             with_reducible refine (spec_l1Num.calls k1 ((rd_T37 l0_0 x5_1).f2) t114 _ A37.out).mono ?_
             rintro e w50 ⟨rfl, hb⟩
             refine ⟨_, rfl, ?_⟩
             have n0_ := Aside0.mk (Kd.R_below (by exact Ho.RS <| HO113.out) hb)
             have n1_ := Aside0.mk (blk_below (bS BK101.out) hb)
             have n2_ := Aside0.mk (blk_below (bS BK104.out) hb)
             have n3_ := Aside0.mk (below_step (by exact eS HB.out) hb)
             clear HO113
             clear BK101
             clear BK104
             clear HB
             have HO113 := n0_
             have BK101 := n1_
             have BK104 := n2_
             have HB := n3_
             clear n0_ n1_ n2_ n3_
             (try clear hb)
             (try clear hb2)
             (try clear hk)
             (try clear hi)
             refine hK.out _ _ ⟨(blk_cell BK104.out 0).trans rfl, (blk_cell BK104.out 1).trans rfl, (blk_cell BK104.out 2).trans rfl⟩ (fun hHeld => ?_)
             clear hK K
             refine norm_ (a' := ?_) ?_ ?_
             rotate_left
             ·show Act.put _ (some 44) _ = _
              simp only [Z]
              rfl
             exact norm_ (by first | (simp only [putAll, Act.put, List.setIfInBounds_toArray, List.set_cons_zero, List.set_cons_succ]; done) | (simp only [putAll, Act.put, List.setIfInBounds_toArray, List.set_cons_zero, List.set_cons_succ]; rfl)) (hJ3_9_10_14 (v112) _ ⟨hHeld, (by exact Ho.RS <| HO113.out), (by exact bS BK101.out), (by exact bS BK104.out), (by exact eS HB.out)⟩)
           rintro v112 w50 ⟨hS_, h0_, h1_, h2_, h3_⟩
           have n0_ : Aside0 (Kd.R (Kd.int .u8) 5 w50 w.heap.size (fun _ => True) v112 y111) := ⟨h0_⟩
           have n1_ : Aside0 (w50.heap[gb101]? = some (.cells #[.slice (some ad103) l0_0.length c0_0, .int .i64 a0_1, .int .i64 a0_2, .int .i64 a0_3, .int .i64 a0_4] 30 (0, 0))) := ⟨h1_⟩
           have n2_ : Aside0 (w50.heap[gb104]? = some (.cells #[.int .i64 ((rd_T37 l0_0 x5_1).f0), .int .i64 ((rd_T37 l0_0 x5_1).f1), .int .i64 ((rd_T37 l0_0 x5_1).f2)] 37 (0, 0))) := ⟨h2_⟩
           have n3_ : Aside0 (Below w.heap.size w w50) := ⟨h3_⟩
           clear BK101
           clear BK104
           clear HB
           clear h0_ h1_ h2_ h3_
           have HO113 := n0_
           have BK101 := n1_
           have BK104 := n2_
           have HB := n3_
           clear n0_ n1_ n2_ n3_
           have hHeld : w50.cell? ⟨gb104, 0, none⟩ = some (.int .i64 ((rd_T37 l0_0 x5_1).f0)) ∧ w50.cell? ⟨gb104, 1, none⟩ = some (.int .i64 ((rd_T37 l0_0 x5_1).f1)) ∧ w50.cell? ⟨gb104, 2, none⟩ = some (.int .i64 ((rd_T37 l0_0 x5_1).f2)) := hS_
           refine norm_ (a' := ?_) ?_ ?_
           rotate_left
           ·simp only [putAll, Act.put, List.setIfInBounds_toArray, List.set_cons_zero, List.set_cons_succ]
            rfl
           refine pure_ (i := 15) (N := some 45) (v := ?_) (a' := ?_) #[I,I,I,I,I,I,I,I,I,I,I,I,I,I,I,I,O] rfl rfl (any_of HT_.out (by kernel_rfl)) (fun _ _ _ h => h) (Or.inl ⟨by rfl, ?_⟩) ?_ ?_
           rotate_left; (intro w'; go_simp; with_reducible rfl); rotate_left; (simp only [Z]; rfl)
           refine pure_ (i := 16) (N := some 4) (v := ?_) (a' := ?_) #[I,I,I,I,I,I,I,I,I,I,I,I,I,I,I,I,I] rfl rfl (any_of HT_.out (by kernel_rfl)) (fun _ _ _ h => h) (Or.inl ⟨by rfl, ?_⟩) ?_ ?_
           rotate_left; (intro w'; go_simp; with_reducible rfl); rotate_left; (simp only [Z]; rfl)
           refine done_ (done_of HT_.out (by kernel_rfl)) ?_
           try go_wp2
           go_roundg k1
           case measure => have := HK1.out; omega
           case rel => exact ⟨(((x4_1 ++ t110) ++ (strOfNums y111)) ++ t114), (wrap64 (x5_1 + 1)), (by first | rfl | (simp; done) | (simp [*]; done)), (by first | rfl | (simp; done) | (simp [*]; done)), H', ⟨by have := HK1.out; omega⟩, ⟨by exact bS BK101.out⟩, ⟨by exact eS HB.out⟩⟩
          ·rw [if_neg c38] at H
           exact absurd H (by simp)
         ·rw [if_neg c36] at H
          exact absurd H (by simp)
        ·rw [if_neg c35] at H
         exact absurd H (by simp)
      ·rw [if_neg c14] at H
       exact absurd H (by simp)
     ·rw [if_neg c13] at H
      have c13b0 : decide (x5_1 < (l0_0.length : Int)) = false := decide_eq_false c13
      clear c13
      simp only [Option.some.injEq, Prod.mk.injEq] at H
      obtain ⟨rfl, rfl⟩ := H
      have hcz51_0 : wr.cell? ⟨gb101, 0, none⟩ = some (.slice A0_0 l0_0.length c0_0) := (blk_cell BK101.out 0).trans rfl
      have hcz51_1 : wr.cell? ⟨gb101, 1, none⟩ = some (.int .i64 a0_1) := (blk_cell BK101.out 1).trans rfl
      have hcz51_2 : wr.cell? ⟨gb101, 2, none⟩ = some (.int .i64 a0_2) := (blk_cell BK101.out 2).trans rfl
      have hcz51_3 : wr.cell? ⟨gb101, 3, none⟩ = some (.int .i64 a0_3) := (blk_cell BK101.out 3).trans rfl
      have hcz51_4 : wr.cell? ⟨gb101, 4, none⟩ = some (.int .i64 a0_4) := (blk_cell BK101.out 4).trans rfl
      have hfz51_0 := blk_frozen BK101.out 0
      have hfz51_1 := blk_frozen BK101.out 1
      have hfz51_2 := blk_frozen BK101.out 2
      have hfz51_3 := blk_frozen BK101.out 3
      have hfz51_4 := blk_frozen BK101.out 4
      go_wp2
      go_ret2
      exact ⟨by first | rfl | (simp [errW_none, errW_some] <;> rfl) | (simp [*, errW_none, errW_some] <;> rfl), by exact eS HB.out⟩
 ·replace c3 := Bool.eq_false_iff.mpr c3
  subst c3
  have H1 : (some ((⟨#[]⟩ : ByteArray), false)) = some (r1, r2) := by rw [if_neg (show ¬ (false = true) by decide)] at H; exact H
  clear H
  have H := H1
  clear H1
  simp only [Option.some.injEq, Prod.mk.injEq] at H
  obtain ⟨rfl, rfl⟩ := H
  go_enter Tryd.func5, Tryd.ntmps5
  go_wp2_with (first | ((with_reducible refine gate_dst (N := 1) rfl ?_); refine box_event ?hg (N := 1) ?hd (cs := #[.slice A0_0 l0_0.length c0_0, .int .i64 a0_1, .int .i64 a0_2, .int .i64 a0_3, .int .i64 a0_4]) (t := 30) ?hr ?_; (case hd => rfl); (case hg => rfl); (case hr => first | (go_simp; done) | (go_simp; rfl)); intro gb101 hg w52 hbox hb; have n0_ := Aside0.mk (below_step (by exact eS HB.out) hb); have n1_ := Aside0.mk (hbox); have n2_ := Aside0.mk ((by rw [hg]; exact (below_size (by exact eS HB.out)) : w.heap.size ≤ gb101)); have n3_ := Aside0.mk ((by rw [hg]; exact (below_size (by exact eS HB.out)) : w.heap.size ≤ gb101)); clear HB; have HB := n0_; have BK101 := n1_; have GW101 := n2_; have GE101 := n3_; clear n0_ n1_ n2_ n3_; clear hb hbox hg; have hcz53_0 : w52.cell? ⟨gb101, 0, none⟩ = some (.slice A0_0 l0_0.length c0_0) := (blk_cell BK101.out 0).trans rfl; have hcz53_1 : w52.cell? ⟨gb101, 1, none⟩ = some (.int .i64 a0_1) := (blk_cell BK101.out 1).trans rfl; have hcz53_2 : w52.cell? ⟨gb101, 2, none⟩ = some (.int .i64 a0_2) := (blk_cell BK101.out 2).trans rfl; have hcz53_3 : w52.cell? ⟨gb101, 3, none⟩ = some (.int .i64 a0_3) := (blk_cell BK101.out 3).trans rfl; have hcz53_4 : w52.cell? ⟨gb101, 4, none⟩ = some (.int .i64 a0_4) := (blk_cell BK101.out 4).trans rfl; have hfz53_0 := blk_frozen BK101.out 0; have hfz53_1 := blk_frozen BK101.out 1; have hfz53_2 := blk_frozen BK101.out 2; have hfz53_3 := blk_frozen BK101.out 3; have hfz53_4 := blk_frozen BK101.out 4) | ((with_reducible refine gate_callee (f := 10) rfl ?_); refine goesL_ (some 8) rfl rfl Tryd.func10 (by kernel_rfl) rfl #[.agg #[.slice A0_0 l0_0.length c0_0, .int .i64 a0_1, .int .i64 a0_2, .int .i64 a0_3, .int .i64 a0_4]] rfl (by (try simp only [List.map_toArray, List.map_cons, List.map_nil]); first | done | rfl | (simp only [List.length_drop, List.length_take]; rfl)) ?_; (with_reducible refine (spec_l21Good.calls k _ _ l0_0 a0_1 a0_2 a0_3 a0_4 false _ ?side1 ?side2 A2.out).mono ?_); (case side1 => repeat (first | exact (Kd.C_below HR0_0.out HB.out) | (with_reducible refine Kd.C_alloc ?_ _) | (with_reducible refine Kd.C_drewN ?_ _) | (with_reducible refine Kd.C_drew ?_))); (case side2 => exact HC0_0.out); rintro e w54 ⟨rfl, hb⟩; refine ⟨_, rfl, ?_⟩; have n0_ := Aside0.mk (blk_below (bS BK101.out) hb); have n1_ := Aside0.mk (below_step (by exact eS HB.out) hb); clear BK101; clear HB; have BK101 := n0_; have HB := n1_; clear n0_ n1_; (try clear hb); (try clear hb2); (try clear hk); (try clear hi)))
  go_ret2
  exact ⟨by first | rfl | (simp [errW_none, errW_some] <;> rfl) | (simp [*, errW_none, errW_some] <;> rfl), by exact eS HB.out⟩

end Go.Proofs.YtiomfignokichaaDoor.X

-- XlawsFnExactYarnStoreTextF3
namespace Go.Proofs.YtiomfignokichaaDoor.X
open Ho (bS eS)
open Go.RowKit Go.Proofs.YtiomfignokichaaDoorW.PrintWords Go.Proofs.YtiomfignokichaaDoorW.PrintLast Go.Proofs.YtiomfignokichaaDoorW.PrintMore
attribute [local go_sem] max2_int min2_int max_two min_two max_three min_three max_four min_four   -- for this text's walks alone
set_option linter.unusedVariables false
set_option linter.unusedSimpArgs false

attribute [local go_sem ↓] Ho.isSome_setCell_   -- a store leaves all places there
/-! ### laws_FnExactYarnStoreText: function 3 -/
def laws_FnExactYarnStoreText.j0 : Nat → Bool → List (S48) → Int → Int → Int → Int → List (S37) → Int → Int → Int → Int → Option (Bool)
  | 0, _, _, _, _, _, _, _, _, _, _, _ => none
  | k + 1, x34, x102000, x102001, x102002, x102003, x102004, x120000, x120001, x120002, x120003, x120004 => if x34 = true then (some false) else ((laws_toYarnStore.f k x102000 x102001 x102002 x102003 x102004).bind fun bt122 => ((laws_eqYarnStore.f k x120000 x120001 x120002 x120003 x120004 bt122.1 bt122.2.1 bt122.2.2.1 bt122.2.2.2.1 bt122.2.2.2.2).bind fun t129 => (if t129 = true then (some true) else (some false))))
def laws_FnExactYarnStoreText.f (k : Nat) (l0_0 : List (S48)) (a0_1 : Int) (a0_2 : Int) (a0_3 : Int) (a0_4 : Int) : Option (Bool) := (laws_szYarnStore.f l0_0 a0_1 a0_2 a0_3 a0_4 1048576).bind fun t102 => (if t102 < 0 then (some true) else ((laws_toYarnStore.f k l0_0 a0_1 a0_2 a0_3 a0_4).bind fun bt103 => ((spec_YarnStoreText.f k bt103.1 bt103.2.1 bt103.2.2.1 bt103.2.2.2.1 bt103.2.2.2.2).bind fun bt110 => ((laws_toYarnStore.f k l0_0 a0_1 a0_2 a0_3 a0_4).bind fun bt112 => ((impl_YarnStoreText.f k bt112.1 bt112.2.1 bt112.2.2.1 bt112.2.2.2.1 bt112.2.2.2.2).bind fun bt120 => (if bt120.1.toList = bt110.1.toList then (laws_FnExactYarnStoreText.j0 k (bt120.2 != bt110.2) l0_0 a0_1 a0_2 a0_3 a0_4 bt112.1 bt112.2.1 bt112.2.2.1 bt112.2.2.2.1 bt112.2.2.2.2) else (laws_FnExactYarnStoreText.j0 k true l0_0 a0_1 a0_2 a0_3 a0_4 bt112.1 bt112.2.1 bt112.2.2.1 bt112.2.2.2.1 bt112.2.2.2.2)))))))
theorem laws_FnExactYarnStoreText.mono_l : ∀ k, (∀ y0 y1 y2 y3 y4 y5 y6 y7 y8 y9 y10, LeO (laws_FnExactYarnStoreText.j0 k y0 y1 y2 y3 y4 y5 y6 y7 y8 y9 y10) (laws_FnExactYarnStoreText.j0 (k + 1) y0 y1 y2 y3 y4 y5 y6 y7 y8 y9 y10))
  | 0 => fun _ _ _ _ _ _ _ _ _ _ _ r h => by simp [laws_FnExactYarnStoreText.j0] at h
  | k + 1 => by
    have ih0 := laws_FnExactYarnStoreText.mono_l k
    · intro y0 y1 y2 y3 y4 y5 y6 y7 y8 y9 y10
      unfold laws_FnExactYarnStoreText.j0
      repeat' first
      | (with_reducible exact ih0 _ _ _ _ _ _ _ _ _ _ _)
      | (with_reducible exact impl_YarnStoreText.mono _ _ _ _ _ _)
      | (with_reducible exact laws_eqYarnStore.mono _ _ _ _ _ _ _ _ _ _ _)
      | (with_reducible exact laws_toYarnStore.mono _ _ _ _ _ _)
      | (with_reducible exact spec_YarnStoreText.mono _ _ _ _ _ _)
      | (with_reducible exact LeO.refl _)
      | (with_reducible exact LeO.none _)
      | (with_reducible refine LeO.ite ?_ ?_)
      | (with_reducible refine LeO.bind ?_ (fun _ => ?_))
      | exact ih0 _ _ _ _ _ _ _ _ _ _ _
      | exact impl_YarnStoreText.mono _ _ _ _ _ _
      | exact laws_eqYarnStore.mono _ _ _ _ _ _ _ _ _ _ _
      | exact laws_toYarnStore.mono _ _ _ _ _ _
      | exact spec_YarnStoreText.mono _ _ _ _ _ _
      | exact LeO.none _
      | refine LeO.ite ?_ ?_
      | refine LeO.bind ?_ (fun _ => ?_)
theorem laws_FnExactYarnStoreText.mono : ∀ a0 a1 a2 a3 a4 k, LeO (laws_FnExactYarnStoreText.f k a0 a1 a2 a3 a4) (laws_FnExactYarnStoreText.f (k + 1) a0 a1 a2 a3 a4) := by
  intro a0 a1 a2 a3 a4 k
  have ih0 := laws_FnExactYarnStoreText.mono_l k
  unfold laws_FnExactYarnStoreText.f
  repeat' first
      | (with_reducible exact ih0 _ _ _ _ _ _ _ _ _ _ _)
      | (with_reducible exact impl_YarnStoreText.mono _ _ _ _ _ _)
      | (with_reducible exact laws_eqYarnStore.mono _ _ _ _ _ _ _ _ _ _ _)
      | (with_reducible exact laws_toYarnStore.mono _ _ _ _ _ _)
      | (with_reducible exact spec_YarnStoreText.mono _ _ _ _ _ _)
      | (with_reducible exact LeO.refl _)
      | (with_reducible exact LeO.none _)
      | (with_reducible refine LeO.ite ?_ ?_)
      | (with_reducible refine LeO.bind ?_ (fun _ => ?_))
      | exact ih0 _ _ _ _ _ _ _ _ _ _ _
      | exact impl_YarnStoreText.mono _ _ _ _ _ _
      | exact laws_eqYarnStore.mono _ _ _ _ _ _ _ _ _ _ _
      | exact laws_toYarnStore.mono _ _ _ _ _ _
      | exact spec_YarnStoreText.mono _ _ _ _ _ _
      | exact LeO.none _
      | refine LeO.ite ?_ ?_
      | refine LeO.bind ?_ (fun _ => ?_)
set_option maxHeartbeats 8000000 in
set_option maxRecDepth 100000 in
theorem laws_FnExactYarnStoreText.calls (k : Nat) (A0_0 : Option Addr) (c0_0 : Nat) (l0_0 : List (S48)) (a0_1 : Int) (a0_2 : Int) (a0_3 : Int) (a0_4 : Int) (r : Bool) (w : World) (hr0_0 : Kd.C k48 w A0_0 l0_0.length l0_0) (hc0_0 : l0_0.length ≤ c0_0) (ht : r = true) (htab : Lib.TabIs Tryd.prog w "internal/strconv.uint64pow10" .u64 Lib.pow10Tab) (h : laws_FnExactYarnStoreText.f k l0_0 a0_1 a0_2 a0_3 a0_4 = some r) :
    Calls Tryd.prog 3 #[.agg #[.slice A0_0 l0_0.length c0_0, .int .i64 a0_1, .int .i64 a0_2, .int .i64 a0_3, .int .i64 a0_4]] w fun e w' => e = .returned (.bool r) ∧ Below w.heap.size w w' := by
  have HTAB := Aside0.mk htab
  clear htab
  have hu24 := Tryd.underlying24
  have hu30 := Tryd.underlying30
  have HR0_0 := Aside0.mk hr0_0
  have HC0_0 := Aside0.mk hc0_0
  clear hr0_0 hc0_0
  have HB := Aside0.mk (Below.refl w.heap.size w)
  have HT := Aside0.mk ht
  clear ht
  have H : ((laws_szYarnStore.f l0_0 a0_1 a0_2 a0_3 a0_4 1048576).bind fun t102 => (if t102 < 0 then (some true) else ((laws_toYarnStore.f k l0_0 a0_1 a0_2 a0_3 a0_4).bind fun bt103 => ((spec_YarnStoreText.f k bt103.1 bt103.2.1 bt103.2.2.1 bt103.2.2.2.1 bt103.2.2.2.2).bind fun bt110 => ((laws_toYarnStore.f k l0_0 a0_1 a0_2 a0_3 a0_4).bind fun bt112 => ((impl_YarnStoreText.f k bt112.1 bt112.2.1 bt112.2.2.1 bt112.2.2.2.1 bt112.2.2.2.2).bind fun bt120 => (if bt120.1.toList = bt110.1.toList then (laws_FnExactYarnStoreText.j0 k (bt120.2 != bt110.2) l0_0 a0_1 a0_2 a0_3 a0_4 bt112.1 bt112.2.1 bt112.2.2.1 bt112.2.2.2.1 bt112.2.2.2.2) else (laws_FnExactYarnStoreText.j0 k true l0_0 a0_1 a0_2 a0_3 a0_4 bt112.1 bt112.2.1 bt112.2.2.1 bt112.2.2.2.1 bt112.2.2.2.2)))))))) = some r := h
  clear h
  replace H := Option.bind_eq_some_iff.mp H
  obtain ⟨t102, A20, H⟩ := H
  replace H : (if t102 < 0 then (some true) else ((laws_toYarnStore.f k l0_0 a0_1 a0_2 a0_3 a0_4).bind fun bt103 => ((spec_YarnStoreText.f k bt103.1 bt103.2.1 bt103.2.2.1 bt103.2.2.2.1 bt103.2.2.2.2).bind fun bt110 => ((laws_toYarnStore.f k l0_0 a0_1 a0_2 a0_3 a0_4).bind fun bt112 => ((impl_YarnStoreText.f k bt112.1 bt112.2.1 bt112.2.2.1 bt112.2.2.2.1 bt112.2.2.2.2).bind fun bt120 => (if bt120.1.toList = bt110.1.toList then (laws_FnExactYarnStoreText.j0 k (bt120.2 != bt110.2) l0_0 a0_1 a0_2 a0_3 a0_4 bt112.1 bt112.2.1 bt112.2.2.1 bt112.2.2.2.1 bt112.2.2.2.2) else (laws_FnExactYarnStoreText.j0 k true l0_0 a0_1 a0_2 a0_3 a0_4 bt112.1 bt112.2.1 bt112.2.2.1 bt112.2.2.2.1 bt112.2.2.2.2))))))) = some r := H
  have A2 := Aside0.mk A20
  clear A20
  by_cases c3 : t102 < 0
  · rw [if_pos c3] at H
    have c3b0 : decide (t102 < 0) = true := decide_eq_true c3
    clear c3
    obtain rfl := Option.some.inj H
    go_enter Tryd.func3, Tryd.ntmps3
    go_wp2_with (first | ((with_reducible refine gate_dst (N := 1) rfl ?_); refine box_event ?hg (N := 1) ?hd (cs := #[.slice A0_0 l0_0.length c0_0, .int .i64 a0_1, .int .i64 a0_2, .int .i64 a0_3, .int .i64 a0_4]) (t := 24) ?hr ?_; (case hd => rfl); (case hg => rfl); (case hr => first | (go_simp; done) | (go_simp; rfl)); intro gb101 hg w4 hbox hb; have n0_ := Aside0.mk (below_step (by exact eS HB.out) hb); have n1_ := Aside0.mk (hbox); have n2_ := Aside0.mk ((by rw [hg]; exact (below_size (by exact eS HB.out)) : w.heap.size ≤ gb101)); have n3_ := Aside0.mk ((by rw [hg]; exact (below_size (by exact eS HB.out)) : w.heap.size ≤ gb101)); clear HB; have HB := n0_; have BK101 := n1_; have GW101 := n2_; have GE101 := n3_; clear n0_ n1_ n2_ n3_; clear hb hbox hg; have hcz5_0 : w4.cell? ⟨gb101, 0, none⟩ = some (.slice A0_0 l0_0.length c0_0) := (blk_cell BK101.out 0).trans rfl; have hcz5_1 : w4.cell? ⟨gb101, 1, none⟩ = some (.int .i64 a0_1) := (blk_cell BK101.out 1).trans rfl; have hcz5_2 : w4.cell? ⟨gb101, 2, none⟩ = some (.int .i64 a0_2) := (blk_cell BK101.out 2).trans rfl; have hcz5_3 : w4.cell? ⟨gb101, 3, none⟩ = some (.int .i64 a0_3) := (blk_cell BK101.out 3).trans rfl; have hcz5_4 : w4.cell? ⟨gb101, 4, none⟩ = some (.int .i64 a0_4) := (blk_cell BK101.out 4).trans rfl; have hfz5_0 := blk_frozen BK101.out 0; have hfz5_1 := blk_frozen BK101.out 1; have hfz5_2 := blk_frozen BK101.out 2; have hfz5_3 := blk_frozen BK101.out 3; have hfz5_4 := blk_frozen BK101.out 4) | ((with_reducible refine gate_callee (f := 4) rfl ?_); refine goesL_ (some 11) rfl rfl Tryd.func4 (by kernel_rfl) rfl #[.agg #[.slice A0_0 l0_0.length c0_0, .int .i64 a0_1, .int .i64 a0_2, .int .i64 a0_3, .int .i64 a0_4], .int .i64 1048576] rfl (by (try simp only [List.map_toArray, List.map_cons, List.map_nil]); first | done | rfl | (simp only [List.length_drop, List.length_take]; rfl)) ?_; (with_reducible refine (laws_szYarnStore.calls _ _ l0_0 a0_1 a0_2 a0_3 a0_4 1048576 t102 _ ?side1 ?side2 A2.out).mono ?_); (case side1 => repeat (first | exact (Kd.C_below HR0_0.out HB.out) | (with_reducible refine Kd.C_alloc ?_ _) | (with_reducible refine Kd.C_drewN ?_ _) | (with_reducible refine Kd.C_drew ?_))); (case side2 => exact HC0_0.out); rintro e w6 ⟨rfl, hb⟩; refine ⟨_, rfl, ?_⟩; have n0_ := Aside0.mk (blk_below (bS BK101.out) hb); have n1_ := Aside0.mk (below_step (by exact eS HB.out) hb); clear BK101; clear HB; have BK101 := n0_; have HB := n1_; clear n0_ n1_; (try clear hb); (try clear hb2); (try clear hk); (try clear hi)))
    go_ret
    exact ⟨by first | rfl | (simp [errW_none, errW_some] <;> rfl) | (simp [*, errW_none, errW_some] <;> rfl), by exact eS HB.out⟩
  · rw [if_neg c3] at H
    have c3b0 : decide (t102 < 0) = false := decide_eq_false c3
    clear c3
    replace H := Option.bind_eq_some_iff.mp H
    obtain ⟨⟨t103, t106, t107, t108, t109⟩, A70, H⟩ := H
    replace H : ((spec_YarnStoreText.f k t103 t106 t107 t108 t109).bind fun bt110 => ((laws_toYarnStore.f k l0_0 a0_1 a0_2 a0_3 a0_4).bind fun bt112 => ((impl_YarnStoreText.f k bt112.1 bt112.2.1 bt112.2.2.1 bt112.2.2.2.1 bt112.2.2.2.2).bind fun bt120 => (if bt120.1.toList = bt110.1.toList then (laws_FnExactYarnStoreText.j0 k (bt120.2 != bt110.2) l0_0 a0_1 a0_2 a0_3 a0_4 bt112.1 bt112.2.1 bt112.2.2.1 bt112.2.2.2.1 bt112.2.2.2.2) else (laws_FnExactYarnStoreText.j0 k true l0_0 a0_1 a0_2 a0_3 a0_4 bt112.1 bt112.2.1 bt112.2.2.1 bt112.2.2.2.1 bt112.2.2.2.2))))) = some r := H
    have A7 := Aside0.mk A70
    clear A70
    replace H := Option.bind_eq_some_iff.mp H
    obtain ⟨⟨t110, t111⟩, A80, H⟩ := H
    replace H : ((laws_toYarnStore.f k l0_0 a0_1 a0_2 a0_3 a0_4).bind fun bt112 => ((impl_YarnStoreText.f k bt112.1 bt112.2.1 bt112.2.2.1 bt112.2.2.2.1 bt112.2.2.2.2).bind fun bt120 => (if bt120.1.toList = t110.toList then (laws_FnExactYarnStoreText.j0 k (bt120.2 != t111) l0_0 a0_1 a0_2 a0_3 a0_4 bt112.1 bt112.2.1 bt112.2.2.1 bt112.2.2.2.1 bt112.2.2.2.2) else (laws_FnExactYarnStoreText.j0 k true l0_0 a0_1 a0_2 a0_3 a0_4 bt112.1 bt112.2.1 bt112.2.2.1 bt112.2.2.2.1 bt112.2.2.2.2)))) = some r := H
    have A8 := Aside0.mk A80
    clear A80
    replace H := Option.bind_eq_some_iff.mp H
    obtain ⟨⟨t112, t115, t116, t117, t118⟩, A90, H⟩ := H
    replace H : ((impl_YarnStoreText.f k t112 t115 t116 t117 t118).bind fun bt120 => (if bt120.1.toList = t110.toList then (laws_FnExactYarnStoreText.j0 k (bt120.2 != t111) l0_0 a0_1 a0_2 a0_3 a0_4 t112 t115 t116 t117 t118) else (laws_FnExactYarnStoreText.j0 k true l0_0 a0_1 a0_2 a0_3 a0_4 t112 t115 t116 t117 t118))) = some r := H
    have A9 := Aside0.mk A90
    clear A90
    replace H := Option.bind_eq_some_iff.mp H
    obtain ⟨⟨t120, t121⟩, A100, H⟩ := H
    replace H : (if t120.toList = t110.toList then (laws_FnExactYarnStoreText.j0 k (t121 != t111) l0_0 a0_1 a0_2 a0_3 a0_4 t112 t115 t116 t117 t118) else (laws_FnExactYarnStoreText.j0 k true l0_0 a0_1 a0_2 a0_3 a0_4 t112 t115 t116 t117 t118)) = some r := H
    have A10 := Aside0.mk A100
    clear A100
    have HC11 := Aside0.mk H
    clear H
    go_enter Tryd.func3, Tryd.ntmps3
    go_upto_region 8 with (first | ((with_reducible refine gate_dst (N := 1) rfl ?_); refine box_event ?hg (N := 1) ?hd (cs := #[.slice A0_0 l0_0.length c0_0, .int .i64 a0_1, .int .i64 a0_2, .int .i64 a0_3, .int .i64 a0_4]) (t := 24) ?hr ?_; (case hd => rfl); (case hg => rfl); (case hr => first | (go_simp; done) | (go_simp; rfl)); intro gb101 hg w12 hbox hb; have n0_ := Aside0.mk (below_step (by exact eS HB.out) hb); have n1_ := Aside0.mk (hbox); have n2_ := Aside0.mk ((by rw [hg]; exact (below_size (by exact eS HB.out)) : w.heap.size ≤ gb101)); have n3_ := Aside0.mk ((by rw [hg]; exact (below_size (by exact eS HB.out)) : w.heap.size ≤ gb101)); clear HB; have HB := n0_; have BK101 := n1_; have GW101 := n2_; have GE101 := n3_; clear n0_ n1_ n2_ n3_; clear hb hbox hg; have hcz13_0 : w12.cell? ⟨gb101, 0, none⟩ = some (.slice A0_0 l0_0.length c0_0) := (blk_cell BK101.out 0).trans rfl; have hcz13_1 : w12.cell? ⟨gb101, 1, none⟩ = some (.int .i64 a0_1) := (blk_cell BK101.out 1).trans rfl; have hcz13_2 : w12.cell? ⟨gb101, 2, none⟩ = some (.int .i64 a0_2) := (blk_cell BK101.out 2).trans rfl; have hcz13_3 : w12.cell? ⟨gb101, 3, none⟩ = some (.int .i64 a0_3) := (blk_cell BK101.out 3).trans rfl; have hcz13_4 : w12.cell? ⟨gb101, 4, none⟩ = some (.int .i64 a0_4) := (blk_cell BK101.out 4).trans rfl; have hfz13_0 := blk_frozen BK101.out 0; have hfz13_1 := blk_frozen BK101.out 1; have hfz13_2 := blk_frozen BK101.out 2; have hfz13_3 := blk_frozen BK101.out 3; have hfz13_4 := blk_frozen BK101.out 4) | ((with_reducible refine gate_callee (f := 4) rfl ?_); refine goesL_ (some 11) rfl rfl Tryd.func4 (by kernel_rfl) rfl #[.agg #[.slice A0_0 l0_0.length c0_0, .int .i64 a0_1, .int .i64 a0_2, .int .i64 a0_3, .int .i64 a0_4], .int .i64 1048576] rfl (by (try simp only [List.map_toArray, List.map_cons, List.map_nil]); first | done | rfl | (simp only [List.length_drop, List.length_take]; rfl)) ?_; (with_reducible refine (laws_szYarnStore.calls _ _ l0_0 a0_1 a0_2 a0_3 a0_4 1048576 t102 _ ?side1 ?side2 A2.out).mono ?_); (case side1 => repeat (first | exact (Kd.C_below HR0_0.out HB.out) | (with_reducible refine Kd.C_alloc ?_ _) | (with_reducible refine Kd.C_drewN ?_ _) | (with_reducible refine Kd.C_drew ?_))); (case side2 => exact HC0_0.out); rintro e w14 ⟨rfl, hb⟩; refine ⟨_, rfl, ?_⟩; have n0_ := Aside0.mk (blk_below (bS BK101.out) hb); have n1_ := Aside0.mk (below_step (by exact eS HB.out) hb); clear BK101; clear HB; have BK101 := n0_; have HB := n1_; clear n0_ n1_; (try clear hb); (try clear hb2); (try clear hk); (try clear hi); have hcz15_0 : w14.cell? ⟨gb101, 0, none⟩ = some (.slice A0_0 l0_0.length c0_0) := (blk_cell BK101.out 0).trans rfl; have hcz15_1 : w14.cell? ⟨gb101, 1, none⟩ = some (.int .i64 a0_1) := (blk_cell BK101.out 1).trans rfl; have hcz15_2 : w14.cell? ⟨gb101, 2, none⟩ = some (.int .i64 a0_2) := (blk_cell BK101.out 2).trans rfl; have hcz15_3 : w14.cell? ⟨gb101, 3, none⟩ = some (.int .i64 a0_3) := (blk_cell BK101.out 3).trans rfl; have hcz15_4 : w14.cell? ⟨gb101, 4, none⟩ = some (.int .i64 a0_4) := (blk_cell BK101.out 4).trans rfl; have hfz15_0 := blk_frozen BK101.out 0; have hfz15_1 := blk_frozen BK101.out 1; have hfz15_2 := blk_frozen BK101.out 2; have hfz15_3 := blk_frozen BK101.out 3; have hfz15_4 := blk_frozen BK101.out 4) | ((with_reducible refine gate_callee (f := 6) rfl ?_); refine goesL_ (some 16) rfl rfl Tryd.func6 (by kernel_rfl) rfl #[.agg #[.slice A0_0 l0_0.length c0_0, .int .i64 a0_1, .int .i64 a0_2, .int .i64 a0_3, .int .i64 a0_4]] rfl (by (try simp only [List.map_toArray, List.map_cons, List.map_nil]); first | done | rfl | (simp only [List.length_drop, List.length_take]; rfl)) ?_; (with_reducible refine (laws_toYarnStore.calls k _ _ l0_0 a0_1 a0_2 a0_3 a0_4 t103 t106 t107 t108 t109 _ ?side1 ?side2 A7.out).mono ?_); (case side1 => repeat (first | exact (Kd.C_below HR0_0.out HB.out) | (with_reducible refine Kd.C_alloc ?_ _) | (with_reducible refine Kd.C_drewN ?_ _) | (with_reducible refine Kd.C_drew ?_))); (case side2 => exact HC0_0.out); rintro e w16 ⟨v104, rfl, ho0, hb⟩; refine ⟨_, rfl, ?_⟩; have n0_ := Aside0.mk (Kd.R_lower ho0 (below_size (by exact eS HB.out))); have n1_ := Aside0.mk (blk_below (bS BK101.out) hb); have n2_ := Aside0.mk (below_step (by exact eS HB.out) hb); clear BK101; clear HB; have HO105 := n0_; have BK101 := n1_; have HB := n2_; clear n0_ n1_ n2_; (try clear hb); (try clear hb2); (try clear hk); (try clear hi); (try clear ho0); obtain ⟨Ao17, co17, eo17⟩ := Kd.R_slice HO105.out; subst eo17) | ((with_reducible refine gate_callee (f := 5) rfl ?_); refine goesL_ (some 17) rfl rfl Tryd.func5 (by kernel_rfl) rfl #[.agg #[.slice Ao17 t103.length co17, .int .i64 t106, .int .i64 t107, .int .i64 t108, .int .i64 t109]] rfl (by (try simp only [List.map_toArray, List.map_cons, List.map_nil]); first | done | rfl | (simp only [List.length_drop, List.length_take]; rfl)) ?_; (with_reducible refine (spec_YarnStoreText.calls k _ _ t103 t106 t107 t108 t109 t110 t111 _ ?side1 ?side2 A8.out).mono ?_); (case side1 => repeat (first | exact (Kd.R_reads' HO105.out).2.2 | (with_reducible refine Kd.C_alloc ?_ _) | (with_reducible refine Kd.C_drewN ?_ _) | (with_reducible refine Kd.C_drew ?_))); (case side2 => exact (Kd.R_reads' HO105.out).2.1); rintro e w18 ⟨rfl, hb⟩; refine ⟨_, rfl, ?_⟩; have n0_ := Aside0.mk (Kd.R_below (by exact Ho.RS <| HO105.out) hb); have n1_ := Aside0.mk (blk_below (bS BK101.out) hb); have n2_ := Aside0.mk (below_step (by exact eS HB.out) hb); clear HO105; clear BK101; clear HB; have HO105 := n0_; have BK101 := n1_; have HB := n2_; clear n0_ n1_ n2_; (try clear hb); (try clear hb2); (try clear hk); (try clear hi); have hcz19_0 : w18.cell? ⟨gb101, 0, none⟩ = some (.slice A0_0 l0_0.length c0_0) := (blk_cell BK101.out 0).trans rfl; have hcz19_1 : w18.cell? ⟨gb101, 1, none⟩ = some (.int .i64 a0_1) := (blk_cell BK101.out 1).trans rfl; have hcz19_2 : w18.cell? ⟨gb101, 2, none⟩ = some (.int .i64 a0_2) := (blk_cell BK101.out 2).trans rfl; have hcz19_3 : w18.cell? ⟨gb101, 3, none⟩ = some (.int .i64 a0_3) := (blk_cell BK101.out 3).trans rfl; have hcz19_4 : w18.cell? ⟨gb101, 4, none⟩ = some (.int .i64 a0_4) := (blk_cell BK101.out 4).trans rfl; have hfz19_0 := blk_frozen BK101.out 0; have hfz19_1 := blk_frozen BK101.out 1; have hfz19_2 := blk_frozen BK101.out 2; have hfz19_3 := blk_frozen BK101.out 3; have hfz19_4 := blk_frozen BK101.out 4) | ((with_reducible refine gate_callee (f := 6) rfl ?_); refine goesL_ (some 21) rfl rfl Tryd.func6 (by kernel_rfl) rfl #[.agg #[.slice A0_0 l0_0.length c0_0, .int .i64 a0_1, .int .i64 a0_2, .int .i64 a0_3, .int .i64 a0_4]] rfl (by (try simp only [List.map_toArray, List.map_cons, List.map_nil]); first | done | rfl | (simp only [List.length_drop, List.length_take]; rfl)) ?_; (with_reducible refine (laws_toYarnStore.calls k _ _ l0_0 a0_1 a0_2 a0_3 a0_4 t112 t115 t116 t117 t118 _ ?side1 ?side2 A9.out).mono ?_); (case side1 => repeat (first | exact (Kd.C_below HR0_0.out HB.out) | (with_reducible refine Kd.C_alloc ?_ _) | (with_reducible refine Kd.C_drewN ?_ _) | (with_reducible refine Kd.C_drew ?_))); (case side2 => exact HC0_0.out); rintro e w20 ⟨v113, rfl, ho0, hb⟩; refine ⟨_, rfl, ?_⟩; have n0_ := Aside0.mk (Kd.R_elder' (by exact Ho.RS <| HO105.out) (Kd.R_base ho0) hb); have n1_ := Aside0.mk (Kd.R_lower (Kd.R_new' ho0 (Kd.R_lt (by exact Ho.RS <| HO105.out))) (below_size (by exact eS HB.out))); have n2_ := Aside0.mk (blk_below (bS BK101.out) hb); have n3_ := Aside0.mk (below_step (by exact eS HB.out) hb); clear HO105; clear BK101; clear HB; have HO105 := n0_; have HO114 := n1_; have BK101 := n2_; have HB := n3_; clear n0_ n1_ n2_ n3_; (try clear hb); (try clear hb2); (try clear hk); (try clear hi); (try clear ho0)) | ((with_reducible refine gate_dst (N := 6) rfl ?_); refine box_event ?hg (N := 6) ?hd (cs := #[.slice none 0 0, .int .i64 0, .int .i64 0, .int .i64 0, .int .i64 0]) (t := 30) ?hr ?_; (case hd => rfl); (case hg => rfl); (case hr => first | (go_simp; done) | (go_simp; rfl)); intro gb119 hg w21 hbox hb; have n0_ := Aside0.mk (Kd.R_below (by exact Ho.RS <| HO105.out) hb); have n1_ := Aside0.mk (Kd.R_below (by exact Ho.RS <| HO114.out) hb); have n2_ := Aside0.mk (blk_below (bS BK101.out) hb); have n3_ := Aside0.mk (below_step (by exact eS HB.out) hb); have n4_ := Aside0.mk (hbox); have n5_ := Aside0.mk ((by rw [hg]; exact (below_size (by exact eS HB.out)) : w.heap.size ≤ gb119)); have n6_ := Aside0.mk ((by rw [hg]; exact (below_size (by exact eS HB.out)) : w.heap.size ≤ gb119)); have n7_ := Aside0.mk ((by rw [hg]; exact Nat.ne_of_lt (blk_lt (bS BK101.out)) : gb101 ≠ gb119)); have n8_ := Aside0.mk ((by rw [hg]; exact Nat.ne_of_gt (blk_lt (bS BK101.out)) : gb119 ≠ gb101)); clear HO105; clear HO114; clear BK101; clear HB; have HO105 := n0_; have HO114 := n1_; have BK101 := n2_; have HB := n3_; have BK119 := n4_; have GW119 := n5_; have GE119 := n6_; have NB101_119 := n7_; have NB119_101 := n8_; clear n0_ n1_ n2_ n3_ n4_ n5_ n6_ n7_ n8_; clear hb hbox hg; obtain ⟨Ao22, co22, eo22⟩ := Kd.R_slice HO114.out; subst eo22; have hnb23 := NB119_101.out; have hnc23 := NB101_119.out; have hcz24_0 : w21.cell? ⟨gb119, 0, none⟩ = some (.slice none 0 0) := (blk_cell BK119.out 0).trans rfl; have hcz24_1 : w21.cell? ⟨gb119, 1, none⟩ = some (.int .i64 0) := (blk_cell BK119.out 1).trans rfl; have hcz24_2 : w21.cell? ⟨gb119, 2, none⟩ = some (.int .i64 0) := (blk_cell BK119.out 2).trans rfl; have hcz24_3 : w21.cell? ⟨gb119, 3, none⟩ = some (.int .i64 0) := (blk_cell BK119.out 3).trans rfl; have hcz24_4 : w21.cell? ⟨gb119, 4, none⟩ = some (.int .i64 0) := (blk_cell BK119.out 4).trans rfl; have hfz24_0 := blk_frozen BK119.out 0; have hfz24_1 := blk_frozen BK119.out 1; have hfz24_2 := blk_frozen BK119.out 2; have hfz24_3 := blk_frozen BK119.out 3; have hfz24_4 := blk_frozen BK119.out 4) | ((with_reducible refine gate_callee (f := 7) rfl ?_); refine goesL_ (some 24) rfl rfl Tryd.func7 (by kernel_rfl) rfl #[.agg #[.slice Ao22 t112.length co22, .int .i64 t115, .int .i64 t116, .int .i64 t117, .int .i64 t118]] rfl (by (try simp only [List.map_toArray, List.map_cons, List.map_nil]); first | done | rfl | (simp only [List.length_drop, List.length_take]; rfl)) ?_; (with_reducible refine (impl_YarnStoreText.calls k _ _ t112 t115 t116 t117 t118 t120 t121 _ ?side1 ?side2 (Go.Joins.tab_stays Tryd.lays171.m17 HTAB.out (by repeat (first | (with_reducible first | exact HB.out | apply below_alloc | apply pw_below_drewN | apply below_drew1 | refine below_set ?_ GE101.out | refine below_set ?_ GE119.out) | exact HB.out)) (Nat.le_refl _)) A10.out).mono ?_); (case side1 => refine (Kd.R_reads' (e := 37) (base := w.heap.size) (ok := fun k_ => (True ∧ some k_ ≠ (.slice Ao17 t103.length co17 : Value).ownBlock)) (n := t112.length) (c := co22) ?_).2.2; exact (by exact Ho.RS <| (Kd.R_mono (Kd.R_far (p := ⟨gb119, 4, none⟩) (Kd.R_far (p := ⟨gb119, 3, none⟩) (Kd.R_far (p := ⟨gb119, 2, none⟩) (Kd.R_far (p := ⟨gb119, 1, none⟩) (Kd.R_far (p := ⟨gb119, 0, none⟩) (Kd.R_types HO114.out BK119.out (by decide)) (fun _ hk => hk.2) (.slice Ao22 t112.length co22)) (fun _ hk => hk.2) (.int .i64 t115)) (fun _ hk => hk.2) (.int .i64 t116)) (fun _ hk => hk.2) (.int .i64 t117)) (fun _ hk => hk.2) (.int .i64 t118)) (fun _ h_ => h_.1)))); (case side2 => exact (Kd.R_reads' HO114.out).2.1); rintro e w25 ⟨rfl, hb⟩; refine ⟨_, rfl, ?_⟩; have n0_ := Aside0.mk (Kd.R_below (by exact Ho.RS <| (Kd.R_mono (Kd.R_far (p := ⟨gb119, 4, none⟩) (Kd.R_far (p := ⟨gb119, 3, none⟩) (Kd.R_far (p := ⟨gb119, 2, none⟩) (Kd.R_far (p := ⟨gb119, 1, none⟩) (Kd.R_far (p := ⟨gb119, 0, none⟩) (Kd.R_types HO105.out BK119.out (by decide)) (fun _ hk => hk.2) (.slice Ao22 t112.length co22)) (fun _ hk => hk.2) (.int .i64 t115)) (fun _ hk => hk.2) (.int .i64 t116)) (fun _ hk => hk.2) (.int .i64 t117)) (fun _ hk => hk.2) (.int .i64 t118)) (fun _ h_ => h_.1))) hb); have n1_ := Aside0.mk (Kd.R_below (by exact Ho.RS <| (Kd.R_mono (Kd.R_far (p := ⟨gb119, 4, none⟩) (Kd.R_far (p := ⟨gb119, 3, none⟩) (Kd.R_far (p := ⟨gb119, 2, none⟩) (Kd.R_far (p := ⟨gb119, 1, none⟩) (Kd.R_far (p := ⟨gb119, 0, none⟩) (Kd.R_types HO114.out BK119.out (by decide)) (fun _ hk => hk.2) (.slice Ao22 t112.length co22)) (fun _ hk => hk.2) (.int .i64 t115)) (fun _ hk => hk.2) (.int .i64 t116)) (fun _ hk => hk.2) (.int .i64 t117)) (fun _ hk => hk.2) (.int .i64 t118)) (fun _ h_ => h_.1))) hb); have n2_ := Aside0.mk (blk_below (g := gb101) (o := .cells #[.slice A0_0 l0_0.length c0_0, .int .i64 a0_1, .int .i64 a0_2, .int .i64 a0_3, .int .i64 a0_4] 24 (0, 0)) (by (with_reducible repeat (first | refine blk_drewN ?_ _ | refine blk_drew ?_ | refine blk_alloc ?_ _)); refine blk_far ?_ NB101_119.out _; (with_reducible repeat (first | refine blk_drewN ?_ _ | refine blk_drew ?_ | refine blk_alloc ?_ _)); refine blk_far ?_ NB101_119.out _; (with_reducible repeat (first | refine blk_drewN ?_ _ | refine blk_drew ?_ | refine blk_alloc ?_ _)); refine blk_far ?_ NB101_119.out _; (with_reducible repeat (first | refine blk_drewN ?_ _ | refine blk_drew ?_ | refine blk_alloc ?_ _)); refine blk_far ?_ NB101_119.out _; (with_reducible repeat (first | refine blk_drewN ?_ _ | refine blk_drew ?_ | refine blk_alloc ?_ _)); refine blk_far ?_ NB101_119.out _; exact bS BK101.out) hb); have n3_ := Aside0.mk (blk_below (g := gb119) (o := .cells #[.slice Ao22 t112.length co22, .int .i64 t115, .int .i64 t116, .int .i64 t117, .int .i64 t118] 30 (0, 0)) (by (with_reducible repeat (first | refine blk_drewN ?_ _ | refine blk_drew ?_ | refine blk_alloc ?_ _)); refine blk_put (cs := #[.slice Ao22 t112.length co22, .int .i64 t115, .int .i64 t116, .int .i64 t117, .int .i64 0]) ?_ 4 _ rfl; (with_reducible repeat (first | refine blk_drewN ?_ _ | refine blk_drew ?_ | refine blk_alloc ?_ _)); refine blk_put (cs := #[.slice Ao22 t112.length co22, .int .i64 t115, .int .i64 t116, .int .i64 0, .int .i64 0]) ?_ 3 _ rfl; (with_reducible repeat (first | refine blk_drewN ?_ _ | refine blk_drew ?_ | refine blk_alloc ?_ _)); refine blk_put (cs := #[.slice Ao22 t112.length co22, .int .i64 t115, .int .i64 0, .int .i64 0, .int .i64 0]) ?_ 2 _ rfl; (with_reducible repeat (first | refine blk_drewN ?_ _ | refine blk_drew ?_ | refine blk_alloc ?_ _)); refine blk_put (cs := #[.slice Ao22 t112.length co22, .int .i64 0, .int .i64 0, .int .i64 0, .int .i64 0]) ?_ 1 _ rfl; (with_reducible repeat (first | refine blk_drewN ?_ _ | refine blk_drew ?_ | refine blk_alloc ?_ _)); refine blk_put (cs := #[.slice none 0 0, .int .i64 0, .int .i64 0, .int .i64 0, .int .i64 0]) ?_ 0 _ rfl; exact bS BK119.out) hb); have n4_ := Aside0.mk (below_step (by repeat (first | (with_reducible first | exact HB.out | apply below_alloc | apply pw_below_drewN | apply below_drew1 | refine below_set ?_ GE101.out | refine below_set ?_ GE119.out) | exact HB.out)) hb); clear HO105; clear HO114; clear BK101; clear BK119; clear HB; have HO105 := n0_; have HO114 := n1_; have BK101 := n2_; have BK119 := n3_; have HB := n4_; clear n0_ n1_ n2_ n3_ n4_; (try clear hb); (try clear hb2); (try clear hk); (try clear hi)))
    (try simp only [Act.put, List.setIfInBounds_toArray, List.set_cons_zero, List.set_cons_succ])
    go_cut [34] (fun v34 wc => ∃ (kq : Nat) (x34_10 : Bool), v34 = .bool x34_10 ∧ Aside0 (laws_FnExactYarnStoreText.j0 kq x34_10 l0_0 a0_1 a0_2 a0_3 a0_4 t112 t115 t116 t117 t118 = some r) ∧ Aside0 (kq ≤ k) ∧ Aside0 (Kd.R k37 37 wc w.heap.size (fun _ => True) (.slice Ao22 t112.length co22) t112) ∧ Aside0 (wc.heap[gb101]? = some (.cells #[(.slice A0_0 l0_0.length c0_0), .int .i64 a0_1, .int .i64 a0_2, .int .i64 a0_3, .int .i64 a0_4] 24 (0, 0))) ∧ Aside0 (wc.heap[gb119]? = some (.cells #[(.slice Ao22 t112.length co22), .int .i64 t115, .int .i64 t116, .int .i64 t117, .int .i64 t118] 30 (0, 0))) ∧ Aside0 (Below w.heap.size w wc))
    case first =>
      have H := HC11.out
      clear HC11
      by_cases c26 : t120.toList = t110.toList
      · rw [if_pos c26] at H
        have c26b0 : (t120.toList == t110.toList) = true := beq_iff_eq.mpr c26
        have c26b1 : (t120.toList != t110.toList) = false := bne_eq_false_iff_eq.mpr c26
        clear c26
        (first | rw [c26b0] | (simp only [i64_w, i32_w]; rw [c26b0]) | skip)
        have H' := Aside0.mk H
        clear H
        go_wp2
        go_meet
        case rel => exact ⟨_, ((t121 != t111)), (by first | rfl | (simp; done) | (simp [*]; done)), H', ⟨by first | omega | exact Nat.le_refl _⟩, ⟨by exact Ho.RS <| Kd.R_mono HO114.out (fun _ hk => trivial)⟩, ⟨by exact bS BK101.out⟩, ⟨by exact bS BK119.out⟩, ⟨by exact eS HB.out⟩⟩
      · rw [if_neg c26] at H
        have c26b0 : (t120.toList == t110.toList) = false := beq_eq_false_iff_ne.mpr c26
        have c26b1 : (t120.toList != t110.toList) = true := bne_iff_ne.mpr c26
        (first | rw [c26b0] | (simp only [i64_w, i32_w]; rw [c26b0]) | skip)
        have H' := Aside0.mk H
        clear H
        go_wp2
        go_meet
        case rel => exact ⟨_, (true), (by first | rfl | (simp; done) | (simp [*]; done)), H', ⟨by first | omega | exact Nat.le_refl _⟩, ⟨by exact Ho.RS <| Kd.R_mono HO114.out (fun _ hk => trivial)⟩, ⟨by exact bS BK101.out⟩, ⟨by exact bS BK119.out⟩, ⟨by exact eS HB.out⟩⟩
    case rest =>
      clear HC11
      try clear c2
      try clear p2
      try clear c3
      try clear c3b0
      try clear c4
      try clear c5
      try clear c6
      try clear c7
      try clear c23
      try clear c26
      try clear c26b0
      try clear c26b1
      try clear hcz13_0
      try clear hcz13_1
      try clear hcz13_2
      try clear hcz13_3
      try clear hcz13_4
      try clear hcz15_0
      try clear hcz15_1
      try clear hcz15_2
      try clear hcz15_3
      try clear hcz15_4
      try clear hcz19_0
      try clear hcz19_1
      try clear hcz19_2
      try clear hcz19_3
      try clear hcz19_4
      try clear hcz24_0
      try clear hcz24_1
      try clear hcz24_2
      try clear hcz24_3
      try clear hcz24_4
      try clear hcz5_0
      try clear hcz5_1
      try clear hcz5_2
      try clear hcz5_3
      try clear hcz5_4
      try clear hfz13_0
      try clear hfz13_1
      try clear hfz13_2
      try clear hfz13_3
      try clear hfz13_4
      try clear hfz15_0
      try clear hfz15_1
      try clear hfz15_2
      try clear hfz15_3
      try clear hfz15_4
      try clear hfz19_0
      try clear hfz19_1
      try clear hfz19_2
      try clear hfz19_3
      try clear hfz19_4
      try clear hfz24_0
      try clear hfz24_1
      try clear hfz24_2
      try clear hfz24_3
      try clear hfz24_4
      try clear hfz5_0
      try clear hfz5_1
      try clear hfz5_2
      try clear hfz5_3
      try clear hfz5_4
      obtain ⟨kq, x34_10, rfl, HA, HJ10, HO_120000, BK101, BK119, HB⟩ := hcut
      cases kq with
      | zero => exact absurd HA.out (by simp [laws_FnExactYarnStoreText.j0])
      | succ kj10 =>
        have H := HA.out
        clear HA
        simp only [laws_FnExactYarnStoreText.j0] at H
        by_cases c27 : x34_10 = true
        · subst c27
          have H1 : (some false) = some r := by rw [if_pos rfl] at H; exact H
          clear H
          have H := H1
          clear H1
          exact absurd ((Option.some.inj H).trans HT.out) (by decide)
        · replace c27 := Bool.eq_false_iff.mpr c27
          subst c27
          have H1 : ((laws_toYarnStore.f kj10 l0_0 a0_1 a0_2 a0_3 a0_4).bind fun bt122 => ((laws_eqYarnStore.f kj10 t112 t115 t116 t117 t118 bt122.1 bt122.2.1 bt122.2.2.1 bt122.2.2.2.1 bt122.2.2.2.2).bind fun t129 => (if t129 = true then (some true) else (some false)))) = some r := by rw [if_neg (show ¬ (false = true) by decide)] at H; exact H
          clear H
          have H := H1
          clear H1
          replace H := Option.bind_eq_some_iff.mp H
          obtain ⟨⟨t122, t125, t126, t127, t128⟩, A280, H⟩ := H
          replace H : ((laws_eqYarnStore.f kj10 t112 t115 t116 t117 t118 t122 t125 t126 t127 t128).bind fun t129 => (if t129 = true then (some true) else (some false))) = some r := H
          have A28 := Aside0.mk A280
          clear A280
          replace H := Option.bind_eq_some_iff.mp H
          obtain ⟨t129, A290, H⟩ := H
          replace H : (if t129 = true then (some true) else (some false)) = some r := H
          have A29 := Aside0.mk A290
          clear A290
          by_cases c30 : t129 = true
          · subst c30
            have H1 : (some true) = some r := by rw [if_pos rfl] at H; exact H
            clear H
            have H := H1
            clear H1
            obtain rfl := Option.some.inj H
            try go_wp2
            have n0_ := Aside0.mk (Kd.R_drew HO_120000.out)
            have n1_ := Aside0.mk (blk_drew BK101.out)
            have n2_ := Aside0.mk (blk_drew BK119.out)
            have n3_ := Aside0.mk (below_drew1 HB.out)
            clear HO_120000
            clear BK101
            clear BK119
            clear HB
            have HO_120000 := n0_
            have BK101 := n1_
            have BK119 := n2_
            have HB := n3_
            clear n0_ n1_ n2_ n3_
            refine start_ (n := 5) (S := fun w' => w'.cell? ⟨gb119, 0, none⟩ = some (.slice Ao22 t112.length co22) ∧ w'.cell? ⟨gb119, 1, none⟩ = some (.int .i64 t115) ∧ w'.cell? ⟨gb119, 2, none⟩ = some (.int .i64 t116) ∧ w'.cell? ⟨gb119, 3, none⟩ = some (.int .i64 t117) ∧ w'.cell? ⟨gb119, 4, none⟩ = some (.int .i64 t118) ∧ w'.cell? ⟨gb101, 0, none⟩ = some (.slice A0_0 l0_0.length c0_0) ∧ w'.cell? ⟨gb101, 1, none⟩ = some (.int .i64 a0_1) ∧ w'.cell? ⟨gb101, 2, none⟩ = some (.int .i64 a0_2) ∧ w'.cell? ⟨gb101, 3, none⟩ = some (.int .i64 a0_3) ∧ w'.cell? ⟨gb101, 4, none⟩ = some (.int .i64 a0_4)) (ds := []) #[false, false, false, false, false] (by kernel_rfl) rfl rfl ⟨(blk_cell BK119.out 0).trans rfl, (blk_cell BK119.out 1).trans rfl, (blk_cell BK119.out 2).trans rfl, (blk_cell BK119.out 3).trans rfl, (blk_cell BK119.out 4).trans rfl, (blk_cell BK101.out 0).trans rfl, (blk_cell BK101.out 1).trans rfl, (blk_cell BK101.out 2).trans rfl, (blk_cell BK101.out 3).trans rfl, (blk_cell BK101.out 4).trans rfl⟩ (fun hHeld => ?_)
            generalize wc.drew = w31 at HO_120000 BK101 BK119 HB hHeld ⊢
            refine take_ (i := 0) (N := some 35) (v := ?_) (a' := ?_) #[true, false, false, false, false] rfl rfl (by kernel_rfl) (fun _ _ _ h => h) (Or.inl ⟨by rfl, ?_⟩) hHeld ?_ ?_
            rotate_left
            · rintro w' ⟨s0, s1, s2, s3, s4, s5, s6, s7, s8, s9⟩
              go_simp
              with_reducible rfl
            rotate_left
            · simp only [Act.put, List.setIfInBounds_toArray, List.set_cons_zero, List.set_cons_succ, i64_w, i32_w]
              rfl
            refine take_ (i := 1) (N := some 36) (v := ?_) (a' := ?_) #[true, true, false, false, false] rfl rfl (by kernel_rfl) (fun _ _ _ h => h) (Or.inl ⟨by rfl, ?_⟩) hHeld ?_ ?_
            rotate_left
            · rintro w' ⟨s0, s1, s2, s3, s4, s5, s6, s7, s8, s9⟩
              go_simp
              with_reducible rfl
            rotate_left
            · simp only [Act.put, List.setIfInBounds_toArray, List.set_cons_zero, List.set_cons_succ, i64_w, i32_w]
              rfl
            refine one_ (i := 2) (N := some 37) #[true, true, true, false, false] rfl rfl (by kernel_rfl) (by decide) (fun K hK => ?_)
            refine goes_ Tryd.func6 (by kernel_rfl) rfl #[.agg #[.slice A0_0 l0_0.length c0_0, .int .i64 a0_1, .int .i64 a0_2, .int .i64 a0_3, .int .i64 a0_4]] (by rfl) rfl rfl (by (try simp only [List.map_toArray, List.map_cons, List.map_nil]); first | done | rfl | (simp only [List.length_drop, List.length_take]; rfl)) ?_
            with_reducible refine (laws_toYarnStore.calls kj10 _ _ l0_0 a0_1 a0_2 a0_3 a0_4 t122 t125 t126 t127 t128 _ ?side1 ?side2 A28.out).mono ?_
            (case side1 => repeat (first | exact (Kd.C_below HR0_0.out HB.out) | (with_reducible refine Kd.C_alloc ?_ _) | (with_reducible refine Kd.C_drewN ?_ _) | (with_reducible refine Kd.C_drew ?_)))
            (case side2 => exact HC0_0.out)
            rintro e w32 ⟨v123, rfl, ho0, hb⟩
            refine ⟨_, rfl, ?_⟩
            have n0_ := Aside0.mk (Kd.R_elder' (by exact Ho.RS <| HO_120000.out) (Kd.R_base ho0) hb)
            have n1_ := Aside0.mk (Kd.R_lower (Kd.R_new' ho0 (Kd.R_lt (by exact Ho.RS <| HO_120000.out))) (below_size (by exact eS HB.out)))
            have n2_ := Aside0.mk (blk_below (bS BK101.out) hb)
            have n3_ := Aside0.mk (blk_below (bS BK119.out) hb)
            have n4_ := Aside0.mk (below_step (by exact eS HB.out) hb)
            clear HO_120000
            clear BK101
            clear BK119
            clear HB
            have HO_120000 := n0_
            have HO124 := n1_
            have BK101 := n2_
            have BK119 := n3_
            have HB := n4_
            clear n0_ n1_ n2_ n3_ n4_
            (try clear hb)
            (try clear hb2)
            (try clear hk)
            (try clear hi)
            (try clear ho0)
            obtain ⟨Ao33, co33, eo33⟩ := Kd.R_slice HO124.out
            (first | subst eo33 | (injection eo33 with f1_ f2_ f3_; have f4_ := f1_.symm; have f5_ := f3_.symm; clear f1_ f2_ f3_; subst f4_; subst f5_))
            refine hK.out _ _ ⟨(blk_cell BK119.out 0).trans rfl, (blk_cell BK119.out 1).trans rfl, (blk_cell BK119.out 2).trans rfl, (blk_cell BK119.out 3).trans rfl, (blk_cell BK119.out 4).trans rfl, (blk_cell BK101.out 0).trans rfl, (blk_cell BK101.out 1).trans rfl, (blk_cell BK101.out 2).trans rfl, (blk_cell BK101.out 3).trans rfl, (blk_cell BK101.out 4).trans rfl⟩ (fun hHeld => ?_)
            clear hK K
            refine norm_ (a' := ?_) ?_ ?_
            rotate_left
            · show Act.put _ (some 37) _ = _
              simp only [Act.put, List.setIfInBounds_toArray, List.set_cons_zero, List.set_cons_succ, i64_w, i32_w]
              rfl
            refine one_ (i := 3) (N := some 38) #[true, true, true, true, false] rfl rfl (by kernel_rfl) (by decide) (fun K hK => ?_)
            refine goes_ Tryd.func8 (by kernel_rfl) rfl #[.agg #[.slice Ao22 t112.length co22, .int .i64 t115, .int .i64 t116, .int .i64 t117, .int .i64 t118], .agg #[.slice Ao33 t122.length co33, .int .i64 t125, .int .i64 t126, .int .i64 t127, .int .i64 t128]] (by rfl) rfl rfl (by (try simp only [List.map_toArray, List.map_cons, List.map_nil]); first | done | rfl | (simp only [List.length_drop, List.length_take]; rfl)) ?_
            with_reducible refine (laws_eqYarnStore.calls kj10 _ _ t112 t115 t116 t117 t118 _ _ t122 t125 t126 t127 t128 true _ ?side1 ?side2 ?side3 ?side4 A29.out).mono ?_
            (case side1 => repeat (first | exact (Kd.R_reads' HO_120000.out).2.2 | (with_reducible refine Kd.C_alloc ?_ _) | (with_reducible refine Kd.C_drewN ?_ _) | (with_reducible refine Kd.C_drew ?_)))
            (case side2 => exact (Kd.R_reads' HO_120000.out).2.1)
            (case side3 => repeat (first | exact (Kd.R_reads' HO124.out).2.2 | (with_reducible refine Kd.C_alloc ?_ _) | (with_reducible refine Kd.C_drewN ?_ _) | (with_reducible refine Kd.C_drew ?_)))
            (case side4 => exact (Kd.R_reads' HO124.out).2.1)
            rintro e w34 ⟨rfl, hb⟩
            refine ⟨_, rfl, ?_⟩
            have n0_ := Aside0.mk (Kd.R_below (by exact Ho.RS <| HO_120000.out) hb)
            have n1_ := Aside0.mk (Kd.R_below (by exact Ho.RS <| HO124.out) hb)
            have n2_ := Aside0.mk (blk_below (bS BK101.out) hb)
            have n3_ := Aside0.mk (blk_below (bS BK119.out) hb)
            have n4_ := Aside0.mk (below_step (by exact eS HB.out) hb)
            clear HO_120000
            clear HO124
            clear BK101
            clear BK119
            clear HB
            have HO_120000 := n0_
            have HO124 := n1_
            have BK101 := n2_
            have BK119 := n3_
            have HB := n4_
            clear n0_ n1_ n2_ n3_ n4_
            (try clear hb)
            (try clear hb2)
            (try clear hk)
            (try clear hi)
            refine hK.out _ _ ⟨(blk_cell BK119.out 0).trans rfl, (blk_cell BK119.out 1).trans rfl, (blk_cell BK119.out 2).trans rfl, (blk_cell BK119.out 3).trans rfl, (blk_cell BK119.out 4).trans rfl, (blk_cell BK101.out 0).trans rfl, (blk_cell BK101.out 1).trans rfl, (blk_cell BK101.out 2).trans rfl, (blk_cell BK101.out 3).trans rfl, (blk_cell BK101.out 4).trans rfl⟩ (fun hHeld => ?_)
            clear hK K
            refine norm_ (a' := ?_) ?_ ?_
            rotate_left
            · show Act.put _ (some 38) _ = _
              simp only [Act.put, List.setIfInBounds_toArray, List.set_cons_zero, List.set_cons_succ, i64_w, i32_w]
              rfl
            refine pure_ (i := 4) (N := some 39) (v := ?_) (a' := ?_) #[true, true, true, true, true] rfl rfl (by kernel_rfl) (fun _ _ _ h => h) (Or.inl ⟨by rfl, ?_⟩) ?_ ?_
            rotate_left
            · intro w'
              go_simp
              with_reducible rfl
            rotate_left
            · simp only [Act.put, List.setIfInBounds_toArray, List.set_cons_zero, List.set_cons_succ, i64_w, i32_w]
              rfl
            refine done_ (by kernel_rfl) ?_
            try go_wp2
            go_ret
            exact ⟨by first | rfl | (simp [errW_none, errW_some] <;> rfl) | (simp [*, errW_none, errW_some] <;> rfl), by exact eS HB.out⟩
          · replace c30 := Bool.eq_false_iff.mpr c30
            subst c30
            have H1 : (some false) = some r := by rw [if_neg (show ¬ (false = true) by decide)] at H; exact H
            clear H
            have H := H1
            clear H1
            exact absurd ((Option.some.inj H).trans HT.out) (by decide)

/-- THE ONE PURE STATEMENT of laws_FnExactYarnStoreText: yours. -/
def laws_FnExactYarnStoreText.Pure : Prop := ∀ (l0_0 : List (S48)) (a0_1 : Int) (a0_2 : Int) (a0_3 : Int) (a0_4 : Int), (l0_0.length ≤ 9223372036854775807 ∧ ∀ y_ ∈ l0_0, ok48 y_) → (Lit.int .i64 a0_1).wf = true → (Lit.int .i64 a0_2).wf = true → (Lit.int .i64 a0_3).wf = true → (Lit.int .i64 a0_4).wf = true → ∃ k, laws_FnExactYarnStoreText.f k l0_0 a0_1 a0_2 a0_3 a0_4 = some true

end Go.Proofs.YtiomfignokichaaDoor.X

-- Qbase
namespace Go.Proofs.YtiomfignokichaaDoor.Pure
open Go Go.RowKit Go.Proofs Go.Proofs.YtiomfignokichaaDoorW.PrintWords Go.Proofs.YtiomfignokichaaDoorW.PrintLast
set_option linter.unusedVariables false
set_option linter.unusedSimpArgs false

theorem w64 {x : Int} (h1 : -9223372036854775808 ≤ x) (h2 : x ≤ 9223372036854775807) : wrap64 x = x := by unfold wrap64; omega
theorem drop_step {α : Type} {l : List α} {i : Nat} (h : i < l.length) (d : α) : l.drop i = l.getD i d :: l.drop (i + 1) := by
  rw [List.drop_eq_getElem_cons h]; congr 1; simp [List.getD_eq_getElem?_getD, List.getElem?_eq_getElem h]
theorem wstep {i : Nat} {n : Nat} (h : i < n) (hn : n ≤ 9223372036854775807) : wrap64 ((i : Int) + 1) = ((i + 1 : Nat) : Int) := by unfold wrap64; omega
theorem nat_of {i : Int} (h : 0 ≤ i) : ∃ n : Nat, i = n := ⟨i.toNat, by omega⟩
theorem succ_of {k d : Nat} (h : d < k) : ∃ m, k = m + 1 ∧ d ≤ m := ⟨k - 1, by omega, by omega⟩

end Go.Proofs.YtiomfignokichaaDoor.Pure

-- Qloops
namespace Go.Proofs.YtiomfignokichaaDoor.Pure
open Go Go.RowKit Go.Proofs Go.Proofs.YtiomfignokichaaDoorW.PrintWords Go.Proofs.YtiomfignokichaaDoorW.PrintLast
set_option linter.unusedVariables false
set_option linter.unusedSimpArgs false

/-- A loop that copies element by element into a new row. -/
theorem copy_loop {α β : Type} (L : Nat → List α → List β → Int → Option (List β)) (f : α → β) (d : α) (l : List α) (hb : l.length ≤ 9223372036854775806)
    (hs : ∀ k x3 (i : Nat), i < l.length → x3.length = l.length → L (k + 1) l x3 i = L k l (x3.set i (f (l.getD i d))) (wrap64 ((i : Int) + 1)))
    (he : ∀ k x3 (i : Nat), l.length ≤ i → L (k + 1) l x3 i = some x3) :
    ∀ n k (i : Nat) (x3 : List β), i + n = l.length → n < k → x3.length = l.length → x3.take i = (l.take i).map f → L k l x3 i = some (l.map f) := by
  intro n
  induction n with
  | zero =>
    intro k i x3 hi hk hl ht
    obtain ⟨k, rfl, _⟩ := succ_of hk
    rw [he k x3 i (by omega)]
    rw [List.take_of_length_le (by omega), List.take_of_length_le (by omega)] at ht
    rw [ht]
  | succ n ih =>
    intro k i x3 hi hk hl ht
    obtain ⟨k, rfl, hk⟩ := succ_of hk
    rw [hs k x3 i (by omega) hl, wstep (show i < l.length by omega) (by omega)]
    refine ih k (i + 1) _ (by omega) (by omega) (by rw [List.length_set]; exact hl) ?_
    rw [List.take_succ_eq_append_getElem (by rw [List.length_set]; omega), List.take_succ_eq_append_getElem (by omega), List.map_append, ← ht]
    congr 1
    · rw [List.take_set_of_le (Nat.le_refl _)]
    · simp [List.getD_eq_getElem?_getD, List.getElem?_eq_getElem (show i < l.length by omega)]
/-- A loop that compares a row with itself. -/
theorem refl_loop {α : Type} (L : Nat → List α → List α → Int → Option Bool) (l : List α) (hb : l.length ≤ 9223372036854775806)
    (hs : ∀ k (i : Nat), i < l.length → L (k + 1) l l i = L k l l (wrap64 ((i : Int) + 1))) (he : ∀ k (i : Nat), l.length ≤ i → L (k + 1) l l i = some true) :
    ∀ n k (i : Nat), i + n = l.length → n < k → L k l l i = some true := by
  intro n
  induction n with
  | zero =>
    intro k i hi hk
    obtain ⟨k, rfl, _⟩ := succ_of hk
    exact he k i (by omega)
  | succ n ih =>
    intro k i hi hk
    obtain ⟨k, rfl, hk⟩ := succ_of hk
    rw [hs k i (by omega), wstep (show i < l.length by omega) (by omega)]
    exact ih k (i + 1) (by omega) (by omega)
end Go.Proofs.YtiomfignokichaaDoor.Pure

-- Qbobbins
namespace Go.Proofs.YtiomfignokichaaDoor.Pure
open Go Go.RowKit Go.Proofs Go.Proofs.YtiomfignokichaaDoor.X Go.Proofs.YtiomfignokichaaDoorW.PrintWords Go.Proofs.YtiomfignokichaaDoorW.PrintLast
set_option linter.unusedVariables false
set_option linter.unusedSimpArgs false

def toB (x : S48) : S37 := ⟨x.f0, x.f1, x.f2⟩
theorem rdVB_nat (l : List S48) (i : Nat) : rd_T48 l (i : Int) = l.getD i z48 := by simp [rd_T48]
theorem rdIB_nat (l : List S37) (i : Nat) : rd_T37 l (i : Int) = l.getD i z37 := by simp [rd_T37]
theorem toBS_eq {k : Nat} {l : List S48} (hk : l.length < k) (hl : l.length ≤ 1048576) : laws_toBobbinS.f k l = some (l.map toB) := by
  unfold laws_toBobbinS.f
  rw [if_pos (by omega), if_pos (by simp; omega)]
  exact copy_loop laws_toBobbinS.l0 toB z48 l (by omega)
    (fun k x3 i h1 h2 => by
      simp only [laws_toBobbinS.l0, laws_toBobbin.f, Option.bind_some]
      rw [if_pos (by omega), if_pos (by omega), if_pos (by omega), rdVB_nat]
      simp [toB])
    (fun k x3 i h1 => by simp only [laws_toBobbinS.l0]; rw [if_neg (by omega)])
    l.length k 0 _ (by omega) hk (by simp) (by simp)
theorem eqBob_refl (a b c : Int) : laws_eqBobbin.f a b c a b c = some true := by simp [laws_eqBobbin.f]
theorem eqBS_refl {k : Nat} {l : List S37} (hk : l.length < k) (hl : l.length ≤ 9223372036854775806) : laws_eqBobbinS.f k l l = some true := by
  unfold laws_eqBobbinS.f
  rw [if_pos rfl]
  exact refl_loop laws_eqBobbinS.l0 l hl
    (fun k i h => by simp only [laws_eqBobbinS.l0, eqBob_refl, Option.bind_some]; rw [if_pos (by omega), if_pos (by omega), if_pos (by omega)]; simp)
    (fun k i h => by simp only [laws_eqBobbinS.l0]; rw [if_neg (by omega)])
    l.length k 0 (by omega) hk
theorem toYarn_eq {k : Nat} {l : List S48} (hk : l.length < k) (hl : l.length ≤ 1048576) (a b c d : Int) : laws_toYarnStore.f k l a b c d = some (l.map toB, a, b, c, d) := by
  simp only [laws_toYarnStore.f, toBS_eq hk hl, Option.bind_some]
theorem eqYarn_refl {k : Nat} {l : List S37} (hk : l.length < k) (hl : l.length ≤ 9223372036854775806) (a b c d : Int) : laws_eqYarnStore.f k l a b c d l a b c d = some true := by
  simp only [laws_eqYarnStore.f, eqBS_refl hk hl, Option.bind_some, if_true]
theorem szYarn_eq {l : List S48} {s : Int} (hl : l.length ≤ 9223372036854775807) (hs : 0 ≤ s ∧ s ≤ 9223372036854775807) (a b c d : Int) : laws_szYarnStore.f l a b c d s = some (if s < l.length then -1 else s - l.length) := by
  unfold laws_szYarnStore.f laws_szBobbinS.f
  rw [w64 (by omega) (by omega)]
  by_cases h : s < l.length
  · rw [if_pos (by omega), if_pos h]; rfl
  · rw [if_neg (by omega), if_neg h]; simp only [Option.bind_some]; rw [if_neg (by omega)]

end Go.Proofs.YtiomfignokichaaDoor.Pure

-- Qinrange
namespace Go.Proofs.YtiomfignokichaaDoor.Pure
open Go Go.RowKit Go.Proofs Go.Proofs.YtiomfignokichaaDoor.X Go.Proofs.YtiomfignokichaaDoorW.PrintWords Go.Proofs.YtiomfignokichaaDoorW.PrintLast
set_option linter.unusedVariables false
set_option linter.unusedSimpArgs false

theorem in_eq (x a b : Int) : impl_in.f x a b = some (decide (a ≤ x ∧ x ≤ b)) := by
  unfold impl_in.f
  by_cases h1 : a ≤ x <;> simp [h1]

end Go.Proofs.YtiomfignokichaaDoor.Pure

-- Qnewyarn
namespace Go.Proofs.YtiomfignokichaaDoor.Pure
open Go Go.RowKit Go.Proofs Go.Proofs.YtiomfignokichaaDoor.X Go.Proofs.YtiomfignokichaaDoorW.PrintWords Go.Proofs.YtiomfignokichaaDoorW.PrintLast
set_option linter.unusedVariables false
set_option linter.unusedSimpArgs false

def numB (n : Int) : Bool := decide (1 ≤ n ∧ n ≤ 999)
theorem isNumber_eq (n : Int) : impl_isNumber.f n = some (numB n) := by simp only [impl_isNumber.f, in_eq, Option.bind_some, numB]

end Go.Proofs.YtiomfignokichaaDoor.Pure

-- Qidxall
namespace Go.Proofs.YtiomfignokichaaDoor.Pure
open Go Go.RowKit Go.Proofs Go.Proofs.YtiomfignokichaaDoorW.PrintWords Go.Proofs.YtiomfignokichaaDoorW.PrintLast
set_option linter.unusedVariables false
set_option linter.unusedSimpArgs false

/-- q at all numbers from i on, n of them -/
def allR (q : Nat → Bool) (i n : Nat) : Bool := (List.range' i n).all q
theorem allR_iff {q : Nat → Bool} {i n : Nat} : allR q i n = true ↔ ∀ j, i ≤ j → j < i + n → q j = true := by
  unfold allR
  rw [List.all_eq_true]
  exact ⟨fun h j h1 h2 => h j (List.mem_range'_1.mpr ⟨h1, h2⟩), fun h j hj => h j (List.mem_range'_1.mp hj).1 (List.mem_range'_1.mp hj).2⟩
theorem allR_succ (q : Nat → Bool) (i n : Nat) : allR q i (n + 1) = (q i && allR q (i + 1) n) := by
  unfold allR; rw [List.range'_succ, List.all_cons]
/-- A loop that asks of all numbers, from i on. -/
theorem idx_loop (L : Nat → Int → Option Bool) (q : Nat → Bool) (i0 n0 : Nat) (e : Bool) (hb : n0 ≤ 9223372036854775806)
    (hs : ∀ k (i : Nat), i0 ≤ i → i < n0 → L (k + 1) i = if q i = true then L k (wrap64 ((i : Int) + 1)) else some false) (he : ∀ k (i : Nat), n0 ≤ i → L (k + 1) i = some e) :
    ∀ n k (i : Nat), i0 ≤ i → i + n = n0 → n < k → L k i = some (allR q i n && e) := by
  intro n
  induction n with
  | zero =>
    intro k i h0 hi hk
    obtain ⟨k, rfl, _⟩ := succ_of hk
    rw [he k i (by omega)]; simp [allR]
  | succ n ih =>
    intro k i h0 hi hk
    obtain ⟨k, rfl, hk⟩ := succ_of hk
    rw [hs k i h0 (by omega), wstep (show i < n0 by omega) (by omega), allR_succ, ih k (i + 1) (by omega) (by omega) (by omega)]
    cases q i <;> simp
theorem all_getD {α : Type} {p : α → Bool} {l : List α} (d : α) : l.all p = true ↔ ∀ j, j < l.length → p (l.getD j d) = true := by
  rw [List.all_eq_true]
  constructor
  · intro h j hj
    rw [List.getD_eq_getElem?_getD, List.getElem?_eq_getElem hj]
    exact h _ (List.getElem_mem hj)
  · intro h x hx
    obtain ⟨j, hj, rfl⟩ := List.mem_iff_getElem.mp hx
    have := h j hj
    rwa [List.getD_eq_getElem?_getD, List.getElem?_eq_getElem hj] at this
/-- A loop that adds up. -/
theorem sum_loop {α β : Type} (L : Nat → Int → Int → Option β) (v : α → Int) (r : Int → Option β) (d : α) (B : Int) (l : List α) (hb : l.length ≤ 9223372036854775806) (hv : ∀ x ∈ l, 0 ≤ v x ∧ v x ≤ B)
    (hs : ∀ k (acc : Int) (i : Nat), i < l.length → 0 ≤ acc → acc ≤ B * i → L (k + 1) acc i = L k (acc + v (l.getD i d)) (wrap64 ((i : Int) + 1)))
    (he : ∀ k (acc : Int) (i : Nat), l.length ≤ i → L (k + 1) acc i = r acc) :
    ∀ n k (acc : Int) (i : Nat), i + n = l.length → n < k → 0 ≤ acc → acc ≤ B * i → L k acc i = r (acc + ((l.drop i).map v).sum) := by
  intro n
  induction n with
  | zero =>
    intro k acc i hi hk h0 h1
    obtain ⟨k, rfl, _⟩ := succ_of hk
    rw [he k acc i (by omega), List.drop_eq_nil_of_le (by omega)]; simp
  | succ n ih =>
    intro k acc i hi hk h0 h1
    obtain ⟨k, rfl, hk⟩ := succ_of hk
    have hlt : i < l.length := by omega
    have hm : l.getD i d ∈ l := by rw [List.getD_eq_getElem?_getD, List.getElem?_eq_getElem hlt]; exact List.getElem_mem hlt
    have := hv _ hm
    rw [hs k acc i hlt h0 h1, wstep hlt (by omega), drop_step hlt d, List.map_cons, List.sum_cons]
    have hB : B * ((i + 1 : Nat) : Int) = B * i + B := by push_cast; rw [Int.mul_add, Int.mul_one]
    rw [ih k _ (i + 1) (by omega) (by omega) (by omega) (by omega), Int.add_assoc]
/-- The same, where the end leans on all that was asked, and needs fuel of its own. -/
theorem idx_loop2 (L : Nat → Int → Option Bool) (q : Nat → Bool) (i0 n0 m0 : Nat) (e : Bool) (hb : n0 ≤ 9223372036854775806)
    (hs : ∀ k (i : Nat), i0 ≤ i → i < n0 → m0 ≤ k → L (k + 1) i = if q i = true then L k (wrap64 ((i : Int) + 1)) else some false) (he : (∀ j, i0 ≤ j → j < n0 → q j = true) → ∀ k, m0 ≤ k → L (k + 1) (n0 : Int) = some e) :
    ∀ n k (i : Nat), i0 ≤ i → i + n = n0 → n + m0 < k → (∀ j, i0 ≤ j → j < i → q j = true) → L k i = some (allR q i n && e) := by
  intro n
  induction n with
  | zero =>
    intro k i h0 hi hk hq
    obtain ⟨k, rfl, _⟩ := succ_of (show 0 < k by omega)
    obtain rfl : i = n0 := by omega
    rw [he hq k (by omega)]; simp [allR]
  | succ n ih =>
    intro k i h0 hi hk hq
    obtain ⟨k, rfl, hk'⟩ := succ_of (show 0 < k by omega)
    rw [hs k i h0 (by omega) (by omega), wstep (show i < n0 by omega) (by omega), allR_succ]
    cases hc : q i
    · simp
    · rw [if_pos rfl, ih k (i + 1) (by omega) (by omega) (by omega) (fun j h1 h2 => by
        by_cases hj : j = i
        · rw [hj]; exact hc
        · exact hq j h1 (by omega)), Bool.true_and]

end Go.Proofs.YtiomfignokichaaDoor.Pure

-- Qspecin
namespace Go.Proofs.YtiomfignokichaaDoor.Pure
open Go Go.RowKit Go.Proofs Go.Proofs.YtiomfignokichaaDoor.X Go.Proofs.YtiomfignokichaaDoorW.PrintWords Go.Proofs.YtiomfignokichaaDoorW.PrintLast
set_option linter.unusedVariables false
set_option linter.unusedSimpArgs false

theorem l1In_eq (x a b : Int) : spec_l1In.f x a b = some (decide (a ≤ x ∧ x ≤ b)) := by
  unfold spec_l1In.f
  by_cases h1 : a ≤ x <;> simp [h1]

end Go.Proofs.YtiomfignokichaaDoor.Pure

-- Qyarn
namespace Go.Proofs.YtiomfignokichaaDoor.Pure
open Go Go.RowKit Go.Proofs Go.Proofs.YtiomfignokichaaDoor.X Go.Proofs.YtiomfignokichaaDoorW.PrintWords Go.Proofs.YtiomfignokichaaDoorW.PrintLast
set_option linter.unusedVariables false
set_option linter.unusedSimpArgs false

def tallyB (n : Int) : Bool := decide (0 ≤ n ∧ n ≤ 100000)
def bobB (a : Int) (x : S37) : Bool := decide (1 ≤ x.f0 ∧ x.f0 ≤ a - 1) && (decide (0 ≤ x.f1 ∧ x.f1 ≤ 5) && decide (1 ≤ x.f2 ∧ x.f2 ≤ 100000))
def ascB (l : List S37) (j : Nat) : Bool := decide ((l.getD (j - 1) z37).f0 < (l.getD j z37).f0)
def bobsB (l : List S37) (a : Int) : Bool := l.all (bobB a) && allR (ascB l) 1 (l.length - 1)
def metersM (l : List S37) : Int := (l.map fun x => x.f2).sum
def yarnB (l : List S37) (a b c d : Int) : Bool :=
  (numB a && (tallyB b && (tallyB c && tallyB d))) && (decide (l.length ≤ 8) && (bobsB l a && decide (b = metersM l + c + d)))
theorem sumS_all {k : Nat} {l : List S37} (hk : l.length < k) (hl : l.length ≤ 1000) (hb : ∀ x ∈ l, 0 ≤ x.f2 ∧ x.f2 ≤ 100000) (a b c d : Int) : spec_l21Sum.f k l a b c d (-1) = some (metersM l) := by
  unfold spec_l21Sum.f
  have := sum_loop (fun k acc i => spec_l21Sum.l0 k (-1) acc i l a b c d) (fun x : S37 => x.f2) (fun a => some a) z37 100000 l (by omega) hb
    (fun k acc i h1 h2 h3 => by
      simp only [spec_l21Sum.l0, rdIB_nat]
      have hm : l.getD i z37 ∈ l := by rw [List.getD_eq_getElem?_getD, List.getElem?_eq_getElem h1]; exact List.getElem_mem h1
      have hw := hb _ hm
      rw [if_pos (by omega), if_pos (by trivial), if_pos (by omega), w64 (by omega) (by omega)])
    (fun k acc i h1 => by simp only [spec_l21Sum.l0]; rw [if_neg (by omega)])
    l.length k 0 0 (by omega) hk (by omega) (by omega)
  simpa [metersM] using this
theorem sumI_all {k : Nat} {l : List S37} (hk : l.length < k) (hl : l.length ≤ 1000) (hb : ∀ x ∈ l, 0 ≤ x.f2 ∧ x.f2 ≤ 100000) (a b c d : Int) : impl_YarnStore_sum.f k l a b c d = some (metersM l) := by
  unfold impl_YarnStore_sum.f
  have := sum_loop (fun k acc i => impl_YarnStore_sum.l0 k acc l (l.length : Int) i) (fun x : S37 => x.f2) (fun a => some a) z37 100000 l (by omega) hb
    (fun k acc i h1 h2 h3 => by
      simp only [impl_YarnStore_sum.l0, rdIB_nat]
      have hm : l.getD i z37 ∈ l := by rw [List.getD_eq_getElem?_getD, List.getElem?_eq_getElem h1]; exact List.getElem_mem h1
      have hw := hb _ hm
      rw [if_pos (by omega), if_pos (by omega), if_pos (by omega), w64 (by omega) (by omega)])
    (fun k acc i h1 => by simp only [impl_YarnStore_sum.l0]; rw [if_neg (by omega)])
    l.length k 0 0 (by omega) hk (by omega) (by omega)
  simpa [metersM] using this
theorem bob_m {l : List S37} {a : Int} (h : l.all (bobB a) = true) : ∀ x ∈ l, 0 ≤ x.f2 ∧ x.f2 ≤ 100000 := by
  intro x hx
  have := List.all_eq_true.mp h x hx
  simp only [bobB, Bool.and_eq_true, decide_eq_true_eq] at this
  omega
theorem meters_bd {l : List S37} (hb : ∀ x ∈ l, 0 ≤ x.f2 ∧ x.f2 ≤ 100000) : 0 ≤ metersM l ∧ metersM l ≤ 100000 * l.length := by
  unfold metersM
  induction l with
  | nil => simp
  | cons x l ih =>
    have h1 := hb x List.mem_cons_self
    have h2 := ih (fun y hy => hb y (List.mem_cons_of_mem _ hy))
    rw [List.map_cons, List.sum_cons, List.length_cons]
    push_cast
    omega
theorem bobs_eq (l : List S37) (a : Int) : allR (fun j => bobB a (l.getD j z37) && (decide (j = 0) || ascB l j)) 0 l.length = bobsB l a := by
  unfold bobsB
  rw [Bool.eq_iff_iff, Bool.and_eq_true, allR_iff, allR_iff, all_getD z37]
  constructor
  · intro h
    refine ⟨fun j hj => ?_, fun j h1 h2 => ?_⟩
    · have := h j (by omega) (by omega)
      rw [Bool.and_eq_true] at this; exact this.1
    · have := h j (by omega) (by omega)
      rw [Bool.and_eq_true, Bool.or_eq_true] at this
      rcases this.2 with h3 | h3
      · have := of_decide_eq_true h3; omega
      · exact h3
  · intro h j h1 h2
    rw [Bool.and_eq_true, Bool.or_eq_true]
    refine ⟨h.1 j (by omega), ?_⟩
    by_cases hj : j = 0
    · exact .inl (by simp [hj])
    · exact .inr (h.2 j (by omega) (by omega))
theorem yarnS_eq {k : Nat} {l : List S37} (hk : 20 < k) (hl : l.length ≤ 1073741824) {a b c d : Int} : spec_l21Good.f k l a b c d = some (yarnB l a b c d) := by
  obtain ⟨k, rfl, hk2⟩ := succ_of hk
  simp only [spec_l21Good.f, l1In_eq, Option.bind_some, yarnB, numB, tallyB, spec_l21Good.j0]
  cases ha : decide (1 ≤ a ∧ a ≤ 999)
  · simp
  cases hb : decide (0 ≤ b ∧ b ≤ 100000)
  · simp
  cases hc : decide (0 ≤ c ∧ c ≤ 100000)
  · simp
  cases hd : decide (0 ≤ d ∧ d ≤ 100000)
  · simp
  have ha := of_decide_eq_true ha; have hb := of_decide_eq_true hb; have hc := of_decide_eq_true hc; have hd := of_decide_eq_true hd
  by_cases h8 : (8 : Int) < l.length
  · simp [show ¬ l.length ≤ 8 by omega, h8]
  simp only [show decide ((l.length : Int) > 8) = false by simp; omega, show decide (l.length ≤ 8) = true by simp; omega, if_true, Bool.false_eq_true, if_false, Bool.true_and]
  have h := idx_loop2 (fun k i => spec_l21Good.l0 k i l a b c d) (fun j => bobB a (l.getD j z37) && (decide (j = 0) || ascB l j)) 0 l.length 9 (decide (b = metersM l + c + d)) (by omega)
    (fun k i _ h1 _ => by
      simp only [spec_l21Good.l0, rdIB_nat]
      rw [if_pos (by omega), if_pos (by omega), l1In_eq, w64 (x := a - 1) (by omega) (by omega)]
      simp only [spec_l2Color.f, spec_l21Meters.f, l1In_eq, Option.bind_some]
      have hbob : bobB a (l.getD i z37) = (decide (1 ≤ (l.getD i z37).f0 ∧ (l.getD i z37).f0 ≤ a - 1) && (decide (0 ≤ (l.getD i z37).f1 ∧ (l.getD i z37).f1 ≤ 5) && decide (1 ≤ (l.getD i z37).f2 ∧ (l.getD i z37).f2 ≤ 100000))) := rfl
      obtain ⟨p1, e1⟩ : ∃ p1, decide (1 ≤ (l.getD i z37).f0 ∧ (l.getD i z37).f0 ≤ a - 1) = p1 := ⟨_, rfl⟩
      obtain ⟨p2, e2⟩ : ∃ p2, decide (0 ≤ (l.getD i z37).f1 ∧ (l.getD i z37).f1 ≤ 5) = p2 := ⟨_, rfl⟩
      obtain ⟨p3, e3⟩ : ∃ p3, decide (1 ≤ (l.getD i z37).f2 ∧ (l.getD i z37).f2 ≤ 100000) = p3 := ⟨_, rfl⟩
      rw [hbob, e1, e2, e3]
      clear hbob e1 e2 e3
      cases p1
      · simp
      cases p2
      · simp
      cases p3
      · simp
      by_cases hi : i = 0
      · subst hi; simp
      · simp only [if_true, Bool.true_and]
        rw [if_pos (by omega), w64 (x := (i : Int) - 1) (by omega) (by omega), if_pos (by omega), if_pos (by omega), show (i : Int) - 1 = ((i - 1 : Nat) : Int) by omega, rdIB_nat]
        by_cases hc : (l.getD (i - 1) z37).f0 < (l.getD i z37).f0
        · rw [if_neg (by omega)]; simp only [ascB, hc, decide_true, Bool.or_true, if_true]
        · rw [if_pos (by omega)]; simp only [ascB, hc, decide_false, Bool.or_false, hi, Bool.false_eq_true, if_false])
    (fun hq k hk => by
      have hall : l.all (bobB a) = true := by
        rw [all_getD z37]
        intro j hj
        have := hq j (by omega) hj
        rw [Bool.and_eq_true] at this; exact this.1
      have hm := bob_m hall
      have hs := meters_bd hm
      simp only [spec_l21Good.l0]
      rw [if_neg (by omega), sumS_all (by omega) (by omega) hm]
      simp only [Option.bind_some]
      rw [w64 (x := metersM l + c) (by omega) (by omega), w64 (by omega) (by omega)]
      congr 1)
    l.length k 0 (by omega) (by omega) (by omega) (fun j h1 h2 => by omega)
  refine h.trans (congrArg some ?_)
  rw [bobs_eq]
theorem yarnI_eq {k : Nat} {l : List S37} (hk : l.length + 1 < k) (hl : l.length ≤ 1073741824) {a b c d : Int} : impl_IsYarnStore.f k l a b c d = some (yarnB l a b c d) := by
  obtain ⟨k, rfl, hk2⟩ := succ_of hk
  have hasc : impl_Bobbin__impl_IsYarnStore_2.f (k + 1) l = some (allR (ascB l) 1 (l.length - 1)) := by
    by_cases h0 : l.length = 0
    · simp only [impl_Bobbin__impl_IsYarnStore_2.f, impl_Bobbin__impl_IsYarnStore_2.l0]
      rw [if_neg (by omega), h0]; simp [allR]
    have h := idx_loop (fun k i => impl_Bobbin__impl_IsYarnStore_2.l0 k l i) (ascB l) 1 l.length true (by omega)
      (fun k i h0 h1 => by
        simp only [impl_Bobbin__impl_IsYarnStore_2.l0, impl_IsYarnStore_2.f, Option.bind_some]
        rw [if_pos (by omega), w64 (x := (i : Int) - 1) (by omega) (by omega), if_pos (by omega), if_pos (by omega), show (i : Int) - 1 = ((i - 1 : Nat) : Int) by omega, rdIB_nat, rdIB_nat, if_pos (by omega)]
        by_cases hc : (l.getD (i - 1) z37).f0 < (l.getD i z37).f0
        · rw [if_neg (by omega)]; simp only [ascB, hc, decide_true, if_true]
        · rw [if_pos (by omega)]; simp only [ascB, hc, decide_false, Bool.false_eq_true, if_false])
      (fun k i h1 => by simp only [impl_Bobbin__impl_IsYarnStore_2.l0]; rw [if_neg (by omega)])
      (l.length - 1) (k + 1) 1 (by omega) (by omega) (by omega)
    unfold impl_Bobbin__impl_IsYarnStore_2.f
    rw [show ((1 : Nat) : Int) = 1 from rfl] at h
    rw [h]; simp
  simp only [impl_IsYarnStore.f, hasc, isNumber_eq, Option.bind_some, yarnB, impl_IsYarnStore.j0, impl_isTally.f, in_eq]
  cases ha : numB a
  · simp
  have ha' : 1 ≤ a ∧ a ≤ 999 := of_decide_eq_true ha
  by_cases h8 : (8 : Int) < l.length
  · simp [show ¬ l.length ≤ 8 by omega, h8]
  rw [if_pos rfl, if_neg (by omega)]
  simp only [impl_Bobbin__impl_IsYarnStore_1.f]
  rw [Ho.allO_eq (q := bobB a) (fun x _ => by
    simp only [impl_IsYarnStore_1.f, in_eq, impl_isColor.f, impl_isMeters.f, Option.bind_some, bobB]
    rw [w64 (x := a - 1) (by omega) (by omega)]
    cases decide (1 ≤ x.f0 ∧ x.f0 ≤ a - 1) <;> cases decide (0 ≤ x.f1 ∧ x.f1 ≤ 5) <;> rfl)]
  simp only [Option.bind_some, show decide (l.length ≤ 8) = true by simp; omega, bobsB]
  cases hall : l.all (bobB a)
  · simp
  have hm := bob_m hall
  have hs := meters_bd hm
  cases allR (ascB l) 1 (l.length - 1)
  · simp
  simp only [if_true, Bool.not_true, Bool.false_eq_true, if_false, Bool.true_and]
  show (if tallyB b = true then _ else _) = _
  cases hb : tallyB b
  · simp
  show (if tallyB c = true then _ else _) = _
  cases hc : tallyB c
  · simp
  show (if tallyB d = true then _ else _) = _
  cases hd : tallyB d
  · simp
  have hb := of_decide_eq_true hb; have hc := of_decide_eq_true hc; have hd := of_decide_eq_true hd
  simp only [if_true, Bool.and_self, Bool.true_and]
  rw [sumI_all (by omega) (by omega) hm]
  simp only [Option.bind_some]
  rw [w64 (x := metersM l + c) (by omega) (by omega), w64 (by omega) (by omega)]
  congr 1

end Go.Proofs.YtiomfignokichaaDoor.Pure

-- Qyarntext
namespace Go.Proofs.YtiomfignokichaaDoor.Pure
open Go Go.RowKit Go.Proofs Go.Proofs.YtiomfignokichaaDoor.X Go.Proofs.YtiomfignokichaaDoorW.PrintWords Go.Proofs.YtiomfignokichaaDoorW.PrintLast
set_option linter.unusedVariables false
set_option linter.unusedSimpArgs false

theorem dig_eq {n : Nat} (h : n < 10) : (⟨#[48, 49, 50, 51, 52, 53, 54, 55, 56, 57]⟩ : ByteArray).extract n (n + 1) = ⟨#[UInt8.ofNat (48 + n)]⟩ := by
  have : n = 0 ∨ n = 1 ∨ n = 2 ∨ n = 3 ∨ n = 4 ∨ n = 5 ∨ n = 6 ∨ n = 7 ∨ n = 8 ∨ n = 9 := by omega
  rcases this with rfl | rfl | rfl | rfl | rfl | rfl | rfl | rfl | rfl | rfl <;> decide
theorem digits_len : ∀ (j n : Nat), n < 10 ^ (j + 1) → (Go.Lib.decDigits n).length ≤ j + 1
  | 0, n, h => by rw [Go.Lib.decDigits, dif_pos (by simpa using h)]; simp
  | j + 1, n, h => by
    rw [Go.Lib.decDigits]
    by_cases h10 : n < 10
    · rw [dif_pos h10]; simp
    · rw [dif_neg h10, List.length_append, List.length_singleton]
      have := digits_len j (n / 10) (by rw [Nat.pow_succ] at h; omega)
      omega
def ytDec (n : Int) : ByteArray := ⟨(Go.Lib.decDigits n.toNat).toArray⟩
theorem ytDec_size {n : Int} (h : 0 ≤ n ∧ n ≤ 100000) : (ytDec n).size ≤ 6 := by
  have := digits_len 5 n.toNat (by omega)
  simpa [ytDec, ByteArray.size] using this
theorem num_nat : ∀ (j k n : Nat), n < 10 ^ (j + 1) → n ≤ 1000000 → spec_l1Num.f (k + j + 1) (n : Int) = some ⟨(Go.Lib.decDigits n).toArray⟩ := by
  have small : ∀ (k n : Nat), n < 10 → spec_l1Num.f (k + 1) (n : Int) = some ⟨(Go.Lib.decDigits n).toArray⟩ := fun k n h => by
    rw [spec_l1Num.f, if_neg (by omega), if_pos (by omega), if_pos (by omega), w64 (x := (n : Int) + 1) (by omega) (by omega), if_pos (by omega), if_pos (by omega)]
    rw [show ((n : Int) + 1).toNat = n + 1 by omega, Int.toNat_natCast, dig_eq h, Go.Lib.decDigits, dif_pos h]
  intro j
  induction j with
  | zero => intro k n h _; exact small k n (by simpa using h)
  | succ j ih =>
    intro k n h hm
    by_cases h10 : n < 10
    · exact small _ n h10
    · have e1 : Int.tdiv (n : Int) 10 = ((n / 10 : Nat) : Int) := by rw [Int.tdiv_eq_ediv_of_nonneg (by omega)]; rfl
      have e2 : Int.tmod (n : Int) 10 = ((n % 10 : Nat) : Int) := by rw [Int.tmod_eq_emod_of_nonneg (by omega)]; rfl
      have h1 : n / 10 < 10 ^ (j + 1) := by rw [Nat.pow_succ] at h; omega
      have hs := digits_len (j + 1) n h
      have hd : Go.Lib.decDigits n = Go.Lib.decDigits (n / 10) ++ [UInt8.ofNat (48 + n % 10)] := by rw [Go.Lib.decDigits, dif_neg h10]
      rw [show k + (j + 1) + 1 = (k + j + 1) + 1 by omega, spec_l1Num.f, if_neg (by omega), if_neg (by omega), e1, w64 (x := ((n / 10 : Nat) : Int)) (by omega) (by omega), ih k (n / 10) h1 (by omega), Option.bind_some, e2]
      rw [if_pos (by omega), w64 (x := ((n % 10 : Nat) : Int) + 1) (by omega) (by omega), if_pos (by omega), if_pos (by omega)]
      rw [show (((n % 10 : Nat) : Int) + 1).toNat = n % 10 + 1 by omega, Int.toNat_natCast, dig_eq (by omega)]
      have hl : (⟨(Go.Lib.decDigits (n / 10)).toArray⟩ : ByteArray).size ≤ 1000000 := by
        have h6 := digits_len 6 (n / 10) (by omega)
        have : (⟨(Go.Lib.decDigits (n / 10)).toArray⟩ : ByteArray).size = (Go.Lib.decDigits (n / 10)).length := by simp [ByteArray.size]
        omega
      have hq : (⟨#[UInt8.ofNat (48 + n % 10)]⟩ : ByteArray).size = 1 := rfl
      rw [if_pos (by rw [hq]; omega), hd]
      exact congrArg some (ByteArray.ext (by rw [ByteArray.data_append]; simp))
theorem numS_eq {k : Nat} {n : Int} (h : 0 ≤ n ∧ n ≤ 100000) (hk : 6 < k) : spec_l1Num.f k n = some (ytDec n) := by
  obtain ⟨m, rfl⟩ := nat_of h.1
  obtain ⟨q, rfl⟩ : ∃ q, k = q + 5 + 1 := ⟨k - 6, by omega⟩
  exact num_nat 5 q m (by omega) (by omega)
theorem numI_eq {n : Int} (h : 0 ≤ n ∧ n ≤ 100000) : impl_decimal.f n = some (ytDec n) := by
  rw [impl_decimal.eq_, if_pos (by omega), Go.Lib.itoa, if_neg (by omega)]; rfl
def ytCol (c : Int) : ByteArray := Utf8.encode (97 + c)
theorem ytCol_facts {c : Int} (h : 0 ≤ c ∧ c ≤ 5) : (ytCol c).size = 1 ∧ strOfNums [(wrap64 (97 + c)) % 256] = ytCol c ∧ Utf8.encode (wrap32 (wrap64 (97 + c))) = ytCol c := by
  have e : ∀ d : Int, 97 ≤ d → d ≤ 102 → Utf8.encode d = ⟨#[UInt8.ofNat d.toNat]⟩ := fun d h1 h2 => by
    have hv : Utf8.valid d = true := by unfold Utf8.valid; simp; omega
    simp only [Utf8.encode, hv, if_true]
    rw [if_pos (by omega)]
  rw [w64 (x := 97 + c) (by omega) (by omega), show wrap32 (97 + c) = 97 + c by unfold wrap32; omega, show (97 + c) % 256 = 97 + c by omega]
  refine ⟨?_, ?_, rfl⟩
  · rw [ytCol, e _ (by omega) (by omega)]; rfl
  · rw [ytCol, e _ (by omega) (by omega)]; rfl
def ytW (x : S37) : ByteArray := (ytDec x.f0 ++ ytCol x.f1) ++ ytDec x.f2
def ytT (l : List S37) : Nat → ByteArray
  | 0 => ⟨#[]⟩
  | i + 1 => if i = 0 then ((⟨#[]⟩ ++ ytDec (l.getD i z37).f0) ++ ytCol (l.getD i z37).f1) ++ ytDec (l.getD i z37).f2
    else (((ytT l i ++ (⟨#[32]⟩ : ByteArray)) ++ ytDec (l.getD i z37).f0) ++ ytCol (l.getD i z37).f1) ++ ytDec (l.getD i z37).f2
def ytOk (l : List S37) : Prop := l.length ≤ 8 ∧ ∀ x ∈ l, (0 ≤ x.f0 ∧ x.f0 ≤ 100000) ∧ (0 ≤ x.f1 ∧ x.f1 ≤ 5) ∧ (0 ≤ x.f2 ∧ x.f2 ≤ 100000)
theorem yt_at {l : List S37} (h : ytOk l) {i : Nat} (hi : i < l.length) : (0 ≤ (l.getD i z37).f0 ∧ (l.getD i z37).f0 ≤ 100000) ∧ (0 ≤ (l.getD i z37).f1 ∧ (l.getD i z37).f1 ≤ 5) ∧ (0 ≤ (l.getD i z37).f2 ∧ (l.getD i z37).f2 ≤ 100000) := by
  refine h.2 _ ?_
  rw [List.getD_eq_getElem?_getD, List.getElem?_eq_getElem hi]; exact List.getElem_mem hi
theorem ytT_size {l : List S37} (h : ytOk l) : ∀ i, i ≤ l.length → (ytT l i).size ≤ 20 * i
  | 0, _ => Nat.zero_le _
  | i + 1, hi => by
    obtain ⟨h0, h1, h2⟩ := yt_at h (i := i) (by omega)
    have s0 := ytDec_size h0
    have s1 := (ytCol_facts h1).1
    have s2 := ytDec_size h2
    have ih := ytT_size h i (by omega)
    have e0 : (⟨#[]⟩ : ByteArray).size = 0 := rfl
    have e1 : (⟨#[32]⟩ : ByteArray).size = 1 := rfl
    rw [ytT]
    split <;> simp only [ByteArray.size_append, e0, e1] <;> omega
theorem join_snoc {xs : List (List UInt8)} {y sep : List UInt8} (h : xs ≠ []) : Go.Lib.join (xs ++ [y]) sep = Go.Lib.join xs sep ++ sep ++ y := by
  cases xs with
  | nil => exact absurd rfl h
  | cons x r =>
    rw [List.cons_append, Go.Lib.join_cons, Go.Lib.join_cons]
    simp [Go.Lib.joinTail]
theorem ytT_join {l : List S37} : ∀ i, i ≤ l.length → (ytT l i).data.toList = Go.Lib.join (((l.take i).map ytW).map (·.data.toList)) [32]
  | 0, _ => rfl
  | i + 1, hi => by
    have ih := ytT_join (l := l) i (by omega)
    have hg : l[i]? = some (l.getD i z37) := (List.getElem?_eq_getElem (show i < l.length by omega)).trans (congrArg some (by rw [List.getD_eq_getElem?_getD, List.getElem?_eq_getElem (show i < l.length by omega)]; rfl))
    rw [List.take_add_one, hg, Option.toList_some, List.map_append, List.map_append, List.map_singleton, List.map_singleton, ytT]
    by_cases h0 : i = 0
    · subst h0
      rw [if_pos rfl]
      simp [ytW, Go.Lib.join_one, ByteArray.data_append]
    · rw [if_neg h0, join_snoc (by
        intro e
        have := congrArg List.length e
        simp only [List.length_map, List.length_take, List.length_nil] at this
        omega), ← ih]
      simp [ytW, ByteArray.data_append]
theorem ytS_loop {l : List S37} (h : ytOk l) (a b c d : Int) : ∀ (n k i : Nat), i + n = l.length → n + 20 < k → spec_YarnStoreText.l0 k (ytT l i) (i : Int) l a b c d = some (ytT l l.length, true) := by
  intro n
  induction n with
  | zero =>
    intro k i hi hk
    obtain ⟨k, rfl, _⟩ := succ_of (show 0 < k by omega)
    obtain rfl : i = l.length := by omega
    rw [spec_YarnStoreText.l0, if_neg (by omega)]
  | succ n ih =>
    intro k i hi hk
    obtain ⟨k, rfl, _⟩ := succ_of (show 0 < k by omega)
    have hlt : i < l.length := by omega
    have hl := h.1
    have hk6 : 6 < k := by omega
    have hn := ih k (i + 1) (by omega) (by omega)
    have w1 : wrap64 ((i : Int) + 1) = ((i + 1 : Nat) : Int) := by rw [w64 (by omega) (by omega)]; push_cast; rfl
    have st := ytT_size h i (by omega)
    obtain ⟨h0, h1, h2⟩ := yt_at h hlt
    have n0 := numS_eq (k := k) h0 hk6
    have n2 := numS_eq (k := k) h2 hk6
    have s0 := ytDec_size h0
    obtain ⟨s1, c1, _⟩ := ytCol_facts h1
    have s2 := ytDec_size h2
    have e1 : (⟨#[32]⟩ : ByteArray).size = 1 := rfl
    rw [ytT] at hn
    rw [spec_YarnStoreText.l0]
    simp only [rdIB_nat, n0, n2, w1, Option.bind_some, c1]
    generalize ytDec (l.getD i z37).f0 = A at hn s0 ⊢
    generalize ytDec (l.getD i z37).f2 = B at hn s2 ⊢
    generalize ytCol (l.getD i z37).f1 = C at hn s1 ⊢
    clear n0 n2 c1 h0 h1 h2 ih
    rw [if_pos (by omega), if_pos (by omega)]
    by_cases hz : i = 0
    · subst hz
      rw [if_pos rfl] at hn
      rw [if_neg (by omega)]
      simp only [ytT, ByteArray.size_append] at hn st ⊢
      rw [if_pos (by omega), if_pos (by omega), if_pos (by omega)]
      exact hn
    · rw [if_neg hz] at hn
      rw [if_pos (by omega)]
      simp only [ByteArray.size_append, e1]
      rw [if_pos (by omega), if_pos (by omega), if_pos (by omega), if_pos (by omega)]
      exact hn
theorem ytI_loop {l : List S37} (h : ytOk l) : ∀ (n k i : Nat), i + n = l.length → n < k → impl_YarnStoreText.l0 k ((l.take i).map ytW) l (l.length : Int) (i : Int) = (strings_Join.f (l.map ytW) (⟨#[32]⟩ : ByteArray)).bind fun t => some (t, true) := by
  intro n
  induction n with
  | zero =>
    intro k i hi hk
    obtain ⟨k, rfl, _⟩ := succ_of (show 0 < k by omega)
    obtain rfl : i = l.length := by omega
    rw [impl_YarnStoreText.l0, if_neg (by omega), List.take_length]
  | succ n ih =>
    intro k i hi hk
    obtain ⟨k, rfl, _⟩ := succ_of (show 0 < k by omega)
    have hlt : i < l.length := by omega
    have hl := h.1
    have hn := ih k (i + 1) (by omega) (by omega)
    have w1 : wrap64 ((i : Int) + 1) = ((i + 1 : Nat) : Int) := by rw [w64 (by omega) (by omega)]; push_cast; rfl
    have hg : l[i]? = some (l.getD i z37) := (List.getElem?_eq_getElem (show i < l.length by omega)).trans (congrArg some (by rw [List.getD_eq_getElem?_getD, List.getElem?_eq_getElem (show i < l.length by omega)]; rfl))
    have hw : ((l.take i).map ytW).length ≤ 8 := by rw [List.length_map, List.length_take]; omega
    rw [List.take_add_one, hg, Option.toList_some, List.map_append, List.map_singleton] at hn
    have ew : ytW (l.getD i z37) = (ytDec (l.getD i z37).f0 ++ ytCol (l.getD i z37).f1) ++ ytDec (l.getD i z37).f2 := rfl
    rw [ew] at hn
    obtain ⟨h0, h1, h2⟩ := yt_at h hlt
    have n0 := numI_eq h0
    have n2 := numI_eq h2
    have s0 := ytDec_size h0
    obtain ⟨s1, _, c2⟩ := ytCol_facts h1
    have s2 := ytDec_size h2
    rw [impl_YarnStoreText.l0]
    simp only [rdIB_nat, n0, n2, w1, Option.bind_some, c2]
    generalize ytDec (l.getD i z37).f0 = A at hn s0 ⊢
    generalize ytDec (l.getD i z37).f2 = B at hn s2 ⊢
    generalize ytCol (l.getD i z37).f1 = C at hn s1 ⊢
    generalize (l.take i).map ytW = X at hn hw ⊢
    clear n0 n2 c2 h0 h1 h2 ih ew
    simp only [ByteArray.size_append]
    rw [if_pos (by omega), if_pos (by omega), if_pos (by omega), if_pos (by omega), if_pos (by omega), if_pos (by omega)]
    exact hn
def ytM (l : List S37) (a b c d : Int) : ByteArray × Bool := if yarnB l a b c d then (if l.length = 0 then (⟨#[101, 109, 112, 116, 121]⟩, true) else (ytT l l.length, true)) else (⟨#[]⟩, false)
theorem yt_ok {l : List S37} {a b c d : Int} (h : yarnB l a b c d = true) : ytOk l := by
  simp only [yarnB, bobsB, tallyB, numB, Bool.and_eq_true, decide_eq_true_eq, List.all_eq_true, bobB] at h
  refine ⟨by omega, fun x hx => ?_⟩
  have h1 : (1 ≤ x.f0 ∧ x.f0 ≤ a - 1) ∧ (0 ≤ x.f1 ∧ x.f1 ≤ 5) ∧ (1 ≤ x.f2 ∧ x.f2 ≤ 100000) := by
    simp_all
  omega
theorem ytS_eq {k : Nat} {l : List S37} {a b c d : Int} (hk : 60 < k) (hl : l.length ≤ 1073741824) : spec_YarnStoreText.f k l a b c d = some (ytM l a b c d) := by
  simp only [spec_YarnStoreText.f, yarnS_eq (k := k) (l := l) (a := a) (b := b) (c := c) (d := d) (by omega) hl, Option.bind_some, ytM]
  cases hb : yarnB l a b c d
  · simp
  · simp only [if_true]
    have ho := yt_ok hb
    have h8 := ho.1
    by_cases h0 : l.length = 0
    · rw [if_pos (by omega), if_pos h0]
    · rw [if_neg (by omega), if_neg h0]
      exact ytS_loop ho a b c d l.length k 0 (by omega) (by omega)
theorem ytI_eq {k : Nat} {l : List S37} {a b c d : Int} (hk : l.length + 1 < k) (hl : l.length ≤ 1073741824) : impl_YarnStoreText.f k l a b c d = some (ytM l a b c d) := by
  simp only [impl_YarnStoreText.f, yarnI_eq (k := k) (l := l) (a := a) (b := b) (c := c) (d := d) hk hl, Option.bind_some, ytM]
  cases hb : yarnB l a b c d
  · simp
  · simp only [if_true]
    have ho := yt_ok hb
    have h8 := ho.1
    by_cases h0 : l.length = 0
    · rw [if_pos (by omega), if_pos h0]
    · rw [if_neg (by omega), if_neg h0]
      have e := ytI_loop ho l.length k 0 (by omega) (by omega)
      rw [List.take_zero, List.map_nil] at e
      have hj := ytT_join (l := l) l.length (Nat.le_refl _)
      rw [List.take_length] at hj
      have hs := ytT_size ho l.length (Nat.le_refl _)
      have hs2 : (ytT l l.length).size = (Go.Lib.join ((l.map ytW).map (·.data.toList)) [32]).length := by rw [← hj, Array.length_toList]; rfl
      refine e.trans ?_
      have e32 : (⟨#[32]⟩ : ByteArray).data.toList = [32] := rfl
      rw [strings_Join.f, e32, if_pos ⟨by rw [List.length_map]; omega, by omega⟩, Option.bind_some]
      congr 2
      exact ByteArray.ext (by rw [← hj])

end Go.Proofs.YtiomfignokichaaDoor.Pure

-- PureFnExactYarnStoreText
namespace Go.Proofs.YtiomfignokichaaDoor.Pure
open Go Go.RowKit Go.Proofs Go.Proofs.YtiomfignokichaaDoor.X Go.Proofs.YtiomfignokichaaDoorW.PrintWords Go.Proofs.YtiomfignokichaaDoorW.PrintLast
set_option linter.unusedVariables false
set_option linter.unusedSimpArgs false

theorem FnExactYarnStoreText : laws_FnExactYarnStoreText.Pure := by
  intro l a b c d hl _ _ _ _
  refine ⟨2000001, ?_⟩
  simp only [laws_FnExactYarnStoreText.f, szYarn_eq hl.1 (show (0 : Int) ≤ 1048576 ∧ (1048576 : Int) ≤ 9223372036854775807 by omega), Option.bind_some]
  by_cases hs : (1048576 : Int) < l.length
  · simp [hs]
  rw [if_neg hs, if_neg (by omega)]
  have h1 : l.length ≤ 1048576 := by omega
  have h2 : (l.map toB).length ≤ 1048576 := by rw [List.length_map]; exact h1
  simp only [toYarn_eq (k := 2000001) (l := l) (by omega) h1, Option.bind_some, ytS_eq (k := 2000001) (l := l.map toB) (by omega) (by omega), ytI_eq (k := 2000001) (l := l.map toB) (by omega) (by omega), if_true, bne_self_eq_false, laws_FnExactYarnStoreText.j0, Bool.false_eq_true, if_false, toYarn_eq (k := 2000000) (l := l) (by omega) h1, eqYarn_refl (k := 2000000) (l := l.map toB) (by omega) (by omega)]

end Go.Proofs.YtiomfignokichaaDoor.Pure
